/-
  Joined texts, 9 of 10. A part of the claim that the last text states.
-/
import Derived.Test.YtohnaffmcjbpoaaGreatPT8
set_option linter.unusedVariables false
set_option linter.unusedSimpArgs false
set_option linter.defProp false
set_option linter.unusedSectionVars false
set_option maxRecDepth 100000
set_option maxHeartbeats 4000000
namespace Go.Proofs.YtohnaffmcjbpoaaGreat.Fn
open Go.AM Go.AM.Sym Go.Net Go.Flow
theorem Nx3 {PL:List (Int×Int)} {R:Nat->Bool} {p:Int}:U1 PL R p 2=-1:=by simp [U1]
theorem Nx2 {PL:List (Int×Int)} {R:Nat->Bool} {p to:Int} (h:PlR PL to):(tmT PL R p).getD (-1)=U1 PL R p PL.length:=by
 unfold tmT
 rcases XK (R:=R) (p:=p) (fun v a b=>(h.no v a b).2.2) (Ng PL.length) with ⟨e,_⟩ | ⟨b,e,b1,b2,_⟩
 ·rw [e];rfl
 ·have:=(h.no b b1 b2).2.2
  rw [e,Nh this];rfl
structure BD (fr:Nat->Value) (B4 B8 B11 B14:Nat) (v13:Value):Prop where
 f4:fr 4=Vp B4
 f8:fr 8=Vp B8
 f11:fr 11=Vp B11
 f13:fr 13=v13
 f14:fr 14=Vp B14
section
variable {lim B4 B8 B11 B14 np cn nl cl cp ch i:Nat} {pn pl pp ph:Option Addr} {y z w:Value} {P:List Int} {PL:List (Int×Int)} {hw:List (Option Nat)} {q:List Nat} {l:List Pr} {to:Int} {G:NA} {fr:Nat->Value} {K:List AItem} {Q:Value->NA->Prop}
theorem Npf [OB] (A:Rch l PL.length hw q q.length 0) (h2:2<=PL.length) (W:PL.length<2 ^ 21) (hP:PlR PL to) (V:NC G B4=Vc (netV pn P.length cn pl nl cl)) (T:NC G B11=Vc (Ta (.slice pp PL.length cp) y z w)) (sP:Sl G encI 1 pn P) (sp:Sl G enc2 2 pp PL) (sh:Sl G Xo 2 ph hw) (hi:i<P.length)
  (hf:BD fr B4 B8 B11 B14 (.slice ph PL.length ch)) (f15:fr 15=Vi i) (f16:fr 16=Vi (-1)) (f17:fr 17=Vi 2)
  (Y:∀fr' G',BD fr' B4 B8 B11 B14 (.slice ph PL.length ch)->fr' 15=Vi i->fr' 16=Vi (U1 PL (fun v=>decide (v∈q)) (gt P i) PL.length)->NZ G G'->PQ E a29 lim K fr' G' Q) :
  PQ E a29 lim (.code (.loop Nvr)::.inBlock 2::K) fr G Q:=by
 refine NL (fun k=>PL.length-k) (fun k p G'=>2<=k/\k<=PL.length/\BD p B4 B8 B11 B14 (.slice ph PL.length ch)/\p 15=Vi i/\p 16=Vi (U1 PL (fun v=>decide (v∈q)) (gt P i) k)/\p 17=Vi k/\NZ G G') 2 ⟨Ng _,h2,hf,f15,by rw [Nx3];exact f16,f17,.refl⟩ ?_
 intro k p G' ⟨H,hk,⟨s,D,a,d,m⟩,b,f,n,r⟩ F
 rw [NP Nvr.eq_1]
 refine NI ?_
 have g:=fun Z=>(r.app (X:=Z)).cells T
 have I:=fun Z=>(r.app (X:=Z)).cells V
 unfold Ta at g
 by_cases c:k<PL.length
 case neg=>
  obtain rfl:k=PL.length:=by omega
  simp only [n29,a,n,g,SB,seval,NG,NF]
  exact Y _ _ ⟨s,D,a,d,m⟩ b f r.app
 have U:=A.len
 have B:=r.sl sp
 have L:=r.sl sP
 have M:=r.sl sh
 have l0:∀Z,AM.loadCell (G'++Z) ((Tk pp 2 k).add 0)=some (Vi (gt PL k).1):=fun Z=>(B.app Z).loadCell PN c (j:=0) (by decide)
 have l1:∀Z,AM.loadCell (G'++Z) ((Tk pp 2 k).add 1)=some (Vi (gt PL k).2):=fun Z=>(B.app Z).loadCell PN c (j:=1) (by decide)
 have S:=QM B c rfl
 have J:∀Z,AM.loadCell (G'++Z) (Tk pn 1 i)=some (Vi (gt P i)):=fun Z=>(L.app Z).loadCell0 PG hi (by decide)
 have R:=QM L hi rfl
 have C:∀Z,AM.loadCell (G'++Z) ((Tk ph 2 k).add 0)=some (Vi (XF (gt hw k))):=fun Z=>(M.app Z).loadCell RN (i:=k) (by omega) (j:=0) (by decide)
 have O:=QM M (i:=k) (by omega) rfl
 rw [U] at O
 have N:IntKind.i64.wrap ((k:Int)+1)=((k+1:Nat):Int):=NS (by omega)
 have u:U1 PL (fun v=>decide (v∈q)) (gt P i) (k+1)=if 2<=k/\(gt PL k).1=gt P i/\decide (k∈q)=true/\(U1 PL (fun v=>decide (v∈q)) (gt P i) k<0\/(gt PL k).2<U1 PL (fun v=>decide (v∈q)) (gt P i) k) then (gt PL k).2 else U1 PL (fun v=>decide (v∈q)) (gt P i) k:=rfl
 obtain ⟨t,ht⟩:∃t,t=U1 PL (fun v=>decide (v∈q)) (gt P i) k:=⟨_,rfl⟩
 rw [<-ht] at u f
 by_cases c1:(gt PL k).1=gt P i
 case neg=>
  simp only [n29,s,a,b,n,g,I,QA,c,l0,S,J,R,N,Nm c1,SB,seval,NG,NF]
  refine F (k+1) _ _ ⟨by omega,by omega,⟨s,D,a,d,m⟩,b, ?_,rfl,r.app⟩ (by omega)
  rw [u,Nf fun h=>c1 h.2.1];exact f
 by_cases c2:k∈q
 case neg=>
  have hz:gt hw k=none:=by
   cases e:gt hw k with
   | none=>rfl
   | some x=>exact absurd ((A.iff k c).1 (by rw [e];rfl)) c2
  rw [hz] at C
  have o:¬0<=XF none:=by show ¬(0:Int)<=-1;decide
  simp only [n29,s,a,d,b,n,g,I,QA,c,l0,S,J,R,N,Nq c1,C,O,Nm o,SB,seval,NG,NF]
  refine F (k+1) _ _ ⟨by omega,by omega,⟨s,D,a,d,m⟩,b, ?_,rfl,r.app⟩ (by omega)
  rw [u,Nf fun h=>c2 (Ru h.2.2.1)];exact f
 obtain ⟨x,hx⟩:∃x,gt hw k=some x:=Option.isSome_iff_exists.1 ((A.iff k c).2 c2)
 rw [hx] at C
 have o:0<=XF (some x):=by show (0:Int)<=((x / 2:Nat):Int);omega
 by_cases c3:t<0
 ·rw [Nh ⟨H,c1,No c2,.inl c3⟩] at u
  simp only [n29,s,a,d,b,f,n,g,I,QA,c,l0,S,J,R,N,Nq c1,C,O,Nq o,Nq c3,l1,SB,seval,NG,NF]
  refine F (k+1) _ _ ⟨by omega,by omega,⟨s,D,a,d,m⟩,b, ?_,rfl,r.app⟩ (by omega)
  rw [u];exact rfl
 by_cases c4:(gt PL k).2<t
 ·rw [Nh ⟨H,c1,No c2,.inr c4⟩] at u
  simp only [n29,s,a,d,b,f,n,g,I,QA,c,l0,S,J,R,N,Nq c1,C,O,Nq o,Nm c3,l1,Nq c4,SB,seval,NG,NF]
  refine F (k+1) _ _ ⟨by omega,by omega,⟨s,D,a,d,m⟩,b, ?_,rfl,r.app⟩ (by omega)
  rw [u];exact rfl
 ·rw [Nf fun h=>h.2.2.2.elim c3 c4] at u
  simp only [n29,s,a,d,b,f,n,g,I,QA,c,l0,S,J,R,N,Nq c1,C,O,Nq o,Nm c3,l1,Nm c4,SB,seval,NG,NF]
  refine F (k+1) _ _ ⟨by omega,by omega,⟨s,D,a,d,m⟩,b, ?_,rfl,r.app⟩ (by omega)
  rw [u];exact f
theorem Nhz [OB] {G0:NA} (aa:Rch l PL.length hw q q.length 0) (h2:2<=PL.length) (Y:PL.length<2 ^ 21) (hP:PlR PL to) (an:P.length<2 ^ 20) (h4:NC G0 B4=Vc (netV pn P.length cn pl nl cl)) (U:NC G0 B11=Vc (Ta (.slice pp PL.length cp) y z w)) (sP:Sl G0 encI 1 pn P) (sp:Sl G0 enc2 2 pp PL) (sh:Sl G0 Xo 2 ph hw) (H:lim<=G0.length)
  (hf:BD fr B4 B8 B11 G0.length (.slice ph PL.length ch)) (f15:fr 15=Vi 0) (hC:Chg [] G0 G) (hb:NC G G0.length=Vc [Vz,Vz]) (ah:G0.length+1<=G.length)
  (hR:∀fr' G' pt ct,BD fr' B4 B8 B11 G0.length (.slice ph PL.length ch)->Own (G0.length+1) G' encI 1 pt ct (Sm (tmT PL (fun v=>decide (v∈q))) P)->NC G' G0.length=Vc [.slice pt P.length ct,Vz]->Chg [] G0 G'->G0.length+1<=G'.length->PQ E a29 lim K fr' G' Q) :
  PQ E a29 lim (.code (.loop Nvq)::.inBlock 0::K) fr G Q:=by
 obtain ⟨c,o⟩:∃c,c=Sm (tmT PL (fun v=>decide (v∈q))) P:=⟨_,rfl⟩
 have ao:c.length=P.length:=by rw [o];unfold Sm;simp
 have ac:∀i,i<P.length->gt c i=U1 PL (fun v=>decide (v∈q)) (gt P i) PL.length:=fun i hi=>by
  rw [o,Nwh hi,Nx2 hP]
 rw [<-o] at hR
 refine NL (fun z:Nat×Option Addr×Nat=>P.length-z.1) (fun z k G'=>z.1<=P.length/\BD k B4 B8 B11 G0.length (.slice ph PL.length ch)/\k 15=Vi z.1/\Own (G0.length+1) G' encI 1 z.2.1 z.2.2 (c.take z.1)/\NC G' G0.length=Vc [.slice z.2.1 z.1 z.2.2,Vz]/\Chg [] G0 G'/\G0.length+1<=G'.length) (0,none,0)
  ⟨Nx _,hf,f15,by rw [P8];exact .nil,hb,hC,ah⟩ ?_
 rintro ⟨j,pt,ct⟩ k G' ⟨hj,⟨N,q8,I,J,L⟩,g,M,p,d,ak⟩ hN
 simp only at hj g M p
 rw [NP Nvq.eq_1]
 have k4:=fun Z=>(NZ.refl.app (X:=Z)).cells (d.cells h4 (by simp))
 refine NI ?_
 by_cases r:j<P.length
 case neg=>
  obtain rfl:j=P.length:=by omega
  simp only [n29,N,g,k4,QA,SB,seval,NG,NF]
  rw [Ol (by omega)] at M
  exact hR _ _ pt ct ⟨N,q8,I,J,L⟩ (M.app _) ((NZ.refl.app).cells p) d.app (by simp;omega)
 simp only [n29,N,g,k4,QA,r,SB,seval,NG,NF]
 refine Npf (i:=j) aa h2 Y hP (k4 _) ((NZ.refl.app).cells (d.cells U (by simp))) ((d.ext.sl sP).app _) ((d.ext.sl sp).app _) ((d.ext.sl sh).app _) r ⟨N,q8,I,J,L⟩ g rfl rfl fun am s ae T u W=>?_
 obtain ⟨g4,g8,R,S,t⟩:=ae
 rw [<-ac j r] at u
 have f:NZ G' s:=NZ.trans (NZ.refl.app) W
 have ap:=f.len
 have n:Own (G0.length+1) s encI 1 pt ct (c.take j):=M.chg (A:=[]) f.chg fun _ _ h=>by cases h
 have C:=f.cells p
 have V:=d.trans f.chg
 have F:(c.take j).length=j:=by rw [N6];omega
 have w1:IntKind.i64.wrap ((j:Int)+1)=((j+1:Nat):Int):=NS (by omega)
 obtain ⟨G4,O,O4,C4,ag⟩:=Own.moreF n (lim':=lim) (bytes:=8) (by omega) PG (by decide) [gt c j] (by simp) (by simp;unfold OT;omega) (by simp;omega) [Vc [Vi (gt c j)]] (x:=.slice (Sa s.length) 1 1) (str:=false)
  (QH (m:=[gt c j]) (Sl.row (ro:=false) PG NQ)) rfl
 rw [F] at O
 simp only [Nb,Nk,Nl,Ny] at O O4 ag
 have aj:G0.length∉QC pt:=fun hm=>by
  obtain ⟨a,B,e⟩:=NU.1 hm
  have:=(n.block B).1;omega
 have D:=C4.cells C aj
 obtain ⟨G5,e5,k5,m5⟩:=OO (ND D) (Vc [.slice (Sa (s.length+1)) (j+1) (loose 1),Vz])
 have aq:=m5.len
 have k3:=fun Z=>(NZ.refl.app (X:=Z)).cells C
 have ai:=fun Z=>(NZ.refl.app (X:=Z)).cells D
 refine NI ?_
 simp only [n29,t,T,u,k3,O,ai,e5,H,w1,SB,seval,NG,NF,place,NB]
 refine hN (j+1,Sa (s.length+1),loose 1) _ _ ⟨by show j+1<=_;omega,⟨g4,g8,R,S,t⟩,rfl, ?_,(NZ.refl.app).cells k5, ?_,by simp;omega⟩ (by show P.length-(j+1)<P.length-j;omega)
 ·show Own (G0.length+1) (G5++[]) encI 1 _ _ (c.take (j+1))
  rw [QI (by omega)]
  exact ((O4.le (by omega)).mut m5 fun a B e=>by cases B;simp only at e;omega).app _
 ·refine (Chg.mut ⟨by omega,fun b ad _=>?_⟩ m5 (.inr (Ng _))).app
  rw [C4.other b (by omega) fun hm=>by
   obtain ⟨a,B,rfl⟩:=NU.1 hm
   have:=(n.block B).1;omega]
  exact V.other b ad (by simp)
end
theorem Nrq {T:Int->Option Int} {C:List (Leg×Int)} {j:Nat} (h:j<C.length):TF T (C.take (j+1))=TF T (C.take j)++(if WO T (gt C j)=true then [Tv (gt C j)] else []):=by
 unfold TF
 rw [QI h,List.filter_append,Pi]
 congr 1
 by_cases a:WO T (gt C j)=true
 ·rw [Nh a,Q7 a];rfl
 ·rw [Nf a,Q8 a];rfl
section
variable {lim B4 B8 B11 cp ch ca cq:Nat} {pp ph pa pq:Option Addr} {y:Value} {PL:List (Int×Int)} {hw:List (Option Nat)} {q:List Nat} {l:List Pr} {C:List (Leg×Int)} {T:Int->Option Int} {to:Int} {G:NA} {fr:Nat->Value} {K:List AItem} {Q:Value->NA->Prop}
theorem Njh [OB] {G0:NA} {nt:Nat} {pt:Option Addr} {ct:Nat} {TL:List Int} (F:Rch l PL.length hw q q.length 0) (a1:PL.length<2 ^ 21) (a0:C.length<2 ^ 20) (a5:C.length<=l.length)
  (ak:∀j,j<C.length->(gt l j).tail<PL.length/\(gt l j).head<PL.length/\WO T (gt C j)=(decide ((gt l j).tail∈q)&&!decide ((gt l j).head∈q)))
  (ah:NC G0 B11=Vc (Ta (.slice pp PL.length cp) (.slice pa l.length ca) y (.slice pq C.length cq))) (sa:Sl G0 Sz 4 pa l) (sq:Sl G0 QJ 4 pq (C.map Tv)) (sh:Sl G0 Xo 2 ph hw) (V:lim<=G0.length)
  (hf:BD fr B4 B8 B11 G0.length (.slice ph PL.length ch)) (f18:fr 18=Vi 0) (hC:Chg [] G0 G) (ai:Own (G0.length+1) G encI 1 pt ct TL) (hb:NC G G0.length=Vc [.slice pt nt ct,Vz]) (an:G0.length+1<=G.length)
  (hR:∀fr' G' pd cd,BD fr' B4 B8 B11 G0.length (.slice ph PL.length ch)->Own (G0.length+1) G' encI 1 pt ct TL->Own (G0.length+1) G' QJ 4 pd cd (TF T C)->NC G' G0.length=Vc [.slice pt nt ct,.slice pd (TF T C).length cd]->Chg [] G0 G'->G0.length+1<=G'.length->PQ E a29 lim K fr' G' Q) :
  PQ E a29 lim (.code (.loop Nof)::.inBlock 4::K) fr G Q:=by
 refine NL (fun z:Nat×Option Addr×Nat=>C.length-z.1) (fun z B G'=>z.1<=C.length/\BD B B4 B8 B11 G0.length (.slice ph PL.length ch)/\B 18=Vi z.1/\Own (G0.length+1) G' encI 1 pt ct TL/\Own (G0.length+1) G' QJ 4 z.2.1 z.2.2 (TF T (C.take z.1))/\(∀b∈QC pt,b∉QC z.2.1)/\NC G' G0.length=Vc [.slice pt nt ct,.slice z.2.1 (TF T (C.take z.1)).length z.2.2]/\Chg [] G0 G'/\G0.length+1<=G'.length) (0,none,0)
  ⟨Nx _,hf,f18,ai,by rw [P8];exact .nil,fun b _=>by simp [QC],hb,hC,an⟩ ?_
 rintro ⟨j,pd,cd⟩ B G' ⟨hj,⟨q4,q8,g,n,t⟩,u,f,D,J,p,k,az⟩ hN
 simp only at hj u D J p
 rw [NP Nof.eq_1]
 have s:=fun Z=>(NZ.refl.app (X:=Z)).cells (k.cells ah (by simp))
 unfold Ta at s
 refine NI ?_
 by_cases r:j<C.length
 case neg=>
  obtain rfl:j=C.length:=by omega
  simp only [n29,g,u,s,SB,seval,NG,NF]
  rw [Of] at D p
  exact hR _ _ pd cd ⟨q4,q8,g,n,t⟩ (f.app _) (D.app _) ((NZ.refl.app).cells p) k.app (by simp;omega)
 obtain ⟨w,M,i3⟩:=ak j r
 obtain ⟨v1,aa⟩:∃v,v=(gt l j).tail:=⟨_,rfl⟩
 obtain ⟨v2,ac⟩:∃v,v=(gt l j).head:=⟨_,rfl⟩
 rw [<-aa] at w i3
 rw [<-ac] at M i3
 have ao:=F.len
 have O:=k.ext.sl sa
 have ag:=k.ext.sl sq
 have ae:=k.ext.sl sh
 have ap:(C.map Tv).length=C.length:=by simp
 have N:∀Z,AM.loadCell (G'++Z) ((Tk pa 4 j).add 0)=some (Vi v1):=fun Z=>by
  rw [aa];exact (O.app Z).loadCell QE (i:=j) (by omega) (j:=0) (by decide)
 have ad:∀Z,AM.loadCell (G'++Z) ((Tk pa 4 j).add 1)=some (Vi v2):=fun Z=>by
  rw [ac];exact (O.app Z).loadCell QE (i:=j) (by omega) (j:=1) (by decide)
 have xa:=QM O (i:=j) (by omega) rfl
 have lh:∀v,v<PL.length->∀Z,AM.loadCell (G'++Z) ((Tk ph 2 v).add 0)=some (Vi (XF (gt hw v))):=fun v Y Z=>(ae.app Z).loadCell RN (i:=v) (by omega) (j:=0) (by decide)
 have xh:∀v,v<PL.length->∀(c:Nat) (kk:IntKind) (H1:NA),Wx 2 (.slice ph PL.length c) (.int kk (v:Int)) H1=some (.pointer (some (Tk ph 2 v)),H1):=fun v Y=>by
  have:=QM ae (i:=v) (by omega) rfl
  rw [ao] at this;exact this
 have P:∀v,v<PL.length->v∈q->0<=XF (gt hw v):=fun v Y L=>by
  obtain ⟨x,hx⟩:=Option.isSome_iff_exists.1 ((F.iff v Y).2 L)
  rw [hx];show (0:Int)<=((x / 2:Nat):Int);omega
 have no:∀v,v<PL.length->v∉q->XF (gt hw v)<0:=fun v Y L=>by
  cases e:gt hw v with
  | none=>show (-1:Int)<0;decide
  | some x=>exact absurd ((F.iff v Y).1 (by rw [e];rfl)) L
 have w1:IntKind.i64.wrap ((j:Int)+1)=((j+1:Nat):Int):=NS (by omega)
 have a2:(TF T (C.take j)).length<=j:=by
  have:=Nc7 (T:=T) (C:=C.take j)
  rw [N6] at this;omega
 have es:=Nrq (T:=T) r
 have skip:WO T (gt C j)=false->∀A Z,BD A B4 B8 B11 G0.length (.slice ph PL.length ch)->A 18=Vi ((j+1:Nat):Int)->PQ E a29 lim (.inLoop Nof::.inBlock 4::K) A (G'++Z) Q:=fun ho A Z aj f3=>by
  rw [ho,Nf (by simp),Na] at es
  exact hN (j+1,pd,cd) _ _ ⟨by show j+1<=_;omega,aj,f3,f.app _,by show Own _ _ QJ 4 pd cd (TF T (C.take (j+1)));rw [es];exact D.app _,J,by show NC _ _=Vc [_,.slice pd (TF T (C.take (j+1))).length cd];rw [es];exact (NZ.refl.app).cells p,k.app,by simp;omega⟩ (by show C.length-(j+1)<C.length-j;omega)
 by_cases c1:v1∈q
 case neg=>
  have aq:¬0<=XF (gt hw v1):=by have:=no v1 w c1;omega
  simp only [n29,g,n,u,s,r,N,xa,lh _ w,xh _ w,w1,Nm aq,SB,seval,NG,NF]
  exact skip (by rw [i3,Nw c1];rfl) _ _ ⟨q4,q8,g,n,t⟩ rfl
 by_cases c2:v2∈q
 ·have au:¬XF (gt hw v2)<0:=by have:=P v2 M c2;omega
  simp only [n29,g,n,u,s,r,N,ad,xa,lh _ w,xh _ w,lh _ M,xh _ M,w1,Nq (P v1 w c1),Nm au,SB,seval,NG,NF]
  exact skip (by rw [i3,No c1,No c2];rfl) _ _ ⟨q4,q8,g,n,t⟩ rfl
 have ho:WO T (gt C j)=true:=by rw [i3,No c1,Nw c2];rfl
 rw [ho,Nh rfl] at es
 have lD:∀Z,AM.loadCells (G'++Z) (Tk pq 4 j) 4=some (QJ (Tv (gt C j))):=fun Z=>by
  have:=(ag.app Z).loadCells NV (i:=j) (by omega)
  rw [OI (by omega),Q1,<-OI r] at this;exact this
 have xD:=QM ag (i:=j) (by omega) rfl
 rw [ap] at xD
 obtain ⟨G3,p3,c3,e3,O3,C3,S,am,av,_⟩:=D.moreD (lim':=lim) (d:=G'.length+1) (bytes:=32) (by omega) NV (by decide) [Tv (gt C j)] (by simp;unfold OT;omega) (by simp;omega) (by omega) [Vc (QJ (Tv (gt C j))),.dead] (by omega) (by simp) (x:=.slice (Sa G'.length) 1 1) (str:=false)
  (QH (m:=[Tv (gt C j)]) (Sl.row (ro:=false) NV (by rw [NQ];simp))) rfl
 have W:=av (by simp)
 subst W
 simp only [Nk,Nl,Ny] at e3 O3 S am
 have ay:G0.length∉QC pd:=fun L=>by
  obtain ⟨a,o,e⟩:=NU.1 L
  have:=(D.block o).1;omega
 have I:=(S G0.length (by omega) fun a o e=>ay (NU.2 ⟨a,o,e.symm⟩)).trans p
 rw [Na] at I O3 S C3
 obtain ⟨G5,e5,k5,m5⟩:=OO (ND I) (Vc [.slice pt nt ct,.slice (Sa (G'.length+1)) ((TF T (C.take j)).length+1) c3])
 have a4:=m5.len
 have kb:=fun Z=>(NZ.refl.app (X:=Z)).cells p
 have aw:=fun Z=>(NZ.refl.app (X:=Z)).cells I
 simp only [n29,g,n,t,u,s,r,N,ad,xa,lh _ w,xh _ w,lh _ M,xh _ M,w1,Nq (P v1 w c1),Nq (no v2 M c2),kb,lD,xD,NV,e3,aw,e5,NM,V,SB,seval,NG,NF,place,NB]
 refine hN (j+1,Sa (G'.length+1),c3) _ _ ⟨by show j+1<=_;omega,⟨q4,q8,g,n,t⟩,rfl, ?_, ?_,fun b H L=>?_, ?_, ?_,by simp;omega⟩ (by show C.length-(j+1)<C.length-j;omega)
 ·have U:Own (G0.length+1) G3 encI 1 pt ct TL:=by
   rcases f with h | ⟨R,h1,h2,h3,h4⟩
   ·exact .inl h
   ·exact .inr ⟨R,h1,h2,by rw [S R (ND h3) fun a o e=>J R (NU.2 ⟨_,h1,rfl⟩) (NU.2 ⟨a,o,e.symm⟩)];exact h3,h4⟩
  exact (U.mut m5 fun a o e=>by have:=(f.block o).1;omega).app _
 ·show Own _ _ QJ 4 _ _ (TF T (C.take (j+1)))
  rw [es]
  exact (O3.mut m5 fun a o e=>by cases o;simp only at e;omega).app _
 ·simp only [QC,Nj] at L
  obtain ⟨a,o,e⟩:=NU.1 H
  have:=(f.block o).2;omega
 ·show NC _ _=Vc [_,.slice _ (TF T (C.take (j+1))).length _]
  rw [es,Nb,Ow]
  exact (NZ.refl.app).cells k5
 ·refine (Chg.mut ⟨by omega,fun b H _=>?_⟩ m5 (.inr (Ng _))).app
  rw [S b (by omega) fun a o e=>by have:=(D.block o).1;omega]
  exact k.other b H (by simp)
end
theorem N1q {PL:List (Int×Int)} {to dl:Int} {s:List Flow.Src} {C:List (Leg×Int)} {l:List Pr} {q:List Nat} {T:Int->Option Int} (a:GrR PL to dl s C) (n:Flow.Alike (grR PL to dl s C) l) (d:T to=none) (h1:1∉q) (g:∀v,2<=v->v<PL.length->decide (v∈q)=!late T (gt PL v).1 (gt PL v).2) {j:Nat} (b:j<C.length) :
  (gt l j).tail<PL.length/\(gt l j).head<PL.length/\WO T (gt C j)=(decide ((gt l j).tail∈q)&&!decide ((gt l j).head∈q)):=by
 obtain ⟨e1,e2⟩:=n.gts j
 have m:gt (grR PL to dl s C) j=XB PL to (gt C j):=by
  unfold grR
  rw [Nr,Sk (by simpa using b),OI (by simpa using b),OI b,Q1]
 rw [e1,e2,m]
 obtain ⟨⟨r,o,p⟩,i⟩:=a.way _ (PW b)
 obtain ⟨k,c,a3⟩:=a.pl.at o p
 have f:=g _ k c
 rw [a3] at f
 show PL.idxOf _<PL.length/\X5 PL to _ _<PL.length/\_=(decide (PL.idxOf _∈q)&&!decide (X5 PL to _ _∈q))
 have h2:=a.pl.two
 unfold WO X5
 by_cases e:(gt C j).1.dst=to
 ·rw [Nh e,f,Nw h1]
  refine ⟨c,by omega, ?_⟩
  have:late T (gt C j).1.dst ((gt C j).2+(gt C j).1.mins)=true:=by unfold Flow.late;rw [e,d]
  rw [this];rfl
 ·obtain ⟨b1,b2,b3⟩:=a.pl.at (i e).1 (i e).2
  have h:=g _ b1 b2
  rw [b3] at h
  rw [Nf e,f,h,Bool.not_not]
  exact ⟨c,b2,rfl⟩
theorem Ntk [OB] {lim:Nat} {pn pl ps:Option Addr} {P:List Int} {L:List Leg} {s:List Flow.Src} {cn cl cs:Nat} {to dl:Int} {H:NA} {Q:Value->NA->Prop} (hn:NetIn H pn pl P L) (hs:Sl H encS 3 ps s) (v:s.length<2 ^ 63) (K:PY P L=0->L.length<=8) (a0:lim<=H.length)
  (U:∀G,OD P L s to dl≠0->Chg [] H G->Q (.tuple #[.agg #[Vz,Vz],Vi (OD P L s to dl)]) G)
  (Y:∀G pt ct pd cd D,OD P L s to dl=0->Own H.length G encI 1 pt ct (Sm (VL s (NN L to dl) to dl) P)->Own H.length G QJ 4 pd cd D->D.Perm (TF (VL s (NN L to dl) to dl) (NN L to dl))->D.Pairwise (fun x y=>¬RD y x)->Chg [] H G->Q (.tuple #[.agg #[.slice pt P.length ct,.slice pd D.length cd],Vi 0]) G) :
  NR E false lim 29 [.agg (netV pn P.length cn pl L.length cl).toArray,.slice ps s.length cs,Vi to,Vi dl] H Q:=by
 refine SE (by decide) e29 rfl ?_
 rw [b29,c29]
 refine NI ?_
 have g:lim<=H.length+1:=by omega
 by_cases c:OD P L s to dl=0
 case neg=>
  simp only [n29,r29,OC,g,Va (hn.app _) (hs.app _) v,Nm c,SB,seval,NE,NG,NF,NK,place,NB,NH]
  exact U _ c Chg.refl.app
 have hA:=Sy c
 have J:=K (RU c)
 have f:=(Noy hn hs v K c).1
 obtain ⟨T,R⟩:∃T,T=VL s (NN L to dl) to dl:=⟨_,rfl⟩
 rw [<-R] at Y f
 simp only [n29,OC,Va (hn.app _) (hs.app _) v,c,SB,seval,NE,NG,NF,NK,place,NB]
 refine Ne9 (hn.app _) (hs.app _) c J (by simp;omega) fun G1 pp cp pa ca pq cq C PL r ap k ah u i=>?_
 have an:=i.len
 obtain ⟨op,oa,oq,dj⟩:=ah
 simp only [Nb,Nk,Nl] at an op oa oq
 have a4:C.length<=112:=by
  have:=S9 (to:=to) (dl:=dl) hA.net.fine
  rw [r.length_eq];omega
 have b41:NC G1 H.length=Vc (netV pn P.length cn pl L.length cl):=i.cells NQ (by simp)
 have b81:NC G1 (H.length+1)=Vc [Vz,Vz]:=i.cells OM (by simp)
 refine NI ?_
 unfold Ta
 simp only [n29,show lim<=G1.length by omega,SB,seval,NE,NG,place,NB]
 refine Nnm (pp:=pp) (cp:=cp) (pa:=pa) (ca:=ca) (vq:=.slice pq C.length cq) (M:=H.length+2) hA J r k u (oa.app _) (by omega) (by simp;omega) fun w ph ch hw q l A hR hT ad S t ag d=>?_
 have ao:=d.len
 simp only [Nb,Nk,Nl] at ao t
 rw [<-R] at hT S
 have av:∀b,b∈QC pa->H.length+2<=b/\b<G1.length:=fun b hb=>by
  obtain ⟨a,c,rfl⟩:=NU.1 hb
  have:=oa.block c;omega
 have nn:∀b,b<H.length+2\/G1.length<=b->b∉QC pa:=fun b hb W=>by have:=av b W;omega
 have ac:=d.cells ((NZ.refl.app).cells b41) (nn _ (by omega))
 have b82:=d.cells ((NZ.refl.app).cells b81) (nn _ (by omega))
 have m:=d.cells NQ (nn _ (.inr (Ng _)))
 have I:Chg [] H w:=((Chg.pre i).app).trans' d fun j hj bb=>absurd hj (nn j (by omega))
 have aw:Sl w encI 1 pn P:=I.ext.sl hn.sp
 have ay:Sl w enc2 2 pp PL:=d.sl ((op.sl PN).app _) fun a c _ W=>(dj _ W).1 (NU.2 ⟨a,c,rfl⟩)
 have az:Sl w QJ 4 pq (C.map Tv):=d.sl ((oq.sl NV).app _) fun a c _ W=>(dj _ W).2 (NU.2 ⟨a,c,rfl⟩)
 have V:l.length=(grR PL to dl s C).length:=A.len
 have F:C.length<=l.length:=by
  rw [V];unfold grR;rw [Nb,Nb,On];omega
 refine NI ?_
 simp only [n29,SB,seval,NG,place]
 refine Nhz (G0:=w) (B4:=H.length) (B8:=H.length+1) (B11:=G1.length) (ph:=ph) (ch:=ch) hR k.pl.two u k.pl (by have:=(UV (RU c)).1;omega) ac m aw ay (t.sl RN) (by omega) ⟨rfl,rfl,rfl,rfl,rfl⟩ rfl Chg.refl.app NQ (by simp) fun a1 G3 pt ct ak N ai ae a5=>?_
 obtain ⟨g4,g8,o,p,h⟩:=ak
 rw [hT] at N
 refine NI ?_
 simp only [n29,SB,seval,NG]
 refine Njh (G0:=w) (B4:=H.length) (B8:=H.length+1) (B11:=G1.length) (ph:=ph) (ch:=ch) (pq:=pq) (cq:=cq) (pa:=pa) (ca:=ca) (T:=T) (l:=l) (C:=C) hR u (by omega) F (fun j hj=>N1q k A f.no ad S hj) (by rw [V];exact m) (ag.sl QE) az (t.sl RN) (by omega) ⟨g4,g8,o,p,h⟩ rfl ae.app (N.app _) ((NZ.refl.app).cells ai) (by simp;omega) fun a2 G4 pd cd am O n aj B ba=>?_
 clear g4 g8 o p h
 obtain ⟨g4,g8,o,p,h⟩:=am
 have z:=B.cells b82 (by simp)
 obtain ⟨G5,e5,k5,m5⟩:=OO (ND z) (Vc [.slice pt P.length ct,.slice pd (TF T C).length cd])
 have k4:=fun Z=>(NZ.refl.app (X:=Z)).cells aj
 have au:=fun Z=>(NZ.refl.app (X:=Z)).cells z
 have aq:=fun Z=>(NZ.refl.app (X:=Z)).cells k5
 refine NI ?_
 simp only [n29,r29,g8,h,k4,au,e5,aq,g,SB,seval,NG,NB,NH]
 have hp:(TF T C).Perm (TF T (NN L to dl)):=(r.filter _).map _
 have aa:(TF T C).Sublist (C.map Tv):=(List.filter_sublist).map _
 refine Y _ pt ct pd cd (TF T C) c (((O.le (by omega)).mut m5 fun a c e=>by have:=(O.block c).1;omega).app _) (((n.le (by omega)).mut m5 fun a c e=>by have:=(n.block c).1;omega).app _) hp (ap.sublist aa) (((I.trans B).mut m5 (.inr (by omega))).app)
end Go.Proofs.YtohnaffmcjbpoaaGreat.Fn


namespace Go.Flow
open Go.AM Go.Net
theorem Nuj:∀{l:List Int},l≠[]->∃m∈l,∀y∈l,y<=m
 | [],h=>absurd rfl h
 | [a],_=>⟨a,by simp,fun y c=>by simp only [Nj] at c;omega⟩
 | a::b::l,_=>by
   obtain ⟨m,e,d⟩:=Nuj (l:=b::l) (by simp)
   rcases Int.le_total a m with h | h
   ·exact ⟨m,Ni _ e,fun y c=>by
     rcases Nu.1 c with h1 | h1
     ·omega
     ·exact d y h1⟩
   ·exact ⟨a,Nn,fun y c=>by
     rcases Nu.1 c with h1 | h1
     ·omega
     ·have:=d y h1;omega⟩
theorem Nj5 {p u t:Int}:∀{ch:List Cg},u<=t->(∀y∈ch,y.1=p->u<y.2.1->y.2.1<=t->0<=y.2.2)->QO p u ch<=QO p t ch
 | [],_,_=>Oc _
 | x::ch,hu,h=>by
   have ih:=Nj5 (ch:=ch) hu fun y c=>h y (Ni _ c)
   have b:=h x Nn
   rw [QO,QO]
   by_cases h1:x.1=p
   ·by_cases h2:x.2.1<=u
    ·rw [Nh ⟨h1,h2⟩,Nh ⟨h1,by omega⟩];omega
    ·by_cases a:x.2.1<=t
     ·rw [Nf fun q=>h2 q.2,Nh ⟨h1,a⟩]
      have:=b h1 (by omega) a
      omega
     ·rw [Nf fun q=>h2 q.2,Nf fun q=>a q.2];omega
   ·rw [Nf fun q=>h1 q.1,Nf fun q=>h1 q.1];omega
theorem Noz {p t:Int}:∀{ch:List Cg},(∀y∈ch,y.1=p->y.2.1<=t->0<=y.2.2)->0<=QO p t ch
 | [],_=>Oc _
 | x::ch,h=>by
   have ih:=Noz (ch:=ch) fun y b=>h y (Ni _ b)
   have a:=h x Nn
   rw [QO]
   split
   ·rename_i hc;have:=a hc.1 hc.2;omega
   ·omega
theorem Nr7 {ch:List Cg} {p:Int} (h:∀x∈ch,x.1=p->x.2.2<0->0<=QO p x.2.1 ch) (t:Int):0<=QO p t ch:=by
 by_cases hn:((ch.filter fun x=>decide (x.1=p/\x.2.1<=t/\x.2.2<0)).map fun x=>x.2.1)=[]
 ·refine Noz fun y c h1 h2=>?_
  apply Oq
  intro d
  rw [List.map_eq_nil_iff,List.filter_eq_nil_iff] at hn
  exact hn y c (by simp only [N3];exact ⟨h1,h2,by omega⟩)
 ·obtain ⟨m,e,f⟩:=Nuj hn
  obtain ⟨x,b,rfl⟩:=List.mem_map.1 e
  obtain ⟨b,a⟩:=Po.1 b
  simp only [N3] at a
  refine Int.le_trans (h x b a.1 a.2.2) (Nj5 a.2.1 fun y c h1 h2 d=>?_)
  apply Oq
  intro g
  have:=f y.2.1 (List.mem_map.2 ⟨y,Po.2 ⟨c,by simp only [N3];exact ⟨h1,d,by omega⟩⟩,rfl⟩)
  omega
def YF (y x:Ld):Prop:=y.leg=x.leg/\y.dep=x.dep/\y.arr=x.arr/\1<=x.gr/\x.gr<=y.gr
instance (y x:Ld):Decidable (YF y x):=by unfold YF;infer_instance
def okR (O ld:List Ld) (i:Nat):Prop:=(O.any fun y=>decide (YF y (gt ld i)))=true/\(0<i->RD (gt ld (i-1)) (gt ld i))
theorem Nns {C:List (Leg×Int)} {O ld:List Ld} {i:Nat} (j:∀c∈C,∀d∈C,SG c=SG d->c.1=d.1) (hp:O.Perm (C.map Tv)):okR O ld i↔okX C ld i:=by
 unfold okR okX
 refine and_congr ?_ Iff.rfl
 constructor
 ·intro h
  obtain ⟨y,k,b⟩:=List.any_eq_true.1 h
  obtain ⟨c,hc,rfl⟩:=List.mem_map.1 (hp.mem_iff.1 k)
  simp only [N3] at b
  obtain ⟨h1,h2,a,f,g⟩:=b
  refine ⟨c.1, ?_,f,g⟩
  have e:UD (gt ld i)=SG c:=by
   unfold UD SG
   rw [<-h1,<-h2,<-a];rfl
  rw [e]
  exact Nn5 j c hc
 ·rintro ⟨l,h1,h2,a⟩
  obtain ⟨c,k1,k2,k3⟩:=TU h1
  subst k3
  refine List.any_eq_true.2 ⟨Tv c,hp.mem_iff.2 (List.mem_map.2 ⟨c,k1,rfl⟩), ?_⟩
  simp only [N3]
  unfold SG UD at k2
  simp only [Prod.mk.injEq] at k2
  exact ⟨k2.1,k2.2.1,k2.2.2,h2,a⟩
theorem Nj9 {to dl:Int}:∀{s:List Src},QO to dl (QY s)=Tp to dl s
 | []=>rfl
 | x::s=>by
   show (if x.pl=to/\x.rd<=dl then x.gr else 0)+QO to dl (QY s)=_
   rw [Nj9];rfl
theorem Nkb {C:List (Leg×Int)} {to dl:Int}:∀{ld:List Ld},(∀x∈ld,(Ue C x).frm≠to/\x.arr<=dl)->QO to dl (ld.flatMap (Xh C))=SA C to ld
 | [],_=>rfl
 | x::ld,h=>by
   obtain ⟨h1,h2⟩:=h x Nn
   rw [N2,Uk,Nkb fun y b=>h y (Ni _ b),SA]
   congr 1
   show (if (Ue C x).frm=to/\x.dep-(Ue C x).cut<=dl then -x.gr else 0)+((if (Ue C x).dst=to/\x.arr<=dl then x.gr else 0)+0)=_
   rw [Nf fun q=>h1 q.1]
   by_cases a:(Ue C x).dst=to
   ·rw [Nh ⟨a,h2⟩,Nh a];omega
   ·rw [Nf fun q=>a q.1,Nf a];rfl
end Go.Flow


namespace Go.Proofs.YtohnaffmcjbpoaaGreat.Fn
open Go.AM Go.AM.Sym Go.Net Go.Flow
section
variable {P:List Int} {L:List Leg} {s:List Flow.Src} {ld:List Flow.Ld} {to dl:Int}
theorem Nbe (g:PY P L=0) {x:Flow.Ld} {b:Leg} (h:Vm (NN L to dl) (UD x)=some b):Wv L x.leg=b/\Ue (NN L to dl) x=b/\b∈L/\b.frm≠to/\0<=x.dep/\x.dep<=dl/\x.arr<=dl:=by
 obtain ⟨c,h1,h2,j⟩:=TU h
 obtain ⟨f,m,d,_,n,o,p⟩:=QR h1
 have k:=(UV g).2.2.2
 subst j
 unfold SG UD at h2
 simp only [Prod.mk.injEq] at h2
 obtain ⟨k1,k2,k3⟩:=h2
 refine ⟨?_,by unfold Ue;rw [h];rfl,f,m,by omega, ?_,by omega⟩
 ·unfold Wv
  cases hf:L.find? (fun l=>l.id=x.leg) with
  | none=>
    rw [List.find?_eq_none] at hf
    exact absurd (by simpa using k1) (hf _ f)
  | some l'=>
    have e1:=R8 hf
    simp only [N3] at e1
    show l'=c.1
    exact ZL g (Ri hf) f (e1.trans k1.symm)
 ·obtain ⟨i,hi,e⟩:=List.mem_iff_getElem.1 f
  have a:=(k i hi).1
  rw [OI hi,e] at a
  unfold Fine at a
  omega
theorem Nos (b:PY P L=0) (a:∀i,i<ld.length->okX (NN L to dl) ld i):ld.flatMap (chR L)=ld.flatMap (Xh (NN L to dl)):=by
 have:∀x∈ld,chR L x=Xh (NN L to dl) x:=fun x c=>by
  obtain ⟨i,hi,rfl⟩:=List.mem_iff_getElem.1 c
  obtain ⟨⟨d,h1,_,_⟩,_⟩:=a i hi
  rw [OI hi] at h1
  obtain ⟨e1,e2,_⟩:=Nbe b h1
  unfold chR Xh
  rw [e1,e2]
 rw [Sc,Sc,P6 this]
theorem Nwn (d:OD P L s to dl=0) (b:∀i,i<ld.length->okX (NN L to dl) ld i):X6 (NN L to dl) s ld↔∀i,i<ld.length->0<=QO (Wv L (gt ld i).leg).frm ((gt ld i).dep-(Wv L (gt ld i).leg).cut) (QY s++ld.flatMap (chR L)):=by
 have f:=Sy d
 have e:=RU d
 rw [Nos e b]
 constructor
 ·intro h i _;exact h.2 _ _
 ·intro h
  refine ⟨b,fun p t=>Nr7 (fun x hx h1 h2=>?_) t⟩
  rcases Nv.1 hx with hx | hx
  ·obtain ⟨y,c,rfl⟩:=List.mem_map.1 hx
   have:=(f.src y c).2.2.2.1
   change y.gr<0 at h2
   omega
  ·obtain ⟨y,c,hx⟩:=List.mem_flatMap.1 hx
   obtain ⟨i,hi,rfl⟩:=List.mem_iff_getElem.1 c
   have a:=h i hi
   obtain ⟨⟨g,k1,k2,k3⟩,_⟩:=b i hi
   rw [OI hi] at k1 k2 a
   obtain ⟨e1,e2,_⟩:=Nbe e k1
   rw [e1] at a
   unfold Xh at hx
   rw [e2] at hx
   simp only [Nu,O8,or_false] at hx
   rcases hx with rfl | rfl
   ·rw [<-h1];exact a
   ·change (ld[i]).gr<0 at h2;omega
theorem Nwm (d:OD P L s to dl=0) (a:∀i,i<ld.length->okX (NN L to dl) ld i):QO to dl (QY s++ld.flatMap (chR L))=Tp to dl s+SA (NN L to dl) to ld:=by
 have b:=RU d
 rw [Nos b a,Uk,Nj9,Nkb]
 intro x e
 obtain ⟨i,hi,rfl⟩:=List.mem_iff_getElem.1 e
 obtain ⟨⟨f,k1,_,_⟩,_⟩:=a i hi
 rw [OI hi] at k1
 obtain ⟨_,e2,_,c,_,_,e7⟩:=Nbe b k1
 rw [e2]
 exact ⟨c,e7⟩
theorem Nyn (c:OD P L s to dl=0) (a:∀i,i<ld.length->okX (NN L to dl) ld i):∀x∈ld,(0<=x.gr/\x.gr<=1000000000)/\IntKind.i64.wrap (x.dep-(Wv L x.leg).cut)=x.dep-(Wv L x.leg).cut:=fun x f=>by
 have e:=RU c
 have b:=Sy c
 obtain ⟨i,hi,rfl⟩:=List.mem_iff_getElem.1 f
 obtain ⟨⟨h,k1,k2,k3⟩,_⟩:=a i hi
 rw [OI hi] at k1 k2 k3
 obtain ⟨e1,_,e3,_,g,e6,_⟩:=Nbe e k1
 have d:=b.net.fine _ e3
 unfold Fine at d
 have:=b.d1
 have mt:OQ=1051898399:=rfl
 rw [e1]
 exact ⟨by omega,NY (by omega) (by omega)⟩
end
theorem Ny3 [OB] {lim c c4 i:Nat} {q p4:Option Addr} {O ld:List Flow.Ld} {v1 v2 v3 v5:Value} {G:NA} {fr:Nat->Value} {K:List AItem} {Q:Value->NA->Prop}
  (F:Sl G QJ 4 q O) (u:Sl G QJ 4 p4 ld) (hi:i<ld.length) (P:O.length<2 ^ 40) (N:lim<=G.length)
  (f1:fr 1=v1) (f2:fr 2=v2) (f3:fr 3=v3) (f5:fr 5=v5) (f4:fr 4=.slice p4 ld.length c4) (f12:fr 12=.slice q O.length c) (f13:fr 13=Vi i) (f14:fr 14=.bool false) (f15:fr 15=Vi 0)
  (L:∀fr' G',NZ G G'->fr' 1=v1->fr' 2=v2->fr' 3=v3->fr' 5=v5->fr' 4=.slice p4 ld.length c4->fr' 12=.slice q O.length c->fr' 13=Vi i->fr' 14=.bool (O.any fun y=>decide (YF y (gt ld i)))->PQ E a30 lim K fr' (G'++[]) Q) :
  PQ E a30 lim (.code (.loop Nvp)::.inBlock 2::K) fr G Q:=by
 refine NL (fun k:Nat=>O.length-k) (fun k f H=>k<=O.length/\f 1=v1/\f 2=v2/\f 3=v3/\f 5=v5/\f 4=.slice p4 ld.length c4/\f 12=.slice q O.length c/\f 13=Vi i/\f 15=Vi k/\f 14=.bool ((O.take k).any fun y=>decide (YF y (gt ld i)))/\NZ G H) 0 ⟨Nx _,f1,f2,f3,f5,f4,f12,f13,f15,f14,NZ.refl⟩ ?_
 rintro k f H ⟨R,q1,q2,q3,t,n,a,b,l,e,o⟩ v
 rw [NP Nvp.eq_1]
 refine NI ?_
 have F:=o.sl F
 have u:=o.sl u
 have M:=o.len
 by_cases d:k<O.length
 case neg=>
  obtain rfl:k=O.length:=by omega
  rw [Of] at e
  simp only [n30,a,l,d,SB,seval,NG,NF]
  exact L _ _ o q1 q2 q3 t n a b e
 have s:=fun X=>(F.app X).loadCells NV d
 have z:=QM F d rfl
 have l0:=fun X=>(u.app X).loadCell NV hi (j:=0) (by decide)
 rw [Sq] at l0
 have l1:=fun X=>(u.app X).loadCell NV hi (j:=1) (by decide)
 rw [Sn] at l1
 have A:=fun X=>(u.app X).loadCell NV hi (j:=2) (by decide)
 rw [Tx] at A
 have D:=fun X=>(u.app X).loadCell NV hi (j:=3) (by decide)
 rw [Ug] at D
 have B:=QM u hi rfl
 have w:IntKind.i64.wrap ((k:Int)+1)=((k+1:Nat):Int):=NS (by omega)
 obtain ⟨x,I⟩:∃x,x=gt ld i:=⟨_,rfl⟩
 obtain ⟨y,J⟩:∃y,y=gt O k:=⟨_,rfl⟩
 rw [<-I] at l0 l1 A D
 rw [<-J] at s
 have g:((O.take (k+1)).any fun y=>decide (YF y (gt ld i)))=(((O.take k).any fun y=>decide (YF y (gt ld i)))||decide (YF y x)):=by
  rw [QI d,List.any_append,<-I,<-J];simp
 have m:lim<=H.length:=by omega
 cases hb:((O.take k).any fun y=>decide (YF y (gt ld i))) with
 | true=>
   rw [hb] at e g
   rw [Bool.true_or] at g
   simp only [n30,a,l,e,d,s,z,w,m,NV,NM,SB,seval,NG,NF,place,NB]
   exact v (k+1) _ _ ⟨by omega,q1,q2,q3,t,n,a,b,rfl,by rw [g];exact rfl,o.app⟩ (by omega)
 | false=>
 rw [hb] at e g
 rw [Bool.false_or] at g
 by_cases r:y.leg=x.leg
 case neg=>
  rw [Nw fun h:YF y x=>r h.1] at g
  simp only [n30,n,a,b,l,e,d,s,z,l0,B,w,m,NV,Sq,NM,Nm r,SB,seval,NG,NF,place,NB]
  exact v (k+1) _ _ ⟨by omega,q1,q2,q3,t,n,a,b,rfl,by rw [g];exact rfl,o.app⟩ (by omega)
 by_cases h1:y.dep=x.dep
 case neg=>
  rw [Nw fun h:YF y x=>h1 h.2.1] at g
  simp only [n30,n,a,b,l,e,d,s,z,l0,l1,B,w,m,NV,Sq,Sn,NM,Nq r,Nm h1,SB,seval,NG,NF,place,NB]
  exact v (k+1) _ _ ⟨by omega,q1,q2,q3,t,n,a,b,rfl,by rw [g];exact rfl,o.app⟩ (by omega)
 by_cases h2:y.arr=x.arr
 case neg=>
  rw [Nw fun h:YF y x=>h2 h.2.2.1] at g
  simp only [n30,n,a,b,l,e,d,s,z,l0,l1,A,B,w,m,NV,Sq,Sn,Tx,NM,Nq r,Nq h1,Nm h2,SB,seval,NG,NF,place,NB]
  exact v (k+1) _ _ ⟨by omega,q1,q2,q3,t,n,a,b,rfl,by rw [g];exact rfl,o.app⟩ (by omega)
 by_cases C:1<=x.gr
 case neg=>
  rw [Nw fun h:YF y x=>C h.2.2.2.1] at g
  simp only [n30,n,a,b,l,e,d,s,z,l0,l1,A,D,B,w,m,NV,Sq,Sn,Tx,NM,Nq r,Nq h1,Nq h2,Nm C,SB,seval,NG,NF,place,NB]
  exact v (k+1) _ _ ⟨by omega,q1,q2,q3,t,n,a,b,rfl,by rw [g];exact rfl,o.app⟩ (by omega)
 by_cases p:x.gr<=y.gr
 case neg=>
  rw [Nw fun h:YF y x=>p h.2.2.2.2] at g
  simp only [n30,n,a,b,l,e,d,s,z,l0,l1,A,D,B,w,m,NV,Sq,Sn,Tx,Ug,NM,Nq r,Nq h1,Nq h2,Nq C,Nm p,SB,seval,NG,NF,place,NB]
  exact v (k+1) _ _ ⟨by omega,q1,q2,q3,t,n,a,b,rfl,by rw [g];exact rfl,o.app⟩ (by omega)
 rw [No (show YF y x from ⟨r,h1,h2,C,p⟩)] at g
 simp only [n30,n,a,b,l,e,d,s,z,l0,l1,A,D,B,w,m,NV,Sq,Sn,Tx,Ug,NM,Nq r,Nq h1,Nq h2,Nq C,Nq p,SB,seval,NG,NF,place,NB]
 exact v (k+1) _ _ ⟨by omega,q1,q2,q3,t,n,a,b,rfl,by rw [g];exact rfl,o.app⟩ (by omega)
theorem Npw [OB] {mp:Bool} {lim:Nat} {pp pl ps p4:Option Addr} {P:List Int} {L:List Leg} {s:List Flow.Src} {ld:List Flow.Ld} {cp cl cs c4:Nat} {to dl:Int} {H:NA} {Q:Value->NA->Prop} (hn:NetIn H pp pl P L) (hs:Sl H encS 3 ps s) (ai:s.length<2 ^ 63) (h4:Sl H QJ 4 p4 ld) (ah:ld.length<=200) (S:PY P L=0->L.length<=8) :
  NR E mp lim 30 [.agg (netV pp P.length cp pl L.length cl).toArray,.slice ps s.length cs,Vi to,Vi dl,.slice p4 ld.length c4] H Q=Q (.tuple #[Vi (Ur P L s to dl ld).1,.bool (Ur P L s to dl ld).2]) H:=by
 refine pc (by decide) e30 rfl rfl ?_
 rw [b30,c30]
 have ak:H.length<=H.length:=Ng _
 have U:=fun Z (mp:Bool) (lim:Nat) (Q:Value->NA->Prop)=>Va (mp:=mp) (lim:=lim) (cp:=cp) (cl:=cl) (cs:=cs) (to:=to) (dl:=dl) (Q:=Q) (hn.app Z) (hs.app Z) ai
 by_cases v:OD P L s to dl=0
 case neg=>
  rw [VC fun h=>v h.1]
  simp only [n30,r30,OC,U,Nm v,SB,seval,NE,NG,NF,NK,place,NB,NH]
 have K:=Sy v
 have hv:=RU v
 have au:=K.ns
 simp only [n30,OC,U,Nq v,SB,seval,NE,NG,NF,NK,place,NB]
 refine Nab (hn.app _) K.net.fine (S hv) K.d0 K.d1 (by simp) fun G q c O hO hp av hC=>?_
 have am:=S9 (to:=to) (dl:=dl) K.net.fine
 have ae:=hp.length_eq
 rw [On] at ae
 have an:=S hv
 have bG:NC G H.length=Vc (netV pp P.length cp pl L.length cl):=hC.cells NQ (by simp)
 have C:Chg [] H G:=hC.pre
 have nG:=hn.ext C.ext
 have sG:=C.ext.sl hs
 have dG:=C.ext.sl h4
 have oG:=hO.sl NV
 have aq:=ND bG
 refine NI ?_
 simp only [n30,SB,seval,NG]
 refine NL (fun i=>ld.length-i) (fun i fr G2=>i<=ld.length/\fr 1=.slice ps s.length cs/\fr 2=Vi to/\fr 3=Vi dl/\fr 4=.slice p4 ld.length c4/\fr 5=Vp H.length/\fr 12=.slice q O.length c/\fr 13=Vi i/\NZ G G2/\∀j,j<i->okR O ld j) 0
  ⟨Nx _,rfl,rfl,rfl,rfl,rfl,rfl,by rfl,NZ.refl.app,fun j hj=>by omega⟩ ?_
 intro i fr G2 ⟨hi,f1,f2,f3,f4,f5,f12,f13,R,n⟩ T
 rw [NP N1a.eq_1]
 refine NI ?_
 have ap:=R.len
 by_cases g:i<ld.length
 case pos=>
  have r:¬okR O ld i->Ur P L s to dl ld=(0,false):=fun h=>VC fun W=>h ((Nns (Y0 hv) hp).2 (W.2.1 i g))
  simp only [n30,f4,f13,g,SB,seval,NG,NF]
  refine Ny3 (O:=O) (ld:=ld) (i:=i) (q:=q) (c:=c) (p4:=p4) (c4:=c4) (v1:=.slice ps s.length cs) (v2:=Vi to) (v3:=Vi dl) (v5:=Vp H.length) ((R.sl oG).app _) ((R.sl dG).app _) g (by omega) (by simp;omega) f1 f2 f3 f5 f4 f12 f13 rfl rfl fun f N e I r2 r3 J z ac r13 o=>?_
  have B:NZ G N:=(R.app).trans e
  have l:=B.sl dG
  have A:IntKind.i64.wrap ((i:Int)+1)=((i+1:Nat):Int):=NS (by omega)
  cases hb:(O.any fun y=>decide (YF y (gt ld i))) with
  | false=>
    rw [r fun h=>by have:=h.1;rw [hb] at this;cases this]
    rw [hb] at o
    simp only [n30,r30,o,SB,seval,NG,QV,NH]
  | true=>
  rw [hb] at o
  match i,hi,f13,n,T,g,r,hb,r13,A with
  | 0,hi,f13,n,T,g,r,hb,r13,A=>
    replace r13:f 13=Vi 0:=r13
    replace A:IntKind.i64.wrap 1=1:=by decide
    simp only [n30,r13,o,A,Qu,Nm (show ¬(0:Int)<0 by decide),SB,seval,NG,NF,QV]
    exact T 1 _ _ ⟨by omega,I,r2,r3,z,J,ac,rfl,B.app,fun j hj=>by
     rw [show j=0 by omega];exact ⟨hb,fun h=>by omega⟩⟩ (by omega)
  | k+1,hi,f13,n,T,g,r,hb,r13,A=>
    have F:(0:Int)<((k+1:Nat):Int):=by omega
    have wk:IntKind.i64.wrap (((k+1:Nat):Int)-1)=(k:Int):=by rw [show ((k+1:Nat):Int)-1=(k:Int) by omega];exact NY (by omega) (by omega)
    have lD:=fun X=>(l.app X).loadCells NV g
    have M:=fun (c:Nat) (kk:IntKind) (H1:NA)=>QM l g rfl c kk H1
    have lE:=fun X=>(l.app X).loadCells NV (show k<ld.length by omega)
    have xE:=QM l (show k<ld.length by omega) rfl
    obtain ⟨kk,ag⟩:∃kk:Int,kk=((k+1:Nat):Int):=⟨_,rfl⟩
    rw [<-ag] at F wk r13 A M
    have w:=fun (H:NA) (mp:Bool) (lim:Nat) (Q:Value->NA->Prop)=>Nkg (a:=gt ld (k+1)) (b:=gt ld k) (mp:=mp) (lim:=lim) (H:=H) (Q:=Q)
    by_cases h1:RD (gt ld k) (gt ld (k+1))
    ·rw [No h1] at w
     simp only [n30,z,r13,o,Nq F,wk,A,lD,M,lE,xE,w,SB,seval,NE,NG,NF,QV]
     exact T (k+1+1) _ _ ⟨by omega,I,r2,r3,z,J,ac,rfl,B.app,fun j hj=>by
      rcases (by omega:j<k+1\/j=k+1) with h | h
      ·exact n j h
      ·rw [h];exact ⟨hb,fun _=>h1⟩⟩ (by omega)
    ·rw [Nw h1] at w
     rw [r fun h=>h1 (h.2 (by omega))]
     simp only [n30,r30,z,r13,o,Nq F,wk,lD,M,lE,xE,w,SB,seval,NE,NG,NF,QV,NH]
 obtain rfl:i=ld.length:=by omega
 have D:∀i,i<ld.length->okX (NN L to dl) ld i:=fun i hi=>(Nns (Y0 hv) hp).1 (n i hi)
 have Y:=Nwn v D
 have hw:=Nyn v D
 simp only [n30,f4,f13,g,SB,seval,NG,NF]
 refine NL (fun i=>ld.length-i) (fun i f N=>i<=ld.length/\f 1=.slice ps s.length cs/\f 2=Vi to/\f 3=Vi dl/\f 4=.slice p4 ld.length c4/\f 5=Vp H.length/\f 17=Vi i/\NZ G N/\∀j,j<i->0<=QO (Wv L (gt ld j).leg).frm ((gt ld j).dep-(Wv L (gt ld j).leg).cut) (QY s++ld.flatMap (chR L))) 0
  ⟨Nx _,f1,f2,f3,f4,f5,by rfl,R.app,fun j hj=>by omega⟩ ?_
 intro i f N ⟨ao,I,r2,r3,z,J,r17,e,t⟩ ad
 rw [NP N1b.eq_1]
 refine NI ?_
 have aj:=e.len
 have bX:=fun X=>(e.app (X:=X)).cells bG
 have u:=fun X (mp:Bool) (lim:Nat) (p m:Int) (Q:Value->NA->Prop)=>Nyb (mp:=mp) (lim:=lim) (cp:=cp) (cl:=cl) (cs:=cs) (c4:=c4) (p:=p) (m:=m) (Q:=Q) ((nG.ext e).app X) ((e.sl sG).app X) ((e.sl dG).app X) (by omega) ah (fun x hx=>(K.src x hx).2.2.2) (fun x hx=>(hw x hx).1) (fun x hx=>(hw x hx).2)
 by_cases d:i<ld.length
 case neg=>
  obtain rfl:i=ld.length:=by omega
  have W:=Y.2 t
  rw [Xu v W,<-Nwm v D]
  simp only [n30,r30,I,r2,r3,z,J,r17,d,bX,OC,u,SB,seval,NE,NG,NF,NH]
 have l:=e.sl dG
 have l0:=fun X=>(l.app X).loadCell NV d (j:=0) (by decide)
 rw [Sq] at l0
 have l1:=fun X=>(l.app X).loadCell NV d (j:=1) (by decide)
 rw [Sn] at l1
 have M:=QM l d rfl
 have A:IntKind.i64.wrap ((i:Int)+1)=((i+1:Nat):Int):=NS (by omega)
 have ww:=(hw _ (PW d)).2
 have V:=fun X (mp:Bool) (lim:Nat) (Q:Value->NA->Prop)=>Ne8 (mp:=mp) (lim:=lim) (cp:=cp) (cl:=cl) (a:=(gt ld i).leg) (Q:=Q) ((nG.ext e).app X)
 have aa:H.length<=N.length:=by omega
 by_cases h1:QO (Wv L (gt ld i).leg).frm ((gt ld i).dep-(Wv L (gt ld i).leg).cut) (QY s++ld.flatMap (chR L))<0
 ·rw [VC fun W=>by have:=Y.1 W.2 i d;omega]
  simp only [n30,r30,I,z,J,r17,d,bX,OC,NW,QB,RZ,OH,u,l0,l1,M,ww,V,aa,NM,Nq h1,SB,seval,NE,NG,NF,place,NB,NH]
 ·simp only [n30,I,z,J,r17,d,bX,OC,NW,QB,RZ,OH,u,l0,l1,M,A,ww,V,aa,NM,Nm h1,SB,seval,NE,NG,NF,place,NB]
  exact ad (i+1) _ _ ⟨by omega,I,r2,r3,z,J,rfl,e.app,fun j hj=>by
   rcases (by omega:j<i\/j=i) with h | h
   ·exact t j h
   ·rw [h];omega⟩ (by omega)
def tT9:ACode:=(Ds 0 [Gt 142 2 4,mT 143 1,mT 145 2,mT 146 3,mT 147 13,i 144 (.call .mk (.func 28) [(t 143)]),i 148 (.call .mk (.func 31) [(t 147)]),i 149 (.call .pure (.func 30) [(t 142),(t 144),(t 145),(t 146),(t 148)]),mT 141 149,Et 150 0 141,Et 151 1 141,mT 21 150,mT 22 151] (Oz [mT 152 12,Bc 153 .neq 152 0,mT 154 153,Pm 155 154 13,p 156 154 (.lenSlice (t 155)),p 157 154 (.bin .eql (t 156) (zT 0)),At 158 154 157,mT 159 158,Qm 160 159 12,q 161 159 (.bin .eql (t 160) (zT 0)),Qm 162 159 161,Pm 163 162 22,q 164 159 (.pick (t 162) (t 163) (k (.bool false))),Qm 165 159 164,Pm 166 165 21,Pm 167 165 11,Pb 168 165 .eql 166 167,q 169 159 (.pick (t 165) (t 168) (k (.bool false))),Ot 170 159 169,mT 8 170] .ret))
theorem N3f [OB] {pp pl ps pd:Option Addr} {P:List Int} {L:List Leg} {s:List Flow.Src} {ld:List Flow.Ld} {B4 cp cl cs cd:Nat} {to dl a f:Int} {lim:Nat} {G:NA} {fr:Nat->Value} (hn:NetIn G pp pl P L) (t:Sl G encS 3 ps s) (p:s.length<=60) (hd:Sl G QJ 4 pd ld) (l:ld.length<=200) (j:PY P L=0->L.length<=8) (o:lim<=G.length) (r:NC G B4=Vc (netV pp P.length cp pl L.length cl))
  (f1:fr 1=.slice ps s.length cs) (f2:fr 2=Vi to) (f3:fr 3=Vi dl) (f4:fr 4=Vp B4) (f11:fr 11=Vi a) (f12:fr 12=Vi f) (f13:fr 13=.slice pd ld.length cd)
  (h:(f≠0/\ld=[])\/(f=0/\Ur P L s to dl ld=(a,true))) :
  PQ E a9 lim [.code tT9] fr G fun v _=>v=.bool true:=by
 rw [NP tT9.eq_1]
 have u:=fun Z=>(NZ.refl.app (X:=Z)).cells r
 refine NI ?_
 simp only [n9,f1,f2,f3,f4,u,OC,SB,seval,NE,NG]
 refine M8 (t.app _) (by omega) (by simp) fun G1 p1 c1 g c=>?_
 have m:=c.len
 simp only [Nb,Nl,Od] at m g
 have d:Chg [] G G1:=c.pre
 rw [WY]
 refine NI ?_
 simp only [n9,f13,SB,seval,NE]
 refine Nea ((d.ext.sl hd).app _) (by omega) (by simp) fun q p2 c2 k i=>?_
 have e:Chg [] G1 q:=i.pre
 have s2:=e.sl (g.sl OP) fun _ _ _=>by simp
 have d2:=k.sl NV
 have n:=hn.ext (d.trans e).ext
 have b:=fun Z (mp:Bool) (lim:Nat) (Q:Value->NA->Prop)=>Npw (mp:=mp) (lim:=lim) (cp:=cp) (cl:=cl) (cs:=c1) (c4:=c2) (to:=to) (dl:=dl) (Q:=Q) (n.app Z) (s2.app Z) (by omega) (d2.app Z) l j
 rw [WY]
 refine NI ?_
 rcases h with ⟨h1,h2⟩ | ⟨h1,h2⟩
 ·subst h2
  simp only [Nl] at b f13
  simp only [n9,r9,f12,f13,b,Nm h1,SB,seval,NE,NG,NF,NH]
 ·rw [h2] at b
  subst h1
  simp only [n9,r9,f11,f12,b,SB,seval,NE,NG,NF,NH]
theorem N58 [OB] {lim B14 d c1 c2:Nat} {x y:Value} {q1 q2:Option Addr} {D:List Flow.Ld} {G:NA} {fr:Nat->Value} {v1 v2 v3 v4 v11 v12 v13:Value} {K:List AItem} {Q:Value->NA->Prop} (m:NC G B14=Vc [x,.slice q1 D.length c1]) (n:NC G d=Vc [y,.slice q2 D.length c2]) (s1:Sl G QJ 4 q1 D) (s2:Sl G QJ 4 q2 D) (hl:D.length<2 ^ 40) (s:lim<=G.length)
  (f1:fr 1=v1) (f2:fr 2=v2) (f3:fr 3=v3) (f4:fr 4=v4) (f11:fr 11=v11) (f12:fr 12=v12) (f13:fr 13=v13) (f14:fr 14=Vp B14) (f16:fr 16=Vp d) (f18:fr 18=Vi 0)
  (u:∀fr' G',fr' 1=v1->fr' 2=v2->fr' 3=v3->fr' 4=v4->fr' 11=v11->fr' 12=v12->fr' 13=v13->NZ G G'->PQ E a9 lim K fr' G' Q) :
  PQ E a9 lim (.code (.loop Ny1)::.inBlock 0::K) fr G Q:=by
 refine NL (fun j=>D.length-j) (fun j a G'=>j<=D.length/\a 1=v1/\a 2=v2/\a 3=v3/\a 4=v4/\a 11=v11/\a 12=v12/\a 13=v13/\a 14=Vp B14/\a 16=Vp d/\a 18=Vi j/\NZ G G') 0 ⟨Nx _,f1,f2,f3,f4,f11,f12,f13,f14,f16,f18,.refl⟩ ?_
 intro j a G' ⟨C,g1,p,q,r,f,g,h,i,e,k,c⟩ t
 rw [NP Ny1.eq_1]
 have o:=fun Z=>(c.app (X:=Z)).cells m
 have l:=fun Z=>(c.app (X:=Z)).cells n
 have v:=c.len
 refine NI ?_
 by_cases b:j<D.length
 case neg=>
  obtain rfl:j=D.length:=by omega
  simp only [n9,e,k,l,SB,seval,NG,NF]
  exact u _ _ g1 p q r f g h c.app
 have l1:∀Z,AM.loadCells (G'++Z) (Tk q1 4 j) 4=some (QJ (gt D j)):=fun Z=>((c.sl s1).app Z).loadCells NV b
 have w:∀Z,AM.loadCells (G'++Z) (Tk q2 4 j) 4=some (QJ (gt D j)):=fun Z=>((c.sl s2).app Z).loadCells NV b
 have A:=QM (c.sl s1) b rfl
 have B:=QM (c.sl s2) b rfl
 have z:IntKind.i64.wrap ((j:Int)+1)=((j+1:Nat):Int):=NS (by omega)
 simp only [n9,i,e,k,o,l,b,l1,w,A,B,QJ,show lim<=G'.length by omega,show lim<=G'.length+1 by omega,z,SB,seval,NG,NF,place,NB]
 exact t (j+1) _ _ ⟨by omega,g1,p,q,r,f,g,h,i,e,rfl,c.app⟩ (by omega)
theorem Nna {b:Nat} {H0 G1:NA} {c:Blk} (h:NC H0 b=c):OA b [0] H0 G1=G1.set b c:=by
 subst h
 show G1.set (b+0) (NC H0 (b+0))=_
 rw [Od]
theorem Npx [OB] {lim:Nat} {pn pl ps:Option Addr} {P:List Int} {L:List Leg} {s:List Flow.Src} {cn cl cs:Nat} {to dl:Int} {H:NA} {Q:Value->NA->Prop} (hn:NetIn H pn pl P L) (j:Sl H encS 3 ps s) (e:s.length<2 ^ 63) (d:PY P L=0->L.length<=8) (a:lim<=H.length)
  (f:∀G pt ct pd cd TL D,Own H.length G encI 1 pt ct TL->Own H.length G QJ 4 pd cd D->(OD P L s to dl≠0->TL=[]/\D=[])->(OD P L s to dl=0->TL=Sm (VL s (NN L to dl) to dl) P/\D.Perm (TF (VL s (NN L to dl) to dl) (NN L to dl))/\D.Pairwise (fun x y=>¬RD y x))->Chg [] H G->Q (.tuple #[.agg #[.slice pt TL.length ct,.slice pd D.length cd],Vi (OD P L s to dl)]) G) :
  NR E false lim 29 [.agg (netV pn P.length cn pl L.length cl).toArray,.slice ps s.length cs,Vi to,Vi dl] H Q:=by
 refine Ntk hn j e d a (fun G b c=>?_) fun G pt ct pd cd D b h1 h2 g i c=>?_
 ·exact f G none 0 none 0 [] [] .nil .nil (fun _=>⟨rfl,rfl⟩) (fun h=>absurd h b) c
 ·have:=f G pt ct pd cd _ D h1 h2 (fun h=>absurd b h) (fun _=>⟨rfl,g,i⟩) c
  rw [b,show (Sm (VL s (NN L to dl) to dl) P).length=P.length by unfold Sm;simp] at this
  exact this
def mT9:ACode:=(Ds 1 [Kt 65 (.loadN 2 (t 4)) [0],mT 66 1,mT 68 2,mT 69 3,Wt 16 (.alloc [Vz,Vz]) 0,Kt 67 (.call .mk (.func 28) [(t 66)]) [0],Kt 70 (.call .any (.func 29) [(t 65),(t 67),(t 68),(t 69)]) [0],mT 64 70,Et 71 0 64,Et 72 1 64,St 2 16 71,mT 17 72] (.seq (Oz [mT 73 10,mT 74 12,Bt 75 .neq 73 74,mT 76 75,Qm 77 76 15,Qm 78 76 12,Qb 79 76 .neq 77 78,Ot 80 76 79,mT 81 80,Qf 82 81 0 14,Ql 83 81 82,Qf 84 81 0 16,Ql 85 81 84,q 86 81 (.call .any (.func 24) [(t 83),(t 85)]),q 87 81 (.un .not (t 86)),Ot 88 81 87,mT 89 88,Qf 90 89 1 14,Ql 91 89 90,q 92 89 (.lenSlice (t 91)),Qf 93 89 1 16,Ql 94 89 93,q 95 89 (.lenSlice (t 94)),Qb 96 89 .neq 92 95,Ot 97 89 96] (.cond (t 97) (Oz [i 8 (.mov (k (.bool false)))] .ret) .skip)) (.seq (Oz [Zm 18 0] (Bl 0 Ny1)) tT9)))
theorem N37 [OB] {pp pl ps pd pt q1:Option Addr} {P TL:List Int} {L:List Leg} {s:List Flow.Src} {ld D1:List Flow.Ld} {B4 B14 cp cl cs cd ct c1:Nat} {to dl a:Int} {lim:Nat} {G:NA} {fr:Nat->Value} (hn:NetIn G pp pl P L) (hs:Sl G encS 3 ps s) (I:s.length<=60) (hd:Sl G QJ 4 pd ld) (ak:ld.length<=200) (z:PY P L=0->L.length<=8) (H:lim<=G.length) (O:NC G B4=Vc (netV pp P.length cp pl L.length cl))
  (f1:fr 1=.slice ps s.length cs) (f2:fr 2=Vi to) (f3:fr 3=Vi dl) (f4:fr 4=Vp B4) (f10:fr 10=Vi (OD P L s to dl)) (f11:fr 11=Vi a) (f12:fr 12=Vi (OD P L s to dl)) (f13:fr 13=.slice pd ld.length cd) (f14:fr 14=Vp B14) (f15:fr 15=Vi (OD P L s to dl))
  (k:NC G B14=Vc [.slice pt TL.length ct,.slice q1 D1.length c1]) (sT:Sl G encI 1 pt TL) (sD:Sl G QJ 4 q1 D1) (an:TL.length<2 ^ 62) (ao:D1.length<2 ^ 40)
  (C:OD P L s to dl≠0->TL=[]/\D1=[]) (au:OD P L s to dl=0->TL=Sm (VL s (NN L to dl) to dl) P/\D1.Perm (TF (VL s (NN L to dl) to dl) (NN L to dl))/\D1.Pairwise (fun x y=>¬RD y x))
  (F:(OD P L s to dl≠0/\ld=[])\/(OD P L s to dl=0/\Ur P L s to dl ld=(a,true))) :
  PQ E a9 lim [.code mT9] fr G fun v _=>v=.bool true:=by
 rw [NP mT9.eq_1]
 have k4:=fun Z=>(NZ.refl.app (X:=Z)).cells O
 have ba:=ND O
 have a2:=ND k
 refine NI ?_
 simp only [n9,f1,f2,f3,f4,k4,OC,SB,seval,NE,NG,place]
 refine M8 (hs.app _) (by omega) (by simp) fun W p4 c4 h r=>?_
 have ap:=r.len
 simp only [Nb,Nk,Nl] at ap h
 have m:Chg [] G W:=r.pre
 have a1:=m.cells k (by simp)
 have a4:=m.cells O (by simp)
 obtain ⟨G5,e5,k5,m5⟩:=OO (G:=W) (R:=G.length) (by omega) (Vc [Vz,Vz])
 obtain ⟨G6,e6,k6,m6⟩:=OO (ND k5) .dead
 have bb:=m5.len
 have bc:=m6.len
 have w:Chg [] G G6:=(m.mut m5 (.inr (Ng _))).mut m6 (.inr (Ng _))
 have ai:=(h.mut m5 fun a d e=>by have:=(h.block d).1;omega).mut m6 fun a d e=>by have:=(h.block d).1;omega
 have u5:W.set G.length (Vc [Vz,Vz])=G5:=by have:=e5 [];rwa [Na,Na] at this
 rw [Nna (b:=G.length) (c:=Vc [Vz,Vz]) NQ,u5]
 refine NI ?_
 simp only [n9,e6,SB,seval,NE]
 refine Npx ((hn.ext w.ext).app _) ((ai.sl OP).app _) (by omega) z (by simp;omega) fun Y ay p aw aa o V j i aj am t=>?_
 have aq:=t.len
 simp only [Nb,Nl,Od] at aq j i
 have ac:o=TL/\V=D1:=by
  by_cases d:OD P L s to dl=0
  ·obtain ⟨x1,x2,x3⟩:=au d
   obtain ⟨y1,N,y3⟩:=am d
   refine ⟨by rw [x1,y1],XN (N.trans x2.symm) y3 x3 fun x hx y hy=>?_⟩
   exact Nrp (RU d) x (N.mem_iff.1 hx) y (N.mem_iff.1 hy)
  ·obtain ⟨x1,x2⟩:=C d
   obtain ⟨y1,N⟩:=aj d
   rw [x1,x2,y1,N];exact ⟨rfl,rfl⟩
 obtain ⟨rfl,rfl⟩:=ac
 have ah:Chg [] G Y:=w.trans (Chg.pre t)
 obtain ⟨G8,e8,k8,S⟩:=OO (G:=Y) (R:=G.length) (by omega) (Vc [Vz,Vz])
 obtain ⟨G9,e9,k9,T⟩:=OO (ND k8) (Vc [.slice ay o.length p,.slice aw V.length aa])
 have bd:=S.len
 have be:=T.len
 have u8:Y.set G.length (Vc [Vz,Vz])=G8:=by have:=e8 [];rwa [Na,Na] at this
 have f:Chg [] G G9:=(ah.mut S (.inr (Ng _))).mut T (.inr (Ng _))
 have av:=fun Z=>(NZ.refl.app (X:=Z)).cells k8
 have M:=fun Z=>(NZ.refl.app (X:=Z)).cells k9
 have K:=fun Z=>(NZ.refl.app (X:=Z)).cells (f.cells k (by simp))
 have U:∀{α:Type} {q:Option Addr} {l:List α},∀a:Addr,q=some a->l≠[]->a.block∉([]:List Nat):=fun _ _ _=>by simp
 have a0:=f.sl sT U
 have az:=f.sl sD U
 have B:=(j.mut S fun a d e=>by have:=(j.block d).1;omega).mut T fun a d e=>by have:=(j.block d).1;omega
 have A:=(i.mut S fun a d e=>by have:=(i.block d).1;omega).mut T fun a d e=>by have:=(i.block d).1;omega
 have J:=fun Z (mp:Bool) (lim:Nat) (Q:Value->NA->Prop)=>VZ (mp:=mp) (lim:=lim) (ca:=ct) (cb:=p) (Q:=Q) (a0.app Z) ((B.sl PG).app Z) an
 simp only [decide_true] at J
 rw [Nna (b:=G.length) (c:=Vc [Vz,Vz]) ((NZ.refl.app).cells k5),u8]
 refine NI ?_
 simp only [n9,av,e9,M,K,f10,f12,f14,f15,J,H,SB,seval,NE,NG,NF,QV,NB]
 refine N58 (D:=V) (v1:=.slice ps s.length cs) (v2:=Vi to) (v3:=Vi dl) (v4:=Vp B4) (v11:=Vi a) (v12:=Vi (OD P L s to dl)) (v13:=.slice pd ld.length cd) (K _) (M _) (az.app _) ((A.sl NV).app _) ao (by simp;omega) f1 f2 f3 f4 f11 f12 f13 f14 rfl rfl fun a5 n g1 g2 g3 g4 ad ae ag hE=>?_
 have u:NZ G9 n:=NZ.trans (NZ.refl.app) hE
 have g:Chg [] G n:=f.trans u.chg
 exact N3f (hn.ext g.ext) (g.sl hs U) I (g.sl hd U) ak z (by have:=u.len;omega) (g.cells O (by simp)) g1 g2 g3 g4 ad ae ag F
theorem Ns5 [OB] {mp:Bool} {lim:Nat} {pp pl ps:Option Addr} {P:List Int} {L:List Leg} {s:List Flow.Src} {cp cl cs:Nat} {to dl:Int} {H:NA} {Q:Value->NA->Prop} (hn:NetIn H pp pl P L) (p:Sl H encS 3 ps s) (r:s.length<=60) (j:PY P L=0->L.length<=8) :
  NR E mp lim 9 [.agg (netV pp P.length cp pl L.length cl).toArray,.slice ps s.length cs,Vi to,Vi dl] H Q=Q (.bool true) H:=by
 refine pc (by decide) e9 rfl rfl ?_
 rw [b9,c9,<-tT9.eq_1,<-mT9.eq_1]
 have aa:H.length<=H.length:=Ng _
 have m:s.length<2 ^ 63:=by omega
 have S:=fun Z (mp:Bool) (lim:Nat) (Q:Value->NA->Prop)=>Nnv (mp:=mp) (lim:=lim) (cp:=cp) (cl:=cl) (cs:=cs) (to:=to) (dl:=dl) (Q:=Q) (hn.app Z) (p.app Z) m j
 have nh:∀{α:Type} {q:Option Addr} {l:List α},∀a:Addr,q=some a->l≠[]->a.block∉([]:List Nat):=fun _ _ _=>by simp
 simp only [n9,OC,S,SB,seval,NE,NG,NK,place,NB]
 refine M8 (p.app _) (by omega) (by simp) fun G1 p1 c1 K t=>?_
 have O:=t.len
 simp only [Nb,Nk,Nl] at O
 have h4:NC G1 H.length=Vc (netV pp P.length cp pl L.length cl):=t.cells NQ (by simp)
 have o:Chg [] H G1:=t.pre
 have W:=hn.ext o.ext
 have U:=fun Z (mp:Bool) (lim:Nat) (Q:Value->NA->Prop)=>Ntf (mp:=mp) (lim:=lim) (cn:=cp) (cl:=cl) (cs:=c1) (to:=to) (dl:=dl) (Q:=Q) (W.app Z) ((K.sl OP).app Z) m j
 have V:=fun Z=>(NZ.refl.app (X:=Z)).cells h4
 rw [WY]
 refine NI ?_
 simp only [n9,OC,U,V,SB,seval,NE,NG,NF,NK]
 have I:=o.ext.sl p
 by_cases d:OD P L s to dl=0
 case neg=>
  refine Nto (W.app _) (I.app _) m (by simp;omega) d fun J e=>?_
  have v:=e.len
  simp only [Nb,Nl,Od] at v
  have f:Chg [] H J:=o.trans e.pre
  have n:=fun Z=>(NZ.refl.app (X:=Z)).cells (e.cells (V []) (by simp))
  refine NI ?_
  simp only [n9,OC,n,SB,seval,NE,NG,NK]
  refine Nxq ((hn.ext f.ext).app _) ((f.ext.sl p).app _) m (by simp;omega) d fun y b=>?_
  have w:=b.len
  simp only [Nb,Nl,Od] at w
  have k:Chg [] H y:=f.trans b.pre
  have x:=fun Z=>(NZ.refl.app (X:=Z)).cells (b.cells (n []) (by simp))
  refine NI ?_
  simp only [n9,show H.length<=y.length by omega,SB,seval,NG,place,NB]
  exact N37 (pd:=none) (ld:=[]) (cd:=0) (pt:=none) (TL:=[]) (D1:=[]) ((hn.ext k.ext).app _) ((k.ext.sl p).app _) r ((Own.nil (lim:=0)).sl NV) (by simp) j (by simp;omega) (x _) rfl rfl rfl rfl rfl rfl rfl rfl rfl rfl NQ ((Own.nil (lim:=0)).sl PG) ((Own.nil (lim:=0)).sl NV) (by simp) (by simp) (fun _=>⟨rfl,rfl⟩) (fun h=>absurd h d) (.inl ⟨d,rfl⟩)
 have z:=j (RU d)
 have u:=Nz1 hn p m j d
 have R:Nag P L s to dl=We s (NN L to dl) to dl:=Nh d
 have ad:=(UV (RU d)).1
 refine Nnp (W.app _) (I.app _) z (by simp;omega) d fun J q2 c2 SD SL l A g F M e=>?_
 have v:=e.len
 simp only [Nb,Nl,Od] at v A
 have f:Chg [] H J:=o.trans e.pre
 have n:=fun Z=>(NZ.refl.app (X:=Z)).cells (e.cells (V []) (by simp))
 refine NI ?_
 simp only [n9,OC,n,SB,seval,NE,NG,NK]
 refine bind_ok ((hn.ext f.ext).app _) ((f.ext.sl p).app _) z (by omega) (by simp;omega) d fun y pt ct q c Y D B i G b=>?_
 have w:=b.len
 simp only [Nb,Nl,Od] at w D B
 have k:Chg [] H y:=f.trans b.pre
 have x:=fun Z=>(NZ.refl.app (X:=Z)).cells (b.cells (n []) (by simp))
 refine NI ?_
 simp only [n9,show H.length<=y.length by omega,SB,seval,NG,place,NB]
 have ac:=S9 (to:=to) (dl:=dl) (Sy d).net.fine
 have ag:SD.length<=112:=by
  have:=Yx (C:=NN L to dl) (l:=l.drop (PH SL 2++Sg SL to dl s).length)
  rw [g.length_eq];omega
 have ae:Y.length<=112:=by
  have:=Nc7 (T:=VL s (NN L to dl) to dl) (C:=NN L to dl)
  rw [i.length_eq];omega
 have N:(Sm (VL s (NN L to dl) to dl) P).length=P.length:=by unfold Sm;simp
 exact N37 (pd:=q2) (ld:=SD) (cd:=c2) (pt:=pt) (TL:=Sm (VL s (NN L to dl) to dl) P) (D1:=Y) (a:=Nag P L s to dl) ((hn.ext k.ext).app _) ((k.ext.sl p).app _) r ((b.sl ((A.sl NV).app _) nh).app _) (by omega) j (by simp;omega) (x _) rfl rfl rfl rfl (by rw [d];exact rfl) rfl rfl rfl rfl (by rw [d];exact rfl) (by rw [N];exact NQ) ((D.sl PG).app _) ((B.sl NV).app _) (by omega) (by omega) (fun h=>absurd d h) (fun _=>⟨rfl,i,G⟩) (.inr ⟨d,by rw [R];exact (Nk8 d u g F M).1⟩)
end Go.Proofs.YtohnaffmcjbpoaaGreat.Fn


namespace Go.Proofs.YtohnaffmcjbpoaaGreat.Fn
open Go.AM Go.AM.Sym Go.Net
theorem Ngg {a b:Leg}:aEq (.agg [.int .i64,.int .i64,.int .i64,.int .i64,.int .i64,.int .i64,.int .i64,.int .u8]) (.agg (encL a).toArray) (.agg (encL b).toArray)=some (decide (a=b)):=by
 simp only [aEq,encL,PM,Uh,and_self,if_true]
 congr 1
 rw [Qw]
 cases a;cases b
 simp []
theorem Mc {α:Type} {lim R e bytes cap k b:Nat} {dest:Option Nat} {H:NA} {enc:α->List Value} {old:List α} {x:α} {ro:Bool} {rest:List Value} (he:∀x,(enc x).length=e) (h:e≠0) (j:NC H b=.cells ro (enc x)) (a:NC H R=Vc (old.flatMap enc++rest)) (hl:lim<=R)
  (hc:old.length+1<=cap) (hr:rest.length=(cap-old.length)*e) (f:cap<2 ^ 61) (m:(old.length+1)*bytes<=OT) :
  OJ lim dest e bytes false (.slice (Sa R) old.length cap) (.slice (Sa b) 1 k) H=some (.slice (Sa R) (old.length+1) cap,H.set R (Vc ((old++[x]).flatMap enc++rest.drop e))):=by
 have g:=ND a
 have d:AM.loadCells H ⟨b,0,none⟩ (1*e)=some (enc x):=by
  rw [PT,j]
  simp only [Ny,Pa,Nat.one_mul]
  rw [Nh (by rw [he];exact Ng _),<-he x,Of]
 have i:e<=rest.length:=by rw [hr];exact Nat.le_mul_of_pos_left e (by omega)
 have l:AM.loadCells H ⟨R,0,none⟩ (old.length*e)=some (old.flatMap enc):=by
  rw [PT,a]
  simp only [Ny,Pa]
  rw [Nh (by rw [Nb,PX he];omega),<-PX he,List.take_left]
 have c:AM.storeAt lim H (Addr.add ⟨R,0,none⟩ (old.length*e)) (enc x)=some (H.set R (Vc ((old++[x]).flatMap enc++rest.drop e))):=by
  simp only [addr_add,Tq,a,Ny]
  rw [Nh ⟨hl,by rw [Nb,PX he,he];omega⟩]
  have:=YW (enc x) (old.flatMap enc) (rest.take e) (rest.drop e) (by rw [he,N6];omega)
  rw [Nr,Pu,PX he] at this
  rw [this,Oy,N2,Qs,Na]
 simp only [OJ,firstCells,lenOf,d,l,c,if_false,N8,Nat.one_ne_zero]
 rw [Nf (by omega),Nf (by unfold loose;omega),Nh (by omega),Nh (by omega)]
theorem Nc1 (x:Leg):aEq (.agg [.int .i64,.int .i64,.int .i64,.int .i64,.int .i64,.int .i64,.int .i64,.int .u8]) (.agg (encL x).toArray) (.agg (encL x).toArray)=some true:=by
 rw [Ngg,No rfl]
def Nah (i:Nat):Int:=8000024+(i:Int)
def TD:List Int:=(List.range 12).map Nah
theorem VH:TD.length=12:=by simp [TD]
theorem Nff {i:Nat} (h:i<12):gt TD i=Nah i:=by
 rw [OI (by rw [VH];exact h)];simp [TD]
def Ncq (i:Nat):Leg:=⟨8000024+(i:Int),0,0,0,0,0,0,0⟩
def TJ:List Leg:=(List.range 12).map Ncq
theorem VG:TJ.length=12:=by simp [TJ]
theorem Nfe {i:Nat} (h:i<12):gt TJ i=Ncq i:=by
 rw [OI (by rw [VG];exact h)];simp [TJ]
theorem Nun [OB] {mp:Bool} {lim i:Nat} {k:Int} {H:NA} {Q:Value->NA->Prop} (d:0<=k/\k<=10) (hi:i<10000000) :
  NR E mp lim 47 [Vi k,Vi i] H Q=Q (Vi (1000003*(k+7)+(i:Int))) H:=by
 have a:IntKind.i64.wrap (k+7)=k+7:=NY (by omega) (by omega)
 have b:IntKind.i64.wrap (1000003*(k+7))=1000003*(k+7):=NY (by omega) (by omega)
 have c:IntKind.i64.wrap (1000003*(k+7)+(i:Int))=1000003*(k+7)+(i:Int):=NY (by omega) (by omega)
 refine pc (by decide) e47 rfl rfl ?_
 rw [b47,c47]
 simp only [n47,r47,a,b,c,SB,Nat.reduceLT,NG,Nat.reduceEqDiff,NF,reduceCtorEq,NK,NH]
theorem Ncr [OB] {mp:Bool} {lim:Nat} {i:Nat} {H:NA} {Q:Value->NA->Prop} (hi:i<1000) :
  NR E mp lim 47 [Vi 1,Vi i] H Q=Q (Vi (8000024+(i:Int))) H:=by
 rw [Nun ⟨by decide,by decide⟩ (by omega)];rfl
theorem Nje [OB] {mp:Bool} {lim:Nat} {i:Nat} {H:NA} {Q:Value->NA->Prop} (hi:i<1000) :
  NR E mp lim 48 [Vi 1,Vi i] H Q=Q (.agg (encL (Ncq i)).toArray) H:=by
 have a:=fun (mp:Bool) (lim:Nat) (H:NA) (Q:Value->NA->Prop)=>Ncr (mp:=mp) (lim:=lim) (H:=H) (Q:=Q) hi
 refine pc (by decide) e48 rfl rfl ?_
 rw [b48,c48]
 simp only [n48,r48,a,SB,Nat.reduceLT,NE,NG,Nat.reduceEqDiff,reduceCtorEq,NK,place,NB,Nat.reduceAdd,NH]
 rfl
theorem ZU {e R n k c:Nat} (hc:n<=c) (h2:c<2 ^ 62) (h:k<=c):Uc e (.slice (Sa R) n c) none (some (Vi k)) none=some (.slice (Sa R) k c):=by
 have a:bounds unV n c none (some (.const (Vi k))) none=some (0,k,c):=by
  have:=Nmv (len:=n) (cap:=c) (k1:=.i64) (h:=(k:Int)) (by omega) (by omega)
  rw [Ov] at this
  exact this
 unfold Uc TW
 simp only [N0,Ou]
 rw [Nf (by unfold loose;omega),Nh h2,a]
 simp only [addr_add,Qn,Od,Nat.sub_zero,ite_self]
theorem Nut [OB] {lim c:Nat} {p:Option Addr} {S:List Int} {H:NA} {Q:Value->NA->Prop} (P:Sl H encI 1 p S) (hn:S.length<=2010) (hl:lim<=H.length)
  (O:∀G,NC G H.length=Vc ((S++TD).flatMap encI)->Chg [] H G->Q (.slice (Sa H.length) S.length (S.length+12)) (G++[])) :
  NR E false lim 25 [.slice p S.length c] H Q:=by
 refine SE (by decide) e25 rfl ?_
 rw [b25,c25]
 have C:IntKind.i64.wrap ((S.length:Int)+12)=((S.length+12:Nat):Int):=by rw [NY (by omega) (by omega)];omega
 have u:((S.length+12:Nat):Int)*8<=2 ^ 45:=by omega
 have v:((S.length+12:Nat):Int)<2 ^ 62:=by omega
 have y:(0:Int)<=((S.length+12:Nat):Int):=by omega
 have m:∀z:List Value,z.length=(S.length+12)*1->∃G1 J,J.length=12*1/\NC G1 H.length=Vc (S.flatMap encI++J)/\Chg [] H G1/\
   OJ lim none 1 8 false (.slice (Sa H.length) 0 (S.length+12)) (.slice p S.length c) (H++[Vc z])=some (.slice (Sa H.length) S.length (S.length+12),G1++[]):=fun z d=>by
  have:=Ma (lim:=lim) (R:=H.length) (bytes:=8) (cap:=S.length+12) (k:=c) (enc:=encI) (old:=[]) (l:=S) (rest:=z) PG (by decide) (P.app [Vc z]) (by rw [NQ];rfl) hl (by simp) (by rw [d];simp) (by omega) (by unfold OT;simp;omega)
  rw [Nl,Ny,Oa] at this
  refine ⟨_,z.drop (S.length*1),by rw [Ps,d];omega, ?_, ?_,by rw [Na];exact this⟩
  ·exact Tt (by simp)
  ·exact Chg.refl.app.set (.inr (Ng _))
 simp only [n25,C,u,v,y,Ov,R4,SB,Nat.reduceLT,NG,Nat.reduceEqDiff,NF,reduceCtorEq,NK,place,Int.reduceLE]
 obtain ⟨G1,z,d,t,s,e1⟩:=m ((List.range ((S.length+12)*1)).map fun j=>[Value.int .i64 0].getD (j % 1) undef) (by rw [On,Rg])
 simp only [n25,e1,SB,Nat.reduceLT,NG]
 refine NL (fun i=>12-i) (fun i fr G=>i<=12/\fr 0=.slice p S.length c/\fr 3=.slice (Sa H.length) (S.length+i) (S.length+12)/\fr 4=Vi i/\(∃z,z.length=(12-i)*1/\NC G H.length=Vc ((S++TD.take i).flatMap encI++z))/\Chg [] H G) 0
  ⟨Nx _,rfl,(by simp only [Od,FB,Nat.reduceEqDiff]),by rfl,⟨z,d,by rw [P8,Na,Na];exact t⟩,s.app⟩ ?_
 rintro i fr G ⟨hi,g0,D,F,⟨z,d,o⟩,r⟩ N
 rw [NP N1e.eq_1]
 refine NI ?_
 have M:=r.len
 have f:=ND o
 by_cases h:i<12
 ·have K:(i:Int)<12:=by omega
  have A:IntKind.i64.wrap ((i:Int)+1)=((i+1:Nat):Int):=NS (by omega)
  have w:=fun (mp:Bool) (lim:Nat) (H:NA) (Q:Value->NA->Prop)=>Ncr (mp:=mp) (lim:=lim) (H:=H) (Q:=Q) (by omega:i<1000)
  have q:(S++TD.take i).length=S.length+i:=by rw [Nb,N6,VH];omega
  obtain ⟨T,e3,L,I⟩:=OO (G:=G) (R:=H.length) f (Vc ((((S++TD.take i)++[Nah i]).flatMap encI)++z.drop 1))
  have a:=Mc (lim:=lim) (R:=H.length) (bytes:=8) (cap:=S.length+12) (k:=1) (b:=G.length) (dest:=none) (H:=G++[Vc (encI (Nah i))]) (enc:=encI) (old:=S++TD.take i) (x:=Nah i) (ro:=false) (rest:=z) PG (by decide)
   (by rw [NQ];rfl) (by rw [NJ f];exact o) hl (by rw [q];omega) (by rw [q,d];congr 1;omega) (by omega) (by rw [q];unfold OT;omega)
  rw [q,e3] at a
  simp only [encI,Nah] at a
  simp only [n25,D,F,Nq K,w,A,a,SB,Nat.reduceLT,NE,NG,Nat.reduceEqDiff,NF,place]
  refine N (i+1) _ _ ⟨by omega,g0,(by simp only [FB,Nat.reduceEqDiff]),rfl,⟨z.drop 1,by rw [Ps,d];omega, ?_⟩,(r.mut I (.inr (Ng _))).app⟩ (by omega)
  rw [NJ (by rw [I.len];exact f),L,Nr S,<-Nff h,OI (by rw [VH];exact h),<-O0]
 ·obtain rfl:i=12:=by omega
  have B:z=[]:=List.length_eq_zero_iff.mp d
  rw [B,Na,Ol (by rw [VH];exact Ng _)] at o
  have g:=ZU (e:=1) (R:=H.length) (n:=S.length+12) (k:=S.length) (c:=S.length+12) (Ng _) (by omega) (by omega)
  simp only [n25,r25,g0,D,F,g,SB,Nat.reduceLT,NG,Nat.reduceEqDiff,NF,reduceCtorEq,NH,Int.reduceLT]
  exact O G o r
theorem Nv5 [OB] {mp:Bool} {lim c R:Nat} {p:Option Addr} {S:List Int} {H:NA} {Q:Value->NA->Prop} (y:Sl H encI 1 p S) (hn:S.length<=2010) (z:NC H R=Vc ((S++TD).flatMap encI)) :
  NR E mp lim 33 [.slice (Sa R) S.length (S.length+12),.slice p S.length c] H Q=Q (.bool true) H:=by
 refine pc (by decide) e33 rfl rfl ?_
 rw [b33,c33]
 have v:IntKind.i64.wrap ((S.length:Int)+12)=((S.length+12:Nat):Int):=by rw [NY (by omega) (by omega)];omega
 have h:=ZU (e:=1) (R:=R) (n:=S.length) (k:=S.length+12) (c:=S.length+12) (by omega) (by omega) (Ng _)
 simp only [n33,v,h,SB,Nat.reduceLT,NG,Nat.reduceEqDiff,NF,reduceCtorEq,NK]
 have A:(S++TD).length=S.length+12:=by rw [Nb,VH]
 have w:Sl H encI 1 (Sa R) (S++TD):=Sl.row PG z
 refine NL (fun i=>S.length+12-i) (fun i fr G=>i<=S.length+12/\fr 1=.slice p S.length c/\fr 5=.slice (Sa R) (S.length+12) (S.length+12)/\fr 6=Vi i/\G=H) 0
  ⟨Nx _,rfl,rfl,by rfl,by simp⟩ ?_
 rintro i fr G ⟨hi,g1,g,o,rfl⟩ x
 rw [NP N08.eq_1]
 refine NI ?_
 by_cases d:i<S.length+12
 case neg=>
  simp only [n33,r33,g,o,SH,d,SB,Nat.reduceLT,NG,Nat.reduceEqDiff,NF,NH]
 have m:IntKind.i64.wrap ((i:Int)+1)=((i+1:Nat):Int):=NS (by omega)
 have b:=Um (i:=i) w (by omega)
 have f:=fun c (k:IntKind) (H1:NA)=>w.idx (c:=c) (k:=k) (H1:=H1) (by omega:i<(S++TD).length)
 rw [A] at f
 by_cases a:i<S.length
 ·have u:=Um (i:=i) y a
  have t:=fun c (k:IntKind) (H1:NA)=>y.idx (c:=c) (k:=k) (H1:=H1) a
  rw [Sk a] at b
  have c2:¬S.length<=i:=by omega
  simp only [n33,g1,g,o,SH,d,a,b,f,u,t,eq_self,decide_true,Qv,m,Vf,c2,SB,Nat.reduceLT,NG,Nat.reduceEqDiff,NF,QV]
  exact x (i+1) _ _ ⟨by omega,g1,g,rfl,by simp⟩ (by omega)
 ·have j:IntKind.i64.wrap ((i:Int)-(S.length:Int))=((i-S.length:Nat):Int):=by rw [NY (by omega) (by omega)];omega
  have s:=fun (mp:Bool) (lim:Nat) (H:NA) (Q:Value->NA->Prop)=>Ncr (mp:=mp) (lim:=lim) (H:=H) (Q:=Q) (by omega:i-S.length<1000)
  have q:gt (S++TD) i=Nah (i-S.length):=by
   have:=Uj (l:=S) (r:=TD) (i:=i-S.length)
   rw [show S.length+(i-S.length)=i by omega,Nff (by omega)] at this
   exact this
  rw [q] at b
  simp only [Nah] at b
  have c2:S.length<=i:=by omega
  simp only [n33,g1,g,o,SH,d,a,b,f,j,s,eq_self,decide_true,Qv,m,Vf,c2,SB,Nat.reduceLT,NE,NG,Nat.reduceEqDiff,NF,QV]
  exact x (i+1) _ _ ⟨by omega,g1,g,rfl,by simp⟩ (by omega)
theorem Nus [OB] {lim c:Nat} {p:Option Addr} {S:List Leg} {H:NA} {Q:Value->NA->Prop} (V:Sl H encL 8 p S) (hn:S.length<=2010) (hl:lim<=H.length)
  (U:∀G,NC G H.length=Vc ((S++TJ).flatMap encL)->Chg [] H G->Q (.slice (Sa H.length) S.length (S.length+12)) (G++[])) :
  NR E false lim 26 [.slice p S.length c] H Q:=by
 refine SE (by decide) e26 rfl ?_
 rw [b26,c26]
 have F:IntKind.i64.wrap ((S.length:Int)+12)=((S.length+12:Nat):Int):=by rw [NY (by omega) (by omega)];omega
 have v:((S.length+12:Nat):Int)*64<=2 ^ 45:=by omega
 have w:((S.length+12:Nat):Int)<2 ^ 62:=by omega
 have A:(0:Int)<=((S.length+12:Nat):Int):=by omega
 have o:∀z:List Value,z.length=(S.length+12)*8->∃G1 L,L.length=12*8/\NC G1 H.length=Vc (S.flatMap encL++L)/\Chg [] H G1/\
   OJ lim none 8 64 false (.slice (Sa H.length) 0 (S.length+12)) (.slice p S.length c) (H++[Vc z])=some (.slice (Sa H.length) S.length (S.length+12),G1++[]):=fun z f=>by
  have:=Ma (lim:=lim) (R:=H.length) (bytes:=64) (cap:=S.length+12) (k:=c) (enc:=encL) (old:=[]) (l:=S) (rest:=z) NW (by decide) (V.app [Vc z]) (by rw [NQ];rfl) hl (by simp) (by rw [f];simp) (by omega) (by unfold OT;simp;omega)
  rw [Nl,Ny,Oa] at this
  refine ⟨_,z.drop (S.length*8),by rw [Ps,f];omega, ?_, ?_,by rw [Na];exact this⟩
  ·exact Tt (by simp)
  ·exact Chg.refl.app.set (.inr (Ng _))
 simp only [n26,F,v,w,A,Ov,R4,SB,Nat.reduceLT,NG,Nat.reduceEqDiff,NF,reduceCtorEq,NK,place,Nat.reduceAdd,Int.reduceLE]
 generalize m:List.map _ (List.range ((S.length+12)*8))=M
 have D:M.length=(S.length+12)*8:=by rw [<-m,On,Rg]
 clear m
 have a:=o M D
 refine a.elim fun G1 a=>a.elim fun z a=>?_
 have f:=a.1
 have u:=a.2.1
 have t:=a.2.2.1
 have e1:=a.2.2.2
 simp only [n26,e1,SB,Nat.reduceLT,NG]
 refine NL (fun i=>12-i) (fun i fr G=>i<=12/\fr 0=.slice p S.length c/\fr 3=.slice (Sa H.length) (S.length+i) (S.length+12)/\fr 4=Vi i/\(∃z,z.length=(12-i)*8/\NC G H.length=Vc ((S++TJ.take i).flatMap encL++z))/\Chg [] H G) 0
  ⟨Nx _,rfl,(by simp only [Od,FB,Nat.reduceEqDiff]),by rfl,⟨z,f,by rw [P8,Na,Na];exact u⟩,t.app⟩ ?_
 rintro i fr G ⟨hi,g0,I,J,⟨z,f,q⟩,s⟩ T
 rw [NP N1d.eq_1]
 refine NI ?_
 have P:=s.len
 have g:=ND q
 by_cases j:i<12
 ·have N:(i:Int)<12:=by omega
  have B:IntKind.i64.wrap ((i:Int)+1)=((i+1:Nat):Int):=NS (by omega)
  have y:=fun (mp:Bool) (lim:Nat) (H:NA) (Q:Value->NA->Prop)=>Nje (mp:=mp) (lim:=lim) (H:=H) (Q:=Q) (by omega:i<1000)
  have r:(S++TJ.take i).length=S.length+i:=by rw [Nb,N6,VG];omega
  obtain ⟨W,e3,O,K⟩:=OO (G:=G) (R:=H.length) g (Vc ((((S++TJ.take i)++[Ncq i]).flatMap encL)++z.drop 8))
  have d:=Mc (lim:=lim) (R:=H.length) (bytes:=64) (cap:=S.length+12) (k:=1) (b:=G.length) (dest:=none) (H:=G++[Vc (encL (Ncq i))]) (enc:=encL) (old:=S++TJ.take i) (x:=Ncq i) (ro:=false) (rest:=z) NW (by decide)
   (by rw [NQ];rfl) (by rw [NJ g];exact q) hl (by rw [r];omega) (by rw [r,f];congr 1;omega) (by omega) (by rw [r];unfold OT;omega)
  rw [r,e3] at d
  simp only [n26,I,J,Nq N,y,NW,B,d,SB,Nat.reduceLT,NE,NG,Nat.reduceEqDiff,NF,place,Nat.reduceAdd]
  refine T (i+1) _ _ ⟨by omega,g0,(by simp only [FB,Nat.reduceEqDiff]),rfl,⟨z.drop 8,by rw [Ps,f];omega, ?_⟩,(s.mut K (.inr (Ng _))).app⟩ (by omega)
  rw [NJ (by rw [K.len];exact g),O,Nr S,<-Nfe j,OI (by rw [VG];exact j),<-O0]
 ·obtain rfl:i=12:=by omega
  have C:z=[]:=List.length_eq_zero_iff.mp f
  rw [C,Na,Ol (by rw [VG];exact Ng _)] at q
  have h:=ZU (e:=8) (R:=H.length) (n:=S.length+12) (k:=S.length) (c:=S.length+12) (Ng _) (by omega) (by omega)
  simp only [n26,r26,g0,I,J,h,SB,Nat.reduceLT,NG,Nat.reduceEqDiff,NF,reduceCtorEq,NH,Int.reduceLT]
  exact U G q s
theorem Nv4 [OB] {mp:Bool} {lim c R:Nat} {p:Option Addr} {S:List Leg} {H:NA} {Q:Value->NA->Prop} (y:Sl H encL 8 p S) (hn:S.length<=2010) (z:NC H R=Vc ((S++TJ).flatMap encL)) :
  NR E mp lim 34 [.slice (Sa R) S.length (S.length+12),.slice p S.length c] H Q=Q (.bool true) H:=by
 refine pc (by decide) e34 rfl rfl ?_
 rw [b34,c34]
 have v:IntKind.i64.wrap ((S.length:Int)+12)=((S.length+12:Nat):Int):=by rw [NY (by omega) (by omega)];omega
 have h:=ZU (e:=8) (R:=R) (n:=S.length) (k:=S.length+12) (c:=S.length+12) (by omega) (by omega) (Ng _)
 simp only [n34,v,h,SB,Nat.reduceLT,NG,Nat.reduceEqDiff,NF,reduceCtorEq,NK]
 have A:(S++TJ).length=S.length+12:=by rw [Nb,VG]
 have w:Sl H encL 8 (Sa R) (S++TJ):=Sl.row NW z
 refine NL (fun i=>S.length+12-i) (fun i fr G=>i<=S.length+12/\fr 1=.slice p S.length c/\fr 5=.slice (Sa R) (S.length+12) (S.length+12)/\fr 6=Vi i/\G=H) 0
  ⟨Nx _,rfl,rfl,by rfl,by simp⟩ ?_
 rintro i fr G ⟨hi,g1,g,o,rfl⟩ x
 rw [NP N07.eq_1]
 refine NI ?_
 by_cases d:i<S.length+12
 case neg=>
  simp only [n34,r34,g,o,SH,d,SB,Nat.reduceLT,NG,Nat.reduceEqDiff,NF,NH]
 have m:IntKind.i64.wrap ((i:Int)+1)=((i+1:Nat):Int):=NS (by omega)
 have b:=fun X=>(w.app X).loadCells NW (by omega:i<(S++TJ).length)
 have f:=fun c (k:IntKind) (H1:NA)=>w.idx (c:=c) (k:=k) (H1:=H1) (by omega:i<(S++TJ).length)
 rw [A] at f
 by_cases a:i<S.length
 ·have u:=fun X=>(y.app X).loadCells NW a
  have t:=fun c (k:IntKind) (H1:NA)=>y.idx (c:=c) (k:=k) (H1:=H1) a
  rw [Sk a] at b
  have c2:¬S.length<=i:=by omega
  simp only [n34,g1,g,o,SH,d,a,b,f,u,t,Nc1,m,Vf,c2,SB,Nat.reduceLT,NG,Nat.reduceEqDiff,NF,QV]
  exact x (i+1) _ _ ⟨by omega,g1,g,rfl,by simp⟩ (by omega)
 ·have j:IntKind.i64.wrap ((i:Int)-(S.length:Int))=((i-S.length:Nat):Int):=by rw [NY (by omega) (by omega)];omega
  have s:=fun (mp:Bool) (lim:Nat) (H:NA) (Q:Value->NA->Prop)=>Nje (mp:=mp) (lim:=lim) (H:=H) (Q:=Q) (by omega:i-S.length<1000)
  have q:gt (S++TJ) i=Ncq (i-S.length):=by
   have:=Uj (l:=S) (r:=TJ) (i:=i-S.length)
   rw [show S.length+(i-S.length)=i by omega,Nfe (by omega)] at this
   exact this
  rw [q] at b
  have c2:S.length<=i:=by omega
  simp only [n34,g1,g,o,SH,d,a,b,f,j,s,Nc1,m,Vf,c2,SB,Nat.reduceLT,NE,NG,Nat.reduceEqDiff,NF,QV]
  exact x (i+1) _ _ ⟨by omega,g1,g,rfl,by simp⟩ (by omega)
theorem Nib [OB] {mp:Bool} {lim c c':Nat} {p j:Option Addr} {L:List Leg} {H:NA} {Q:Value->NA->Prop} (m:Sl H encL 8 p L) (f:Sl H encL 8 j L) (hn:L.length<2 ^ 62) :
  NR E mp lim 56 [.slice p L.length c,.slice j L.length c'] H Q=Q (.bool true) H:=by
 refine pc (by decide) e56 rfl rfl ?_
 rw [b56,c56]
 simp only [n56,SB,seval,NG,NF,reduceCtorEq,NK]
 refine NL (fun i=>L.length-i) (fun i fr G=>i<=L.length/\fr 0=.slice p L.length c/\fr 1=.slice j L.length c'/\fr 5=Vi i/\G=H) 0
  ⟨Nx _,rfl,rfl,by rfl,by simp⟩ ?_
 rintro i fr G ⟨hi,g0,g1,l,rfl⟩ n
 rw [NP N0w.eq_1]
 refine NI ?_
 by_cases a:i<L.length
 ·have g:=fun X=>(m.app X).loadCells NW a
  have e:=fun X=>(f.app X).loadCells NW a
  have d:=fun c (k:IntKind) (H1:NA)=>m.idx (c:=c) (k:=k) (H1:=H1) a
  have b:=fun c (k:IntKind) (H1:NA)=>f.idx (c:=c) (k:=k) (H1:=H1) a
  have h:IntKind.i64.wrap ((i:Int)+1)=((i+1:Nat):Int):=NS (by omega)
  simp only [n56,g0,g1,l,SH,a,d,b,g,e,Nc1,Qv,h,SB,seval,NG,NF,reduceCtorEq]
  exact n (i+1) _ _ ⟨by omega,g0,g1,rfl,by simp⟩ (by omega)
 ·obtain rfl:i=L.length:=by omega
  simp only [n56,r56,g0,l,SH,a,SB,seval,NG,NF,reduceCtorEq,NH]
theorem Nky [OB] {mp:Bool} {lim c1 c2 d1 d2:Nat} {pp pl d b:Option Addr} {P:List Int} {L:List Leg} {H:NA} {Q:Value->NA->Prop} (h1:NetIn H pp pl P L) (h2:NetIn H d b P L) (f:P.length<2 ^ 62) (e:L.length<2 ^ 62) :
  NR E mp lim 32 [.agg (netV pp P.length c1 pl L.length c2).toArray,.agg (netV d P.length d1 b L.length d2).toArray] H Q=Q (.bool true) H:=by
 refine pc (by decide) e32 rfl rfl ?_
 rw [b32,c32]
 have a:=fun X (mp:Bool) (lim:Nat) (Q:Value->NA->Prop)=>VZ (mp:=mp) (lim:=lim) (ca:=c1) (cb:=d1) (Q:=Q) (h1.sp.app X) (h2.sp.app X) f
 simp only [decide_true] at a
 have g:=fun X (mp:Bool) (lim:Nat) (Q:Value->NA->Prop)=>Nib (mp:=mp) (lim:=lim) (c:=c2) (c':=d2) (Q:=Q) (h1.sl.app X) (h2.sl.app X) e
 simp only [n32,r32,QA,Sj,a,g,SB,seval,NE,NG,NK,place,NB,NH]
structure LentN (G:NA) (b1 b2:Nat) (P:List Int) (L:List Leg):Prop where
 i:NC G b1=Vc ((P++TD).flatMap encI)
 l:NC G b2=Vc ((L++TJ).flatMap encL)
theorem LentN.net {G:NA} {b1 b2:Nat} {P:List Int} {L:List Leg} {pp pl:Option Addr} {H:NA} (h:LentN G b1 b2 P L) (hn:NetIn H pp pl P L):NetIn G (Sa b1) (Sa b2) P L:=
 ⟨(Sl.row PG h.i).pre PG,(Sl.row NW h.l).pre NW,hn.np,hn.nl,hn.bys⟩
theorem Nma [OB] {mp:Bool} {lim d1 d2 b1 b2:Nat} {b a:Option Addr} {P:List Int} {L:List Leg} {H:NA} {Q:Value->NA->Prop} (h1:LentN H b1 b2 P L) (h2:NetIn H b a P L) (h:P.length<=300) (g:L.length<=300) :
  NR E mp lim 10 [.agg (netV (Sa b1) P.length (P.length+12) (Sa b2) L.length (L.length+12)).toArray,.agg (netV b P.length d1 a L.length d2).toArray] H Q=Q (.bool true) H:=by
 refine pc (by decide) e10 rfl rfl ?_
 rw [b10,c10]
 have f:=fun X (mp:Bool) (lim:Nat) (Q:Value->NA->Prop)=>Nky (mp:=mp) (lim:=lim) (c1:=P.length+12) (c2:=L.length+12) (d1:=d1) (d2:=d2) (Q:=Q) ((h1.net h2).app X) (h2.app X) (by omega) (by omega)
 have d:=fun X (mp:Bool) (lim:Nat) (Q:Value->NA->Prop)=>Nv5 (mp:=mp) (lim:=lim) (c:=d1) (R:=b1) (Q:=Q) (h2.sp.app X) (by omega) ((NZ.refl.app (X:=X)).cells h1.i)
 have e:=fun X (mp:Bool) (lim:Nat) (Q:Value->NA->Prop)=>Nv4 (mp:=mp) (lim:=lim) (c:=d2) (R:=b2) (Q:=Q) (h2.sl.app X) (by omega) ((NZ.refl.app (X:=X)).cells h1.l)
 simp only [n10,r10,OC,QA,Sj,OH,f,d,e,SB,seval,NE,NG,NK,place,NB,NH]
theorem Nl1 [OB] {lim c1 c2:Nat} {pp pl:Option Addr} {P:List Int} {L:List Leg} {H:NA} {Q:Value->NA->Prop} (hn:NetIn H pp pl P L) (V:P.length<=300) (U:L.length<=300) (c:lim<=H.length)
  (O:∀G b1 b2,Chg [] H G->LentN G b1 b2 P L->H.length<=b1->H.length<=b2->Q (.agg (netV (Sa b1) P.length (P.length+12) (Sa b2) L.length (L.length+12)).toArray) G) :
  NR E false lim 8 [.agg (netV pp P.length c1 pl L.length c2).toArray] H Q:=by
 refine SE (by decide) e8 rfl ?_
 rw [b8,c8]
 simp only [n8,QA,SB,seval,NE,NG,NK,place,NB]
 refine Nut (hn.sp.app _) (by omega) (by simp;omega) fun G1 h1 b=>?_
 have e:Chg [] H G1:=b.pre
 have k1:NC G1 H.length=Vc (netV pp P.length c1 pl L.length c2):=b.cells (by rw [NQ];rfl) (by simp)
 have k2:NC G1 (H.length+1)=Vc [Vz,Vz]:=b.cells (by rw [OM];rfl) (by simp)
 obtain ⟨d,e2,h2,j⟩:=OO (ND k1) (Vc (netV (Sa (H.length+2)) P.length (P.length+12) pl L.length c2))
 have z:=fun X=>(NZ.refl.app (X:=X)).cells k1
 have o:=fun X=>(NZ.refl.app (X:=X)).cells h2
 have es:∀v,(netV pp P.length c1 pl L.length c2).set 0 v=[v,.slice pl L.length c2]:=fun v=>rfl
 have l:∀X,(G1++X).set H.length (Vc [.slice (Sa (H.length+2)) P.length (P.length+12),.slice pl L.length c2])=d++X:=e2
 refine NI ?_
 simp only [n8,OC,Sj,z,es,l,o,c,SB,seval,NE,NG,NB]
 have x:=b.len
 have R:=j.len
 simp at x
 have t:NC G1 (H.length+2)=Vc ((P++TD).flatMap encI):=by simpa using h1
 have u:NC d (H.length+2)=Vc ((P++TD).flatMap encI):=j.cells t (by omega)
 have f:Chg [] H d:=e.mut j (.inr (by omega))
 refine Nus ((f.sl hn.sl (by simp)).app _) (by omega) (by simp;omega) fun B C r=>?_
 have a:=r.pre
 have g:Chg [] H B:=f.trans a
 have S:=a.len
 have D:=a.cells h2 (by simp)
 have T:=a.cells (j.cells k2 (by omega)) (by simp)
 have w:=a.cells u (by simp)
 rw [Na] at C
 obtain ⟨F,J,M,k⟩:=OO (ND D) (Vc (netV (Sa (H.length+2)) P.length (P.length+12) (Sa d.length) L.length (L.length+12)))
 have h:=k.cells T (by omega)
 obtain ⟨I,K,N,A⟩:=OO (ND h) (Vc (netV (Sa (H.length+2)) P.length (P.length+12) (Sa d.length) L.length (L.length+12)))
 have y:=fun X=>(NZ.refl.app (X:=X)).cells D
 have p:=fun X=>(NZ.refl.app (X:=X)).cells M
 have i:=fun X=>(NZ.refl.app (X:=X)).cells h
 have q:=fun X=>(NZ.refl.app (X:=X)).cells N
 have n:∀v,(netV (Sa (H.length+2)) P.length (P.length+12) pl L.length c2).set 1 v=[.slice (Sa (H.length+2)) P.length (P.length+12),v]:=fun v=>rfl
 have m:∀X,(B++X).set H.length (Vc [.slice (Sa (H.length+2)) P.length (P.length+12),.slice (Sa d.length) L.length (L.length+12)])=F++X:=J
 refine NI ?_
 simp only [n8,r8,OC,OH,y,n,m,p,i,c,K,q,SB,seval,NG,NB,NH]
 have s:Chg [] H I:=(g.mut k (.inr (by omega))).mut A (.inr (by omega))
 exact O _ _ _ s.app ⟨(NZ.refl.app).cells (A.cells (k.cells w (by omega)) (by omega)),(NZ.refl.app).cells (A.cells (k.cells C (by omega)) (by omega))⟩ (by omega) (by omega)
end Go.Proofs.YtohnaffmcjbpoaaGreat.Fn


namespace Go.Proofs.YtohnaffmcjbpoaaGreat.Fn
open Go.AM Go.AM.Sym Go.Net Go.Flow
theorem Nx5 {a:Flow.Src}:aEq (.agg [.int .i64,.int .i64,.int .i64]) (.agg (encS a).toArray) (.agg (encS a).toArray)=some true:=by
 simp only [aEq,encS,PM,Uh,and_self,if_true]
 simp
theorem Nrr {lim b c:Nat} {p:Option Addr} {s:List Flow.Src} {G:NA} (d:NC G b=Vc []) (f:Sl G encS 3 p s) (hl:s.length<=60) :
  ∃G' e c',OJ lim none 3 24 false (.slice (Sa b) 0 0) (.slice p s.length c) G=some (.slice e s.length c',G'++[])/\NZ G G'/\Sl G' encS 3 e s:=by
 by_cases hn:s=[]
 ·subst hn
  refine ⟨G,Sa b,0, ?_,.refl,Sl.row (ro:=false) OP d⟩
  rw [Na]
  refine Nkd (by decide) (.inl rfl) (by decide) (by decide) (Ng _) ?_
  cases p with
  | none=>exact .inl rfl
  | some a=>exact .inr ⟨a,rfl⟩
 ·refine ⟨G++[Vc (s.flatMap encS)],Sa G.length,loose 3, ?_,NZ.refl.app,Sl.row (ro:=false) OP NQ⟩
  rw [Na]
  exact Nke d f (by decide) (by unfold OT;omega) (by omega) hn
theorem LoadTells_ok [OB] {lim:Nat} {pp pl ps:Option Addr} {P:List Int} {L:List Leg} {s:List Flow.Src} {cp cl cs:Nat} {to dl:Int} {H:NA} (G:OB.on 7=true) (hn:NetIn H pp pl P L) (O:Sl H encS 3 ps s) (U:s.length<2 ^ 63) :
  NR E false lim 3 [.agg (netV pp P.length cp pl L.length cl).toArray,.slice ps s.length cs,Vi to,Vi dl] H fun v _=>v=.bool true:=by
 refine Eq.mpr (pc (v:=.bool true) (by decide) e3 rfl rfl ?_) rfl
 rw [b3,c3]
 have M:=Nmz G
 have N:H.length<=H.length:=Ng _
 have e:=fun Z (mp:Bool) (lim:Nat) (Q:Value->NA->Prop)=>Nwj (mp:=mp) (lim:=lim) (cp:=cp) (cl:=cl) (ps:=ps) (n:=s.length) (cs:=cs) (Q:=Q) (hn.app Z)
 cases g1:MK P L s.length with
 | true=>
   rw [g1] at e
   simp only [n3,r3,OC,M,e,SB,seval,NE,NG,NK,place,NB,NH]
 | false=>
 rw [g1] at e
 have z:PY P L=0->L.length<=8:=fun V=>(Nwk g1 V).2.1
 have T:P.length<=260/\L.length<=260/\s.length<=60:=by
  unfold MK at g1
  simp only [Bool.or_eq_false_iff,decide_eq_false_iff_not] at g1
  omega
 obtain ⟨hP,hL,g⟩:=T
 simp only [n3,OC,e,SB,seval,NE,NG,NK,place,NB]
 refine Nl1 (hn.app _) (by omega) (by omega) (by simp) fun G1 b1 b2 h t A B=>?_
 have F:=h.len
 simp only [Nb,Nk,Nl] at F A B
 have R:NC G1 H.length=Vc (netV pp P.length cp pl L.length cl):=h.cells NQ (by simp)
 have y:Chg [] H G1:=h.pre
 refine NI ?_
 simp only [n3,OC,NM,show H.length<=G1.length by omega,SB,seval,NG,NK,place,NB]
 obtain ⟨m,d⟩:∃m,m=G1++[Vc (netV (Sa b1) P.length (P.length+12) (Sa b2) L.length (L.length+12)),Vc []]:=⟨_,rfl⟩
 have p:NZ G1 m:=by rw [d];exact NZ.refl.app
 have C:NC m G1.length=Vc (netV (Sa b1) P.length (P.length+12) (Sa b2) L.length (L.length+12)):=by rw [d];exact NQ
 have D:NC m (G1.length+1)=Vc []:=by rw [d];exact OM
 have q:Chg [] H m:=y.trans p.chg
 obtain ⟨x,p3,c3,e3,k,K⟩:=Nrr (lim:=H.length) (c:=cs) D (q.ext.sl O) g
 have r:Chg [] H x:=q.trans k.chg
 have b:=NZ.trans p k
 have W:=fun Z=>(b.app (X:=Z)).cells R
 have Y:=fun Z=>(k.app (X:=Z)).cells C
 have f:∀Z,LentN (x++Z) b1 b2 P L:=fun Z=>⟨(b.app).cells t.i,(b.app).cells t.l⟩
 have I:=fun Z (mp:Bool) (lim:Nat) (Q:Value->NA->Prop)=>Ns5 (mp:=mp) (lim:=lim) (cp:=P.length+12) (cl:=L.length+12) (cs:=c3) (to:=to) (dl:=dl) (Q:=Q) ((f Z).net hn) (K.app Z) g z
 have J:=hn.ext r.ext
 have u:=fun Z (mp:Bool) (lim:Nat) (Q:Value->NA->Prop)=>Nma (mp:=mp) (lim:=lim) (d1:=cp) (d2:=cl) (Q:=Q) (f Z) (J.app Z) (by omega) (by omega)
 rw [<-d,e3,Niq]
 simp only [n3,OC,W,Y,I,u,SB,seval,NE,NG,QV,NK]
 have w:=r.ext.sl O
 refine NL (fun j=>s.length-j) (fun j fr G'=>j<=s.length/\fr 1=.slice ps s.length cs/\fr 10=.slice p3 s.length c3/\fr 11=Vi j/\NZ x G') 0 ⟨Nx _,rfl,rfl,rfl,NZ.refl.app⟩ ?_
 intro j fr G' ⟨hj,f1,f10,f11,o⟩ S
 rw [NP N4c.eq_1]
 refine NI ?_
 by_cases a:j<s.length
 case neg=>simp only [n3,r3,f1,f11,a,M,SB,seval,NE,NG,NF,NH]
 have l1:∀Z,AM.loadCells (G'++Z) (Tk ps 3 j) 3=some (encS (gt s j)):=fun Z=>((o.sl w).app Z).loadCells OP a
 have l2:∀Z,AM.loadCells (G'++Z) (Tk p3 3 j) 3=some (encS (gt s j)):=fun Z=>((o.sl K).app Z).loadCells OP a
 have x1:=QM (o.sl w) a rfl
 have x2:=QM (o.sl K) a rfl
 have w1:IntKind.i64.wrap ((j:Int)+1)=((j+1:Nat):Int):=NS (by omega)
 simp only [n3,f1,f10,f11,a,l1,l2,x1,x2,Nx5,w1,SB,seval,NG,NF]
 exact S (j+1) _ _ ⟨by omega,f1,f10,rfl,o.app⟩ (by omega)
end Go.Proofs.YtohnaffmcjbpoaaGreat.Fn


