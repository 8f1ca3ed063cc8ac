/-
  Joined texts, 6 of 10. A part of the claim that the last text states.
-/
import Derived.Test.YtkppjkkkdpcgiaaGreatPC5
set_option linter.unusedVariables false
set_option linter.unusedSimpArgs false
set_option linter.defProp false
set_option linter.unusedSectionVars false
set_option maxRecDepth 100000
set_option maxHeartbeats 4000000
namespace Go.Proofs.YtkppjkkkdpcgiaaGreat.Fn
open Go.AM Go.AM.Sym Go.Net
def Tv (pp:Option Addr) (np cp:Nat) (pl:Option Addr) (nl cl:Nat):List Value:=[.slice pp np cp,.slice pl nl cl]
theorem PT {pp pl:Option Addr} {np cp nl cl:Nat}:(Tv pp np cp pl nl cl).length=2:=id rfl
theorem Sv {pp pl:Option Addr} {np cp nl cl:Nat}:(Tv pp np cp pl nl cl)[0]? = some (.slice pp np cp):=id rfl
theorem Su {pp pl:Option Addr} {np cp nl cl:Nat}:(Tv pp np cp pl nl cl)[1]? = some (.slice pl nl cl):=id rfl
structure NetIn (H:NE) (pp pl:Option Addr) (P:List Int) (L:List Leg):Prop where
 sp:Sl H encI 1 pp P
 sl:Sl H RA 8 pl L
 np:P.length<2 ^ 63
 nl:L.length<2 ^ 63
 bys:∀l∈L,By l
theorem NetIn.app {H:NE} {pp pl:Option Addr} {P:List Int} {L:List Leg} (h:NetIn H pp pl P L) (X:NE):NetIn (H++X) pp pl P L:=⟨h.sp.app X,h.sl.app X,h.np,h.nl,h.bys⟩
theorem NetIn.ext {H G:NE} {pp pl:Option Addr} {P:List Int} {L:List Leg} (h:NetIn H pp pl P L) (e:OH H G):NetIn G pp pl P L:=⟨e.sl h.sp,e.sl h.sl,h.np,h.nl,h.bys⟩
def Ur (ks:List Int):List (Value×Value):=ks.map fun k=>(Vi k,.bool true)
theorem Njm {ks:List Int} {a:Int} {i:Nat} (h:a∉ks):findKey (Vi a) (Ur ks) i=some none:=by
 unfold Ur
 exact XR (f:=fun k:Int=>k) (g:=fun _=>.bool true) fun x b e=>h (e▸b)
theorem Ndj {ks:List Int} {a:Int} {i:Nat} (h:a∈ks):∃j,findKey (Vi a) (Ur ks) i=some (some (j,.bool true)):=by
 unfold Ur
 exact YI (f:=fun k:Int=>k) (g:=fun _=>.bool true) ⟨a,h,rfl⟩ fun _ _ _=>rfl
theorem Nr8 {ks:List Int} {a:Int}:Ur ks++[(Vi a,.bool true)]=Ur (ks++[a]):=by simp [Ur]
def pOk (P:List Int) (i:Nat):Prop:=1<=gt P i/\gt P i<=999999/\gt P i∉P.take i
instance (P:List Int) (i:Nat):Decidable (pOk P i):=by unfold pOk;infer_instance
def Ui (P:List Int):Prop:=∀i,i<P.length->pOk P i
instance (P:List Int):Decidable (Ui P):=by unfold Ui;infer_instance
def lOk (P:List Int) (L:List Leg) (i:Nat):Prop:=Fine (gt L i)/\(gt L i).id∉(L.take i).map (·.id)/\(gt L i).frm∈P/\(gt L i).dst∈P
instance (P:List Int) (L:List Leg) (i:Nat):Decidable (lOk P L i):=by unfold lOk;infer_instance
def Wp (P:List Int) (L:List Leg):Prop:=∀i,i<L.length->lOk P L i
instance (P:List Int) (L:List Leg):Decidable (Wp P L):=by unfold Wp;infer_instance
def R7 (P:List Int) (L:List Leg):Int:=if 50<P.length\/200<L.length then 5 else if ¬Ui P then 320 else if ¬Wp P L then 321 else 0
theorem Nn7 [OB] {H G:NE} {pp pl:Option Addr} {P:List Int} {L:List Leg} {cp cl R:Nat} {fr:Nat->Value} {K:List AItem} {v:Value} (hn:NetIn G pp pl P L) (aa:NI G R=Vc (Tv pp P.length cp pl L.length cl))
  (Y:NI G (R+1)=.map (Ur P)) (hR:H.length<=R) (f1:fr 1=Vp R) (f3:fr 3=.map (some (R+1))) (Z:fr 6=.map (some G.length)) (O:fr 49=.slice pl L.length cl) (S:fr 50=Vi L.length) (T:fr 51=Vi 0)
  (I:¬Wp P L->v=Vi 321)
  (U:∀fr' G',Wp P L->PV E a12 H.length K fr' (G'++[]) fun v' _=>v'=v) :
  PV E a12 H.length (.code (.loop N0u)::.inBlock 2::K) fr (G++[.map []]) fun v' _=>v'=v:=by
 have W:=PR Y
 refine NS (fun i=>L.length-i) (fun i fr G'=>i<=L.length/\fr 3=.map (some (R+1))/\fr 6=.map (some G.length)/\fr 49=.slice pl L.length cl/\fr 50=Vi L.length/\fr 51=Vi i/\
  G.length<G'.length/\Sl G' RA 8 pl L/\NI G' (R+1)=.map (Ur P)/\NI G' G.length=.map (Ur ((L.take i).map (·.id)))/\∀j,j<i->lOk P L j) 0
  ⟨Nw _,f3,Z,O,S,T,by simp,hn.sl.app _,by rw [NR W];exact Y,NV,fun j hj=>by omega⟩ ?_
 intro i fr G' ⟨hi,B,C,f,g,n,hL,F,z,J,A⟩ hN
 rw [NU N0u.eq_1]
 refine NL ?_
 by_cases a:i<L.length
 ·have o:=Nat.le_of_lt hL
  have V:=hn.bys _ (QH a)
  have s:∀X,NI (G'++X) (R+1)=.map (Ur P):=fun X=>by rw [NR (PR z)];exact z
  have r:∀X,NI (G'++X) G.length=.map (Ur ((L.take i).map (·.id))):=fun X=>by rw [NR hL];exact J
  have q:=fun X=>(F.app X).loadCells OI a
  have d:=fun c (k:IntKind) (H1:NE)=>F.idx (c:=c) (k:=k) (H1:=H1) a
  have t:IntKind.i64.wrap ((i:Int)+1)=((i+1:Nat):Int):=OE (by have:=hn.nl;omega)
  have p:H.length<=G.length:=by omega
  have e:H.length<=G'.length:=by omega
  have l:=fun (H:NE) (mp:Bool) (lim:Nat) (Q:Value->NE->Prop)=>Nel (mp:=mp) (lim:=lim) (H:=H) (Q:=Q) V
  have u:¬lOk P L i->v=Vi 321:=fun h=>I fun hh=>h (hh i a)
  by_cases N:Fine (gt L i)
  ·rw [Np N] at l
   by_cases m:(gt L i).id∈(L.take i).map (·.id)
   ·obtain ⟨j,hj⟩:=Ndj (i:=0) m
    simp only [n12,r12,B,C,f,g,n,a,o,d,q,t,r,s,hj,l,OI,QQ,QP,QO,QN,QM,QL,QK,QJ,NH,e,SB,seval,NC,NJ,NG,NQ,reduceCtorEq,NB,place,NA,ND]
    exact (u fun h=>h.2.1 m).symm
   ·have hj:=Njm (i:=0) m
    by_cases x:(gt L i).frm∈P
    ·obtain ⟨j1,y⟩:=Ndj (i:=0) x
     by_cases w:(gt L i).dst∈P
     ·obtain ⟨j2,D⟩:=Ndj (i:=0) w
      simp only [n12,r12,B,C,f,g,n,a,o,d,q,t,r,s,hj,y,D,l,OI,QQ,QP,QO,QN,QM,QL,QK,QJ,NH,p,e,SB,seval,NC,NJ,NG,NQ,reduceCtorEq,NB,place,NA,ND]
      refine hN (i+1) _ _ ⟨by omega,B,C,f,g,rfl,by simp;omega, ?_, ?_, ?_,fun j hj=>?_⟩ (by omega)
      ·refine F.sim fun b ro c M=>?_
       rw [QV (by rintro rfl;rw [J] at M;cases M),NR (NM M)];exact M
      ·rw [QV (by omega),NR (PR z)];exact z
      ·rw [Vv (by simp;omega),Nr8,Xd a,Ou];rfl
      ·rcases Ol j i with h | h
       ·exact A j h
       ·obtain rfl:j=i:=by omega
        exact ⟨N,m,x,w⟩
     ·have D:=Njm (i:=0) w
      simp only [n12,r12,B,C,f,g,n,a,o,d,q,t,r,s,hj,y,D,l,OI,QQ,QP,QO,QN,QM,QL,QK,QJ,NH,p,e,SB,seval,NC,NJ,NG,NQ,reduceCtorEq,NB,place,NA,ND]
      exact (u fun h=>w h.2.2.2).symm
    ·have y:=Njm (i:=0) x
     simp only [n12,r12,B,C,f,g,n,a,o,d,q,t,r,s,hj,y,l,OI,QQ,QP,QO,QN,QM,QL,QK,QJ,NH,p,e,SB,seval,NC,NJ,NG,NQ,reduceCtorEq,NB,place,NA,ND]
     exact (u fun h=>x h.2.2.1).symm
  ·rw [N1 N] at l
   simp only [n12,r12,B,C,f,g,n,a,o,d,q,t,r,s,l,OI,QQ,QP,QO,QN,QM,QL,QK,QJ,NH,e,SB,seval,NC,NJ,NG,NQ,reduceCtorEq,NB,place,NA,ND]
   exact (u fun h=>N h.1).symm
 ·obtain rfl:i=L.length:=by omega
  simp only [n12,r12,B,C,f,g,n,a,SB,seval,NC,NJ,NG,NQ,reduceCtorEq,NB,place,NA,ND]
  exact U _ _ A
theorem Ndx [OB] {mp:Bool} {lim:Nat} {pp pl:Option Addr} {P:List Int} {L:List Leg} {cp cl:Nat} {H:NE} {Q:Value->NE->Prop} (hn:NetIn H pp pl P L) :
  NK E mp lim 12 [.agg (Tv pp P.length cp pl L.length cl).toArray] H Q=Q (Vi (R7 P L)) H:=by
 refine pc (by decide) e12 rfl rfl ?_
 rw [b12,c12]
 by_cases v:50<(P.length:Int)
 ·simp only [n12,r12,PT,Sv,Su,v,SB,seval,NC,NJ,NG,NQ,reduceCtorEq,NB,place,NA,ND]
  rw [R7,Ni (by omega)]
 by_cases q:200<(L.length:Int)
 ·simp only [n12,r12,PT,Sv,Su,v,q,SB,seval,NC,NJ,NG,NQ,reduceCtorEq,NB,place,NA,ND]
  rw [R7,Ni (by omega)]
 simp only [n12,r12,PT,Sv,Su,v,q,SB,seval,NC,NJ,NG,NQ,reduceCtorEq,NB,place,NA,ND]
 have z:R7 P L=if ¬Ui P then 320 else if ¬Wp P L then 321 else 0:=by rw [R7,Ng (by omega)]
 refine NS (fun i=>P.length-i) (fun i fr G=>i<=P.length/\fr 1=Vp H.length/\fr 3=.map (some (H.length+1))/\fr 24=.slice pp P.length cp/\fr 25=Vi P.length/\fr 26=Vi i/\
  H.length+1<G.length/\Sl G encI 1 pp P/\Sl G RA 8 pl L/\NI G H.length=Vc (Tv pp P.length cp pl L.length cl)/\NI G (H.length+1)=.map (Ur (P.take i))/\∀j,j<i->pOk P j) 0
  ⟨Nw _,rfl,rfl,rfl,rfl,by rfl,by simp,hn.sp.app _,hn.sl.app _,NV,OC,fun j hj=>by omega⟩ ?_
 intro i fr G ⟨hi,h1,u,f,g,l,hL,o,y,x,B,r⟩ F
 rw [NU N64.eq_1]
 refine NL ?_
 have D:=fun X=>(OH.refl.app (X:=X)).cells x
 have n:∀X,NI (G++X) (H.length+1)=.map (Ur (P.take i)):=fun X=>by rw [NR hL];exact B
 have C:H.length<=H.length+1:=by omega
 by_cases a:i<P.length
 ·have m:=fun X=>(o.app X).loadCell0 Sn a (by decide)
  simp only [encI,O7] at m
  have d:=fun c (k:IntKind) (H1:NE)=>o.idx (c:=c) (k:=k) (H1:=H1) a
  have p:IntKind.i64.wrap ((i:Int)+1)=((i+1:Nat):Int):=OE (by omega)
  have t:¬pOk P i->R7 P L=320:=fun h=>by rw [z,Ni fun J=>h (J i a)]
  by_cases A:gt P i<1
  ·simp only [n12,r12,h1,u,f,g,l,a,d,m,p,n,A,SB,seval,NC,NJ,NG,NQ,reduceCtorEq,NB,place,NA,ND]
   rw [t fun h=>by have:=h.1;omega]
  ·by_cases s:999999<gt P i
   ·simp only [n12,r12,h1,u,f,g,l,a,d,m,p,n,A,s,SB,seval,NC,NJ,NG,NQ,reduceCtorEq,NB,place,NA,ND]
    rw [t fun h=>by have:=h.2.1;omega]
   ·by_cases e:gt P i∈P.take i
    ·obtain ⟨j,hj⟩:=Ndj (i:=0) e
     simp only [n12,r12,h1,u,f,g,l,a,d,m,p,n,A,s,hj,SB,seval,NC,NJ,NG,NQ,reduceCtorEq,NB,place,NA,ND]
     rw [t fun h=>h.2.2 e]
    ·have hj:=Njm (i:=0) e
     simp only [n12,r12,h1,u,f,g,l,a,d,m,p,n,A,s,hj,C,SB,seval,NC,NJ,NG,NQ,reduceCtorEq,NB,place,NA,ND]
     have w:∀b ro c,NI G b=.cells ro c->NI ((G++[]).set (H.length+1) (.map (Ur (P.take i)++[(Value.int .i64 (gt P i),Value.bool true)]))) b=.cells ro c:=fun b ro c s=>by
      rw [QV (by rintro rfl;rw [B] at s;cases s),NR (NM s)];exact s
     refine F (i+1) _ _ ⟨by omega,h1,u,f,g,rfl,by simp;omega,o.sim w,y.sim w,w _ _ _ x, ?_,fun j hj=>?_⟩ (by omega)
     ·rw [Vv (by simp;omega),Nr8,Xd a]
     ·rcases Ol j i with h | h
      ·exact r j h
      ·obtain rfl:j=i:=by omega
       exact ⟨by omega,by omega,e⟩
 ·obtain rfl:i=P.length:=by omega
  rw [Oh] at B
  have I:Ui P:=r
  rw [Ng (by simpa using I)] at z
  simp only [n12,r12,h1,u,f,g,l,a,D,PT,Sv,Su,SB,seval,NC,NJ,NG,NQ,reduceCtorEq,NB,place,NA,ND]
  refine Nn7 (H:=H) (R:=H.length) (G:=G) ⟨o,y,hn.np,hn.nl,hn.bys⟩ x B (Nd _) h1 u rfl rfl rfl rfl (fun h=>by rw [z,Ni h]) fun fr' G' h=>?_
  rw [Ng (by simpa using h)] at z
  rw [z]
  simp only [n12,r12,SB,seval,NC,NJ,NG,NQ,reduceCtorEq,NB,place,NA,ND]
def WN (P:List Int):List (Value×Value):=P.map fun p=>(Vi p,Vi (P.idxOf p:Int))
theorem Vk {P:List Int} {a:Int} {i:Nat} (h:a∈P):∃j,findKey (Vi a) (WN P) i=some (some (j,Vi (P.idxOf a:Int))):=by
 unfold WN
 exact YI (f:=fun k:Int=>k) (g:=fun k=>Vi (P.idxOf k:Int)) ⟨a,h,rfl⟩ fun x _ e=>by rw [e]
theorem No1 {P:List Int} {a:Int} {i:Nat} (h:a∉P):findKey (Vi a) (WN P) i=some none:=by
 unfold WN
 exact XR (f:=fun k:Int=>k) (g:=fun k=>Vi (P.idxOf k:Int)) fun x b e=>h (e▸b)
theorem Ui.idx {P:List Int} (h:Ui P) {i:Nat} (hi:i<P.length):P.idxOf (gt P i)=i:=by
 have h1:=(h i hi).2.2
 have h2:P.idxOf (gt P i)<=i:=by
  rw [PS hi]
  apply Oj;intro hc
  have:=List.not_of_lt_findIdx (xs:=P) (p:=(· == P[i])) (i:=i) (by unfold List.idxOf at hc;omega)
  simp at this
 rcases Ol (P.idxOf (gt P i)) i with h3 | h3
 ·exfalso
  apply h1
  have a:gt P i∈P:=QH hi
  have hl:=Pi a
  have:=Q5 hl
  rw [List.mem_take_iff_getElem]
  exact ⟨P.idxOf (gt P i),by omega,this⟩
 ·omega
theorem Ni6 [OB] {lim:Nat} {pp pl:Option Addr} {P:List Int} {L:List Leg} {cp cl:Nat} {H:NE} {Q:Value->NE->Prop} (hn:NetIn H pp pl P L) (t:Ui P) (u:lim<=H.length)
  (w:∀H',OH H H'->NI H' (H.length+1)=.map (WN P)->Q (.map (some (H.length+1))) H') :
  NK E false lim 97 [.agg (Tv pp P.length cp pl L.length cl).toArray] H Q:=by
 refine RG (by decide) e97 rfl ?_
 rw [b97,c97]
 simp only [n97,r97,PT,Sv,Su,SB,seval,NC,NJ,NG,NQ,reduceCtorEq,NB,place,NA,ND]
 refine NS (fun i=>P.length-i) (fun i fr G=>i<=P.length/\fr 3=.map (some (H.length+1))/\fr 11=.slice pp P.length cp/\fr 12=Vi P.length/\fr 13=Vi i/\
  H.length+1<G.length/\OH H G/\NI G (H.length+1)=.map ((P.take i).map fun p=>(Vi p,Vi (P.idxOf p:Int)))) 0
  ⟨Nw _,rfl,rfl,rfl,by rfl,by simp,OH.refl.app,OC⟩ ?_
 intro i fr G ⟨hi,n,b,d,h,hL,m,q⟩ v
 rw [NU N6f.eq_1]
 refine NL ?_
 have r:∀X,NI (G++X) (H.length+1)=.map ((P.take i).map fun p=>(Value.int .i64 p,Value.int .i64 (P.idxOf p:Int))):=fun X=>by rw [NR hL];exact q
 have o:lim<=H.length+1:=by omega
 by_cases a:i<P.length
 ·have l:=fun X=>((m.sl hn.sp).app X).loadCell0 Sn a (by decide)
  simp only [encI,O7] at l
  have j:=fun c (k:IntKind) (H1:NE)=>(m.sl hn.sp).idx (c:=c) (k:=k) (H1:=H1) a
  have s:IntKind.i64.wrap ((i:Int)+1)=((i+1:Nat):Int):=OE (by have:=hn.np;omega)
  have hj:findKey (Vi (gt P i)) ((P.take i).map fun p=>(Vi p,Vi (P.idxOf p:Int))) 0=some none:=
   XR (f:=fun k:Int=>k) (g:=fun k=>Vi (P.idxOf k:Int)) fun x y e=>(t i a).2.2 (e▸y)
  simp only [n97,r97,n,b,d,h,a,j,l,s,r,hj,o,SB,seval,NC,NJ,NG,NQ,reduceCtorEq,NB,place,NA,ND]
  refine v (i+1) _ _ ⟨by omega,n,b,d,rfl,by simp;omega, ?_, ?_⟩ (by omega)
  ·obtain ⟨Y,rfl⟩:=m
   exact ⟨(Y++[]).set 1 _,by rw [Nq];exact Niy⟩
  ·rw [Vv (by simp;omega),Xd a,Ou]
   simp only [N2,List.map_nil,t.idx a]
 ·obtain rfl:i=P.length:=by omega
  rw [Oh] at q
  simp only [n97,r97,n,b,d,h,a,SB,seval,NC,NJ,NG,NQ,reduceCtorEq,NB,place,NA,ND]
  refine w _ m.app ?_
  rw [NR hL];exact q
def Vw (P:List Int) (L:List Leg) (a b t:Int):Int:=if R7 P L≠0 then R7 P L else if a∈P/\b∈P/\0<=t/\t<=NY then 0 else 2
theorem Vo {P:List Int} {L:List Leg} (h:R7 P L=0):P.length<=50/\L.length<=200/\Ui P/\Wp P L:=by
 unfold R7 at h
 split at h
 ·cases h
 ·split at h
  ·cases h
  ·split at h
   ·cases h
   ·rename_i h1 h2 a
    exact ⟨by omega,by omega,by simpa using h2,by simpa using a⟩
theorem Mv {P:List Int} {L:List Leg} {a b t:Int} (h:Vw P L a b t=0):R7 P L=0/\a∈P/\b∈P/\0<=t/\t<=NY:=by
 unfold Vw at h
 split at h
 ·contradiction
 ·rename_i d
  split at h
  ·rename_i c;exact ⟨by simpa using d,c⟩
  ·cases h
theorem Ngc [OB] {lim:Nat} {pp pl:Option Addr} {P:List Int} {L:List Leg} {cp cl:Nat} {a b t:Int} {H:NE} {Q:Value->NE->Prop} (hn:NetIn H pp pl P L) (q:lim<=H.length)
  (c:∀H',Vw P L a b t≠0->OH H H'->Q (.tuple #[.map none,Vi (Vw P L a b t)]) H')
  (o:∀H' R,Vw P L a b t=0->OH H H'->NI H' R=.map (WN P)->H.length<=R->Q (.tuple #[.map (some R),Vi 0]) H') :
  NK E false lim 58 [.agg (Tv pp P.length cp pl L.length cl).toArray,Vi a,Vi b,Vi t] H Q:=by
 refine RG (by decide) e58 rfl ?_
 rw [b58,c58]
 have p:=fun X (mp:Bool) (lim:Nat) (Q:Value->NE->Prop)=>Ndx (mp:=mp) (lim:=lim) (cp:=cp) (cl:=cl) (Q:=Q) (hn.app X)
 by_cases h0:R7 P L=0
 ·have k:¬(R7 P L≠0):=by simpa using h0
  obtain ⟨w,x,u,y⟩:=Vo h0
  rw [h0] at p
  simp only [n58,r58,p,PT,Sv,Su,NH,SB,seval,NC,NJ,NG,NQ,reduceCtorEq,NB,place,NA,ND]
  refine Ni6 (hn.app _) u (by simp;omega) fun H' r n=>?_
  have g:OH H H':=by obtain ⟨Y,rfl⟩:=r;rw [Nq];exact OH.refl.app
  simp only [Nn,Nl,Ns,Oc,Pj,Nat.reduceAdd] at n⊢
  have hl:=PR n
  have f:∀X,NI (H'++X) (H.length+2)=.map (WN P):=fun X=>by rw [NR hl];exact n
  refine NL ?_
  have e2:¬(a∈P/\b∈P/\0<=t/\t<=NY)->Vw P L a b t=2:=fun h=>by rw [Vw,Ng k,Ng h]
  by_cases m:a∈P
  ·obtain ⟨v,e⟩:=Vk (i:=0) m
   by_cases j:b∈P
   ·obtain ⟨s,d⟩:=Vk (i:=0) j
    by_cases ht:t<0
    ·have he:=e2 fun h=>by omega
     simp only [n58,r58,f,e,d,ht,SB,seval,NC,NJ,NG,NQ,reduceCtorEq,NB,place,NA,ND]
     rw [<-he];exact c _ (by rw [he];decide) g.app
    ·by_cases l:1051898399<t
     ·have he:=e2 fun h=>by unfold NY at h;omega
      simp only [n58,r58,f,e,d,ht,l,SB,seval,NC,NJ,NG,NQ,reduceCtorEq,NB,place,NA,ND]
      rw [<-he];exact c _ (by rw [he];decide) g.app
     ·have he:Vw P L a b t=0:=by rw [Vw,Ng k,Ni ⟨m,j,by omega,by unfold NY;omega⟩]
      simp only [n58,r58,f,e,d,ht,l,SB,seval,NC,NJ,NG,NQ,reduceCtorEq,NB,place,NA,ND]
      exact o _ _ he g.app (f []) (by omega)
   ·have d:=No1 (i:=0) j
    have he:=e2 fun h=>j h.2.1
    simp only [n58,r58,f,e,d,SB,seval,NC,NJ,NG,NQ,reduceCtorEq,NB,place,NA,ND]
    rw [<-he];exact c _ (by rw [he];decide) g.app
  ·have e:=No1 (i:=0) m
   have he:=e2 fun h=>m h.1
   by_cases j:b∈P
   ·obtain ⟨s,d⟩:=Vk (i:=0) j
    simp only [n58,r58,f,e,d,SB,seval,NC,NJ,NG,NQ,reduceCtorEq,NB,place,NA,ND]
    rw [<-he];exact c _ (by rw [he];decide) g.app
   ·have d:=No1 (i:=0) j
    simp only [n58,r58,f,e,d,SB,seval,NC,NJ,NG,NQ,reduceCtorEq,NB,place,NA,ND]
    rw [<-he];exact c _ (by rw [he];decide) g.app
 ·have he:Vw P L a b t=R7 P L:=by rw [Vw,Ni h0]
  simp only [n58,r58,p,PT,Sv,Su,NH,h0,No h0,SB,seval,NC,NJ,NG,NQ,reduceCtorEq,NB,place,NA,ND]
  rw [<-he];exact c _ (by rw [he];exact h0) OH.refl.app
theorem find_ok [OB] {mp:Bool} {lim:Nat} {pp pl:Option Addr} {P:List Int} {L:List Leg} {cp cl:Nat} {a:Int} {H:NE} {Q:Value->NE->Prop} (hn:NetIn H pp pl P L) :
  NK E mp lim 33 [.agg (Tv pp P.length cp pl L.length cl).toArray,Vi a] H Q=Q (match L.find? (fun l=>l.id=a) with | some l=>.tuple #[.agg (RA l).toArray,.bool true] | none=>.tuple #[.agg #[Vi 0,Vi 0,Vi 0,Vi 0,Vi 0,Vi 0,Vi 0,.int .u8 0],.bool false]) H:=by
 refine pc (by decide) e33 rfl (by cases L.find? (fun l=>l.id=a)<;>rfl) ?_
 rw [b33,c33]
 simp only [n33,r33,PT,Sv,Su,SB,seval,NC,NJ,NG,NQ,reduceCtorEq,NB,place,NA,ND]
 refine NS (fun i=>L.length-i) (fun i fr G=>i<=L.length/\fr 1=Vi a/\fr 4=Vp (H.length+1)/\fr 9=.slice pl L.length cl/\fr 10=Vi L.length/\fr 11=Vi i/\OH H G/\
  NI G (H.length+1)=Vc [Vi 0,Vi 0,Vi 0,Vi 0,Vi 0,Vi 0,Vi 0,.int .u8 0]/\L.find? (fun l=>l.id=a)=(L.drop i).find? (fun l=>l.id=a)) 0
  ⟨Nw _,rfl,rfl,rfl,rfl,by rfl,OH.refl.app,OC,rfl⟩ ?_
 intro i fr G ⟨hi,h1,p,q,d,h,r,h0,m⟩ s
 have hl:=r.len
 have t:=NM h0
 rw [NU N6y.eq_1]
 refine NL ?_
 have g:=fun X=>(OH.refl.app (X:=X)).cells h0
 by_cases b:i<L.length
 ·have n:=fun X=>((r.sl hn.sl).app X).loadCells OI b
  have f:=fun c (k:IntKind) (H1:NE)=>(r.sl hn.sl).idx (c:=c) (k:=k) (H1:=H1) b
  have o:IntKind.i64.wrap ((i:Int)+1)=((i+1:Nat):Int):=OE (by have:=hn.nl;omega)
  rw [Nvo b] at m
  have u:¬H.length+1=G.length:=by omega
  obtain ⟨G2,e2,h2,v⟩:=OP (NM h0) (Vc (RA (gt L i)))
  have j:=fun X=>(OH.refl.app (X:=X)).cells h2
  by_cases e:(gt L i).id=a
  ·simp only [e,decide_true,if_true] at m
   simp only [n33,r33,h1,p,q,d,h,b,f,n,o,g,OI,QQ,QP,QO,QN,QM,QL,QK,QJ,NH,hl,show H.length<=H.length+1 by omega,N5 e,NF,e2,j,SB,seval,NC,NJ,NG,NQ,reduceCtorEq,NB,place,NA,ND]
   rw [m]
  ·simp only [e,decide_false,Nz,if_false] at m
   simp only [n33,r33,h1,p,q,d,h,b,f,n,o,g,OI,QQ,QP,QO,QN,QM,QL,QK,QJ,NH,hl,No e,SB,seval,NC,NJ,NG,NQ,reduceCtorEq,NB,place,NA,ND]
   exact s (i+1) _ _ ⟨by omega,h1,p,q,d,rfl,r.app,(OH.refl.app).cells h0,m⟩ (by omega)
 ·obtain rfl:i=L.length:=by omega
  rw [Qn,List.find?_nil] at m
  obtain ⟨G2,e2,h2,v⟩:=OP (NM h0) (Vc [Vi 0,Vi 0,Vi 0,Vi 0,Vi 0,Vi 0,Vi 0,.int .u8 0])
  have j:=fun X=>(OH.refl.app (X:=X)).cells h2
  simp only [n33,r33,h1,p,q,d,h,b,g,show H.length<=H.length+1 by omega,NF,e2,j,SB,seval,NC,NJ,NG,NQ,reduceCtorEq,NB,place,NA,ND]
  rw [m]
def YX {α:Type} (lim:Nat) (G:NE) (enc:α->List Value) (e:Nat) (p:Option Addr) (cap:Nat) (l:List α):Prop:=
 Own lim G enc e p cap l\/∃R,p=Sa R/\cap=l.length/\cap<2 ^ 62/\NI G R=Vc (l.flatMap enc)/\lim<=R
section
variable {α:Type} {lim e cap:Nat} {G:NE} {enc:α->List Value} {p:Option Addr} {l:List α}
theorem YX.sl (h:YX lim G enc e p cap l) (he:∀x,(enc x).length=e):Sl G enc e p l:=by
 rcases h with h | ⟨R,rfl,_,_,h,_⟩
 ·exact h.sl he
 ·exact Sl.row he h
theorem YX.block (h:YX lim G enc e p cap l) {a:Addr} (b:p=some a):lim<=a.block/\a.block<G.length:=by
 rcases h with h | ⟨R,rfl,_,_,h,hl⟩
 ·exact h.block b
 ·cases b;exact ⟨hl,NM h⟩
theorem YX.chg {A:List Nat} {H':NE} (h:YX lim G enc e p cap l) (hc:Chg A G H') (hp:∀a,p=some a->a.block∉A):YX lim H' enc e p cap l:=by
 rcases h with h | ⟨R,rfl,h1,h2,b,c⟩
 ·exact .inl (h.chg hc hp)
 ·exact .inr ⟨R,rfl,h1,h2,hc.cells b (hp _ rfl),c⟩
theorem YX.step {lim' bytes:Nat} (h:YX lim G enc e p cap l) (m:lim'<=lim) (he:∀x,(enc x).length=e) (g:e≠0) (x:α) (s:(l.length+1)*bytes<=QG) (hn:l.length+1<2 ^ 61) (i:lim<=G.length)
  (X:NE) (b k:Nat) (q:NI (G++X) b=Vc (enc x)) :
  ∃G2,PQ lim' none e bytes false (.slice p l.length cap) (.slice (Sa b) 1 k) (G++X)=some (.slice (Sa (G.length+X.length)) (l.length+1) (loose e),G2++[])/\
   Own lim (G2++[]) enc e (Sa (G.length+X.length)) (loose e) (l++[x])/\(∀A H0,H0.length<=lim->Chg A H0 G->Chg A H0 (G2++[]))/\(∀j,j<G.length->(∀a,p=some a->j≠a.block)->NI (G2++[]) j=NI G j)/\G2.length=G.length+X.length+1/\
   (∀j,j<X.length->NI (G2++[]) (G.length+j)=X.getD j .dead):=by
 rcases h with h | ⟨R,rfl,h1,h2,o,t⟩
 ·exact h.step m he g x s hn i X b k q
 ·have r:=NM o
  have c:NI ((G++(X++[Vc ((l++[x]).flatMap enc)]))++[]) (G.length+X.length)=Vc ((l++[x]).flatMap enc):=by
   rw [Nb,OC]
   rw [show X.length=X.length+0 from rfl,SI];rfl
  refine ⟨G++(X++[Vc ((l++[x]).flatMap enc)]), ?_,Own.new c (by omega),fun A H0 _ hc=>(hc.app).app,fun j hj _=>?_,by simp;omega,fun j hj=>?_⟩
  ·have f:NI (G++X) R=Vc (l.flatMap enc):=by rw [NR r];exact o
   have d:AM.loadCells (G++X) ⟨R,0,none⟩ (l.length*e)=some (l.flatMap enc):=by
    simp only [Rz,f,Oc,QT he,Nd,if_true,O0]
    rw [Oi (by rw [QT he];exact Nd _)]
   have hl:AM.loadCells (G++X) ⟨b,0,none⟩ (1*e)=some (enc x):=by
    simp only [Rz,q,Oc,Nat.one_mul,he,Nd,if_true,O0]
    rw [Oi (by rw [he];exact Nd _)]
   subst h1
   have n:¬l.length=loose e:=by unfold loose;omega
   simp only [PQ,firstCells,lenOf,hl,d,if_false,Nz,n,Nat.one_ne_zero]
   rw [Ng (by omega),Ni h2,Ng (by omega)]
   simp [place]
  ·rw [Nb,NR hj]
  ·rw [Nb,OC,Na,N9 hj,Na]
end
def i64 (n:Int):Value:=Vi n
def T50 (T:List Int):List Int:=if T.length=50 then T else List.replicate 50 0
theorem N92 {T:List Int} (h:T.length=50):T50 T=T:=Ni h
theorem N5v (T:List Int):(T50 T).length=50:=by
 unfold T50;split
 ·assumption
 ·simp
def Si (T:List Int):List Value:=(T50 T).map i64
theorem PN (T:List Int):(Si T).length=50:=by simp [Si,N5v]
theorem VL {T:List Int} (h:T.length=50):Si T=T.map i64:=by rw [Si,N92 h]
theorem Wi {T:List Int} (h:T.length=50) {j:Nat} (hj:j<50):(Si T)[j]? = some (Vi (T.getD j (-1))):=by
 rw [VL h,O6,Na,Nf (by omega)];rfl
theorem YL {T:List Int} (h:T.length=50) {j:Nat} {v:Int}:(Si T).set j (Vi v)=Si (T.set j v):=by
 rw [VL h,VL (by simpa using h),List.map_set];rfl
theorem N4w {a b:List Int} (h:a.map i64=b.map i64):a=b:=by
 induction a generalizing b with
 | nil=>cases b with
   | nil=>rfl
   | cons y b=>cases h
 | cons x a ih=>cases b with
   | nil=>cases h
   | cons y b=>
     simp only [N2,List.cons.injEq,i64,Value.int.injEq,Rj] at h
     rw [h.1,ih h.2]
theorem N1s {a b:List Int} (c:a.length=50) (d:b.length=50) (h:Si a=Si b):a=b:=by
 rw [VL c,VL d] at h;exact N4w h
theorem Nvn {l:List Int}:flat 4 (.agg (l.map i64).toArray)=true:=by
 simp [flat,i64,atom]
theorem N1t {a b:List Int} (c:a.length=50) (d:b.length=50):aEq (.agg (List.replicate 50 (.int .i64))) (.agg (Si a).toArray) (.agg (Si b).toArray)=some (decide (a=b)):=by
 obtain ⟨t,h1,h2⟩:=Ncv (.int .i64) 50 (Si a) (Si b) (PN a) (PN b) (by
  intro x e y f
  rw [VL c] at e
  rw [VL d] at f
  obtain ⟨n,_,rfl⟩:=List.mem_map.1 e
  obtain ⟨m,_,rfl⟩:=List.mem_map.1 f
  exact ⟨n == m,by simp [TQ,i64],by simp [i64]⟩)
 show PL _ (Si a) (Si b)=_
 rw [h1]
 congr 1
 rw [Ri,h2,N3]
 exact ⟨fun h=>N1s c d h,fun h=>by rw [h]⟩
theorem Nki:[Value.int .i64 0,Value.int .i64 0,Value.int .i64 0,Value.int .i64 0,Value.int .i64 0,Value.int .i64 0,Value.int .i64 0,Value.int .i64 0,Value.int .i64 0,Value.int .i64 0,Value.int .i64 0,Value.int .i64 0,Value.int .i64 0,Value.int .i64 0,Value.int .i64 0,Value.int .i64 0,Value.int .i64 0,Value.int .i64 0,Value.int .i64 0,Value.int .i64 0,Value.int .i64 0,Value.int .i64 0,Value.int .i64 0,Value.int .i64 0,Value.int .i64 0,Value.int .i64 0,Value.int .i64 0,Value.int .i64 0,Value.int .i64 0,Value.int .i64 0,Value.int .i64 0,Value.int .i64 0,Value.int .i64 0,Value.int .i64 0,Value.int .i64 0,Value.int .i64 0,Value.int .i64 0,Value.int .i64 0,Value.int .i64 0,Value.int .i64 0,Value.int .i64 0,Value.int .i64 0,Value.int .i64 0,Value.int .i64 0,Value.int .i64 0,Value.int .i64 0,Value.int .i64 0,Value.int .i64 0,Value.int .i64 0,Value.int .i64 0]=List.replicate 50 (Value.int .i64 0):=rfl
theorem Oba:[KK.int .i64,KK.int .i64,KK.int .i64,KK.int .i64,KK.int .i64,KK.int .i64,KK.int .i64,KK.int .i64,KK.int .i64,KK.int .i64,KK.int .i64,KK.int .i64,KK.int .i64,KK.int .i64,KK.int .i64,KK.int .i64,KK.int .i64,KK.int .i64,KK.int .i64,KK.int .i64,KK.int .i64,KK.int .i64,KK.int .i64,KK.int .i64,KK.int .i64,KK.int .i64,KK.int .i64,KK.int .i64,KK.int .i64,KK.int .i64,KK.int .i64,KK.int .i64,KK.int .i64,KK.int .i64,KK.int .i64,KK.int .i64,KK.int .i64,KK.int .i64,KK.int .i64,KK.int .i64,KK.int .i64,KK.int .i64,KK.int .i64,KK.int .i64,KK.int .i64,KK.int .i64,KK.int .i64,KK.int .i64,KK.int .i64,KK.int .i64]=List.replicate 50 (KK.int .i64):=rfl
theorem No7 [OB] {mp:Bool} {lim i:Nat} {t:Int} {H:NE} {Q:Value->NE->Prop} (hi:i<50):NK E mp lim 63 [Vi i,Vi t] H Q=Q (.agg (Si (Z5 50 i t)).toArray) H:=by
 refine pc (by decide) e63 rfl (by rw [VL Ney];exact Nvn) ?_
 rw [b63,c63]
 simp only [n63,r63,Nki,SB,Nat.reduceLT,NC,NJ,Nat.reduceEqDiff,NG,NQ,reduceCtorEq,NB,place,NA,Nat.reduceAdd,Nat.reduceLeDiff,ND,Int.reduceEq,Int.reduceLT,Int.reduceLE]
 refine NS (fun k=>50-k) (fun k fr G=>k<=50/\fr 0=Vi i/\fr 1=Vi t/\fr 4=Vp H.length/\fr 5=Vp (H.length+1)/\fr 7=Vi k/\
  ∃T:List Int,T.length=50/\(∀j,j<k->T[j]? = some (-1))/\G=H++[Vc (List.replicate 50 (Value.int .i64 0)),Vc (Si T)]) 0
  ⟨Nw _,rfl,rfl,rfl,rfl,by rfl,List.replicate 50 0,by simp,fun j hj=>by omega,rfl⟩ ?_
 rintro k fr G ⟨hk,h0,h1,e,f,l,T,hT,a,rfl⟩ m
 rw [NU N6p.eq_1]
 by_cases n:k<50
 ·have c:(k:Int)<50:=by omega
  have b:(0:Int)<=(k:Int):=by omega
  have h:IntKind.i64.wrap ((k:Int)+1)=((k+1:Nat):Int):=OE (by omega)
  simp only [n63,r63,h0,h1,e,f,l,b,c,h,Pe,PN,YL hT,show k+1<=50 by omega,SB,Nat.reduceLT,NC,NJ,Nat.reduceEqDiff,NG,NQ,reduceCtorEq,NB,place,NA,Nat.reduceAdd,Nat.reduceLeDiff,ND,Int.reduceEq,Int.reduceLT,Int.reduceLE]
  refine m (k+1) _ _ ⟨by omega,h0,h1,e,f,rfl,T.set k (-1),by simpa using hT,fun j hj=>?_,rfl⟩ (by omega)
  by_cases d:k=j
  ·subst d;rw [Rc (by omega)]
  ·rw [Qk d];exact a j (by omega)
 ·obtain rfl:k=50:=by omega
  have g:T=List.replicate 50 (-1):=by
   apply List.ext_getElem? ;intro j
   by_cases hj:j<50
   ·rw [a j hj,Pw,Ni hj]
   ·rw [Nx (by omega),Nx (by simp;omega)]
  subst g
  have c:(i:Int)<50:=by omega
  have b:(0:Int)<=(i:Int):=by omega
  simp only [n63,r63,h0,h1,e,f,l,b,c,Pe,PN,YL hT,show i+1<=50 by omega,NH,NF,On,SB,Nat.reduceLT,NC,NJ,Nat.reduceEqDiff,NG,NQ,reduceCtorEq,NB,place,NA,Nat.reduceAdd,Nat.reduceLeDiff,ND,Int.reduceEq,Int.reduceLT,Int.reduceLE]
  rfl
def okT (T:List Int):Prop:=T.length=50/\∀j,-1<=T.getD j (-1)/\T.getD j (-1)<=NY
theorem Njc {i:Nat} {t:Int} (hi:i<50) (h:-1<=t/\t<=NY):okT (Z5 50 i t):=⟨Ney,fun j=>by
 rw [Nez hi];unfold NY at *;split<;>omega⟩
theorem Njb {T:List Int} {i:Nat} {v:Int} (h:okT T) (a:-1<=v/\v<=NY):okT (T.set i v):=by
 refine ⟨by simpa using h.1,fun j=>?_⟩
 by_cases hi:i<T.length
 ·rw [Xq hi];split
  ·exact a
  ·exact h.2 j
 ·rw [List.set_eq_of_length_le (by omega)];exact h.2 j
def VF (u:List Int->List Int->Leg->List Int) (L:List Leg) (first:List Int):Nat->List Int
 | 0=>first
 | k+1=>L.foldl (u (VF u L first k)) (VF u L first k)
theorem Mr {α β:Type} [Inhabited α] {f:β->α->β} {L:List α} {b:β} {i:Nat} (h:i<L.length):(L.take (i+1)).foldl f b=f ((L.take i).foldl f b) (gt L i):=by
 rw [Xd h,List.foldl_append];rfl
def N2u [OB] (H:NE) (lim:Nat) (g:FuncId) (a b:Value) (u:List Int->List Int->Leg->List Int) (L:List Leg):Prop:=
 ∀(G:NE) (A:Nat) (bef aft:List Int) (l:Leg) (Q:Value->NE->Prop),l∈L->okT bef->okT aft->Chg [] H G->lim<=A->H.length<=A->lim<=G.length->NI G A=Vc (Si aft)->
  okT (u bef aft l)/\((∀G',Chg [A] G G'->NI G' A=Vc (Si (u bef aft l))->Q (.tuple #[]) G')->NK E false lim g [.agg (RA l).toArray,.agg (Si bef).toArray,Vp A,a,b] G Q)
theorem Niz [OB] {lim:Nat} {g:FuncId} {t v:Value} {u:List Int->List Int->Leg->List Int} {pl:Option Addr} {L:List Leg} {cl:Nat} {H G:NE} {fr:Nat->Value} {K:List AItem} {R:Value->NE->Prop} {bef:List Int} {A8 A9:Nat}
  (hu:N2u H lim g t v u L) (hL:Sl H RA 8 pl L) (ab:L.length<2 ^ 62) (T:lim<=H.length) (S:okT bef) (Y:Chg [] H G) (W:H.length<=A8) (C:H.length<=A9) (M:A8≠A9) (U:NI G A8=Vc (Si bef)) (V:NI G A9=Vc (Si bef))
  (f2:fr 2=.func (.func g) #[] #[t,v]) (O:fr 8=Vp A8) (f9:fr 9=Vp A9) (w:fr 21=.slice pl L.length cl) (x:fr 22=Vi L.length) (y:fr 23=Vi 0)
  (hR:∀fr' G',okT (L.foldl (u bef) bef)->Chg [A9] G G'->NI G' A9=Vc (Si (L.foldl (u bef) bef))->fr' 1=fr 1->fr' 2=fr 2->fr' 7=fr 7->fr' 8=fr 8->fr' 9=fr 9->PV E a99 lim K fr' (G'++[]) R) :
  PV E a99 lim (.code (.loop N0k)::.inBlock 2::K) fr G R:=by
 refine NS (fun i=>L.length-i) (fun i fr' G'=>i<=L.length/\fr' 1=fr 1/\fr' 7=fr 7/\fr' 2=.func (.func g) #[] #[t,v]/\fr' 8=Vp A8/\fr' 9=Vp A9/\fr' 21=.slice pl L.length cl/\fr' 22=Vi L.length/\fr' 23=Vi i/\
  Chg [A9] G G'/\okT ((L.take i).foldl (u bef) bef)/\NI G' A9=Vc (Si ((L.take i).foldl (u bef) bef))) 0
  ⟨Nw _,rfl,rfl,f2,O,f9,w,x,y,Chg.refl,S,V⟩ ?_
 intro i fr' G' ⟨hi,P,Q,m,n,o,b,d,f,s,F,e⟩ Z
 have h:Chg [] H G':=Y.trans' s fun j h1 h2=>by simp only [Nj] at h1;omega
 have hl:=h.len
 rw [NU N0k.eq_1]
 refine NL ?_
 by_cases a:i<L.length
 ·have q:=h.ext.sl hL
  have J:=fun X=>(q.app X).loadCells OI a
  have p:=fun c (k:IntKind) (H1:NE)=>q.idx (c:=c) (k:=k) (H1:=H1) a
  have r:IntKind.i64.wrap ((i:Int)+1)=((i+1:Nat):Int):=OE (by omega)
  have z:=s.cells U (by simpa using M)
  have A:=fun X=>(OH.refl.app (X:=X)).cells z
  have I:lim<=G'.length:=by omega
  simp only [n99,r99,m,n,o,b,d,f,a,p,J,r,OI,QQ,QP,QO,QN,QM,QL,QK,QJ,NH,I,NF,A,PN,Nlf,SB,Nat.reduceLT,NC,NJ,Nat.reduceEqDiff,NG,NQ,reduceCtorEq,NB,place,NA,Nat.reduceAdd,Nat.reduceLeDiff,ND,Int.reduceEq,Int.reduceLT,Int.reduceLE]
  have aa:=NM e
  obtain ⟨N,l⟩:=hu (G'++[Vc (RA (gt L i))]) A9 bef ((L.take i).foldl (u bef) bef) (gt L i) _ (QH a) S F (h.app) (by omega) C (by simp;omega) ((OH.refl.app).cells e)
  refine l fun G2 D B=>?_
  refine NL ?_
  simp only [n99,r99,m,n,o,b,d,f,r,SB,Nat.reduceLT,NC,NJ,Nat.reduceEqDiff,NG,NQ,reduceCtorEq,NB,place,NA,Nat.reduceAdd,Nat.reduceLeDiff,ND,Int.reduceEq,Int.reduceLT,Int.reduceLE]
  refine Z (i+1) _ _ ⟨by omega,by rw [<-P];exact rfl,by rw [<-Q];exact rfl,m,n,o,b,d,rfl, ?_, ?_, ?_⟩ (by omega)
  ·rw [Nb]
   exact s.trans D.pre
  ·rw [Mr a];exact N
  ·rw [Nb,Mr a];exact B
 ·obtain rfl:i=L.length:=by omega
  rw [Oh] at F e
  simp only [n99,r99,m,n,o,b,d,f,a,SB,Nat.reduceLT,NC,NJ,Nat.reduceEqDiff,NG,NQ,reduceCtorEq,NB,place,NA,Nat.reduceAdd,Nat.reduceLeDiff,ND,Int.reduceEq,Int.reduceLT,Int.reduceLE]
  exact hR _ _ F s e (by rw [<-P];exact rfl) (by rw [f2];exact m) (by rw [<-Q];exact rfl) (by rw [O];exact n) (by rw [f9];exact o)
theorem Ntm [OB] {lim n0:Nat} {g:FuncId} {z A:Value} {u:List Int->List Int->Leg->List Int} {first:List Int} {pl:Option Addr} {L:List Leg} {cl:Nat} {H:NE} {Q:Value->NE->Prop}
  (hu:N2u H lim g z A u L) (Z:okT first) (hL:Sl H RA 8 pl L) (M:L.length<2 ^ 62) (l:lim<=H.length) (t:VF u L first (n0+1)=VF u L first n0) (N:∀k,k<n0->VF u L first (k+1)≠VF u L first k) (ab:n0<80000000000)
  (Y:∀H' p cap,Chg [] H H'->YX H.length H' Si 50 p cap ((List.range (n0+1)).map (VF u L first))->Q (.slice p (n0+1) cap) H') :
  NK E false lim 99 [.agg (Si first).toArray,.slice pl L.length cl,.func (.func g) #[] #[z,A]] H Q:=by
 refine RG (by decide) e99 rfl ?_
 rw [b99,c99]
 simp only [n99,r99,Nki,PN,NH,NF,On,SB,Nat.reduceLT,NC,NJ,Nat.reduceEqDiff,NG,NQ,reduceCtorEq,NB,place,NA,Nat.reduceAdd,Nat.reduceLeDiff,ND,Int.reduceEq,Int.reduceLT,Int.reduceLE]
 refine NS (fun s:Nat×Option Addr×Nat=>n0+1-s.1) (fun s fr G=>s.1<=n0/\fr 1=.slice pl L.length cl/\fr 2=.func (.func g) #[] #[z,A]/\fr 7=.slice s.2.1 (s.1+1) s.2.2/\Chg [] H G/\okT (VF u L first s.1)/\YX H.length G Si 50 s.2.1 s.2.2 ((List.range (s.1+1)).map (VF u L first))) (0,Sa (H.length+1),1)
  ⟨Nw _,rfl,rfl,by rfl,Chg.refl.app,Z,.inr ⟨H.length+1,rfl,rfl,by show (1:Nat)<2 ^ 62;decide,by rw [OC];simp [VF],by omega⟩⟩ ?_
 rintro ⟨k,p,cap⟩ fr G ⟨hk,f1,f2,D,B,n,C⟩ W
 simp only at hk D n C
 have hl:=B.len
 rw [NU N6e.eq_1]
 refine NL ?_
 have a:((List.range (k+1)).map (VF u L first)).length=k+1:=by simp
 have I:gt ((List.range (k+1)).map (VF u L first)) k=VF u L first k:=by
  rw [PS (by rw [a];omega)];simp
 have hS:=C.sl PN
 have v:=fun X=>(hS.app X).loadCells PN (i:=k) (by rw [a];omega)
 have f:=fun c (kk:IntKind) (H1:NE)=>hS.idx (c:=c) (k:=kk) (H1:=H1) (i:=k) (by rw [a];omega)
 rw [a] at f
 rw [I] at v
 have P:IntKind.i64.wrap (((k+1:Nat):Int)-1)=(k:Int):=by rw [NP (by omega) (by omega)];omega
 have K:lim<=G.length:=by omega
 simp only [n99,r99,f1,f2,D,Nki,PN,NH,NF,On,P,f,v,K,show lim<=G.length+1 by omega,SB,Nat.reduceLT,NC,NJ,Nat.reduceEqDiff,NG,NQ,reduceCtorEq,NB,place,NA,Nat.reduceAdd,Nat.reduceLeDiff,ND,Int.reduceEq,Int.reduceLT,Int.reduceLE]
 refine Niz (cl:=cl) (A8:=G.length) (A9:=G.length+1) hu hL M l n (B.app) (by omega) (by omega) (by omega) NV OC f2 rfl rfl rfl rfl rfl fun fr' G' d S R k1 k2 k7 k8 k9=>?_
 have o:fr' 1=.slice pl L.length cl:=k1.trans f1
 have q:fr' 2=.func (.func g) #[] #[z,A]:=k2.trans f2
 have w:fr' 7=.slice p (k+1) cap:=k7.trans D
 have x:fr' 8=Vp G.length:=k8.trans rfl
 have y:fr' 9=Vp (G.length+1):=k9.trans rfl
 have V:NI G' G.length=Vc (Si (VF u L first k)):=S.cells NV (by simp)
 have r:=fun X=>(OH.refl.app (X:=X)).cells V
 have m:=fun X=>(OH.refl.app (X:=X)).cells R
 have b:Chg [] G G':=S.pre.mono fun j hj h=>by simp only [Nj] at h;omega
 have aa:=b.len
 change okT (VF u L first (k+1)) at d
 change NI G' (G.length+1)=Vc (Si (VF u L first (k+1))) at R
 change ∀X,NI (G'++X) (G.length+1)=Vc (Si (VF u L first (k+1))) at m
 have e:=N1t d.1 n.1
 by_cases J:k=n0
 ·subst J
  rw [Np t] at e
  simp only [n99,r99,o,q,w,x,y,r,m,PN,NH,Oba,e,SB,Nat.reduceLT,NC,NJ,Nat.reduceEqDiff,NG,NQ,reduceCtorEq,NB,place,NA,Nat.reduceAdd,Nat.reduceLeDiff,ND,Int.reduceEq,Int.reduceLT,Int.reduceLE]
  exact Y _ _ _ ((B.trans b).app) (C.chg (b.app) (by simp))
 ·rw [N1 (p:=VF u L first (k+1)=VF u L first k) (N k (by omega))] at e
  have F:=C.chg b (by simp)
  obtain ⟨G3,e3,U,T,O,l3,_⟩:=F.step (lim':=lim) (bytes:=400) l PN (by decide) (VF u L first (k+1)) (by rw [a];unfold QG;omega) (by rw [a];omega) (by omega) [Vc (Si (VF u L first (k+1)))] G'.length 1 NV
  rw [a] at e3
  simp only [n99,r99,o,q,w,x,y,r,m,PN,NH,Oba,e,Nki,NF,On,e3,SB,Nat.reduceLT,NC,NJ,Nat.reduceEqDiff,NG,NQ,reduceCtorEq,NB,place,NA,Nat.reduceAdd,Nat.reduceLeDiff,ND,Int.reduceEq,Int.reduceLT,Int.reduceLE]
  refine W (k+1,_,_) _ _ ⟨by omega,o,q,by rfl,T _ _ (Nd _) (B.trans b),d,.inl ?_⟩ (by show n0+1-(k+1)<n0+1-k;omega)
  rw [Pa,Ou]
  exact U
def OO (P:List Int):Int->Nat:=fun p=>P.idxOf p
theorem VR {P:List Int} {L:List Leg} (h:R7 P L=0):NetOk 50 P L (OO P):=by
 obtain ⟨h1,h2,g,d⟩:=Vo h
 have key:∀l∈L,Fine l/\l.frm∈P/\l.dst∈P:=fun l hl=>by
  obtain ⟨i,hi,rfl⟩:=List.mem_iff_getElem.1 hl
  have:=d i hi
  unfold lOk at this
  rw [PS hi] at this
  exact ⟨this.1,this.2.2⟩
 refine ⟨fun l hl=>(key l hl).1,fun l hl=>(key l hl).2.1,fun l hl=>(key l hl).2.2,fun a c b f e=>?_,fun a c=>?_⟩
 ·have h1:=Q5 (Pi c)
  have h2:=Q5 (Pi f)
  rw [<-h1,<-h2]
  congr 1
 ·have:=Pi c
  show P.idxOf a<50
  omega
theorem N3m {F:Nat->List Int} {mu:List Int->Nat} (h:∀k,F (k+1)=F k\/mu (F (k+1))<mu (F k)):∃n,n<=mu (F 0)/\F (n+1)=F n/\∀k,k<n->F (k+1)≠F k:=by
 have key:∀m k,mu (F k)<=m->(∀j,j<k->F (j+1)≠F j)->∃n,n<=k+m/\F (n+1)=F n/\∀j,j<n->F (j+1)≠F j:=by
  intro m
  induction m with
  | zero=>
    intro k c hj
    rcases h k with h1 | h1
    ·exact ⟨k,by omega,h1,hj⟩
    ·omega
  | succ m ih=>
    intro k c hj
    by_cases h1:F (k+1)=F k
    ·exact ⟨k,by omega,h1,hj⟩
    ·rcases h k with h2 | h2
     ·exact absurd h2 h1
     ·obtain ⟨n,d,a⟩:=ih (k+1) (by omega) fun j b=>by
       rcases Ol j k with h5 | h5
       ·exact hj j h5
       ·obtain rfl:j=k:=by omega
        exact h1
      exact ⟨n,by omega,a⟩
 obtain ⟨n,h1,h2⟩:=key (mu (F 0)) 0 (Nd _) fun j hj=>by omega
 exact ⟨n,by omega,h2⟩
theorem N3l {N:Nat} {pos:Int->Nat} {lim:Int} {L:List Leg} {p ready:Int} (k:Nat):VF (X8 pos lim) L (Z5 N (pos p) ready) k=Sd N pos lim L p ready k:=by
 induction k with
 | zero=>rfl
 | succ k ih=>rw [VF,Sd,V9,ih]
theorem M5 {P:List Int} {L:List Leg} {p ready lim:Int} (hn:NetOk 50 P L (OO P)) (hp:p∈P) (hr:0<=ready) (hl:ready<=lim):∀k,WU ready lim (Sd 50 (OO P) lim L p ready k)
 | 0=>by
   intro t ht
   rw [Sd,Z5] at ht
   rcases Q7 ht with h | rfl
   ·exact .inl (List.eq_of_mem_replicate h)
   ·exact .inr ⟨Oo _,hl⟩
 | k+1=>(Nky (M5 hn hp hr hl k) hr fun l a=>⟨hn.fine l a,by rw [UI];exact hn.lt _ (hn.dst l a)⟩).1
theorem Nnt {P:List Int} {L:List Leg} {p ready lim:Int} (hn:NetOk 50 P L (OO P)) (hp:p∈P) (hr:0<=ready) (hl:ready<=lim):∃n,n<=50*((lim-ready).toNat+1)/\Sd 50 (OO P) lim L p ready (n+1)=Sd 50 (OO P) lim L p ready n/\∀k,k<n->Sd 50 (OO P) lim L p ready (k+1)≠Sd 50 (OO P) lim L p ready k:=by
 obtain ⟨n,h1,h2⟩:=N3m (F:=Sd 50 (OO P) lim L p ready) (mu:=muA ready lim) fun k=>
  (Nky (M5 hn hp hr hl k) hr fun l a=>⟨hn.fine l a,by rw [UI];exact hn.lt _ (hn.dst l a)⟩).2
 refine ⟨n,Qh h1 ?_,h2⟩
 have:=Nzu (M5 hn hp hr hl 0)
 rw [UI] at this
 exact this
def N9y (P:List Int) (L:List Leg) (p ready:Int) (T:List Int):Prop:=T.length=P.length/\∀q∈P,Ub L p ready q (T.getD (OO P q) (-1))
theorem N5s {P:List Int} {L:List Leg} {p ready:Int} (hn:NetOk 50 P L (OO P)) (c:P.length<=50) (hp:p∈P) (hr:0<=ready) {n:Nat} (a:Sd 50 (OO P) (ready+86400) L p ready (n+1)=Sd 50 (OO P) (ready+86400) L p ready n) :
  N9y P L p ready ((Sd 50 (OO P) (ready+86400) L p ready n).take P.length):=by
 refine ⟨by rw [Om,UI];omega,fun q b=>?_⟩
 have h1:=Nga hn hp hr (by omega) a q b
 have h2:OO P q<P.length:=Pi b
 rw [Na,P3,Ni h2,<-Na]
 exact h1
theorem Nho {l:Leg} {r a:Int} (hl:Fine l) (h:Sm l r=some a):0<=a/\r<=a/\a+l.mins<=NY:=by
 obtain ⟨⟨d,_,b,rfl⟩,h2,_⟩:=Sk h
 unfold goes at b
 simp only [N0,N3] at b
 unfold Fine at hl
 omega
theorem Nhy {l:Leg} {b a:Int} (hl:Fine l) (h:Tk l b=some a):0<=a-l.cut/\0<=a/\a+l.mins<=NY/\a+l.mins<=b:=by
 obtain ⟨⟨d,_,c,rfl⟩,h2,_⟩:=TL h
 unfold goes at c
 simp only [N0,N3] at c
 unfold Fine at hl
 omega
theorem Nrd [OB] {lim B1 B2 R:Nat} {o1 o2:Bool} {P:List Int} {L:List Leg} {ready:Int} {H:NE} (hn:NetOk 50 P L (OO P)) (h1:NI H B1=.cells o1 [.map (some R)]) (h2:NI H B2=.cells o2 [Vi ready]) (U:NI H R=.map (WN P)) (hr:0<=ready) (K:ready<=NY) :
  N2u H lim 98 (Vp B1) (Vp B2) (X8 (OO P) (ready+86400)) L:=by
 intro G A bef aft l Q hl T o M I W m hA
 have S:=hn.fine l hl
 have Y:OO P l.frm<50:=hn.lt _ (hn.frm l hl)
 have Z:OO P l.dst<50:=hn.lt _ (hn.dst l hl)
 obtain ⟨j1,g⟩:=Vk (i:=0) (hn.frm l hl)
 obtain ⟨j2,j⟩:=Vk (i:=0) (hn.dst l hl)
 change findKey _ _ _=some (some (j1,Vi (OO P l.frm:Int))) at g
 change findKey _ _ _=some (some (j2,Vi (OO P l.dst:Int))) at j
 have O:=T.2 (OO P l.frm)
 have N:=o.2 (OO P l.dst)
 have u:=Wi T.1 Y
 have t:=Wi o.1 Z
 have q1:=fun X=>(OH.refl.app (X:=X)).cells (M.cells h1 (by simp))
 have q2:=fun X=>(OH.refl.app (X:=X)).cells (M.cells h2 (by simp))
 have J:=M.get U (PR U) (by simp)
 have q3:∀X,NI (G++X) R=.map (WN P):=fun X=>by rw [NR (PR J)];exact J
 have v:=fun X=>(OH.refl.app (X:=X)).cells hA
 have w:(0:Int)<=(OO P l.frm:Int):=by omega
 have z:(0:Int)<=(OO P l.dst:Int):=by omega
 have B:(OO P l.frm:Int)<50:=by omega
 have C:(OO P l.dst:Int)<50:=by omega
 have D:OO P l.dst<=49:=by omega
 have F:OO P l.frm<=49:=by omega
 have wr:IntKind.i64.wrap (ready+86400)=ready+86400:=by unfold NY at K;exact NP (by omega) (by omega)
 unfold X8
 generalize OO P l.frm=x at *
 generalize OO P l.dst=y at *
 generalize bef.getD x (-1)=b at *
 generalize hc:aft.getD y (-1)=c at *
 unfold NY at O N K
 by_cases f:b<0
 ·rw [Ni f]
  refine ⟨o,fun n=>RG (by decide) e98 rfl ?_⟩
  rw [b98,c98]
  simp only [n98,r98,q1,q2,q3,v,g,j,u,t,w,z,B,C,D,F,wr,OI,QQ,QP,QO,QN,QM,QL,QK,QJ,NH,PN,Pe,m,f,SB,Nat.reduceLT,NC,NJ,Nat.reduceEqDiff,NG,NQ,reduceCtorEq,NB,place,NA,Nat.reduceAdd,Nat.reduceLeDiff,ND,Int.reduceEq,Int.reduceLT,Int.reduceLE]
  exact n _ (OH.refl.app.chg) ((OH.refl.app).cells hA)
 rw [Ng f]
 have e:=fun (H:NE) (mp:Bool) (lim:Nat) (Q:Value->NE->Prop)=>Nr5 (mp:=mp) (lim:=lim) (H:=H) (Q:=Q) (l:=l) (r:=b) S (by omega) (by omega)
 cases hx:Sm l b with
 | none=>
   rw [hx] at e
   simp only [Oq,Ww] at e
   refine ⟨o,fun n=>RG (by decide) e98 rfl ?_⟩
   rw [b98,c98]
   simp only [n98,r98,q1,q2,q3,v,g,j,u,t,w,z,B,C,D,F,wr,OI,QQ,QP,QO,QN,QM,QL,QK,QJ,NH,PN,Pe,m,f,e,SB,Nat.reduceLT,NC,NJ,Nat.reduceEqDiff,NG,NQ,reduceCtorEq,NB,place,NA,Nat.reduceAdd,Nat.reduceLeDiff,ND,Int.reduceEq,Int.reduceLT,Int.reduceLE]
   exact n _ (OH.refl.app.chg) ((OH.refl.app).cells hA)
 | some a=>
   rw [hx] at e
   simp only [Nu,Ww] at e
   obtain ⟨k1,k2,k3⟩:=Nho S hx
   unfold Fine at S
   by_cases d:a+l.mins<=ready+86400
   ·have q:∀Q:Value->NE->Prop,(∀G',Chg [A] G G'->NI G' A=Vc (Si (aft.set y (a+l.mins)))->Q (.tuple #[]) G')->(c<0\/a+l.mins<c)->
      NK E false lim 98 [.agg (RA l).toArray,.agg (Si bef).toArray,Vp A,Vp B1,Vp B2] G Q:=by
     intro Q n k
     refine RG (by decide) e98 rfl ?_
     rw [b98,c98]
     obtain ⟨G2,e2,h2,V⟩:=OP (NM hA) (Vc (Si (aft.set y (a+l.mins))))
     by_cases p:c<0
     ·simp only [n98,r98,q1,q2,q3,v,g,j,u,t,w,z,B,C,D,F,wr,OI,QQ,QP,QO,QN,QM,QL,QK,QJ,NH,PN,Pe,m,f,e,N5 d,N5 p,I,YL o.1,e2,SB,Nat.reduceLT,NC,NJ,Nat.reduceEqDiff,NG,NQ,reduceCtorEq,NB,place,NA,Nat.reduceAdd,Nat.reduceLeDiff,ND,Int.reduceEq,Int.reduceLT,Int.reduceLE]
      exact n _ ((Chg.refl.mut V (.inl (by simp))).app) ((OH.refl.app).cells h2)
     ·have s:a+l.mins<c:=by omega
      simp only [n98,r98,q1,q2,q3,v,g,j,u,t,w,z,B,C,D,F,wr,OI,QQ,QP,QO,QN,QM,QL,QK,QJ,NH,PN,Pe,m,f,e,N5 d,No p,N5 s,I,YL o.1,e2,SB,Nat.reduceLT,NC,NJ,Nat.reduceEqDiff,NG,NQ,reduceCtorEq,NB,place,NA,Nat.reduceAdd,Nat.reduceLeDiff,ND,Int.reduceEq,Int.reduceLT,Int.reduceLE]
      exact n _ ((Chg.refl.mut V (.inl (by simp))).app) ((OH.refl.app).cells h2)
    by_cases k:c<0\/a+l.mins<c
    ·simp only [Ni (And.intro d k)]
     exact ⟨Njb o (by omega),fun n=>q _ n k⟩
    ·simp only [Ng (fun h:_/\_=>k h.2)]
     refine ⟨o,fun n=>RG (by decide) e98 rfl ?_⟩
     rw [b98,c98]
     have p:¬c<0:=fun h=>k (.inl h)
     have s:¬a+l.mins<c:=fun h=>k (.inr h)
     simp only [n98,r98,q1,q2,q3,v,g,j,u,t,w,z,B,C,D,F,wr,OI,QQ,QP,QO,QN,QM,QL,QK,QJ,NH,PN,Pe,m,f,e,N5 d,No p,No s,SB,Nat.reduceLT,NC,NJ,Nat.reduceEqDiff,NG,NQ,reduceCtorEq,NB,place,NA,Nat.reduceAdd,Nat.reduceLeDiff,ND,Int.reduceEq,Int.reduceLT,Int.reduceLE]
     exact n _ (OH.refl.app.chg) ((OH.refl.app).cells hA)
   ·simp only [Ng (fun h:_/\_=>d h.1)]
    refine ⟨o,fun n=>RG (by decide) e98 rfl ?_⟩
    rw [b98,c98]
    simp only [n98,r98,q1,q2,q3,v,g,j,u,t,w,z,B,C,D,F,wr,OI,QQ,QP,QO,QN,QM,QL,QK,QJ,NH,PN,Pe,m,f,e,No d,SB,Nat.reduceLT,NC,NJ,Nat.reduceEqDiff,NG,NQ,reduceCtorEq,NB,place,NA,Nat.reduceAdd,Nat.reduceLeDiff,ND,Int.reduceEq,Int.reduceLT,Int.reduceLE]
    exact n _ (OH.refl.app.chg) ((OH.refl.app).cells hA)
theorem Nc0 [OB] {lim R:Nat} {pp pl:Option Addr} {P:List Int} {L:List Leg} {cp cl:Nat} {p ready:Int} {H:NE} {Q:Value->NE->Prop} (hn:NetIn H pp pl P L) (m:R7 P L=0) (l:NI H R=.map (WN P)) (hp:p∈P) (hr:0<=ready) (h:ready<=NY) (j:lim<=H.length)
  (s:∀H' q cap n,Chg [] H H'->Sd 50 (OO P) (ready+86400) L p ready (n+1)=Sd 50 (OO P) (ready+86400) L p ready n->(∀k,k<n->Sd 50 (OO P) (ready+86400) L p ready (k+1)≠Sd 50 (OO P) (ready+86400) L p ready k)->n<2 ^ 30->
   YX H.length H' Si 50 q cap ((List.range (n+1)).map (Sd 50 (OO P) (ready+86400) L p ready))->Q (.slice q (n+1) cap) H') :
  NK E false lim 59 [.agg (Tv pp P.length cp pl L.length cl).toArray,.map (some R),Vi p,Vi ready] H Q:=by
 have b:=VR m
 obtain ⟨y,z,A,B⟩:=Vo m
 refine RG (by decide) e59 rfl ?_
 rw [b59,c59]
 obtain ⟨v,c⟩:=Vk (i:=0) hp
 have hi:OO P p<50:=b.lt _ hp
 change findKey _ _ _=some (some (v,Vi (OO P p:Int))) at c
 have q3:∀X,NI (H++X) R=.map (WN P):=fun X=>by rw [NR (PR l)];exact l
 have g:=fun (H:NE) (mp:Bool) (lim:Nat) (Q:Value->NE->Prop)=>No7 (mp:=mp) (lim:=lim) (H:=H) (Q:=Q) (i:=OO P p) (t:=ready) hi
 simp only [n59,r59,PT,Sv,Su,q3,c,g,SB,Nat.reduceLT,NC,NJ,Nat.reduceEqDiff,NG,NQ,reduceCtorEq,NB,place,NA,Nat.reduceAdd,Nat.reduceLeDiff,ND,Int.reduceEq,Int.reduceLT,Int.reduceLE]
 obtain ⟨n,u,d,e⟩:=Nnt (lim:=ready+86400) b hp hr (by omega)
 have a:∀k,VF (X8 (OO P) (ready+86400)) L (Z5 50 (OO P p) ready) k=Sd 50 (OO P) (ready+86400) L p ready k:=fun k=>N3l k
 unfold NY at h
 refine Ntm (n0:=n) (Nrd (R:=R) (P:=P) (ready:=ready) b OC OC (q3 _) hr (by unfold NY;omega)) (Njc hi (by unfold NY;omega)) (hn.sl.app _) (by omega) (by simp;omega) (by rw [a,a];exact d) (fun k hk=>by rw [a,a];exact e k hk) (by omega) fun H' q cap r f=>?_
 rw [funext a] at f
 refine NL ?_
 simp only [n59,r59,SB,Nat.reduceLT,NC,NJ,Nat.reduceEqDiff,NG,NQ,reduceCtorEq,NB,place,NA,Nat.reduceAdd,Nat.reduceLeDiff,ND,Int.reduceEq,Int.reduceLT,Int.reduceLE]
 rw [Nb]
 refine s H' q cap n r.pre d e (by omega) ?_
 rcases f with f | ⟨o,k1,k2,k3,w,x⟩
 ·exact .inl (f.le (by simp))
 ·exact .inr ⟨o,k1,k2,k3,w,by simp at x;omega⟩
theorem Nnk [OB] {lim c:Nat} {p:Option Addr} {l:List Int} {H:NE} {Q:Value->NE->Prop} (hs:Sl H encI 1 p l) (hn:l≠[]) (hl:l.length<2 ^ 40)
  (f:∀H' q,OH H H'->Own H.length H' encI 1 q (loose 1) l->Q (.slice q l.length (loose 1)) H') :
  NK E false lim 106 [.slice p l.length c] H Q:=by
 refine RG (by decide) Obk rfl ?_
 rw [Obx,N5n]
 obtain ⟨a,rfl⟩:=hs.some hn
 have g:=Nnu (lim:=lim) (b:=H.length) (e:=1) (bytes:=8) (c:=c) (H:=H++[Vc []]) (enc:=encI) (p:=some a) (l:=l) NV (hs.app _) (by decide) (by unfold QG;omega) (by omega) hn
 have d:aEq .slice (.slice (some a) l.length c) Vz=some false:=rfl
 simp only [n106,N7r,d,g,SB,Nat.reduceLT,NC,NJ,Nat.reduceEqDiff,NG,NQ,reduceCtorEq,NB,place,NA,Nat.reduceAdd,Nat.reduceLeDiff,ND,Int.reduceEq,Int.reduceLT,Int.reduceLE]
 refine f _ _ OH.refl.app (Own.new ?_ (by omega))
 rw [OC];rfl
theorem N3h {H:NE} {A:Nat} {T:List Int} {n:Nat} (hA:NI H A=Vc (Si T)) (hT:T.length=50) (hn:n<=50):Sl H encI 1 (Sa A) (T.take n):=by
 have:Sl H encI 1 (Sa A) (T.take n++T.drop n):=by
  rw [Qc]
  refine Sl.row Sn (ro:=false) ?_
  rw [hA,VL hT]
  congr 1
  clear hA hT
  induction T with
  | nil=>rfl
  | cons x T ih=>rw [N2,Oy,ih];rfl
 exact this.pre Sn
theorem Nxq [OB] {lim:Nat} {pp pl:Option Addr} {P:List Int} {L:List Leg} {cp cl:Nat} {p ready:Int} {H:NE} {Q:Value->NE->Prop} (hn:NetIn H pp pl P L) (M:lim<=H.length)
  (s:∀H',Vw P L p p ready≠0->Chg [] H H'->Q (.tuple #[Vz,Vi (Vw P L p p ready)]) H')
  (G:∀H' q T,Vw P L p p ready=0->Chg [] H H'->N9y P L p ready T->Own H.length H' encI 1 q (loose 1) T->T.length=P.length->Q (.tuple #[.slice q P.length (loose 1),Vi 0]) H') :
  NK E false lim 165 [.agg (Tv pp P.length cp pl L.length cl).toArray,Vi p,Vi ready] H Q:=by
 refine RG (by decide) Od5 rfl ?_
 rw [Oe9,N87]
 simp only [n165,Nyk,PT,Sv,Su,NH,SB,Nat.reduceLT,NC,NJ,Nat.reduceEqDiff,NG,NQ,reduceCtorEq,NB,place,NA,Nat.reduceAdd,Nat.reduceLeDiff,ND,Int.reduceEq,Int.reduceLT,Int.reduceLE]
 refine Ngc (hn.app _) (by simp;omega) (fun H' he m=>?_) (fun H' R he m W U=>?_)
 ·refine NL ?_
  simp only [n165,Nyk,he,No he,SB,Nat.reduceLT,NC,NJ,Nat.reduceEqDiff,NG,NQ,reduceCtorEq,NB,place,NA,Nat.reduceAdd,Nat.reduceLeDiff,ND,Int.reduceEq,Int.reduceLT,Int.reduceLE]
  exact s _ he (m.chg.pre.app)
 ·obtain ⟨J,hp,_,hr,I⟩:=Mv he
  obtain ⟨N,v2,v3,v4⟩:=Vo J
  have D:=m.len
  simp only [Nn,Nl,Ns] at D U
  have j:NI H' H.length=Vc (Tv pp P.length cp pl L.length cl):=m.cells NV
  have F:=fun X=>(OH.refl.app (X:=X)).cells j
  refine NL ?_
  simp only [n165,Nyk,F,PT,Sv,Su,NH,SB,Nat.reduceLT,NC,NJ,Nat.reduceEqDiff,NG,NQ,reduceCtorEq,NB,place,NA,Nat.reduceAdd,Nat.reduceLeDiff,ND,Int.reduceEq,Int.reduceLT,Int.reduceLE]
  rw [Nb]
  have o:OH H H':=by obtain ⟨Y,rfl⟩:=m;rw [Nq];exact OH.refl.app
  refine Nc0 (hn.ext o) J W hp hr I (by omega) fun y q cap n z v aa Z O=>?_
  have V:=z.len
  have d:((List.range (n+1)).map (Sd 50 (OO P) (ready+86400) L p ready)).length=n+1:=by simp
  have C:gt ((List.range (n+1)).map (Sd 50 (OO P) (ready+86400) L p ready)) n=Sd 50 (OO P) (ready+86400) L p ready n:=by
   rw [PS (by rw [d];omega)];simp
  have hS:=O.sl PN
  have w:=fun X=>(hS.app X).loadCells PN (i:=n) (by rw [d];omega)
  have g:=fun c (kk:IntKind) (H1:NE)=>hS.idx (c:=c) (k:=kk) (H1:=H1) (i:=n) (by rw [d];omega)
  rw [d] at g
  rw [C] at w
  have K:IntKind.i64.wrap (((n+1:Nat):Int)-1)=(n:Int):=by rw [NP (by omega) (by omega)];omega
  have x:=fun X=>(OH.refl.app (X:=X)).cells (z.cells j (by simp))
  have S:0<P.length:=List.length_pos_of_mem hp
  have u:∀b:Nat,XF 50 1 (Vp b) none (some (Vi P.length)) none=some (.slice (Sa b) P.length 50):=fun b=>by
   have:=Nk1 (n:=50) (e:=1) (a:=⟨b,0,none⟩) (lo:=0) (hi:=P.length) (vlo:=none) (vhi:=some (Vi P.length)) (by rw [Mx (by omega) (by omega),Oa]) (by decide) (by decide)
   rw [this];simp [addr_add]
  refine NL ?_
  simp only [n165,Nyk,x,g,w,K,PT,Sv,Su,Nki,PN,NH,NF,On,show lim<=y.length by omega,u,SB,Nat.reduceLT,NC,NJ,Nat.reduceEqDiff,NG,NQ,reduceCtorEq,NB,place,NA,Nat.reduceAdd,Nat.reduceLeDiff,ND,Int.reduceEq,Int.reduceLT,Int.reduceLE]
  have r:(Sd 50 (OO P) (ready+86400) L p ready n).length=50:=UI
  have f:((Sd 50 (OO P) (ready+86400) L p ready n).take P.length).length=P.length:=by rw [Om,r];omega
  have t:=fun Q=>Nnk (Q:=Q) (lim:=lim) (c:=50) (p:=Sa y.length) (l:=(Sd 50 (OO P) (ready+86400) L p ready n).take P.length) (H:=y++[Vc (Si (Sd 50 (OO P) (ready+86400) L p ready n))]) (N3h NV r N) (fun h=>by rw [h] at f;simp at f;omega) (by rw [f];omega)
  rw [f] at t
  refine t _ fun H3 q3 A B=>?_
  refine NL ?_
  simp only [n165,Nyk,SB,Nat.reduceLT,NC,NJ,Nat.reduceEqDiff,NG,NQ,reduceCtorEq,NB,place,NA,Nat.reduceAdd,Nat.reduceLeDiff,ND,Int.reduceEq,Int.reduceLT,Int.reduceLE]
  refine G _ _ _ he ?_ (N5s (VR J) N hp hr v) ((B.le (by simp;omega)).app _) f
  exact (((o.chg).trans z).trans (A.chg.pre)).app
def Neq (P:List Int) (p:Int):Int:=if p∈P then (OO P p:Int) else -1
theorem Zp {H:NE} {q:Option Addr} {T:List Int} {i:Nat} (h:Sl H encI 1 q T) (hi:i<T.length):∀X,AM.loadCell (H++X) (Zv q 1 i)=some (Vi (gt T i)):=fun X=>by
 rw [(h.app X).loadCell0 Sn hi (by decide)];rfl
theorem N4p {H:NE} {q:Option Addr} {T:List Int} {i n:Nat} (h:Sl H encI 1 q T) (hi:i<n) (hT:T.length=n):∀(c:Nat) (k:IntKind) (H1:NE),Z6 1 (.slice q n c) (.int k (i:Int)) H1=some (.pointer (some (Zv q 1 i)),H1):=fun c k H1=>by
 subst hT;exact h.idx hi
theorem N40 {T:List Int} {i:Nat} (h:i<T.length):gt T i=T.getD i (-1):=by
 rw [PS h,Na,Nf h];rfl
theorem N9x {L:List Leg} {p t q v:Int} (h:Ub L p t q v) (ht:t<=NY) (h0:0<=t):v<=NY:=by
 rcases h with ⟨rfl,_⟩ | ⟨⟨⟨j,c⟩,_⟩,_⟩
 ·omega
 ·cases c with
  | nil=>exact ht
  | snoc _ hl _ hd _=>
    obtain ⟨d,b,a,rfl⟩:=hd
    unfold goes at a
    simp only [N0,N3] at a
    exact a.2
theorem N1c {l:Leg} {d:Nat} (hl:l.days=127) (h1:0<=1440*(d:Int)+l.dep-l.cut) (h2:1440*(d:Int)+l.dep+l.mins<=NY):goes l d=true:=by
 have hr:Go.Net.runs l.days d=true:=by
  rw [hl]
  have:d % 7<7:=P7 _ (by decide)
  unfold Go.Net.runs
  generalize d % 7=m at this
  match m,this with
  | 0,_=>rfl
  | 1,_=>rfl
  | 2,_=>rfl
  | 3,_=>rfl
  | 4,_=>rfl
  | 5,_=>rfl
  | 6,_=>rfl
 unfold goes
 rw [hr,Np h1,Np h2];rfl
theorem nx {l:Leg} {t:Int} (d:Nat) (hl:l.days=127) (hd:d<730485) (h1:0<=1440*(d:Int)+l.dep-l.cut) (h2:1440*(d:Int)+l.dep+l.mins<=NY) (a:t<=1440*(d:Int)+l.dep-l.cut) (e:1440*((d:Int)-1)+l.dep-l.cut<t):Sm l t=some (1440*(d:Int)+l.dep):=
 Nl3 (by rw [Zw];exact hd) (N1c hl h1 h2) a fun c b ⟨_,h⟩=>by omega
end Go.Proofs.YtkppjkkkdpcgiaaGreat.Fn


namespace Go.Proofs.YtkppjkkkdpcgiaaGreat.Fn
open Go.AM Go.AM.Sym Go.Scan
section
variable {κ ν:Type} [DecidableEq κ]
def Nbv (k:κ):List (κ×ν)->Option ν
 | []=>none
 | (k',v)::l=>if k'=k then some v else Nbv k l
def Wv (k:κ) (v:ν):List (κ×ν)->List (κ×ν)
 | []=>[(k,v)]
 | (k',v')::l=>if k'=k then (k',v)::l else (k',v')::Wv k v l
def fk (k:κ):List (κ×ν)->Nat->Option (Nat×ν)
 | [],_=>none
 | (k',v)::l,i=>if k'=k then some (i,v) else fk k l (i+1)
theorem Nqi (k:κ):∀(l:List (κ×ν)) (i:Nat),(fk k l i).map (·.2)=Nbv k l
 | [],_=>rfl
 | (k',v)::l,i=>by
   unfold fk Nbv
   by_cases h:k'=k
   ·rw [Ni h,Ni h];rfl
   ·rw [Ng h,Ng h];exact Nqi k l (i+1)
theorem Njz {k:κ} {v v':ν}:∀{l:List (κ×ν)} {i j:Nat},fk k l i=some (j,v)->i<=j/\j-i<l.length/\l.set (j-i) (k,v')=Wv k v' l
 | [],_,_,h=>by cases h
 | (k2,v2)::l,i,j,h=>by
   unfold fk at h
   unfold Wv
   by_cases h2:k2=k
   ·rw [Ni h2] at h
    cases h
    rw [Ni h2,Qt,h2]
    exact ⟨Nd _,by simp,rfl⟩
   ·rw [Ng h2] at h
    obtain ⟨b,c,a⟩:=Njz (v':=v') h
    rw [Ng h2]
    have e:j-i=(j-(i+1))+1:=by omega
    rw [e,Qu,a]
    exact ⟨by omega,by simp only [Nl];omega,rfl⟩
theorem Nj0 {k:κ} {v':ν}:∀{l:List (κ×ν)} {i:Nat},fk k l i=none->l++[(k,v')]=Wv k v' l
 | [],_,_=>rfl
 | (k2,v2)::l,i,h=>by
   unfold fk at h
   unfold Wv
   by_cases h2:k2=k
   ·rw [Ni h2] at h;cases h
   ·rw [Ng h2] at h
    rw [Ng h2,<-Nj0 h,O2]
theorem Nmz {k k':κ} {v:ν}:∀{l:List (κ×ν)},Nbv k' (Wv k v l)=if k'=k then some v else Nbv k' l
 | []=>by
   unfold Wv Nbv
   by_cases h:k'=k
   ·rw [Ni h.symm,Ni h]
   ·rw [Ng fun q=>h q.symm,Ng h];rfl
 | (k2,v2)::l=>by
   unfold Wv
   by_cases h2:k2=k
   ·rw [Ni h2]
    subst h2
    by_cases h:k'=k2
    ·rw [Ni h];unfold Nbv;rw [Ni h.symm]
    ·rw [Ng h];unfold Nbv;rw [Ng fun q=>h q.symm,Ng fun q=>h q.symm]
   ·rw [Ng h2]
    by_cases h:k2=k'
    ·have:¬k'=k:=fun q=>h2 (h.trans q)
     rw [Ng this];unfold Nbv;rw [Ni h,Ni h]
    ·unfold Nbv;rw [Ng h,Ng h];exact Nmz
theorem Nep {k:κ} {v:ν}:∀{l:List (κ×ν)},(Wv k v l).length<=l.length+1
 | []=>by simp [Wv]
 | (k2,v2)::l=>by
   unfold Wv
   split
   ·simp
   ·have:=Nep (k:=k) (v:=v) (l:=l);simp only [Nl];omega
def TD (kv:κ->Value) (vv:ν->Value) (es:List (κ×ν)):List (Value×Value):=es.map fun x=>(kv x.1,vv x.2)
def N24 (kv:κ->Value):Prop:=∀a b,Wd (kv a) (kv b)=some (decide (a=b))
variable {kv:κ->Value} {vv:ν->Value}
theorem YK (hk:N24 kv) (k:κ):∀(es:List (κ×ν)) (i:Nat),findKey (kv k) (TD kv vv es) i=some ((fk k es i).map fun x=>(x.1,vv x.2))
 | [],_=>rfl
 | (k',v)::l,i=>by
   unfold TD
   rw [N2]
   unfold findKey fk
   rw [hk]
   by_cases h:k'=k
   ·rw [Ni h,Np h.symm];rfl
   ·rw [Ng h,N1 fun q=>h q.symm]
    exact YK hk k l (i+1)
end
def kM (k:Int×Int):Value:=.agg #[Vi k.1,Vi k.2]
def kS (k:Int×Int×Int):Value:=.agg #[Vi k.1,Vi k.2.1,.int .u8 k.2.2]
def vI (n:Int):Value:=Vi n
theorem Obe:N24 kM:=fun a b=>by
 obtain ⟨c,d⟩:=a;obtain ⟨b1,b2⟩:=b
 simp only [kM,Wd,UE,if_true,Nu,Bool.and_true,Prod.mk.injEq,Bool.decide_and]
 rfl
theorem Obc:N24 kS:=fun a b=>by
 obtain ⟨c,d,e⟩:=a;obtain ⟨b1,b2,b3⟩:=b
 simp only [kS,Wd,UE,if_true,Nu,Bool.and_true,Prod.mk.injEq,Bool.decide_and]
 rfl
theorem Obd {k:Int×Int}:U0 (.ints [.i64,.i64]) (kM k)=true:=by simp [kM,U0,Ta]
theorem Obb {k:Int×Int×Int}:U0 (.ints [.i64,.i64,.u8]) (kS k)=true:=by simp [kS,U0,Ta]
theorem N1e (k:Int×Int):∀l,WO k l=Nbv k l
 | []=>rfl
 | (k',v)::l=>by unfold WO Nbv;rw [N1e k l]
theorem Nbg (k:Int×Int) (m:Mk):∀l,Xi k m l=Wv k m l
 | []=>rfl
 | (k',v)::l=>by unfold Xi Wv;rw [Nbg k m l]
theorem Nmc {α β:Type} {f:α->Option β} {g:α->β}:∀{l:List α},(∀x∈l,f x=some (g x))->YA f l=some (l.map g)
 | [],_=>rfl
 | x::l,h=>by
   unfold YA
   rw [h x (by simp),Nmc (l:=l) fun y a=>h y (by simp [a])]
   rfl
theorem Nut {H:NE} {I R lim:Nat} {es:List (Value×Value)} {seen:List Nat} {Q:Value->NE->Prop} (hi:NI H I=.iter (some R) es.length seen) (hl:lim<=I) (d:NI H R=.map es) (hk:∀e∈es,VK e.1=true)
  (h0:Tt es.length seen=[]->Q (.tuple #[.bool false]) H)
  (h1:∀j e,j∈Tt es.length seen->es[j]? = some e->Q (.tuple #[.bool true,e.1,e.2]) (H.set I (.iter (some R) es.length (seen++[j])))) :
  nxK false (ZN lim (Vp I) H) Q:=by
 have hn:ZN lim (Vp I) H=match Tt es.length seen with
   | []=>some [(.tuple #[.bool false],H)]
   | j::l=>YA (fun j=>match es[j]? with
     | some e=>if VK e.1 then some (.tuple #[.bool true,e.1,e.2],H.set I (.iter (some R) es.length (seen++[j]))) else none
     | none=>none) (j::l):=by
  unfold ZN
  simp only [hi,hl,if_true,Ul,d]
  cases Tt es.length seen<;>rfl
 rw [hn]
 have c:∀j∈Tt es.length seen,j<es.length:=fun j hj=>by
  unfold Tt at hj
  exact List.mem_range.mp (O5.mp hj).1
 split
 ·rename_i e
  exact ⟨fun h=>(by cases h),fun r hr=>by
   rw [Nj] at hr;subst hr;exact h0 e⟩
 ·rename_i j l e
  rw [<-e]
  rw [Nmc (g:=fun j=>(.tuple #[.bool true,(es.getD j (undef,undef)).1,(es.getD j (undef,undef)).2],H.set I (.iter (some R) es.length (seen++[j])))) fun j hj=>by
   have a:=c j hj
   have e1:es[j]? = some es[j]:=Nf a
   have e2:es.getD j (undef,undef)=es[j]:=by rw [Na,e1];rfl
   rw [e1,e2]
   simp only [hk _ (P1 a),if_true]]
  refine ⟨fun h=>(by cases h),fun r hr=>?_⟩
  obtain ⟨b,hj,rfl⟩:=List.mem_map.mp hr
  have a:=c b hj
  have e1:es[b]? = some es[b]:=Nf a
  have e2:es.getD b (undef,undef)=es[b]:=by rw [Na,e1];rfl
  have:=h1 b _ hj e1
  simp only [e2]
  exact this
theorem Nqo {H:NE} {I R:Nat} {es:List (Value×Value)} {seen:List Nat} {j:Nat} {e:Value×Value} (hi:NI H I=.iter (some R) es.length (seen++[j])) (a:NI H R=.map es) (he:es[j]? = some e) (hk:VK e.1=true) :
  YT (Vp I) H=some (.tuple #[e.1,e.2],H):=by
 unfold YT
 simp only [hi,Ul,a,List.getLast?_concat,he,hk,if_true]
theorem Nos {H:NE} {R:Nat} {es:List (Value×Value)} (a:NI H R=.map es):U4 (.map (some R)) H=some (Vp H.length,H++[.iter (some R) es.length []]):=by
 unfold U4
 simp only [Ul,a]
structure MetOk (n:Nat) (seen:List Nat):Prop where
 nd:seen.Nodup
 lt:∀j∈seen,j<n
theorem MetOk.add {n:Nat} {seen:List Nat} (h:MetOk n seen) {j:Nat} (hj:j∈Tt n seen):MetOk n (seen++[j]):=by
 unfold Tt at hj
 obtain ⟨h1,h2⟩:=O5.mp hj
 have hn:j∉seen:=by simpa using h2
 refine ⟨Qe.mpr ⟨h.nd,List.pairwise_singleton _ _,fun a e b d c=>?_⟩,fun k hk=>?_⟩
 ·rw [Nj] at d;subst d;subst c;exact hn e
 ·rcases Od.mp hk with hk | hk
  ·exact h.lt k hk
  ·rw [Nj] at hk;subst hk;exact List.mem_range.mp h1
theorem MetOk.len {n:Nat} {seen:List Nat} (h:MetOk n seen):seen.length<=n:=by
 have:=h.nd.length_le_of_subset (l₂:=List.range n) fun j hj=>List.mem_range.mpr (h.lt j hj)
 simpa using this
theorem MetOk.perm {n:Nat} {seen:List Nat} (h:MetOk n seen) (a:Tt n seen=[]):seen.Perm (List.range n):=by
 refine (List.perm_ext_iff_of_nodup h.nd List.nodup_range).mpr fun j=>⟨fun hj=>List.mem_range.mpr (h.lt j hj),fun hj=>?_⟩
 unfold Tt at a
 rw [List.filter_eq_nil_iff] at a
 simpa using a j hj
def Nps {κ ν:Type} [Inhabited ν] (es:List (κ×ν)) (seen:List Nat):List ν:=seen.map fun j=>gt (es.map (·.2)) j
theorem Nzw {κ ν:Type} [Inhabited ν] {es:List (κ×ν)} {seen:List Nat} (h:MetOk es.length seen) (a:Tt es.length seen=[]):(Nps es seen).Perm (es.map (·.2)):=by
 have e:(List.range es.length).map (fun j=>gt (es.map (·.2)) j)=es.map (·.2):=by
  refine Pn (by simp) fun i h1 h2=>?_
  rw [P6,List.getElem_range,PS h2]
 have hp:(seen.map fun j=>gt (es.map (·.2)) j).Perm ((List.range es.length).map fun j=>gt (es.map (·.2)) j):=(h.perm a).map _
 rw [e] at hp
 exact hp
def encE (e:Ev):List Value:=[Vi e.item,Vi e.place,Vi e.scanner,.int .u8 e.kind,Vi e.at',Vi e.seen,Vi e.time]
def R3 (e:Ev):List Value:=[Vi e.item,Vi e.place,Vi e.scanner,.int .u8 e.kind,Vi e.at',Vi e.seen]
def Ru (m:Mk):List Value:=[Vi m.scanner,Vi m.at',Vi m.off]
theorem NW (e:Ev):(encE e).length=7:=id rfl
theorem OX (e:Ev):(R3 e).length=6:=id rfl
theorem QS (e:Mk):(Ru e).length=3:=id rfl
theorem PY {e:Ev}:(encE e)[0]? = some (Vi e.item):=id rfl
theorem QD {e:Ev}:(encE e)[1]? = some (Vi e.place):=id rfl
theorem QC {e:Ev}:(encE e)[2]? = some (Vi e.scanner):=id rfl
theorem QB {e:Ev}:(encE e)[3]? = some (.int .u8 e.kind):=id rfl
theorem QA {e:Ev}:(encE e)[4]? = some (Vi e.at'):=id rfl
theorem PZ {e:Ev}:(encE e)[5]? = some (Vi e.seen):=id rfl
theorem PW {e:Ev}:(encE e)[6]? = some (Vi e.time):=id rfl
theorem Ue {e:Ev}:(R3 e)[0]? = some (Vi e.item):=id rfl
theorem Ve {e:Ev}:(R3 e)[1]? = some (Vi e.place):=id rfl
theorem Vd {e:Ev}:(R3 e)[2]? = some (Vi e.scanner):=id rfl
theorem Vb {e:Ev}:(R3 e)[3]? = some (.int .u8 e.kind):=id rfl
theorem Va {e:Ev}:(R3 e)[4]? = some (Vi e.at'):=id rfl
theorem UZ {e:Ev}:(R3 e)[5]? = some (Vi e.seen):=id rfl
theorem XU {m:Mk}:(Ru m)[0]? = some (Vi m.scanner):=id rfl
theorem YN {m:Mk}:(Ru m)[1]? = some (Vi m.at'):=id rfl
theorem YM {m:Mk}:(Ru m)[2]? = some (Vi m.off):=id rfl
theorem Vf {e:Ev}:(encE e).take 6=R3 e:=id rfl
theorem XN [OB] {mp:Bool} {lim:Nat} {a:Int} {H:NE} {Q:Value->NE->Prop}:NK E mp lim 120 [Vi a] H Q=Q (.bool (decide (1<=a/\a<=999999))) H:=by
 refine pc (by decide) Oeo rfl rfl ?_
 rw [Oft,N9j]
 by_cases h1:1<=a
 ·simp only [n120,Oao,N5 h1,SB,seval,NC,NJ,NG,NQ,reduceCtorEq,NB,place,NA,ND]
 ·simp only [n120,Oao,No h1,SB,seval,NC,NJ,NG,NQ,reduceCtorEq,NB,place,NA,ND]
theorem UX [OB] {mp:Bool} {lim:Nat} {a:Int} {H:NE} {Q:Value->NE->Prop}:NK E mp lim 121 [Vi a] H Q=Q (.bool (decide (0<=a/\a<=VI))) H:=by
 refine pc (by decide) Oen rfl rfl ?_
 rw [Ofs,N9i]
 unfold VI
 by_cases h1:0<=a
 ·simp only [n121,Oan,N5 h1,SB,seval,NC,NJ,NG,NQ,reduceCtorEq,NB,place,NA,ND]
 ·simp only [n121,Oan,No h1,SB,seval,NC,NJ,NG,NQ,reduceCtorEq,NB,place,NA,ND]
theorem Ze [OB] {mp:Bool} {lim:Nat} {e:Ev} {H:NE} {Q:Value->NE->Prop}:NK E mp lim 92 [.agg (R3 e).toArray] H Q=Q (.bool (decide (Sz e))) H:=by
 refine pc (by decide) e92 rfl rfl ?_
 rw [b92,c92]
 have no:¬Sz e->decide (Sz e)=false:=fun h=>N1 h
 by_cases h1:1<=e.item/\e.item<=999999
 case neg=>simp only [n92,r92,R3,XN,UX,N1 h1,no (fun h=>h1 h.1),SB,seval,NC,NJ,NG,NQ,reduceCtorEq,NB,place,NA,ND]
 by_cases h2:1<=e.place/\e.place<=999999
 case neg=>simp only [n92,r92,R3,XN,UX,Np h1,N1 h2,no (fun h=>h2 h.2.1),SB,seval,NC,NJ,NG,NQ,reduceCtorEq,NB,place,NA,ND]
 by_cases a:1<=e.scanner/\e.scanner<=999999
 case neg=>simp only [n92,r92,R3,XN,UX,Np h1,Np h2,N1 a,no (fun h=>a h.2.2.1),SB,seval,NC,NJ,NG,NQ,reduceCtorEq,NB,place,NA,ND]
 by_cases b:1<=e.kind
 case neg=>simp only [n92,r92,R3,XN,UX,Np h1,Np h2,Np a,No b,no (fun h=>b h.2.2.2.1.1),SB,seval,NC,NJ,NG,NQ,reduceCtorEq,NB,place,NA,ND]
 by_cases c:e.kind<=4
 case neg=>simp only [n92,r92,R3,XN,UX,Np h1,Np h2,Np a,N5 b,No c,no (fun h=>c h.2.2.2.1.2),SB,seval,NC,NJ,NG,NQ,reduceCtorEq,NB,place,NA,ND]
 by_cases d:0<=e.at'/\e.at'<=VI
 case neg=>simp only [n92,r92,R3,XN,UX,Np h1,Np h2,Np a,N5 b,N5 c,N1 d,no (fun h=>d h.2.2.2.2.1),SB,seval,NC,NJ,NG,NQ,reduceCtorEq,NB,place,NA,ND]
 have f:decide (Sz e)=decide (0<=e.seen/\e.seen<=VI):=by
  rw [decide_eq_decide]
  exact ⟨fun h=>h.2.2.2.2.2,fun h=>⟨h1,h2,a,⟨b,c⟩,d,h⟩⟩
 simp only [n92,r92,R3,XN,UX,Np h1,Np h2,Np a,N5 b,N5 c,Np d,f,SB,seval,NC,NJ,NG,NQ,reduceCtorEq,NB,place,NA,ND]
end Go.Proofs.YtkppjkkkdpcgiaaGreat.Fn


namespace Go.Proofs.YtkppjkkkdpcgiaaGreat.Fn
open Go.AM Go.AM.Sym Go.Net Go.Scan
theorem Nd8 [OB] {mp:Bool} {lim B:Nat} {e:Ev} {o:Bool} {H:NE} {Q:Value->NE->Prop} (hB:NI H B=.cells o (R3 e)):NK E mp lim 55 [.slice (Sa B) 1 1] H Q=Q (.bool (decide (Sz e))) H:=by
 refine pc (by decide) e55 rfl rfl ?_
 rw [b55,c55]
 have a:=fun X=>(OH.refl.app (X:=X)).cells hB
 have i0:∀k (H1:NE),Z6 6 (.slice (Sa B) 1 1) (.int k 0) H1=some (Vp B,H1):=fun k H1=>by simp [Z6,addr_add]
 have b:IntKind.i64.wrap (0+1)=1:=by decide
 simp only [n55,r55,SB,Nat.reduceLT,NC,NJ,Nat.reduceEqDiff,NG,NQ,reduceCtorEq,NB,place,NA,Nat.reduceAdd,Nat.reduceLeDiff,ND,Int.reduceEq,Int.reduceLT,Int.reduceLE]
 rw [X0,NU Nsm.eq_1]
 cases h:decide (Sz e) with
 | false=>simp only [n55,r55,a,i0,OX,NH,NF,Ze,h,SB,Nat.reduceLT,NC,NJ,Nat.reduceEqDiff,NG,NQ,reduceCtorEq,NB,place,NA,Nat.reduceAdd,Nat.reduceLeDiff,ND,Int.reduceEq,Int.reduceLT,Int.reduceLE]
 | true=>
   simp only [n55,r55,a,i0,OX,NH,NF,Ze,h,b,SB,Nat.reduceLT,NC,NJ,Nat.reduceEqDiff,NG,NQ,reduceCtorEq,NB,place,NA,Nat.reduceAdd,Nat.reduceLeDiff,ND,Int.reduceEq,Int.reduceLT,Int.reduceLE]
   rw [Uu,NU Nsm.eq_1]
   simp only [n55,r55,SB,Nat.reduceLT,NC,NJ,Nat.reduceEqDiff,NG,NQ,reduceCtorEq,NB,place,NA,Nat.reduceAdd,Nat.reduceLeDiff,ND,Int.reduceEq,Int.reduceLT,Int.reduceLE]
def N1l (es:List Ev) (i:Nat):Prop:=Sz (gt es i)/\0<=(gt es i).time/\(gt es i).time<=NY/\(0<i->(gt es i).item=(gt es 0).item/\(gt es (i-1)).time<=(gt es i).time)
instance (es:List Ev) (i:Nat):Decidable (N1l es i):=by unfold N1l;infer_instance
def Ngo (es:List Ev):Prop:=∀i,i<es.length->N1l es i
instance (es:List Ev):Decidable (Ngo es):=by unfold Ngo;infer_instance
def WS (P:List Int) (L:List Leg) (es:List Ev):Int:=if R7 P L≠0 then R7 P L else if 40<es.length then 5 else if Ngo es then 0 else 2
theorem Nqn {P:List Int} {L:List Leg} {es:List Ev} (h:WS P L es=0):R7 P L=0/\es.length<=40/\Ngo es:=by
 unfold WS at h
 split at h
 ·contradiction
 ·split at h
  ·cases h
  ·split at h
   ·rename_i h1 h2 a
    exact ⟨by simpa using h1,by omega,a⟩
   ·cases h
theorem N2b [OB] {mp:Bool} {lim ce:Nat} {pp pl pe:Option Addr} {P:List Int} {L:List Leg} {cp cl:Nat} {es:List Ev} {H:NE} {Q:Value->NE->Prop} (hn:NetIn H pp pl P L) (hs:Sl H encE 7 pe es) (J:es.length<2 ^ 63) :
  NK E mp lim 69 [.agg (Tv pp P.length cp pl L.length cl).toArray,.slice pe es.length ce] H Q=Q (Vi (WS P L es)) H:=by
 refine pc (by decide) e69 rfl rfl ?_
 rw [b69,c69]
 have w:=fun X (mp:Bool) (lim:Nat) (Q:Value->NE->Prop)=>Ndx (mp:=mp) (lim:=lim) (cp:=cp) (cl:=cl) (Q:=Q) (hn.app X)
 by_cases h0:R7 P L=0
 case neg=>
  have e:WS P L es=R7 P L:=by unfold WS;rw [Ni h0]
  simp only [n69,r69,PT,Sv,Su,NH,w,No h0,e,SB,seval,NC,NJ,NG,NQ,reduceCtorEq,NB,place,NA,ND]
 by_cases t:(40:Int)<(es.length:Int)
 ·have e:WS P L es=5:=by unfold WS;rw [Ng (by simpa using h0),Ni (by omega)]
  simp only [n69,r69,PT,Sv,Su,NH,w,N5 h0,N5 t,e,SB,seval,NC,NJ,NG,NQ,reduceCtorEq,NB,place,NA,ND]
 have e2:WS P L es=if Ngo es then 0 else 2:=by unfold WS;rw [Ng (by simpa using h0),Ng (by omega)]
 simp only [n69,r69,PT,Sv,Su,NH,w,N5 h0,No t,SB,seval,NC,NJ,NG,NQ,reduceCtorEq,NB,place,NA,ND]
 refine NS (fun i=>es.length-i) (fun i fr G=>i<=es.length/\fr 1=.slice pe es.length ce/\fr 16=.slice pe es.length ce/\fr 17=Vi es.length/\fr 18=Vi i/\OH H G/\∀j,j<i->N1l es j) 0
  ⟨Nw _,rfl,rfl,rfl,by rfl,OH.refl.app,fun j hj=>by omega⟩ ?_
 intro i fr G ⟨hi,f1,b,d,f,v,n⟩ A
 rw [NU N6o.eq_1]
 refine NL ?_
 have hl:=v.len
 by_cases a:i<es.length
 case neg=>
  obtain rfl:i=es.length:=by omega
  rw [Ni (show Ngo es from n)] at e2
  simp only [n69,r69,f1,b,d,f,a,e2,SB,seval,NC,NJ,NG,NQ,reduceCtorEq,NB,place,NA,ND]
 have l:=v.sl hs
 have q:=fun X=>(l.app X).loadCells NW a
 have p:=fun c (kk:IntKind) (H1:NE)=>l.idx (c:=c) (k:=kk) (H1:=H1) a
 have r:=fun X=>(l.app X).loadCell NW (i:=0) (j:=0) (by omega) (by decide)
 rw [PY] at r
 replace r:∀X,AM.loadCell (G++X) (((Zv pe 7 0).add 0).add 0)=some (Vi (gt es 0).item):=r
 have i0:=fun c (kk:IntKind) (H1:NE)=>l.idx (c:=c) (k:=kk) (H1:=H1) (i:=0) (by omega)
 simp only [Qq] at i0
 have x:IntKind.i64.wrap ((i:Int)+1)=((i+1:Nat):Int):=OE (by omega)
 have m:¬N1l es i->WS P L es=2:=fun h=>by rw [e2,Ng fun I=>h (I i a)]
 have K:=fun (G:NE) (B:Nat) (o:Bool) (h:NI G B=.cells o (R3 (gt es i))) (mp:Bool) (lim:Nat) (Q:Value->NE->Prop)=>Nd8 (mp:=mp) (lim:=lim) (Q:=Q) h
 have g:∀(X:NE) (mp:Bool) (lim:Nat) (Q:Value->NE->Prop),NK E mp lim 55 [.slice (Sa (G.length+1)) 1 1] (G++Vc (encE (gt es i))::Vc (R3 (gt es i))::X) Q=Q (.bool (decide (Sz (gt es i)))) (G++Vc (encE (gt es i))::Vc (R3 (gt es i))::X):=fun X mp lim Q=>Nd8 (o:=false) (by rw [OC];rfl)
 by_cases h1:Sz (gt es i)
 case neg=>
  simp only [n69,r69,f1,b,d,f,a,q,p,NW,PY,QD,QC,QB,QA,PZ,PW,NH,NF,hl,Vf,OX,g,N1 h1,SB,seval,NC,NJ,NG,NQ,reduceCtorEq,NB,place,NA,ND]
  rw [m fun h=>h1 h.1]
 by_cases h2:(gt es i).time<0
 ·simp only [n69,r69,f1,b,d,f,a,q,p,NW,PY,QD,QC,QB,QA,PZ,PW,NH,NF,hl,Vf,OX,g,Np h1,N5 h2,SB,seval,NC,NJ,NG,NQ,reduceCtorEq,NB,place,NA,ND]
  rw [m fun h=>by have:=h.2.1;omega]
 by_cases s:1051898399<(gt es i).time
 ·simp only [n69,r69,f1,b,d,f,a,q,p,NW,PY,QD,QC,QB,QA,PZ,PW,NH,NF,hl,Vf,OX,g,Np h1,No h2,N5 s,SB,seval,NC,NJ,NG,NQ,reduceCtorEq,NB,place,NA,ND]
  rw [m fun h=>by have:=h.2.2.1;unfold NY at this;omega]
 by_cases N:0<i
 case neg=>
  obtain rfl:i=0:=by omega
  have M:IntKind.i64.wrap (0+1)=1:=by decide
  simp only [n69,r69,f1,b,d,f,a,q,p,NW,PY,QD,QC,QB,QA,PZ,PW,NH,NF,hl,Vf,OX,g,Np h1,No h2,No s,i0,M,SB,seval,NC,NJ,NG,NQ,reduceCtorEq,NB,place,NA,ND]
  exact A 1 _ _ ⟨by omega,f1,b,d,by rfl,v.app,fun j hj=>by
   obtain rfl:j=0:=by omega
   exact ⟨h1,by omega,by unfold NY;omega,fun h=>by omega⟩⟩ (by omega)
 obtain ⟨k,rfl⟩:∃k,i=k+1:=⟨i-1,by omega⟩
 have y:=fun X=>(l.app X).loadCell NW (i:=k) (j:=6) (by omega) (by decide)
 rw [PW] at y
 have C:=fun c (kk:IntKind) (H1:NE)=>l.idx (c:=c) (k:=kk) (H1:=H1) (i:=k) (by omega)
 have D:IntKind.i64.wrap (((k+1:Nat):Int)-1)=(k:Int):=by rw [NP (by omega) (by omega)];omega
 have kp:=N5 (show 0<k+1 by omega)
 by_cases u:(gt es (k+1)).item=(gt es 0).item
 case neg=>
  simp only [n69,r69,f1,b,d,f,a,q,p,NW,PY,QD,QC,QB,QA,PZ,PW,NH,NF,hl,Vf,OX,g,Np h1,No h2,No s,r,i0,kp,No u,SB,seval,NC,NJ,NG,NQ,reduceCtorEq,NB,place,NA,ND]
  rw [m fun h=>u (h.2.2.2 (by omega)).1]
 by_cases z:(gt es (k+1)).time<(gt es k).time
 ·simp only [n69,r69,f1,b,d,f,a,q,p,NW,PY,QD,QC,QB,QA,PZ,PW,NH,NF,hl,Vf,OX,g,Np h1,No h2,No s,r,i0,kp,N5 u,y,C,D,N5 z,SB,seval,NC,NJ,NG,NQ,reduceCtorEq,NB,place,NA,ND]
  rw [m fun h=>by have F:=(h.2.2.2 (by omega)).2;rw [P0] at F;omega]
 simp only [n69,r69,f1,b,d,f,a,q,p,NW,PY,QD,QC,QB,QA,PZ,PW,NH,NF,hl,Vf,OX,g,Np h1,No h2,No s,r,i0,kp,N5 u,y,C,D,No z,x,SB,seval,NC,NJ,NG,NQ,reduceCtorEq,NB,place,NA,ND]
 exact A (k+2) _ _ ⟨by omega,f1,b,d,rfl,v.app,fun j hj=>by
  rcases Ol j (k+1) with h | h
  ·exact n j h
  ·obtain rfl:j=k+1:=by omega
   exact ⟨h1,by omega,by unfold NY;omega,fun _=>⟨u,by rw [P0];omega⟩⟩⟩ (by omega)
def Nmd:Nat:=5000000
theorem Nz1:Nmd=5000000:=rfl
attribute [irreducible] Nmd
def Nf8 (P:List Int) (L:List Leg) (p t q:Int):Int:=(Sd 50 (OO P) (t+86400) L p t Nmd).getD (OO P q) (-1)
theorem Ndr {P:List Int} {L:List Leg} {p t q:Int} (hn:NetOk 50 P L (OO P)) (hp:p∈P) (b:q∈P) (ht:0<=t):Ub L p t q (Nf8 P L p t q):=by
 obtain ⟨n,h1,h2,_⟩:=Nnt (lim:=t+86400) hn hp ht (by omega)
 have a:=Nga hn hp ht (by omega:t<=t+86400) h2 q b
 obtain ⟨j,hj⟩:∃j,Nmd=n+j:=⟨Nmd-n,by rw [Nz1];omega⟩
 unfold Nf8
 rw [hj,Nf9 h2 j]
 exact a
def Rv (P:List Int) (L:List Leg) (a b:Ev):Int:=
 if a.kind=4 then 80 else if a.place=b.place then 0 else if b.place∉P then 80 else if Vw P L a.place a.place a.time≠0 then 80 else
 if Nf8 P L a.place a.time b.place<0 then 80 else min (max (Nf8 P L a.place a.time b.place-b.time) 0) 60
theorem VG {P:List Int} {L:List Leg} {a b:Ev}:0<=Rv P L a b/\Rv P L a b<=80:=by
 unfold Rv
 repeat' split
 all_goals omega
theorem Mc {α:Type} {G G':NE} {enc:α->List Value} {e:Nat} {p:Option Addr} {l:List α} (h:Sl G enc e p l) (hk:∀a,p=some a->l≠[]->∀ro c,NI G a.block=.cells ro c->NI G' a.block=.cells ro c):Sl G' enc e p l:=by
 cases p with
 | none=>exact h
 | some a=>
   refine ⟨h.1,fun hn=>?_⟩
   obtain ⟨ro,c,h2,b⟩:=h.2 hn
   exact ⟨ro,c,hk a rfl hn _ _ h2,b⟩
def Off {α:Type} (S:List Nat) (p:Option Addr) (l:List α):Prop:=∀a,p=some a->l≠[]->a.block∉S
theorem Off.grow {α:Type} {S:List Nat} {p:Option Addr} {l:List α} {G:NE} {enc:α->List Value} {e b:Nat} (h:Off S p l) (hs:Sl G enc e p l) (i:G.length<=b):Off (b::S) p l:=fun a d hn f=>by
 subst d
 obtain ⟨ro,c,h2,g⟩:=hs.2 hn
 have:=NM h2
 rcases Nr.1 f with h1 | h1
 ·omega
 ·exact h a rfl hn h1
def WW (S:List Nat) (G:NE) (P:List Int) (L:List Leg) (a t:Int) (v:Value):Prop:=
 (Vw P L a a t≠0/\v=Vz)\/(Vw P L a a t=0/\∃q T,v=.slice q P.length (loose 1)/\Sl G encI 1 q T/\N9y P L a t T/\Off S q T)
theorem WW.keep {S:List Nat} {G G':NE} {P:List Int} {L:List Leg} {a t:Int} {v:Value} (h:WW S G P L a t v) (hk:∀b ro c,b∉S->NI G b=.cells ro c->NI G' b=.cells ro c):WW S G' P L a t v:=by
 rcases h with h | ⟨h,q,T,h1,h2,e,d⟩
 ·exact .inl h
 ·exact .inr ⟨h,q,T,h1,Mc h2 fun a f hn ro c=>hk _ _ _ (d a f hn),e,d⟩
def MX (ms:List (Int×Int×Value)):List (Value×Value):=ms.map fun x=>(.agg #[Vi x.1,Vi x.2.1],x.2.2)
structure PI (lim R M:Nat) (S:List Nat) (G:NE) (pp pl:Option Addr) (cp cl:Nat) (P:List Int) (L:List Leg):Prop where
 net:NetIn G pp pl P L
 op:Off S pp P
 ol:Off S pl L
 r:NI G R=Vc [.slice pp P.length cp,.slice pl L.length cl,.map (some M)]
 oR:R∉S
 oM:M∉S
 m:∃ms,NI G M=.map (MX ms)/\∀x∈ms,WW S G P L x.1 x.2.1 x.2.2
 lM:lim<=M
 sl:∀j∈S,j<G.length
section
variable {lim R M:Nat} {S:List Nat} {G G':NE} {pp pl:Option Addr} {cp cl:Nat} {P:List Int} {L:List Leg}
theorem PI.alive (h:PI lim R M S G pp pl cp cl P L):M<G.length:=by
 obtain ⟨ms,h1,_⟩:=h.m
 exact PR h1
theorem NetIn.sim {H:NE} (h:NetIn H pp pl P L) (hk:∀b ro c,NI H b=.cells ro c->NI G b=.cells ro c):NetIn G pp pl P L:=⟨h.sp.sim hk,h.sl.sim hk,h.np,h.nl,h.bys⟩
theorem PI.keep (h:PI lim R M S G pp pl cp cl P L) (hk:∀b ro c,b∉S->NI G b=.cells ro c->NI G' b=.cells ro c) (e:NI G' M=NI G M) (hl:G.length<=G'.length):PI lim R M S G' pp pl cp cl P L:=by
 obtain ⟨ms,h1,h2⟩:=h.m
 exact ⟨⟨Mc h.net.sp fun a d hn ro c=>hk _ _ _ (h.op a d hn),Mc h.net.sl fun a d hn ro c=>hk _ _ _ (h.ol a d hn),h.net.np,h.net.nl,h.net.bys⟩,h.op,h.ol,hk _ _ _ h.oR h.r,h.oR,h.oM,⟨ms,e.trans h1,fun x f=>(h2 x f).keep hk⟩,h.lM,fun j hj=>by have:=h.sl j hj;omega⟩
theorem PI.chg (h:PI lim R M S G pp pl cp cl P L) (hc:Chg S G G'):PI lim R M S G' pp pl cp cl P L:=
 h.keep (fun b ro c a d=>hc.cells d a) (hc.other _ h.alive h.oM) hc.len
theorem PI.app (h:PI lim R M S G pp pl cp cl P L) (X:NE):PI lim R M S (G++X) pp pl cp cl P L:=h.chg Chg.refl.app
theorem PI.chgk (h:PI lim R M S G pp pl cp cl P L) (hc:Chg [M] G G'):∀b ro c,NI G b=.cells ro c->NI G' b=.cells ro c:=fun b ro c a=>hc.cells a fun d=>by
 obtain ⟨ms,h1,_⟩:=h.m
 rw [Nj.1 d,h1] at a
 cases a
theorem WW.grow {b:Nat} {a t:Int} {v:Value} (h:WW S G P L a t v) (e:G.length<=b):WW (b::S) G P L a t v:=by
 rcases h with h | ⟨h,q,T,h1,h2,c,d⟩
 ·exact .inl h
 ·exact .inr ⟨h,q,T,h1,h2,c,d.grow h2 e⟩
theorem PI.growC {b:Nat} (h:PI lim R M S G pp pl cp cl P L) (hc:Chg S G G') (f:G.length<=b) (n:b<G'.length):PI lim R M (b::S) G' pp pl cp cl P L:=by
 have h':=h.chg hc
 obtain ⟨ms,h1,h2⟩:=h.m
 have s:=NM h.r
 have i:=h.alive
 refine ⟨h'.net,h.op.grow h.net.sp f,h.ol.grow h.net.sl f,h'.r, ?_, ?_,⟨ms,(hc.other _ i h.oM).trans h1,fun x p=>?_⟩,h.lM, ?_⟩
 ·intro d
  rcases Nr.1 d with e | e
  ·omega
  ·exact h.oR e
 ·intro d
  rcases Nr.1 d with e | e
  ·omega
  ·exact h.oM e
 ·rcases (h2 x p).grow f with k | ⟨k,q,T,k1,k2,k3,g⟩
  ·exact .inl k
  ·exact .inr ⟨k,q,T,k1,Mc k2 fun a l hn ro c o=>hc.cells o fun d=>g a l hn (Nk _ d),k3,g⟩
 ·intro j hj
  rcases Nr.1 hj with e | e
  ·omega
  ·have:=h.sl j e;have:=hc.len;omega
theorem PI.grow {b:Nat} (h:PI lim R M S G pp pl cp cl P L) (X:NE) (c:G.length<=b) (a:b<G.length+X.length):PI lim R M (b::S) (G++X) pp pl cp cl P L:=
 h.growC Chg.refl.app c (by simpa using a)
theorem PI.sub {S':List Nat} (h:PI lim R M S G pp pl cp cl P L) (hS:∀j∈S',j∈S):PI lim R M S' G pp pl cp cl P L:=by
 obtain ⟨ms,h1,h2⟩:=h.m
 refine ⟨h.net,fun a c hn b=>h.op a c hn (hS _ b),fun a c hn b=>h.ol a c hn (hS _ b),h.r,fun b=>h.oR (hS _ b),fun b=>h.oM (hS _ b),⟨ms,h1,fun x d=>?_⟩,h.lM,fun j hj=>h.sl j (hS _ hj)⟩
 rcases h2 x d with k | ⟨k,q,T,k1,k2,k3,e⟩
 ·exact .inl k
 ·exact .inr ⟨k,q,T,k1,k2,k3,fun a c hn b=>e a c hn (hS _ b)⟩
end
theorem Nhp {a t:Int}:∀(ms:List (Int×Int×Value)) (i:Nat),(findKey (.agg #[Vi a,Vi t]) (MX ms) i=some none)\/∃j v,(a,t,v)∈ms/\findKey (.agg #[Vi a,Vi t]) (MX ms) i=some (some (j,v))
 | [],i=>.inl rfl
 | (c,d,v)::ms,i=>by
   have e:MX ((c,d,v)::ms)=(.agg #[Vi c,Vi d],v)::MX ms:=rfl
   rw [e,Nj1]
   by_cases h:a=c/\t=d
   ·rw [Ni h]
    obtain ⟨rfl,rfl⟩:=h
    exact .inr ⟨i,v,Nm ..,rfl⟩
   ·rw [Ng h]
    rcases Nhp ms (i+1) with h1 | ⟨j,w,h1,h2⟩
    ·exact .inl h1
    ·exact .inr ⟨j,w,Nk _ h1,h2⟩
theorem No4 [OB] {lim R M:Nat} {S:List Nat} {pp pl:Option Addr} {P:List Int} {L:List Leg} {cp cl:Nat} {a t:Int} {G:NE} {Q:Value->NE->Prop} (h:PI lim R M S G pp pl cp cl P L) (l:lim<=G.length)
  (B:∀G' v,Chg [M] G G'->PI lim R M S G' pp pl cp cl P L->WW S G' P L a t v->Q v G') :
  NK E false lim 137 [Vp R,Vi a,Vi t] G Q:=by
 refine RG (by decide) Oeb rfl ?_
 rw [Ofg,N89]
 obtain ⟨ms,u,y⟩:=h.m
 have k:=h.alive
 have I:=fun X=>(OH.refl.app (X:=X)).cells h.r
 have H:∀X,NI (G++X) M=.map (MX ms):=fun X=>by rw [NR k];exact u
 have e:U0 (.ints [.i64,.i64]) (.agg #[Vi a,Vi t])=true:=rfl
 rcases Nhp (a:=a) (t:=t) ms 0 with w | ⟨j,v,z,w⟩
 case inr=>
  simp only [n137,N3q,I,H,w,e,l,NF,SB,seval,NC,NJ,NG,NQ,reduceCtorEq,NB,place,NA,ND]
  exact B _ v (Chg.refl.app) (h.app _) ((y _ z).keep fun b ro c _ i=>(OH.refl.app).cells i)
 have put:∀(G1:NE) (v:Value),Chg [] G G1->WW S G1 P L a t v->∃G2,(∀X:NE,(G1++X).set M (.map (MX ms++[(Value.agg #[Vi a,Vi t],v)]))=G2++X)/\∀X,Chg [M] G (G2++X)/\PI lim R M S (G2++X) pp pl cp cl P L/\WW S (G2++X) P L a t v:=by
  intro G1 v f z
  have d:NI G1 M=.map (MX ms):=f.get u k (by simp)
  obtain ⟨G2,e2,h2,D⟩:=OP (PR d) (.map (MX ms++[(Value.agg #[Vi a,Vi t],v)]))
  have n:∀b ro c,NI G1 b=.cells ro c->NI G2 b=.cells ro c:=fun b ro c i=>D.cells i (by rintro rfl;rw [d] at i;cases i)
  have hk:∀b ro c,NI G b=.cells ro c->NI G2 b=.cells ro c:=fun b ro c i=>n _ _ _ (f.cells i (by simp))
  have A:PI lim R M S G2 pp pl cp cl P L:=by
   refine ⟨h.net.sim hk,h.op,h.ol,hk _ _ _ h.r,h.oR,h.oM,⟨ms++[(a,t,v)],by rw [h2];simp [MX],fun x hx=>?_⟩,h.lM,fun j hj=>by have:=h.sl j hj;have:=f.len;have:=D.len;omega⟩
   rcases Od.1 hx with hx | hx
   ·exact (y x hx).keep fun b ro c _=>hk b ro c
   ·rw [Nj] at hx;subst hx;exact z.keep fun b ro c _=>n b ro c
  exact ⟨G2,e2,fun X=>⟨((f.mono (fun j _ hj=>by simp at hj)).mut D (.inl (by simp))).app,A.app X,(z.keep fun b ro c _=>n b ro c).keep fun b ro c _ i=>(OH.refl.app).cells i⟩⟩
 simp only [n137,N3q,I,H,w,e,l,NF,SB,seval,NC,NJ,NG,NQ,reduceCtorEq,NB,place,NA,ND]
 refine Nxq (P:=P) (L:=L) (cp:=cp) (cl:=cl) (h.net.app _) (by simp;omega) (fun G1 he g=>?_) (fun G1 q T he g hT F J=>?_)
 ·have f:=g.pre
  obtain ⟨G2,e2,h2⟩:=put G1 Vz f (.inl ⟨he,rfl⟩)
  have o:=fun X=>(OH.refl.app (X:=X)).cells (g.cells NV (by simp))
  have s:=fun X=>(OH.refl.app (X:=X)).cells (f.cells h.r (by simp))
  have d:NI G1 M=.map (MX ms):=f.get u k (by simp)
  have p:∀X,NI (G1++X) M=.map (MX ms):=fun X=>by rw [NR (PR d)];exact d
  refine NL ?_
  simp only [n137,N3q,No he,s,o,p,w,e,e2,h.lM,SB,seval,NC,NJ,NG,NQ,reduceCtorEq,NB,place,NA,ND]
  obtain ⟨k1,k3,C⟩:=h2 []
  exact B _ _ k1 k3 C
 ·have f:=g.pre
  obtain ⟨G2,e2,h2⟩:=put G1 (.slice q P.length (loose 1)) f (.inr ⟨he,q,T,rfl,F.sl Sn,hT,fun a K _ u=>by have h1:=(F.block K).1;have h2:=h.sl _ u;simp at h1;omega⟩)
  have o:=fun X=>(OH.refl.app (X:=X)).cells (g.cells NV (by simp))
  have s:=fun X=>(OH.refl.app (X:=X)).cells (f.cells h.r (by simp))
  have d:NI G1 M=.map (MX ms):=f.get u k (by simp)
  have p:∀X,NI (G1++X) M=.map (MX ms):=fun X=>by rw [NR (PR d)];exact d
  refine NL ?_
  simp only [n137,N3q,s,o,p,w,e,e2,h.lM,SB,seval,NC,NJ,NG,NQ,reduceCtorEq,NB,place,NA,ND]
  obtain ⟨k1,k3,C⟩:=h2 []
  exact B _ _ k1 k3 C
theorem Ntv [OB] {mp:Bool} {lim c:Nat} {p:Option Addr} {P:List Int} {a:Int} {H:NE} {Q:Value->NE->Prop} (hs:Sl H encI 1 p P) (hn:P.length<2 ^ 63) :
  NK E mp lim 136 [.slice p P.length c,Vi a] H Q=Q (Vi (Neq P a)) H:=by
 refine pc (by decide) Oec rfl rfl ?_
 rw [Ofh,N9a]
 simp only [n136,N3r,SB,seval,NC,NJ,NG,NQ,reduceCtorEq,NB,place,NA,ND]
 refine NS (fun j=>P.length-j) (fun j fr G=>j<=P.length/\fr 0=.slice p P.length c/\fr 1=Vi a/\fr 7=Vi P.length/\fr 8=Vi j/\OH H G/\∀i,i<j->gt P i≠a) 0 ⟨Nw _,rfl,rfl,rfl,by rfl,OH.refl.app,fun i hi=>by omega⟩ ?_
 intro j fr G ⟨hj,f0,f1,l,n,o,d⟩ q
 rw [NU N0s.eq_1]
 refine NL ?_
 by_cases b:j<P.length
 case neg=>
  obtain rfl:j=P.length:=by omega
  simp only [n136,N3r,f0,f1,l,n,b,SB,seval,NC,NJ,NG,NQ,reduceCtorEq,NB,place,NA,ND]
  rw [Neq,Ng fun m=>?_]
  obtain ⟨i,hi,he⟩:=List.mem_iff_getElem.1 m
  exact d i hi (by rw [PS hi];exact he)
 have f:=fun X=>((o.sl hs).app X).loadCell0 Sn b (by decide)
 simp only [encI,O7] at f
 have e:=fun c (k:IntKind) (H1:NE)=>(o.sl hs).idx (c:=c) (k:=k) (H1:=H1) b
 have g:IntKind.i64.wrap ((j:Int)+1)=((j+1:Nat):Int):=OE (by omega)
 by_cases he:a=gt P j
 ·simp only [n136,N3r,f0,f1,l,n,b,e,f,g,N5 he,SB,seval,NC,NJ,NG,NQ,reduceCtorEq,NB,place,NA,ND]
  have m:a∈P:=he▸QH b
  rw [Neq,Ni m]
  congr 1
  have h1:OO P a<=j:=by
   unfold OO
   apply Oj;intro hc
   have:=List.not_of_lt_findIdx (xs:=P) (p:=(· == a)) (i:=j) (by unfold List.idxOf at hc;omega)
   rw [PS b] at he
   simp [he] at this
  rcases Ol (OO P a) j with h3 | h3
  ·exfalso
   have hl:OO P a<P.length:=Pi m
   have:=Q5 hl
   refine d _ h3 ?_
   rw [PS hl];exact this
  ·omega
 ·simp only [n136,N3r,f0,f1,l,n,b,e,f,g,No he,SB,seval,NC,NJ,NG,NQ,reduceCtorEq,NB,place,NA,ND]
  exact q (j+1) _ _ ⟨by omega,f0,f1,l,rfl,o.app,fun i hi=>by
   rcases Ol i j with h | h
   ·exact d i h
   ·obtain rfl:i=j:=by omega
    exact fun r=>he r.symm⟩ (by omega)
theorem Nlg [OB] {lim R M:Nat} {S:List Nat} {pp pl:Option Addr} {P:List Int} {L:List Leg} {cp cl:Nat} {a b:Ev} {G:NE} {Q:Value->NE->Prop} (h:PI lim R M S G pp pl cp cl P L) (d:lim<=G.length) (C:0<=b.time/\b.time<=NY)
  (K:∀G',Chg [M] G G'->PI lim R M S G' pp pl cp cl P L->Q (Vi (Rv P L a b)) G') :
  NK E false lim 107 [Vp R,.agg (encE a).toArray,.agg (encE b).toArray] G Q:=by
 refine RG (by decide) Oes rfl ?_
 rw [Ofx,c107]
 have z:=fun X=>(OH.refl.app (X:=X)).cells h.r
 unfold NY at C
 have fin:∀(n:Int) (X:NE),Rv P L a b=n->Q (Vi n) (G++X):=fun n X e=>by
  rw [<-e];exact K _ (Chg.refl.app) (h.app _)
 by_cases h1:a.kind=4
 ·simp only [n107,Noz,z,NW,PY,QD,QC,QB,QA,PZ,PW,d,N5 h1,SB,seval,NC,NJ,NG,NQ,reduceCtorEq,NB,place,NA,ND]
  exact fin _ _ (by unfold Rv;rw [Ni h1])
 by_cases h2:a.place=b.place
 ·simp only [n107,Noz,z,NW,PY,QD,QC,QB,QA,PZ,PW,d,No h1,N5 h2,SB,seval,NC,NJ,NG,NQ,reduceCtorEq,NB,place,NA,ND]
  exact fin _ _ (by unfold Rv;rw [Ng h1,Ni h2])
 have m:=fun X (mp:Bool) (lim:Nat) (Q:Value->NE->Prop)=>Ntv (mp:=mp) (lim:=lim) (c:=cp) (a:=b.place) (Q:=Q) ((h.net.sp).app X) h.net.np
 by_cases k:b.place∈P
 case neg=>
  have e:Neq P b.place=-1:=Ng k
  rw [e] at m
  simp only [n107,Noz,z,NW,PY,QD,QC,QB,QA,PZ,PW,d,No h1,No h2,m,SB,seval,NC,NJ,NG,NQ,reduceCtorEq,NB,place,NA,ND]
  exact fin _ _ (by unfold Rv;rw [Ng h1,Ng h2,Ni k])
 have e:Neq P b.place=(OO P b.place:Int):=Ni k
 have f:OO P b.place<P.length:=Pi k
 rw [e] at m
 have W:¬(OO P b.place:Int)<0:=by omega
 simp only [n107,Noz,z,NW,PY,QD,QC,QB,QA,PZ,PW,d,No h1,No h2,m,SB,seval,NC,NJ,NG,NQ,reduceCtorEq,NB,place,NA,ND]
 refine No4 (h.app _) (by simp;omega) fun G1 v J B I=>?_
 have hk:=(h.app [Vc (encE a),Vc (encE b)]).chgk J
 have O:∀b ro c,NI G b=.cells ro c->NI G1 b=.cells ro c:=fun b ro c C=>hk _ _ _ ((OH.refl.app).cells C)
 have A:=J.pre
 have p:=fun X=>(OH.refl.app (X:=X)).cells (hk _ _ _ (show NI (G++[Vc (encE a),Vc (encE b)]) (G.length+1)=Vc (encE b) by rw [OC];rfl))
 have g:∀(n:Int) (X:NE),Rv P L a b=n->Q (Vi n) (G1++X):=fun n X e=>by
  rw [<-e];exact K _ (A.app) (B.app _)
 rcases I with ⟨he,rfl⟩ | ⟨he,q,T,rfl,hs,hT,_⟩
 ·have F:=N5 (show (0:Int)<=(OO P b.place:Int) by omega)
  refine NL ?_
  simp only [n107,Noz,NW,PY,QD,QC,QB,QA,PZ,PW,p,F,SB,seval,NC,NJ,NG,NQ,reduceCtorEq,NB,place,NA,ND]
  exact g _ _ (by unfold Rv;rw [Ng h1,Ng h2,Ng (by simpa using k),Ni he])
 ·obtain ⟨I,hp,_,o,H⟩:=Mv he
  have l:=VR I
  have s:=hT.2 _ k
  rw [<-N40 (by rw [hT.1];exact f)] at s
  have ev:=s.uniq (Ndr l hp k o)
  have lT:=Zp (i:=OO P b.place) hs (by rw [hT.1];exact f)
  have xT:=N4p (i:=OO P b.place) hs f hT.1
  rw [ev] at lT
  have D:=N9x (Ndr l hp k o) H o
  have w:Rv P L a b=if Nf8 P L a.place a.time b.place<0 then 80 else min (max (Nf8 P L a.place a.time b.place-b.time) 0) 60:=by
   unfold Rv
   rw [Ng h1,Ng h2,Ng (by simpa using k),Ng (by simpa using he)]
  have N:-1<=Nf8 P L a.place a.time b.place:=by
   rcases Ndr l hp k o with ⟨e,_⟩ | ⟨⟨⟨j,U⟩,_⟩,_⟩
   ·omega
   ·have:=U.later l.fine;omega
  generalize Nf8 P L a.place a.time b.place=x at *
  unfold NY at D
  have V:IntKind.i64.wrap (x-b.time)=x-b.time:=NP (by omega) (by omega)
  have t:OO P b.place<P.length:=f
  have u:=No (show ¬P.length<=OO P b.place by omega)
  refine NL ?_
  by_cases y:x<0
  ·simp only [n107,Noz,NW,PY,QD,QC,QB,QA,PZ,PW,p,lT,xT,N5 y,t,u,SB,seval,NC,NJ,NG,NQ,reduceCtorEq,NB,place,NA,ND]
   exact g _ _ (by rw [w,Ni y])
  ·simp only [n107,Noz,NW,PY,QD,QC,QB,QA,PZ,PW,p,lT,xT,No y,t,u,V,Nzy,Nzv,SB,seval,NC,NJ,NG,NQ,reduceCtorEq,NB,place,NA,ND]
   exact g _ _ (by rw [w,Ng y])
theorem Njh [OB] {lim:Nat} {pp pl:Option Addr} {P:List Int} {L:List Leg} {cp cl:Nat} {H:NE} {Q:Value->NE->Prop} (hn:NetIn H pp pl P L) (b:lim<=H.length)
  (c:∀G R M,OH H G->H.length<=R->H.length<=M->PI lim R M [] G pp pl cp cl P L->Q (Vp R) G) :
  NK E false lim 70 [.agg (Tv pp P.length cp pl L.length cl).toArray] H Q:=by
 refine RG (by decide) e70 rfl ?_
 rw [b70,c70]
 simp only [n70,r70,Tv,NH,QW,Uh,SB,seval,NC,NJ,NG,NQ,reduceCtorEq,NB,place,NA,ND]
 refine c _ _ (H.length+1) OH.refl.app ?_ (by omega) ⟨hn.app _,(fun _ _ _ a=>by cases a),(fun _ _ _ a=>by cases a), ?_,(by simp),(by simp),⟨[], ?_,fun x d=>by cases d⟩,(by omega),(fun j hj=>by cases hj)⟩
 ·omega
 ·rw [OC];rfl
 ·rw [OC];rfl
def Wo {α:Type} (n:Nat) (G:NE) (enc:α->List Value) (e:Nat) (q:Option Addr) (l:List α):Prop:=Sl G enc e q l/\∀a,q=some a->n<=a.block
theorem Wo.app {α:Type} {n e:Nat} {G:NE} {enc:α->List Value} {q:Option Addr} {l:List α} (h:Wo n G enc e q l) (X:NE):Wo n (G++X) enc e q l:=⟨h.1.app X,h.2⟩
theorem Wo.le {α:Type} {n n' e:Nat} {G:NE} {enc:α->List Value} {q:Option Addr} {l:List α} (h:Wo n G enc e q l) (hl:n'<=n):Wo n' G enc e q l:=⟨h.1,fun a b=>by have:=h.2 a b;omega⟩
theorem Wo.mut {α:Type} {n e R:Nat} {G G':NE} {enc:α->List Value} {q:Option Addr} {l:List α} (h:Wo n G enc e q l) (d:Mut G G' R) (f:R<n):Wo n G' enc e q l:=
 ⟨Mc h.1 fun a b hn ro c hc=>d.cells hc (by have:=h.2 a b;omega),h.2⟩
theorem Wo.chg {α:Type} {A:List Nat} {n e:Nat} {G G':NE} {enc:α->List Value} {q:Option Addr} {l:List α} (h:Wo n G enc e q l) (hc:Chg A G G') (hA:∀j∈A,j<n):Wo n G' enc e q l:=
 ⟨hc.sl h.1 fun a b _ hj=>by have:=hA _ hj;have:=h.2 a b;omega,h.2⟩
def opB (p:Option Addr):List Nat:=match p with
 | none=>[]
 | some a=>[a.block]
theorem Own.moreF {α:Type} {lim lim' e bytes cap:Nat} {G:NE} {enc:α->List Value} {p:Option Addr} {l:List α} (h:Own lim G enc e p cap l) (k:lim'<=lim) (he:∀x,(enc x).length=e) (i:e≠0) (m:List α) (n:m≠[]) (g:(l.length+m.length)*bytes<=QG) (hn:l.length+m.length<2 ^ 61)
  (X:NE) {x:Value} {str:Bool} (h1:firstCells (G++X) e str x=some (m.flatMap enc)) (h2:lenOf x=some m.length) :
  ∃G2,PQ lim' none e bytes str (.slice p l.length cap) x (G++X)=some (.slice (Sa ((G++X).length)) (l.length+m.length) (loose e),G2++[])/\Own G.length G2 enc e (Sa ((G++X).length)) (loose e) (l++m)/\Chg (opB p) G G2/\(G++X).length<G2.length:=by
 have c:¬m.length=0:=fun q=>n (List.length_eq_zero_iff.1 q)
 rcases h with ⟨k1,k2,k3⟩ | ⟨R,k1,k2,k3,o⟩
 ·subst k1 k2 k3
  refine ⟨G++(X++[Vc (m.flatMap enc)]), ?_, ?_,Chg.refl.app,by simp⟩
  ·simp only [Ns,Oc] at g hn⊢
   simp only [PQ,h1,h2,c,if_false,Oc]
   rw [Ng (by omega)]
   simp [place]
  ·rw [Ov]
   refine Own.new ?_ (by simp)
   rw [<-Nq];exact NV
 ·subst k1 k2
  have b:=NM k3
  have a:NI (G++X) R=Vc (l.flatMap enc):=by rw [NR b];exact k3
  have d:AM.loadCells (G++X) ⟨R,0,none⟩ (l.length*e)=some (l.flatMap enc):=by
   simp only [Rz,a,Oc,QT he,Nd,if_true,O0]
   rw [Oi (by rw [QT he];exact Nd _)]
  have f:Mut G (G.set R .dead) R:=⟨by simp,fun j hj=>QV hj⟩
  refine ⟨G.set R .dead++(X++[Vc ((l++m).flatMap enc)]), ?_, ?_,(Chg.refl.mut f (.inl (by simp [opB]))).app,by simp⟩
  ·simp only [PQ,h1,h2,d,a,c,if_false,if_true]
   rw [Ng (by unfold loose;omega)]
   simp [show lim'<=R by omega,place,Qi _ _ b,Nq]
  ·refine Own.new ?_ (by simp)
   rw [<-Nq,show (G++X).length=(G.set R .dead++X).length by simp];exact NV
theorem Nv3 [OB] {lim c:Nat} {p:Option Addr} {l:List Int} {H:NE} {Q:Value->NE->Prop} (hs:Sl H encI 1 p l) (hc:p=none->c=0) (hl:l.length<2 ^ 40)
  (e:∀H' q h,OH H H'->Wo H.length H' encI 1 q l->Q (.slice q l.length h) H') :
  NK E false lim 106 [.slice p l.length c] H Q:=by
 by_cases hn:l=[]
 case neg=>exact Nnk hs hn hl fun H' q i g=>e H' q _ i ⟨g.sl Sn,fun a d=>(g.block d).1⟩
 subst hn
 refine RG (by decide) Obk rfl ?_
 rw [Obx,N5n]
 cases p with
 | none=>
   obtain rfl:=hc rfl
   have b:aEq .slice Vz Vz=some true:=rfl
   simp only [n106,N7r,b,SB,seval,NC,NJ,NG,NQ,reduceCtorEq,NB,place,NA,ND]
   exact e _ none 0 OH.refl.app ⟨rfl,fun a d=>by cases d⟩
 | some a=>
   have b:aEq .slice (.slice (some a) 0 c) Vz=some false:=rfl
   have f:∀X,PQ lim none 1 8 false (.slice (Sa H.length) 0 0) (.slice (some a) 0 c) (H++X)=some (.slice (Sa H.length) 0 0,H++X):=fun X=>by simp [PQ,firstCells,lenOf]
   simp only [n106,N7r,b,f,SB,seval,NC,NJ,NG,NQ,reduceCtorEq,NB,place,NA,ND]
   exact e _ (Sa H.length) 0 OH.refl.app ⟨⟨rfl,fun j=>absurd rfl j⟩,fun a d=>by cases d;exact Nd _⟩
def U7 (P:List Int) (L:List Leg) (es:List Ev) (ks:List Int) (i:Nat):Int×Int×Int:=(gt ks i,gt ks (i+1),Rv P L (gt es (gt ks i).toNat) (gt es (gt ks (i+1)).toNat))
def QX (P:List Int) (L:List Leg) (es:List Ev) (ks:List Int):List (Int×Int×Int):=(List.range (ks.length-1)).map (U7 P L es ks)
def UM:List (Int×Int×Int)->Int
 | []=>0
 | x::l=>x.2.2+UM l
def Te (P:List Int) (L:List Leg) (es:List Ev) (ks:List Int):Int:=30*((es.length:Int)-ks.length)+UM (QX P L es ks)
theorem Na5:∀(l:List (Int×Int×Int)) (x:Int×Int×Int),UM (l++[x])=UM l+x.2.2
 | [],x=>by simp [UM]
 | y::l,x=>by rw [O2,UM,Na5 l x,UM];omega
theorem ZY {P:List Int} {L:List Leg} {es:List Ev} {ks:List Int}:∀(n:Nat),0<=UM ((List.range n).map (U7 P L es ks))/\UM ((List.range n).map (U7 P L es ks))<=80*n
 | 0=>by simp [UM]
 | n+1=>by
   rw [Pa,Ou,List.map_singleton,Na5]
   have h1:=ZY (P:=P) (L:=L) (es:=es) (ks:=ks) n
   have h2:=VG (P:=P) (L:=L) (a:=gt es (gt ks n).toNat) (b:=gt es (gt ks (n+1)).toNat)
   have e:(U7 P L es ks n).2.2=Rv P L (gt es (gt ks n).toNat) (gt es (gt ks (n+1)).toNat):=rfl
   rw [e]
   omega
theorem N3x [OB] {lim R M:Nat} {S:List Nat} {pp pl pe pk:Option Addr} {P:List Int} {L:List Leg} {cp cl ce ck:Nat} {es:List Ev} {ks:List Int} {H:NE} {Q:Value->NE->Prop} (h:PI lim R M S H pp pl cp cl P L) (ai:lim<=H.length)
  (hs:Sl H encE 7 pe es) (be:es.length<=40) (ht:∀i,i<es.length->0<=(gt es i).time/\(gt es i).time<=NY) (hk:Sl H encI 1 pk ks) (bc:ks.length<2 ^ 20) (aw:pk=none->ck=0) (z:∀k∈ks,0<=k/\k<es.length)
  (hQ:∀G q cq r cr,Chg [M] H G->PI lim R M S G pp pl cp cl P L->Wo H.length G encI 1 q ks->Wo H.length G enc3 3 r (QX P L es ks)->Q (.agg #[.slice q ks.length cq,.slice r (QX P L es ks).length cr,Vi (Te P L es ks)]) G) :
  NK E false lim 71 [Vp R,.slice pe es.length ce,.slice pk ks.length ck] H Q:=by
 refine RG (by decide) e71 rfl ?_
 rw [b71,c71]
 have ar:=h.alive
 simp only [n71,r71,SB,seval,NC,NJ,NG,NQ,reduceCtorEq,NB,place,NA,ND]
 refine Nv3 (hk.app _) aw (by omega) fun H1 q cq n ab=>?_
 have w1:IntKind.i64.wrap ((es.length:Int)-ks.length)=(es.length:Int)-ks.length:=NP (by omega) (by omega)
 have w2:IntKind.i64.wrap (30*((es.length:Int)-ks.length))=30*((es.length:Int)-ks.length):=NP (by omega) (by omega)
 have az:=n.len
 simp at az
 have o:lim<=H1.length:=by omega
 have aq:Chg [M] H H1:=(OH.chg (A:=[M]) n).pre
 have bb:NI H1 M=NI H M:=(OH.chg (A:=[]) n).pre.other M ar (by simp)
 have an:NI H1 H.length=Vc [Vz,Vz,Vi 0]:=n.cells NV
 have av:=(h.grow (b:=H.length) [Vc [Vz,Vz,Vi 0]] (Nd _) (by simp)).chg (OH.chg n)
 refine NL ?_
 simp only [n71,r71,w1,w2,o,SB,seval,NC,NJ,NG,NQ,reduceCtorEq,NB,place,NA,ND]
 refine NS (fun x:Nat×Option Addr×Nat=>ks.length-x.1) (fun x fr G=>(x.1=0\/x.1+1<=ks.length)/\fr 0=Vp R/\fr 1=.slice pe es.length ce/\fr 2=.slice pk ks.length ck/\fr 6=Vp H.length/\fr 7=Vp H1.length/\fr 8=Vi ((x.1+1:Nat):Int)/\Chg [M] H G/\Chg [M,H1.length] H1 G/\PI lim R M (opB x.2.1++H1.length::H.length::S) G pp pl cp cl P L/\
   NI G H1.length=Vc [.slice q ks.length cq,.slice x.2.1 x.1 x.2.2,Vi (30*((es.length:Int)-ks.length)+UM ((List.range x.1).map (U7 P L es ks)))]/\Own (H1.length+1) G enc3 3 x.2.1 x.2.2 ((List.range x.1).map (U7 P L es ks))) (0,none,0)
  ⟨.inl rfl,rfl,rfl,rfl,rfl,by rfl,by rfl,aq.app,Chg.refl.app,av.grow _ (Nd _) (by simp),by rw [NV];simp [UM],.nil⟩ ?_
 rintro ⟨i,U,cw⟩ fr G ⟨hi,g0,g1,g2,g6,g7,g8,hC,u,w,hB,F⟩ hN
 simp only at hi g8 w hB F
 rw [NU N6n.eq_1]
 refine NL ?_
 have hl:=hC.len
 have bd:=u.len
 have ba:=NM hB
 have D:NI G H.length=Vc [Vz,Vz,Vi 0]:=u.cells an (by simp;omega)
 have B:((List.range i).map (U7 P L es ks)).length=i:=by simp
 have C:=hs.sim (h.chgk hC)
 have y:=hk.sim (h.chgk hC)
 have a9:=ZY (P:=P) (L:=L) (es:=es) (ks:=ks) i
 by_cases f:i+1<ks.length
 case neg=>
  have ei:ks.length-1=i:=by omega
  have a8:¬((i+1:Nat):Int)<(ks.length:Int):=by omega
  have ao:=fun X=>(OH.refl.app (X:=X)).cells hB
  have ak:=fun X=>(OH.refl.app (X:=X)).cells D
  obtain ⟨G2,e2,h2,t⟩:=OP (NM D) (Vc [.slice q ks.length cq,.slice U i cw,Vi (30*((es.length:Int)-ks.length)+UM ((List.range i).map (U7 P L es ks)))])
  have aj:=fun X=>(OH.refl.app (X:=X)).cells h2
  simp only [n71,r71,g0,g1,g2,g6,g7,g8,f,ao,ak,ai,e2,aj,SB,seval,NC,NJ,NG,NQ,reduceCtorEq,NB,place,NA,ND]
  have J:QX P L es ks=(List.range i).map (U7 P L es ks):=by unfold QX;rw [ei]
  have ap:Chg [M] H G2:=hC.mut t (.inr (Nd _))
  have ae:=(w.chg (Chg.refl.mut t (.inl (by simp)))).sub (S':=S) fun j hj=>by simp [hj]
  have v:=F.mut t fun a d e=>by have:=(F.block d).1;omega
  have O:∀a,q=some a->H.length<a.block:=fun a d=>by have:=ab.2 a d;simp at this;omega
  have ay:Wo H.length G2 encI 1 q ks:=⟨Mc ab.1 (fun a d hn ro c hc=>t.cells (u.cells hc (by have h1:=NM hc;have h2:=O a d;simp;omega)) (by have h2:=O a d;omega)),fun a d=>by have:=O a d;omega⟩
  have:=hQ G2 q cq U cw ap ae ay (by rw [J];exact ⟨v.sl OQ,fun a d=>by have:=(v.block d).1;omega⟩)
  rw [J,B] at this
  unfold Te at this
  rw [J] at this
  rw [Nb]
  exact this
 have l0:=fun X=>(y.app X).loadCell0 Sn (i:=i) (by omega) (by decide)
 have l1:=fun X=>(y.app X).loadCell0 Sn (i:=i+1) f (by decide)
 simp only [encI,O7] at l0 l1
 have x0:=fun c (k:IntKind) (H1:NE)=>y.idx (c:=c) (k:=k) (H1:=H1) (i:=i) (by omega)
 have x1:=fun c (k:IntKind) (H1:NE)=>y.idx (c:=c) (k:=k) (H1:=H1) (i:=i+1) f
 obtain ⟨a,ea⟩:=Int.eq_ofNat_of_zero_le (z _ (QH (i:=i) (by omega))).1
 obtain ⟨b,eb⟩:=Int.eq_ofNat_of_zero_le (z _ (QH f)).1
 have d:a<es.length:=by have:=(z _ (QH (l:=ks) (i:=i) (by omega))).2;omega
 have hb:b<es.length:=by have:=(z _ (QH f)).2;omega
 have I:U7 P L es ks i=((a:Int),(b:Int),Rv P L (gt es a) (gt es b)):=by unfold U7;rw [ea,eb];rfl
 rw [ea] at l0
 rw [eb] at l1
 have la:=fun X=>(C.app X).loadCells NW d
 have lb:=fun X=>(C.app X).loadCells NW hb
 have xa:=fun c (k:IntKind) (H1:NE)=>C.idx (c:=c) (k:=k) (H1:=H1) d
 have xb:=fun c (k:IntKind) (H1:NE)=>C.idx (c:=c) (k:=k) (H1:=H1) hb
 have w9:IntKind.i64.wrap (((i+1:Nat):Int)-1)=(i:Int):=by rw [NP (by omega) (by omega)];omega
 have s:lim<=G.length:=by omega
 simp only [n71,r71,g0,g1,g2,g6,g7,g8,s,f,w9,l0,l1,x0,x1,la,lb,xa,xb,SB,seval,NC,NJ,NG,NQ,reduceCtorEq,NB,place,NA,ND]
 refine Nlg (a:=gt es a) (w.grow [Vc [Vi a,Vi b,Vi 0]] (Nd _) (by simp)) (by simp;omega) (ht b hb) fun G1 g ad=>?_
 have ag:=(w.grow [Vc [Vi a,Vi b,Vi 0]] (Nd _) (by simp)).chgk g
 have Y:NI G1 G.length=Vc [Vi a,Vi b,Vi 0]:=ag _ _ _ NV
 have am:=ag _ _ _ ((OH.refl.app).cells hB)
 have a0:=g.len
 simp at a0
 have ac:Own (H1.length+1) G1 enc3 3 U cw ((List.range i).map (U7 P L es ks)):=(F.app _).chg g fun a d hm=>by have:=(F.block d).1;simp at hm;omega
 generalize hp:Rv P L (gt es a) (gt es b)=p at I
 have a2:=VG (P:=P) (L:=L) (a:=gt es a) (b:=gt es b)
 rw [hp] at a2
 obtain ⟨G2,e2,h2,t⟩:=OP (NM Y) (Vc [Vi a,Vi b,Vi p])
 have Z:=t.cells am (by omega)
 have v:=ac.mut t fun a d e=>by have:=(F.block d).2;omega
 have wp:IntKind.i64.wrap (30*((es.length:Int)-ks.length)+UM ((List.range i).map (U7 P L es ks))+p)=30*((es.length:Int)-ks.length)+UM ((List.range (i+1)).map (U7 P L es ks)):=by
  rw [Pa,Ou,List.map_singleton,Na5,I,<-Int.add_assoc]
  exact NP (by omega) (by omega)
 obtain ⟨V,e3,h3,T⟩:=OP (NM Z) (Vc [.slice q ks.length cq,.slice U i cw,Vi (30*((es.length:Int)-ks.length)+UM ((List.range (i+1)).map (U7 P L es ks)))])
 have au:=v.mut T fun a d e=>by have:=(F.block d).1;omega
 have al:=T.cells h2 (by omega)
 have a5:=t.len
 have a7:=T.len
 obtain ⟨G4,W,O4,C4,ah⟩:=Own.moreF au (lim':=lim) (bytes:=24) (by omega) OQ (by decide) [((a:Int),(b:Int),p)] (by simp) (by rw [B];unfold QG;simp;omega) (by rw [B];simp;omega) [Vc [Vi a,Vi b,Vi p]] (x:=.slice (Sa V.length) 1 1) (str:=false)
  (WG (m:=[((a:Int),(b:Int),p)]) (Sl.row (ro:=false) OQ (by rw [NV];rfl))) rfl
 rw [B] at W
 have eN:(List.range i).map (U7 P L es ks)++[((a:Int),(b:Int),p)]=(List.range (i+1)).map (U7 P L es ks):=by rw [Pa,Ou,List.map_singleton,I]
 rw [eN] at O4
 have N:∀j,j∈opB U->H1.length+1<=j/\j<G.length:=fun j hj=>by
  cases hpe:U with
  | none=>rw [hpe] at hj;cases hj
  | some a=>rw [hpe] at hj;have:=F.block hpe;simp [opB] at hj;omega
 generalize a1:(V++[Vc [Vi a,Vi b,Vi p]]).length=r at W O4 ah
 have a3:V.length<=r:=by rw [<-a1];simp
 generalize loose 3=c' at W O4
 simp only [Nl,Ns,Oc] at W
 have aa:=C4.cells h3 fun hm=>by have:=N _ hm;omega
 obtain ⟨G5,e5,h5,m5⟩:=OP (NM aa) (Vc [.slice q ks.length cq,.slice (Sa r) (i+1) c',Vi (30*((es.length:Int)-ks.length)+UM ((List.range (i+1)).map (U7 P L es ks)))])
 have X1:=fun X=>(OH.refl.app (X:=X)).cells Y
 have X2:=fun X=>(OH.refl.app (X:=X)).cells Z
 have X3:=fun X=>(OH.refl.app (X:=X)).cells h2
 have X4:=fun X=>(OH.refl.app (X:=X)).cells h3
 have X5:=fun X=>(OH.refl.app (X:=X)).cells al
 have X6:=fun X=>(OH.refl.app (X:=X)).cells aa
 have a4:IntKind.i64.wrap (((i+1:Nat):Int)+1)=((i+2:Nat):Int):=OE (by omega)
 have K:lim<=H1.length:=o
 refine NL ?_
 simp only [n71,r71,g0,g1,g2,g6,g7,g8,s,K,X1,e2,X2,X3,e3,X4,X5,X6,W,e5,wp,a4,SB,seval,NC,NJ,NG,NQ,reduceCtorEq,NB,place,NA,ND]
 have k1:Chg [M] H V:=((hC.trans g.pre).mut t (.inr (by omega))).mut T (.inr (by omega))
 have k2:Chg [M] H G5:=(k1.trans' C4 fun j hj ax=>by have:=N j hj;omega).mut m5 (.inr (by omega))
 have k3:Chg [M,H1.length] H1 V:=((u.trans (g.pre.mono fun j _ hj=>by simp at hj;simp [hj])).mut t (.inr (by omega))).mut T (.inl (by simp))
 have k4:Chg [M,H1.length] H1 G5:=(k3.trans' C4 fun j hj ax=>by have:=N j hj;omega).mut m5 (.inl (by simp))
 have k5:=ad.chg ((Chg.refl.mut t (.inl (by simp))).mut T (.inl (by simp)))
 have k6:=k5.growC (b:=r) (G':=G4) (C4.mono fun j _ hj=>by simp [hj]) a3 ah
 have k7:=(k6.chg (Chg.refl.mut m5 (.inl (by simp)))).sub (S':=opB (Sa r)++H1.length::H.length::S) fun j hj=>by
  simp [opB] at hj
  rcases hj with e | e | e | e
  ·simp [e]
  ·simp [e]
  ·simp [e]
  ·simp [e]
 have k8:=(O4.mut m5 fun a d e=>by cases d;simp at e;omega).le (lim':=H1.length+1) (by omega)
 exact hN (i+1,Sa r,c') _ _ ⟨.inr f,g0,g1,g2,g6,g7,by rfl,k2.app,k4.app,k7.app _,(OH.refl.app).cells h5,k8.app _⟩ (by show ks.length-(i+1)<ks.length-i;omega)
def Ncz (n:Nat) (ks:List Int) (i:Nat):Prop:=0<=gt ks i/\gt ks i<n/\(0<i->gt ks (i-1)<gt ks i)
instance (n:Nat) (ks:List Int) (i:Nat):Decidable (Ncz n ks i):=by unfold Ncz;infer_instance
def YY (n:Nat) (ks:List Int):Prop:=(ks.length=0->n=0)/\∀i,i<ks.length->Ncz n ks i
instance (n:Nat) (ks:List Int):Decidable (YY n ks):=by unfold YY;infer_instance
theorem Nrc {n:Nat} {ks:List Int} (h:∀i,i<ks.length->Ncz n ks i):∀i,i<ks.length->(i:Int)<=gt ks i
 | 0,hi=>(h 0 hi).1
 | i+1,hi=>by
   have h1:=Nrc h i (by omega)
   have h2:=(h (i+1) hi).2.2 (by omega)
   rw [P0] at h2
   omega
theorem Zy {n:Nat} {ks:List Int} (h:∀i,i<ks.length->Ncz n ks i):ks.length<=n:=by
 apply Oj;intro hc
 have h1:=Nrc h (ks.length-1) (by omega)
 have h2:=(h (ks.length-1) (by omega)).2.1
 omega
theorem YY.mem {n:Nat} {ks:List Int} (h:YY n ks):∀k∈ks,0<=k/\k<n:=fun k hk=>by
 obtain ⟨i,hi,rfl⟩:=List.mem_iff_getElem.1 hk
 have:=h.2 i hi
 rw [<-PS hi]
 exact ⟨this.1,this.2.1⟩
abbrev ZO:=Int×Int×Int
def YB (x y:ZO):Bool:=decide (x.1<y.1\/(x.1=y.1/\y.2.1<x.2.1))
theorem Nsb [OB] {mp:Bool} {lim:Nat} {x y:ZO} {H:NE} {Q:Value->NE->Prop}:NK E mp lim 108 [.agg (enc3 x).toArray,.agg (enc3 y).toArray] H Q=Q (.bool (YB x y)) H:=by
 refine pc (by decide) Oer rfl rfl ?_
 rw [Ofw,N9l]
 obtain ⟨a,b,c⟩:=x
 obtain ⟨a',b',d⟩:=y
 have e0:YB (a,b,c) (a',b',d)=decide (a<a'\/(a=a'/\b'<b)):=rfl
 rw [e0]
 by_cases h1:a<a'
 ·have e:=Np (show a<a'\/(a=a'/\b'<b) from .inl h1)
  rw [e]
  simp only [n108,N7q,enc3,N5 h1,SB,seval,NC,NJ,NG,NQ,reduceCtorEq,NB,place,NA,ND]
 by_cases h2:a=a'
 ·have e:decide (a<a'\/(a=a'/\b'<b))=decide (b'<b):=decide_eq_decide.2 ⟨fun h=>by omega,fun h=>.inr ⟨h2,h⟩⟩
  rw [e]
  simp only [n108,N7q,enc3,No h1,N5 h2,SB,seval,NC,NJ,NG,NQ,reduceCtorEq,NB,place,NA,ND]
 ·have e:=N1 (show ¬(a<a'\/(a=a'/\b'<b)) by omega)
  rw [e]
  simp only [n108,N7q,enc3,No h1,No h2,SB,seval,NC,NJ,NG,NQ,reduceCtorEq,NB,place,NA,ND]
def YS (P:List Int) (L:List Leg) (es:List Ev) (T:List ZO) (i j:Nat):ZO:=(Rv P L (gt es i) (gt es j)+30*((j:Int)-i-1)+(gt T j).1,(gt T j).2.1+1,(j:Int))
def VA (x r:ZO):ZO:=if YB x r then x else r
def RY (P:List Int) (L:List Leg) (es:List Ev) (T:List ZO) (i:Nat):Nat->ZO
 | 0=>(30*((es.length:Int)-1-i),1,-1)
 | m+1=>VA (RY P L es T i m) (YS P L es T i (es.length-1-m))
def OL (P:List Int) (L:List Leg) (es:List Ev):Nat->List ZO
 | 0=>List.replicate es.length (0,0,0)
 | k+1=>(OL P L es k).set (es.length-1-k) (RY P L es (OL P L es k) (es.length-1-k) k)
theorem Uo {P:List Int} {L:List Leg} {es:List Ev}:∀k,(OL P L es k).length=es.length
 | 0=>by simp [OL]
 | k+1=>by rw [OL,Py,Uo k]
def N2v (T:List ZO):Prop:=∀j,0<=(gt T j).1/\(gt T j).1<=10000/\0<=(gt T j).2.1/\(gt T j).2.1<=40
theorem Nvy {x:ZO} {a b c:Value}:(((enc3 x).set 0 a).set 1 b).set 2 c=[a,b,c]:=id rfl
theorem Oa8 {G:NE} {c:Blk}:OD G.length [0] (G++[c])=G++[.dead]:=by
 show (G++[c]).set (G.length+0) .dead=_
 rw [O9,Qd _ _ (Nd _),Qt];rfl
theorem N29 {G G1:NE} {c:Blk}:NZ G.length [0] (G++[c]) G1=G1.set G.length c:=by
 show G1.set (G.length+0) (NI (G++[c]) (G.length+0))=_
 rw [O9,NV];rfl
theorem N09 [OB] {lim R M B8 BT:Nat} {S:List Nat} {pp pl pe:Option Addr} {P:List Int} {L:List Leg} {cp cl ce ct:Nat} {es:List Ev} {T:List ZO} {i:Nat} {G:NE} {fr:Nat->Value} {K:List AItem} {Z:Value->NE->Prop} (hi:i<es.length) (D:lim<=B8) (hS:B8∈S) (ab:BT∈S)
  (ak:es.length<=40) (ht:∀i,i<es.length->0<=(gt es i).time/\(gt es i).time<=NY) (hT:T.length=es.length) (ah:N2v T)
  (hP:PI lim R M S G pp pl cp cl P L) (hs:Sl G encE 7 pe es) (B:NI G BT=Vc (T.flatMap enc3)) (h:NI G B8=Vc (enc3 (RY P L es T i 0)))
  (f0:fr 0=Vp R) (f1:fr 1=.slice pe es.length ce) (f5:fr 5=.slice (Sa BT) T.length ct) (f6:fr 6=.func (.func 108) #[] #[]) (f7:fr 7=Vi i) (f8:fr 8=Vp B8) (f9:fr 9=Vi ((es.length:Int)-1))
  (hR:∀fr' G',Chg [M,B8] G G'->PI lim R M S G' pp pl cp cl P L->NI G' B8=Vc (enc3 (RY P L es T i (es.length-1-i)))->(∀j,j<=8->fr' j=fr j)->PV E a72 lim K fr' G' Z) :
  PV E a72 lim (.code (.loop N0l)::.inBlock 2::K) fr G Z:=by
 refine NS (fun m=>es.length-m) (fun m fr' G'=>m<=es.length-1-i/\Chg [M,B8] G G'/\PI lim R M S G' pp pl cp cl P L/\NI G' B8=Vc (enc3 (RY P L es T i m))/\(∀j,j<=8->fr' j=fr j)/\fr' 9=Vi ((es.length:Int)-1-m)) 0
  ⟨Nw _,Chg.refl,hP,h,fun j _=>rfl,by rw [f9];simp⟩ ?_
 intro m fr' G' ⟨hm,s,l,hB,d,z⟩ hN
 rw [NU N0l.eq_1]
 have O:=(d 0 (by decide)).trans f0
 have U:=(d 1 (by decide)).trans f1
 have V:=(d 5 (by decide)).trans f5
 have W:=(d 6 (by decide)).trans f6
 have I:=(d 7 (by decide)).trans f7
 have Y:=(d 8 (by decide)).trans f8
 refine NL ?_
 by_cases am:m<es.length-1-i
 case neg=>
  obtain rfl:m=es.length-1-i:=by omega
  have N:(es.length:Int)-1-((es.length-1-i:Nat):Int)=(i:Int):=by omega
  rw [N] at z
  simp only [n72,r72,I,z,SB,seval,NC,NJ,NG,NQ,reduceCtorEq,NB,place,NA,ND]
  exact hR _ _ s.app (l.app _) ((OH.refl.app).cells hB) fun j hj=>by
   rw [<-d j hj]
   simp only [upd]
   repeat rw [Ng (by omega)]
 generalize hj:es.length-1-m=j
 have N:(es.length:Int)-1-(m:Int)=(j:Int):=by omega
 rw [N] at z
 have u:j<es.length:=by omega
 have ac:i<j:=by omega
 have ae:BT≠B8:=by
  rintro rfl
  rw [B] at h
  simp only [Blk.cells.injEq,Rj] at h
  have:=Qo List.length h
  rw [QT OQ,OQ] at this
  omega
 have F:BT≠M:=fun e=>l.oM (e▸ab)
 have w:Sl G' enc3 3 (Sa BT) T:=Sl.row (ro:=false) OQ (s.cells B (by simp;exact ⟨F,ae⟩))
 have A:∀a,pe=some a->es≠[]->a.block≠B8:=fun a ha hn e=>by
  subst ha
  obtain ⟨ro,c,k1,k2,_⟩:=hs.2 hn
  rw [e,h] at k1
  simp only [Blk.cells.injEq] at k1
  rw [<-k1.2,OQ] at k2
  omega
 have o:Sl G' encE 7 pe es:=Mc hs fun a ha hn ro c hc=>s.cells hc (by
  have h1:=A a ha hn
  have h2:a.block≠M:=fun e=>by obtain ⟨ms,k1,_⟩:=hP.m;rw [e,k1] at hc;cases hc
  simp;exact ⟨h2,h1⟩)
 have la:=fun X=>(o.app X).loadCells NW hi
 have lb:=fun X=>(o.app X).loadCells NW u
 have xa:=fun c (k:IntKind) (H1:NE)=>o.idx (c:=c) (k:=k) (H1:=H1) hi
 have xb:=fun c (k:IntKind) (H1:NE)=>o.idx (c:=c) (k:=k) (H1:=H1) u
 have t:j<T.length:=by omega
 have l0:=fun X=>(w.app X).loadCell OQ t (j:=0) (by decide)
 have l1:=fun X=>(w.app X).loadCell OQ t (j:=1) (by decide)
 simp only [enc3,O7,Qv] at l0 l1
 have xj:=fun c (k:IntKind) (H1:NE)=>w.idx (c:=c) (k:=k) (H1:=H1) t
 have an:=ah j
 have w1:IntKind.i64.wrap ((j:Int)-i)=(j:Int)-i:=NP (by omega) (by omega)
 have w2:IntKind.i64.wrap ((j:Int)-i-1)=(j:Int)-i-1:=NP (by omega) (by omega)
 have w3:IntKind.i64.wrap (30*((j:Int)-i-1))=30*((j:Int)-i-1):=NP (by omega) (by omega)
 have w4:IntKind.i64.wrap ((gt T j).2.1+1)=(gt T j).2.1+1:=NP (by omega) (by omega)
 have J:=Np (show i<j from ac)
 simp only [n72,r72,O,U,V,W,I,Y,z,J,la,lb,xa,xb,l0,l1,xj,w1,w2,w3,w4,SB,seval,NC,NJ,NG,NQ,reduceCtorEq,NB,place,NA,ND]
 have ai:=NM h
 have al:=s.len
 refine Nlg (a:=gt es i) (b:=gt es j) (l.grow [.dead] (Nd _) (by simp)) (by simp;omega) (ht j u) fun G1 n C=>⟨Nj6 ?_, ?_⟩
 ·rw [Oa8]
  exact (l.grow [.dead] (Nd _) (by simp)).chgk n
 have ad:=n.len
 simp at ad
 obtain ⟨G2,e2,h2,m2⟩:=OP (show G'.length<G1.length by omega) (Vc [Vi 0,Vi 0,Vi 0])
 have eu:NZ (List.length G') [0] (G'++[Vc [Vi 0,Vi 0,Vi 0]]) G1=G2++[]:=by rw [N29,<-e2,Nb]
 rw [Nb,eu]
 generalize hp:Rv P L (gt es i) (gt es j)=p
 have ag:=VG (P:=P) (L:=L) (a:=gt es i) (b:=gt es j)
 rw [hp] at ag
 have w5:IntKind.i64.wrap (p+30*((j:Int)-i-1))=p+30*((j:Int)-i-1):=NP (by omega) (by omega)
 have w6:IntKind.i64.wrap (p+30*((j:Int)-i-1)+(gt T j).1)=p+30*((j:Int)-i-1)+(gt T j).1:=NP (by omega) (by omega)
 have w7:IntKind.i64.wrap ((j:Int)-1)=(es.length:Int)-1-((m+1:Nat):Int):=by rw [NP (by omega) (by omega)];omega
 obtain ⟨G3,e3,h3,m3⟩:=OP (NM h2) (Vc [Vi (p+30*((j:Int)-i-1)+(gt T j).1),Vi ((gt T j).2.1+1),Vi j])
 have aa:=(l.app [.dead]).chgk n _ _ _ ((OH.refl.app).cells hB)
 have aj:=NM hB
 have r:=m3.cells (m2.cells aa (by omega)) (by omega)
 have ec:YS P L es T i j=(p+30*((j:Int)-i-1)+(gt T j).1,(gt T j).2.1+1,(j:Int)):=by unfold YS;rw [hp]
 have f:∀(X:NE) (mp:Bool) (lim:Nat) (Q:Value->NE->Prop),NK E mp lim 108 [.agg (enc3 (RY P L es T i m)).toArray,.agg #[Vi (p+30*((j:Int)-i-1)+(gt T j).1),Vi ((gt T j).2.1+1),Vi j]] X Q=Q (.bool (YB (RY P L es T i m) (YS P L es T i j))) X:=fun X mp lim Q=>by rw [ec];exact Nsb (x:=RY P L es T i m) (y:=(p+30*((j:Int)-i-1)+(gt T j).1,(gt T j).2.1+1,(j:Int)))
 have H:RY P L es T i (m+1)=VA (RY P L es T i m) (YS P L es T i j):=by rw [RY,hj]
 have X2:=fun X=>(OH.refl.app (X:=X)).cells h2
 have X3:=fun X=>(OH.refl.app (X:=X)).cells h3
 have XB:=fun X=>(OH.refl.app (X:=X)).cells r
 have k1:Chg [M,B8] G G3:=((s.trans (n.pre.mono fun j _ hj=>by simp at hj;simp [hj])).mut m2 (.inr (by have:=s.len;omega))).mut m3 (.inr (by have:=s.len;omega))
 have k2:=C.chg ((Chg.refl.mut m2 (.inl (by simp))).mut m3 (.inl (by simp)))
 have g:lim<=G'.length:=by omega
 cases hb:YB (RY P L es T i m) (YS P L es T i j) with
 | true=>
   rw [hb] at f
   rw [VA,Ni hb] at H
   simp only [n72,r72,O,U,V,W,I,Y,z,w5,w6,w7,X2,e3,X3,XB,OQ,NH,f,g,SB,seval,NC,NJ,NG,NQ,reduceCtorEq,NB,place,NA,ND]
   exact hN (m+1) _ _ ⟨by omega,k1.app,k2.sub (fun q v=>by simp [v]) |>.app _,by rw [H];exact (OH.refl.app).cells r,fun q v=>by
    rw [<-d q v]
    simp only [upd]
    repeat rw [Ng (by omega)],by rfl⟩ (by omega)
 | false=>
   rw [hb] at f
   rw [VA,Ng (by rw [hb];decide),ec] at H
   obtain ⟨G4,e4,h4,m4⟩:=OP (NM r) (Vc [Vi (p+30*((j:Int)-i-1)+(gt T j).1),Vi ((gt T j).2.1+1),Vi j])
   simp only [n72,r72,O,U,V,W,I,Y,z,w5,w6,w7,X2,e3,X3,XB,OQ,NH,f,g,D,e4,Nvy,SB,seval,NC,NJ,NG,NQ,reduceCtorEq,NB,place,NA,ND]
   exact hN (m+1) _ _ ⟨by omega,(k1.mut m4 (.inl (by simp))).app,((k2.chg (Chg.refl.mut m4 (.inl (by simp [hS])))).sub (fun q v=>by simp [v])).app _,by rw [H];exact (OH.refl.app).cells h4,fun q v=>by
    rw [<-d q v]
    simp only [upd]
    repeat rw [Ng (by omega)],by rfl⟩ (by omega)
def Bnd (n j:Nat) (x:ZO):Prop:=0<=x.1/\x.1<=110*((n:Int)-1-j)/\0<=x.2.1/\x.2.1<=(n:Int)-j/\-1<=x.2.2/\x.2.2<n
theorem Ntx {n j:Nat} {x y:ZO} (a:Bnd n j x) (b:Bnd n j y):Bnd n j (VA x y):=by
 unfold VA
 split
 ·exact a
 ·exact b
theorem Nhk {P:List Int} {L:List Leg} {es:List Ev} {T:List ZO} {i:Nat} (hT:∀j,j<es.length->Bnd es.length j (gt T j)) (hi:i<es.length):∀m,m<=es.length-1-i->Bnd es.length i (RY P L es T i m)
 | 0,_=>by
   unfold RY Bnd
   refine ⟨?_, ?_, ?_, ?_, ?_, ?_⟩<;>simp only<;>omega
 | m+1,hm=>by
   rw [RY]
   refine Ntx (Nhk hT hi m (by omega)) ?_
   have h1:=hT (es.length-1-m) (by omega)
   have h2:=VG (P:=P) (L:=L) (a:=gt es i) (b:=gt es (es.length-1-m))
   unfold YS Bnd at *
   refine ⟨?_, ?_, ?_, ?_, ?_, ?_⟩<;>simp only<;>omega
theorem Njx {α:Type} [Inhabited α] {l:List α} {i j:Nat} {x:α} (hi:i<l.length):gt (l.set i x) j=if i=j then x else gt l j:=by
 unfold gt
 rw [Na,N7,Na]
 split
 ·simp [hi]
 ·rfl
theorem XD {P:List Int} {L:List Leg} {es:List Ev}:∀k,k<=es.length->∀j,j<es.length->Bnd es.length j (gt (OL P L es k) j)
 | 0,_,j,hj=>by
   rw [OL,PS (by simpa using hj),List.getElem_replicate]
   unfold Bnd
   refine ⟨?_, ?_, ?_, ?_, ?_, ?_⟩<;>simp only<;>omega
 | k+1,hk,j,hj=>by
   rw [OL,Njx (by rw [Uo];omega)]
   split
   ·rename_i e
    subst e
    exact Nhk (XD k (by omega)) hj k (by omega)
   ·exact XD k (by omega) j hj
theorem Nwd {n:Nat} {T:List ZO} (hn:n<=40) (hT:T.length=n) (h:∀j,j<n->Bnd n j (gt T j)):N2v T:=fun j=>by
 by_cases hj:j<n
 ·have:=h j hj
  unfold Bnd at this
  omega
 ·have e:gt T j=(0,0,0):=by unfold gt;rw [Na,Nx (by omega)];rfl
  rw [e]
  refine ⟨?_, ?_, ?_, ?_⟩<;>simp only<;>omega
def Yf (n j:Nat) (x:ZO):Prop:=x.2.2=-1\/((j:Int)<x.2.2/\x.2.2<n)
theorem Nej {P:List Int} {L:List Leg} {es:List Ev} {T:List ZO} {i:Nat}:∀m,m<=es.length-1-i->Yf es.length i (RY P L es T i m)
 | 0,_=>.inl rfl
 | m+1,hm=>by
   rw [RY,VA]
   split
   ·exact Nej m (by omega)
   ·refine .inr ⟨?_, ?_⟩<;>simp only [YS]<;>omega
theorem Uw {P:List Int} {L:List Leg} {es:List Ev}:∀k,k<=es.length->∀j,es.length-k<=j->j<es.length->Yf es.length j (gt (OL P L es k) j)
 | 0,_,j,h1,h2=>by omega
 | k+1,hk,j,h1,hj=>by
   rw [OL,Njx (by rw [Uo];omega)]
   split
   ·rename_i e
    subst e
    exact Nej k (by omega)
   ·exact Uw k (by omega) j (by omega) hj
def Na4 (T:List ZO) (i:Nat):ZO:=(30*(i:Int)+(gt T i).1,(gt T i).2.1,(i:Int))
def U6 (n:Nat) (T:List ZO):Nat->ZO
 | 0=>(0,0,-1)
 | m+1=>if (U6 n T m).2.2<0 then Na4 T (n-1-m) else VA (U6 n T m) (Na4 T (n-1-m))
def QE (T:List ZO):Nat->Int->List Int
 | 0,_=>[]
 | f+1,x=>if x<0 then [] else x::QE T f (gt T x.toNat).2.2
def R6 (P:List Int) (L:List Leg) (es:List Ev):List Int:=QE (OL P L es es.length) es.length (U6 es.length (OL P L es es.length) es.length).2.2
theorem Na3 {n:Nat} {T:List ZO}:∀m,m<=n->(U6 n T m).2.2<n/\-1<=(U6 n T m).2.2
 | 0,_=>⟨by show (-1:Int)<n;omega,Oo _⟩
 | m+1,hm=>by
   have h1:(Na4 T (n-1-m)).2.2<n/\-1<=(Na4 T (n-1-m)).2.2:=by
    unfold Na4
    constructor<;>simp only<;>omega
   have h2:=Na3 (n:=n) (T:=T) m (by omega)
   rw [U6]
   unfold VA
   split
   ·exact h1
   ·split
    ·exact h2
    ·exact h1
theorem Nfw {n:Nat} {T:List ZO} (hT:∀j,j<n->Yf n j (gt T j)):∀(f:Nat) (x:Int),x<n->∀k∈QE T f x,0<=k/\k<n
 | 0,_,_,k,hk=>by cases hk
 | f+1,x,hx,k,hk=>by
   rw [QE] at hk
   split at hk
   ·cases hk
   ·rename_i h0
    rcases Nr.1 hk with rfl | hk
    ·exact ⟨by omega,hx⟩
    ·refine Nfw hT f _ ?_ k hk
     rcases hT x.toNat (by omega) with e | e
     ·rw [e];omega
     ·exact e.2
theorem XX {T:List ZO}:∀(f:Nat) (x:Int),(QE T f x).length<=f
 | 0,_=>Nd _
 | f+1,x=>by
   rw [QE]
   split
   ·exact Nw _
   ·rw [Nl];have:=XX (T:=T) f (gt T x.toNat).2.2;omega
theorem Nwf {P:List Int} {L:List Leg} {es:List Ev}:∀k∈R6 P L es,0<=k/\k<es.length:=
 Nfw (fun j hj=>Uw _ (Nd _) j (by omega) hj) _ _ (Na3 _ (Nd _)).1
theorem Nxs (n:Nat):(List.range (n*3)).map (fun j=>[Value.int .i64 0,Value.int .i64 0,Value.int .i64 0].getD (j % 3) undef)=(List.replicate n ((0,0,0):ZO)).flatMap enc3:=by
 have h1:∀j,[Value.int .i64 0,Value.int .i64 0,Value.int .i64 0].getD (j % 3) undef=Value.int .i64 0:=fun j=>by
  have:j % 3=0\/j % 3=1\/j % 3=2:=by omega
  rcases this with e | e | e<;>rw [e]<;>rfl
 simp only [h1]
 rw [List.map_const',Pr]
 induction n with
 | zero=>rfl
 | succ n ih=>
   rw [Ph,Oy,<-ih,Pq]
   rfl
theorem tsl {T:List ZO} {n:Nat} (h:T.length=n) (p:Option Addr) (c:Nat):Value.slice p n c=Value.slice p T.length c:=by rw [h]
theorem N7f [OB] {lim R M B BT n:Nat} {S:List Nat} {pp pl pe:Option Addr} {P:List Int} {L:List Leg} {cp cl ce ct:Nat} {T:List ZO} {G:NE} {fr:Nat->Value} {K:List AItem} {Z:Value->NE->Prop} (p:lim<=B) (aa:n<=40) (hT:T.length=n) (V:∀j,j<n->Bnd n j (gt T j))
  (hP:PI lim R M S G pp pl cp cl P L) (hS:B∈S) (Y:BT≠B) (N:NI G BT=Vc (T.flatMap enc3)) (hB:NI G B=Vc (enc3 (U6 n T 0)))
  (f1:fr 1=.slice pe n ce) (f5:fr 5=.slice (Sa BT) T.length ct) (f6:fr 6=.func (.func 108) #[] #[]) (f12:fr 12=Vp B) (f13:fr 13=Vi ((n:Int)-1))
  (hR:∀fr' G',Chg [B] G G'->PI lim R M S G' pp pl cp cl P L->NI G' B=Vc (enc3 (U6 n T n))->(∀j,j<=12->fr' j=fr j)->PV E a72 lim K fr' G' Z) :
  PV E a72 lim (.code (.loop N0m)::.inBlock 4::K) fr G Z:=by
 refine NS (fun m=>n-m) (fun m fr' G'=>m<=n/\Chg [B] G G'/\PI lim R M S G' pp pl cp cl P L/\NI G' B=Vc (enc3 (U6 n T m))/\(∀j,j<=12->fr' j=fr j)/\fr' 13=Vi ((n:Int)-1-m)) 0
  ⟨Nw _,Chg.refl,hP,hB,fun j _=>rfl,by rw [f13];simp⟩ ?_
 intro m fr' G' ⟨hm,v,q,l,o,g⟩ U
 rw [NU N0m.eq_1]
 have I:=(o 5 (by decide)).trans f5
 have J:=(o 6 (by decide)).trans f6
 have s:=(o 12 (by decide)).trans f12
 refine NL ?_
 by_cases ab:m<n
 case neg=>
  obtain rfl:m=n:=by omega
  have H:(m:Int)-1-(m:Int)=-1:=by omega
  rw [H] at g
  simp only [n72,r72,g,SB,seval,NC,NJ,NG,NQ,reduceCtorEq,NB,place,NA,ND]
  exact hR _ _ v.app (q.app _) ((OH.refl.app).cells l) fun j hj=>by
   rw [<-o j hj]
   simp only [upd]
   repeat rw [Ng (by omega)]
 generalize hi:n-1-m=i
 have H:(n:Int)-1-(m:Int)=(i:Int):=by omega
 rw [H] at g
 have W:i<n:=by omega
 have t:i<T.length:=by omega
 have u:Sl G' enc3 3 (Sa BT) T:=Sl.row (ro:=false) OQ (v.cells N (by simp;exact Y))
 have A:=fun X=>(u.app X).loadCell OQ t (j:=0) (by decide)
 have C:=fun X=>(u.app X).loadCell OQ t (j:=1) (by decide)
 simp only [enc3,O7,Qv] at A C
 have xj:=fun c (k:IntKind) (H1:NE)=>u.idx (c:=c) (k:=k) (H1:=H1) t
 have w:=V i W
 unfold Bnd at w
 have w1:IntKind.i64.wrap (30*(i:Int))=30*(i:Int):=NP (by omega) (by omega)
 have w2:IntKind.i64.wrap (30*(i:Int)+(gt T i).1)=30*(i:Int)+(gt T i).1:=NP (by omega) (by omega)
 have w3:IntKind.i64.wrap ((i:Int)-1)=(n:Int)-1-((m+1:Nat):Int):=by rw [NP (by omega) (by omega)];omega
 have i0:=N5 (show (0:Int)<=(i:Int) by omega)
 have e:lim<=G'.length:=by have:=v.len;have:=NM hB;omega
 have O:=NM l
 have r:U6 n T (m+1)=if (U6 n T m).2.2<0 then Na4 T i else VA (U6 n T m) (Na4 T i):=by rw [U6,hi]
 generalize hx:U6 n T m=x at r
 rw [hx] at l
 have z:=l
 simp only [enc3] at z
 have F:=fun X=>(OH.refl.app (X:=X)).cells z
 have b:∀(X:NE) (mp:Bool) (lim:Nat) (Q:Value->NE->Prop),NK E mp lim 108 [.agg #[Vi x.1,Vi x.2.1,Vi x.2.2],.agg #[Vi (30*(i:Int)+(gt T i).1),Vi (gt T i).2.1,Vi i]] X Q=Q (.bool (YB x (Na4 T i))) X:=fun X mp lim Q=>Nsb (x:=x) (y:=Na4 T i)
 obtain ⟨G3,e3,h3,D⟩:=OP O (Vc [Vi (30*(i:Int)+(gt T i).1),Vi (gt T i).2.1,Vi i])
 have a:∀(f:Nat->Value),(∀j,j<=12->f j=fr' j)->∀j,j<=12->f j=fr j:=fun f h j hj=>(h j hj).trans (o j hj)
 by_cases d:x.2.2<0
 ·rw [Ni d] at r
  simp only [n72,r72,I,J,s,g,A,C,xj,w1,w2,w3,i0,e,F,N5 d,p,e3,SB,seval,NC,NJ,NG,NQ,reduceCtorEq,NB,place,NA,ND]
  exact U (m+1) _ _ ⟨by omega,(v.mut D (.inl (by simp))).app,(q.chg (Chg.refl.mut D (.inl hS))).app _,by rw [r];exact (OH.refl.app).cells h3,a _ (fun j hj=>by
   simp only [upd]
   repeat rw [Ng (by omega)]),by rfl⟩ (by omega)
 rw [Ng d] at r
 cases w:YB x (Na4 T i) with
 | true=>
   rw [w] at b
   rw [VA,Ni w] at r
   simp only [n72,r72,I,J,s,g,A,C,xj,w1,w2,w3,i0,e,F,No d,p,b,SB,seval,NC,NJ,NG,NQ,reduceCtorEq,NB,place,NA,ND]
   exact U (m+1) _ _ ⟨by omega,v.app,q.app _,by rw [r];exact (OH.refl.app).cells l,a _ (fun j hj=>by
    simp only [upd]
    repeat rw [Ng (by omega)]),by rfl⟩ (by omega)
 | false=>
   rw [w] at b
   rw [VA,Ng (by rw [w];decide)] at r
   simp only [n72,r72,I,J,s,g,A,C,xj,w1,w2,w3,i0,e,F,No d,p,b,e3,SB,seval,NC,NJ,NG,NQ,reduceCtorEq,NB,place,NA,ND]
   exact U (m+1) _ _ ⟨by omega,(v.mut D (.inl (by simp))).app,(q.chg (Chg.refl.mut D (.inl hS))).app _,by rw [r];exact (OH.refl.app).cells h3,a _ (fun j hj=>by
    simp only [upd]
    repeat rw [Ng (by omega)]),by rfl⟩ (by omega)
theorem N5o [OB] {lim R M:Nat} {pp pl pe:Option Addr} {P:List Int} {L:List Leg} {cp cl ce:Nat} {es:List Ev} {H:NE} {Q:Value->NE->Prop} (h:PI lim R M [] H pp pl cp cl P L) (ac:lim<=H.length)
  (hs:Sl H encE 7 pe es) (K:es.length<=40) (ht:∀i,i<es.length->0<=(gt es i).time/\(gt es i).time<=NY)
  (hQ:∀G q cq,Chg [M] H G->PI lim R M [] G pp pl cp cl P L->Own H.length G encI 1 q cq (R6 P L es)->Q (.slice q (R6 P L es).length cq) G) :
  NK E false lim 72 [Vp R,.slice pe es.length ce] H Q:=by
 refine RG (by decide) e72 rfl ?_
 rw [b72,c72]
 have w1:IntKind.i64.wrap ((es.length:Int)-1)=(es.length:Int)-1:=NP (by omega) (by omega)
 have z3:=Nxs es.length
 have ax:=h.alive
 have ao:=N5 (show 0<=(es.length:Int)/\(es.length:Int)*24<=2 ^ 45/\(es.length:Int)<2 ^ 62 by omega)
 simp only [n72,r72,w1,ao,z3,SB,Nat.reduceLT,NC,NJ,Nat.reduceEqDiff,NG,NQ,reduceCtorEq,NB,place,NA,Nat.reduceAdd,Nat.reduceLeDiff,ND,Int.reduceEq,Int.reduceLT,Int.reduceLE]
 refine NS (fun k=>es.length-k) (fun k fr G=>k<=es.length/\fr 0=Vp R/\fr 1=.slice pe es.length ce/\fr 5=.slice (Sa H.length) es.length es.length/\fr 6=.func (.func 108) #[] #[]/\fr 7=Vi ((es.length:Int)-1-k)/\Chg [M] H G/\PI lim R M [H.length] G pp pl cp cl P L/\NI G H.length=Vc ((OL P L es k).flatMap enc3)) 0
  ⟨Nw _,rfl,rfl,rfl,rfl,by rw [show ((es.length:Int)-1-((0:Nat):Int))=(es.length:Int)-1 by omega];rfl,Chg.refl.app,h.grow _ (Nd _) (by simp),by rw [NV];rfl⟩ ?_
 ·intro k fr G ⟨hk,g0,W,w,Y,V,F,y,hT⟩ hN
  rw [NU N6l.eq_1]
  refine NL ?_
  by_cases ay:k<es.length
  case neg=>
   obtain rfl:k=es.length:=by omega
   have e7:(es.length:Int)-1-(es.length:Int)=-1:=by omega
   rw [e7] at V
   have d:lim<=G.length:=by have:=F.len;omega
   simp only [n72,r72,g0,W,w,Y,V,w1,d,SB,seval,NC,NJ,NG,NQ,reduceCtorEq,NB,place,NA,ND]
   have o:=Uo (P:=P) (L:=L) (es:=es) es.length
   have ak:=XD (P:=P) (L:=L) (es:=es) es.length (Nd _)
   have ai:=NM hT
   rw [tsl o] at w
   refine N7f (B:=G.length) (BT:=H.length) (n:=es.length) (T:=OL P L es es.length) (R:=R) (M:=M) (S:=[G.length,H.length]) (P:=P) (L:=L) (pp:=pp) (pl:=pl) (cp:=cp) (cl:=cl) (pe:=pe) (ce:=ce) (ct:=es.length) d K o (fun j hj=>ak j hj) (y.grow _ (Nd _) (by simp)) (by simp) (by omega) ((OH.refl.app).cells hT) (by rw [NV];rfl) W w Y rfl rfl fun fr' G1 u A z t=>?_
   have q5:fr' 5=.slice (Sa H.length) (OL P L es es.length).length es.length:=(t 5 (by decide)).trans w
   have av:fr' 12=Vp G.length:=(t 12 (by decide)).trans rfl
   have O:=u.len
   simp at O
   have D:=u.cells ((OH.refl.app).cells hT) (by simp;omega)
   simp only [enc3] at z
   have XB:=fun X=>(OH.refl.app (X:=X)).cells z
   have au:=Na3 (n:=es.length) (T:=OL P L es es.length) es.length (Nd _)
   have ah:Chg [M] H G1:=(F.app (X:=[Vc [Vi 0,Vi 0,Vi (-1)]])).trans' u fun j hj al=>by simp at hj;omega
   refine NL ?_
   simp only [n72,r72,q5,av,XB,SB,seval,NC,NJ,NG,NQ,reduceCtorEq,NB,place,NA,ND]
   refine NS (fun s:Nat×Int×List Int×Option Addr×Nat=>s.1) (fun s fr G=>fr 5=.slice (Sa H.length) (OL P L es es.length).length es.length/\fr 16=Vi s.2.1/\fr 15=.slice s.2.2.2.1 s.2.2.1.length s.2.2.2.2/\Chg [M] H G/\PI lim R M (opB s.2.2.2.1++[H.length]) G pp pl cp cl P L/\NI G H.length=Vc ((OL P L es es.length).flatMap enc3)/\Own (H.length+1) G encI 1 s.2.2.2.1 s.2.2.2.2 s.2.2.1/\
     s.2.2.1++QE (OL P L es es.length) s.1 s.2.1=R6 P L es/\s.2.1<es.length/\(s.2.1<0\/(es.length:Int)-s.2.1<=s.1)/\s.2.2.1.length+s.1=es.length) (es.length,(U6 es.length (OL P L es es.length) es.length).2.2,[],none,0)
    ⟨q5,rfl,by rfl,ah.app,(A.sub (fun q v=>by simp [opB] at v;simp [v])).app _,(OH.refl.app).cells D,.nil,rfl,au.1,by simp only;omega,by simp⟩ ?_
   rintro ⟨f,x,l,pw,cw⟩ fr G ⟨w,J,I,F,y,hT,hO,C,hx,hf,an⟩ hN
   simp only at w J I y hO C hx hf an
   rw [NU N6m.eq_1]
   refine NL ?_
   by_cases U:0<=x
   case neg=>
    have e:QE (OL P L es es.length) f x=[]:=by
     cases f with
     | zero=>rfl
     | succ f=>rw [QE,Ni (by omega)]
    rw [e,Nb] at C
    subst C
    simp only [n72,r72,w,J,I,No U,SB,seval,NC,NJ,NG,NQ,reduceCtorEq,NB,place,NA,ND]
    exact hQ _ _ _ F.app ((y.sub (fun q v=>by cases v)).app _) ((hO.le (by omega)).app _)
   obtain ⟨j,rfl⟩:=Int.eq_ofNat_of_zero_le U
   obtain ⟨f,rfl⟩:∃g,f=g+1:=⟨f-1,by omega⟩
   rw [QE,Ng (by omega),Oa] at C
   have aa:j<(OL P L es es.length).length:=by omega
   have ap:=Uw (P:=P) (L:=L) (es:=es) es.length (Nd _) j (by omega) (by omega)
   have aw:=NM hT
   obtain ⟨G4,e4,O4,C4,ab⟩:=Own.moreF hO (lim':=lim) (bytes:=8) (by omega) Sn (by decide) [(j:Int)] (by simp) (by simp;unfold QG;omega) (by simp;omega) [Vc [Vi j]] (x:=.slice (Sa G.length) 1 1) (str:=false)
    (WG (m:=[(j:Int)]) (Sl.row (ro:=false) Sn (by rw [NV];rfl))) rfl
   have ad:∀j,j∈opB pw->H.length+1<=j/\j<G.length:=fun j hj=>by
    cases hpe:pw with
    | none=>rw [hpe] at hj;cases hj
    | some a=>rw [hpe] at hj;have:=hO.block hpe;simp [opB] at hj;omega
   generalize aq:(G++[Vc [Vi j]]).length=r at e4 O4 ab
   have ar:G.length<=r:=by rw [<-aq];simp
   generalize loose 1=c' at e4 O4
   simp only [Nl,Ns,Oc] at e4
   have Z:=C4.cells hT fun hm=>by have:=ad _ hm;omega
   have ae:=Sl.row (R:=H.length) (ro:=false) OQ Z
   have l2:=fun X=>(ae.app X).loadCell OQ aa (j:=2) (by decide)
   simp only [enc3,O7,Qv] at l2
   have xj:=fun c (k:IntKind) (H1:NE)=>ae.idx (c:=c) (k:=k) (H1:=H1) aa
   simp only [n72,r72,w,J,I,e4,l2,xj,N5 U,SB,seval,NC,NJ,NG,NQ,reduceCtorEq,NB,place,NA,ND]
   have k1:=(y.growC (b:=r) (G':=G4) (C4.mono fun q _ v=>Ow _ v) ar ab).sub (S':=opB (Sa r)++[H.length]) fun q v=>by
    simp [opB] at v
    rcases v with e | e
    ·simp [e]
    ·simp [e]
   have ag:(gt (OL P L es es.length) j).2.2<es.length/\((gt (OL P L es es.length) j).2.2<0\/(es.length:Int)-(gt (OL P L es es.length) j).2.2<=(f:Int)):=by
    rcases ap with e | e
    ·exact ⟨by omega,.inl (by omega)⟩
    ·exact ⟨e.2,.inr (by omega)⟩
   exact hN (f,(gt (OL P L es es.length) j).2.2,l++[(j:Int)],Sa r,c') _ _ ⟨w,by rfl,by show _=Value.slice _ (l++[(j:Int)]).length _;rw [Nn];rfl,
    (F.trans' C4 fun q v az=>by have:=ad q v;omega).app,k1.app _,(OH.refl.app).cells Z,(O4.le (by omega)).app _,by rw [Nq];exact C,ag.1,ag.2,by simp only [Nn,Qy];omega⟩ (by show f<f+1;omega)
  generalize hi:es.length-1-k=i
  have e7:(es.length:Int)-1-(k:Int)=(i:Int):=by omega
  rw [e7] at V
  have N:i<es.length:=by omega
  have w2:IntKind.i64.wrap ((es.length:Int)-1-i)=(es.length:Int)-1-i:=NP (by omega) (by omega)
  have w3:IntKind.i64.wrap (30*((es.length:Int)-1-i))=30*((es.length:Int)-1-i):=NP (by omega) (by omega)
  have w4:IntKind.i64.wrap ((i:Int)-1)=(es.length:Int)-1-((k+1:Nat):Int):=by rw [NP (by omega) (by omega)];omega
  have d:lim<=G.length:=by have:=F.len;omega
  have i0:=N5 (show (0:Int)<=(i:Int) by omega)
  have o:=Uo (P:=P) (L:=L) (es:=es) k
  have ai:=NM hT
  simp only [n72,r72,g0,W,w,Y,V,w1,w2,w3,d,i0,SB,seval,NC,NJ,NG,NQ,reduceCtorEq,NB,place,NA,ND]
  rw [tsl o] at w
  refine N09 (B8:=G.length) (BT:=H.length) (S:=[G.length,H.length]) (i:=i) (T:=OL P L es k) (P:=P) (L:=L) (R:=R) (M:=M) (pp:=pp) (pl:=pl) (cp:=cp) (cl:=cl) (es:=es) (pe:=pe) (ce:=ce) (ct:=es.length) N d (by simp) (by simp) K ht o (Nwd K o (XD k (by omega)))
   (y.grow _ (Nd _) (by simp)) (((hs.sim (h.chgk F))).app _) ((OH.refl.app).cells hT) (by rw [NV];rfl) g0 W w Y V rfl rfl fun fr' G1 u A z t=>?_
  have q0:fr' 0=Vp R:=(t 0 (by decide)).trans g0
  have q1:fr' 1=.slice pe es.length ce:=(t 1 (by decide)).trans W
  have q5:fr' 5=.slice (Sa H.length) (OL P L es k).length es.length:=(t 5 (by decide)).trans w
  have q6:fr' 6=.func (.func 108) #[] #[]:=(t 6 (by decide)).trans Y
  have q7:fr' 7=Vi i:=(t 7 (by decide)).trans V
  have q8:fr' 8=Vp G.length:=(t 8 (by decide)).trans rfl
  have am:es.length-1-i=k:=by omega
  rw [am] at z
  have aj:H.length∉[M,G.length]:=by simp;omega
  have D:=u.cells ((OH.refl.app).cells hT) aj
  obtain ⟨G2,e2,h2,m2⟩:=Na6 (lim:=lim) (p:=Sa H.length) OQ rfl D ac (i:=i) (by rw [o];exact N) (RY P L es (OL P L es k) i k)
  have xT:=fun c (kk:IntKind) (H1:NE)=>(Sl.row (R:=H.length) (ro:=false) OQ D).idx (c:=c) (k:=kk) (H1:=H1) (i:=i) (by rw [o];exact N)
  have XB:=fun X=>(OH.refl.app (X:=X)).cells z
  have et:OL P L es (k+1)=(OL P L es k).set i (RY P L es (OL P L es k) i k):=by rw [OL,hi]
  refine NL ?_
  simp only [n72,r72,q0,q1,q5,q6,q7,q8,XB,OQ,NH,e2,xT,w4,SB,seval,NC,NJ,NG,NQ,reduceCtorEq,NB,place,NA,ND]
  have O:=u.len
  simp at O
  exact hN (k+1) _ _ ⟨by omega,q0,q1,(by simp only [q5,o,FB,Nat.reduceEqDiff]),q6,rfl,(((F.app (X:=[Vc (enc3 (RY P L es (OL P L es k) i 0))])).trans' u fun j hj al=>by simp at hj;simp;omega).mut m2 (.inr (by omega))).app,((A.chg (Chg.refl.mut m2 (.inl (by simp)))).sub (fun q v=>by simp at v;simp [v])).app _,by rw [et];exact (OH.refl.app).cells h2⟩ (by omega)
theorem N54 [OB] {lim:Nat} {pp pl pe:Option Addr} {P:List Int} {L:List Leg} {cp cl ce:Nat} {es:List Ev} {H:NE} {Q:Value->NE->Prop} (hn:NetIn H pp pl P L) (d:lim<=H.length)
  (hs:Sl H encE 7 pe es) (N:es.length<2 ^ 62)
  (s:∀G,WS P L es≠0->Chg [] H G->Q (.tuple #[.agg #[Vz,Vz,Vi 0],Vi (WS P L es)]) G)
  (x:∀G q cq r cr,WS P L es=0->Chg [] H G->Wo H.length G encI 1 q (R6 P L es)->Wo H.length G enc3 3 r (QX P L es (R6 P L es))->Q (.tuple #[.agg #[.slice q (R6 P L es).length cq,.slice r (QX P L es (R6 P L es)).length cr,Vi (Te P L es (R6 P L es))],Vi 0]) G) :
  NK E false lim 37 [.agg (Tv pp P.length cp pl L.length cl).toArray,.slice pe es.length ce] H Q:=by
 refine RG (by decide) e37 rfl ?_
 rw [b37,c37]
 have c:=fun X (mp:Bool) (lim:Nat) (Q:Value->NE->Prop)=>N2b (mp:=mp) (lim:=lim) (cp:=cp) (cl:=cl) (ce:=ce) (Q:=Q) (hn.app X) (hs.app X) (by omega)
 by_cases h0:WS P L es=0
 case neg=>
  simp only [n37,r37,PT,Sv,Su,NH,c,No h0,d,SB,seval,NC,NJ,NG,NQ,reduceCtorEq,NB,place,NA,ND]
  exact s _ h0 Chg.refl.app
 obtain ⟨O,l,hev⟩:=Nqn h0
 have ht:=fun i (hi:i<es.length)=>And.intro (hev i hi).2.1 (hev i hi).2.2.1
 simp only [n37,r37,PT,Sv,Su,NH,c,N5 h0,d,SB,seval,NC,NJ,NG,NQ,reduceCtorEq,NB,place,NA,ND]
 refine Njh (lim:=lim) (hn.app _) (by simp;omega) fun G1 R M f K J o=>?_
 have v:=f.len
 simp at v K J
 have b:OH H G1:=(OH.refl.app).trans f
 have S:NI G1 (H.length+1)=Vc [Vz,Vz,Vi 0]:=f.cells (by rw [OC];rfl)
 refine NL ?_
 simp only [n37,r37,SB,seval,NC,NJ,NG,NQ,reduceCtorEq,NB,place,NA,ND]
 refine N5o (o.app _) (by simp;omega) ((b.sl hs).app _) l ht fun G2 q cq e p n=>?_
 have w:=e.len
 simp at w
 have B:Chg [M] H G2:=((OH.chg (A:=[M]) b).trans e.pre)
 have a:=e.pre
 refine NL ?_
 simp only [n37,r37,SB,seval,NC,NJ,NG,NQ,reduceCtorEq,NB,place,NA,ND]
 refine N3x (p.app _) (by simp;omega) (((b.sl hs).sim (o.chgk a)).app _) l ht ((n.sl Sn).app _) (by have:=XX (T:=OL P L es es.length) es.length (U6 es.length (OL P L es es.length) es.length).2.2;unfold R6;omega) (fun y=>by
  rcases n with ⟨_,_,k⟩ | ⟨R,k,_⟩
  ·exact k
  ·rw [y] at k;cases k) Nwf fun W D h r cr m C y hr=>?_
 have t:=m.cells ((OH.refl.app (X:=[])).cells (a.cells S (by simp;omega))) (by simp;omega)
 obtain ⟨Y,F,I,z⟩:=OP (NM t) (Vc [.slice D (R6 P L es).length h,.slice r (QX P L es (R6 P L es)).length cr,Vi (Te P L es (R6 P L es))])
 have U:=fun X=>(OH.refl.app (X:=X)).cells t
 have V:=fun X=>(OH.refl.app (X:=X)).cells I
 have g:lim<=H.length+1:=by omega
 refine NL ?_
 simp only [n37,r37,U,F,V,g,SB,seval,NC,NJ,NG,NQ,reduceCtorEq,NB,place,NA,ND]
 exact x _ D h r cr h0 ((((OH.chg (A:=[]) b).trans' a fun j hj u=>by simp at hj;omega).trans' m.pre fun j hj u=>by simp at hj;omega).mut z (.inr (by omega))).app (((y.mut z (by simp;omega)).le (by simp;omega)).app _) (((hr.mut z (by simp;omega)).le (by simp;omega)).app _)
def ZT:List Int->List Int->Prop
 | [],_=>True
 | _::_,[]=>False
 | x::l,y::m=>x<y\/(x=y/\ZT l m)
theorem ZT.refl:∀l,ZT l l
 | []=>trivial
 | x::l=>.inr ⟨rfl,ZT.refl l⟩
theorem ZT.trans:∀{a b c:List Int},ZT a b->ZT b c->ZT a c
 | [],_,_,_,_=>trivial
 | x::a,[],c,h,_=>by cases h
 | x::a,y::b,[],_,h=>by cases h
 | x::a,y::b,z::c,h1,h2=>by
   rcases h1 with h1 | ⟨rfl,h1⟩
   ·rcases h2 with h2 | ⟨rfl,h2⟩
    ·exact .inl (by omega)
    ·exact .inl h1
   ·rcases h2 with h2 | ⟨rfl,h2⟩
    ·exact .inl h2
    ·exact .inr ⟨rfl,h1.trans h2⟩
def BE (c k:Int) (l:List Int) (a k':Int) (b:List Int):Prop:=c<a\/(c=a/\(k'<k\/(k=k'/\ZT l b)))
theorem BE.refl {c k:Int} {l:List Int}:BE c k l c k l:=.inr ⟨rfl,.inr ⟨rfl,ZT.refl l⟩⟩
theorem BE.trans {a b c x y z:Int} {l m r:List Int} (h1:BE a x l b y m) (h2:BE b y m c z r):BE a x l c z r:=by
 rcases h1 with h1 | ⟨rfl,h1⟩
 ·rcases h2 with h2 | ⟨rfl,h2⟩
  ·exact .inl (by omega)
  ·exact .inl h1
 ·rcases h2 with h2 | ⟨rfl,h2⟩
  ·exact .inl h2
  ·refine .inr ⟨rfl, ?_⟩
   rcases h1 with h1 | ⟨rfl,h1⟩
   ·rcases h2 with h2 | ⟨rfl,h2⟩
    ·exact .inl (by omega)
    ·exact .inl h1
   ·rcases h2 with h2 | ⟨rfl,h2⟩
    ·exact .inl h2
    ·exact .inr ⟨rfl,h1.trans h2⟩
theorem BE.lift {c k a k' d i:Int} {l b:List Int} (h:BE c k l a k' b):BE (d+c) (k+1) (i::l) (d+a) (k'+1) (i::b):=by
 rcases h with h | ⟨rfl,h | ⟨rfl,h⟩⟩
 ·exact .inl (by omega)
 ·exact .inr ⟨rfl,.inl (by omega)⟩
 ·exact .inr ⟨rfl,.inr ⟨rfl,.inr ⟨rfl,h⟩⟩⟩
section
variable {P:List Int} {L:List Leg} {es:List Ev}
def rcI (P:List Int) (L:List Leg) (es:List Ev):List Int->Int
 | []=>0
 | [i]=>30*((es.length:Int)-1-i)
 | i::j::l=>Rv P L (gt es i.toNat) (gt es j.toNat)+30*(j-i-1)+rcI P L es (j::l)
def Asc (n:Nat):List Int->Prop
 | []=>True
 | [i]=>0<=i/\i<n
 | i::j::l=>0<=i/\i<j/\Asc n (j::l)
theorem Asc.head {n:Nat}:∀{i:Int} {l:List Int},Asc n (i::l)->0<=i/\i<n
 | i,[],h=>h
 | i,j::l,h=>⟨h.1,by have:=h.2.2.head;have:=h.2.1;omega⟩
theorem Nca {T a:List ZO} {i:Nat}:∀m,m<=es.length->(∀j,es.length-m<=j->j<es.length->gt T j=gt a j)->RY P L es T i m=RY P L es a i m
 | 0,_,_=>rfl
 | m+1,hm,h=>by
   rw [RY,RY,Nca m (by omega) fun j h1 h2=>h j (by omega) h2]
   unfold YS
   rw [h _ (by omega) (by omega)]
theorem Yu:∀d k,k+d<=es.length->∀j,es.length-k<=j->j<es.length->gt (OL P L es (k+d)) j=gt (OL P L es k) j
 | 0,k,_,j,_,_=>rfl
 | d+1,k,h,j,h1,h2=>by
   rw [<-Pj,OL,Njx (by rw [Uo];omega),Ng (by omega)]
   exact Yu d k (by omega) j h1 h2
theorem Ntd {i:Nat} (hi:i<es.length):gt (OL P L es es.length) i=RY P L es (OL P L es es.length) i (es.length-1-i):=by
 obtain ⟨k,hk⟩:∃k,es.length-1-i=k:=⟨_,rfl⟩
 have h1:=Yu (P:=P) (L:=L) (es:=es) (es.length-(k+1)) (k+1) (by omega) i (by omega) hi
 rw [show k+1+(es.length-(k+1))=es.length by omega] at h1
 rw [h1,OL,Njx (by rw [Uo];omega),Ni (by omega),hk,show es.length-1-k=i by omega]
 refine Nca k (by omega) fun j h2 b=>?_
 have a:=Yu (P:=P) (L:=L) (es:=es) (es.length-k) k (by omega) j h2 b
 rw [show k+(es.length-k)=es.length by omega] at a
 exact a.symm
variable {F:List ZO} {n:Nat}
theorem Nfv (a:∀j,j<n->Yf n j (gt F j)):∀(f:Nat) (x:Int),(x<0\/(x<n/\(n:Int)-x<=f))->QE F (f+1) x=QE F f x
 | 0,x,h=>by
   have e:QE F (0+1) x=if x<0 then [] else x::QE F 0 (gt F x.toNat).2.2:=rfl
   rw [e,Ni (by omega)]
   rfl
 | f+1,x,h=>by
   have e:QE F (f+1+1) x=if x<0 then [] else x::QE F (f+1) (gt F x.toNat).2.2:=rfl
   have b:QE F (f+1) x=if x<0 then [] else x::QE F f (gt F x.toNat).2.2:=rfl
   rw [e,b]
   split
   ·rfl
   ·rename_i h0
    congr 1
    refine Nfv a f _ ?_
    rcases a x.toNat (by omega) with e | e
    ·exact .inl (by omega)
    ·exact .inr ⟨e.2,by omega⟩
theorem Nif {x:Int} {f:Nat} (a:x<0):QE F f x=[]:=by
 cases f with
 | zero=>rfl
 | succ f=>rw [QE,Ni a]
theorem Vg (a:∀j,j<n->Yf n j (gt F j)) {i:Nat} (hi:i<n):QE F n (i:Int)=(i:Int)::QE F n (gt F i).2.2:=by
 obtain ⟨m,rfl⟩:∃m,n=m+1:=⟨n-1,by omega⟩
 rw [QE,Ng (by omega),Oa,Nfv a m]
 rcases a i hi with e | e
 ·exact .inl (by omega)
 ·exact .inr ⟨e.2,by omega⟩
structure RestOk (P:List Int) (L:List Leg) (es:List Ev) (x:ZO) (l:List Int):Prop where
 cost:x.1=rcI P L es l
 count:x.2.1=l.length
 asc:Asc es.length l
theorem Nk7 (w:∀j,j<es.length->Yf es.length j (gt F j)) {i:Nat} (hi:i<es.length)
  (ih:∀j,i<j->j<es.length->RestOk P L es (gt F j) (QE F es.length j)/\∀l,Asc es.length ((j:Int)::l)->BE (gt F j).1 (gt F j).2.1 (QE F es.length j) (rcI P L es (j::l)) ((j::l:List Int).length:Int) (j::l)) :
  ∀m,m<=es.length-1-i->RestOk P L es (RY P L es F i m) (i::QE F es.length (RY P L es F i m).2.2)/\((RY P L es F i m).2.2=-1\/((es.length:Int)-m<=(RY P L es F i m).2.2/\(RY P L es F i m).2.2<es.length))/\
   ∀l,Asc es.length ((i:Int)::l)->(∀j r,l=j::r->(es.length:Int)-m<=j)->BE (RY P L es F i m).1 (RY P L es F i m).2.1 (i::QE F es.length (RY P L es F i m).2.2) (rcI P L es (i::l)) ((i::l:List Int).length:Int) (i::l)
 | 0,_=>by
   have e:QE F es.length (-1)=[]:=Nif (by omega)
   refine ⟨⟨?_, ?_, ?_⟩,.inl rfl,fun l k hl=>?_⟩
   ·show _=rcI P L es (i::QE F es.length (-1));rw [e];rfl
   ·show _=((i::QE F es.length (-1):List Int).length:Int);rw [e];rfl
   ·show Asc _ (i::QE F es.length (-1));rw [e];exact ⟨by omega,by omega⟩
   ·cases l with
    | nil=>show BE _ _ (i::QE F es.length (-1)) _ _ _;rw [e];exact BE.refl
    | cons j r=>
      have h1:=hl j r rfl
      have h2:=(k.2.2).head
      omega
 | m+1,hm=>by
   obtain ⟨⟨z,u,A⟩,s,f⟩:=Nk7 w hi ih m (by omega)
   generalize hj:es.length-1-m=j
   have p:j<es.length:=by omega
   obtain ⟨⟨E,v,B⟩,hd⟩:=ih j (by omega) p
   have g:=Vg (F:=F) w p
   have G:RY P L es F i (m+1)=VA (RY P L es F i m) (YS P L es F i j):=by rw [RY,hj]
   rw [G]
   generalize K:RY P L es F i m=x at z u A s f
   generalize hr:YS P L es F i j=r
   have C:r.1=Rv P L (gt es i) (gt es j)+30*((j:Int)-i-1)+(gt F j).1:=by rw [<-hr];rfl
   have r2:r.2.1=(gt F j).2.1+1:=by rw [<-hr];rfl
   have I:r.2.2=(j:Int):=by rw [<-hr];rfl
   have D:∀l,Asc es.length ((i:Int)::(j:Int)::l)->BE r.1 r.2.1 (i::QE F es.length j) (rcI P L es (i::j::l)) ((i::j::l:List Int).length:Int) (i::j::l):=fun l hl=>by
    have:=(hd l hl.2.2).lift (d:=Rv P L (gt es i) (gt es j)+30*((j:Int)-i-1)) (i:=(i:Int))
    rw [C,r2]
    exact this
   unfold VA
   split
   ·rename_i c
    unfold YB at c
    rw [N3] at c
    refine ⟨⟨z,u,A⟩,by omega,fun l k hl=>?_⟩
    cases l with
    | nil=>exact f [] k (fun j r h=>by cases h)
    | cons a t=>
      by_cases n:a=(j:Int)
      ·subst n
       have h1:=D t k
       refine BE.trans (b:=r.1) (y:=r.2.1) (m:=i::QE F es.length j) ?_ h1
       rcases c with h | ⟨h,h'⟩
       ·exact .inl h
       ·exact .inr ⟨h,.inl h'⟩
      ·refine f _ k fun a' J e=>?_
       have h1:=hl a t rfl
       cases e
       omega
   ·rename_i c
    unfold YB at c
    rw [N3] at c
    rw [I]
    refine ⟨⟨?_, ?_, ?_⟩,.inr ⟨by omega,by omega⟩,fun l k hl=>?_⟩
    ·rw [C,E,g];rfl
    ·rw [r2,v];simp
    ·rw [g];rw [g] at B;exact ⟨by omega,by omega,B⟩
    ·have o:BE r.1 r.2.1 (i::QE F es.length j) x.1 x.2.1 (i::QE F es.length x.2.2):=by
      rcases Q3 r.1 x.1 with h | h | h
      ·exact .inl h
      ·refine .inr ⟨h, ?_⟩
       rcases Q3 x.2.1 r.2.1 with h' | h' | h'
       ·exact .inl h'
       ·refine .inr ⟨h'.symm,.inr ⟨rfl, ?_⟩⟩
        rcases s with e | ⟨e1,e2⟩
        ·exfalso
         rw [e,Nif (by omega)] at u
         rw [g] at v
         simp at u v
         omega
        ·obtain ⟨q,H⟩:=Int.eq_ofNat_of_zero_le (show 0<=x.2.2 by omega)
         rw [H,g,Vg (F:=F) w (show q<es.length by omega)]
         exact .inl (by omega)
       ·exact absurd (.inr ⟨h.symm,h'⟩) c
      ·exact absurd (.inl h) c
     cases l with
     | nil=>exact o.trans (f [] k (fun j r h=>by cases h))
     | cons a t=>
       by_cases n:a=(j:Int)
       ·subst n
        exact D t k
       ·refine o.trans (f _ k fun a' J e=>?_)
        have h1:=hl a t rfl
        cases e
        omega
end
section
variable {P:List Int} {L:List Leg} {es:List Ev}
theorem Nbe:∀(k i:Nat),es.length-i<=k->i<es.length->RestOk P L es (gt (OL P L es es.length) i) (QE (OL P L es es.length) es.length i)/\
  ∀l,Asc es.length ((i:Int)::l)->BE (gt (OL P L es es.length) i).1 (gt (OL P L es es.length) i).2.1 (QE (OL P L es es.length) es.length i) (rcI P L es (i::l)) ((i::l:List Int).length:Int) (i::l)
 | 0,i,h,hi=>by omega
 | k+1,i,h,hi=>by
   have b:∀j,j<es.length->Yf es.length j (gt (OL P L es es.length) j):=fun j hj=>Uw _ (Nd _) j (by omega) hj
   obtain ⟨h1,h2,a⟩:=Nk7 b hi (fun j h1 h2=>Nbe k j (by omega) h2) (es.length-1-i) (Nd _)
   rw [<-Ntd hi] at h1 h2 a
   rw [<-Vg b hi] at h1 a
   exact ⟨h1,fun l hl=>a l hl fun j r e=>by
    subst e
    have:=hl.2.1
    omega⟩
theorem BE.add {c k a k':Int} {l l':List Int} (d:Int) (h:BE c k l a k' l'):BE (d+c) k l (d+a) k' l':=by
 rcases h with h | ⟨rfl,h⟩
 ·exact .inl (by omega)
 ·exact .inr ⟨rfl,h⟩
def tot (P:List Int) (L:List Leg) (es:List Ev):List Int->Int
 | []=>0
 | i::l=>30*i+rcI P L es (i::l)
theorem Nkr:∀m,m<=es.length->0<m->∃h:Nat,h<es.length/\es.length-m<=h/\(U6 es.length (OL P L es es.length) m).2.2=h/\(U6 es.length (OL P L es es.length) m).1=tot P L es (QE (OL P L es es.length) es.length h)/\(U6 es.length (OL P L es es.length) m).2.1=(QE (OL P L es es.length) es.length h).length/\
  ∀j l,Asc es.length (j::l)->(es.length:Int)-m<=j->BE (U6 es.length (OL P L es es.length) m).1 (U6 es.length (OL P L es es.length) m).2.1 (QE (OL P L es es.length) es.length h) (tot P L es (j::l)) ((j::l).length:Int) (j::l)
 | 0,_,h=>by omega
 | m+1,hm,_=>by
   have t:∀j,j<es.length->Yf es.length j (gt (OL P L es es.length) j):=fun j hj=>Uw _ (Nd _) j (by omega) hj
   generalize hi:es.length-1-m=i
   have c:i<es.length:=by omega
   have ⟨⟨z,A,C⟩,B⟩:=Nbe (P:=P) (L:=L) (es:=es) es.length i (by omega) c
   have e:=Vg (F:=OL P L es es.length) t c
   have f:U6 es.length (OL P L es es.length) (m+1)=if (U6 es.length (OL P L es es.length) m).2.2<0 then Na4 (OL P L es es.length) i else VA (U6 es.length (OL P L es es.length) m) (Na4 (OL P L es es.length) i):=by rw [U6,hi]
   generalize hr:Na4 (OL P L es es.length) i=r at f
   have u:r.1=30*(i:Int)+(gt (OL P L es es.length) i).1:=by rw [<-hr];rfl
   have r2:r.2.1=(gt (OL P L es es.length) i).2.1:=by rw [<-hr];rfl
   have v:r.2.2=(i:Int):=by rw [<-hr];rfl
   have rt:r.1=tot P L es (QE (OL P L es es.length) es.length i):=by rw [u,z,e];rfl
   have w:r.2.1=(QE (OL P L es es.length) es.length i).length:=by rw [r2,A]
   have n:∀l,Asc es.length ((i:Int)::l)->BE r.1 r.2.1 (QE (OL P L es es.length) es.length i) (tot P L es (i::l)) ((i::l:List Int).length:Int) (i::l):=fun l hl=>by
    rw [u,r2];exact (B l hl).add _
   by_cases k:m=0
   ·subst k
    have e0:U6 es.length (OL P L es es.length) (0+1)=r:=by rw [f,Ni];show (-1:Int)<0;decide
    rw [e0]
    refine ⟨i,c,by omega,v,rt,w,fun j l hl hj=>?_⟩
    have:=hl.head
    obtain rfl:j=(i:Int):=by omega
    exact n l hl
   obtain ⟨h,h1,h2,o,p,s,g⟩:=Nkr m (by omega) (by omega)
   rw [Ng (by omega)] at f
   rw [f]
   generalize U6 es.length (OL P L es es.length) m=x at o p s g
   unfold VA
   split
   ·rename_i a
    unfold YB at a
    rw [N3] at a
    refine ⟨h,h1,by omega,o,p,s,fun j l hl hj=>?_⟩
    by_cases d:j=(i:Int)
    ·subst d
     refine BE.trans (b:=r.1) (y:=r.2.1) ?_ (n l hl)
     rcases a with h | ⟨h,h'⟩
     ·exact .inl h
     ·exact .inr ⟨h,.inl h'⟩
    ·exact g j l hl (by omega)
   ·rename_i a
    unfold YB at a
    rw [N3] at a
    refine ⟨i,c,by omega,v,rt,w,fun j l hl hj=>?_⟩
    by_cases d:j=(i:Int)
    ·subst d
     exact n l hl
    ·refine BE.trans ?_ (g j l hl (by omega))
     rcases Q3 r.1 x.1 with h' | h' | h'
     ·exact .inl h'
     ·refine .inr ⟨h', ?_⟩
      rcases Q3 x.2.1 r.2.1 with q | q | q
      ·exact .inl q
      ·refine .inr ⟨q.symm, ?_⟩
       rw [e,Vg (F:=OL P L es es.length) t h1]
       exact .inl (by omega)
      ·exact absurd (.inr ⟨h'.symm,q⟩) a
     ·exact absurd (.inl h') a
theorem Nf6 (hn:0<es.length):R6 P L es≠[]/\Asc es.length (R6 P L es)/\∀j l,Asc es.length (j::l)->BE (tot P L es (R6 P L es)) ((R6 P L es).length:Int) (R6 P L es) (tot P L es (j::l)) ((j::l).length:Int) (j::l):=by
 have f:∀j,j<es.length->Yf es.length j (gt (OL P L es es.length) j):=fun j hj=>Uw _ (Nd _) j (by omega) hj
 obtain ⟨h,h1,h2,a,b,c,d⟩:=Nkr (P:=P) (L:=L) (es:=es) es.length (Nd _) hn
 have e:R6 P L es=QE (OL P L es es.length) es.length h:=by unfold R6;rw [a]
 rw [e]
 refine ⟨by rw [Vg f h1];simp,(Nbe es.length h (by omega) h1).1.asc,fun j l hl=>?_⟩
 have:=d j l hl (by have:=hl.head;omega)
 rw [b,c] at this
 exact this
theorem Nkv {i j:Int} {l:List Int}:QX P L es (i::j::l)=(i,j,Rv P L (gt es i.toNat) (gt es j.toNat))::QX P L es (j::l):=by
 unfold QX
 show (List.range (l.length+1)).map _=_
 rw [List.range_succ_eq_map,N2,List.map_map]
 rfl
theorem Nd0:∀(l:List Int) (i:Int),tot P L es (i::l)=Te P L es (i::l)
 | [],i=>by
   show 30*i+30*((es.length:Int)-1-i)=30*((es.length:Int)-1)+0
   omega
 | j::l,i=>by
   have h:=Nd0 l j
   have e1:tot P L es (i::j::l)=30*i+(Rv P L (gt es i.toNat) (gt es j.toNat)+30*(j-i-1)+rcI P L es (j::l)):=rfl
   have e2:tot P L es (j::l)=30*j+rcI P L es (j::l):=rfl
   have e3:Te P L es (i::j::l)=30*((es.length:Int)-(l.length+1+1:Nat))+UM (QX P L es (i::j::l)):=rfl
   have a:Te P L es (j::l)=30*((es.length:Int)-(l.length+1:Nat))+UM (QX P L es (j::l)):=rfl
   rw [e1,e3,Nkv,UM]
   rw [e2,a] at h
   simp only
   omega
theorem N2p {n:Nat}:∀(ks:List Int),(∀i,i<ks.length->Ncz n ks i)->Asc n ks
 | [],_=>trivial
 | [i],h=>⟨(h 0 (by simp)).1,(h 0 (by simp)).2.1⟩
 | i::j::l,h=>by
   refine ⟨(h 0 (by simp)).1,(h 1 (by simp)).2.2 (by omega),N2p (j::l) fun k hk=>?_⟩
   have h1:=h (k+1) (by simp at hk⊢;omega)
   refine ⟨h1.1,h1.2.1,fun h0=>?_⟩
   have h2:=h1.2.2 (by omega)
   obtain ⟨q,rfl⟩:∃q,k=q+1:=⟨k-1,by omega⟩
   exact h2
theorem Ny6 {n:Nat}:∀(ks:List Int),Asc n ks->∀i,i<ks.length->Ncz n ks i
 | [],_,i,hi=>by cases hi
 | [a],h,i,hi=>by
   obtain rfl:i=0:=by simp at hi;omega
   exact ⟨h.1,h.2,fun h=>by omega⟩
 | a::b::l,h,0,hi=>⟨h.head.1,h.head.2,fun h=>by omega⟩
 | a::b::l,h,1,hi=>⟨h.2.2.head.1,h.2.2.head.2,fun _=>h.2.1⟩
 | a::b::l,h,i+2,hi=>by
   have h1:=Ny6 (b::l) h.2.2 (i+1) (by simp at hi⊢;omega)
   exact ⟨h1.1,h1.2.1,fun _=>h1.2.2 (by omega)⟩
theorem Xx:YY es.length (R6 P L es):=by
 by_cases hn:0<es.length
 ·obtain ⟨h1,h2,_⟩:=Nf6 (P:=P) (L:=L) hn
  exact ⟨fun h=>absurd (List.length_eq_zero_iff.1 h) h1,Ny6 _ h2⟩
 ·have e:R6 P L es=[]:=by
   have:=XX (T:=OL P L es es.length) es.length (U6 es.length (OL P L es es.length) es.length).2.2
   exact List.length_eq_zero_iff.1 (by unfold R6;omega)
  exact ⟨fun _=>by omega,fun i hi=>by rw [e] at hi;cases hi⟩
theorem N2l {ks:List Int} (hk:YY es.length ks):BE (Te P L es (R6 P L es)) ((R6 P L es).length:Int) (R6 P L es) (Te P L es ks) (ks.length:Int) ks:=by
 cases ks with
 | nil=>
   have h0:=hk.1 rfl
   have e:R6 P L es=[]:=by
    have:=XX (T:=OL P L es es.length) es.length (U6 es.length (OL P L es es.length) es.length).2.2
    exact List.length_eq_zero_iff.1 (by unfold R6;omega)
   rw [e]
   exact BE.refl
 | cons j l=>
   have c:=N2p _ hk.2
   have hn:0<es.length:=by have:=c.head;omega
   obtain ⟨h1,h2,d⟩:=Nf6 (P:=P) (L:=L) hn
   have:=d j l c
   rw [Nd0] at this
   generalize R6 P L es=b at *
   cases b with
   | nil=>exact absurd rfl h1
   | cons a t=>rw [Nd0] at this;exact this
end
end Go.Proofs.YtkppjkkkdpcgiaaGreat.Fn


namespace Go.Proofs.YtkppjkkkdpcgiaaGreat.Fn
open Go.AM Go.AM.Sym Go.Net
def WR (P:List Int) (L:List Leg) (T:List Int):Nat->List Int
 | 0=>T
 | k+1=>Go.Net.stepX 50 (OO P) L (WR P L T k)
theorem Nia {P:List Int} {L:List Leg} {q a:Int}:∀k,WR P L (Z5 50 (OO P q) a) k=Naj 50 (OO P) L q a k
 | 0=>rfl
 | k+1=>by rw [WR,Naj,Nia k]
theorem Nr3:okT (List.replicate 50 (-1)):=⟨by simp,fun j=>by
 rw [Na,Pw];unfold NY;split<;>simp⟩
theorem Nkm {pos:Int->Nat} {bef aft:List Int} {l:Leg} {a:Int} (h0:¬bef.getD (pos l.dst) (-1)<0) (h:Tk l (bef.getD (pos l.dst) (-1))=some a):Yn pos bef aft l=aft.set (pos l.frm) (max (aft.getD (pos l.frm) (-1)) (a-l.cut)):=by
 unfold Yn
 rw [Ng h0]
 simp only [h]
 congr 1
 split<;>omega
theorem Nju [OB] {lim R A10 A11:Nat} {pl:Option Addr} {P:List Int} {L:List Leg} {cl:Nat} {H G:NE} {fr:Nat->Value} {K:List AItem} {Z:Value->NE->Prop} {bef:List Int}
  (o:NetOk 50 P L (OO P)) (hL:Sl H RA 8 pl L) (ak:L.length<2 ^ 62) (hm:NI H R=.map (WN P)) (aj:lim<=H.length) (hb:okT bef) (hE:Chg [] H G) (ah:H.length<=A10) (ai:H.length<=A11) (ag:A10≠A11) (aa:NI G A10=Vc (Si bef)) (ab:NI G A11=Vc (Si (List.replicate 50 (-1))))
  (f1:fr 1=.map (some R)) (f10:fr 10=Vp A10) (f11:fr 11=Vp A11) (U:fr 30=.slice pl L.length cl) (V:fr 31=Vi L.length) (f32:fr 32=Vi 0)
  (hR:∀fr' G',okT (Go.Net.stepX 50 (OO P) L bef)->Chg [A11] G G'->NI G' A11=Vc (Si (Go.Net.stepX 50 (OO P) L bef))->fr' 1=fr 1->fr' 4=fr 4->fr' 9=fr 9->fr' 11=fr 11->fr' 19=fr 19->fr' 20=fr 20->PV E a62 lim K fr' (G'++[]) Z) :
  PV E a62 lim (.code (.loop N0n)::.inBlock 2::K) fr G Z:=by
 refine NS (fun i=>L.length-i) (fun i fr' G'=>i<=L.length/\fr' 1=.map (some R)/\fr' 4=fr 4/\fr' 9=fr 9/\fr' 10=Vp A10/\fr' 11=Vp A11/\fr' 19=fr 19/\fr' 20=fr 20/\fr' 30=.slice pl L.length cl/\fr' 31=Vi L.length/\fr' 32=Vi i/\
  Chg [A11] G G'/\okT ((L.take i).foldl (Yn (OO P) bef) (List.replicate 50 (-1)))/\NI G' A11=Vc (Si ((L.take i).foldl (Yn (OO P) bef) (List.replicate 50 (-1))))) 0
  ⟨Nw _,f1,rfl,rfl,f10,f11,rfl,rfl,U,V,f32,Chg.refl,Nr3,ab⟩ ?_
 intro i fr' G' ⟨hi,z,S,T,h,e,u,v,m,n,w,I,A,d⟩ hN
 have B:Chg [] H G':=hE.trans' I fun j h1 h2=>by simp only [Nj] at h1;omega
 have hl:=B.len
 rw [NU N0n.eq_1]
 refine NL ?_
 by_cases g:i<L.length
 case neg=>
  obtain rfl:i=L.length:=by omega
  rw [Oh] at A d
  simp only [n62,r62,z,h,e,m,n,w,g,SB,seval,NC,NJ,NG,NQ,reduceCtorEq,NB,place,NA,ND]
  exact hR _ _ A I d (by rw [f1];exact z) (by rw [<-S];exact rfl) (by rw [<-T];exact rfl) (by rw [f11];exact e) (by rw [<-u];exact rfl) (by rw [<-v];exact rfl)
 have N:=B.ext.sl hL
 have D:=fun X=>(N.app X).loadCells OI g
 have s:=fun c (k:IntKind) (H1:NE)=>N.idx (c:=c) (k:=k) (H1:=H1) g
 have F:IntKind.i64.wrap ((i:Int)+1)=((i+1:Nat):Int):=OE (by omega)
 have J:=I.cells aa (by simpa using ag)
 have q1:=fun X=>(OH.refl.app (X:=X)).cells J
 have q2:=fun X=>(OH.refl.app (X:=X)).cells d
 have M:=B.get hm (PR hm) (by simp)
 have q3:∀X,NI (G'++X) R=.map (WN P):=fun X=>by rw [NR (PR M)];exact M
 have C:lim<=G'.length:=by omega
 have ae:lim<=A11:=by omega
 have t:=QH g
 have hf:=o.fine _ t
 have i1:OO P (gt L i).frm<50:=o.lt _ (o.frm _ t)
 have i2:OO P (gt L i).dst<50:=o.lt _ (o.dst _ t)
 obtain ⟨j1,x⟩:=Vk (i:=0) (o.frm _ t)
 obtain ⟨j2,y⟩:=Vk (i:=0) (o.dst _ t)
 change findKey _ _ _=some (some (j1,Vi (OO P (gt L i).frm:Int))) at x
 change findKey _ _ _=some (some (j2,Vi (OO P (gt L i).dst:Int))) at y
 have hT:=Mr (f:=Yn (OO P) bef) (b:=List.replicate 50 (-1)) g
 generalize (L.take i).foldl (Yn (OO P) bef) (List.replicate 50 (-1))=aft at *
 have ad:=hb.2 (OO P (gt L i).dst)
 have ac:=A.2 (OO P (gt L i).frm)
 have Y:=Wi hb.1 i2
 have W:=Wi A.1 i1
 have z1:(0:Int)<=(OO P (gt L i).frm:Int):=by omega
 have z2:(0:Int)<=(OO P (gt L i).dst:Int):=by omega
 have z3:(OO P (gt L i).frm:Int)<50:=by omega
 have z4:(OO P (gt L i).dst:Int)<50:=by omega
 have z5:OO P (gt L i).dst<=49:=by omega
 have z6:OO P (gt L i).frm<=49:=by omega
 by_cases p:bef.getD (OO P (gt L i).dst) (-1)<0
 ·have O:Yn (OO P) bef aft (gt L i)=aft:=by unfold Yn;rw [Ni p]
  rw [O] at hT
  simp only [n62,r62,z,h,e,m,n,w,g,D,s,F,q1,q2,q3,x,y,Y,W,z1,z2,z3,z4,z5,z6,OI,QQ,QP,QO,QN,QM,QL,QK,QJ,NH,PN,Pe,C,NF,p,SB,seval,NC,NJ,NG,NQ,reduceCtorEq,NB,place,NA,ND]
  exact hN (i+1) _ _ ⟨by omega,z,by rw [<-S];exact rfl,by rw [<-T];exact rfl,h,e,by rw [<-u];exact rfl,by rw [<-v];exact rfl,m,n,rfl,I.app,by rw [hT];exact A,by rw [hT];exact (OH.refl.app).cells d⟩ (by omega)
 unfold NY at ad ac
 have q:=fun (H:NE) (mp:Bool) (lim:Nat) (Q:Value->NE->Prop)=>N4m (mp:=mp) (lim:=lim) (H:=H) (Q:=Q) (l:=gt L i) (r:=bef.getD (OO P (gt L i).dst) (-1)) hf (by omega) (by omega)
 cases hx:Tk (gt L i) (bef.getD (OO P (gt L i).dst) (-1)) with
 | none=>
   rw [hx] at q
   simp only [Oq,Ww] at q
   have O:Yn (OO P) bef aft (gt L i)=aft:=by unfold Yn;rw [Ng p];simp only [hx]
   rw [O] at hT
   simp only [n62,r62,z,h,e,m,n,w,g,D,s,F,q1,q2,q3,x,y,Y,W,z1,z2,z3,z4,z5,z6,OI,QQ,QP,QO,QN,QM,QL,QK,QJ,NH,PN,Pe,C,NF,p,q,SB,seval,NC,NJ,NG,NQ,reduceCtorEq,NB,place,NA,ND]
   exact hN (i+1) _ _ ⟨by omega,z,by rw [<-S];exact rfl,by rw [<-T];exact rfl,h,e,by rw [<-u];exact rfl,by rw [<-v];exact rfl,m,n,rfl,I.app,by rw [hT];exact A,by rw [hT];exact (OH.refl.app).cells d⟩ (by omega)
 | some a=>
   rw [hx] at q
   simp only [Nu,Ww] at q
   obtain ⟨k1,k2,k3,k4⟩:=Nhy hf hx
   unfold NY at k3
   have O:=Nkm (aft:=aft) p hx
   rw [O] at hT
   unfold Fine at hf
   have wc:IntKind.i64.wrap (a-(gt L i).cut)=a-(gt L i).cut:=NP (by omega) (by omega)
   obtain ⟨G2,e2,h2,m2⟩:=OP (NM d) (Vc (Si (aft.set (OO P (gt L i).frm) (max (aft.getD (OO P (gt L i).frm) (-1)) (a-(gt L i).cut)))))
   simp only [n62,r62,z,h,e,m,n,w,g,D,s,F,q1,q2,q3,x,y,Y,W,z1,z2,z3,z4,z5,z6,OI,QQ,QP,QO,QN,QM,QL,QK,QJ,NH,PN,Pe,C,NF,p,q,wc,ae,Nzy,YL A.1,e2,SB,seval,NC,NJ,NG,NQ,reduceCtorEq,NB,place,NA,ND]
   exact hN (i+1) _ _ ⟨by omega,z,by rw [<-S];exact rfl,by rw [<-T];exact rfl,h,e,by rw [<-u];exact rfl,by rw [<-v];exact rfl,m,n,rfl,(I.mut m2 (.inl (by simp))).app,by rw [hT];exact Njb A (by unfold NY;omega),by rw [hT];exact (OH.refl.app).cells h2⟩ (by omega)
theorem Nfm {P:List Int} {L:List Leg} {T:List Int} (b:NetOk 50 P L (OO P)) (hT:okT T):∀k,okT (WR P L T k)
 | 0=>hT
 | k+1=>by
   rw [WR,Go.Net.stepX]
   have f:=Nfm b hT k
   generalize WR P L T k=bef at f
   suffices h:∀(M:List Leg),(∀l∈M,l∈L)->∀aft,okT aft->okT (M.foldl (Yn (OO P) bef) aft) from h L (fun _ h=>h) _ Nr3
   intro M
   induction M with
   | nil=>intro _ aft h;exact h
   | cons l M ih=>
     intro e aft d
     rw [Ok]
     refine ih (fun x c=>e x (Nk _ c)) _ ?_
     by_cases h0:bef.getD (OO P l.dst) (-1)<0
     ·unfold Yn;rw [Ni h0];exact d
     ·cases c:Tk l (bef.getD (OO P l.dst) (-1)) with
      | none=>unfold Yn;rw [Ng h0];simp only [c];exact d
      | some a=>
        rw [Nkm h0 c]
        obtain ⟨k1,k2,k3,i⟩:=Nhy (b.fine _ (e l (Nm ..))) c
        have g:=b.fine _ (e l (Nm ..))
        have:=d.2 (OO P l.frm)
        unfold Fine at g
        exact Njb d (by omega)
theorem YX.le {α:Type} {lim e cap:Nat} {G:NE} {enc:α->List Value} {p:Option Addr} {l:List α} (h:YX lim G enc e p cap l) {lim':Nat} (hl:lim'<=lim):YX lim' G enc e p cap l:=by
 rcases h with h | ⟨R,h0,h1,h2,a,b⟩
 ·exact .inl (h.le hl)
 ·exact .inr ⟨R,h0,h1,h2,a,by omega⟩
theorem Nu5 [OB] {lim R n0:Nat} {T:List Int} {pp pl:Option Addr} {P:List Int} {L:List Leg} {cp cl:Nat} {H:NE} {Q:Value->NE->Prop} (hn:NetIn H pp pl P L) (y:NetOk 50 P L (OO P)) (hm:NI H R=.map (WN P)) (hT:okT T) (ae:n0<2 ^ 30) (S:L.length<2 ^ 62) (x:lim<=H.length)
  (hQ:∀H' p cap,Chg [] H H'->YX H.length H' Si 50 p cap ((List.range (n0+1)).map (WR P L T))->Q (.slice p (n0+1) cap) H') :
  NK E false lim 62 [.agg (Tv pp P.length cp pl L.length cl).toArray,.map (some R),.agg (Si T).toArray,Vi n0] H Q:=by
 refine RG (by decide) e62 rfl ?_
 rw [b62,c62]
 simp only [n62,r62,Nki,PN,NH,NF,On,SB,seval,NC,NJ,NG,NQ,reduceCtorEq,NB,place,NA,ND]
 refine NS (fun s:Nat×Option Addr×Nat=>n0-s.1) (fun s fr G=>s.1<=n0/\fr 1=.map (some R)/\fr 4=Vp H.length/\fr 9=.slice s.2.1 (s.1+1) s.2.2/\fr 19=Vi n0/\fr 20=Vi s.1/\NI G H.length=Vc (Tv pp P.length cp pl L.length cl)/\Chg [] H G/\YX (H.length+1) G Si 50 s.2.1 s.2.2 ((List.range (s.1+1)).map (WR P L T))) (0,Sa (H.length+2),1)
  ⟨Nw _,rfl,rfl,by rfl,rfl,by rfl,NV,Chg.refl.app,.inr ⟨H.length+2,rfl,rfl,by show (1:Nat)<2 ^ 62;decide,by rw [OC];simp [WR],by omega⟩⟩ ?_
 rintro ⟨k,p,cap⟩ fr G ⟨hk,f1,f4,f9,o,f,hB,I,J⟩ hN
 simp only at hk f9 f J
 have hl:=I.len
 have U:=Nfm y hT k
 rw [NU N6q.eq_1]
 refine NL ?_
 by_cases u:k<n0
 case neg=>
  obtain rfl:k=n0:=by omega
  simp only [n62,r62,f1,f4,f9,o,f,u,SB,seval,NC,NJ,NG,NQ,reduceCtorEq,NB,place,NA,ND]
  exact hQ _ _ _ I.app ((J.chg (A:=[]) (Chg.refl.app) (by simp)).le (by omega))
 have b:((List.range (k+1)).map (WR P L T)).length=k+1:=by simp
 have N:gt ((List.range (k+1)).map (WR P L T)) k=WR P L T k:=by
  rw [PS (by rw [b];omega)];simp
 have hS:=J.sl PN
 have w:=fun X=>(hS.app X).loadCells PN (i:=k) (by rw [b];omega)
 have m:=fun c (kk:IntKind) (H1:NE)=>hS.idx (c:=c) (k:=kk) (H1:=H1) (i:=k) (by rw [b];omega)
 rw [b] at m
 rw [N] at w
 have V:IntKind.i64.wrap (((k+1:Nat):Int)-1)=(k:Int):=by rw [NP (by omega) (by omega)];omega
 have W:IntKind.i64.wrap ((k:Int)+1)=((k+1:Nat):Int):=OE (by omega)
 have O:lim<=G.length:=by omega
 have K:∀(H:NE) (mp:Bool) (lim:Nat) (Q:Value->NE->Prop),NK E mp lim 63 [Vi 0,Vi (-1)] H Q=Q (.agg (Si (List.replicate 50 (-1))).toArray) H:=fun H mp lim Q=>No7 (mp:=mp) (lim:=lim) (H:=H) (Q:=Q) (i:=0) (t:=-1) (by decide)
 have M:=fun X=>(OH.refl.app (X:=X)).cells hB
 simp only [n62,r62,f1,f4,f9,o,f,u,K,M,PT,Sv,Su,Nki,PN,NH,NF,On,V,m,w,O,show lim<=G.length+1 by omega,SB,seval,NC,NJ,NG,NQ,reduceCtorEq,NB,place,NA,ND]
 refine Nju (cl:=cl) (A10:=G.length) (A11:=G.length+1) y hn.sl S hm x U I.app (by omega) (by omega) (by omega) NV OC f1 rfl rfl rfl rfl rfl fun fr' G' z hC q k1 k4 k9 Y Z aa=>?_
 have B:fr' 1=.map (some R):=k1.trans f1
 have F:fr' 4=Vp H.length:=k4.trans f4
 have ab:fr' 9=.slice p (k+1) cap:=k9.trans f9
 have C:fr' 11=Vp (G.length+1):=Y.trans rfl
 have n:fr' 19=Vi n0:=Z.trans o
 have D:fr' 20=Vi k:=aa.trans f
 have l:=fun X=>(OH.refl.app (X:=X)).cells q
 have g:Chg [] G G':=hC.pre.mono fun j hj h=>by simp only [Nj] at h;omega
 have ad:=g.len
 have r:=J.chg g (by simp)
 change okT (WR P L T (k+1)) at z
 change NI G' (G.length+1)=Vc (Si (WR P L T (k+1))) at q
 change ∀X,NI (G'++X) (G.length+1)=Vc (Si (WR P L T (k+1))) at l
 have ac:H.length<G.length:=NM hB
 obtain ⟨G3,e3,O3,C3,d,l3,_⟩:=r.step (lim':=lim) (bytes:=400) (by omega) PN (by decide) (WR P L T (k+1)) (by rw [b];unfold QG;omega) (by rw [b];omega) (by omega) [Vc (Si (WR P L T (k+1)))] G'.length 1 NV
 rw [b] at e3
 have v:lim<=G'.length:=by omega
 simp only [n62,r62,B,F,ab,C,n,D,l,PN,NH,Nki,NF,On,e3,W,v,SB,seval,NC,NJ,NG,NQ,reduceCtorEq,NB,place,NA,ND]
 refine hN (k+1,_,_) _ _ ⟨by omega,B,F,by rfl,n,rfl, ?_,C3 _ _ (by omega) (I.trans g),.inl ?_⟩ (by show n0-(k+1)<n0-k;omega)
 ·rw [Nb] at d
  rw [Nb,d H.length (by omega) fun a ha e=>by have:=(r.block ha).1;omega]
  exact g.cells hB (by simp)
 ·rw [Pa,Ou]
  exact O3
theorem Oby [OB] {mp:Bool} {lim A B i:Nat} {o1 o2:Bool} {t:Int} {T:List Int} {H:NE} {Q:Value->NE->Prop} (hi:i<50) (hT:T.length=50) (hA:NI H A=.cells o1 [Vi i]) (hB:NI H B=.cells o2 [Vi t]) :
  NK E mp lim 61 [.agg (Si T).toArray,Vp A,Vp B] H Q=Q (.bool (decide (T.getD i (-1)=t))) H:=by
 refine pc (by decide) e61 rfl rfl ?_
 rw [b61,c61]
 have q1:=fun X=>(OH.refl.app (X:=X)).cells hA
 have q2:=fun X=>(OH.refl.app (X:=X)).cells hB
 have a:(0:Int)<=(i:Int):=by omega
 have b:(i:Int)<50:=by omega
 have c:i<=49:=by omega
 have gt:=Wi hT hi
 simp only [n61,r61,q1,q2,PN,NH,gt,a,b,c,Pe,SB,seval,NC,NJ,NG,NQ,reduceCtorEq,NB,place,NA,ND]
theorem N1a [OB] {mp:Bool} {lim A B i k cap:Nat} {p:Option Addr} {o1 o2:Bool} {t:Int} {Ts:List (List Int)} {H:NE} {Q:Value->NE->Prop} (hi:i<50) (hA:NI H A=.cells o1 [Vi i]) (hB:NI H B=.cells o2 [Vi t]) (hs:Sl H Si 50 p Ts) (l:∀T∈Ts,T.length=50) (hn:Ts.length<2 ^ 62)
  (hk:k<Ts.length) (m:(gt Ts k).getD i (-1)=t) (n:∀j,j<k->(gt Ts j).getD i (-1)≠t) :
  NK E mp lim 60 [.slice p Ts.length cap,.func (.func 61) #[] #[Vp A,Vp B]] H Q=Q (Vi k) H:=by
 refine pc (by decide) e60 rfl rfl ?_
 rw [b60,c60]
 simp only [n60,r60,SB,seval,NC,NJ,NG,NQ,reduceCtorEq,NB,place,NA,ND]
 refine NS (fun j=>Ts.length-j) (fun j fr G=>j<=k/\fr 0=.slice p Ts.length cap/\fr 1=.func (.func 61) #[] #[Vp A,Vp B]/\fr 7=Vi Ts.length/\fr 8=Vi j/\OH H G) 0 ⟨Nw _,rfl,rfl,rfl,by rfl,OH.refl.app⟩ ?_
 intro j fr G ⟨hj,f0,f1,h,o,e⟩ q
 rw [NU N6r.eq_1]
 refine NL ?_
 have a:j<Ts.length:=by omega
 have f:=fun X=>((e.sl hs).app X).loadCells PN a
 have d:=fun c (kk:IntKind) (H1:NE)=>(e.sl hs).idx (c:=c) (k:=kk) (H1:=H1) a
 have g:IntKind.i64.wrap ((j:Int)+1)=((j+1:Nat):Int):=OE (by omega)
 have b:=fun X (mp:Bool) (lim:Nat) (Q:Value->NE->Prop)=>Oby (mp:=mp) (lim:=lim) (Q:=Q) (H:=G++X) (T:=gt Ts j) hi (l _ (QH a)) ((e.app).cells hA) ((e.app).cells hB)
 by_cases he:j=k
 ·subst he
  rw [Np m] at b
  simp only [n60,r60,f0,f1,h,o,a,f,d,g,b,SB,seval,NC,NJ,NG,NQ,reduceCtorEq,NB,place,NA,ND]
 ·rw [N1 (p:=(gt Ts j).getD i (-1)=t) (n j (by omega))] at b
  simp only [n60,r60,f0,f1,h,o,a,f,d,g,b,SB,seval,NC,NJ,NG,NQ,reduceCtorEq,NB,place,NA,ND]
  exact q (j+1) _ _ ⟨by omega,f0,f1,h,rfl,e.app⟩ (by omega)
theorem Nkl [OB] {lim Y Bx c:Nat} {p:Option Addr} {o:Bool} {L:List Leg} {H:NE} {Q:Value->NE->Prop} (I:Nat->NE->Prop) (u:L.length<2 ^ 62)
  (h:∀i H H',I i H->Chg [] H H'->I i H')
  (f:∀i H,I i H->Sl H RA 8 p L/\NI H Bx=.cells o [.slice p L.length c]/\lim<=H.length)
  (b:∀i H,i<L.length->I i H->WJ E false lim Y [.agg (RA (gt L i)).toArray] H fun v H'=>v=.bool true/\I (i+1) H')
  (h0:I 0 H) (t:∀H',I L.length H'->Q (.tuple #[]) H') :
  NK E false lim 103 [.func (.yield Y) #[] #[],Vp Bx] H Q:=by
 refine RG (by decide) Oev rfl ?_
 rw [Of0,N9n]
 have l:=fun X=>(OH.refl.app (X:=X)).cells (f _ _ h0).2.1
 simp only [n103,N3t,l,SB,seval,NC,NJ,NG,NQ,reduceCtorEq,NB,place,NA,ND]
 refine NS (fun i=>L.length-i) (fun i fr G=>i<=L.length/\fr 0=.func (.yield Y) #[] #[]/\fr 5=.slice p L.length c/\fr 6=Vi L.length/\fr 7=Vi i/\I i G) 0 ⟨Nw _,rfl,rfl,rfl,by rfl,h _ _ _ h0 (Chg.refl.app)⟩ ?_
 intro i fr G ⟨hi,f0,f5,g,j,d⟩ s
 rw [NU N0z.eq_1]
 refine NL ?_
 obtain ⟨hs,hB,n⟩:=f _ _ d
 by_cases a:i<L.length
 case neg=>
  obtain rfl:i=L.length:=by omega
  simp only [n103,N3t,f0,f5,g,j,a,SB,seval,NC,NJ,NG,NQ,reduceCtorEq,NB,place,NA,ND]
  exact t _ (h _ _ _ d (Chg.refl.app))
 have q:=fun X=>(hs.app X).loadCells OI a
 have e:=fun c (kk:IntKind) (H1:NE)=>hs.idx (c:=c) (k:=kk) (H1:=H1) a
 have r:IntKind.i64.wrap ((i:Int)+1)=((i+1:Nat):Int):=OE (by omega)
 simp only [n103,N3t,f0,f5,g,j,a,q,e,OI,QQ,QP,QO,QN,QM,QL,QK,QJ,NH,n,NF,SB,seval,NC,NJ,NG,NQ,reduceCtorEq,NB,place,NA,ND]
 refine (b i _ a (h _ _ _ d (Chg.refl.app))).mono fun v H' w=>?_
 obtain ⟨rfl,m⟩:=w
 refine NL ?_
 simp only [n103,N3t,f0,f5,g,j,r,SB,seval,NC,NJ,NG,NQ,reduceCtorEq,NB,place,NA,ND]
 exact s (i+1) _ _ ⟨by omega,f0,f5,g,rfl,h _ _ _ m (Chg.refl.app)⟩ (by omega)
theorem Nrf [OB] {lim Bx c:Nat} {p:Option Addr} {o:Bool} {L:List Leg} {H:NE} {Z:Value->NE->Prop} {fr0:Nat->Value} {K':List AItem} (hB:NI H Bx=.cells o [.slice p L.length c]) (hs:Sl H RA 8 p L) (hn:L.length<2 ^ 30) (K:lim<=H.length)
  (f2:fr0 2=Vp H.length)
  (Y:∀H' q cap,Chg [] H H'->Own (H.length+3) H' RA 8 q cap L->NI H' H.length=Vc [.slice q L.length cap]->NI H' (H.length+1)=.dfr->H.length+3<=H'.length->PV E Ng5 lim (K'++[.mark (H.length+1)]) fr0 (H'++[]) Z) :
  NK E false lim 103 [.func (.yield (H.length+2)) #[] #[],Vp Bx] (H++[Vc [Vz],.dfr,.loop ⟨0,none,fr0,13,[7],XQ,XP⟩]) fun _ C=>
   Ym (NI C (H.length+1+1)) fun x=>PV E Ng5 lim (Y4 x++(K'++[.mark (H.length+1)])) fr0 (C.set (H.length+1+1) .dead) Z:=by
 refine Nkl (c:=c) (p:=p) (o:=o) (L:=L) (fun i G=>∃q cap,NI G H.length=Vc [.slice q i cap]/\Own (H.length+3) G RA 8 q cap (L.take i)/\NI G (H.length+1)=.dfr/\NI G (H.length+2)=.loop ⟨0,none,fr0,13,[7],XQ,XP⟩/\Chg [] H G/\H.length+3<=G.length/\i<=L.length) (by omega) ?_ ?_ ?_ ?_ ?_
 ·rintro i G G' ⟨q,cap,h1,h2,s,l,h,I,J⟩ d
  have:=d.len
  exact ⟨q,cap,d.cells h1 (by simp),h2.chg d (by simp),d.get s (by omega) (by simp),d.get l (by omega) (by simp),h.trans d,by omega,J⟩
 ·rintro i G ⟨q,cap,h1,h2,s,l,h,I,J⟩
  exact ⟨h.ext.sl hs,h.cells hB (by simp),by omega⟩
 ·rintro i G w ⟨q,cap,h2,u,hd,M,d,hl,_⟩
  rw [X7 (x:=⟨0,none,fr0,13,[7],XQ,XP⟩) M (by omega) rfl rfl,WK]
  rw [NU XQ.eq_1]
  refine NL ?_
  obtain ⟨G1,e1,h1,f⟩:=OP (G:=G) (R:=H.length+2) (by omega) (.loop ⟨1,none,fr0,13,[7],XQ,XP⟩)
  have W:=fun X=>(OH.refl.app (X:=X)).get' M (by omega)
  have m:lim<=G.length:=by omega
  simp only [f2,OI,QQ,QP,QO,QN,QM,QL,QK,QJ,NH,NF,m,W,e1,show lim<=H.length+2 by omega,SB,seval,NC,NJ,NG,NQ,reduceCtorEq,NB,place,NA,ND]
  rw [NU XP.eq_1]
  have v:Own (H.length+3) G1 RA 8 q cap (L.take i):=u.mut f fun a e=>by have:=(u.block e).1;omega
  have g:(L.take i).length=i:=by rw [Om];omega
  obtain ⟨r,e3,t,P,b,N,aa⟩:=v.step (lim':=lim) (bytes:=64) (by omega) OI (by decide) (gt L i) (by rw [g];unfold QG;omega) (by rw [g];omega) (by rw [f.len];omega) [Vc (RA (gt L i)),Vc (RA (gt L i))] (G1.length+1) 1 OC
  rw [g] at e3
  rw [f.len] at e3 t N
  simp only [Nl,Ns] at e3 N
  have b2:=fun X=>(OH.refl.app (X:=X)).cells (f.cells h2 (by omega))
  have T:∀X:NE,NI (G1++X) G.length=X.getD 0 .dead:=(Nhw f.len).2.2.1
  have c6:∀(X:NE) (j:Nat),NI (G1++X) (G.length+j)=X.getD j .dead:=(Nhw f.len).2.1
  have y:∀j,j<H.length+3->∀a,q=some a->j≠a.block:=fun j hj a e hh=>by have:=(u.block e).1;omega
  have z:NI (r++[]) H.length=Vc [.slice q i cap]:=(b _ (by rw [f.len];omega) (y _ (by omega))).trans (f.cells h2 (by omega))
  have O:NI (r++[]) (H.length+2)=_:=(b _ (by rw [f.len];omega) (y _ (by omega))).trans h1
  have F:NI (r++[]) (H.length+1)=_:=(b _ (by rw [f.len];omega) (y _ (by omega))).trans (f.alive hd (by omega))
  rw [Nb] at z O F t
  obtain ⟨Q,U,l,k⟩:=OP (NM z) (Vc [.slice (Sa (G.length+2)) (i+1) (loose 8)])
  have B:=k.alive O (by omega)
  have y4:=fun X=>(OH.refl.app (X:=X)).get' B (by rw [k.len];omega)
  obtain ⟨S,V,h,n⟩:=OP (G:=Q) (R:=H.length+2) (by rw [k.len];omega) (.loop ⟨0,none,fr0,13,[7],XQ,XP⟩)
  have A:=fun X=>(OH.refl.app (X:=X)).cells z
  simp only [f2,OI,QQ,QP,QO,QN,QM,QL,QK,QJ,NH,NF,m,b2,T,c6,f.len,e3,U,V,y4,A,show lim<=H.length by omega,show lim<=H.length+2 by omega,SB,seval,NC,NJ,NG,NQ,reduceCtorEq,NB,place,NA,ND]
  have D:=P [] H (by omega) (d.mut f (.inr (by omega)))
  rw [Nb] at D
  have l5:S.length=r.length:=by rw [n.len,k.len]
  refine ⟨_,_,(OH.refl.app).cells (n.cells l (by omega)), ?_,(OH.refl.app).get' (n.alive (k.alive F (by omega)) (by omega)) (by omega),(OH.refl.app).get' h (by omega),((D.mut k (.inr (by omega))).mut n (.inr (by omega))).app,by omega,by omega⟩
  rw [Xd w]
  exact ((t.mut k fun a e=>by cases e;show G.length+2≠_;omega).mut n fun a e=>by cases e;show G.length+2≠_;omega).app _
 ·exact ⟨none,0,NV,.nil,by rw [OC];rfl,by rw [OC];rfl,Chg.refl.app,by simp,Nw _⟩
 ·rintro H' ⟨q,cap,h1,h2,s,l,h,I,_⟩
  rw [Oh] at h2
  rw [Nqp (show NI H' (H.length+1+1)=_ from l),N1q]
  show PV E Ng5 lim (K'++[.mark (H.length+1)]) fr0 _ _
  have d:Mut H' (H'.set (H.length+1+1) .dead) (H.length+1+1):=⟨by simp,fun j hj=>QV hj⟩
  refine NL ?_
  exact Y _ q cap (h.mut d (.inr (by omega))) (h2.mut d fun a e=>by have:=(h2.block e).1;omega) (d.cells h1 (by omega)) (d.alive s (by omega)) (by rw [d.len];omega)
theorem Nre [OB] {lim Bx c:Nat} {p:Option Addr} {o:Bool} {L:List Leg} {H:NE} {Q:Value->NE->Prop} (hB:NI H Bx=.cells o [.slice p L.length c]) (hs:Sl H RA 8 p L) (hn:L.length<2 ^ 30) (d:lim<=H.length)
  (l:∀H' q cap,Chg [] H H'->Own (H.length+3) H' RA 8 q cap L->Q (.slice q L.length cap) H') :
  NK E false lim 132 [Vz,.func (.func 103) #[] #[Vp Bx]] H Q:=by
 refine RG (by decide) Oef rfl ?_
 rw [Ofk,N9d]
 have b:(H++[Vc [Value.slice none 0 0]]).length=H.length+1:=by simp
 simp only [n132,Oak,SB,seval,NC,NJ,NG,NQ,reduceCtorEq,NB,place,NA,ND]
 rw [b]
 refine Nrf hB hs hn d rfl fun H' q cap k h h2 hd hl=>?_
 have f:=fun X=>(OH.refl.app (X:=X)).cells h2
 have g:=fun X=>(OH.refl.app (X:=X)).get' hd (by omega)
 show PV E Ng5 lim (.inBlock 0::.code _::.code .retM::.mark (H.length+1)::[]) _ _ _
 simp only [n132,Oak,f,g,show lim<=H.length+1 by omega,SB,seval,NC,NJ,NG,NQ,reduceCtorEq,NB,place,NA,ND]
 have i:Mut (H'++[]) ((H'++[]).set (H.length+1) .dead) (H.length+1):=⟨by simp,fun j hj=>QV hj⟩
 exact l _ _ _ (k.app.mut i (.inr (by omega))) ((h.app []).mut i fun a e=>by have:=(h.block e).1;omega)
theorem Nq2 [OB] {lim Bx c:Nat} {p:Option Addr} {o:Bool} {L:List Leg} {H:NE} {Q:Value->NE->Prop} (hB:NI H Bx=.cells o [.slice p L.length c]) (hs:Sl H RA 8 p L) (hn:L.length<2 ^ 30) (a:lim<=H.length)
  (e:∀H' q cap,Chg [] H H'->Own (H.length+3) H' RA 8 q cap L->Q (.slice q L.length cap) H') :
  NK E false lim 101 [.func (.func 103) #[] #[Vp Bx]] H Q:=by
 refine RG (by decide) Oew rfl ?_
 rw [Of1,N9o]
 simp only [n101,Oap,SB,seval,NC,NJ,NG,NQ,reduceCtorEq,NB,place,NA,ND]
 rw [Nb]
 refine Nre hB hs hn a fun H' q cap b d=>?_
 refine NL ?_
 simp only [n101,Oap,SB,seval,NC,NJ,NG,NQ,reduceCtorEq,NB,place,NA,ND]
 exact e _ _ _ b.app (d.app _)
end Go.Proofs.YtkppjkkkdpcgiaaGreat.Fn


namespace Go.Proofs.YtkppjkkkdpcgiaaGreat.Fn
open Go.AM Go.AM.Sym Go.Scan
theorem Nmr [OB] {mp:Bool} {lim:Nat} {n:Int} {H:NE} {Q:Value->NE->Prop}:NK E mp lim 104 [Vi n] H Q=Q (.bool false) H:=by
 refine pc (by decide) Oeu rfl rfl ?_
 rw [Ofz,N9m]
 simp only [n104,Odr,SB,seval,NC,NJ,NG,NQ,reduceCtorEq,NB,place,NA,ND]
theorem Nh2 [OB] {mp:Bool} {lim:Nat} {n:Int} {H:NE} {Q:Value->NE->Prop}:NK E mp lim 156 [.int .u8 n] H Q=Q (.bool false) H:=by
 refine pc (by decide) Od6 rfl rfl ?_
 rw [Ofa,c156]
 simp only [n156,Odm,SB,seval,NC,NJ,NG,NQ,reduceCtorEq,NB,place,NA,ND]
def Nnj (a b:Int):Int:=if a<b then -1 else if b<a then 1 else 0
theorem Nq3 [OB] {mp:Bool} {lim:Nat} {a b:Int} {H:NE} {Q:Value->NE->Prop}:NK E mp lim 67 [Vi a,Vi b] H Q=Q (Vi (Nnj a b)) H:=by
 refine pc (by decide) e67 rfl rfl ?_
 rw [b67,c67]
 simp only [n67,r67,Nmr,SB,seval,NC,NJ,NG,NQ,reduceCtorEq,NB,place,NA,ND]
 repeat' ((first | refine WY (fun c=>?_) (fun c=>?_) | refine Xu (fun c=>?_) (fun c=>?_) | refine WZ (fun c=>?_) (fun c=>?_) | refine Xv (fun c=>?_) (fun c=>?_))<;>(try simp only [c,n67,r67,Nmr,SB,Nat.reduceLT,NC,NJ,Nat.reduceEqDiff,NG,NQ,reduceCtorEq,NB,place,NA,Nat.reduceAdd,Nat.reduceLeDiff,ND,Int.reduceEq,Int.reduceLT,Int.reduceLE]))
 all_goals simp [Nnj, *]
theorem Nsv [OB] {mp:Bool} {lim:Nat} {a b:Int} {H:NE} {Q:Value->NE->Prop}:NK E mp lim 131 [.int .u8 a,.int .u8 b] H Q=Q (Vi (Nnj a b)) H:=by
 refine pc (by decide) Oeg rfl rfl ?_
 rw [Ofl,c131]
 simp only [n131,Oal,Nh2,SB,seval,NC,NJ,NG,NQ,reduceCtorEq,NB,place,NA,ND]
 repeat' ((first | refine WY (fun c=>?_) (fun c=>?_) | refine Xu (fun c=>?_) (fun c=>?_) | refine WZ (fun c=>?_) (fun c=>?_) | refine Xv (fun c=>?_) (fun c=>?_))<;>(try simp only [c,n131,Oal,Nh2,SB,Nat.reduceLT,NC,NJ,Nat.reduceEqDiff,NG,NQ,reduceCtorEq,NB,place,NA,Nat.reduceAdd,Nat.reduceLeDiff,ND,Int.reduceEq,Int.reduceLT,Int.reduceLE]))
 all_goals simp [Nnj, *]
def orL:List Int->Int
 | []=>0
 | x::l=>if x≠0 then x else orL l
theorem Nyw {l:List Int} {i:Nat} (h:i<l.length):orL (l.drop i)=if gt l i≠0 then gt l i else orL (l.drop (i+1)):=by
 rw [Ox h,orL,PS h]
theorem Oaz [OB] (mp:Bool) (lim:Nat) {p:Option Addr} {l:List Int} {cap:Nat} {H:NE} {Q:Value->NE->Prop} (hs:Sl H encI 1 p l) (hn:l.length<2 ^ 62) :
  NK E mp lim 125 [.slice p l.length cap] H Q=Q (Vi (orL l)) H:=by
 refine pc (by decide) Oej rfl rfl ?_
 rw [Ofo,N9f]
 simp only [n125,N3s,SB,seval,NC,NJ,NG,NQ,reduceCtorEq,NB,place,NA,ND]
 refine NS (fun i=>l.length-i) (fun i fr G=>i<=l.length/\fr 6=.slice p l.length cap/\fr 7=Vi l.length/\fr 8=Vi i/\fr 3=Vi 0/\Sl G encI 1 p l/\
  orL l=orL (l.drop i)) 0 ⟨Nw _,rfl,rfl,by rfl,rfl,hs.app _,rfl⟩ ?_
 intro i fr G ⟨hi,j,m,n,h,o,e⟩ q
 rw [NU N0x.eq_1]
 refine NL ?_
 by_cases a:i<l.length
 ·have f:=(o.app []).loadCell0 (fun _=>rfl) a (by decide)
  have d:=fun c (k:IntKind) (H1:NE)=>o.idx (c:=c) (k:=k) (H1:=H1) a
  have g:IntKind.i64.wrap ((i:Int)+1)=((i+1:Nat):Int):=OE (by omega)
  rw [Nyw a] at e
  simp only [n125,N3s,j,m,n,h,a,d,f,encI,g,SB,seval,NC,NJ,NG,NQ,reduceCtorEq,NB,place,NA,ND]
  repeat' ((first | refine WY (fun b=>?_) (fun b=>?_) | refine Xu (fun b=>?_) (fun b=>?_) | refine WZ (fun b=>?_) (fun b=>?_) | refine Xv (fun b=>?_) (fun b=>?_))<;>(try simp only [b,n125,N3s,j,m,n,h,a,d,f,encI,g,SB,Nat.reduceLT,NC,NJ,Nat.reduceEqDiff,NG,NQ,reduceCtorEq,NB,place,NA,Nat.reduceAdd,Nat.reduceLeDiff,ND,Int.reduceEq,Int.reduceLT,Int.reduceLE]))
  ·rw [e,Ni b]
  ·refine q (i+1) _ _ ⟨by omega,j,m,rfl,h,o.app _, ?_⟩ (by omega)
   rw [e,Ng b]
 ·obtain rfl:i=l.length:=by omega
  rw [Qn,orL] at e
  simp only [n125,N3s,j,m,n,h,a,e,SB,seval,NC,NJ,NG,NQ,reduceCtorEq,NB,place,NA,ND]
def Ml:List Value->List Int
 | .int _ a::r=>a::Ml r
 | _=>[]
def Nbi:List Value->Bool
 | .int .i64 _::r=>Nbi r
 | []=>true
 | _=>false
theorem YG {j:IntKind} {a:Int} {r:List Value}:Ml (.int j a::r)=a::Ml r:=rfl
theorem Nfa:Ml []=[]:=rfl
theorem Ncd {a:Int} {r:List Value}:Nbi (Vi a::r)=Nbi r:=id rfl
theorem Ne0:Nbi []=true:=id rfl
theorem Nh4:∀c:List Value,Nbi c=true->c=(Ml c).flatMap encI
 | [],_=>rfl
 | .int .i64 a::r,h=>by
   rw [YG,Oy,<-Nh4 r h];rfl
theorem Nyv [OB] {mp:Bool} {lim b n cap:Nat} {H:NE} {Q:Value->NE->Prop} (h1:isCells (NI H b)=true) (h2:Nbi (cellsOf (NI H b))=true) (a:(Ml (cellsOf (NI H b))).length=n) (c:n<2 ^ 62) :
  NK E mp lim 125 [.slice (Sa b) n cap] H Q=Q (Vi (orL (Ml (cellsOf (NI H b))))) H:=by
 subst a
 rw [Oaz mp lim (Sl.lit (fun _=>rfl) h1 (Nh4 _ h2)) c]
theorem Nhv {a b:Int} {x y:List Int}:Tn (a::x) (b::y)=if Nnj a b≠0 then Nnj a b else Tn x y:=by
 rw [Tn]
 unfold Nnj
 by_cases h1:a<b
 ·simp [h1]
 ·by_cases h2:b<a
  ·simp [h1,h2]
  ·simp [h1,h2]
theorem Nmk:Tn [] []=0:=rfl
theorem N18 [OB] {mp:Bool} {lim:Nat} {a b:Mk} {H:NE} {Q:Value->NE->Prop}:NK E mp lim 124 [.agg (Ru a).toArray,.agg (Ru b).toArray] H Q=Q (Vi (Tn (Tm a) (Tm b))) H:=by
 refine pc (by decide) Oek rfl rfl ?_
 rw [Ofp,c124]
 simp only [n124,Odo,Ru,Nq3,Nsv,Nyv,ZG,ZL,YG,Nfa,Ncd,Ne0,Nat.reducePow,SB,seval,NC,NJ,NG,NQ,reduceCtorEq,NB,place,NA,ND]
 simp only [Tm,Nhv,Nmk,orL]
theorem N19 [OB] {mp:Bool} {lim:Nat} {a b:Ev} {H:NE} {Q:Value->NE->Prop}:NK E mp lim 96 [.agg (encE a).toArray,.agg (encE b).toArray] H Q=Q (Vi (Tn (Uz a) (Uz b))) H:=by
 refine pc (by decide) e96 rfl rfl ?_
 rw [b96,c96]
 simp only [n96,r96,encE,Nq3,Nsv,Nyv,ZG,ZL,YG,Nfa,Ncd,Ne0,Nat.reducePow,SB,seval,NC,NJ,NG,NQ,reduceCtorEq,NB,place,NA,ND]
 simp only [Uz,Nhv,Nmk,orL]
theorem ML [OB] {mp:Bool} {lim:Nat} {a b:Mk} {H:NE} {Q:Value->NE->Prop}:NK E mp lim 127 [.agg (Ru a).toArray,.agg (Ru b).toArray] H Q=Q (.bool (decide (Sg a b))) H:=by
 refine pc (by decide) Oei rfl rfl ?_
 rw [Ofn,c127]
 unfold Sg
 by_cases h1:a.scanner=b.scanner
 ·simp only [n127,Oam,Ru,N5 h1,decide_true,Rj,SB,seval,NC,NJ,NG,NQ,reduceCtorEq,NB,place,NA,ND]
 ·simp only [n127,Oam,Ru,No h1,decide_false,false_and,SB,seval,NC,NJ,NG,NQ,reduceCtorEq,NB,place,NA,ND]
theorem N8t {a b:Int} (h:0<b):a / b=if Int.tmod a b<0 then Int.tdiv a b-1 else Int.tdiv a b:=by
 have h1:=Int.mul_tdiv_add_tmod a b
 by_cases c:0<=a
 ·rw [Ng (by have:=Int.tmod_nonneg b c;omega),Ps c]
 ·have e:Int.tmod a b<=0:=by
   have:=Int.tmod_nonneg b (a:=-a) (by omega)
   rw [Int.neg_tmod] at this;omega
  have d:-b<Int.tmod a b:=by
   have:=Int.tmod_lt_of_pos (-a) h
   rw [Int.neg_tmod] at this;omega
  by_cases h0:Int.tmod a b<0
  ·rw [Ni h0]
   exact ((Int.ediv_emod_unique (a:=a) (r:=Int.tmod a b+b) (q:=Int.tdiv a b-1) h).mpr ⟨by rw [Int.mul_sub,Int.mul_one];omega,by omega,by omega⟩).1
  ·rw [Ng h0]
   exact ((Int.ediv_emod_unique (a:=a) (r:=Int.tmod a b) (q:=Int.tdiv a b) h).mpr ⟨by omega,by omega,by omega⟩).1
theorem N8s [OB] {mp:Bool} {lim:Nat} {a b:Int} {H:NE} {Q:Value->NE->Prop} (h:0<b) (h1:-2 ^ 62<=a) (h2:a<=2 ^ 62):NK E mp lim 145 [Vi a,Vi b] H Q=Q (Vi (a / b)) H:=by
 refine pc (by decide) Od7 rfl rfl ?_
 rw [Ofb,c145]
 have j:-2 ^ 62<=Int.tdiv a b/\Int.tdiv a b<=2 ^ 62:=by
  have:=Int.natAbs_tdiv_le_natAbs a b
  omega
 have d:¬b=0:=by omega
 have e:=N8t (a:=a) h
 have f:IntKind.i64.wrap (Int.tdiv a b)=Int.tdiv a b:=NP (by omega) (by omega)
 have g:IntKind.i64.wrap (Int.tdiv a b-1)=Int.tdiv a b-1:=NP (by omega) (by omega)
 have i:IntKind.i64.wrap (Int.tmod a b)=Int.tmod a b:=by
  have k:=Int.tmod_lt_of_pos a h
  have l:=Int.natAbs_tmod a b
  have m:a.natAbs % b.natAbs<=a.natAbs:=Nat.mod_le _ _
  exact NP (by omega) (by omega)
 by_cases c:Int.tmod a b<0
 ·rw [Ni c] at e
  simp only [n145,Oah,No d,f,g,i,N5 c,e,SB,seval,NC,NJ,NG,NQ,reduceCtorEq,NB,place,NA,ND]
 ·rw [Ng c] at e
  simp only [n145,Oah,No d,f,g,i,No c,e,SB,seval,NC,NJ,NG,NQ,reduceCtorEq,NB,place,NA,ND]
theorem N37 [OB] {mp:Bool} {lim B1 B2 c i:Nat} {o1 o2:Bool} {p:Option Addr} {M:List Mk} {sc:Int} {H:NE} {Q:Value->NE->Prop} (h1:NI H B1=.cells o1 [.slice p M.length c]) (h2:NI H B2=.cells o2 [Vi sc]) (hs:Sl H Ru 3 p M) (hi:i<M.length) :
  NK E mp lim 171 [Vi i,Vp B1,Vp B2] H Q=Q (.bool (decide (sc<=(gt M i).scanner))) H:=by
 refine pc (by decide) Od1 rfl rfl ?_
 rw [Oe5,c171]
 have q1:=fun X=>(OH.refl.app (X:=X)).cells h1
 have q2:=fun X=>(OH.refl.app (X:=X)).cells h2
 have b:=fun X=>(hs.app X).loadCell (fun _=>rfl) hi (show 0<3 by decide)
 have a:=fun c (k:IntKind) (H1:NE)=>hs.idx (c:=c) (k:=k) (H1:=H1) hi
 simp only [n171,Odl,q1,q2,b,a,XU,ge_iff_le,SB,Nat.reduceLT,NC,NJ,Nat.reduceEqDiff,NG,NQ,reduceCtorEq,NB,place,NA,Nat.reduceAdd,Nat.reduceLeDiff,ND,Int.reduceEq,Int.reduceLT,Int.reduceLE]
theorem N97 {x:Int}:IntKind.u64.wrap x=x % 2 ^ 64:=by
 simp only [IntKind.wrap,IntKind.bits,IntKind.signed]
 simp
theorem Ntl [OB] {mp:Bool} {lim B1 B2 c f:Nat} {o1 o2:Bool} {p:Option Addr} {M:List Mk} {sc:Int} {H:NE} {Q:Value->NE->Prop} (h1:NI H B1=.cells o1 [.slice p M.length c]) (h2:NI H B2=.cells o2 [Vi sc]) (hs:Sl H Ru 3 p M) (hn:M.length<2 ^ 40)
  (t:f<=M.length) (l:∀i,i<f->(gt M i).scanner<sc) (k:∀i,f<=i->i<M.length->sc<=(gt M i).scanner) :
  NK E mp lim 170 [Vi M.length,.func (.func 171) #[] #[Vp B1,Vp B2]] H Q=Q (Vi f) H:=by
 refine pc (by decide) Od2 rfl rfl ?_
 rw [Oe6,N85]
 simp only [n170,N3p,SB,Nat.reduceLT,NC,NJ,Nat.reduceEqDiff,NG,NQ,reduceCtorEq,NB,place,NA,Nat.reduceAdd,Nat.reduceLeDiff,ND,Int.reduceEq,Int.reduceLT,Int.reduceLE]
 refine NS (fun s:Nat×Nat=>s.2-s.1) (fun s fr G=>s.1<=f/\f<=s.2/\s.2<=M.length/\fr 1=.func (.func 171) #[] #[Vp B1,Vp B2]/\fr 5=Vi s.1/\fr 6=Vi s.2/\OH H G) (0,M.length)
  ⟨Nw _,t,Nd _,rfl,by rfl,rfl,OH.refl.app⟩ ?_
 rintro ⟨i,j⟩ fr G ⟨k1,k2,k3,b,d,e,g⟩ m
 simp only at k1 k2 k3 d e
 rw [NU N0p.eq_1]
 refine NL ?_
 have q1:=fun X=>(g.app (X:=X)).cells h1
 have q2:=fun X=>(g.app (X:=X)).cells h2
 have q3:=fun X=>(g.app (X:=X)).sl hs
 have n:IntKind.i64.wrap ((i:Int)+(j:Int))=(i:Int)+(j:Int):=NP (by omega) (by omega)
 have q:IntKind.u64.wrap ((i:Int)+(j:Int))=(i:Int)+(j:Int):=by rw [N97];omega
 have o:IntKind.i64.wrap (((i:Int)+(j:Int)).fdiv (2 ^ min (Int.toNat 1) IntKind.u64.bits))=(((i+j) / 2:Nat):Int):=by
  rw [show (2:Int) ^ min (Int.toNat 1) IntKind.u64.bits=2 from by decide,Q1 _ (by decide)]
  exact (NP (by omega) (by omega)).trans (by omega)
 have wd:IntKind.i64.wrap ((((i+j) / 2:Nat):Int)+1)=(((i+j) / 2+1:Nat):Int):=OE (by omega)
 by_cases a:i<j
 ·have ho:=fun (H':NE) (h1:_) (h2:_) (r:_) (lim:Nat) (Q:Value->NE->Prop)=>N37 (mp:=false) (lim:=lim) (H:=H') (o1:=o1) (o2:=o2) (B1:=B1) (B2:=B2) (c:=c) (p:=p) (sc:=sc) (Q:=Q) (M:=M) (i:=(i+j) / 2) h1 h2 r (by omega)
  have h:=fun (X:NE)=>ho (G++X) (q1 X) (q2 X) (q3 X)
  by_cases u:(i+j) / 2<f
  ·have hl:=l _ u
   have hd:decide (sc<=(gt M ((i+j) / 2)).scanner)=false:=N1 (by omega)
   simp only [n170,N3p,b,d,e,a,n,q,o,wd,h,hd,SB,Nat.reduceLT,NC,NJ,Nat.reduceEqDiff,NG,NQ,reduceCtorEq,NB,place,NA,Nat.reduceAdd,Nat.reduceLeDiff,ND,Int.reduceEq,Int.reduceLT,Int.reduceLE]
   refine m ((i+j) / 2+1,j) _ _ ⟨by omega,k2,k3,b,rfl,e,g.app⟩ (by simp only;omega)
  ·have hl:=k ((i+j) / 2) (by omega) (by omega)
   have hd:decide (sc<=(gt M ((i+j) / 2)).scanner)=true:=Np hl
   simp only [n170,N3p,b,d,e,a,n,q,o,wd,h,hd,SB,Nat.reduceLT,NC,NJ,Nat.reduceEqDiff,NG,NQ,reduceCtorEq,NB,place,NA,Nat.reduceAdd,Nat.reduceLeDiff,ND,Int.reduceEq,Int.reduceLT,Int.reduceLE]
   refine m (i,(i+j) / 2) _ _ ⟨k1,by simp only;omega,by simp only;omega,b,d,rfl,g.app⟩ (by simp only;omega)
 ·obtain rfl:i=f:=by omega
  simp only [n170,N3p,b,d,e,a,SB,Nat.reduceLT,NC,NJ,Nat.reduceEqDiff,NG,NQ,reduceCtorEq,NB,place,NA,Nat.reduceAdd,Nat.reduceLeDiff,ND,Int.reduceEq,Int.reduceLT,Int.reduceLE]
def Ngu (sc:Int) (D:List Mk) (i:Nat):List Mk:=(D.drop i).takeWhile fun m=>m.scanner == sc
theorem Nyg {sc:Int} {D:List Mk} {i:Nat} (h:i<D.length) (hs:(gt D i).scanner=sc):Ngu sc D i=gt D i::Ngu sc D (i+1):=by
 unfold Ngu
 rw [Ox h,<-PS h,List.takeWhile_cons_of_pos (by simpa using hs)]
theorem N3k {sc:Int} {D:List Mk} {i:Nat} (h:i<D.length) (hs:¬(gt D i).scanner=sc):Ngu sc D i=[]:=by
 unfold Ngu
 rw [Ox h,<-PS h,List.takeWhile_cons_of_neg (by simpa using hs)]
theorem Nyh {sc:Int} {D:List Mk}:Ngu sc D D.length=[]:=by
 unfold Ngu;rw [Qn];rfl
def Wh (sc:Int) (M:List Mk):Nat:=(M.takeWhile fun m=>decide (m.scanner<sc)).length
def N5w (M:List Mk):Prop:=M.Pairwise fun a b=>a.scanner<=b.scanner
theorem N3j {M:List Mk} (h:M.Pairwise M9):N5w M:=h.imp fun {a b} q=>by unfold M9 at q;omega
theorem Nag {sc:Int}:∀{M:List Mk},N5w M->Wh sc M<=M.length/\(∀i,i<Wh sc M->(gt M i).scanner<sc)/\(∀i,Wh sc M<=i->i<M.length->sc<=(gt M i).scanner)/\Ngu sc (M.drop (Wh sc M)) 0=ofN M sc
 | [],_=>⟨Nd _,fun i h=>absurd h (by simp [Wh]),fun i _ h=>absurd h (by simp),rfl⟩
 | m::M,h=>by
   obtain ⟨h1,h2⟩:=List.pairwise_cons.mp h
   obtain ⟨k,f,g,j⟩:=Nag (sc:=sc) h2
   by_cases c:m.scanner<sc
   ·have e:Wh sc (m::M)=Wh sc M+1:=by
     unfold Wh
     rw [List.takeWhile_cons_of_pos (by simpa using c),Nl]
    rw [e]
    refine ⟨by simp only [Nl];omega,fun i hi=>?_,fun i hi hl=>?_, ?_⟩
    ·cases i with
     | zero=>rw [Nad];exact c
     | succ i=>rw [UF];exact f i (by omega)
    ·cases i with
     | zero=>omega
     | succ i=>rw [UF];exact g i (by omega) (by simpa using hl)
    ·rw [List.drop_succ_cons,j]
     unfold ofN
     rw [Qw (by simp;omega)]
   ·have e:Wh sc (m::M)=0:=by
     unfold Wh
     rw [List.takeWhile_cons_of_neg (by simpa using c)];rfl
    rw [e]
    refine ⟨Nw _,fun i hi=>absurd hi (Nat.not_lt_zero i),fun i _ hl=>?_, ?_⟩
    ·cases i with
     | zero=>rw [Nad];omega
     | succ i=>
       rw [UF]
       have b:i<M.length:=by simpa using hl
       have:=h1 _ (QH b);omega
    ·rw [O0]
     unfold Ngu ofN
     rw [O0]
     clear k f g j e
     have key:∀L:List Mk,N5w L->(∀x∈L,sc<=x.scanner)->(L.takeWhile fun m=>m.scanner == sc)=L.filter fun m=>m.scanner == sc:=by
      intro L
      induction L with
      | nil=>intros;rfl
      | cons x L ih=>
        intro hL a
        obtain ⟨k1,k2⟩:=List.pairwise_cons.mp hL
        by_cases hx:x.scanner=sc
        ·rw [List.takeWhile_cons_of_pos (by simpa using hx),Rb (by simpa using hx),ih k2 fun y d=>a y (Nk _ d)]
        ·rw [List.takeWhile_cons_of_neg (by simpa using hx),Qw (by simpa using hx)]
         symm
         rw [List.filter_eq_nil_iff]
         intro y d
         have l:=k1 y d
         have n:=a x Nm
         simp;omega
     exact key _ h fun x hx=>by
      rcases Nr.mp hx with rfl | hx
      ·omega
      ·have:=h1 x hx;omega
theorem Oa2 [OB] {lim c n:Nat} {p:Option Addr} {sc:Int} {H:NE} {Q:Value->NE->Prop} :
  NK E false lim 144 [.slice p n c,Vi sc] H Q=Q (.func (.func 169) #[] #[Vp H.length,Vp (H.length+1)]) (H++[Vc [.slice p n c],Vc [Vi sc]]):=by
 refine NK.eq ?_
 refine RG (by decide) Od8 rfl ?_
 rw [Ofc,N88]
 simp only [n144,Odn,SB,seval,NC,NJ,NG,NQ,reduceCtorEq,NB,place,NA,ND]
def Nin (K:Nat->Prop) (H H':NE):Prop:=H.length<=H'.length/\∀j,K j->NI H' j=NI H j
theorem Nin.sl {α:Type} {K:Nat->Prop} {H H':NE} {enc:α->List Value} {e:Nat} {p:Option Addr} {l:List α} (h:Nin K H H') (hs:Sl H enc e p l) (hp:∀a,p=some a->K a.block):Sl H' enc e p l:=by
 cases p with
 | none=>exact hs
 | some a=>
   refine ⟨hs.1,fun hl=>?_⟩
   obtain ⟨ro,c,h1,h2⟩:=hs.2 hl
   exact ⟨ro,c,(h.2 _ (hp a rfl)).trans h1,h2⟩
theorem N36 [OB] {lim Y B1 B2 c:Nat} {p:Option Addr} {M:List Mk} {sc:Int} {H:NE} {Q:Value->NE->Prop} (I:List Mk->NE->Prop) (K:Nat->Prop)
  (z:∀rest H H',I rest H->Chg [] H H'->I rest H')
  (r:∀m rest G,m∈M->m.scanner=sc->H.length<=G.length->I (m::rest) G->WJ E false lim Y [.agg (Ru m).toArray] G fun v H'=>Nin K G H'/\(v=.bool true/\I rest H'\/v=.bool false/\∀X,Q (.tuple #[]) (H'++X)))
  (h1:NI H B1=Vc [.slice p M.length c]) (h2:NI H B2=Vc [Vi sc]) (hs:Sl H Ru 3 p M) (hc:Uj 3 c M.length) (hn:M.length<2 ^ 40) (U:N5w M) (hl:lim<=H.length)
  (F:K B2) (J:M≠[]->∀a,p=some a->K a.block) (h0:I (ofN M sc) H) (P:∀H',I [] H'->Q (.tuple #[]) H') :
  NK E false lim 169 [.func (.yield Y) #[] #[],Vp B1,Vp B2] H Q:=by
 refine RG (by decide) Od3 rfl ?_
 rw [Oe7,N86]
 obtain ⟨f1,f2,f3,f4⟩:=Nag (sc:=sc) U
 have q1:=fun X=>(OH.refl.app (X:=X)).cells h1
 have q2:=fun X=>(OH.refl.app (X:=X)).cells h2
 have q3:=fun X=>(OH.refl.app (H:=H) (X:=X)).sl hs
 have N:=fun (X:NE) (lim:Nat) (Q:Value->NE->Prop)=>Ntl (mp:=false) (lim:=lim) (Q:=Q) (sc:=sc) (q1 X) (q2 X) (q3 X) hn f1 f2 f3
 generalize aa:Wh sc M=f at *
 obtain ⟨q,cq,e1,S,m0,m1,_⟩:=UR (vlo:=some (Vi f)) (vhi:=none) (lo:=f) (hi:=M.length) hs hc QS (fun cap R=>by rw [Nq6 (by omega) (by omega),Oa]) f1 (Nd _) (by omega)
 rw [Oh] at S
 have O:(M.drop f).length=M.length-f:=Pk
 simp only [n169,Ntr,q1,q2,N,e1,SB,seval,NC,NJ,NG,NQ,reduceCtorEq,NB,place,NA,ND]
 refine NS (fun i=>M.length-f-i) (fun i fr G=>i<=M.length-f/\fr 0=.func (.yield Y) #[] #[]/\fr 2=Vp B2/\fr 13=.slice q (M.length-f) cq/\fr 14=Vi ((M.length-f:Nat):Int)/\fr 15=Vi i/\
  NI G B2=Vc [Vi sc]/\Sl G Ru 3 q (M.drop f)/\H.length<=G.length/\I (Ngu sc (M.drop f) i) G) 0
  ⟨Nw _,rfl,rfl,rfl,rfl,by rfl,q2 _,S.app _,by simp,by rw [f4];exact z _ _ _ h0 (Chg.refl.app)⟩ ?_
 rintro i fr G ⟨hi,w,x,d,g,j,T,D,gL,y⟩ V
 rw [NU N0q.eq_1]
 refine NL ?_
 by_cases n:i<M.length-f
 ·have l:i<(M.drop f).length:=by omega
  have u:=fun X=>(OH.refl.app (X:=X)).cells T
  have B:=fun X=>(D.app X).loadCells QS l
  have t:∀(c:Nat) (k:IntKind) (H1:NE),Z6 3 (.slice q (M.length-f) c) (.int k (i:Int)) H1=some (.pointer (some (Zv q 3 i)),H1):=fun c k H1=>by
   rw [<-O];exact D.idx l
  have s:IntKind.i64.wrap ((i:Int)+1)=((i+1:Nat):Int):=OE (by omega)
  have A:lim<=G.length:=by omega
  have C:gt (M.drop f) i∈M:=List.mem_of_mem_drop (QH l)
  by_cases o:(gt (M.drop f) i).scanner=sc
  ·rw [Nyg l o] at y
   simp only [n169,Ntr,w,x,d,g,j,u,NN,n,B,t,s,A,NF,QS,XU,YN,YM,NH,N5 o,Ru,not_true,decide_false,decide_true,SB,seval,NC,NJ,NG,NQ,reduceCtorEq,NB,place,NA,ND]
   refine (r _ _ _ C o (by simp;omega) (z _ _ _ y Chg.refl.app)).mono fun v H' hv=>?_
   obtain ⟨hk,⟨rfl,L⟩ | ⟨rfl,hq⟩⟩:=hv
   ·refine NL ?_
    simp only [n169,Ntr,w,x,d,g,j,s,SB,seval,NC,NJ,NG,NQ,reduceCtorEq,NB,place,NA,ND]
    refine V (i+1) _ _ ⟨by omega,w,x,d,g,rfl, ?_, ?_, ?_, ?_⟩ (by omega)
    ·exact (OH.refl.app).cells ((hk.2 _ F).trans (u _))
    ·exact (hk.sl (D.app _) fun a W=>by
      obtain ⟨b,Z,e⟩:=m1 a W
      rw [e];exact J (fun h=>by rw [h] at n;simp at n) b Z).app _
    ·have:=hk.1
     simp at this⊢;omega
    ·exact z _ _ _ L Chg.refl.app
   ·refine NL ?_
    simp only [n169,Ntr,w,x,d,g,j,s,SB,seval,NC,NJ,NG,NQ,reduceCtorEq,NB,place,NA,ND]
    exact hq _
  ·rw [N3k l o] at y
   simp only [n169,Ntr,w,x,d,g,j,u,NN,n,B,t,s,A,NF,QS,XU,YN,YM,NH,No o,Ru,not_false_eq_true,decide_false,decide_true,SB,seval,NC,NJ,NG,NQ,reduceCtorEq,NB,place,NA,ND]
   exact P _ (z _ _ _ y Chg.refl.app)
 ·obtain rfl:i=M.length-f:=by omega
  rw [<-O,Nyh] at y
  simp only [n169,Ntr,w,x,d,g,j,NN,n,SB,seval,NC,NJ,NG,NQ,reduceCtorEq,NB,place,NA,ND]
  exact P _ (z _ _ _ y Chg.refl.app)
end Go.Proofs.YtkppjkkkdpcgiaaGreat.Fn


