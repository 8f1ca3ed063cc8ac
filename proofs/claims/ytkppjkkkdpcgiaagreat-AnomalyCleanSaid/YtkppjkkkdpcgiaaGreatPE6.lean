/-
  Joined texts, 6 of 9. A part of the claim that the last text states.
-/
import Derived.Test.YtkppjkkkdpcgiaaGreatPE5
set_option linter.unusedVariables false
set_option linter.unusedSimpArgs false
set_option linter.defProp false
set_option linter.unusedSectionVars false
set_option maxRecDepth 100000
set_option maxHeartbeats 4000000
namespace Go.Proofs.YtkppjkkkdpcgiaaGreat.Fn
open Go.AM Go.AM.Sym Go.Net
def Tj (pp:Option Addr) (np cp:Nat) (pl:Option Addr) (nl cl:Nat):List Value:=[.slice pp np cp,.slice pl nl cl]
theorem PR {pp pl:Option Addr} {np cp nl cl:Nat}:(Tj pp np cp pl nl cl).length=2:=id rfl
theorem Sg {pp pl:Option Addr} {np cp nl cl:Nat}:(Tj pp np cp pl nl cl)[0]? = some (.slice pp np cp):=id rfl
theorem Sd {pp pl:Option Addr} {np cp nl cl:Nat}:(Tj pp np cp pl nl cl)[1]? = some (.slice pl nl cl):=id rfl
structure NetIn (H:NE) (pp pl:Option Addr) (P:List Int) (L:List Leg):Prop where
 sp:Sl H encI 1 pp P
 sl:Sl H Rz 8 pl L
 np:P.length<2 ^ 63
 nl:L.length<2 ^ 63
 bys:∀l∈L,By l
theorem NetIn.app {H:NE} {pp pl:Option Addr} {P:List Int} {L:List Leg} (h:NetIn H pp pl P L) (X:NE):NetIn (H++X) pp pl P L:=⟨h.sp.app X,h.sl.app X,h.np,h.nl,h.bys⟩
theorem NetIn.ext {H G:NE} {pp pl:Option Addr} {P:List Int} {L:List Leg} (h:NetIn H pp pl P L) (e:OM H G):NetIn G pp pl P L:=⟨e.sl h.sp,e.sl h.sl,h.np,h.nl,h.bys⟩
def Ui (ks:List Int):List (Value×Value):=ks.map fun k=>(Vi k,.bool true)
theorem Nin {ks:List Int} {a:Int} {i:Nat} (h:a∉ks):findKey (Vi a) (Ui ks) i=some none:=by
 unfold Ui
 exact XO (f:=fun k:Int=>k) (g:=fun _=>.bool true) fun x b e=>h (e▸b)
theorem Ncu {ks:List Int} {a:Int} {i:Nat} (h:a∈ks):∃j,findKey (Vi a) (Ui ks) i=some (some (j,.bool true)):=by
 unfold Ui
 exact YC (f:=fun k:Int=>k) (g:=fun _=>.bool true) ⟨a,h,rfl⟩ fun _ _ _=>rfl
theorem Nrf {ks:List Int} {a:Int}:Ui ks++[(Vi a,.bool true)]=Ui (ks++[a]):=by simp [Ui]
def pOk (P:List Int) (i:Nat):Prop:=1<=gt P i/\gt P i<=999999/\gt P i∉P.take i
instance (P:List Int) (i:Nat):Decidable (pOk P i):=by unfold pOk;infer_instance
def TW (P:List Int):Prop:=∀i,i<P.length->pOk P i
instance (P:List Int):Decidable (TW P):=by unfold TW;infer_instance
def lOk (P:List Int) (L:List Leg) (i:Nat):Prop:=Fine (gt L i)/\(gt L i).id∉(L.take i).map (·.id)/\(gt L i).frm∈P/\(gt L i).dst∈P
instance (P:List Int) (L:List Leg) (i:Nat):Decidable (lOk P L i):=by unfold lOk;infer_instance
def Wo (P:List Int) (L:List Leg):Prop:=∀i,i<L.length->lOk P L i
instance (P:List Int) (L:List Leg):Decidable (Wo P L):=by unfold Wo;infer_instance
def R3 (P:List Int) (L:List Leg):Int:=if 50<P.length\/200<L.length then 5 else if ¬TW P then 320 else if ¬Wo P L then 321 else 0
theorem Nng [OB] {H G:NE} {pp pl:Option Addr} {P:List Int} {L:List Leg} {cp cl R:Nat} {fr:Nat->Value} {K:List AItem} {v:Value} (hn:NetIn G pp pl P L) (aa:NF G R=Vc (Tj pp P.length cp pl L.length cl))
  (hm:NF G (R+1)=.map (Ui P)) (hR:H.length<=R) (f1:fr 1=Vp R) (f3:fr 3=.map (some (R+1))) (Z:fr 6=.map (some G.length)) (S:fr 49=.slice pl L.length cl) (T:fr 50=Vi L.length) (U:fr 51=Vi 0)
  (J:¬Wo P L->v=Vi 321)
  (V:∀fr' G',Wo P L->PV E a12 H.length K fr' (G'++[]) fun v' _=>v'=v) :
  PV E a12 H.length (.code (.loop Nzx)::.inBlock 2::K) fr (G++[.map []]) fun v' _=>v'=v:=by
 have Y:=PQ hm
 refine NR (fun i=>L.length-i) (fun i fr G'=>i<=L.length/\fr 3=.map (some (R+1))/\fr 6=.map (some G.length)/\fr 49=.slice pl L.length cl/\fr 50=Vi L.length/\fr 51=Vi i/\
  G.length<G'.length/\Sl G' Rz 8 pl L/\NF G' (R+1)=.map (Ui P)/\NF G' G.length=.map (Ui ((L.take i).map (·.id)))/\∀j,j<i->lOk P L j) 0
  ⟨Nz _,f3,Z,S,T,U,by simp,hn.sl.app _,by rw [NN Y];exact hm,NV,fun j D=>by omega⟩ ?_
 intro i fr G' ⟨hi,B,C,f,g,n,hL,I,z,M,A⟩ hN
 rw [NS Nzx.eq_1]
 refine NM ?_
 by_cases a:i<L.length
 ·have o:=Nat.le_of_lt hL
  have W:=hn.bys _ (R6 a)
  have s:∀X,NF (G'++X) (R+1)=.map (Ui P):=fun X=>by rw [NN (PQ z)];exact z
  have r:∀X,NF (G'++X) G.length=.map (Ui ((L.take i).map (·.id))):=fun X=>by rw [NN hL];exact M
  have q:=fun X=>(I.app X).loadCells OH a
  have d:=fun c (k:IntKind) (H1:NE)=>I.idx (c:=c) (k:=k) (H1:=H1) a
  have t:IntKind.i64.wrap ((i:Int)+1)=((i+1:Nat):Int):=OG (by have:=hn.nl;omega)
  have p:H.length<=G.length:=by omega
  have e:H.length<=G'.length:=by omega
  have l:=fun (H:NE) (mp:Bool) (lim:Nat) (Q:Value->NE->Prop)=>Ndv (mp:=mp) (lim:=lim) (H:=H) (Q:=Q) W
  have u:¬lOk P L i->v=Vi 321:=fun h=>J fun hh=>h (hh i a)
  by_cases O:Fine (gt L i)
  ·rw [Nq O] at l
   by_cases m:(gt L i).id∈(L.take i).map (·.id)
   ·obtain ⟨j,D⟩:=Ncu (i:=0) m
    simp only [n12,r12,B,C,f,g,n,a,o,d,q,t,r,s,D,l,OH,QH,QG,QF,QE,QD,QC,QB,QA,NI,e,SB,seval,NC,NJ,NG,NQ,reduceCtorEq,NB,place,NA,ND]
    exact (u fun h=>h.2.1 m).symm
   ·have D:=Nin (i:=0) m
    by_cases x:(gt L i).frm∈P
    ·obtain ⟨j1,y⟩:=Ncu (i:=0) x
     by_cases w:(gt L i).dst∈P
     ·obtain ⟨j2,F⟩:=Ncu (i:=0) w
      simp only [n12,r12,B,C,f,g,n,a,o,d,q,t,r,s,D,y,F,l,OH,QH,QG,QF,QE,QD,QC,QB,QA,NI,p,e,SB,seval,NC,NJ,NG,NQ,reduceCtorEq,NB,place,NA,ND]
      refine hN (i+1) _ _ ⟨by omega,B,C,f,g,rfl,by simp;omega, ?_, ?_, ?_,fun j D=>?_⟩ (by omega)
      ·refine I.sim fun b ro c N=>?_
       rw [QK (by rintro rfl;rw [M] at N;cases N),NN (NK N)];exact N
      ·rw [QK (by omega),NN (PQ z)];exact z
      ·rw [Vj (by simp;omega),Nrf,Xe a,O1];rfl
      ·rcases Oh j i with h | h
       ·exact A j h
       ·obtain rfl:j=i:=by omega
        exact ⟨O,m,x,w⟩
     ·have F:=Nin (i:=0) w
      simp only [n12,r12,B,C,f,g,n,a,o,d,q,t,r,s,D,y,F,l,OH,QH,QG,QF,QE,QD,QC,QB,QA,NI,p,e,SB,seval,NC,NJ,NG,NQ,reduceCtorEq,NB,place,NA,ND]
      exact (u fun h=>w h.2.2.2).symm
    ·have y:=Nin (i:=0) x
     simp only [n12,r12,B,C,f,g,n,a,o,d,q,t,r,s,D,y,l,OH,QH,QG,QF,QE,QD,QC,QB,QA,NI,p,e,SB,seval,NC,NJ,NG,NQ,reduceCtorEq,NB,place,NA,ND]
     exact (u fun h=>x h.2.2.1).symm
  ·rw [N8 O] at l
   simp only [n12,r12,B,C,f,g,n,a,o,d,q,t,r,s,l,OH,QH,QG,QF,QE,QD,QC,QB,QA,NI,e,SB,seval,NC,NJ,NG,NQ,reduceCtorEq,NB,place,NA,ND]
   exact (u fun h=>O h.1).symm
 ·obtain rfl:i=L.length:=by omega
  simp only [n12,r12,B,C,f,g,n,a,SB,seval,NC,NJ,NG,NQ,reduceCtorEq,NB,place,NA,ND]
  exact V _ _ A
theorem Nc7 [OB] {mp:Bool} {lim:Nat} {pp pl:Option Addr} {P:List Int} {L:List Leg} {cp cl:Nat} {H:NE} {Q:Value->NE->Prop} (hn:NetIn H pp pl P L) :
  NL E mp lim 12 [.agg (Tj pp P.length cp pl L.length cl).toArray] H Q=Q (Vi (R3 P L)) H:=by
 refine pc (by decide) e12 rfl rfl ?_
 rw [b12,c12]
 by_cases v:50<(P.length:Int)
 ·simp only [n12,r12,PR,Sg,Sd,v,SB,seval,NC,NJ,NG,NQ,reduceCtorEq,NB,place,NA,ND]
  rw [R3,Ni (by omega)]
 by_cases q:200<(L.length:Int)
 ·simp only [n12,r12,PR,Sg,Sd,v,q,SB,seval,NC,NJ,NG,NQ,reduceCtorEq,NB,place,NA,ND]
  rw [R3,Ni (by omega)]
 simp only [n12,r12,PR,Sg,Sd,v,q,SB,seval,NC,NJ,NG,NQ,reduceCtorEq,NB,place,NA,ND]
 have A:R3 P L=if ¬TW P then 320 else if ¬Wo P L then 321 else 0:=by rw [R3,Nh (by omega)]
 refine NR (fun i=>P.length-i) (fun i fr G=>i<=P.length/\fr 1=Vp H.length/\fr 3=.map (some (H.length+1))/\fr 24=.slice pp P.length cp/\fr 25=Vi P.length/\fr 26=Vi i/\
  H.length+1<G.length/\Sl G encI 1 pp P/\Sl G Rz 8 pl L/\NF G H.length=Vc (Tj pp P.length cp pl L.length cl)/\NF G (H.length+1)=.map (Ui (P.take i))/\∀j,j<i->pOk P j) 0
  ⟨Nz _,rfl,rfl,rfl,rfl,by rfl,by simp,hn.sp.app _,hn.sl.app _,NV,NW,fun j y=>by omega⟩ ?_
 intro i fr G ⟨hi,h1,u,f,g,l,hL,o,z,x,hm,r⟩ F
 rw [NS N54.eq_1]
 refine NM ?_
 have D:=fun X=>(OM.refl.app (X:=X)).cells x
 have n:∀X,NF (G++X) (H.length+1)=.map (Ui (P.take i)):=fun X=>by rw [NN hL];exact hm
 have C:H.length<=H.length+1:=by omega
 by_cases a:i<P.length
 ·have m:=fun X=>(o.app X).loadCell0 RJ a (by decide)
  simp only [encI,O5] at m
  have d:=fun c (k:IntKind) (H1:NE)=>o.idx (c:=c) (k:=k) (H1:=H1) a
  have p:IntKind.i64.wrap ((i:Int)+1)=((i+1:Nat):Int):=OG (by omega)
  have t:¬pOk P i->R3 P L=320:=fun h=>by rw [A,Ni fun J=>h (J i a)]
  by_cases B:gt P i<1
  ·simp only [n12,r12,h1,u,f,g,l,a,d,m,p,n,B,SB,seval,NC,NJ,NG,NQ,reduceCtorEq,NB,place,NA,ND]
   rw [t fun h=>by have:=h.1;omega]
  ·by_cases s:999999<gt P i
   ·simp only [n12,r12,h1,u,f,g,l,a,d,m,p,n,B,s,SB,seval,NC,NJ,NG,NQ,reduceCtorEq,NB,place,NA,ND]
    rw [t fun h=>by have:=h.2.1;omega]
   ·by_cases e:gt P i∈P.take i
    ·obtain ⟨j,y⟩:=Ncu (i:=0) e
     simp only [n12,r12,h1,u,f,g,l,a,d,m,p,n,B,s,y,SB,seval,NC,NJ,NG,NQ,reduceCtorEq,NB,place,NA,ND]
     rw [t fun h=>h.2.2 e]
    ·have y:=Nin (i:=0) e
     simp only [n12,r12,h1,u,f,g,l,a,d,m,p,n,B,s,y,C,SB,seval,NC,NJ,NG,NQ,reduceCtorEq,NB,place,NA,ND]
     have w:∀b ro c,NF G b=.cells ro c->NF ((G++[]).set (H.length+1) (.map (Ui (P.take i)++[(Value.int .i64 (gt P i),Value.bool true)]))) b=.cells ro c:=fun b ro c s=>by
      rw [QK (by rintro rfl;rw [hm] at s;cases s),NN (NK s)];exact s
     refine F (i+1) _ _ ⟨by omega,h1,u,f,g,rfl,by simp;omega,o.sim w,z.sim w,w _ _ _ x, ?_,fun j y=>?_⟩ (by omega)
     ·rw [Vj (by simp;omega),Nrf,Xe a]
     ·rcases Oh j i with h | h
      ·exact r j h
      ·obtain rfl:j=i:=by omega
       exact ⟨by omega,by omega,e⟩
 ·obtain rfl:i=P.length:=by omega
  rw [Oo] at hm
  have I:TW P:=r
  rw [Nh (by simpa using I)] at A
  simp only [n12,r12,h1,u,f,g,l,a,D,PR,Sg,Sd,SB,seval,NC,NJ,NG,NQ,reduceCtorEq,NB,place,NA,ND]
  refine Nng (H:=H) (R:=H.length) (G:=G) ⟨o,z,hn.np,hn.nl,hn.bys⟩ x hm (Nd _) h1 u rfl rfl rfl rfl (fun h=>by rw [A,Ni h]) fun fr' G' h=>?_
  rw [Nh (by simpa using h)] at A
  rw [A]
  simp only [n12,r12,SB,seval,NC,NJ,NG,NQ,reduceCtorEq,NB,place,NA,ND]
def WQ (P:List Int):List (Value×Value):=P.map fun p=>(Vi p,Vi (P.idxOf p:Int))
theorem UU {P:List Int} {a:Int} {i:Nat} (h:a∈P):∃j,findKey (Vi a) (WQ P) i=some (some (j,Vi (P.idxOf a:Int))):=by
 unfold WQ
 exact YC (f:=fun k:Int=>k) (g:=fun k=>Vi (P.idxOf k:Int)) ⟨a,h,rfl⟩ fun x _ e=>by rw [e]
theorem Noa {P:List Int} {a:Int} {i:Nat} (h:a∉P):findKey (Vi a) (WQ P) i=some none:=by
 unfold WQ
 exact XO (f:=fun k:Int=>k) (g:=fun k=>Vi (P.idxOf k:Int)) fun x b e=>h (e▸b)
theorem TW.idx {P:List Int} (h:TW P) {i:Nat} (hi:i<P.length):P.idxOf (gt P i)=i:=by
 have h1:=(h i hi).2.2
 have h2:P.idxOf (gt P i)<=i:=by
  rw [PZ hi]
  apply Oe;intro hc
  have:=List.not_of_lt_findIdx (xs:=P) (p:=(· == P[i])) (i:=i) (by unfold List.idxOf at hc;omega)
  simp at this
 rcases Oh (P.idxOf (gt P i)) i with h3 | h3
 ·exfalso
  apply h1
  have hm:gt P i∈P:=R6 hi
  have hl:=Pe hm
  have:=Q2 hl
  rw [List.mem_take_iff_getElem]
  exact ⟨P.idxOf (gt P i),by omega,this⟩
 ·omega
theorem Nh7 [OB] {lim:Nat} {pp pl:Option Addr} {P:List Int} {L:List Leg} {cp cl:Nat} {H:NE} {Q:Value->NE->Prop} (hn:NetIn H pp pl P L) (s:TW P) (t:lim<=H.length)
  (v:∀H',OM H H'->NF H' (H.length+1)=.map (WQ P)->Q (.map (some (H.length+1))) H') :
  NL E false lim 97 [.agg (Tj pp P.length cp pl L.length cl).toArray] H Q:=by
 refine R8 (by decide) e97 rfl ?_
 rw [b97,c97]
 simp only [n97,r97,PR,Sg,Sd,SB,seval,NC,NJ,NG,NQ,reduceCtorEq,NB,place,NA,ND]
 refine NR (fun i=>P.length-i) (fun i fr G=>i<=P.length/\fr 3=.map (some (H.length+1))/\fr 11=.slice pp P.length cp/\fr 12=Vi P.length/\fr 13=Vi i/\
  H.length+1<G.length/\OM H G/\NF G (H.length+1)=.map ((P.take i).map fun p=>(Vi p,Vi (P.idxOf p:Int)))) 0
  ⟨Nz _,rfl,rfl,rfl,by rfl,by simp,OM.refl.app,NW⟩ ?_
 intro i fr G ⟨hi,n,b,d,h,hL,m,hm⟩ u
 rw [NS N5k.eq_1]
 refine NM ?_
 have q:∀X,NF (G++X) (H.length+1)=.map ((P.take i).map fun p=>(Value.int .i64 p,Value.int .i64 (P.idxOf p:Int))):=fun X=>by rw [NN hL];exact hm
 have o:lim<=H.length+1:=by omega
 by_cases a:i<P.length
 ·have l:=fun X=>((m.sl hn.sp).app X).loadCell0 RJ a (by decide)
  simp only [encI,O5] at l
  have j:=fun c (k:IntKind) (H1:NE)=>(m.sl hn.sp).idx (c:=c) (k:=k) (H1:=H1) a
  have r:IntKind.i64.wrap ((i:Int)+1)=((i+1:Nat):Int):=OG (by have:=hn.np;omega)
  have w:findKey (Vi (gt P i)) ((P.take i).map fun p=>(Vi p,Vi (P.idxOf p:Int))) 0=some none:=
   XO (f:=fun k:Int=>k) (g:=fun k=>Vi (P.idxOf k:Int)) fun x y e=>(s i a).2.2 (e▸y)
  simp only [n97,r97,n,b,d,h,a,j,l,r,q,w,o,SB,seval,NC,NJ,NG,NQ,reduceCtorEq,NB,place,NA,ND]
  refine u (i+1) _ _ ⟨by omega,n,b,d,rfl,by simp;omega, ?_, ?_⟩ (by omega)
  ·obtain ⟨Y,rfl⟩:=m
   exact ⟨(Y++[]).set 1 _,by rw [Nn];exact Nhz⟩
  ·rw [Vj (by simp;omega),Xe a,O1]
   simp only [Oc,List.map_nil,s.idx a]
 ·obtain rfl:i=P.length:=by omega
  rw [Oo] at hm
  simp only [n97,r97,n,b,d,h,a,SB,seval,NC,NJ,NG,NQ,reduceCtorEq,NB,place,NA,ND]
  refine v _ m.app ?_
  rw [NN hL];exact hm
def UD (P:List Int) (L:List Leg) (a b t:Int):Int:=if R3 P L≠0 then R3 P L else if a∈P/\b∈P/\0<=t/\t<=OA then 0 else 2
theorem Va {P:List Int} {L:List Leg} (h:R3 P L=0):P.length<=50/\L.length<=200/\TW P/\Wo P L:=by
 unfold R3 at h
 split at h
 ·cases h
 ·split at h
  ·cases h
  ·split at h
   ·cases h
   ·rename_i h1 h2 a
    exact ⟨by omega,by omega,by simpa using h2,by simpa using a⟩
theorem Me {P:List Int} {L:List Leg} {a b t:Int} (h:UD P L a b t=0):R3 P L=0/\a∈P/\b∈P/\0<=t/\t<=OA:=by
 unfold UD at h
 split at h
 ·contradiction
 ·rename_i d
  split at h
  ·rename_i c;exact ⟨by simpa using d,c⟩
  ·cases h
theorem Nfj [OB] {lim:Nat} {pp pl:Option Addr} {P:List Int} {L:List Leg} {cp cl:Nat} {a b t:Int} {H:NE} {Q:Value->NE->Prop} (hn:NetIn H pp pl P L) (r:lim<=H.length)
  (c:∀H',UD P L a b t≠0->OM H H'->Q (.tuple #[.map none,Vi (UD P L a b t)]) H')
  (o:∀H' R,UD P L a b t=0->OM H H'->NF H' R=.map (WQ P)->H.length<=R->Q (.tuple #[.map (some R),Vi 0]) H') :
  NL E false lim 58 [.agg (Tj pp P.length cp pl L.length cl).toArray,Vi a,Vi b,Vi t] H Q:=by
 refine R8 (by decide) e58 rfl ?_
 rw [b58,c58]
 have q:=fun X (mp:Bool) (lim:Nat) (Q:Value->NE->Prop)=>Nc7 (mp:=mp) (lim:=lim) (cp:=cp) (cl:=cl) (Q:=Q) (hn.app X)
 by_cases j:R3 P L=0
 ·have l:¬(R3 P L≠0):=by simpa using j
  obtain ⟨x,y,v,z⟩:=Va j
  rw [j] at q
  simp only [n58,r58,q,PR,Sg,Sd,NI,SB,seval,NC,NJ,NG,NQ,reduceCtorEq,NB,place,NA,ND]
  refine Nh7 (hn.app _) v (by simp;omega) fun H' s hm=>?_
  have g:OM H H':=by obtain ⟨Y,rfl⟩:=s;rw [Nn];exact OM.refl.app
  simp only [Nm,Nl,Ns,N0,O9,Nat.reduceAdd] at hm⊢
  have hl:=PQ hm
  have f:∀X,NF (H'++X) (H.length+2)=.map (WQ P):=fun X=>by rw [NN hl];exact hm
  refine NM ?_
  have e2:¬(a∈P/\b∈P/\0<=t/\t<=OA)->UD P L a b t=2:=fun h=>by rw [UD,Nh l,Nh h]
  by_cases n:a∈P
  ·obtain ⟨w,e⟩:=UU (i:=0) n
   by_cases k:b∈P
   ·obtain ⟨u,d⟩:=UU (i:=0) k
    by_cases p:t<0
    ·have he:=e2 fun h=>by omega
     simp only [n58,r58,f,e,d,p,SB,seval,NC,NJ,NG,NQ,reduceCtorEq,NB,place,NA,ND]
     rw [<-he];exact c _ (by rw [he];decide) g.app
    ·by_cases m:1051898399<t
     ·have he:=e2 fun h=>by unfold OA at h;omega
      simp only [n58,r58,f,e,d,p,m,SB,seval,NC,NJ,NG,NQ,reduceCtorEq,NB,place,NA,ND]
      rw [<-he];exact c _ (by rw [he];decide) g.app
     ·have he:UD P L a b t=0:=by rw [UD,Nh l,Ni ⟨n,k,by omega,by unfold OA;omega⟩]
      simp only [n58,r58,f,e,d,p,m,SB,seval,NC,NJ,NG,NQ,reduceCtorEq,NB,place,NA,ND]
      exact o _ _ he g.app (f []) (by omega)
   ·have d:=Noa (i:=0) k
    have he:=e2 fun h=>k h.2.1
    simp only [n58,r58,f,e,d,SB,seval,NC,NJ,NG,NQ,reduceCtorEq,NB,place,NA,ND]
    rw [<-he];exact c _ (by rw [he];decide) g.app
  ·have e:=Noa (i:=0) n
   have he:=e2 fun h=>n h.1
   by_cases k:b∈P
   ·obtain ⟨u,d⟩:=UU (i:=0) k
    simp only [n58,r58,f,e,d,SB,seval,NC,NJ,NG,NQ,reduceCtorEq,NB,place,NA,ND]
    rw [<-he];exact c _ (by rw [he];decide) g.app
   ·have d:=Noa (i:=0) k
    simp only [n58,r58,f,e,d,SB,seval,NC,NJ,NG,NQ,reduceCtorEq,NB,place,NA,ND]
    rw [<-he];exact c _ (by rw [he];decide) g.app
 ·have he:UD P L a b t=R3 P L:=by rw [UD,Ni j]
  simp only [n58,r58,q,PR,Sg,Sd,NI,j,Nr j,SB,seval,NC,NJ,NG,NQ,reduceCtorEq,NB,place,NA,ND]
  rw [<-he];exact c _ (by rw [he];exact j) OM.refl.app
theorem find_ok [OB] {mp:Bool} {lim:Nat} {pp pl:Option Addr} {P:List Int} {L:List Leg} {cp cl:Nat} {a:Int} {H:NE} {Q:Value->NE->Prop} (hn:NetIn H pp pl P L) :
  NL E mp lim 33 [.agg (Tj pp P.length cp pl L.length cl).toArray,Vi a] H Q=Q (match L.find? (fun l=>l.id=a) with | some l=>.tuple #[.agg (Rz l).toArray,.bool true] | none=>.tuple #[.agg #[Vi 0,Vi 0,Vi 0,Vi 0,Vi 0,Vi 0,Vi 0,.int .u8 0],.bool false]) H:=by
 refine pc (by decide) e33 rfl (by cases L.find? (fun l=>l.id=a)<;>rfl) ?_
 rw [b33,c33]
 simp only [n33,r33,PR,Sg,Sd,SB,seval,NC,NJ,NG,NQ,reduceCtorEq,NB,place,NA,ND]
 refine NR (fun i=>L.length-i) (fun i fr G=>i<=L.length/\fr 1=Vi a/\fr 4=Vp (H.length+1)/\fr 9=.slice pl L.length cl/\fr 10=Vi L.length/\fr 11=Vi i/\OM H G/\
  NF G (H.length+1)=Vc [Vi 0,Vi 0,Vi 0,Vi 0,Vi 0,Vi 0,Vi 0,.int .u8 0]/\L.find? (fun l=>l.id=a)=(L.drop i).find? (fun l=>l.id=a)) 0
  ⟨Nz _,rfl,rfl,rfl,rfl,by rfl,OM.refl.app,NW,rfl⟩ ?_
 intro i fr G ⟨hi,h1,q,r,d,h,s,n,m⟩ t
 have hl:=s.len
 have u:=NK n
 rw [NS N50.eq_1]
 refine NM ?_
 have g:=fun X=>(OM.refl.app (X:=X)).cells n
 by_cases b:i<L.length
 ·have o:=fun X=>((s.sl hn.sl).app X).loadCells OH b
  have f:=fun c (k:IntKind) (H1:NE)=>(s.sl hn.sl).idx (c:=c) (k:=k) (H1:=H1) b
  have p:IntKind.i64.wrap ((i:Int)+1)=((i+1:Nat):Int):=OG (by have:=hn.nl;omega)
  rw [Nur b] at m
  have v:¬H.length+1=G.length:=by omega
  obtain ⟨G2,e2,h2,w⟩:=OP (NK n) (Vc (Rz (gt L i)))
  have j:=fun X=>(OM.refl.app (X:=X)).cells h2
  by_cases e:(gt L i).id=a
  ·simp only [e,decide_true,if_true] at m
   simp only [n33,r33,h1,q,r,d,h,b,f,o,p,g,OH,QH,QG,QF,QE,QD,QC,QB,QA,NI,hl,show H.length<=H.length+1 by omega,N7 e,NH,e2,j,SB,seval,NC,NJ,NG,NQ,reduceCtorEq,NB,place,NA,ND]
   rw [m]
  ·simp only [e,decide_false,Nx,if_false] at m
   simp only [n33,r33,h1,q,r,d,h,b,f,o,p,g,OH,QH,QG,QF,QE,QD,QC,QB,QA,NI,hl,Nr e,SB,seval,NC,NJ,NG,NQ,reduceCtorEq,NB,place,NA,ND]
   exact t (i+1) _ _ ⟨by omega,h1,q,r,d,rfl,s.app,(OM.refl.app).cells n,m⟩ (by omega)
 ·obtain rfl:i=L.length:=by omega
  rw [Qo,List.find?_nil] at m
  obtain ⟨G2,e2,h2,w⟩:=OP (NK n) (Vc [Vi 0,Vi 0,Vi 0,Vi 0,Vi 0,Vi 0,Vi 0,.int .u8 0])
  have j:=fun X=>(OM.refl.app (X:=X)).cells h2
  simp only [n33,r33,h1,q,r,d,h,b,g,show H.length<=H.length+1 by omega,NH,e2,j,SB,seval,NC,NJ,NG,NQ,reduceCtorEq,NB,place,NA,ND]
  rw [m]
def YS {α:Type} (lim:Nat) (G:NE) (enc:α->List Value) (e:Nat) (p:Option Addr) (cap:Nat) (l:List α):Prop:=
 Own lim G enc e p cap l\/∃R,p=Sa R/\cap=l.length/\cap<2 ^ 62/\NF G R=Vc (l.flatMap enc)/\lim<=R
section
variable {α:Type} {lim e cap:Nat} {G:NE} {enc:α->List Value} {p:Option Addr} {l:List α}
theorem YS.sl (h:YS lim G enc e p cap l) (he:∀x,(enc x).length=e):Sl G enc e p l:=by
 rcases h with h | ⟨R,rfl,_,_,h,_⟩
 ·exact h.sl he
 ·exact Sl.row he h
theorem YS.block (h:YS lim G enc e p cap l) {a:Addr} (b:p=some a):lim<=a.block/\a.block<G.length:=by
 rcases h with h | ⟨R,rfl,_,_,h,hl⟩
 ·exact h.block b
 ·cases b;exact ⟨hl,NK h⟩
theorem YS.chg {A:List Nat} {H':NE} (h:YS lim G enc e p cap l) (hc:Chg A G H') (hp:∀a,p=some a->a.block∉A):YS lim H' enc e p cap l:=by
 rcases h with h | ⟨R,rfl,h1,h2,b,c⟩
 ·exact .inl (h.chg hc hp)
 ·exact .inr ⟨R,rfl,h1,h2,hc.cells b (hp _ rfl),c⟩
theorem YS.step {lim' bytes:Nat} (h:YS lim G enc e p cap l) (n:lim'<=lim) (he:∀x,(enc x).length=e) (g:e≠0) (x:α) (t:(l.length+1)*bytes<=PN) (hn:l.length+1<2 ^ 61) (m:lim<=G.length)
  (X:NE) (b k:Nat) (r:NF (G++X) b=Vc (enc x)) :
  ∃G2,OT lim' none e bytes false (.slice p l.length cap) (.slice (Sa b) 1 k) (G++X)=some (.slice (Sa (G.length+X.length)) (l.length+1) (loose e),G2++[])/\
   Own lim (G2++[]) enc e (Sa (G.length+X.length)) (loose e) (l++[x])/\(∀A H0,H0.length<=lim->Chg A H0 G->Chg A H0 (G2++[]))/\(∀j,j<G.length->(∀a,p=some a->j≠a.block)->NF (G2++[]) j=NF G j)/\G2.length=G.length+X.length+1/\
   (∀j,j<X.length->NF (G2++[]) (G.length+j)=X.getD j .dead):=by
 rcases h with h | ⟨R,rfl,h1,h2,q,u⟩
 ·exact h.step n he g x t hn m X b k r
 ·have s:=NK q
  have c:NF ((G++(X++[Vc ((l++[x]).flatMap enc)]))++[]) (G.length+X.length)=Vc ((l++[x]).flatMap enc):=by
   rw [Nb,NW]
   rw [show X.length=X.length+0 from rfl,Sr];rfl
  refine ⟨G++(X++[Vc ((l++[x]).flatMap enc)]), ?_,Own.new c (by omega),fun A H0 _ hc=>(hc.app).app,fun j i _=>?_,by simp;omega,fun j i=>?_⟩
  ·have f:NF (G++X) R=Vc (l.flatMap enc):=by rw [NN s];exact q
   have d:AM.loadCells (G++X) ⟨R,0,none⟩ (l.length*e)=some (l.flatMap enc):=by
    simp only [PU,f,N0,PS he,Nd,if_true,Ov]
    rw [Og (by rw [PS he];exact Nd _)]
   have hl:AM.loadCells (G++X) ⟨b,0,none⟩ (1*e)=some (enc x):=by
    simp only [PU,r,N0,Nat.one_mul,he,Nd,if_true,Ov]
    rw [Og (by rw [he];exact Nd _)]
   subst h1
   have o:¬l.length=loose e:=by unfold loose;omega
   simp only [OT,firstCells,lenOf,hl,d,if_false,Nx,o,Nat.one_ne_zero]
   rw [Nh (by omega),Ni h2,Nh (by omega)]
   simp [place]
  ·rw [Nb,NN i]
  ·rw [Nb,NW,Na,N6 i,Na]
end
def i64 (n:Int):Value:=Vi n
def T50 (T:List Int):List Int:=if T.length=50 then T else List.replicate 50 0
theorem N8n {T:List Int} (h:T.length=50):T50 T=T:=Ni h
theorem N4v (T:List Int):(T50 T).length=50:=by
 unfold T50;split
 ·assumption
 ·simp
def RU (T:List Int):List Value:=(T50 T).map i64
theorem PO (T:List Int):(RU T).length=50:=by simp [RU,N4v]
theorem VH {T:List Int} (h:T.length=50):RU T=T.map i64:=by rw [RU,N8n h]
theorem Wd {T:List Int} (h:T.length=50) {j:Nat} (a:j<50):(RU T)[j]? = some (Vi (T.getD j (-1))):=by
 rw [VH h,O2,Na,Nf (by omega)];rfl
theorem YF {T:List Int} (h:T.length=50) {j:Nat} {v:Int}:(RU T).set j (Vi v)=RU (T.set j v):=by
 rw [VH h,VH (by simpa using h),List.map_set];rfl
theorem N3v {a b:List Int} (h:a.map i64=b.map i64):a=b:=by
 induction a generalizing b with
 | nil=>cases b with
   | nil=>rfl
   | cons y b=>cases h
 | cons x a ih=>cases b with
   | nil=>cases h
   | cons y b=>
     simp only [Oc,List.cons.injEq,i64,Value.int.injEq,Rf] at h
     rw [h.1,ih h.2]
theorem N0v {a b:List Int} (c:a.length=50) (d:b.length=50) (h:RU a=RU b):a=b:=by
 rw [VH c,VH d] at h;exact N3v h
theorem Nuq {l:List Int}:flat 4 (.agg (l.map i64).toArray)=true:=by
 simp [flat,i64,atom]
theorem N0w {a b:List Int} (c:a.length=50) (d:b.length=50):aEq (.agg (List.replicate 50 (.int .i64))) (.agg (RU a).toArray) (.agg (RU b).toArray)=some (decide (a=b)):=by
 obtain ⟨t,h1,h2⟩:=Nb9 (.int .i64) 50 (RU a) (RU b) (PO a) (PO b) (by
  intro x e y f
  rw [VH c] at e
  rw [VH d] at f
  obtain ⟨n,_,rfl⟩:=List.mem_map.1 e
  obtain ⟨m,_,rfl⟩:=List.mem_map.1 f
  exact ⟨n == m,by simp [TB,i64],by simp [i64]⟩)
 show PL _ (RU a) (RU b)=_
 rw [h1]
 congr 1
 rw [Re,h2,Oa]
 exact ⟨fun h=>N0v c d h,fun h=>by rw [h]⟩
theorem Njl:[Value.int .i64 0,Value.int .i64 0,Value.int .i64 0,Value.int .i64 0,Value.int .i64 0,Value.int .i64 0,Value.int .i64 0,Value.int .i64 0,Value.int .i64 0,Value.int .i64 0,Value.int .i64 0,Value.int .i64 0,Value.int .i64 0,Value.int .i64 0,Value.int .i64 0,Value.int .i64 0,Value.int .i64 0,Value.int .i64 0,Value.int .i64 0,Value.int .i64 0,Value.int .i64 0,Value.int .i64 0,Value.int .i64 0,Value.int .i64 0,Value.int .i64 0,Value.int .i64 0,Value.int .i64 0,Value.int .i64 0,Value.int .i64 0,Value.int .i64 0,Value.int .i64 0,Value.int .i64 0,Value.int .i64 0,Value.int .i64 0,Value.int .i64 0,Value.int .i64 0,Value.int .i64 0,Value.int .i64 0,Value.int .i64 0,Value.int .i64 0,Value.int .i64 0,Value.int .i64 0,Value.int .i64 0,Value.int .i64 0,Value.int .i64 0,Value.int .i64 0,Value.int .i64 0,Value.int .i64 0,Value.int .i64 0,Value.int .i64 0]=List.replicate 50 (Value.int .i64 0):=rfl
theorem N9w:[KK.int .i64,KK.int .i64,KK.int .i64,KK.int .i64,KK.int .i64,KK.int .i64,KK.int .i64,KK.int .i64,KK.int .i64,KK.int .i64,KK.int .i64,KK.int .i64,KK.int .i64,KK.int .i64,KK.int .i64,KK.int .i64,KK.int .i64,KK.int .i64,KK.int .i64,KK.int .i64,KK.int .i64,KK.int .i64,KK.int .i64,KK.int .i64,KK.int .i64,KK.int .i64,KK.int .i64,KK.int .i64,KK.int .i64,KK.int .i64,KK.int .i64,KK.int .i64,KK.int .i64,KK.int .i64,KK.int .i64,KK.int .i64,KK.int .i64,KK.int .i64,KK.int .i64,KK.int .i64,KK.int .i64,KK.int .i64,KK.int .i64,KK.int .i64,KK.int .i64,KK.int .i64,KK.int .i64,KK.int .i64,KK.int .i64,KK.int .i64]=List.replicate 50 (KK.int .i64):=rfl
theorem Noi [OB] {mp:Bool} {lim i:Nat} {t:Int} {H:NE} {Q:Value->NE->Prop} (hi:i<50):NL E mp lim 63 [Vi i,Vi t] H Q=Q (.agg (RU (Zu 50 i t)).toArray) H:=by
 refine pc (by decide) e63 rfl (by rw [VH Nd6];exact Nuq) ?_
 rw [b63,c63]
 simp only [n63,r63,Njl,SB,Nat.reduceLT,NC,NJ,Nat.reduceEqDiff,NG,NQ,reduceCtorEq,NB,place,NA,Nat.reduceAdd,Nat.reduceLeDiff,ND,Int.reduceEq,Int.reduceLT,Int.reduceLE]
 refine NR (fun k=>50-k) (fun k fr G=>k<=50/\fr 0=Vi i/\fr 1=Vi t/\fr 4=Vp H.length/\fr 5=Vp (H.length+1)/\fr 7=Vi k/\
  ∃T:List Int,T.length=50/\(∀j,j<k->T[j]? = some (-1))/\G=H++[Vc (List.replicate 50 (Value.int .i64 0)),Vc (RU T)]) 0
  ⟨Nz _,rfl,rfl,rfl,rfl,by rfl,List.replicate 50 0,by simp,fun j e=>by omega,rfl⟩ ?_
 rintro k fr G ⟨hk,f,h1,g,h5,n,T,h,a,rfl⟩ o
 rw [NS N5u.eq_1]
 by_cases p:k<50
 ·have c:(k:Int)<50:=by omega
  have b:(0:Int)<=(k:Int):=by omega
  have m:IntKind.i64.wrap ((k:Int)+1)=((k+1:Nat):Int):=OG (by omega)
  simp only [n63,r63,f,h1,g,h5,n,b,c,m,Pd,PO,YF h,show k+1<=50 by omega,SB,Nat.reduceLT,NC,NJ,Nat.reduceEqDiff,NG,NQ,reduceCtorEq,NB,place,NA,Nat.reduceAdd,Nat.reduceLeDiff,ND,Int.reduceEq,Int.reduceLT,Int.reduceLE]
  refine o (k+1) _ _ ⟨by omega,f,h1,g,h5,rfl,T.set k (-1),by simpa using h,fun j e=>?_,rfl⟩ (by omega)
  by_cases d:k=j
  ·subst d;rw [Q7 (by omega)]
  ·rw [Qk d];exact a j (by omega)
 ·obtain rfl:k=50:=by omega
  have l:T=List.replicate 50 (-1):=by
   apply List.ext_getElem? ;intro j
   by_cases e:j<50
   ·rw [a j e,Pv,Ni e]
   ·rw [Nw (by omega),Nw (by simp;omega)]
  subst l
  have c:(i:Int)<50:=by omega
  have b:(0:Int)<=(i:Int):=by omega
  simp only [n63,r63,f,h1,g,h5,n,b,c,Pd,PO,YF h,show i+1<=50 by omega,NI,NH,Om,SB,Nat.reduceLT,NC,NJ,Nat.reduceEqDiff,NG,NQ,reduceCtorEq,NB,place,NA,Nat.reduceAdd,Nat.reduceLeDiff,ND,Int.reduceEq,Int.reduceLT,Int.reduceLE]
  rfl
def okT (T:List Int):Prop:=T.length=50/\∀j,-1<=T.getD j (-1)/\T.getD j (-1)<=OA
theorem Nie {i:Nat} {t:Int} (hi:i<50) (h:-1<=t/\t<=OA):okT (Zu 50 i t):=⟨Nd6,fun j=>by
 rw [Nd7 hi];unfold OA at *;split<;>omega⟩
theorem Nid {T:List Int} {i:Nat} {v:Int} (h:okT T) (a:-1<=v/\v<=OA):okT (T.set i v):=by
 refine ⟨by simpa using h.1,fun j=>?_⟩
 by_cases hi:i<T.length
 ·rw [Xq hi];split
  ·exact a
  ·exact h.2 j
 ·rw [List.set_eq_of_length_le (by omega)];exact h.2 j
def VC (u:List Int->List Int->Leg->List Int) (L:List Leg) (first:List Int):Nat->List Int
 | 0=>first
 | k+1=>L.foldl (u (VC u L first k)) (VC u L first k)
theorem ZZ {α β:Type} [Inhabited α] {f:β->α->β} {L:List α} {b:β} {i:Nat} (h:i<L.length):(L.take (i+1)).foldl f b=f ((L.take i).foldl f b) (gt L i):=by
 rw [Xe h,List.foldl_append];rfl
def N1x [OB] (H:NE) (lim:Nat) (g:FuncId) (a b:Value) (u:List Int->List Int->Leg->List Int) (L:List Leg):Prop:=
 ∀(G:NE) (A:Nat) (bef aft:List Int) (l:Leg) (Q:Value->NE->Prop),l∈L->okT bef->okT aft->Chg [] H G->lim<=A->H.length<=A->lim<=G.length->NF G A=Vc (RU aft)->
  okT (u bef aft l)/\((∀G',Chg [A] G G'->NF G' A=Vc (RU (u bef aft l))->Q (.tuple #[]) G')->NL E false lim g [.agg (Rz l).toArray,.agg (RU bef).toArray,Vp A,a,b] G Q)
theorem Nh0 [OB] {lim:Nat} {g:FuncId} {t v:Value} {u:List Int->List Int->Leg->List Int} {pl:Option Addr} {L:List Leg} {cl:Nat} {H G:NE} {fr:Nat->Value} {K:List AItem} {R:Value->NE->Prop} {bef:List Int} {A8 A9:Nat}
  (hu:N1x H lim g t v u L) (hL:Sl H Rz 8 pl L) (ab:L.length<2 ^ 62) (T:lim<=H.length) (S:okT bef) (Y:Chg [] H G) (W:H.length<=A8) (C:H.length<=A9) (M:A8≠A9) (U:NF G A8=Vc (RU bef)) (V:NF G A9=Vc (RU bef))
  (f2:fr 2=.func (.func g) #[] #[t,v]) (O:fr 8=Vp A8) (f9:fr 9=Vp A9) (w:fr 21=.slice pl L.length cl) (x:fr 22=Vi L.length) (y:fr 23=Vi 0)
  (hR:∀fr' G',okT (L.foldl (u bef) bef)->Chg [A9] G G'->NF G' A9=Vc (RU (L.foldl (u bef) bef))->fr' 1=fr 1->fr' 2=fr 2->fr' 7=fr 7->fr' 8=fr 8->fr' 9=fr 9->PV E a99 lim K fr' (G'++[]) R) :
  PV E a99 lim (.code (.loop Nzn)::.inBlock 2::K) fr G R:=by
 refine NR (fun i=>L.length-i) (fun i fr' G'=>i<=L.length/\fr' 1=fr 1/\fr' 7=fr 7/\fr' 2=.func (.func g) #[] #[t,v]/\fr' 8=Vp A8/\fr' 9=Vp A9/\fr' 21=.slice pl L.length cl/\fr' 22=Vi L.length/\fr' 23=Vi i/\
  Chg [A9] G G'/\okT ((L.take i).foldl (u bef) bef)/\NF G' A9=Vc (RU ((L.take i).foldl (u bef) bef))) 0
  ⟨Nz _,rfl,rfl,f2,O,f9,w,x,y,Chg.refl,S,V⟩ ?_
 intro i fr' G' ⟨hi,P,Q,m,n,o,b,d,f,s,F,e⟩ Z
 have h:Chg [] H G':=Y.trans' s fun j h1 h2=>by simp only [Nj] at h1;omega
 have hl:=h.len
 rw [NS Nzn.eq_1]
 refine NM ?_
 by_cases a:i<L.length
 ·have q:=h.ext.sl hL
  have J:=fun X=>(q.app X).loadCells OH a
  have p:=fun c (k:IntKind) (H1:NE)=>q.idx (c:=c) (k:=k) (H1:=H1) a
  have r:IntKind.i64.wrap ((i:Int)+1)=((i+1:Nat):Int):=OG (by omega)
  have z:=s.cells U (by simpa using M)
  have A:=fun X=>(OM.refl.app (X:=X)).cells z
  have I:lim<=G'.length:=by omega
  simp only [n99,r99,m,n,o,b,d,f,a,p,J,r,OH,QH,QG,QF,QE,QD,QC,QB,QA,NI,I,NH,A,PO,Nkp,SB,Nat.reduceLT,NC,NJ,Nat.reduceEqDiff,NG,NQ,reduceCtorEq,NB,place,NA,Nat.reduceAdd,Nat.reduceLeDiff,ND,Int.reduceEq,Int.reduceLT,Int.reduceLE]
  have aa:=NK e
  obtain ⟨N,l⟩:=hu (G'++[Vc (Rz (gt L i))]) A9 bef ((L.take i).foldl (u bef) bef) (gt L i) _ (R6 a) S F (h.app) (by omega) C (by simp;omega) ((OM.refl.app).cells e)
  refine l fun G2 D B=>?_
  refine NM ?_
  simp only [n99,r99,m,n,o,b,d,f,r,SB,Nat.reduceLT,NC,NJ,Nat.reduceEqDiff,NG,NQ,reduceCtorEq,NB,place,NA,Nat.reduceAdd,Nat.reduceLeDiff,ND,Int.reduceEq,Int.reduceLT,Int.reduceLE]
  refine Z (i+1) _ _ ⟨by omega,by rw [<-P];exact rfl,by rw [<-Q];exact rfl,m,n,o,b,d,rfl, ?_, ?_, ?_⟩ (by omega)
  ·rw [Nb]
   exact s.trans D.pre
  ·rw [ZZ a];exact N
  ·rw [Nb,ZZ a];exact B
 ·obtain rfl:i=L.length:=by omega
  rw [Oo] at F e
  simp only [n99,r99,m,n,o,b,d,f,a,SB,Nat.reduceLT,NC,NJ,Nat.reduceEqDiff,NG,NQ,reduceCtorEq,NB,place,NA,Nat.reduceAdd,Nat.reduceLeDiff,ND,Int.reduceEq,Int.reduceLT,Int.reduceLE]
  exact hR _ _ F s e (by rw [<-P];exact rfl) (by rw [f2];exact m) (by rw [<-Q];exact rfl) (by rw [O];exact n) (by rw [f9];exact o)
theorem Nst [OB] {lim n0:Nat} {g:FuncId} {z A:Value} {u:List Int->List Int->Leg->List Int} {first:List Int} {pl:Option Addr} {L:List Leg} {cl:Nat} {H:NE} {Q:Value->NE->Prop}
  (hu:N1x H lim g z A u L) (Z:okT first) (hL:Sl H Rz 8 pl L) (M:L.length<2 ^ 62) (l:lim<=H.length) (t:VC u L first (n0+1)=VC u L first n0) (N:∀k,k<n0->VC u L first (k+1)≠VC u L first k) (ab:n0<80000000000)
  (Y:∀H' p cap,Chg [] H H'->YS H.length H' RU 50 p cap ((List.range (n0+1)).map (VC u L first))->Q (.slice p (n0+1) cap) H') :
  NL E false lim 99 [.agg (RU first).toArray,.slice pl L.length cl,.func (.func g) #[] #[z,A]] H Q:=by
 refine R8 (by decide) e99 rfl ?_
 rw [b99,c99]
 simp only [n99,r99,Njl,PO,NI,NH,Om,SB,Nat.reduceLT,NC,NJ,Nat.reduceEqDiff,NG,NQ,reduceCtorEq,NB,place,NA,Nat.reduceAdd,Nat.reduceLeDiff,ND,Int.reduceEq,Int.reduceLT,Int.reduceLE]
 refine NR (fun s:Nat×Option Addr×Nat=>n0+1-s.1) (fun s fr G=>s.1<=n0/\fr 1=.slice pl L.length cl/\fr 2=.func (.func g) #[] #[z,A]/\fr 7=.slice s.2.1 (s.1+1) s.2.2/\Chg [] H G/\okT (VC u L first s.1)/\YS H.length G RU 50 s.2.1 s.2.2 ((List.range (s.1+1)).map (VC u L first))) (0,Sa (H.length+1),1)
  ⟨Nz _,rfl,rfl,by rfl,Chg.refl.app,Z,.inr ⟨H.length+1,rfl,rfl,by show (1:Nat)<2 ^ 62;decide,by rw [NW];simp [VC],by omega⟩⟩ ?_
 rintro ⟨k,p,cap⟩ fr G ⟨hk,f1,f2,D,B,n,C⟩ W
 simp only at hk D n C
 have hl:=B.len
 rw [NS N5j.eq_1]
 refine NM ?_
 have a:((List.range (k+1)).map (VC u L first)).length=k+1:=by simp
 have I:gt ((List.range (k+1)).map (VC u L first)) k=VC u L first k:=by
  rw [PZ (by rw [a];omega)];simp
 have hS:=C.sl PO
 have v:=fun X=>(hS.app X).loadCells PO (i:=k) (by rw [a];omega)
 have f:=fun c (kk:IntKind) (H1:NE)=>hS.idx (c:=c) (k:=kk) (H1:=H1) (i:=k) (by rw [a];omega)
 rw [a] at f
 rw [I] at v
 have P:IntKind.i64.wrap (((k+1:Nat):Int)-1)=(k:Int):=by rw [NT (by omega) (by omega)];omega
 have K:lim<=G.length:=by omega
 simp only [n99,r99,f1,f2,D,Njl,PO,NI,NH,Om,P,f,v,K,show lim<=G.length+1 by omega,SB,Nat.reduceLT,NC,NJ,Nat.reduceEqDiff,NG,NQ,reduceCtorEq,NB,place,NA,Nat.reduceAdd,Nat.reduceLeDiff,ND,Int.reduceEq,Int.reduceLT,Int.reduceLE]
 refine Nh0 (cl:=cl) (A8:=G.length) (A9:=G.length+1) hu hL M l n (B.app) (by omega) (by omega) (by omega) NV NW f2 rfl rfl rfl rfl rfl fun fr' G' d S R k1 k2 k7 k8 k9=>?_
 have o:fr' 1=.slice pl L.length cl:=k1.trans f1
 have q:fr' 2=.func (.func g) #[] #[z,A]:=k2.trans f2
 have w:fr' 7=.slice p (k+1) cap:=k7.trans D
 have x:fr' 8=Vp G.length:=k8.trans rfl
 have y:fr' 9=Vp (G.length+1):=k9.trans rfl
 have V:NF G' G.length=Vc (RU (VC u L first k)):=S.cells NV (by simp)
 have r:=fun X=>(OM.refl.app (X:=X)).cells V
 have m:=fun X=>(OM.refl.app (X:=X)).cells R
 have b:Chg [] G G':=S.pre.mono fun j hj h=>by simp only [Nj] at h;omega
 have aa:=b.len
 change okT (VC u L first (k+1)) at d
 change NF G' (G.length+1)=Vc (RU (VC u L first (k+1))) at R
 change ∀X,NF (G'++X) (G.length+1)=Vc (RU (VC u L first (k+1))) at m
 have e:=N0w d.1 n.1
 by_cases J:k=n0
 ·subst J
  rw [Nq t] at e
  simp only [n99,r99,o,q,w,x,y,r,m,PO,NI,N9w,e,SB,Nat.reduceLT,NC,NJ,Nat.reduceEqDiff,NG,NQ,reduceCtorEq,NB,place,NA,Nat.reduceAdd,Nat.reduceLeDiff,ND,Int.reduceEq,Int.reduceLT,Int.reduceLE]
  exact Y _ _ _ ((B.trans b).app) (C.chg (b.app) (by simp))
 ·rw [N8 (p:=VC u L first (k+1)=VC u L first k) (N k (by omega))] at e
  have F:=C.chg b (by simp)
  obtain ⟨G3,e3,U,T,O,l3,_⟩:=F.step (lim':=lim) (bytes:=400) l PO (by decide) (VC u L first (k+1)) (by rw [a];unfold PN;omega) (by rw [a];omega) (by omega) [Vc (RU (VC u L first (k+1)))] G'.length 1 NV
  rw [a] at e3
  simp only [n99,r99,o,q,w,x,y,r,m,PO,NI,N9w,e,Njl,NH,Om,e3,SB,Nat.reduceLT,NC,NJ,Nat.reduceEqDiff,NG,NQ,reduceCtorEq,NB,place,NA,Nat.reduceAdd,Nat.reduceLeDiff,ND,Int.reduceEq,Int.reduceLT,Int.reduceLE]
  refine W (k+1,_,_) _ _ ⟨by omega,o,q,by rfl,T _ _ (Nd _) (B.trans b),d,.inl ?_⟩ (by show n0+1-(k+1)<n0+1-k;omega)
  rw [Pq,O1]
  exact U
def OL (P:List Int):Int->Nat:=fun p=>P.idxOf p
theorem VM {P:List Int} {L:List Leg} (h:R3 P L=0):NetOk 50 P L (OL P):=by
 obtain ⟨h1,h2,g,d⟩:=Va h
 have key:∀l∈L,Fine l/\l.frm∈P/\l.dst∈P:=fun l hl=>by
  obtain ⟨i,hi,rfl⟩:=List.mem_iff_getElem.1 hl
  have:=d i hi
  unfold lOk at this
  rw [PZ hi] at this
  exact ⟨this.1,this.2.2⟩
 refine ⟨fun l hl=>(key l hl).1,fun l hl=>(key l hl).2.1,fun l hl=>(key l hl).2.2,fun a c b f e=>?_,fun a c=>?_⟩
 ·have h1:=Q2 (Pe c)
  have h2:=Q2 (Pe f)
  rw [<-h1,<-h2]
  congr 1
 ·have:=Pe c
  show P.idxOf a<50
  omega
theorem N2p {F:Nat->List Int} {mu:List Int->Nat} (h:∀k,F (k+1)=F k\/mu (F (k+1))<mu (F k)):∃n,n<=mu (F 0)/\F (n+1)=F n/\∀k,k<n->F (k+1)≠F k:=by
 have key:∀m k,mu (F k)<=m->(∀j,j<k->F (j+1)≠F j)->∃n,n<=k+m/\F (n+1)=F n/\∀j,j<n->F (j+1)≠F j:=by
  intro m
  induction m with
  | zero=>
    intro k hm a
    rcases h k with h1 | h1
    ·exact ⟨k,by omega,h1,a⟩
    ·omega
  | succ m ih=>
    intro k hm a
    by_cases h1:F (k+1)=F k
    ·exact ⟨k,by omega,h1,a⟩
    ·rcases h k with h2 | h2
     ·exact absurd h2 h1
     ·obtain ⟨n,d,b⟩:=ih (k+1) (by omega) fun j c=>by
       rcases Oh j k with h5 | h5
       ·exact a j h5
       ·obtain rfl:j=k:=by omega
        exact h1
      exact ⟨n,by omega,b⟩
 obtain ⟨n,h1,h2⟩:=key (mu (F 0)) 0 (Nd _) fun j a=>by omega
 exact ⟨n,by omega,h2⟩
theorem N2o {N:Nat} {pos:Int->Nat} {lim:Int} {L:List Leg} {p ready:Int} (k:Nat):VC (X7 pos lim) L (Zu N (pos p) ready) k=RQ N pos lim L p ready k:=by
 induction k with
 | zero=>rfl
 | succ k ih=>rw [VC,RQ,V5,ih]
theorem Mj {P:List Int} {L:List Leg} {p ready lim:Int} (hn:NetOk 50 P L (OL P)) (hp:p∈P) (hr:0<=ready) (hl:ready<=lim):∀k,WW ready lim (RQ 50 (OL P) lim L p ready k)
 | 0=>by
   intro t b
   rw [RQ,Zu] at b
   rcases Q4 b with h | rfl
   ·exact .inl (List.eq_of_mem_replicate h)
   ·exact .inr ⟨Oj _,hl⟩
 | k+1=>(Nj6 (Mj hn hp hr hl k) hr fun l a=>⟨hn.fine l a,by rw [U8];exact hn.lt _ (hn.dst l a)⟩).1
theorem Nmw {P:List Int} {L:List Leg} {p ready lim:Int} (hn:NetOk 50 P L (OL P)) (hp:p∈P) (hr:0<=ready) (hl:ready<=lim):∃n,n<=50*((lim-ready).toNat+1)/\RQ 50 (OL P) lim L p ready (n+1)=RQ 50 (OL P) lim L p ready n/\∀k,k<n->RQ 50 (OL P) lim L p ready (k+1)≠RQ 50 (OL P) lim L p ready k:=by
 obtain ⟨n,h1,h2⟩:=N2p (F:=RQ 50 (OL P) lim L p ready) (mu:=muA ready lim) fun k=>
  (Nj6 (Mj hn hp hr hl k) hr fun l a=>⟨hn.fine l a,by rw [U8];exact hn.lt _ (hn.dst l a)⟩).2
 refine ⟨n,Qi h1 ?_,h2⟩
 have:=Nyx (Mj hn hp hr hl 0)
 rw [U8] at this
 exact this
def N8k (P:List Int) (L:List Leg) (p ready:Int) (T:List Int):Prop:=T.length=P.length/\∀q∈P,TN L p ready q (T.getD (OL P q) (-1))
theorem N4n {P:List Int} {L:List Leg} {p ready:Int} (hn:NetOk 50 P L (OL P)) (c:P.length<=50) (hp:p∈P) (hr:0<=ready) {n:Nat} (a:RQ 50 (OL P) (ready+86400) L p ready (n+1)=RQ 50 (OL P) (ready+86400) L p ready n) :
  N8k P L p ready ((RQ 50 (OL P) (ready+86400) L p ready n).take P.length):=by
 refine ⟨by rw [Oy,U8];omega,fun q b=>?_⟩
 have h1:=Nfh hn hp hr (by omega) a q b
 have h2:OL P q<P.length:=Pe b
 rw [Na,P9,Ni h2,<-Na]
 exact h1
theorem Ngu {l:Leg} {r a:Int} (hl:Fine l) (h:RY l r=some a):0<=a/\r<=a/\a+l.mins<=OA:=by
 obtain ⟨⟨d,_,b,rfl⟩,h2,_⟩:=RO h
 unfold goes at b
 simp only [Ny,Oa] at b
 unfold Fine at hl
 omega
theorem Ng0 {l:Leg} {b a:Int} (hl:Fine l) (h:SQ l b=some a):0<=a-l.cut/\0<=a/\a+l.mins<=OA/\a+l.mins<=b:=by
 obtain ⟨⟨d,_,c,rfl⟩,h2,_⟩:=Tw h
 unfold goes at c
 simp only [Ny,Oa] at c
 unfold Fine at hl
 omega
theorem Nqk [OB] {lim B1 B2 R:Nat} {o1 o2:Bool} {P:List Int} {L:List Leg} {ready:Int} {H:NE} (hn:NetOk 50 P L (OL P)) (h1:NF H B1=.cells o1 [.map (some R)]) (h2:NF H B2=.cells o2 [Vi ready]) (hm:NF H R=.map (WQ P)) (hr:0<=ready) (M:ready<=OA) :
  N1x H lim 98 (Vp B1) (Vp B2) (X7 (OL P) (ready+86400)) L:=by
 intro G A bef aft l Q hl U o N J W m v
 have T:=hn.fine l hl
 have Y:OL P l.frm<50:=hn.lt _ (hn.frm l hl)
 have Z:OL P l.dst<50:=hn.lt _ (hn.dst l hl)
 obtain ⟨j1,g⟩:=UU (i:=0) (hn.frm l hl)
 obtain ⟨j2,j⟩:=UU (i:=0) (hn.dst l hl)
 change findKey _ _ _=some (some (j1,Vi (OL P l.frm:Int))) at g
 change findKey _ _ _=some (some (j2,Vi (OL P l.dst:Int))) at j
 have S:=U.2 (OL P l.frm)
 have O:=o.2 (OL P l.dst)
 have u:=Wd U.1 Y
 have t:=Wd o.1 Z
 have q1:=fun X=>(OM.refl.app (X:=X)).cells (N.cells h1 (by simp))
 have q2:=fun X=>(OM.refl.app (X:=X)).cells (N.cells h2 (by simp))
 have K:=N.get hm (PQ hm) (by simp)
 have q3:∀X,NF (G++X) R=.map (WQ P):=fun X=>by rw [NN (PQ K)];exact K
 have w:=fun X=>(OM.refl.app (X:=X)).cells v
 have z:(0:Int)<=(OL P l.frm:Int):=by omega
 have B:(0:Int)<=(OL P l.dst:Int):=by omega
 have C:(OL P l.frm:Int)<50:=by omega
 have D:(OL P l.dst:Int)<50:=by omega
 have F:OL P l.dst<=49:=by omega
 have I:OL P l.frm<=49:=by omega
 have wr:IntKind.i64.wrap (ready+86400)=ready+86400:=by unfold OA at M;exact NT (by omega) (by omega)
 unfold X7
 generalize OL P l.frm=x at *
 generalize OL P l.dst=y at *
 generalize bef.getD x (-1)=b at *
 generalize hc:aft.getD y (-1)=c at *
 unfold OA at S O M
 by_cases f:b<0
 ·rw [Ni f]
  refine ⟨o,fun n=>R8 (by decide) e98 rfl ?_⟩
  rw [b98,c98]
  simp only [n98,r98,q1,q2,q3,w,g,j,u,t,z,B,C,D,F,I,wr,OH,QH,QG,QF,QE,QD,QC,QB,QA,NI,PO,Pd,m,f,SB,Nat.reduceLT,NC,NJ,Nat.reduceEqDiff,NG,NQ,reduceCtorEq,NB,place,NA,Nat.reduceAdd,Nat.reduceLeDiff,ND,Int.reduceEq,Int.reduceLT,Int.reduceLE]
  exact n _ (OM.refl.app.chg) ((OM.refl.app).cells v)
 rw [Nh f]
 have e:=fun (H:NE) (mp:Bool) (lim:Nat) (Q:Value->NE->Prop)=>Nre (mp:=mp) (lim:=lim) (H:=H) (Q:=Q) (l:=l) (r:=b) T (by omega) (by omega)
 cases hx:RY l b with
 | none=>
   rw [hx] at e
   simp only [On,Wy] at e
   refine ⟨o,fun n=>R8 (by decide) e98 rfl ?_⟩
   rw [b98,c98]
   simp only [n98,r98,q1,q2,q3,w,g,j,u,t,z,B,C,D,F,I,wr,OH,QH,QG,QF,QE,QD,QC,QB,QA,NI,PO,Pd,m,f,e,SB,Nat.reduceLT,NC,NJ,Nat.reduceEqDiff,NG,NQ,reduceCtorEq,NB,place,NA,Nat.reduceAdd,Nat.reduceLeDiff,ND,Int.reduceEq,Int.reduceLT,Int.reduceLE]
   exact n _ (OM.refl.app.chg) ((OM.refl.app).cells v)
 | some a=>
   rw [hx] at e
   simp only [Nv,Wy] at e
   obtain ⟨k1,k2,k3⟩:=Ngu T hx
   unfold Fine at T
   by_cases d:a+l.mins<=ready+86400
   ·have q:∀Q:Value->NE->Prop,(∀G',Chg [A] G G'->NF G' A=Vc (RU (aft.set y (a+l.mins)))->Q (.tuple #[]) G')->(c<0\/a+l.mins<c)->
      NL E false lim 98 [.agg (Rz l).toArray,.agg (RU bef).toArray,Vp A,Vp B1,Vp B2] G Q:=by
     intro Q n k
     refine R8 (by decide) e98 rfl ?_
     rw [b98,c98]
     obtain ⟨G2,e2,h2,V⟩:=OP (NK v) (Vc (RU (aft.set y (a+l.mins))))
     by_cases p:c<0
     ·simp only [n98,r98,q1,q2,q3,w,g,j,u,t,z,B,C,D,F,I,wr,OH,QH,QG,QF,QE,QD,QC,QB,QA,NI,PO,Pd,m,f,e,N7 d,N7 p,J,YF o.1,e2,SB,Nat.reduceLT,NC,NJ,Nat.reduceEqDiff,NG,NQ,reduceCtorEq,NB,place,NA,Nat.reduceAdd,Nat.reduceLeDiff,ND,Int.reduceEq,Int.reduceLT,Int.reduceLE]
      exact n _ ((Chg.refl.mut V (.inl (by simp))).app) ((OM.refl.app).cells h2)
     ·have s:a+l.mins<c:=by omega
      simp only [n98,r98,q1,q2,q3,w,g,j,u,t,z,B,C,D,F,I,wr,OH,QH,QG,QF,QE,QD,QC,QB,QA,NI,PO,Pd,m,f,e,N7 d,Nr p,N7 s,J,YF o.1,e2,SB,Nat.reduceLT,NC,NJ,Nat.reduceEqDiff,NG,NQ,reduceCtorEq,NB,place,NA,Nat.reduceAdd,Nat.reduceLeDiff,ND,Int.reduceEq,Int.reduceLT,Int.reduceLE]
      exact n _ ((Chg.refl.mut V (.inl (by simp))).app) ((OM.refl.app).cells h2)
    by_cases k:c<0\/a+l.mins<c
    ·simp only [Ni (And.intro d k)]
     exact ⟨Nid o (by omega),fun n=>q _ n k⟩
    ·simp only [Nh (fun h:_/\_=>k h.2)]
     refine ⟨o,fun n=>R8 (by decide) e98 rfl ?_⟩
     rw [b98,c98]
     have p:¬c<0:=fun h=>k (.inl h)
     have s:¬a+l.mins<c:=fun h=>k (.inr h)
     simp only [n98,r98,q1,q2,q3,w,g,j,u,t,z,B,C,D,F,I,wr,OH,QH,QG,QF,QE,QD,QC,QB,QA,NI,PO,Pd,m,f,e,N7 d,Nr p,Nr s,SB,Nat.reduceLT,NC,NJ,Nat.reduceEqDiff,NG,NQ,reduceCtorEq,NB,place,NA,Nat.reduceAdd,Nat.reduceLeDiff,ND,Int.reduceEq,Int.reduceLT,Int.reduceLE]
     exact n _ (OM.refl.app.chg) ((OM.refl.app).cells v)
   ·simp only [Nh (fun h:_/\_=>d h.1)]
    refine ⟨o,fun n=>R8 (by decide) e98 rfl ?_⟩
    rw [b98,c98]
    simp only [n98,r98,q1,q2,q3,w,g,j,u,t,z,B,C,D,F,I,wr,OH,QH,QG,QF,QE,QD,QC,QB,QA,NI,PO,Pd,m,f,e,Nr d,SB,Nat.reduceLT,NC,NJ,Nat.reduceEqDiff,NG,NQ,reduceCtorEq,NB,place,NA,Nat.reduceAdd,Nat.reduceLeDiff,ND,Int.reduceEq,Int.reduceLT,Int.reduceLE]
    exact n _ (OM.refl.app.chg) ((OM.refl.app).cells v)
theorem Nce [OB] {lim R:Nat} {pp pl:Option Addr} {P:List Int} {L:List Leg} {cp cl:Nat} {p ready:Int} {H:NE} {Q:Value->NE->Prop} (hn:NetIn H pp pl P L) (l:R3 P L=0) (hm:NF H R=.map (WQ P)) (hp:p∈P) (hr:0<=ready) (h:ready<=OA) (j:lim<=H.length)
  (r:∀H' q cap n,Chg [] H H'->RQ 50 (OL P) (ready+86400) L p ready (n+1)=RQ 50 (OL P) (ready+86400) L p ready n->(∀k,k<n->RQ 50 (OL P) (ready+86400) L p ready (k+1)≠RQ 50 (OL P) (ready+86400) L p ready k)->n<2 ^ 30->
   YS H.length H' RU 50 q cap ((List.range (n+1)).map (RQ 50 (OL P) (ready+86400) L p ready))->Q (.slice q (n+1) cap) H') :
  NL E false lim 59 [.agg (Tj pp P.length cp pl L.length cl).toArray,.map (some R),Vi p,Vi ready] H Q:=by
 have b:=VM l
 obtain ⟨x,y,z,A⟩:=Va l
 refine R8 (by decide) e59 rfl ?_
 rw [b59,c59]
 obtain ⟨u,c⟩:=UU (i:=0) hp
 have hi:OL P p<50:=b.lt _ hp
 change findKey _ _ _=some (some (u,Vi (OL P p:Int))) at c
 have q3:∀X,NF (H++X) R=.map (WQ P):=fun X=>by rw [NN (PQ hm)];exact hm
 have g:=fun (H:NE) (mp:Bool) (lim:Nat) (Q:Value->NE->Prop)=>Noi (mp:=mp) (lim:=lim) (H:=H) (Q:=Q) (i:=OL P p) (t:=ready) hi
 simp only [n59,r59,PR,Sg,Sd,q3,c,g,SB,Nat.reduceLT,NC,NJ,Nat.reduceEqDiff,NG,NQ,reduceCtorEq,NB,place,NA,Nat.reduceAdd,Nat.reduceLeDiff,ND,Int.reduceEq,Int.reduceLT,Int.reduceLE]
 obtain ⟨n,s,d,e⟩:=Nmw (lim:=ready+86400) b hp hr (by omega)
 have a:∀k,VC (X7 (OL P) (ready+86400)) L (Zu 50 (OL P p) ready) k=RQ 50 (OL P) (ready+86400) L p ready k:=fun k=>N2o k
 unfold OA at h
 refine Nst (n0:=n) (Nqk (R:=R) (P:=P) (ready:=ready) b NW NW (q3 _) hr (by unfold OA;omega)) (Nie hi (by unfold OA;omega)) (hn.sl.app _) (by omega) (by simp;omega) (by rw [a,a];exact d) (fun k hk=>by rw [a,a];exact e k hk) (by omega) fun H' q cap o f=>?_
 rw [funext a] at f
 refine NM ?_
 simp only [n59,r59,SB,Nat.reduceLT,NC,NJ,Nat.reduceEqDiff,NG,NQ,reduceCtorEq,NB,place,NA,Nat.reduceAdd,Nat.reduceLeDiff,ND,Int.reduceEq,Int.reduceLT,Int.reduceLE]
 rw [Nb]
 refine r H' q cap n o.pre d e (by omega) ?_
 rcases f with f | ⟨m,k1,k2,k3,v,w⟩
 ·exact .inl (f.le (by simp))
 ·exact .inr ⟨m,k1,k2,k3,v,by simp at w;omega⟩
theorem Nmm [OB] {lim c:Nat} {p:Option Addr} {l:List Int} {H:NE} {Q:Value->NE->Prop} (hs:Sl H encI 1 p l) (hn:l≠[]) (hl:l.length<2 ^ 40)
  (f:∀H' q,OM H H'->Own H.length H' encI 1 q (loose 1) l->Q (.slice q l.length (loose 1)) H') :
  NL E false lim 106 [.slice p l.length c] H Q:=by
 refine R8 (by decide) N94 rfl ?_
 rw [Oah,N4j]
 obtain ⟨a,rfl⟩:=hs.some hn
 have g:=Nmx (lim:=lim) (b:=H.length) (e:=1) (bytes:=8) (c:=c) (H:=H++[Vc []]) (enc:=encI) (p:=some a) (l:=l) NV (hs.app _) (by decide) (by unfold PN;omega) (by omega) hn
 have d:aEq .slice (.slice (some a) l.length c) Vz=some false:=rfl
 simp only [n106,N6k,d,g,SB,Nat.reduceLT,NC,NJ,Nat.reduceEqDiff,NG,NQ,reduceCtorEq,NB,place,NA,Nat.reduceAdd,Nat.reduceLeDiff,ND,Int.reduceEq,Int.reduceLT,Int.reduceLE]
 refine f _ _ OM.refl.app (Own.new ?_ (by omega))
 rw [NW];rfl
theorem N2k {H:NE} {A:Nat} {T:List Int} {n:Nat} (a:NF H A=Vc (RU T)) (b:T.length=50) (hn:n<=50):Sl H encI 1 (Sa A) (T.take n):=by
 have:Sl H encI 1 (Sa A) (T.take n++T.drop n):=by
  rw [Qc]
  refine Sl.row RJ (ro:=false) ?_
  rw [a,VH b]
  congr 1
  clear a b
  induction T with
  | nil=>rfl
  | cons x T ih=>rw [Oc,Ow,ih];rfl
 exact this.pre RJ
theorem Nwt [OB] {lim:Nat} {pp pl:Option Addr} {P:List Int} {L:List Leg} {cp cl:Nat} {p ready:Int} {H:NE} {Q:Value->NE->Prop} (hn:NetIn H pp pl P L) (M:lim<=H.length)
  (s:∀H',UD P L p p ready≠0->Chg [] H H'->Q (.tuple #[Vz,Vi (UD P L p p ready)]) H')
  (G:∀H' q T,UD P L p p ready=0->Chg [] H H'->N8k P L p ready T->Own H.length H' encI 1 q (loose 1) T->T.length=P.length->Q (.tuple #[.slice q P.length (loose 1),Vi 0]) H') :
  NL E false lim 165 [.agg (Tj pp P.length cp pl L.length cl).toArray,Vi p,Vi ready] H Q:=by
 refine R8 (by decide) Ocs rfl ?_
 rw [Odx,N7u]
 simp only [n165,Nxn,PR,Sg,Sd,NI,SB,Nat.reduceLT,NC,NJ,Nat.reduceEqDiff,NG,NQ,reduceCtorEq,NB,place,NA,Nat.reduceAdd,Nat.reduceLeDiff,ND,Int.reduceEq,Int.reduceLT,Int.reduceLE]
 refine Nfj (hn.app _) (by simp;omega) (fun H' he m=>?_) (fun H' R he m hm U=>?_)
 ·refine NM ?_
  simp only [n165,Nxn,he,Nr he,SB,Nat.reduceLT,NC,NJ,Nat.reduceEqDiff,NG,NQ,reduceCtorEq,NB,place,NA,Nat.reduceAdd,Nat.reduceLeDiff,ND,Int.reduceEq,Int.reduceLT,Int.reduceLE]
  exact s _ he (m.chg.pre.app)
 ·obtain ⟨J,hp,_,hr,I⟩:=Me he
  obtain ⟨N,v2,v3,v4⟩:=Va J
  have D:=m.len
  simp only [Nm,Nl,Ns] at D U
  have j:NF H' H.length=Vc (Tj pp P.length cp pl L.length cl):=m.cells NV
  have F:=fun X=>(OM.refl.app (X:=X)).cells j
  refine NM ?_
  simp only [n165,Nxn,F,PR,Sg,Sd,NI,SB,Nat.reduceLT,NC,NJ,Nat.reduceEqDiff,NG,NQ,reduceCtorEq,NB,place,NA,Nat.reduceAdd,Nat.reduceLeDiff,ND,Int.reduceEq,Int.reduceLT,Int.reduceLE]
  rw [Nb]
  have o:OM H H':=by obtain ⟨Y,rfl⟩:=m;rw [Nn];exact OM.refl.app
  refine Nce (hn.ext o) J hm hp hr I (by omega) fun y q cap n z v Z W O=>?_
  have V:=z.len
  have d:((List.range (n+1)).map (RQ 50 (OL P) (ready+86400) L p ready)).length=n+1:=by simp
  have C:gt ((List.range (n+1)).map (RQ 50 (OL P) (ready+86400) L p ready)) n=RQ 50 (OL P) (ready+86400) L p ready n:=by
   rw [PZ (by rw [d];omega)];simp
  have hS:=O.sl PO
  have w:=fun X=>(hS.app X).loadCells PO (i:=n) (by rw [d];omega)
  have g:=fun c (kk:IntKind) (H1:NE)=>hS.idx (c:=c) (k:=kk) (H1:=H1) (i:=n) (by rw [d];omega)
  rw [d] at g
  rw [C] at w
  have K:IntKind.i64.wrap (((n+1:Nat):Int)-1)=(n:Int):=by rw [NT (by omega) (by omega)];omega
  have x:=fun X=>(OM.refl.app (X:=X)).cells (z.cells j (by simp))
  have S:0<P.length:=List.length_pos_of_mem hp
  have u:∀b:Nat,XD 50 1 (Vp b) none (some (Vi P.length)) none=some (.slice (Sa b) P.length 50):=fun b=>by
   have:=Nj9 (n:=50) (e:=1) (a:=⟨b,0,none⟩) (lo:=0) (hi:=P.length) (vlo:=none) (vhi:=some (Vi P.length)) (by rw [Nbf (by omega) (by omega),N2]) (by decide) (by decide)
   rw [this];simp [addr_add]
  refine NM ?_
  simp only [n165,Nxn,x,g,w,K,PR,Sg,Sd,Njl,PO,NI,NH,Om,show lim<=y.length by omega,u,SB,Nat.reduceLT,NC,NJ,Nat.reduceEqDiff,NG,NQ,reduceCtorEq,NB,place,NA,Nat.reduceAdd,Nat.reduceLeDiff,ND,Int.reduceEq,Int.reduceLT,Int.reduceLE]
  have r:(RQ 50 (OL P) (ready+86400) L p ready n).length=50:=U8
  have f:((RQ 50 (OL P) (ready+86400) L p ready n).take P.length).length=P.length:=by rw [Oy,r];omega
  have t:=fun Q=>Nmm (Q:=Q) (lim:=lim) (c:=50) (p:=Sa y.length) (l:=(RQ 50 (OL P) (ready+86400) L p ready n).take P.length) (H:=y++[Vc (RU (RQ 50 (OL P) (ready+86400) L p ready n))]) (N2k NV r N) (fun h=>by rw [h] at f;simp at f;omega) (by rw [f];omega)
  rw [f] at t
  refine t _ fun H3 q3 A B=>?_
  refine NM ?_
  simp only [n165,Nxn,SB,Nat.reduceLT,NC,NJ,Nat.reduceEqDiff,NG,NQ,reduceCtorEq,NB,place,NA,Nat.reduceAdd,Nat.reduceLeDiff,ND,Int.reduceEq,Int.reduceLT,Int.reduceLE]
  refine G _ _ _ he ?_ (N4n (VM J) N hp hr v) ((B.le (by simp;omega)).app _) f
  exact (((o.chg).trans z).trans (A.chg.pre)).app
def Nd1 (P:List Int) (p:Int):Int:=if p∈P then (OL P p:Int) else -1
theorem Niu {H:NE} {q:Option Addr} {T:List Int} {i:Nat} (h:Sl H encI 1 q T) (hi:i<T.length):∀X,AM.loadCell (H++X) (YI q 1 i)=some (Vi (gt T i)):=fun X=>by
 rw [(h.app X).loadCell0 RJ hi (by decide)];rfl
theorem N3o {H:NE} {q:Option Addr} {T:List Int} {i n:Nat} (h:Sl H encI 1 q T) (hi:i<n) (a:T.length=n):∀(c:Nat) (k:IntKind) (H1:NE),Zv 1 (.slice q n c) (.int k (i:Int)) H1=some (.pointer (some (YI q 1 i)),H1):=fun c k H1=>by
 subst a;exact h.idx hi
theorem N3y {T:List Int} {i:Nat} (h:i<T.length):gt T i=T.getD i (-1):=by
 rw [PZ h,Na,Nf h];rfl
theorem N8j {L:List Leg} {p t q v:Int} (h:TN L p t q v) (c:t<=OA) (f:0<=t):v<=OA:=by
 rcases h with ⟨rfl,_⟩ | ⟨⟨⟨j,e⟩,_⟩,_⟩
 ·omega
 ·cases e with
  | nil=>exact c
  | snoc _ hl _ hd _=>
    obtain ⟨d,b,a,rfl⟩:=hd
    unfold goes at a
    simp only [Ny,Oa] at a
    exact a.2
theorem N0e {l:Leg} {d:Nat} (hl:l.days=127) (h1:0<=1440*(d:Int)+l.dep-l.cut) (h2:1440*(d:Int)+l.dep+l.mins<=OA):goes l d=true:=by
 have hr:Go.Net.runs l.days d=true:=by
  rw [hl]
  have:d % 7<7:=P1 _ (by decide)
  unfold Go.Net.runs
  generalize d % 7=m at this
  match m,this with
  | 0,_=>rfl
  | 1,_=>rfl
  | 2,_=>rfl
  | 3,_=>rfl
  | 4,_=>rfl
  | 5,_=>rfl
  | 6,_=>rfl
 unfold goes
 rw [hr,Nq h1,Nq h2];rfl
theorem nx {l:Leg} {t:Int} (d:Nat) (hl:l.days=127) (hd:d<730485) (h1:0<=1440*(d:Int)+l.dep-l.cut) (h2:1440*(d:Int)+l.dep+l.mins<=OA) (a:t<=1440*(d:Int)+l.dep-l.cut) (e:1440*((d:Int)-1)+l.dep-l.cut<t):RY l t=some (1440*(d:Int)+l.dep):=
 Nld (by rw [Zo];exact hd) (N0e hl h1 h2) a fun c b ⟨_,h⟩=>by omega
end Go.Proofs.YtkppjkkkdpcgiaaGreat.Fn


namespace Go.Proofs.YtkppjkkkdpcgiaaGreat.Fn
open Go.AM Go.AM.Sym Go.Scan
section
variable {κ ν:Type} [DecidableEq κ]
def Na9 (k:κ):List (κ×ν)->Option ν
 | []=>none
 | (k',v)::l=>if k'=k then some v else Na9 k l
def Ww (k:κ) (v:ν):List (κ×ν)->List (κ×ν)
 | []=>[(k,v)]
 | (k',v')::l=>if k'=k then (k',v)::l else (k',v')::Ww k v l
def fk (k:κ):List (κ×ν)->Nat->Option (Nat×ν)
 | [],_=>none
 | (k',v)::l,i=>if k'=k then some (i,v) else fk k l (i+1)
theorem Npt (k:κ):∀(l:List (κ×ν)) (i:Nat),(fk k l i).map (·.2)=Na9 k l
 | [],_=>rfl
 | (k',v)::l,i=>by
   unfold fk Na9
   by_cases h:k'=k
   ·rw [Ni h,Ni h];rfl
   ·rw [Nh h,Nh h];exact Npt k l (i+1)
theorem Ni1 {k:κ} {v v':ν}:∀{l:List (κ×ν)} {i j:Nat},fk k l i=some (j,v)->i<=j/\j-i<l.length/\l.set (j-i) (k,v')=Ww k v' l
 | [],_,_,h=>by cases h
 | (k2,v2)::l,i,j,h=>by
   unfold fk at h
   unfold Ww
   by_cases h2:k2=k
   ·rw [Ni h2] at h
    cases h
    rw [Ni h2,Qt,h2]
    exact ⟨Nd _,by simp,rfl⟩
   ·rw [Nh h2] at h
    obtain ⟨b,c,a⟩:=Ni1 (v':=v') h
    rw [Nh h2]
    have e:j-i=(j-(i+1))+1:=by omega
    rw [e,Q1,a]
    exact ⟨by omega,by simp only [Nl];omega,rfl⟩
theorem Ni2 {k:κ} {v':ν}:∀{l:List (κ×ν)} {i:Nat},fk k l i=none->l++[(k,v')]=Ww k v' l
 | [],_,_=>rfl
 | (k2,v2)::l,i,h=>by
   unfold fk at h
   unfold Ww
   by_cases h2:k2=k
   ·rw [Ni h2] at h;cases h
   ·rw [Nh h2] at h
    rw [Nh h2,<-Ni2 h,Ox]
theorem Nl5 {k k':κ} {v:ν}:∀{l:List (κ×ν)},Na9 k' (Ww k v l)=if k'=k then some v else Na9 k' l
 | []=>by
   unfold Ww Na9
   by_cases h:k'=k
   ·rw [Ni h.symm,Ni h]
   ·rw [Nh fun q=>h q.symm,Nh h];rfl
 | (k2,v2)::l=>by
   unfold Ww
   by_cases h2:k2=k
   ·rw [Ni h2]
    subst h2
    by_cases h:k'=k2
    ·rw [Ni h];unfold Na9;rw [Ni h.symm]
    ·rw [Nh h];unfold Na9;rw [Nh fun q=>h q.symm,Nh fun q=>h q.symm]
   ·rw [Nh h2]
    by_cases h:k2=k'
    ·have:¬k'=k:=fun q=>h2 (h.trans q)
     rw [Nh this];unfold Na9;rw [Ni h,Ni h]
    ·unfold Na9;rw [Nh h,Nh h];exact Nl5
theorem Ndy {k:κ} {v:ν}:∀{l:List (κ×ν)},(Ww k v l).length<=l.length+1
 | []=>by simp [Ww]
 | (k2,v2)::l=>by
   unfold Ww
   split
   ·simp
   ·have:=Ndy (k:=k) (v:=v) (l:=l);simp only [Nl];omega
def Tm (kv:κ->Value) (vv:ν->Value) (es:List (κ×ν)):List (Value×Value):=es.map fun x=>(kv x.1,vv x.2)
def N2b (kv:κ->Value):Prop:=∀a b,VX (kv a) (kv b)=some (decide (a=b))
variable {kv:κ->Value} {vv:ν->Value}
theorem YE (hk:N2b kv) (k:κ):∀(es:List (κ×ν)) (i:Nat),findKey (kv k) (Tm kv vv es) i=some ((fk k es i).map fun x=>(x.1,vv x.2))
 | [],_=>rfl
 | (k',v)::l,i=>by
   unfold Tm
   rw [Oc]
   unfold findKey fk
   rw [hk]
   by_cases h:k'=k
   ·rw [Ni h,Nq h.symm];rfl
   ·rw [Nh h,N8 fun q=>h q.symm]
    exact YE hk k l (i+1)
end
def kM (k:Int×Int):Value:=.agg #[Vi k.1,Vi k.2]
def kS (k:Int×Int×Int):Value:=.agg #[Vi k.1,Vi k.2.1,.int .u8 k.2.2]
def vI (n:Int):Value:=Vi n
theorem N90:N2b kM:=fun a b=>by
 obtain ⟨c,d⟩:=a;obtain ⟨b1,b2⟩:=b
 simp only [kM,VX,U4,if_true,Nv,Bool.and_true,Prod.mk.injEq,Bool.decide_and]
 rfl
theorem N9y:N2b kS:=fun a b=>by
 obtain ⟨c,d,e⟩:=a;obtain ⟨b1,b2,b3⟩:=b
 simp only [kS,VX,U4,if_true,Nv,Bool.and_true,Prod.mk.injEq,Bool.decide_and]
 rfl
theorem N9z {k:Int×Int}:Us (.ints [.i64,.i64]) (kM k)=true:=by simp [kM,Us,SE]
theorem N9x {k:Int×Int×Int}:Us (.ints [.i64,.i64,.u8]) (kS k)=true:=by simp [kS,Us,SE]
theorem N0g (k:Int×Int):∀l,WR k l=Na9 k l
 | []=>rfl
 | (k',v)::l=>by unfold WR Na9;rw [N0g k l]
theorem Nav (k:Int×Int) (m:Mk):∀l,Xj k m l=Ww k m l
 | []=>rfl
 | (k',v)::l=>by unfold Xj Ww;rw [Nav k m l]
theorem Nll {α β:Type} {f:α->Option β} {g:α->β}:∀{l:List α},(∀x∈l,f x=some (g x))->Y5 f l=some (l.map g)
 | [],_=>rfl
 | x::l,h=>by
   unfold Y5
   rw [h x (by simp),Nll (l:=l) fun y a=>h y (by simp [a])]
   rfl
theorem Ntx {H:NE} {I R lim:Nat} {es:List (Value×Value)} {seen:List Nat} {Q:Value->NE->Prop} (hi:NF H I=.iter (some R) es.length seen) (hl:lim<=I) (hm:NF H R=.map es) (hk:∀e∈es,VG e.1=true)
  (f:SY es.length seen=[]->Q (.tuple #[.bool false]) H)
  (h1:∀j e,j∈SY es.length seen->es[j]? = some e->Q (.tuple #[.bool true,e.1,e.2]) (H.set I (.iter (some R) es.length (seen++[j])))) :
  nxK false (ZG lim (Vp I) H) Q:=by
 have hn:ZG lim (Vp I) H=match SY es.length seen with
   | []=>some [(.tuple #[.bool false],H)]
   | j::l=>Y5 (fun j=>match es[j]? with
     | some e=>if VG e.1 then some (.tuple #[.bool true,e.1,e.2],H.set I (.iter (some R) es.length (seen++[j]))) else none
     | none=>none) (j::l):=by
  unfold ZG
  simp only [hi,hl,if_true,Ua,hm]
  cases SY es.length seen<;>rfl
 rw [hn]
 have d:∀j∈SY es.length seen,j<es.length:=fun j b=>by
  unfold SY at b
  exact List.mem_range.mp (O0.mp b).1
 split
 ·rename_i e
  exact ⟨fun h=>(by cases h),fun r hr=>by
   rw [Nj] at hr;subst hr;exact f e⟩
 ·rename_i j l e
  rw [<-e]
  rw [Nll (g:=fun j=>(.tuple #[.bool true,(es.getD j (undef,undef)).1,(es.getD j (undef,undef)).2],H.set I (.iter (some R) es.length (seen++[j])))) fun j b=>by
   have a:=d j b
   have e1:es[j]? = some es[j]:=Nf a
   have e2:es.getD j (undef,undef)=es[j]:=by rw [Na,e1];rfl
   rw [e1,e2]
   simp only [hk _ (Qn a),if_true]]
  refine ⟨fun h=>(by cases h),fun r hr=>?_⟩
  obtain ⟨c,b,rfl⟩:=List.mem_map.mp hr
  have a:=d c b
  have e1:es[c]? = some es[c]:=Nf a
  have e2:es.getD c (undef,undef)=es[c]:=by rw [Na,e1];rfl
  have:=h1 c _ b e1
  simp only [e2]
  exact this
theorem Npy {H:NE} {I R:Nat} {es:List (Value×Value)} {seen:List Nat} {j:Nat} {e:Value×Value} (hi:NF H I=.iter (some R) es.length (seen++[j])) (hm:NF H R=.map es) (he:es[j]? = some e) (hk:VG e.1=true) :
  YN (Vp I) H=some (.tuple #[e.1,e.2],H):=by
 unfold YN
 simp only [hi,Ua,hm,List.getLast?_concat,he,hk,if_true]
theorem Nn4 {H:NE} {R:Nat} {es:List (Value×Value)} (hm:NF H R=.map es):Ux (.map (some R)) H=some (Vp H.length,H++[.iter (some R) es.length []]):=by
 unfold Ux
 simp only [Ua,hm]
structure MetOk (n:Nat) (seen:List Nat):Prop where
 nd:seen.Nodup
 lt:∀j∈seen,j<n
theorem MetOk.add {n:Nat} {seen:List Nat} (h:MetOk n seen) {j:Nat} (e:j∈SY n seen):MetOk n (seen++[j]):=by
 unfold SY at e
 obtain ⟨h1,h2⟩:=O0.mp e
 have hn:j∉seen:=by simpa using h2
 refine ⟨Qe.mpr ⟨h.nd,List.pairwise_singleton _ _,fun a f b d c=>?_⟩,fun k hk=>?_⟩
 ·rw [Nj] at d;subst d;subst c;exact hn f
 ·rcases Ol.mp hk with hk | hk
  ·exact h.lt k hk
  ·rw [Nj] at hk;subst hk;exact List.mem_range.mp h1
theorem MetOk.len {n:Nat} {seen:List Nat} (h:MetOk n seen):seen.length<=n:=by
 have:=h.nd.length_le_of_subset (l₂:=List.range n) fun j a=>List.mem_range.mpr (h.lt j a)
 simpa using this
theorem MetOk.perm {n:Nat} {seen:List Nat} (h:MetOk n seen) (b:SY n seen=[]):seen.Perm (List.range n):=by
 refine (List.perm_ext_iff_of_nodup h.nd List.nodup_range).mpr fun j=>⟨fun a=>List.mem_range.mpr (h.lt j a),fun a=>?_⟩
 unfold SY at b
 rw [List.filter_eq_nil_iff] at b
 simpa using b j a
def No3 {κ ν:Type} [Inhabited ν] (es:List (κ×ν)) (seen:List Nat):List ν:=seen.map fun j=>gt (es.map (·.2)) j
theorem Nyz {κ ν:Type} [Inhabited ν] {es:List (κ×ν)} {seen:List Nat} (h:MetOk es.length seen) (a:SY es.length seen=[]):(No3 es seen).Perm (es.map (·.2)):=by
 have e:(List.range es.length).map (fun j=>gt (es.map (·.2)) j)=es.map (·.2):=by
  refine Pn (by simp) fun i h1 h2=>?_
  rw [Pu,List.getElem_range,PZ h2]
 have hp:(seen.map fun j=>gt (es.map (·.2)) j).Perm ((List.range es.length).map fun j=>gt (es.map (·.2)) j):=(h.perm a).map _
 rw [e] at hp
 exact hp
def encE (e:Ev):List Value:=[Vi e.item,Vi e.place,Vi e.scanner,.int .u8 e.kind,Vi e.at',Vi e.seen,Vi e.time]
def QL (e:Ev):List Value:=[Vi e.item,Vi e.place,Vi e.scanner,.int .u8 e.kind,Vi e.at',Vi e.seen]
def QT (m:Mk):List Value:=[Vi m.scanner,Vi m.at',Vi m.off]
theorem OC (e:Ev):(encE e).length=7:=id rfl
theorem OU (e:Ev):(QL e).length=6:=id rfl
theorem QJ (e:Mk):(QT e).length=3:=id rfl
theorem QV {e:Ev}:(encE e)[0]? = some (Vi e.item):=id rfl
theorem Rv {e:Ev}:(encE e)[1]? = some (Vi e.place):=id rfl
theorem Ru {e:Ev}:(encE e)[2]? = some (Vi e.scanner):=id rfl
theorem Rt {e:Ev}:(encE e)[3]? = some (.int .u8 e.kind):=id rfl
theorem Rs {e:Ev}:(encE e)[4]? = some (Vi e.at'):=id rfl
theorem Rq {e:Ev}:(encE e)[5]? = some (Vi e.seen):=id rfl
theorem QU {e:Ev}:(encE e)[6]? = some (Vi e.time):=id rfl
theorem Vy {e:Ev}:(QL e)[0]? = some (Vi e.item):=id rfl
theorem Vx {e:Ev}:(QL e)[1]? = some (Vi e.place):=id rfl
theorem Vw {e:Ev}:(QL e)[2]? = some (Vi e.scanner):=id rfl
theorem Vv {e:Ev}:(QL e)[3]? = some (.int .u8 e.kind):=id rfl
theorem Vu {e:Ev}:(QL e)[4]? = some (Vi e.at'):=id rfl
theorem Vt {e:Ev}:(QL e)[5]? = some (Vi e.seen):=id rfl
theorem XQ {m:Mk}:(QT m)[0]? = some (Vi m.scanner):=id rfl
theorem YH {m:Mk}:(QT m)[1]? = some (Vi m.at'):=id rfl
theorem YG {m:Mk}:(QT m)[2]? = some (Vi m.off):=id rfl
theorem UO {e:Ev}:(encE e).take 6=QL e:=id rfl
theorem XL [OB] {mp:Bool} {lim:Nat} {a:Int} {H:NE} {Q:Value->NE->Prop}:NL E mp lim 120 [Vi a] H Q=Q (.bool (decide (1<=a/\a<=999999))) H:=by
 refine pc (by decide) Odc rfl rfl ?_
 rw [Oeg,N76]
 by_cases h1:1<=a
 ·simp only [n120,N87,N7 h1,SB,seval,NC,NJ,NG,NQ,reduceCtorEq,NB,place,NA,ND]
 ·simp only [n120,N87,Nr h1,SB,seval,NC,NJ,NG,NQ,reduceCtorEq,NB,place,NA,ND]
theorem UM [OB] {mp:Bool} {lim:Nat} {a:Int} {H:NE} {Q:Value->NE->Prop}:NL E mp lim 121 [Vi a] H Q=Q (.bool (decide (0<=a/\a<=VE))) H:=by
 refine pc (by decide) Odb rfl rfl ?_
 rw [Oef,N75]
 unfold VE
 by_cases h1:0<=a
 ·simp only [n121,N86,N7 h1,SB,seval,NC,NJ,NG,NQ,reduceCtorEq,NB,place,NA,ND]
 ·simp only [n121,N86,Nr h1,SB,seval,NC,NJ,NG,NQ,reduceCtorEq,NB,place,NA,ND]
theorem YZ [OB] {mp:Bool} {lim:Nat} {e:Ev} {H:NE} {Q:Value->NE->Prop}:NL E mp lim 92 [.agg (QL e).toArray] H Q=Q (.bool (decide (Sb e))) H:=by
 refine pc (by decide) e92 rfl rfl ?_
 rw [b92,c92]
 have no:¬Sb e->decide (Sb e)=false:=fun h=>N8 h
 by_cases h1:1<=e.item/\e.item<=999999
 case neg=>simp only [n92,r92,QL,XL,UM,N8 h1,no (fun h=>h1 h.1),SB,seval,NC,NJ,NG,NQ,reduceCtorEq,NB,place,NA,ND]
 by_cases h2:1<=e.place/\e.place<=999999
 case neg=>simp only [n92,r92,QL,XL,UM,Nq h1,N8 h2,no (fun h=>h2 h.2.1),SB,seval,NC,NJ,NG,NQ,reduceCtorEq,NB,place,NA,ND]
 by_cases a:1<=e.scanner/\e.scanner<=999999
 case neg=>simp only [n92,r92,QL,XL,UM,Nq h1,Nq h2,N8 a,no (fun h=>a h.2.2.1),SB,seval,NC,NJ,NG,NQ,reduceCtorEq,NB,place,NA,ND]
 by_cases b:1<=e.kind
 case neg=>simp only [n92,r92,QL,XL,UM,Nq h1,Nq h2,Nq a,Nr b,no (fun h=>b h.2.2.2.1.1),SB,seval,NC,NJ,NG,NQ,reduceCtorEq,NB,place,NA,ND]
 by_cases h5:e.kind<=4
 case neg=>simp only [n92,r92,QL,XL,UM,Nq h1,Nq h2,Nq a,N7 b,Nr h5,no (fun h=>h5 h.2.2.2.1.2),SB,seval,NC,NJ,NG,NQ,reduceCtorEq,NB,place,NA,ND]
 by_cases c:0<=e.at'/\e.at'<=VE
 case neg=>simp only [n92,r92,QL,XL,UM,Nq h1,Nq h2,Nq a,N7 b,N7 h5,N8 c,no (fun h=>c h.2.2.2.2.1),SB,seval,NC,NJ,NG,NQ,reduceCtorEq,NB,place,NA,ND]
 have d:decide (Sb e)=decide (0<=e.seen/\e.seen<=VE):=by
  rw [decide_eq_decide]
  exact ⟨fun h=>h.2.2.2.2.2,fun h=>⟨h1,h2,a,⟨b,h5⟩,c,h⟩⟩
 simp only [n92,r92,QL,XL,UM,Nq h1,Nq h2,Nq a,N7 b,N7 h5,Nq c,d,SB,seval,NC,NJ,NG,NQ,reduceCtorEq,NB,place,NA,ND]
end Go.Proofs.YtkppjkkkdpcgiaaGreat.Fn


namespace Go.Proofs.YtkppjkkkdpcgiaaGreat.Fn
open Go.AM Go.AM.Sym Go.Net Go.Scan
theorem Ndh [OB] {mp:Bool} {lim B:Nat} {e:Ev} {o:Bool} {H:NE} {Q:Value->NE->Prop} (hB:NF H B=.cells o (QL e)):NL E mp lim 55 [.slice (Sa B) 1 1] H Q=Q (.bool (decide (Sb e))) H:=by
 refine pc (by decide) e55 rfl rfl ?_
 rw [b55,c55]
 have a:=fun X=>(OM.refl.app (X:=X)).cells hB
 have i0:∀k (H1:NE),Zv 6 (.slice (Sa B) 1 1) (.int k 0) H1=some (Vp B,H1):=fun k H1=>by simp [Zv,addr_add]
 have b:IntKind.i64.wrap (0+1)=1:=by decide
 simp only [n55,r55,SB,Nat.reduceLT,NC,NJ,Nat.reduceEqDiff,NG,NQ,reduceCtorEq,NB,place,NA,Nat.reduceAdd,Nat.reduceLeDiff,ND,Int.reduceEq,Int.reduceLT,Int.reduceLE]
 rw [Xz,NS Nrs.eq_1]
 cases h:decide (Sb e) with
 | false=>simp only [n55,r55,a,i0,OU,NI,NH,YZ,h,SB,Nat.reduceLT,NC,NJ,Nat.reduceEqDiff,NG,NQ,reduceCtorEq,NB,place,NA,Nat.reduceAdd,Nat.reduceLeDiff,ND,Int.reduceEq,Int.reduceLT,Int.reduceLE]
 | true=>
   simp only [n55,r55,a,i0,OU,NI,NH,YZ,h,b,SB,Nat.reduceLT,NC,NJ,Nat.reduceEqDiff,NG,NQ,reduceCtorEq,NB,place,NA,Nat.reduceAdd,Nat.reduceLeDiff,ND,Int.reduceEq,Int.reduceLT,Int.reduceLE]
   rw [Uk,NS Nrs.eq_1]
   simp only [n55,r55,SB,Nat.reduceLT,NC,NJ,Nat.reduceEqDiff,NG,NQ,reduceCtorEq,NB,place,NA,Nat.reduceAdd,Nat.reduceLeDiff,ND,Int.reduceEq,Int.reduceLT,Int.reduceLE]
def N0n (es:List Ev) (i:Nat):Prop:=Sb (gt es i)/\0<=(gt es i).time/\(gt es i).time<=OA/\(0<i->(gt es i).item=(gt es 0).item/\(gt es (i-1)).time<=(gt es i).time)
instance (es:List Ev) (i:Nat):Decidable (N0n es i):=by unfold N0n;infer_instance
def Nfw (es:List Ev):Prop:=∀i,i<es.length->N0n es i
instance (es:List Ev):Decidable (Nfw es):=by unfold Nfw;infer_instance
def Yl (P:List Int) (L:List Leg) (es:List Ev):Int:=if R3 P L≠0 then R3 P L else if 40<es.length then 5 else if Nfw es then 0 else 2
theorem N7c {P:List Int} {L:List Leg} {es:List Ev} (h:Yl P L es=0):R3 P L=0/\es.length<=40/\Nfw es:=by
 unfold Yl at h
 split at h
 ·contradiction
 ·split at h
  ·cases h
  ·split at h
   ·rename_i h1 h2 a
    exact ⟨by simpa using h1,by omega,a⟩
   ·cases h
theorem N1c [OB] {mp:Bool} {lim ce:Nat} {pp pl pe:Option Addr} {P:List Int} {L:List Leg} {cp cl:Nat} {es:List Ev} {H:NE} {Q:Value->NE->Prop} (hn:NetIn H pp pl P L) (hs:Sl H encE 7 pe es) (K:es.length<2 ^ 63) :
  NL E mp lim 69 [.agg (Tj pp P.length cp pl L.length cl).toArray,.slice pe es.length ce] H Q=Q (Vi (Yl P L es)) H:=by
 refine pc (by decide) e69 rfl rfl ?_
 rw [b69,c69]
 have w:=fun X (mp:Bool) (lim:Nat) (Q:Value->NE->Prop)=>Nc7 (mp:=mp) (lim:=lim) (cp:=cp) (cl:=cl) (Q:=Q) (hn.app X)
 by_cases r:R3 P L=0
 case neg=>
  have e:Yl P L es=R3 P L:=by unfold Yl;rw [Ni r]
  simp only [n69,r69,PR,Sg,Sd,NI,w,Nr r,e,SB,seval,NC,NJ,NG,NQ,reduceCtorEq,NB,place,NA,ND]
 by_cases u:(40:Int)<(es.length:Int)
 ·have e:Yl P L es=5:=by unfold Yl;rw [Nh (by simpa using r),Ni (by omega)]
  simp only [n69,r69,PR,Sg,Sd,NI,w,N7 r,N7 u,e,SB,seval,NC,NJ,NG,NQ,reduceCtorEq,NB,place,NA,ND]
 have e2:Yl P L es=if Nfw es then 0 else 2:=by unfold Yl;rw [Nh (by simpa using r),Nh (by omega)]
 simp only [n69,r69,PR,Sg,Sd,NI,w,N7 r,Nr u,SB,seval,NC,NJ,NG,NQ,reduceCtorEq,NB,place,NA,ND]
 refine NR (fun i=>es.length-i) (fun i fr G=>i<=es.length/\fr 1=.slice pe es.length ce/\fr 16=.slice pe es.length ce/\fr 17=Vi es.length/\fr 18=Vi i/\OM H G/\∀j,j<i->N0n es j) 0
  ⟨Nz _,rfl,rfl,rfl,by rfl,OM.refl.app,fun j C=>by omega⟩ ?_
 intro i fr G ⟨hi,f1,b,d,f,v,n⟩ A
 rw [NS N5t.eq_1]
 refine NM ?_
 have hl:=v.len
 by_cases a:i<es.length
 case neg=>
  obtain rfl:i=es.length:=by omega
  rw [Ni (show Nfw es from n)] at e2
  simp only [n69,r69,f1,b,d,f,a,e2,SB,seval,NC,NJ,NG,NQ,reduceCtorEq,NB,place,NA,ND]
 have l:=v.sl hs
 have q:=fun X=>(l.app X).loadCells OC a
 have p:=fun c (kk:IntKind) (H1:NE)=>l.idx (c:=c) (k:=kk) (H1:=H1) a
 have s:=fun X=>(l.app X).loadCell OC (i:=0) (j:=0) (by omega) (by decide)
 rw [QV] at s
 replace s:∀X,AM.loadCell (G++X) (((YI pe 7 0).add 0).add 0)=some (Vi (gt es 0).item):=s
 have i0:=fun c (kk:IntKind) (H1:NE)=>l.idx (c:=c) (k:=kk) (H1:=H1) (i:=0) (by omega)
 simp only [Qr] at i0
 have x:IntKind.i64.wrap ((i:Int)+1)=((i+1:Nat):Int):=OG (by omega)
 have m:¬N0n es i->Yl P L es=2:=fun h=>by rw [e2,Nh fun J=>h (J i a)]
 have M:=fun (G:NE) (B:Nat) (o:Bool) (h:NF G B=.cells o (QL (gt es i))) (mp:Bool) (lim:Nat) (Q:Value->NE->Prop)=>Ndh (mp:=mp) (lim:=lim) (Q:=Q) h
 have g:∀(X:NE) (mp:Bool) (lim:Nat) (Q:Value->NE->Prop),NL E mp lim 55 [.slice (Sa (G.length+1)) 1 1] (G++Vc (encE (gt es i))::Vc (QL (gt es i))::X) Q=Q (.bool (decide (Sb (gt es i)))) (G++Vc (encE (gt es i))::Vc (QL (gt es i))::X):=fun X mp lim Q=>Ndh (o:=false) (by rw [NW];rfl)
 by_cases h1:Sb (gt es i)
 case neg=>
  simp only [n69,r69,f1,b,d,f,a,q,p,OC,QV,Rv,Ru,Rt,Rs,Rq,QU,NI,NH,hl,UO,OU,g,N8 h1,SB,seval,NC,NJ,NG,NQ,reduceCtorEq,NB,place,NA,ND]
  rw [m fun h=>h1 h.1]
 by_cases h2:(gt es i).time<0
 ·simp only [n69,r69,f1,b,d,f,a,q,p,OC,QV,Rv,Ru,Rt,Rs,Rq,QU,NI,NH,hl,UO,OU,g,Nq h1,N7 h2,SB,seval,NC,NJ,NG,NQ,reduceCtorEq,NB,place,NA,ND]
  rw [m fun h=>by have:=h.2.1;omega]
 by_cases t:1051898399<(gt es i).time
 ·simp only [n69,r69,f1,b,d,f,a,q,p,OC,QV,Rv,Ru,Rt,Rs,Rq,QU,NI,NH,hl,UO,OU,g,Nq h1,Nr h2,N7 t,SB,seval,NC,NJ,NG,NQ,reduceCtorEq,NB,place,NA,ND]
  rw [m fun h=>by have:=h.2.2.1;unfold OA at this;omega]
 by_cases O:0<i
 case neg=>
  obtain rfl:i=0:=by omega
  have N:IntKind.i64.wrap (0+1)=1:=by decide
  simp only [n69,r69,f1,b,d,f,a,q,p,OC,QV,Rv,Ru,Rt,Rs,Rq,QU,NI,NH,hl,UO,OU,g,Nq h1,Nr h2,Nr t,i0,N,SB,seval,NC,NJ,NG,NQ,reduceCtorEq,NB,place,NA,ND]
  exact A 1 _ _ ⟨by omega,f1,b,d,by rfl,v.app,fun j C=>by
   obtain rfl:j=0:=by omega
   exact ⟨h1,by omega,by unfold OA;omega,fun h=>by omega⟩⟩ (by omega)
 obtain ⟨k,rfl⟩:∃k,i=k+1:=⟨i-1,by omega⟩
 have y:=fun X=>(l.app X).loadCell OC (i:=k) (j:=6) (by omega) (by decide)
 rw [QU] at y
 have D:=fun c (kk:IntKind) (H1:NE)=>l.idx (c:=c) (k:=kk) (H1:=H1) (i:=k) (by omega)
 have F:IntKind.i64.wrap (((k+1:Nat):Int)-1)=(k:Int):=by rw [NT (by omega) (by omega)];omega
 have kp:=N7 (show 0<k+1 by omega)
 by_cases h5:(gt es (k+1)).item=(gt es 0).item
 case neg=>
  simp only [n69,r69,f1,b,d,f,a,q,p,OC,QV,Rv,Ru,Rt,Rs,Rq,QU,NI,NH,hl,UO,OU,g,Nq h1,Nr h2,Nr t,s,i0,kp,Nr h5,SB,seval,NC,NJ,NG,NQ,reduceCtorEq,NB,place,NA,ND]
  rw [m fun h=>h5 (h.2.2.2 (by omega)).1]
 by_cases z:(gt es (k+1)).time<(gt es k).time
 ·simp only [n69,r69,f1,b,d,f,a,q,p,OC,QV,Rv,Ru,Rt,Rs,Rq,QU,NI,NH,hl,UO,OU,g,Nq h1,Nr h2,Nr t,s,i0,kp,N7 h5,y,D,F,N7 z,SB,seval,NC,NJ,NG,NQ,reduceCtorEq,NB,place,NA,ND]
  rw [m fun h=>by have I:=(h.2.2.2 (by omega)).2;rw [Pj] at I;omega]
 simp only [n69,r69,f1,b,d,f,a,q,p,OC,QV,Rv,Ru,Rt,Rs,Rq,QU,NI,NH,hl,UO,OU,g,Nq h1,Nr h2,Nr t,s,i0,kp,N7 h5,y,D,F,Nr z,x,SB,seval,NC,NJ,NG,NQ,reduceCtorEq,NB,place,NA,ND]
 exact A (k+2) _ _ ⟨by omega,f1,b,d,rfl,v.app,fun j C=>by
  rcases Oh j (k+1) with h | h
  ·exact n j h
  ·obtain rfl:j=k+1:=by omega
   exact ⟨h1,by omega,by unfold OA;omega,fun _=>⟨h5,by rw [Pj];omega⟩⟩⟩ (by omega)
def Nlm:Nat:=5000000
theorem Ny5:Nlm=5000000:=rfl
attribute [irreducible] Nlm
def Ncl (P:List Int) (L:List Leg) (p t q:Int):Int:=(RQ 50 (OL P) (t+86400) L p t Nlm).getD (OL P q) (-1)
theorem Nc1 {P:List Int} {L:List Leg} {p t q:Int} (hn:NetOk 50 P L (OL P)) (hp:p∈P) (d:q∈P) (a:0<=t):TN L p t q (Ncl P L p t q):=by
 obtain ⟨n,h1,h2,_⟩:=Nmw (lim:=t+86400) hn hp a (by omega)
 have b:=Nfh hn hp a (by omega:t<=t+86400) h2 q d
 obtain ⟨j,c⟩:∃j,Nlm=n+j:=⟨Nlm-n,by rw [Ny5];omega⟩
 unfold Ncl
 rw [c,Nfg h2 j]
 exact b
def QO (P:List Int) (L:List Leg) (a b:Ev):Int:=
 if a.kind=4 then 80 else if a.place=b.place then 0 else if b.place∉P then 80 else if UD P L a.place a.place a.time≠0 then 80 else
 if Ncl P L a.place a.time b.place<0 then 80 else min (max (Ncl P L a.place a.time b.place-b.time) 0) 60
theorem VD {P:List Int} {L:List Leg} {a b:Ev}:0<=QO P L a b/\QO P L a b<=80:=by
 unfold QO
 repeat' split
 all_goals omega
theorem Yu {α:Type} {G G':NE} {enc:α->List Value} {e:Nat} {p:Option Addr} {l:List α} (h:Sl G enc e p l) (hk:∀a,p=some a->l≠[]->∀ro c,NF G a.block=.cells ro c->NF G' a.block=.cells ro c):Sl G' enc e p l:=by
 cases p with
 | none=>exact h
 | some a=>
   refine ⟨h.1,fun hn=>?_⟩
   obtain ⟨ro,c,h2,b⟩:=h.2 hn
   exact ⟨ro,c,hk a rfl hn _ _ h2,b⟩
def Off {α:Type} (S:List Nat) (p:Option Addr) (l:List α):Prop:=∀a,p=some a->l≠[]->a.block∉S
theorem Off.grow {α:Type} {S:List Nat} {p:Option Addr} {l:List α} {G:NE} {enc:α->List Value} {e b:Nat} (h:Off S p l) (hs:Sl G enc e p l) (g:G.length<=b):Off (b::S) p l:=fun a d hn hm=>by
 subst d
 obtain ⟨ro,c,h2,f⟩:=hs.2 hn
 have:=NK h2
 rcases Np.1 hm with h1 | h1
 ·omega
 ·exact h a rfl hn h1
def WY (S:List Nat) (G:NE) (P:List Int) (L:List Leg) (a t:Int) (v:Value):Prop:=
 (UD P L a a t≠0/\v=Vz)\/(UD P L a a t=0/\∃q T,v=.slice q P.length (loose 1)/\Sl G encI 1 q T/\N8k P L a t T/\Off S q T)
theorem WY.keep {S:List Nat} {G G':NE} {P:List Int} {L:List Leg} {a t:Int} {v:Value} (h:WY S G P L a t v) (hk:∀b ro c,b∉S->NF G b=.cells ro c->NF G' b=.cells ro c):WY S G' P L a t v:=by
 rcases h with h | ⟨h,q,T,h1,h2,e,d⟩
 ·exact .inl h
 ·exact .inr ⟨h,q,T,h1,Yu h2 fun a f hn ro c=>hk _ _ _ (d a f hn),e,d⟩
def MF (ms:List (Int×Int×Value)):List (Value×Value):=ms.map fun x=>(.agg #[Vi x.1,Vi x.2.1],x.2.2)
structure PI (lim R M:Nat) (S:List Nat) (G:NE) (pp pl:Option Addr) (cp cl:Nat) (P:List Int) (L:List Leg):Prop where
 net:NetIn G pp pl P L
 op:Off S pp P
 ol:Off S pl L
 r:NF G R=Vc [.slice pp P.length cp,.slice pl L.length cl,.map (some M)]
 oR:R∉S
 oM:M∉S
 m:∃ms,NF G M=.map (MF ms)/\∀x∈ms,WY S G P L x.1 x.2.1 x.2.2
 lM:lim<=M
 sl:∀j∈S,j<G.length
section
variable {lim R M:Nat} {S:List Nat} {G G':NE} {pp pl:Option Addr} {cp cl:Nat} {P:List Int} {L:List Leg}
theorem PI.alive (h:PI lim R M S G pp pl cp cl P L):M<G.length:=by
 obtain ⟨ms,h1,_⟩:=h.m
 exact PQ h1
theorem NetIn.sim {H:NE} (h:NetIn H pp pl P L) (hk:∀b ro c,NF H b=.cells ro c->NF G b=.cells ro c):NetIn G pp pl P L:=⟨h.sp.sim hk,h.sl.sim hk,h.np,h.nl,h.bys⟩
theorem PI.keep (h:PI lim R M S G pp pl cp cl P L) (hk:∀b ro c,b∉S->NF G b=.cells ro c->NF G' b=.cells ro c) (hM:NF G' M=NF G M) (hl:G.length<=G'.length):PI lim R M S G' pp pl cp cl P L:=by
 obtain ⟨ms,h1,h2⟩:=h.m
 exact ⟨⟨Yu h.net.sp fun a d hn ro c=>hk _ _ _ (h.op a d hn),Yu h.net.sl fun a d hn ro c=>hk _ _ _ (h.ol a d hn),h.net.np,h.net.nl,h.net.bys⟩,h.op,h.ol,hk _ _ _ h.oR h.r,h.oR,h.oM,⟨ms,hM.trans h1,fun x f=>(h2 x f).keep hk⟩,h.lM,fun j e=>by have:=h.sl j e;omega⟩
theorem PI.chg (h:PI lim R M S G pp pl cp cl P L) (hc:Chg S G G'):PI lim R M S G' pp pl cp cl P L:=
 h.keep (fun b ro c a d=>hc.cells d a) (hc.other _ h.alive h.oM) hc.len
theorem PI.app (h:PI lim R M S G pp pl cp cl P L) (X:NE):PI lim R M S (G++X) pp pl cp cl P L:=h.chg Chg.refl.app
theorem PI.chgk (h:PI lim R M S G pp pl cp cl P L) (hc:Chg [M] G G'):∀b ro c,NF G b=.cells ro c->NF G' b=.cells ro c:=fun b ro c a=>hc.cells a fun hm=>by
 obtain ⟨ms,h1,_⟩:=h.m
 rw [Nj.1 hm,h1] at a
 cases a
theorem WY.grow {b:Nat} {a t:Int} {v:Value} (h:WY S G P L a t v) (e:G.length<=b):WY (b::S) G P L a t v:=by
 rcases h with h | ⟨h,q,T,h1,h2,c,d⟩
 ·exact .inl h
 ·exact .inr ⟨h,q,T,h1,h2,c,d.grow h2 e⟩
theorem PI.growC {b:Nat} (h:PI lim R M S G pp pl cp cl P L) (hc:Chg S G G') (d:G.length<=b) (i:b<G'.length):PI lim R M (b::S) G' pp pl cp cl P L:=by
 have h':=h.chg hc
 obtain ⟨ms,h1,h2⟩:=h.m
 have p:=NK h.r
 have hM:=h.alive
 refine ⟨h'.net,h.op.grow h.net.sp d,h.ol.grow h.net.sl d,h'.r, ?_, ?_,⟨ms,(hc.other _ hM h.oM).trans h1,fun x o=>?_⟩,h.lM, ?_⟩
 ·intro hm
  rcases Np.1 hm with e | e
  ·omega
  ·exact h.oR e
 ·intro hm
  rcases Np.1 hm with e | e
  ·omega
  ·exact h.oM e
 ·rcases (h2 x o).grow d with k | ⟨k,q,T,k1,k2,k3,f⟩
  ·exact .inl k
  ·exact .inr ⟨k,q,T,k1,Yu k2 fun a g hn ro c l=>hc.cells l fun hm=>f a g hn (Nk _ hm),k3,f⟩
 ·intro j n
  rcases Np.1 n with e | e
  ·omega
  ·have:=h.sl j e;have:=hc.len;omega
theorem PI.grow {b:Nat} (h:PI lim R M S G pp pl cp cl P L) (X:NE) (c:G.length<=b) (a:b<G.length+X.length):PI lim R M (b::S) (G++X) pp pl cp cl P L:=
 h.growC Chg.refl.app c (by simpa using a)
theorem PI.sub {S':List Nat} (h:PI lim R M S G pp pl cp cl P L) (hS:∀j∈S',j∈S):PI lim R M S' G pp pl cp cl P L:=by
 obtain ⟨ms,h1,h2⟩:=h.m
 refine ⟨h.net,fun a b hn hm=>h.op a b hn (hS _ hm),fun a b hn hm=>h.ol a b hn (hS _ hm),h.r,fun hm=>h.oR (hS _ hm),fun hm=>h.oM (hS _ hm),⟨ms,h1,fun x d=>?_⟩,h.lM,fun j c=>h.sl j (hS _ c)⟩
 rcases h2 x d with k | ⟨k,q,T,k1,k2,k3,e⟩
 ·exact .inl k
 ·exact .inr ⟨k,q,T,k1,k2,k3,fun a b hn hm=>e a b hn (hS _ hm)⟩
end
theorem Ngv {a t:Int}:∀(ms:List (Int×Int×Value)) (i:Nat),(findKey (.agg #[Vi a,Vi t]) (MF ms) i=some none)\/∃j v,(a,t,v)∈ms/\findKey (.agg #[Vi a,Vi t]) (MF ms) i=some (some (j,v))
 | [],i=>.inl rfl
 | (c,d,v)::ms,i=>by
   have e:MF ((c,d,v)::ms)=(.agg #[Vi c,Vi d],v)::MF ms:=rfl
   rw [e,Ni3]
   by_cases h:a=c/\t=d
   ·rw [Ni h]
    obtain ⟨rfl,rfl⟩:=h
    exact .inr ⟨i,v,No ..,rfl⟩
   ·rw [Nh h]
    rcases Ngv ms (i+1) with h1 | ⟨j,w,h1,h2⟩
    ·exact .inl h1
    ·exact .inr ⟨j,w,Nk _ h1,h2⟩
theorem Nod [OB] {lim R M:Nat} {S:List Nat} {pp pl:Option Addr} {P:List Int} {L:List Leg} {cp cl:Nat} {a t:Int} {G:NE} {Q:Value->NE->Prop} (h:PI lim R M S G pp pl cp cl P L) (l:lim<=G.length)
  (A:∀G' v,Chg [M] G G'->PI lim R M S G' pp pl cp cl P L->WY S G' P L a t v->Q v G') :
  NL E false lim 137 [Vp R,Vi a,Vi t] G Q:=by
 refine R8 (by decide) Ocz rfl ?_
 rw [Od3,N7w]
 obtain ⟨ms,hm,w⟩:=h.m
 have k:=h.alive
 have I:=fun X=>(OM.refl.app (X:=X)).cells h.r
 have H:∀X,NF (G++X) M=.map (MF ms):=fun X=>by rw [NN k];exact hm
 have e:Us (.ints [.i64,.i64]) (.agg #[Vi a,Vi t])=true:=rfl
 rcases Ngv (a:=a) (t:=t) ms 0 with u | ⟨j,v,y,u⟩
 case inr=>
  simp only [n137,N2s,I,H,u,e,l,NH,SB,seval,NC,NJ,NG,NQ,reduceCtorEq,NB,place,NA,ND]
  exact A _ v (Chg.refl.app) (h.app _) ((w _ y).keep fun b ro c _ i=>(OM.refl.app).cells i)
 have put:∀(G1:NE) (v:Value),Chg [] G G1->WY S G1 P L a t v->∃G2,(∀X:NE,(G1++X).set M (.map (MF ms++[(Value.agg #[Vi a,Vi t],v)]))=G2++X)/\∀X,Chg [M] G (G2++X)/\PI lim R M S (G2++X) pp pl cp cl P L/\WY S (G2++X) P L a t v:=by
  intro G1 v f y
  have d:NF G1 M=.map (MF ms):=f.get hm k (by simp)
  obtain ⟨G2,e2,h2,D⟩:=OP (PQ d) (.map (MF ms++[(Value.agg #[Vi a,Vi t],v)]))
  have n:∀b ro c,NF G1 b=.cells ro c->NF G2 b=.cells ro c:=fun b ro c i=>D.cells i (by rintro rfl;rw [d] at i;cases i)
  have hk:∀b ro c,NF G b=.cells ro c->NF G2 b=.cells ro c:=fun b ro c i=>n _ _ _ (f.cells i (by simp))
  have z:PI lim R M S G2 pp pl cp cl P L:=by
   refine ⟨h.net.sim hk,h.op,h.ol,hk _ _ _ h.r,h.oR,h.oM,⟨ms++[(a,t,v)],by rw [h2];simp [MF],fun x hx=>?_⟩,h.lM,fun j B=>by have:=h.sl j B;have:=f.len;have:=D.len;omega⟩
   rcases Ol.1 hx with hx | hx
   ·exact (w x hx).keep fun b ro c _=>hk b ro c
   ·rw [Nj] at hx;subst hx;exact y.keep fun b ro c _=>n b ro c
  exact ⟨G2,e2,fun X=>⟨((f.mono (fun j _ B=>by simp at B)).mut D (.inl (by simp))).app,z.app X,(y.keep fun b ro c _=>n b ro c).keep fun b ro c _ i=>(OM.refl.app).cells i⟩⟩
 simp only [n137,N2s,I,H,u,e,l,NH,SB,seval,NC,NJ,NG,NQ,reduceCtorEq,NB,place,NA,ND]
 refine Nwt (P:=P) (L:=L) (cp:=cp) (cl:=cl) (h.net.app _) (by simp;omega) (fun G1 he g=>?_) (fun G1 q T he g J F K=>?_)
 ·have f:=g.pre
  obtain ⟨G2,e2,h2⟩:=put G1 Vz f (.inl ⟨he,rfl⟩)
  have o:=fun X=>(OM.refl.app (X:=X)).cells (g.cells NV (by simp))
  have s:=fun X=>(OM.refl.app (X:=X)).cells (f.cells h.r (by simp))
  have d:NF G1 M=.map (MF ms):=f.get hm k (by simp)
  have p:∀X,NF (G1++X) M=.map (MF ms):=fun X=>by rw [NN (PQ d)];exact d
  refine NM ?_
  simp only [n137,N2s,Nr he,s,o,p,u,e,e2,h.lM,SB,seval,NC,NJ,NG,NQ,reduceCtorEq,NB,place,NA,ND]
  obtain ⟨k1,k3,C⟩:=h2 []
  exact A _ _ k1 k3 C
 ·have f:=g.pre
  obtain ⟨G2,e2,h2⟩:=put G1 (.slice q P.length (loose 1)) f (.inr ⟨he,q,T,rfl,F.sl RJ,J,fun a N _ hm=>by have h1:=(F.block N).1;have h2:=h.sl _ hm;simp at h1;omega⟩)
  have o:=fun X=>(OM.refl.app (X:=X)).cells (g.cells NV (by simp))
  have s:=fun X=>(OM.refl.app (X:=X)).cells (f.cells h.r (by simp))
  have d:NF G1 M=.map (MF ms):=f.get hm k (by simp)
  have p:∀X,NF (G1++X) M=.map (MF ms):=fun X=>by rw [NN (PQ d)];exact d
  refine NM ?_
  simp only [n137,N2s,s,o,p,u,e,e2,h.lM,SB,seval,NC,NJ,NG,NQ,reduceCtorEq,NB,place,NA,ND]
  obtain ⟨k1,k3,C⟩:=h2 []
  exact A _ _ k1 k3 C
theorem Ns1 [OB] {mp:Bool} {lim c:Nat} {p:Option Addr} {P:List Int} {a:Int} {H:NE} {Q:Value->NE->Prop} (hs:Sl H encI 1 p P) (hn:P.length<2 ^ 63) :
  NL E mp lim 136 [.slice p P.length c,Vi a] H Q=Q (Vi (Nd1 P a)) H:=by
 refine pc (by decide) Oc0 rfl rfl ?_
 rw [Od4,N7x]
 simp only [n136,N2t,SB,seval,NC,NJ,NG,NQ,reduceCtorEq,NB,place,NA,ND]
 refine NR (fun j=>P.length-j) (fun j fr G=>j<=P.length/\fr 0=.slice p P.length c/\fr 1=Vi a/\fr 7=Vi P.length/\fr 8=Vi j/\OM H G/\∀i,i<j->gt P i≠a) 0 ⟨Nz _,rfl,rfl,rfl,by rfl,OM.refl.app,fun i hi=>by omega⟩ ?_
 intro j fr G ⟨r,f0,f1,l,m,n,d⟩ o
 rw [NS Nzv.eq_1]
 refine NM ?_
 by_cases b:j<P.length
 case neg=>
  obtain rfl:j=P.length:=by omega
  simp only [n136,N2t,f0,f1,l,m,b,SB,seval,NC,NJ,NG,NQ,reduceCtorEq,NB,place,NA,ND]
  rw [Nd1,Nh fun hm=>?_]
  obtain ⟨i,hi,he⟩:=List.mem_iff_getElem.1 hm
  exact d i hi (by rw [PZ hi];exact he)
 have f:=fun X=>((n.sl hs).app X).loadCell0 RJ b (by decide)
 simp only [encI,O5] at f
 have e:=fun c (k:IntKind) (H1:NE)=>(n.sl hs).idx (c:=c) (k:=k) (H1:=H1) b
 have g:IntKind.i64.wrap ((j:Int)+1)=((j+1:Nat):Int):=OG (by omega)
 by_cases he:a=gt P j
 ·simp only [n136,N2t,f0,f1,l,m,b,e,f,g,N7 he,SB,seval,NC,NJ,NG,NQ,reduceCtorEq,NB,place,NA,ND]
  have hm:a∈P:=he▸R6 b
  rw [Nd1,Ni hm]
  congr 1
  have h1:OL P a<=j:=by
   unfold OL
   apply Oe;intro hc
   have:=List.not_of_lt_findIdx (xs:=P) (p:=(· == a)) (i:=j) (by unfold List.idxOf at hc;omega)
   rw [PZ b] at he
   simp [he] at this
  rcases Oh (OL P a) j with h3 | h3
  ·exfalso
   have hl:OL P a<P.length:=Pe hm
   have:=Q2 hl
   refine d _ h3 ?_
   rw [PZ hl];exact this
  ·omega
 ·simp only [n136,N2t,f0,f1,l,m,b,e,f,g,Nr he,SB,seval,NC,NJ,NG,NQ,reduceCtorEq,NB,place,NA,ND]
  exact o (j+1) _ _ ⟨by omega,f0,f1,l,rfl,n.app,fun i hi=>by
   rcases Oh i j with h | h
   ·exact d i h
   ·obtain rfl:i=j:=by omega
    exact fun q=>he q.symm⟩ (by omega)
theorem Nkq [OB] {lim R M:Nat} {S:List Nat} {pp pl:Option Addr} {P:List Int} {L:List Leg} {cp cl:Nat} {a b:Ev} {G:NE} {Q:Value->NE->Prop} (h:PI lim R M S G pp pl cp cl P L) (d:lim<=G.length) (D:0<=b.time/\b.time<=OA)
  (N:∀G',Chg [M] G G'->PI lim R M S G' pp pl cp cl P L->Q (Vi (QO P L a b)) G') :
  NL E false lim 107 [Vp R,.agg (encE a).toArray,.agg (encE b).toArray] G Q:=by
 refine R8 (by decide) Odg rfl ?_
 rw [Oek,c107]
 have A:=fun X=>(OM.refl.app (X:=X)).cells h.r
 unfold OA at D
 have fin:∀(n:Int) (X:NE),QO P L a b=n->Q (Vi n) (G++X):=fun n X e=>by
  rw [<-e];exact N _ (Chg.refl.app) (h.app _)
 by_cases h1:a.kind=4
 ·simp only [n107,Nn8,A,OC,QV,Rv,Ru,Rt,Rs,Rq,QU,d,N7 h1,SB,seval,NC,NJ,NG,NQ,reduceCtorEq,NB,place,NA,ND]
  exact fin _ _ (by unfold QO;rw [Ni h1])
 by_cases h2:a.place=b.place
 ·simp only [n107,Nn8,A,OC,QV,Rv,Ru,Rt,Rs,Rq,QU,d,Nr h1,N7 h2,SB,seval,NC,NJ,NG,NQ,reduceCtorEq,NB,place,NA,ND]
  exact fin _ _ (by unfold QO;rw [Nh h1,Ni h2])
 have m:=fun X (mp:Bool) (lim:Nat) (Q:Value->NE->Prop)=>Ns1 (mp:=mp) (lim:=lim) (c:=cp) (a:=b.place) (Q:=Q) ((h.net.sp).app X) h.net.np
 by_cases k:b.place∈P
 case neg=>
  have e:Nd1 P b.place=-1:=Nh k
  rw [e] at m
  simp only [n107,Nn8,A,OC,QV,Rv,Ru,Rt,Rs,Rq,QU,d,Nr h1,Nr h2,m,SB,seval,NC,NJ,NG,NQ,reduceCtorEq,NB,place,NA,ND]
  exact fin _ _ (by unfold QO;rw [Nh h1,Nh h2,Ni k])
 have e:Nd1 P b.place=(OL P b.place:Int):=Ni k
 have f:OL P b.place<P.length:=Pe k
 rw [e] at m
 have Y:¬(OL P b.place:Int)<0:=by omega
 simp only [n107,Nn8,A,OC,QV,Rv,Ru,Rt,Rs,Rq,QU,d,Nr h1,Nr h2,m,SB,seval,NC,NJ,NG,NQ,reduceCtorEq,NB,place,NA,ND]
 refine Nod (h.app _) (by simp;omega) fun G1 v K C J=>?_
 have hk:=(h.app [Vc (encE a),Vc (encE b)]).chgk K
 have U:∀b ro c,NF G b=.cells ro c->NF G1 b=.cells ro c:=fun b ro c D=>hk _ _ _ ((OM.refl.app).cells D)
 have B:=K.pre
 have p:=fun X=>(OM.refl.app (X:=X)).cells (hk _ _ _ (show NF (G++[Vc (encE a),Vc (encE b)]) (G.length+1)=Vc (encE b) by rw [NW];rfl))
 have g:∀(n:Int) (X:NE),QO P L a b=n->Q (Vi n) (G1++X):=fun n X e=>by
  rw [<-e];exact N _ (B.app) (C.app _)
 rcases J with ⟨he,rfl⟩ | ⟨he,q,T,rfl,hs,y,_⟩
 ·have H:=N7 (show (0:Int)<=(OL P b.place:Int) by omega)
  refine NM ?_
  simp only [n107,Nn8,OC,QV,Rv,Ru,Rt,Rs,Rq,QU,p,H,SB,seval,NC,NJ,NG,NQ,reduceCtorEq,NB,place,NA,ND]
  exact g _ _ (by unfold QO;rw [Nh h1,Nh h2,Nh (by simpa using k),Ni he])
 ·obtain ⟨J,hp,_,o,I⟩:=Me he
  have l:=VM J
  have s:=y.2 _ k
  rw [<-N3y (by rw [y.1];exact f)] at s
  have ev:=s.uniq (Nc1 l hp k o)
  have lT:=Niu (i:=OL P b.place) hs (by rw [y.1];exact f)
  have xT:=N3o (i:=OL P b.place) hs f y.1
  rw [ev] at lT
  have F:=N8j (Nc1 l hp k o) I o
  have w:QO P L a b=if Ncl P L a.place a.time b.place<0 then 80 else min (max (Ncl P L a.place a.time b.place-b.time) 0) 60:=by
   unfold QO
   rw [Nh h1,Nh h2,Nh (by simpa using k),Nh (by simpa using he)]
  have O:-1<=Ncl P L a.place a.time b.place:=by
   rcases Nc1 l hp k o with ⟨e,_⟩ | ⟨⟨⟨j,V⟩,_⟩,_⟩
   ·omega
   ·have:=V.later l.fine;omega
  generalize Ncl P L a.place a.time b.place=x at *
  unfold OA at F
  have W:IntKind.i64.wrap (x-b.time)=x-b.time:=NT (by omega) (by omega)
  have t:OL P b.place<P.length:=f
  have u:=Nr (show ¬P.length<=OL P b.place by omega)
  refine NM ?_
  by_cases z:x<0
  ·simp only [n107,Nn8,OC,QV,Rv,Ru,Rt,Rs,Rq,QU,p,lT,xT,N7 z,t,u,SB,seval,NC,NJ,NG,NQ,reduceCtorEq,NB,place,NA,ND]
   exact g _ _ (by rw [w,Ni z])
  ·simp only [n107,Nn8,OC,QV,Rv,Ru,Rt,Rs,Rq,QU,p,lT,xT,Nr z,t,u,W,Ny1,Nyy,SB,seval,NC,NJ,NG,NQ,reduceCtorEq,NB,place,NA,ND]
   exact g _ _ (by rw [w,Nh z])
theorem Nij [OB] {lim:Nat} {pp pl:Option Addr} {P:List Int} {L:List Leg} {cp cl:Nat} {H:NE} {Q:Value->NE->Prop} (hn:NetIn H pp pl P L) (b:lim<=H.length)
  (c:∀G R M,OM H G->H.length<=R->H.length<=M->PI lim R M [] G pp pl cp cl P L->Q (Vp R) G) :
  NL E false lim 70 [.agg (Tj pp P.length cp pl L.length cl).toArray] H Q:=by
 refine R8 (by decide) e70 rfl ?_
 rw [b70,c70]
 simp only [n70,r70,Tj,NI,QN,TL,SB,seval,NC,NJ,NG,NQ,reduceCtorEq,NB,place,NA,ND]
 refine c _ _ (H.length+1) OM.refl.app ?_ (by omega) ⟨hn.app _,(fun _ _ _ a=>by cases a),(fun _ _ _ a=>by cases a), ?_,(by simp),(by simp),⟨[], ?_,fun x e=>by cases e⟩,(by omega),(fun j d=>by cases d)⟩
 ·omega
 ·rw [NW];rfl
 ·rw [NW];rfl
def Wn {α:Type} (n:Nat) (G:NE) (enc:α->List Value) (e:Nat) (q:Option Addr) (l:List α):Prop:=Sl G enc e q l/\∀a,q=some a->n<=a.block
theorem Wn.app {α:Type} {n e:Nat} {G:NE} {enc:α->List Value} {q:Option Addr} {l:List α} (h:Wn n G enc e q l) (X:NE):Wn n (G++X) enc e q l:=⟨h.1.app X,h.2⟩
theorem Wn.le {α:Type} {n n' e:Nat} {G:NE} {enc:α->List Value} {q:Option Addr} {l:List α} (h:Wn n G enc e q l) (hl:n'<=n):Wn n' G enc e q l:=⟨h.1,fun a b=>by have:=h.2 a b;omega⟩
theorem Wn.mut {α:Type} {n e R:Nat} {G G':NE} {enc:α->List Value} {q:Option Addr} {l:List α} (h:Wn n G enc e q l) (hm:Mut G G' R) (d:R<n):Wn n G' enc e q l:=
 ⟨Yu h.1 fun a b hn ro c hc=>hm.cells hc (by have:=h.2 a b;omega),h.2⟩
theorem Wn.chg {α:Type} {A:List Nat} {n e:Nat} {G G':NE} {enc:α->List Value} {q:Option Addr} {l:List α} (h:Wn n G enc e q l) (hc:Chg A G G') (b:∀j∈A,j<n):Wn n G' enc e q l:=
 ⟨hc.sl h.1 fun a c _ d=>by have:=b _ d;have:=h.2 a c;omega,h.2⟩
def opB (p:Option Addr):List Nat:=match p with
 | none=>[]
 | some a=>[a.block]
theorem Own.moreF {α:Type} {lim lim' e bytes cap:Nat} {G:NE} {enc:α->List Value} {p:Option Addr} {l:List α} (h:Own lim G enc e p cap l) (n:lim'<=lim) (he:∀x,(enc x).length=e) (i:e≠0) (m:List α) (hm:m≠[]) (g:(l.length+m.length)*bytes<=PN) (hn:l.length+m.length<2 ^ 61)
  (X:NE) {x:Value} {str:Bool} (h1:firstCells (G++X) e str x=some (m.flatMap enc)) (h2:lenOf x=some m.length) :
  ∃G2,OT lim' none e bytes str (.slice p l.length cap) x (G++X)=some (.slice (Sa ((G++X).length)) (l.length+m.length) (loose e),G2++[])/\Own G.length G2 enc e (Sa ((G++X).length)) (loose e) (l++m)/\Chg (opB p) G G2/\(G++X).length<G2.length:=by
 have c:¬m.length=0:=fun q=>hm (List.length_eq_zero_iff.1 q)
 rcases h with ⟨k1,k2,k3⟩ | ⟨R,k1,k2,k3,o⟩
 ·subst k1 k2 k3
  refine ⟨G++(X++[Vc (m.flatMap enc)]), ?_, ?_,Chg.refl.app,by simp⟩
  ·simp only [Ns,N0] at g hn⊢
   simp only [OT,h1,h2,c,if_false,N0]
   rw [Nh (by omega)]
   simp [place]
  ·rw [Ok]
   refine Own.new ?_ (by simp)
   rw [<-Nn];exact NV
 ·subst k1 k2
  have b:=NK k3
  have a:NF (G++X) R=Vc (l.flatMap enc):=by rw [NN b];exact k3
  have d:AM.loadCells (G++X) ⟨R,0,none⟩ (l.length*e)=some (l.flatMap enc):=by
   simp only [PU,a,N0,PS he,Nd,if_true,Ov]
   rw [Og (by rw [PS he];exact Nd _)]
  have f:Mut G (G.set R .dead) R:=⟨by simp,fun j k=>QK k⟩
  refine ⟨G.set R .dead++(X++[Vc ((l++m).flatMap enc)]), ?_, ?_,(Chg.refl.mut f (.inl (by simp [opB]))).app,by simp⟩
  ·simp only [OT,h1,h2,d,a,c,if_false,if_true]
   rw [Nh (by unfold loose;omega)]
   simp [show lim'<=R by omega,place,P4 _ _ b,Nn]
  ·refine Own.new ?_ (by simp)
   rw [<-Nn,show (G++X).length=(G.set R .dead++X).length by simp];exact NV
theorem Nu7 [OB] {lim c:Nat} {p:Option Addr} {l:List Int} {H:NE} {Q:Value->NE->Prop} (hs:Sl H encI 1 p l) (hc:p=none->c=0) (hl:l.length<2 ^ 40)
  (e:∀H' q h,OM H H'->Wn H.length H' encI 1 q l->Q (.slice q l.length h) H') :
  NL E false lim 106 [.slice p l.length c] H Q:=by
 by_cases hn:l=[]
 case neg=>exact Nmm hs hn hl fun H' q i g=>e H' q _ i ⟨g.sl RJ,fun a d=>(g.block d).1⟩
 subst hn
 refine R8 (by decide) N94 rfl ?_
 rw [Oah,N4j]
 cases p with
 | none=>
   obtain rfl:=hc rfl
   have b:aEq .slice Vz Vz=some true:=rfl
   simp only [n106,N6k,b,SB,seval,NC,NJ,NG,NQ,reduceCtorEq,NB,place,NA,ND]
   exact e _ none 0 OM.refl.app ⟨rfl,fun a d=>by cases d⟩
 | some a=>
   have b:aEq .slice (.slice (some a) 0 c) Vz=some false:=rfl
   have f:∀X,OT lim none 1 8 false (.slice (Sa H.length) 0 0) (.slice (some a) 0 c) (H++X)=some (.slice (Sa H.length) 0 0,H++X):=fun X=>by simp [OT,firstCells,lenOf]
   simp only [n106,N6k,b,f,SB,seval,NC,NJ,NG,NQ,reduceCtorEq,NB,place,NA,ND]
   exact e _ (Sa H.length) 0 OM.refl.app ⟨⟨rfl,fun j=>absurd rfl j⟩,fun a d=>by cases d;exact Nd _⟩
def Uo (P:List Int) (L:List Leg) (es:List Ev) (ks:List Int) (i:Nat):Int×Int×Int:=(gt ks i,gt ks (i+1),QO P L (gt es (gt ks i).toNat) (gt es (gt ks (i+1)).toNat))
def R4 (P:List Int) (L:List Leg) (es:List Ev) (ks:List Int):List (Int×Int×Int):=(List.range (ks.length-1)).map (Uo P L es ks)
def Wv:List (Int×Int×Int)->Int
 | []=>0
 | x::l=>x.2.2+Wv l
def SH (P:List Int) (L:List Leg) (es:List Ev) (ks:List Int):Int:=30*((es.length:Int)-ks.length)+Wv (R4 P L es ks)
theorem Nam:∀(l:List (Int×Int×Int)) (x:Int×Int×Int),Wv (l++[x])=Wv l+x.2.2
 | [],x=>by simp [Wv]
 | y::l,x=>by rw [Ox,Wv,Nam l x,Wv];omega
theorem ZP {P:List Int} {L:List Leg} {es:List Ev} {ks:List Int}:∀(n:Nat),0<=Wv ((List.range n).map (Uo P L es ks))/\Wv ((List.range n).map (Uo P L es ks))<=80*n
 | 0=>by simp [Wv]
 | n+1=>by
   rw [Pq,O1,List.map_singleton,Nam]
   have h1:=ZP (P:=P) (L:=L) (es:=es) (ks:=ks) n
   have h2:=VD (P:=P) (L:=L) (a:=gt es (gt ks n).toNat) (b:=gt es (gt ks (n+1)).toNat)
   have e:(Uo P L es ks n).2.2=QO P L (gt es (gt ks n).toNat) (gt es (gt ks (n+1)).toNat):=rfl
   rw [e]
   omega
theorem N2x [OB] {lim R M:Nat} {S:List Nat} {pp pl pe pk:Option Addr} {P:List Int} {L:List Leg} {cp cl ce ck:Nat} {es:List Ev} {ks:List Int} {H:NE} {Q:Value->NE->Prop} (h:PI lim R M S H pp pl cp cl P L) (aj:lim<=H.length)
  (hs:Sl H encE 7 pe es) (bf:es.length<=40) (ht:∀i,i<es.length->0<=(gt es i).time/\(gt es i).time<=OA) (hk:Sl H encI 1 pk ks) (bd:ks.length<2 ^ 20) (ax:pk=none->ck=0) (B:∀k∈ks,0<=k/\k<es.length)
  (hQ:∀G q cq r cr,Chg [M] H G->PI lim R M S G pp pl cp cl P L->Wn H.length G encI 1 q ks->Wn H.length G enc3 3 r (R4 P L es ks)->Q (.agg #[.slice q ks.length cq,.slice r (R4 P L es ks).length cr,Vi (SH P L es ks)]) G) :
  NL E false lim 71 [Vp R,.slice pe es.length ce,.slice pk ks.length ck] H Q:=by
 refine R8 (by decide) e71 rfl ?_
 rw [b71,c71]
 have au:=h.alive
 simp only [n71,r71,SB,seval,NC,NJ,NG,NQ,reduceCtorEq,NB,place,NA,ND]
 refine Nu7 (hk.app _) ax (by omega) fun H1 q cq o ac=>?_
 have w1:IntKind.i64.wrap ((es.length:Int)-ks.length)=(es.length:Int)-ks.length:=NT (by omega) (by omega)
 have w2:IntKind.i64.wrap (30*((es.length:Int)-ks.length))=30*((es.length:Int)-ks.length):=NT (by omega) (by omega)
 have a0:=o.len
 simp at a0
 have s:lim<=H1.length:=by omega
 have ar:Chg [M] H H1:=(OM.chg (A:=[M]) o).pre
 have bc:NF H1 M=NF H M:=(OM.chg (A:=[]) o).pre.other M au (by simp)
 have ao:NF H1 H.length=Vc [Vz,Vz,Vi 0]:=o.cells NV
 have aw:=(h.grow (b:=H.length) [Vc [Vz,Vz,Vi 0]] (Nd _) (by simp)).chg (OM.chg o)
 refine NM ?_
 simp only [n71,r71,w1,w2,s,SB,seval,NC,NJ,NG,NQ,reduceCtorEq,NB,place,NA,ND]
 refine NR (fun x:Nat×Option Addr×Nat=>ks.length-x.1) (fun x fr G=>(x.1=0\/x.1+1<=ks.length)/\fr 0=Vp R/\fr 1=.slice pe es.length ce/\fr 2=.slice pk ks.length ck/\fr 6=Vp H.length/\fr 7=Vp H1.length/\fr 8=Vi ((x.1+1:Nat):Int)/\Chg [M] H G/\Chg [M,H1.length] H1 G/\PI lim R M (opB x.2.1++H1.length::H.length::S) G pp pl cp cl P L/\
   NF G H1.length=Vc [.slice q ks.length cq,.slice x.2.1 x.1 x.2.2,Vi (30*((es.length:Int)-ks.length)+Wv ((List.range x.1).map (Uo P L es ks)))]/\Own (H1.length+1) G enc3 3 x.2.1 x.2.2 ((List.range x.1).map (Uo P L es ks))) (0,none,0)
  ⟨.inl rfl,rfl,rfl,rfl,rfl,by rfl,by rfl,ar.app,Chg.refl.app,aw.grow _ (Nd _) (by simp),by rw [NV];simp [Wv],.nil⟩ ?_
 rintro ⟨i,V,cw⟩ fr G ⟨hi,g0,g1,g2,g6,g7,g8,hC,v,y,hB,I⟩ hN
 simp only at hi g8 y hB I
 rw [NS N5s.eq_1]
 refine NM ?_
 have hl:=hC.len
 have be:=v.len
 have bb:=NK hB
 have F:NF G H.length=Vc [Vz,Vz,Vi 0]:=v.cells ao (by simp;omega)
 have C:((List.range i).map (Uo P L es ks)).length=i:=by simp
 have D:=hs.sim (h.chgk hC)
 have z:=hk.sim (h.chgk hC)
 have ba:=ZP (P:=P) (L:=L) (es:=es) (ks:=ks) i
 by_cases g:i+1<ks.length
 case neg=>
  have ei:ks.length-1=i:=by omega
  have a9:¬((i+1:Nat):Int)<(ks.length:Int):=by omega
  have ap:=fun X=>(OM.refl.app (X:=X)).cells hB
  have al:=fun X=>(OM.refl.app (X:=X)).cells F
  obtain ⟨G2,e2,h2,u⟩:=OP (NK F) (Vc [.slice q ks.length cq,.slice V i cw,Vi (30*((es.length:Int)-ks.length)+Wv ((List.range i).map (Uo P L es ks)))])
  have ak:=fun X=>(OM.refl.app (X:=X)).cells h2
  simp only [n71,r71,g0,g1,g2,g6,g7,g8,g,ap,al,aj,e2,ak,SB,seval,NC,NJ,NG,NQ,reduceCtorEq,NB,place,NA,ND]
  have K:R4 P L es ks=(List.range i).map (Uo P L es ks):=by unfold R4;rw [ei]
  have aq:Chg [M] H G2:=hC.mut u (.inr (Nd _))
  have ag:=(y.chg (Chg.refl.mut u (.inl (by simp)))).sub (S':=S) fun j f=>by simp [f]
  have w:=I.mut u fun a d e=>by have:=(I.block d).1;omega
  have T:∀a,q=some a->H.length<a.block:=fun a d=>by have:=ac.2 a d;simp at this;omega
  have az:Wn H.length G2 encI 1 q ks:=⟨Yu ac.1 (fun a d hn ro c hc=>u.cells (v.cells hc (by have h1:=NK hc;have h2:=T a d;simp;omega)) (by have h2:=T a d;omega)),fun a d=>by have:=T a d;omega⟩
  have:=hQ G2 q cq V cw aq ag az (by rw [K];exact ⟨w.sl OY,fun a d=>by have:=(w.block d).1;omega⟩)
  rw [K,C] at this
  unfold SH at this
  rw [K] at this
  rw [Nb]
  exact this
 have l0:=fun X=>(z.app X).loadCell0 RJ (i:=i) (by omega) (by decide)
 have l1:=fun X=>(z.app X).loadCell0 RJ (i:=i+1) g (by decide)
 simp only [encI,O5] at l0 l1
 have x0:=fun c (k:IntKind) (H1:NE)=>z.idx (c:=c) (k:=k) (H1:=H1) (i:=i) (by omega)
 have x1:=fun c (k:IntKind) (H1:NE)=>z.idx (c:=c) (k:=k) (H1:=H1) (i:=i+1) g
 obtain ⟨a,ea⟩:=Int.eq_ofNat_of_zero_le (B _ (R6 (i:=i) (by omega))).1
 obtain ⟨b,eb⟩:=Int.eq_ofNat_of_zero_le (B _ (R6 g)).1
 have d:a<es.length:=by have:=(B _ (R6 (l:=ks) (i:=i) (by omega))).2;omega
 have hb:b<es.length:=by have:=(B _ (R6 g)).2;omega
 have J:Uo P L es ks i=((a:Int),(b:Int),QO P L (gt es a) (gt es b)):=by unfold Uo;rw [ea,eb];rfl
 rw [ea] at l0
 rw [eb] at l1
 have la:=fun X=>(D.app X).loadCells OC d
 have lb:=fun X=>(D.app X).loadCells OC hb
 have xa:=fun c (k:IntKind) (H1:NE)=>D.idx (c:=c) (k:=k) (H1:=H1) d
 have xb:=fun c (k:IntKind) (H1:NE)=>D.idx (c:=c) (k:=k) (H1:=H1) hb
 have w9:IntKind.i64.wrap (((i+1:Nat):Int)-1)=(i:Int):=by rw [NT (by omega) (by omega)];omega
 have t:lim<=G.length:=by omega
 simp only [n71,r71,g0,g1,g2,g6,g7,g8,t,g,w9,l0,l1,x0,x1,la,lb,xa,xb,SB,seval,NC,NJ,NG,NQ,reduceCtorEq,NB,place,NA,ND]
 refine Nkq (a:=gt es a) (y.grow [Vc [Vi a,Vi b,Vi 0]] (Nd _) (by simp)) (by simp;omega) (ht b hb) fun G1 n ae=>?_
 have ah:=(y.grow [Vc [Vi a,Vi b,Vi 0]] (Nd _) (by simp)).chgk n
 have Z:NF G1 G.length=Vc [Vi a,Vi b,Vi 0]:=ah _ _ _ NV
 have an:=ah _ _ _ ((OM.refl.app).cells hB)
 have a1:=n.len
 simp at a1
 have ad:Own (H1.length+1) G1 enc3 3 V cw ((List.range i).map (Uo P L es ks)):=(I.app _).chg n fun a d hm=>by have:=(I.block d).1;simp at hm;omega
 generalize hp:QO P L (gt es a) (gt es b)=p at J
 have a3:=VD (P:=P) (L:=L) (a:=gt es a) (b:=gt es b)
 rw [hp] at a3
 obtain ⟨G2,e2,h2,u⟩:=OP (NK Z) (Vc [Vi a,Vi b,Vi p])
 have aa:=u.cells an (by omega)
 have w:=ad.mut u fun a d e=>by have:=(I.block d).2;omega
 have wp:IntKind.i64.wrap (30*((es.length:Int)-ks.length)+Wv ((List.range i).map (Uo P L es ks))+p)=30*((es.length:Int)-ks.length)+Wv ((List.range (i+1)).map (Uo P L es ks)):=by
  rw [Pq,O1,List.map_singleton,Nam,J,<-Int.add_assoc]
  exact NT (by omega) (by omega)
 obtain ⟨W,e3,h3,U⟩:=OP (NK aa) (Vc [.slice q ks.length cq,.slice V i cw,Vi (30*((es.length:Int)-ks.length)+Wv ((List.range (i+1)).map (Uo P L es ks)))])
 have av:=w.mut U fun a d e=>by have:=(I.block d).1;omega
 have am:=U.cells h2 (by omega)
 have a6:=u.len
 have a7:=U.len
 obtain ⟨G4,Y,O4,C4,ai⟩:=Own.moreF av (lim':=lim) (bytes:=24) (by omega) OY (by decide) [((a:Int),(b:Int),p)] (by simp) (by rw [C];unfold PN;simp;omega) (by rw [C];simp;omega) [Vc [Vi a,Vi b,Vi p]] (x:=.slice (Sa W.length) 1 1) (str:=false)
  (Vk (m:=[((a:Int),(b:Int),p)]) (Sl.row (ro:=false) OY (by rw [NV];rfl))) rfl
 rw [C] at Y
 have eN:(List.range i).map (Uo P L es ks)++[((a:Int),(b:Int),p)]=(List.range (i+1)).map (Uo P L es ks):=by rw [Pq,O1,List.map_singleton,J]
 rw [eN] at O4
 have O:∀j,j∈opB V->H1.length+1<=j/\j<G.length:=fun j f=>by
  cases hpe:V with
  | none=>rw [hpe] at f;cases f
  | some a=>rw [hpe] at f;have:=I.block hpe;simp [opB] at f;omega
 generalize a2:(W++[Vc [Vi a,Vi b,Vi p]]).length=r at Y O4 ai
 have a4:W.length<=r:=by rw [<-a2];simp
 generalize loose 3=c' at Y O4
 simp only [Nl,Ns,N0] at Y
 have ab:=C4.cells h3 fun hm=>by have:=O _ hm;omega
 obtain ⟨G5,e5,h5,m5⟩:=OP (NK ab) (Vc [.slice q ks.length cq,.slice (Sa r) (i+1) c',Vi (30*((es.length:Int)-ks.length)+Wv ((List.range (i+1)).map (Uo P L es ks)))])
 have X1:=fun X=>(OM.refl.app (X:=X)).cells Z
 have X2:=fun X=>(OM.refl.app (X:=X)).cells aa
 have X3:=fun X=>(OM.refl.app (X:=X)).cells h2
 have X4:=fun X=>(OM.refl.app (X:=X)).cells h3
 have X5:=fun X=>(OM.refl.app (X:=X)).cells am
 have X6:=fun X=>(OM.refl.app (X:=X)).cells ab
 have a5:IntKind.i64.wrap (((i+1:Nat):Int)+1)=((i+2:Nat):Int):=OG (by omega)
 have N:lim<=H1.length:=s
 refine NM ?_
 simp only [n71,r71,g0,g1,g2,g6,g7,g8,t,N,X1,e2,X2,X3,e3,X4,X5,X6,Y,e5,wp,a5,SB,seval,NC,NJ,NG,NQ,reduceCtorEq,NB,place,NA,ND]
 have k1:Chg [M] H W:=((hC.trans n.pre).mut u (.inr (by omega))).mut U (.inr (by omega))
 have k2:Chg [M] H G5:=(k1.trans' C4 fun j f ay=>by have:=O j f;omega).mut m5 (.inr (by omega))
 have k3:Chg [M,H1.length] H1 W:=((v.trans (n.pre.mono fun j _ f=>by simp at f;simp [f])).mut u (.inr (by omega))).mut U (.inl (by simp))
 have k4:Chg [M,H1.length] H1 G5:=(k3.trans' C4 fun j f ay=>by have:=O j f;omega).mut m5 (.inl (by simp))
 have k5:=ae.chg ((Chg.refl.mut u (.inl (by simp))).mut U (.inl (by simp)))
 have k6:=k5.growC (b:=r) (G':=G4) (C4.mono fun j _ f=>by simp [f]) a4 ai
 have k7:=(k6.chg (Chg.refl.mut m5 (.inl (by simp)))).sub (S':=opB (Sa r)++H1.length::H.length::S) fun j f=>by
  simp [opB] at f
  rcases f with e | e | e | e
  ·simp [e]
  ·simp [e]
  ·simp [e]
  ·simp [e]
 have k8:=(O4.mut m5 fun a d e=>by cases d;simp at e;omega).le (lim':=H1.length+1) (by omega)
 exact hN (i+1,Sa r,c') _ _ ⟨.inr g,g0,g1,g2,g6,g7,by rfl,k2.app,k4.app,k7.app _,(OM.refl.app).cells h5,k8.app _⟩ (by show ks.length-(i+1)<ks.length-i;omega)
def Ncd (n:Nat) (ks:List Int) (i:Nat):Prop:=0<=gt ks i/\gt ks i<n/\(0<i->gt ks (i-1)<gt ks i)
instance (n:Nat) (ks:List Int) (i:Nat):Decidable (Ncd n ks i):=by unfold Ncd;infer_instance
def Nfv (n:Nat) (ks:List Int):Prop:=(ks.length=0->n=0)/\∀i,i<ks.length->Ncd n ks i
instance (n:Nat) (ks:List Int):Decidable (Nfv n ks):=by unfold Nfv;infer_instance
theorem Nqj {n:Nat} {ks:List Int} (h:∀i,i<ks.length->Ncd n ks i):∀i,i<ks.length->(i:Int)<=gt ks i
 | 0,hi=>(h 0 hi).1
 | i+1,hi=>by
   have h1:=Nqj h i (by omega)
   have h2:=(h (i+1) hi).2.2 (by omega)
   rw [Pj] at h2
   omega
theorem Njd {n:Nat} {ks:List Int} (h:∀i,i<ks.length->Ncd n ks i):ks.length<=n:=by
 apply Oe;intro hc
 have h1:=Nqj h (ks.length-1) (by omega)
 have h2:=(h (ks.length-1) (by omega)).2.1
 omega
theorem Nfv.mem {n:Nat} {ks:List Int} (h:Nfv n ks):∀k∈ks,0<=k/\k<n:=fun k hk=>by
 obtain ⟨i,hi,rfl⟩:=List.mem_iff_getElem.1 hk
 have:=h.2 i hi
 rw [<-PZ hi]
 exact ⟨this.1,this.2.1⟩
abbrev ZH:=Int×Int×Int
def Y6 (x y:ZH):Bool:=decide (x.1<y.1\/(x.1=y.1/\y.2.1<x.2.1))
theorem Nrh [OB] {mp:Bool} {lim:Nat} {x y:ZH} {H:NE} {Q:Value->NE->Prop}:NL E mp lim 108 [.agg (enc3 x).toArray,.agg (enc3 y).toArray] H Q=Q (.bool (Y6 x y)) H:=by
 refine pc (by decide) Odf rfl rfl ?_
 rw [Oej,N78]
 obtain ⟨a,b,c⟩:=x
 obtain ⟨a',b',d⟩:=y
 have e0:Y6 (a,b,c) (a',b',d)=decide (a<a'\/(a=a'/\b'<b)):=rfl
 rw [e0]
 by_cases h1:a<a'
 ·have e:=Nq (show a<a'\/(a=a'/\b'<b) from .inl h1)
  rw [e]
  simp only [n108,N6j,enc3,N7 h1,SB,seval,NC,NJ,NG,NQ,reduceCtorEq,NB,place,NA,ND]
 by_cases h2:a=a'
 ·have e:decide (a<a'\/(a=a'/\b'<b))=decide (b'<b):=decide_eq_decide.2 ⟨fun h=>by omega,fun h=>.inr ⟨h2,h⟩⟩
  rw [e]
  simp only [n108,N6j,enc3,Nr h1,N7 h2,SB,seval,NC,NJ,NG,NQ,reduceCtorEq,NB,place,NA,ND]
 ·have e:=N8 (show ¬(a<a'\/(a=a'/\b'<b)) by omega)
  rw [e]
  simp only [n108,N6j,enc3,Nr h1,Nr h2,SB,seval,NC,NJ,NG,NQ,reduceCtorEq,NB,place,NA,ND]
def YM (P:List Int) (L:List Leg) (es:List Ev) (T:List ZH) (i j:Nat):ZH:=(QO P L (gt es i) (gt es j)+30*((j:Int)-i-1)+(gt T j).1,(gt T j).2.1+1,(j:Int))
def V6 (x r:ZH):ZH:=if Y6 x r then x else r
def RH (P:List Int) (L:List Leg) (es:List Ev) (T:List ZH) (i:Nat):Nat->ZH
 | 0=>(30*((es.length:Int)-1-i),1,-1)
 | m+1=>V6 (RH P L es T i m) (YM P L es T i (es.length-1-m))
def OI (P:List Int) (L:List Leg) (es:List Ev):Nat->List ZH
 | 0=>List.replicate es.length (0,0,0)
 | k+1=>(OI P L es k).set (es.length-1-k) (RH P L es (OI P L es k) (es.length-1-k) k)
theorem Ud {P:List Int} {L:List Leg} {es:List Ev}:∀k,(OI P L es k).length=es.length
 | 0=>by simp [OI]
 | k+1=>by rw [OI,P3,Ud k]
def N1y (T:List ZH):Prop:=∀j,0<=(gt T j).1/\(gt T j).1<=10000/\0<=(gt T j).2.1/\(gt T j).2.1<=40
theorem Nu1 {x:ZH} {a b c:Value}:(((enc3 x).set 0 a).set 1 b).set 2 c=[a,b,c]:=id rfl
theorem N9s {G:NE} {c:Blk}:OD G.length [0] (G++[c])=G++[.dead]:=by
 show (G++[c]).set (G.length+0) .dead=_
 rw [Pw,Qd _ _ (Nd _),Qt];rfl
theorem N2e {G G1:NE} {c:Blk}:NY G.length [0] (G++[c]) G1=G1.set G.length c:=by
 show G1.set (G.length+0) (NF (G++[c]) (G.length+0))=_
 rw [Pw,NV];rfl
theorem N0b [OB] {lim R M B8 BT:Nat} {S:List Nat} {pp pl pe:Option Addr} {P:List Int} {L:List Leg} {cp cl ce ct:Nat} {es:List Ev} {T:List ZH} {i:Nat} {G:NE} {fr:Nat->Value} {K:List AItem} {Z:Value->NE->Prop} (hi:i<es.length) (F:lim<=B8) (hS:B8∈S) (ab:BT∈S)
  (ak:es.length<=40) (ht:∀i,i<es.length->0<=(gt es i).time/\(gt es i).time<=OA) (hT:T.length=es.length) (ah:N1y T)
  (hP:PI lim R M S G pp pl cp cl P L) (hs:Sl G encE 7 pe es) (C:NF G BT=Vc (T.flatMap enc3)) (h:NF G B8=Vc (enc3 (RH P L es T i 0)))
  (f0:fr 0=Vp R) (f1:fr 1=.slice pe es.length ce) (f5:fr 5=.slice (Sa BT) T.length ct) (f6:fr 6=.func (.func 108) #[] #[]) (f7:fr 7=Vi i) (f8:fr 8=Vp B8) (f9:fr 9=Vi ((es.length:Int)-1))
  (hR:∀fr' G',Chg [M,B8] G G'->PI lim R M S G' pp pl cp cl P L->NF G' B8=Vc (enc3 (RH P L es T i (es.length-1-i)))->(∀j,j<=8->fr' j=fr j)->PV E a72 lim K fr' G' Z) :
  PV E a72 lim (.code (.loop Nzo)::.inBlock 2::K) fr G Z:=by
 refine NR (fun m=>es.length-m) (fun m fr' G'=>m<=es.length-1-i/\Chg [M,B8] G G'/\PI lim R M S G' pp pl cp cl P L/\NF G' B8=Vc (enc3 (RH P L es T i m))/\(∀j,j<=8->fr' j=fr j)/\fr' 9=Vi ((es.length:Int)-1-m)) 0
  ⟨Nz _,Chg.refl,hP,h,fun j _=>rfl,by rw [f9];simp⟩ ?_
 intro m fr' G' ⟨hm,s,l,hB,d,z⟩ hN
 rw [NS Nzo.eq_1]
 have U:=(d 0 (by decide)).trans f0
 have V:=(d 1 (by decide)).trans f1
 have W:=(d 5 (by decide)).trans f5
 have Y:=(d 6 (by decide)).trans f6
 have J:=(d 7 (by decide)).trans f7
 have g8:=(d 8 (by decide)).trans f8
 refine NM ?_
 by_cases am:m<es.length-1-i
 case neg=>
  obtain rfl:m=es.length-1-i:=by omega
  have O:(es.length:Int)-1-((es.length-1-i:Nat):Int)=(i:Int):=by omega
  rw [O] at z
  simp only [n72,r72,J,z,SB,seval,NC,NJ,NG,NQ,reduceCtorEq,NB,place,NA,ND]
  exact hR _ _ s.app (l.app _) ((OM.refl.app).cells hB) fun j A=>by
   rw [<-d j A]
   simp only [upd]
   repeat rw [Nh (by omega)]
 generalize A:es.length-1-m=j
 have O:(es.length:Int)-1-(m:Int)=(j:Int):=by omega
 rw [O] at z
 have u:j<es.length:=by omega
 have ac:i<j:=by omega
 have ae:BT≠B8:=by
  rintro rfl
  rw [C] at h
  simp only [Blk.cells.injEq,Rf] at h
  have:=Qg List.length h
  rw [PS OY,OY] at this
  omega
 have H:BT≠M:=fun e=>l.oM (e▸ab)
 have w:Sl G' enc3 3 (Sa BT) T:=Sl.row (ro:=false) OY (s.cells C (by simp;exact ⟨H,ae⟩))
 have B:∀a,pe=some a->es≠[]->a.block≠B8:=fun a ha hn e=>by
  subst ha
  obtain ⟨ro,c,k1,k2,_⟩:=hs.2 hn
  rw [e,h] at k1
  simp only [Blk.cells.injEq] at k1
  rw [<-k1.2,OY] at k2
  omega
 have o:Sl G' encE 7 pe es:=Yu hs fun a ha hn ro c hc=>s.cells hc (by
  have h1:=B a ha hn
  have h2:a.block≠M:=fun e=>by obtain ⟨ms,k1,_⟩:=hP.m;rw [e,k1] at hc;cases hc
  simp;exact ⟨h2,h1⟩)
 have la:=fun X=>(o.app X).loadCells OC hi
 have lb:=fun X=>(o.app X).loadCells OC u
 have xa:=fun c (k:IntKind) (H1:NE)=>o.idx (c:=c) (k:=k) (H1:=H1) hi
 have xb:=fun c (k:IntKind) (H1:NE)=>o.idx (c:=c) (k:=k) (H1:=H1) u
 have t:j<T.length:=by omega
 have l0:=fun X=>(w.app X).loadCell OY t (j:=0) (by decide)
 have l1:=fun X=>(w.app X).loadCell OY t (j:=1) (by decide)
 simp only [enc3,O5,Qu] at l0 l1
 have xj:=fun c (k:IntKind) (H1:NE)=>w.idx (c:=c) (k:=k) (H1:=H1) t
 have an:=ah j
 have w1:IntKind.i64.wrap ((j:Int)-i)=(j:Int)-i:=NT (by omega) (by omega)
 have w2:IntKind.i64.wrap ((j:Int)-i-1)=(j:Int)-i-1:=NT (by omega) (by omega)
 have w3:IntKind.i64.wrap (30*((j:Int)-i-1))=30*((j:Int)-i-1):=NT (by omega) (by omega)
 have w4:IntKind.i64.wrap ((gt T j).2.1+1)=(gt T j).2.1+1:=NT (by omega) (by omega)
 have N:=Nq (show i<j from ac)
 simp only [n72,r72,U,V,W,Y,J,g8,z,N,la,lb,xa,xb,l0,l1,xj,w1,w2,w3,w4,SB,seval,NC,NJ,NG,NQ,reduceCtorEq,NB,place,NA,ND]
 have ai:=NK h
 have al:=s.len
 refine Nkq (a:=gt es i) (b:=gt es j) (l.grow [.dead] (Nd _) (by simp)) (by simp;omega) (ht j u) fun G1 n D=>⟨Ni7 ?_, ?_⟩
 ·rw [N9s]
  exact (l.grow [.dead] (Nd _) (by simp)).chgk n
 have ad:=n.len
 simp at ad
 obtain ⟨G2,e2,h2,m2⟩:=OP (show G'.length<G1.length by omega) (Vc [Vi 0,Vi 0,Vi 0])
 have eu:NY (List.length G') [0] (G'++[Vc [Vi 0,Vi 0,Vi 0]]) G1=G2++[]:=by rw [N2e,<-e2,Nb]
 rw [Nb,eu]
 generalize hp:QO P L (gt es i) (gt es j)=p
 have ag:=VD (P:=P) (L:=L) (a:=gt es i) (b:=gt es j)
 rw [hp] at ag
 have w5:IntKind.i64.wrap (p+30*((j:Int)-i-1))=p+30*((j:Int)-i-1):=NT (by omega) (by omega)
 have w6:IntKind.i64.wrap (p+30*((j:Int)-i-1)+(gt T j).1)=p+30*((j:Int)-i-1)+(gt T j).1:=NT (by omega) (by omega)
 have w7:IntKind.i64.wrap ((j:Int)-1)=(es.length:Int)-1-((m+1:Nat):Int):=by rw [NT (by omega) (by omega)];omega
 obtain ⟨G3,e3,h3,m3⟩:=OP (NK h2) (Vc [Vi (p+30*((j:Int)-i-1)+(gt T j).1),Vi ((gt T j).2.1+1),Vi j])
 have aa:=(l.app [.dead]).chgk n _ _ _ ((OM.refl.app).cells hB)
 have aj:=NK hB
 have r:=m3.cells (m2.cells aa (by omega)) (by omega)
 have ec:YM P L es T i j=(p+30*((j:Int)-i-1)+(gt T j).1,(gt T j).2.1+1,(j:Int)):=by unfold YM;rw [hp]
 have f:∀(X:NE) (mp:Bool) (lim:Nat) (Q:Value->NE->Prop),NL E mp lim 108 [.agg (enc3 (RH P L es T i m)).toArray,.agg #[Vi (p+30*((j:Int)-i-1)+(gt T j).1),Vi ((gt T j).2.1+1),Vi j]] X Q=Q (.bool (Y6 (RH P L es T i m) (YM P L es T i j))) X:=fun X mp lim Q=>by rw [ec];exact Nrh (x:=RH P L es T i m) (y:=(p+30*((j:Int)-i-1)+(gt T j).1,(gt T j).2.1+1,(j:Int)))
 have I:RH P L es T i (m+1)=V6 (RH P L es T i m) (YM P L es T i j):=by rw [RH,A]
 have X2:=fun X=>(OM.refl.app (X:=X)).cells h2
 have X3:=fun X=>(OM.refl.app (X:=X)).cells h3
 have XB:=fun X=>(OM.refl.app (X:=X)).cells r
 have k1:Chg [M,B8] G G3:=((s.trans (n.pre.mono fun j _ A=>by simp at A;simp [A])).mut m2 (.inr (by have:=s.len;omega))).mut m3 (.inr (by have:=s.len;omega))
 have k2:=D.chg ((Chg.refl.mut m2 (.inl (by simp))).mut m3 (.inl (by simp)))
 have g:lim<=G'.length:=by omega
 cases hb:Y6 (RH P L es T i m) (YM P L es T i j) with
 | true=>
   rw [hb] at f
   rw [V6,Ni hb] at I
   simp only [n72,r72,U,V,W,Y,J,g8,z,w5,w6,w7,X2,e3,X3,XB,OY,NI,f,g,SB,seval,NC,NJ,NG,NQ,reduceCtorEq,NB,place,NA,ND]
   exact hN (m+1) _ _ ⟨by omega,k1.app,k2.sub (fun q v=>by simp [v]) |>.app _,by rw [I];exact (OM.refl.app).cells r,fun q v=>by
    rw [<-d q v]
    simp only [upd]
    repeat rw [Nh (by omega)],by rfl⟩ (by omega)
 | false=>
   rw [hb] at f
   rw [V6,Nh (by rw [hb];decide),ec] at I
   obtain ⟨G4,e4,h4,m4⟩:=OP (NK r) (Vc [Vi (p+30*((j:Int)-i-1)+(gt T j).1),Vi ((gt T j).2.1+1),Vi j])
   simp only [n72,r72,U,V,W,Y,J,g8,z,w5,w6,w7,X2,e3,X3,XB,OY,NI,f,g,F,e4,Nu1,SB,seval,NC,NJ,NG,NQ,reduceCtorEq,NB,place,NA,ND]
   exact hN (m+1) _ _ ⟨by omega,(k1.mut m4 (.inl (by simp))).app,((k2.chg (Chg.refl.mut m4 (.inl (by simp [hS])))).sub (fun q v=>by simp [v])).app _,by rw [I];exact (OM.refl.app).cells h4,fun q v=>by
    rw [<-d q v]
    simp only [upd]
    repeat rw [Nh (by omega)],by rfl⟩ (by omega)
def Bnd (n j:Nat) (x:ZH):Prop:=0<=x.1/\x.1<=110*((n:Int)-1-j)/\0<=x.2.1/\x.2.1<=(n:Int)-j/\-1<=x.2.2/\x.2.2<n
theorem Ns3 {n j:Nat} {x y:ZH} (a:Bnd n j x) (b:Bnd n j y):Bnd n j (V6 x y):=by
 unfold V6
 split
 ·exact a
 ·exact b
theorem Ngp {P:List Int} {L:List Leg} {es:List Ev} {T:List ZH} {i:Nat} (c:∀j,j<es.length->Bnd es.length j (gt T j)) (hi:i<es.length):∀m,m<=es.length-1-i->Bnd es.length i (RH P L es T i m)
 | 0,_=>by
   unfold RH Bnd
   refine ⟨?_, ?_, ?_, ?_, ?_, ?_⟩<;>simp only<;>omega
 | m+1,hm=>by
   rw [RH]
   refine Ns3 (Ngp c hi m (by omega)) ?_
   have h1:=c (es.length-1-m) (by omega)
   have h2:=VD (P:=P) (L:=L) (a:=gt es i) (b:=gt es (es.length-1-m))
   unfold YM Bnd at *
   refine ⟨?_, ?_, ?_, ?_, ?_, ?_⟩<;>simp only<;>omega
theorem Niz {α:Type} [Inhabited α] {l:List α} {i j:Nat} {x:α} (hi:i<l.length):gt (l.set i x) j=if i=j then x else gt l j:=by
 unfold gt
 rw [Na,N3,Na]
 split
 ·simp [hi]
 ·rfl
theorem X9 {P:List Int} {L:List Leg} {es:List Ev}:∀k,k<=es.length->∀j,j<es.length->Bnd es.length j (gt (OI P L es k) j)
 | 0,_,j,hj=>by
   rw [OI,PZ (by simpa using hj),List.getElem_replicate]
   unfold Bnd
   refine ⟨?_, ?_, ?_, ?_, ?_, ?_⟩<;>simp only<;>omega
 | k+1,hk,j,hj=>by
   rw [OI,Niz (by rw [Ud];omega)]
   split
   ·rename_i e
    subst e
    exact Ngp (X9 k (by omega)) hj k (by omega)
   ·exact X9 k (by omega) j hj
theorem Nvh {n:Nat} {T:List ZH} (hn:n<=40) (b:T.length=n) (h:∀j,j<n->Bnd n j (gt T j)):N1y T:=fun j=>by
 by_cases a:j<n
 ·have:=h j a
  unfold Bnd at this
  omega
 ·have e:gt T j=(0,0,0):=by unfold gt;rw [Na,Nw (by omega)];rfl
  rw [e]
  refine ⟨?_, ?_, ?_, ?_⟩<;>simp only<;>omega
def Yd (n j:Nat) (x:ZH):Prop:=x.2.2=-1\/((j:Int)<x.2.2/\x.2.2<n)
theorem Ndt {P:List Int} {L:List Leg} {es:List Ev} {T:List ZH} {i:Nat}:∀m,m<=es.length-1-i->Yd es.length i (RH P L es T i m)
 | 0,_=>.inl rfl
 | m+1,hm=>by
   rw [RH,V6]
   split
   ·exact Ndt m (by omega)
   ·refine .inr ⟨?_, ?_⟩<;>simp only [YM]<;>omega
theorem Um {P:List Int} {L:List Leg} {es:List Ev}:∀k,k<=es.length->∀j,es.length-k<=j->j<es.length->Yd es.length j (gt (OI P L es k) j)
 | 0,_,j,h1,h2=>by omega
 | k+1,hk,j,h1,hj=>by
   rw [OI,Niz (by rw [Ud];omega)]
   split
   ·rename_i e
    subst e
    exact Ndt k (by omega)
   ·exact Um k (by omega) j (by omega) hj
def Nal (T:List ZH) (i:Nat):ZH:=(30*(i:Int)+(gt T i).1,(gt T i).2.1,(i:Int))
def Uz (n:Nat) (T:List ZH):Nat->ZH
 | 0=>(0,0,-1)
 | m+1=>if (Uz n T m).2.2<0 then Nal T (n-1-m) else V6 (Uz n T m) (Nal T (n-1-m))
def PW (T:List ZH):Nat->Int->List Int
 | 0,_=>[]
 | f+1,x=>if x<0 then [] else x::PW T f (gt T x.toNat).2.2
def QZ (P:List Int) (L:List Leg) (es:List Ev):List Int:=PW (OI P L es es.length) es.length (Uz es.length (OI P L es es.length) es.length).2.2
theorem Nak {n:Nat} {T:List ZH}:∀m,m<=n->(Uz n T m).2.2<n/\-1<=(Uz n T m).2.2
 | 0,_=>⟨by show (-1:Int)<n;omega,Oj _⟩
 | m+1,hm=>by
   have h1:(Nal T (n-1-m)).2.2<n/\-1<=(Nal T (n-1-m)).2.2:=by
    unfold Nal
    constructor<;>simp only<;>omega
   have h2:=Nak (n:=n) (T:=T) m (by omega)
   rw [Uz]
   unfold V6
   split
   ·exact h1
   ·split
    ·exact h2
    ·exact h1
theorem Ne5 {n:Nat} {T:List ZH} (a:∀j,j<n->Yd n j (gt T j)):∀(f:Nat) (x:Int),x<n->∀k∈PW T f x,0<=k/\k<n
 | 0,_,_,k,hk=>by cases hk
 | f+1,x,hx,k,hk=>by
   rw [PW] at hk
   split at hk
   ·cases hk
   ·rename_i b
    rcases Np.1 hk with rfl | hk
    ·exact ⟨by omega,hx⟩
    ·refine Ne5 a f _ ?_ k hk
     rcases a x.toNat (by omega) with e | e
     ·rw [e];omega
     ·exact e.2
theorem XU {T:List ZH}:∀(f:Nat) (x:Int),(PW T f x).length<=f
 | 0,_=>Nd _
 | f+1,x=>by
   rw [PW]
   split
   ·exact Nz _
   ·rw [Nl];have:=XU (T:=T) f (gt T x.toNat).2.2;omega
theorem Nvj {P:List Int} {L:List Leg} {es:List Ev}:∀k∈QZ P L es,0<=k/\k<es.length:=
 Ne5 (fun j a=>Um _ (Nd _) j (by omega) a) _ _ (Nak _ (Nd _)).1
theorem Nwv (n:Nat):(List.range (n*3)).map (fun j=>[Value.int .i64 0,Value.int .i64 0,Value.int .i64 0].getD (j % 3) undef)=(List.replicate n ((0,0,0):ZH)).flatMap enc3:=by
 have h1:∀j,[Value.int .i64 0,Value.int .i64 0,Value.int .i64 0].getD (j % 3) undef=Value.int .i64 0:=fun j=>by
  have:j % 3=0\/j % 3=1\/j % 3=2:=by omega
  rcases this with e | e | e<;>rw [e]<;>rfl
 simp only [h1]
 rw [List.map_const',O7]
 induction n with
 | zero=>rfl
 | succ n ih=>
   rw [Pi,Ow,<-ih,Po]
   rfl
theorem tsl {T:List ZH} {n:Nat} (h:T.length=n) (p:Option Addr) (c:Nat):Value.slice p n c=Value.slice p T.length c:=by rw [h]
theorem N6c [OB] {lim R M B BT n:Nat} {S:List Nat} {pp pl pe:Option Addr} {P:List Int} {L:List Leg} {cp cl ce ct:Nat} {T:List ZH} {G:NE} {fr:Nat->Value} {K:List AItem} {Z:Value->NE->Prop} (p:lim<=B) (ab:n<=40) (hT:T.length=n) (W:∀j,j<n->Bnd n j (gt T j))
  (hP:PI lim R M S G pp pl cp cl P L) (hS:B∈S) (aa:BT≠B) (O:NF G BT=Vc (T.flatMap enc3)) (hB:NF G B=Vc (enc3 (Uz n T 0)))
  (f1:fr 1=.slice pe n ce) (f5:fr 5=.slice (Sa BT) T.length ct) (f6:fr 6=.func (.func 108) #[] #[]) (f12:fr 12=Vp B) (f13:fr 13=Vi ((n:Int)-1))
  (hR:∀fr' G',Chg [B] G G'->PI lim R M S G' pp pl cp cl P L->NF G' B=Vc (enc3 (Uz n T n))->(∀j,j<=12->fr' j=fr j)->PV E a72 lim K fr' G' Z) :
  PV E a72 lim (.code (.loop Nzp)::.inBlock 4::K) fr G Z:=by
 refine NR (fun m=>n-m) (fun m fr' G'=>m<=n/\Chg [B] G G'/\PI lim R M S G' pp pl cp cl P L/\NF G' B=Vc (enc3 (Uz n T m))/\(∀j,j<=12->fr' j=fr j)/\fr' 13=Vi ((n:Int)-1-m)) 0
  ⟨Nz _,Chg.refl,hP,hB,fun j _=>rfl,by rw [f13];simp⟩ ?_
 intro m fr' G' ⟨hm,w,q,l,o,g⟩ V
 rw [NS Nzp.eq_1]
 have J:=(o 5 (by decide)).trans f5
 have N:=(o 6 (by decide)).trans f6
 have s:=(o 12 (by decide)).trans f12
 refine NM ?_
 by_cases ac:m<n
 case neg=>
  obtain rfl:m=n:=by omega
  have I:(m:Int)-1-(m:Int)=-1:=by omega
  rw [I] at g
  simp only [n72,r72,g,SB,seval,NC,NJ,NG,NQ,reduceCtorEq,NB,place,NA,ND]
  exact hR _ _ w.app (q.app _) ((OM.refl.app).cells l) fun j u=>by
   rw [<-o j u]
   simp only [upd]
   repeat rw [Nh (by omega)]
 generalize hi:n-1-m=i
 have I:(n:Int)-1-(m:Int)=(i:Int):=by omega
 rw [I] at g
 have Y:i<n:=by omega
 have t:i<T.length:=by omega
 have v:Sl G' enc3 3 (Sa BT) T:=Sl.row (ro:=false) OY (w.cells O (by simp;exact aa))
 have C:=fun X=>(v.app X).loadCell OY t (j:=0) (by decide)
 have D:=fun X=>(v.app X).loadCell OY t (j:=1) (by decide)
 simp only [enc3,O5,Qu] at C D
 have xj:=fun c (k:IntKind) (H1:NE)=>v.idx (c:=c) (k:=k) (H1:=H1) t
 have z:=W i Y
 unfold Bnd at z
 have w1:IntKind.i64.wrap (30*(i:Int))=30*(i:Int):=NT (by omega) (by omega)
 have w2:IntKind.i64.wrap (30*(i:Int)+(gt T i).1)=30*(i:Int)+(gt T i).1:=NT (by omega) (by omega)
 have w3:IntKind.i64.wrap ((i:Int)-1)=(n:Int)-1-((m+1:Nat):Int):=by rw [NT (by omega) (by omega)];omega
 have i0:=N7 (show (0:Int)<=(i:Int) by omega)
 have e:lim<=G'.length:=by have:=w.len;have:=NK hB;omega
 have U:=NK l
 have r:Uz n T (m+1)=if (Uz n T m).2.2<0 then Nal T i else V6 (Uz n T m) (Nal T i):=by rw [Uz,hi]
 generalize hx:Uz n T m=x at r
 rw [hx] at l
 have A:=l
 simp only [enc3] at A
 have H:=fun X=>(OM.refl.app (X:=X)).cells A
 have b:∀(X:NE) (mp:Bool) (lim:Nat) (Q:Value->NE->Prop),NL E mp lim 108 [.agg #[Vi x.1,Vi x.2.1,Vi x.2.2],.agg #[Vi (30*(i:Int)+(gt T i).1),Vi (gt T i).2.1,Vi i]] X Q=Q (.bool (Y6 x (Nal T i))) X:=fun X mp lim Q=>Nrh (x:=x) (y:=Nal T i)
 obtain ⟨G3,e3,h3,F⟩:=OP U (Vc [Vi (30*(i:Int)+(gt T i).1),Vi (gt T i).2.1,Vi i])
 have a:∀(f:Nat->Value),(∀j,j<=12->f j=fr' j)->∀j,j<=12->f j=fr j:=fun f h j u=>(h j u).trans (o j u)
 by_cases d:x.2.2<0
 ·rw [Ni d] at r
  simp only [n72,r72,J,N,s,g,C,D,xj,w1,w2,w3,i0,e,H,N7 d,p,e3,SB,seval,NC,NJ,NG,NQ,reduceCtorEq,NB,place,NA,ND]
  exact V (m+1) _ _ ⟨by omega,(w.mut F (.inl (by simp))).app,(q.chg (Chg.refl.mut F (.inl hS))).app _,by rw [r];exact (OM.refl.app).cells h3,a _ (fun j u=>by
   simp only [upd]
   repeat rw [Nh (by omega)]),by rfl⟩ (by omega)
 rw [Nh d] at r
 cases z:Y6 x (Nal T i) with
 | true=>
   rw [z] at b
   rw [V6,Ni z] at r
   simp only [n72,r72,J,N,s,g,C,D,xj,w1,w2,w3,i0,e,H,Nr d,p,b,SB,seval,NC,NJ,NG,NQ,reduceCtorEq,NB,place,NA,ND]
   exact V (m+1) _ _ ⟨by omega,w.app,q.app _,by rw [r];exact (OM.refl.app).cells l,a _ (fun j u=>by
    simp only [upd]
    repeat rw [Nh (by omega)]),by rfl⟩ (by omega)
 | false=>
   rw [z] at b
   rw [V6,Nh (by rw [z];decide)] at r
   simp only [n72,r72,J,N,s,g,C,D,xj,w1,w2,w3,i0,e,H,Nr d,p,b,e3,SB,seval,NC,NJ,NG,NQ,reduceCtorEq,NB,place,NA,ND]
   exact V (m+1) _ _ ⟨by omega,(w.mut F (.inl (by simp))).app,(q.chg (Chg.refl.mut F (.inl hS))).app _,by rw [r];exact (OM.refl.app).cells h3,a _ (fun j u=>by
    simp only [upd]
    repeat rw [Nh (by omega)]),by rfl⟩ (by omega)
theorem N4k [OB] {lim R M:Nat} {pp pl pe:Option Addr} {P:List Int} {L:List Leg} {cp cl ce:Nat} {es:List Ev} {H:NE} {Q:Value->NE->Prop} (h:PI lim R M [] H pp pl cp cl P L) (ad:lim<=H.length)
  (hs:Sl H encE 7 pe es) (O:es.length<=40) (ht:∀i,i<es.length->0<=(gt es i).time/\(gt es i).time<=OA)
  (hQ:∀G q cq,Chg [M] H G->PI lim R M [] G pp pl cp cl P L->Own H.length G encI 1 q cq (QZ P L es)->Q (.slice q (QZ P L es).length cq) G) :
  NL E false lim 72 [Vp R,.slice pe es.length ce] H Q:=by
 refine R8 (by decide) e72 rfl ?_
 rw [b72,c72]
 have w1:IntKind.i64.wrap ((es.length:Int)-1)=(es.length:Int)-1:=NT (by omega) (by omega)
 have z3:=Nwv es.length
 have ay:=h.alive
 have ap:=N7 (show 0<=(es.length:Int)/\(es.length:Int)*24<=2 ^ 45/\(es.length:Int)<2 ^ 62 by omega)
 simp only [n72,r72,w1,ap,z3,SB,Nat.reduceLT,NC,NJ,Nat.reduceEqDiff,NG,NQ,reduceCtorEq,NB,place,NA,Nat.reduceAdd,Nat.reduceLeDiff,ND,Int.reduceEq,Int.reduceLT,Int.reduceLE]
 refine NR (fun k=>es.length-k) (fun k fr G=>k<=es.length/\fr 0=Vp R/\fr 1=.slice pe es.length ce/\fr 5=.slice (Sa H.length) es.length es.length/\fr 6=.func (.func 108) #[] #[]/\fr 7=Vi ((es.length:Int)-1-k)/\Chg [M] H G/\PI lim R M [H.length] G pp pl cp cl P L/\NF G H.length=Vc ((OI P L es k).flatMap enc3)) 0
  ⟨Nz _,rfl,rfl,rfl,rfl,by rw [show ((es.length:Int)-1-((0:Nat):Int))=(es.length:Int)-1 by omega];rfl,Chg.refl.app,h.grow _ (Nd _) (by simp),by rw [NV];rfl⟩ ?_
 ·intro k fr G ⟨hk,g0,Z,w,g6,Y,J,y,F⟩ hN
  rw [NS N5q.eq_1]
  refine NM ?_
  by_cases az:k<es.length
  case neg=>
   obtain rfl:k=es.length:=by omega
   have e7:(es.length:Int)-1-(es.length:Int)=-1:=by omega
   rw [e7] at Y
   have d:lim<=G.length:=by have:=J.len;omega
   simp only [n72,r72,g0,Z,w,g6,Y,w1,d,SB,seval,NC,NJ,NG,NQ,reduceCtorEq,NB,place,NA,ND]
   have o:=Ud (P:=P) (L:=L) (es:=es) es.length
   have al:=X9 (P:=P) (L:=L) (es:=es) es.length (Nd _)
   have aj:=NK F
   rw [tsl o] at w
   refine N6c (B:=G.length) (BT:=H.length) (n:=es.length) (T:=OI P L es es.length) (R:=R) (M:=M) (S:=[G.length,H.length]) (P:=P) (L:=L) (pp:=pp) (pl:=pl) (cp:=cp) (cl:=cl) (pe:=pe) (ce:=ce) (ct:=es.length) d O o (fun j D=>al j D) (y.grow _ (Nd _) (by simp)) (by simp) (by omega) ((OM.refl.app).cells F) (by rw [NV];rfl) Z w g6 rfl rfl fun fr' G1 u A z t=>?_
   have q5:fr' 5=.slice (Sa H.length) (OI P L es es.length).length es.length:=(t 5 (by decide)).trans w
   have aw:fr' 12=Vp G.length:=(t 12 (by decide)).trans rfl
   have V:=u.len
   simp at V
   have I:=u.cells ((OM.refl.app).cells F) (by simp;omega)
   simp only [enc3] at z
   have XB:=fun X=>(OM.refl.app (X:=X)).cells z
   have av:=Nak (n:=es.length) (T:=OI P L es es.length) es.length (Nd _)
   have ai:Chg [M] H G1:=(J.app (X:=[Vc [Vi 0,Vi 0,Vi (-1)]])).trans' u fun j D am=>by simp at D;omega
   refine NM ?_
   simp only [n72,r72,q5,aw,XB,SB,seval,NC,NJ,NG,NQ,reduceCtorEq,NB,place,NA,ND]
   refine NR (fun s:Nat×Int×List Int×Option Addr×Nat=>s.1) (fun s fr G=>fr 5=.slice (Sa H.length) (OI P L es es.length).length es.length/\fr 16=Vi s.2.1/\fr 15=.slice s.2.2.2.1 s.2.2.1.length s.2.2.2.2/\Chg [M] H G/\PI lim R M (opB s.2.2.2.1++[H.length]) G pp pl cp cl P L/\NF G H.length=Vc ((OI P L es es.length).flatMap enc3)/\Own (H.length+1) G encI 1 s.2.2.2.1 s.2.2.2.2 s.2.2.1/\
     s.2.2.1++PW (OI P L es es.length) s.1 s.2.1=QZ P L es/\s.2.1<es.length/\(s.2.1<0\/(es.length:Int)-s.2.1<=s.1)/\s.2.2.1.length+s.1=es.length) (es.length,(Uz es.length (OI P L es es.length) es.length).2.2,[],none,0)
    ⟨q5,rfl,by rfl,ai.app,(A.sub (fun q v=>by simp [opB] at v;simp [v])).app _,(OM.refl.app).cells I,.nil,rfl,av.1,by simp only;omega,by simp⟩ ?_
   rintro ⟨f,x,l,pw,cw⟩ fr G ⟨w,N,K,J,y,F,hO,C,hx,hf,ao⟩ hN
   simp only at w N K y hO C hx hf ao
   rw [NS N5r.eq_1]
   refine NM ?_
   by_cases W:0<=x
   case neg=>
    have e:PW (OI P L es es.length) f x=[]:=by
     cases f with
     | zero=>rfl
     | succ f=>rw [PW,Ni (by omega)]
    rw [e,Nb] at C
    subst C
    simp only [n72,r72,w,N,K,Nr W,SB,seval,NC,NJ,NG,NQ,reduceCtorEq,NB,place,NA,ND]
    exact hQ _ _ _ J.app ((y.sub (fun q v=>by cases v)).app _) ((hO.le (by omega)).app _)
   obtain ⟨j,rfl⟩:=Int.eq_ofNat_of_zero_le W
   obtain ⟨f,rfl⟩:∃g,f=g+1:=⟨f-1,by omega⟩
   rw [PW,Nh (by omega),N2] at C
   have ab:j<(OI P L es es.length).length:=by omega
   have aq:=Um (P:=P) (L:=L) (es:=es) es.length (Nd _) j (by omega) (by omega)
   have ax:=NK F
   obtain ⟨G4,e4,O4,C4,ac⟩:=Own.moreF hO (lim':=lim) (bytes:=8) (by omega) RJ (by decide) [(j:Int)] (by simp) (by simp;unfold PN;omega) (by simp;omega) [Vc [Vi j]] (x:=.slice (Sa G.length) 1 1) (str:=false)
    (Vk (m:=[(j:Int)]) (Sl.row (ro:=false) RJ (by rw [NV];rfl))) rfl
   have ae:∀j,j∈opB pw->H.length+1<=j/\j<G.length:=fun j D=>by
    cases hpe:pw with
    | none=>rw [hpe] at D;cases D
    | some a=>rw [hpe] at D;have:=hO.block hpe;simp [opB] at D;omega
   generalize ar:(G++[Vc [Vi j]]).length=r at e4 O4 ac
   have au:G.length<=r:=by rw [<-ar];simp
   generalize loose 1=c' at e4 O4
   simp only [Nl,Ns,N0] at e4
   have aa:=C4.cells F fun hm=>by have:=ae _ hm;omega
   have ag:=Sl.row (R:=H.length) (ro:=false) OY aa
   have l2:=fun X=>(ag.app X).loadCell OY ab (j:=2) (by decide)
   simp only [enc3,O5,Qu] at l2
   have xj:=fun c (k:IntKind) (H1:NE)=>ag.idx (c:=c) (k:=k) (H1:=H1) ab
   simp only [n72,r72,w,N,K,e4,l2,xj,N7 W,SB,seval,NC,NJ,NG,NQ,reduceCtorEq,NB,place,NA,ND]
   have k1:=(y.growC (b:=r) (G':=G4) (C4.mono fun q _ v=>Oq _ v) au ac).sub (S':=opB (Sa r)++[H.length]) fun q v=>by
    simp [opB] at v
    rcases v with e | e
    ·simp [e]
    ·simp [e]
   have ah:(gt (OI P L es es.length) j).2.2<es.length/\((gt (OI P L es es.length) j).2.2<0\/(es.length:Int)-(gt (OI P L es es.length) j).2.2<=(f:Int)):=by
    rcases aq with e | e
    ·exact ⟨by omega,.inl (by omega)⟩
    ·exact ⟨e.2,.inr (by omega)⟩
   exact hN (f,(gt (OI P L es es.length) j).2.2,l++[(j:Int)],Sa r,c') _ _ ⟨w,by rfl,by show _=Value.slice _ (l++[(j:Int)]).length _;rw [Nm];rfl,
    (J.trans' C4 fun q v a0=>by have:=ae q v;omega).app,k1.app _,(OM.refl.app).cells aa,(O4.le (by omega)).app _,by rw [Nn];exact C,ah.1,ah.2,by simp only [Nm,Q8];omega⟩ (by show f<f+1;omega)
  generalize hi:es.length-1-k=i
  have e7:(es.length:Int)-1-(k:Int)=(i:Int):=by omega
  rw [e7] at Y
  have U:i<es.length:=by omega
  have w2:IntKind.i64.wrap ((es.length:Int)-1-i)=(es.length:Int)-1-i:=NT (by omega) (by omega)
  have w3:IntKind.i64.wrap (30*((es.length:Int)-1-i))=30*((es.length:Int)-1-i):=NT (by omega) (by omega)
  have w4:IntKind.i64.wrap ((i:Int)-1)=(es.length:Int)-1-((k+1:Nat):Int):=by rw [NT (by omega) (by omega)];omega
  have d:lim<=G.length:=by have:=J.len;omega
  have i0:=N7 (show (0:Int)<=(i:Int) by omega)
  have o:=Ud (P:=P) (L:=L) (es:=es) k
  have aj:=NK F
  simp only [n72,r72,g0,Z,w,g6,Y,w1,w2,w3,d,i0,SB,seval,NC,NJ,NG,NQ,reduceCtorEq,NB,place,NA,ND]
  rw [tsl o] at w
  refine N0b (B8:=G.length) (BT:=H.length) (S:=[G.length,H.length]) (i:=i) (T:=OI P L es k) (P:=P) (L:=L) (R:=R) (M:=M) (pp:=pp) (pl:=pl) (cp:=cp) (cl:=cl) (es:=es) (pe:=pe) (ce:=ce) (ct:=es.length) U d (by simp) (by simp) O ht o (Nvh O o (X9 k (by omega)))
   (y.grow _ (Nd _) (by simp)) (((hs.sim (h.chgk J))).app _) ((OM.refl.app).cells F) (by rw [NV];rfl) g0 Z w g6 Y rfl rfl fun fr' G1 u A z t=>?_
  have q0:fr' 0=Vp R:=(t 0 (by decide)).trans g0
  have q1:fr' 1=.slice pe es.length ce:=(t 1 (by decide)).trans Z
  have q5:fr' 5=.slice (Sa H.length) (OI P L es k).length es.length:=(t 5 (by decide)).trans w
  have q6:fr' 6=.func (.func 108) #[] #[]:=(t 6 (by decide)).trans g6
  have q7:fr' 7=Vi i:=(t 7 (by decide)).trans Y
  have q8:fr' 8=Vp G.length:=(t 8 (by decide)).trans rfl
  have an:es.length-1-i=k:=by omega
  rw [an] at z
  have ak:H.length∉[M,G.length]:=by simp;omega
  have I:=u.cells ((OM.refl.app).cells F) ak
  obtain ⟨G2,e2,h2,m2⟩:=Nan (lim:=lim) (p:=Sa H.length) OY rfl I ad (i:=i) (by rw [o];exact U) (RH P L es (OI P L es k) i k)
  have xT:=fun c (kk:IntKind) (H1:NE)=>(Sl.row (R:=H.length) (ro:=false) OY I).idx (c:=c) (k:=kk) (H1:=H1) (i:=i) (by rw [o];exact U)
  have XB:=fun X=>(OM.refl.app (X:=X)).cells z
  have et:OI P L es (k+1)=(OI P L es k).set i (RH P L es (OI P L es k) i k):=by rw [OI,hi]
  refine NM ?_
  simp only [n72,r72,q0,q1,q5,q6,q7,q8,XB,OY,NI,e2,xT,w4,SB,seval,NC,NJ,NG,NQ,reduceCtorEq,NB,place,NA,ND]
  have V:=u.len
  simp at V
  exact hN (k+1) _ _ ⟨by omega,q0,q1,(by simp only [q5,o,FB,Nat.reduceEqDiff]),q6,rfl,(((J.app (X:=[Vc (enc3 (RH P L es (OI P L es k) i 0))])).trans' u fun j D am=>by simp at D;simp;omega).mut m2 (.inr (by omega))).app,((A.chg (Chg.refl.mut m2 (.inl (by simp)))).sub (fun q v=>by simp at v;simp [v])).app _,by rw [et];exact (OM.refl.app).cells h2⟩ (by omega)
theorem N5a [OB] {lim:Nat} {pp pl pe:Option Addr} {P:List Int} {L:List Leg} {cp cl ce:Nat} {es:List Ev} {H:NE} {Q:Value->NE->Prop} (hn:NetIn H pp pl P L) (d:lim<=H.length)
  (hs:Sl H encE 7 pe es) (S:es.length<2 ^ 62)
  (t:∀G,Yl P L es≠0->Chg [] H G->Q (.tuple #[.agg #[Vz,Vz,Vi 0],Vi (Yl P L es)]) G)
  (z:∀G q cq r cr,Yl P L es=0->Chg [] H G->Wn H.length G encI 1 q (QZ P L es)->Wn H.length G enc3 3 r (R4 P L es (QZ P L es))->Q (.tuple #[.agg #[.slice q (QZ P L es).length cq,.slice r (R4 P L es (QZ P L es)).length cr,Vi (SH P L es (QZ P L es))],Vi 0]) G) :
  NL E false lim 37 [.agg (Tj pp P.length cp pl L.length cl).toArray,.slice pe es.length ce] H Q:=by
 refine R8 (by decide) e37 rfl ?_
 rw [b37,c37]
 have c:=fun X (mp:Bool) (lim:Nat) (Q:Value->NE->Prop)=>N1c (mp:=mp) (lim:=lim) (cp:=cp) (cl:=cl) (ce:=ce) (Q:=Q) (hn.app X) (hs.app X) (by omega)
 by_cases l:Yl P L es=0
 case neg=>
  simp only [n37,r37,PR,Sg,Sd,NI,c,Nr l,d,SB,seval,NC,NJ,NG,NQ,reduceCtorEq,NB,place,NA,ND]
  exact t _ l Chg.refl.app
 obtain ⟨U,m,hev⟩:=N7c l
 have I:=fun i (hi:i<es.length)=>And.intro (hev i hi).2.1 (hev i hi).2.2.1
 simp only [n37,r37,PR,Sg,Sd,NI,c,N7 l,d,SB,seval,NC,NJ,NG,NQ,reduceCtorEq,NB,place,NA,ND]
 refine Nij (lim:=lim) (hn.app _) (by simp;omega) fun G1 R M f O hM p=>?_
 have x:=f.len
 simp at x O hM
 have b:OM H G1:=(OM.refl.app).trans f
 have V:NF G1 (H.length+1)=Vc [Vz,Vz,Vi 0]:=f.cells (by rw [NW];rfl)
 refine NM ?_
 simp only [n37,r37,SB,seval,NC,NJ,NG,NQ,reduceCtorEq,NB,place,NA,ND]
 refine N4k (p.app _) (by simp;omega) ((b.sl hs).app _) m I fun G2 q cq e s o=>?_
 have y:=e.len
 simp at y
 have D:Chg [M] H G2:=((OM.chg (A:=[M]) b).trans e.pre)
 have a:=e.pre
 refine NM ?_
 simp only [n37,r37,SB,seval,NC,NJ,NG,NQ,reduceCtorEq,NB,place,NA,ND]
 refine N2x (s.app _) (by simp;omega) (((b.sl hs).sim (p.chgk a)).app _) m I ((o.sl RJ).app _) (by have:=XU (T:=OI P L es es.length) es.length (Uz es.length (OI P L es es.length) es.length).2.2;unfold QZ;omega) (fun B=>by
  rcases o with ⟨_,_,k⟩ | ⟨R,k,_⟩
  ·exact k
  ·rw [B] at k;cases k) Nvj fun Z J h r cr n F B hr=>?_
 have u:=n.cells ((OM.refl.app (X:=[])).cells (a.cells V (by simp;omega))) (by simp;omega)
 obtain ⟨G4,K,N,C⟩:=OP (NK u) (Vc [.slice J (QZ P L es).length h,.slice r (R4 P L es (QZ P L es)).length cr,Vi (SH P L es (QZ P L es))])
 have W:=fun X=>(OM.refl.app (X:=X)).cells u
 have Y:=fun X=>(OM.refl.app (X:=X)).cells N
 have g:lim<=H.length+1:=by omega
 refine NM ?_
 simp only [n37,r37,W,K,Y,g,SB,seval,NC,NJ,NG,NQ,reduceCtorEq,NB,place,NA,ND]
 exact z _ J h r cr l ((((OM.chg (A:=[]) b).trans' a fun j v w=>by simp at v;omega).trans' n.pre fun j v w=>by simp at v;omega).mut C (.inr (by omega))).app (((B.mut C (by simp;omega)).le (by simp;omega)).app _) (((hr.mut C (by simp;omega)).le (by simp;omega)).app _)
def ZK:List Int->List Int->Prop
 | [],_=>True
 | _::_,[]=>False
 | x::l,y::m=>x<y\/(x=y/\ZK l m)
theorem ZK.refl:∀l,ZK l l
 | []=>trivial
 | x::l=>.inr ⟨rfl,ZK.refl l⟩
theorem ZK.trans:∀{a b c:List Int},ZK a b->ZK b c->ZK a c
 | [],_,_,_,_=>trivial
 | x::a,[],c,h,_=>by cases h
 | x::a,y::b,[],_,h=>by cases h
 | x::a,y::b,z::c,h1,h2=>by
   rcases h1 with h1 | ⟨rfl,h1⟩
   ·rcases h2 with h2 | ⟨rfl,h2⟩
    ·exact .inl (by omega)
    ·exact .inl h1
   ·rcases h2 with h2 | ⟨rfl,h2⟩
    ·exact .inl h2
    ·exact .inr ⟨rfl,h1.trans h2⟩
def BE (c k:Int) (l:List Int) (a k':Int) (b:List Int):Prop:=c<a\/(c=a/\(k'<k\/(k=k'/\ZK l b)))
theorem BE.refl {c k:Int} {l:List Int}:BE c k l c k l:=.inr ⟨rfl,.inr ⟨rfl,ZK.refl l⟩⟩
theorem BE.trans {a b c x y z:Int} {l m r:List Int} (h1:BE a x l b y m) (h2:BE b y m c z r):BE a x l c z r:=by
 rcases h1 with h1 | ⟨rfl,h1⟩
 ·rcases h2 with h2 | ⟨rfl,h2⟩
  ·exact .inl (by omega)
  ·exact .inl h1
 ·rcases h2 with h2 | ⟨rfl,h2⟩
  ·exact .inl h2
  ·refine .inr ⟨rfl, ?_⟩
   rcases h1 with h1 | ⟨rfl,h1⟩
   ·rcases h2 with h2 | ⟨rfl,h2⟩
    ·exact .inl (by omega)
    ·exact .inl h1
   ·rcases h2 with h2 | ⟨rfl,h2⟩
    ·exact .inl h2
    ·exact .inr ⟨rfl,h1.trans h2⟩
theorem BE.lift {c k a k' d i:Int} {l b:List Int} (h:BE c k l a k' b):BE (d+c) (k+1) (i::l) (d+a) (k'+1) (i::b):=by
 rcases h with h | ⟨rfl,h | ⟨rfl,h⟩⟩
 ·exact .inl (by omega)
 ·exact .inr ⟨rfl,.inl (by omega)⟩
 ·exact .inr ⟨rfl,.inr ⟨rfl,.inr ⟨rfl,h⟩⟩⟩
section
variable {P:List Int} {L:List Leg} {es:List Ev}
def rcI (P:List Int) (L:List Leg) (es:List Ev):List Int->Int
 | []=>0
 | [i]=>30*((es.length:Int)-1-i)
 | i::j::l=>QO P L (gt es i.toNat) (gt es j.toNat)+30*(j-i-1)+rcI P L es (j::l)
def Asc (n:Nat):List Int->Prop
 | []=>True
 | [i]=>0<=i/\i<n
 | i::j::l=>0<=i/\i<j/\Asc n (j::l)
theorem Asc.head {n:Nat}:∀{i:Int} {l:List Int},Asc n (i::l)->0<=i/\i<n
 | i,[],h=>h
 | i,j::l,h=>⟨h.1,by have:=h.2.2.head;have:=h.2.1;omega⟩
theorem Nbp {T a:List ZH} {i:Nat}:∀m,m<=es.length->(∀j,es.length-m<=j->j<es.length->gt T j=gt a j)->RH P L es T i m=RH P L es a i m
 | 0,_,_=>rfl
 | m+1,hm,h=>by
   rw [RH,RH,Nbp m (by omega) fun j h1 h2=>h j (by omega) h2]
   unfold YM
   rw [h _ (by omega) (by omega)]
theorem Yr:∀d k,k+d<=es.length->∀j,es.length-k<=j->j<es.length->gt (OI P L es (k+d)) j=gt (OI P L es k) j
 | 0,k,_,j,_,_=>rfl
 | d+1,k,h,j,h1,h2=>by
   rw [<-O9,OI,Niz (by rw [Ud];omega),Nh (by omega)]
   exact Yr d k (by omega) j h1 h2
theorem Nsi {i:Nat} (hi:i<es.length):gt (OI P L es es.length) i=RH P L es (OI P L es es.length) i (es.length-1-i):=by
 obtain ⟨k,hk⟩:∃k,es.length-1-i=k:=⟨_,rfl⟩
 have h1:=Yr (P:=P) (L:=L) (es:=es) (es.length-(k+1)) (k+1) (by omega) i (by omega) hi
 rw [show k+1+(es.length-(k+1))=es.length by omega] at h1
 rw [h1,OI,Niz (by rw [Ud];omega),Ni (by omega),hk,show es.length-1-k=i by omega]
 refine Nbp k (by omega) fun j h2 b=>?_
 have a:=Yr (P:=P) (L:=L) (es:=es) (es.length-k) k (by omega) j h2 b
 rw [show k+(es.length-k)=es.length by omega] at a
 exact a.symm
variable {F:List ZH} {n:Nat}
theorem Ne4 (a:∀j,j<n->Yd n j (gt F j)):∀(f:Nat) (x:Int),(x<0\/(x<n/\(n:Int)-x<=f))->PW F (f+1) x=PW F f x
 | 0,x,h=>by
   have e:PW F (0+1) x=if x<0 then [] else x::PW F 0 (gt F x.toNat).2.2:=rfl
   rw [e,Ni (by omega)]
   rfl
 | f+1,x,h=>by
   have e:PW F (f+1+1) x=if x<0 then [] else x::PW F (f+1) (gt F x.toNat).2.2:=rfl
   have b:PW F (f+1) x=if x<0 then [] else x::PW F f (gt F x.toNat).2.2:=rfl
   rw [e,b]
   split
   ·rfl
   ·rename_i c
    congr 1
    refine Ne4 a f _ ?_
    rcases a x.toNat (by omega) with e | e
    ·exact .inl (by omega)
    ·exact .inr ⟨e.2,by omega⟩
theorem Nhj {x:Int} {f:Nat} (a:x<0):PW F f x=[]:=by
 cases f with
 | zero=>rfl
 | succ f=>rw [PW,Ni a]
theorem UQ (a:∀j,j<n->Yd n j (gt F j)) {i:Nat} (hi:i<n):PW F n (i:Int)=(i:Int)::PW F n (gt F i).2.2:=by
 obtain ⟨m,rfl⟩:∃m,n=m+1:=⟨n-1,by omega⟩
 rw [PW,Nh (by omega),N2,Ne4 a m]
 rcases a i hi with e | e
 ·exact .inl (by omega)
 ·exact .inr ⟨e.2,by omega⟩
structure RestOk (P:List Int) (L:List Leg) (es:List Ev) (x:ZH) (l:List Int):Prop where
 cost:x.1=rcI P L es l
 count:x.2.1=l.length
 asc:Asc es.length l
theorem Nkh (w:∀j,j<es.length->Yd es.length j (gt F j)) {i:Nat} (hi:i<es.length)
  (ih:∀j,i<j->j<es.length->RestOk P L es (gt F j) (PW F es.length j)/\∀l,Asc es.length ((j:Int)::l)->BE (gt F j).1 (gt F j).2.1 (PW F es.length j) (rcI P L es (j::l)) ((j::l:List Int).length:Int) (j::l)) :
  ∀m,m<=es.length-1-i->RestOk P L es (RH P L es F i m) (i::PW F es.length (RH P L es F i m).2.2)/\((RH P L es F i m).2.2=-1\/((es.length:Int)-m<=(RH P L es F i m).2.2/\(RH P L es F i m).2.2<es.length))/\
   ∀l,Asc es.length ((i:Int)::l)->(∀j r,l=j::r->(es.length:Int)-m<=j)->BE (RH P L es F i m).1 (RH P L es F i m).2.1 (i::PW F es.length (RH P L es F i m).2.2) (rcI P L es (i::l)) ((i::l:List Int).length:Int) (i::l)
 | 0,_=>by
   have e:PW F es.length (-1)=[]:=Nhj (by omega)
   refine ⟨⟨?_, ?_, ?_⟩,.inl rfl,fun l k hl=>?_⟩
   ·show _=rcI P L es (i::PW F es.length (-1));rw [e];rfl
   ·show _=((i::PW F es.length (-1):List Int).length:Int);rw [e];rfl
   ·show Asc _ (i::PW F es.length (-1));rw [e];exact ⟨by omega,by omega⟩
   ·cases l with
    | nil=>show BE _ _ (i::PW F es.length (-1)) _ _ _;rw [e];exact BE.refl
    | cons j r=>
      have h1:=hl j r rfl
      have h2:=(k.2.2).head
      omega
 | m+1,hm=>by
   obtain ⟨⟨z,u,A⟩,s,f⟩:=Nkh w hi ih m (by omega)
   generalize H:es.length-1-m=j
   have p:j<es.length:=by omega
   obtain ⟨⟨E,v,B⟩,hd⟩:=ih j (by omega) p
   have g:=UQ (F:=F) w p
   have G:RH P L es F i (m+1)=V6 (RH P L es F i m) (YM P L es F i j):=by rw [RH,H]
   rw [G]
   generalize M:RH P L es F i m=x at z u A s f
   generalize hr:YM P L es F i j=r
   have C:r.1=QO P L (gt es i) (gt es j)+30*((j:Int)-i-1)+(gt F j).1:=by rw [<-hr];rfl
   have r2:r.2.1=(gt F j).2.1+1:=by rw [<-hr];rfl
   have J:r.2.2=(j:Int):=by rw [<-hr];rfl
   have D:∀l,Asc es.length ((i:Int)::(j:Int)::l)->BE r.1 r.2.1 (i::PW F es.length j) (rcI P L es (i::j::l)) ((i::j::l:List Int).length:Int) (i::j::l):=fun l hl=>by
    have:=(hd l hl.2.2).lift (d:=QO P L (gt es i) (gt es j)+30*((j:Int)-i-1)) (i:=(i:Int))
    rw [C,r2]
    exact this
   unfold V6
   split
   ·rename_i c
    unfold Y6 at c
    rw [Oa] at c
    refine ⟨⟨z,u,A⟩,by omega,fun l k hl=>?_⟩
    cases l with
    | nil=>exact f [] k (fun j r h=>by cases h)
    | cons a t=>
      by_cases n:a=(j:Int)
      ·subst n
       have h1:=D t k
       refine BE.trans (b:=r.1) (y:=r.2.1) (m:=i::PW F es.length j) ?_ h1
       rcases c with h | ⟨h,h'⟩
       ·exact .inl h
       ·exact .inr ⟨h,.inl h'⟩
      ·refine f _ k fun a' K e=>?_
       have h1:=hl a t rfl
       cases e
       omega
   ·rename_i c
    unfold Y6 at c
    rw [Oa] at c
    rw [J]
    refine ⟨⟨?_, ?_, ?_⟩,.inr ⟨by omega,by omega⟩,fun l k hl=>?_⟩
    ·rw [C,E,g];rfl
    ·rw [r2,v];simp
    ·rw [g];rw [g] at B;exact ⟨by omega,by omega,B⟩
    ·have o:BE r.1 r.2.1 (i::PW F es.length j) x.1 x.2.1 (i::PW F es.length x.2.2):=by
      rcases Qz r.1 x.1 with h | h | h
      ·exact .inl h
      ·refine .inr ⟨h, ?_⟩
       rcases Qz x.2.1 r.2.1 with h' | h' | h'
       ·exact .inl h'
       ·refine .inr ⟨h'.symm,.inr ⟨rfl, ?_⟩⟩
        rcases s with e | ⟨e1,e2⟩
        ·exfalso
         rw [e,Nhj (by omega)] at u
         rw [g] at v
         simp at u v
         omega
        ·obtain ⟨q,I⟩:=Int.eq_ofNat_of_zero_le (show 0<=x.2.2 by omega)
         rw [I,g,UQ (F:=F) w (show q<es.length by omega)]
         exact .inl (by omega)
       ·exact absurd (.inr ⟨h.symm,h'⟩) c
      ·exact absurd (.inl h) c
     cases l with
     | nil=>exact o.trans (f [] k (fun j r h=>by cases h))
     | cons a t=>
       by_cases n:a=(j:Int)
       ·subst n
        exact D t k
       ·refine o.trans (f _ k fun a' K e=>?_)
        have h1:=hl a t rfl
        cases e
        omega
end
section
variable {P:List Int} {L:List Leg} {es:List Ev}
theorem Nas:∀(k i:Nat),es.length-i<=k->i<es.length->RestOk P L es (gt (OI P L es es.length) i) (PW (OI P L es es.length) es.length i)/\
  ∀l,Asc es.length ((i:Int)::l)->BE (gt (OI P L es es.length) i).1 (gt (OI P L es es.length) i).2.1 (PW (OI P L es es.length) es.length i) (rcI P L es (i::l)) ((i::l:List Int).length:Int) (i::l)
 | 0,i,h,hi=>by omega
 | k+1,i,h,hi=>by
   have b:∀j,j<es.length->Yd es.length j (gt (OI P L es es.length) j):=fun j c=>Um _ (Nd _) j (by omega) c
   obtain ⟨h1,h2,a⟩:=Nkh b hi (fun j h1 h2=>Nas k j (by omega) h2) (es.length-1-i) (Nd _)
   rw [<-Nsi hi] at h1 h2 a
   rw [<-UQ b hi] at h1 a
   exact ⟨h1,fun l hl=>a l hl fun j r e=>by
    subst e
    have:=hl.2.1
    omega⟩
theorem BE.add {c k a k':Int} {l l':List Int} (d:Int) (h:BE c k l a k' l'):BE (d+c) k l (d+a) k' l':=by
 rcases h with h | ⟨rfl,h⟩
 ·exact .inl (by omega)
 ·exact .inr ⟨rfl,h⟩
def tot (P:List Int) (L:List Leg) (es:List Ev):List Int->Int
 | []=>0
 | i::l=>30*i+rcI P L es (i::l)
theorem Njy:∀m,m<=es.length->0<m->∃h:Nat,h<es.length/\es.length-m<=h/\(Uz es.length (OI P L es es.length) m).2.2=h/\(Uz es.length (OI P L es es.length) m).1=tot P L es (PW (OI P L es es.length) es.length h)/\(Uz es.length (OI P L es es.length) m).2.1=(PW (OI P L es es.length) es.length h).length/\
  ∀j l,Asc es.length (j::l)->(es.length:Int)-m<=j->BE (Uz es.length (OI P L es es.length) m).1 (Uz es.length (OI P L es es.length) m).2.1 (PW (OI P L es es.length) es.length h) (tot P L es (j::l)) ((j::l).length:Int) (j::l)
 | 0,_,h=>by omega
 | m+1,hm,_=>by
   have t:∀j,j<es.length->Yd es.length j (gt (OI P L es es.length) j):=fun j g=>Um _ (Nd _) j (by omega) g
   generalize hi:es.length-1-m=i
   have c:i<es.length:=by omega
   have ⟨⟨z,A,C⟩,B⟩:=Nas (P:=P) (L:=L) (es:=es) es.length i (by omega) c
   have e:=UQ (F:=OI P L es es.length) t c
   have f:Uz es.length (OI P L es es.length) (m+1)=if (Uz es.length (OI P L es es.length) m).2.2<0 then Nal (OI P L es es.length) i else V6 (Uz es.length (OI P L es es.length) m) (Nal (OI P L es es.length) i):=by rw [Uz,hi]
   generalize hr:Nal (OI P L es es.length) i=r at f
   have u:r.1=30*(i:Int)+(gt (OI P L es es.length) i).1:=by rw [<-hr];rfl
   have r2:r.2.1=(gt (OI P L es es.length) i).2.1:=by rw [<-hr];rfl
   have v:r.2.2=(i:Int):=by rw [<-hr];rfl
   have rt:r.1=tot P L es (PW (OI P L es es.length) es.length i):=by rw [u,z,e];rfl
   have w:r.2.1=(PW (OI P L es es.length) es.length i).length:=by rw [r2,A]
   have o:∀l,Asc es.length ((i:Int)::l)->BE r.1 r.2.1 (PW (OI P L es es.length) es.length i) (tot P L es (i::l)) ((i::l:List Int).length:Int) (i::l):=fun l hl=>by
    rw [u,r2];exact (B l hl).add _
   by_cases n:m=0
   ·subst n
    have e0:Uz es.length (OI P L es es.length) (0+1)=r:=by rw [f,Ni];show (-1:Int)<0;decide
    rw [e0]
    refine ⟨i,c,by omega,v,rt,w,fun j l hl g=>?_⟩
    have:=hl.head
    obtain rfl:j=(i:Int):=by omega
    exact o l hl
   obtain ⟨h,h1,h2,p,s,h5,k⟩:=Njy m (by omega) (by omega)
   rw [Nh (by omega)] at f
   rw [f]
   generalize Uz es.length (OI P L es es.length) m=x at p s h5 k
   unfold V6
   split
   ·rename_i a
    unfold Y6 at a
    rw [Oa] at a
    refine ⟨h,h1,by omega,p,s,h5,fun j l hl g=>?_⟩
    by_cases d:j=(i:Int)
    ·subst d
     refine BE.trans (b:=r.1) (y:=r.2.1) ?_ (o l hl)
     rcases a with h | ⟨h,h'⟩
     ·exact .inl h
     ·exact .inr ⟨h,.inl h'⟩
    ·exact k j l hl (by omega)
   ·rename_i a
    unfold Y6 at a
    rw [Oa] at a
    refine ⟨i,c,by omega,v,rt,w,fun j l hl g=>?_⟩
    by_cases d:j=(i:Int)
    ·subst d
     exact o l hl
    ·refine BE.trans ?_ (k j l hl (by omega))
     rcases Qz r.1 x.1 with h' | h' | h'
     ·exact .inl h'
     ·refine .inr ⟨h', ?_⟩
      rcases Qz x.2.1 r.2.1 with q | q | q
      ·exact .inl q
      ·refine .inr ⟨q.symm, ?_⟩
       rw [e,UQ (F:=OI P L es es.length) t h1]
       exact .inl (by omega)
      ·exact absurd (.inr ⟨h'.symm,q⟩) a
     ·exact absurd (.inl h') a
theorem Nfe (hn:0<es.length):QZ P L es≠[]/\Asc es.length (QZ P L es)/\∀j l,Asc es.length (j::l)->BE (tot P L es (QZ P L es)) ((QZ P L es).length:Int) (QZ P L es) (tot P L es (j::l)) ((j::l).length:Int) (j::l):=by
 have d:∀j,j<es.length->Yd es.length j (gt (OI P L es es.length) j):=fun j f=>Um _ (Nd _) j (by omega) f
 obtain ⟨h,h1,h2,a,b,h5,c⟩:=Njy (P:=P) (L:=L) (es:=es) es.length (Nd _) hn
 have e:QZ P L es=PW (OI P L es es.length) es.length h:=by unfold QZ;rw [a]
 rw [e]
 refine ⟨by rw [UQ d h1];simp,(Nas es.length h (by omega) h1).1.asc,fun j l hl=>?_⟩
 have:=c j l hl (by have:=hl.head;omega)
 rw [b,h5] at this
 exact this
theorem Nj3 {i j:Int} {l:List Int}:R4 P L es (i::j::l)=(i,j,QO P L (gt es i.toNat) (gt es j.toNat))::R4 P L es (j::l):=by
 unfold R4
 show (List.range (l.length+1)).map _=_
 rw [List.range_succ_eq_map,Oc,List.map_map]
 rfl
theorem Nda:∀(l:List Int) (i:Int),tot P L es (i::l)=SH P L es (i::l)
 | [],i=>by
   show 30*i+30*((es.length:Int)-1-i)=30*((es.length:Int)-1)+0
   omega
 | j::l,i=>by
   have h:=Nda l j
   have e1:tot P L es (i::j::l)=30*i+(QO P L (gt es i.toNat) (gt es j.toNat)+30*(j-i-1)+rcI P L es (j::l)):=rfl
   have e2:tot P L es (j::l)=30*j+rcI P L es (j::l):=rfl
   have e3:SH P L es (i::j::l)=30*((es.length:Int)-(l.length+1+1:Nat))+Wv (R4 P L es (i::j::l)):=rfl
   have a:SH P L es (j::l)=30*((es.length:Int)-(l.length+1:Nat))+Wv (R4 P L es (j::l)):=rfl
   rw [e1,e3,Nj3,Wv]
   rw [e2,a] at h
   simp only
   omega
theorem N1s {n:Nat}:∀(ks:List Int),(∀i,i<ks.length->Ncd n ks i)->Asc n ks
 | [],_=>trivial
 | [i],h=>⟨(h 0 (by simp)).1,(h 0 (by simp)).2.1⟩
 | i::j::l,h=>by
   refine ⟨(h 0 (by simp)).1,(h 1 (by simp)).2.2 (by omega),N1s (j::l) fun k hk=>?_⟩
   have h1:=h (k+1) (by simp at hk⊢;omega)
   refine ⟨h1.1,h1.2.1,fun a=>?_⟩
   have h2:=h1.2.2 (by omega)
   obtain ⟨q,rfl⟩:∃q,k=q+1:=⟨k-1,by omega⟩
   exact h2
theorem Nx9 {n:Nat}:∀(ks:List Int),Asc n ks->∀i,i<ks.length->Ncd n ks i
 | [],_,i,hi=>by cases hi
 | [a],h,i,hi=>by
   obtain rfl:i=0:=by simp at hi;omega
   exact ⟨h.1,h.2,fun h=>by omega⟩
 | a::b::l,h,0,hi=>⟨h.head.1,h.head.2,fun h=>by omega⟩
 | a::b::l,h,1,hi=>⟨h.2.2.head.1,h.2.2.head.2,fun _=>h.2.1⟩
 | a::b::l,h,i+2,hi=>by
   have h1:=Nx9 (b::l) h.2.2 (i+1) (by simp at hi⊢;omega)
   exact ⟨h1.1,h1.2.1,fun _=>h1.2.2 (by omega)⟩
theorem Nac:Nfv es.length (QZ P L es):=by
 by_cases hn:0<es.length
 ·obtain ⟨h1,h2,_⟩:=Nfe (P:=P) (L:=L) hn
  exact ⟨fun h=>absurd (List.length_eq_zero_iff.1 h) h1,Nx9 _ h2⟩
 ·have e:QZ P L es=[]:=by
   have:=XU (T:=OI P L es es.length) es.length (Uz es.length (OI P L es es.length) es.length).2.2
   exact List.length_eq_zero_iff.1 (by unfold QZ;omega)
  exact ⟨fun _=>by omega,fun i hi=>by rw [e] at hi;cases hi⟩
theorem N1o {ks:List Int} (hk:Nfv es.length ks):BE (SH P L es (QZ P L es)) ((QZ P L es).length:Int) (QZ P L es) (SH P L es ks) (ks.length:Int) ks:=by
 cases ks with
 | nil=>
   have f:=hk.1 rfl
   have e:QZ P L es=[]:=by
    have:=XU (T:=OI P L es es.length) es.length (Uz es.length (OI P L es es.length) es.length).2.2
    exact List.length_eq_zero_iff.1 (by unfold QZ;omega)
   rw [e]
   exact BE.refl
 | cons j l=>
   have c:=N1s _ hk.2
   have hn:0<es.length:=by have:=c.head;omega
   obtain ⟨h1,h2,d⟩:=Nfe (P:=P) (L:=L) hn
   have:=d j l c
   rw [Nda] at this
   generalize QZ P L es=b at *
   cases b with
   | nil=>exact absurd rfl h1
   | cons a t=>rw [Nda] at this;exact this
end
end Go.Proofs.YtkppjkkkdpcgiaaGreat.Fn


namespace Go.Proofs.YtkppjkkkdpcgiaaGreat.Fn
open Go.AM Go.AM.Sym Go.Net
def WU (P:List Int) (L:List Leg) (T:List Int):Nat->List Int
 | 0=>T
 | k+1=>Go.Net.stepX 50 (OL P) L (WU P L T k)
theorem Nhe {P:List Int} {L:List Leg} {q dl:Int}:∀k,WU P L (Zu 50 (OL P q) dl) k=MS 50 (OL P) L q dl k
 | 0=>rfl
 | k+1=>by rw [WU,MS,Nhe k]
theorem Nra:okT (List.replicate 50 (-1)):=⟨by simp,fun j=>by
 rw [Na,Pv];unfold OA;split<;>simp⟩
theorem Njs {pos:Int->Nat} {bef aft:List Int} {l:Leg} {a:Int} (b:¬bef.getD (pos l.dst) (-1)<0) (h:SQ l (bef.getD (pos l.dst) (-1))=some a):Yn pos bef aft l=aft.set (pos l.frm) (max (aft.getD (pos l.frm) (-1)) (a-l.cut)):=by
 unfold Yn
 rw [Nh b]
 simp only [h]
 congr 1
 split<;>omega
theorem Niv [OB] {lim R A10 A11:Nat} {pl:Option Addr} {P:List Int} {L:List Leg} {cl:Nat} {H G:NE} {fr:Nat->Value} {K:List AItem} {Z:Value->NE->Prop} {bef:List Int}
  (o:NetOk 50 P L (OL P)) (hL:Sl H Rz 8 pl L) (ak:L.length<2 ^ 62) (hm:NF H R=.map (WQ P)) (aj:lim<=H.length) (hb:okT bef) (hE:Chg [] H G) (ah:H.length<=A10) (ai:H.length<=A11) (ag:A10≠A11) (aa:NF G A10=Vc (RU bef)) (ab:NF G A11=Vc (RU (List.replicate 50 (-1))))
  (f1:fr 1=.map (some R)) (f10:fr 10=Vp A10) (f11:fr 11=Vp A11) (V:fr 30=.slice pl L.length cl) (W:fr 31=Vi L.length) (f32:fr 32=Vi 0)
  (hR:∀fr' G',okT (Go.Net.stepX 50 (OL P) L bef)->Chg [A11] G G'->NF G' A11=Vc (RU (Go.Net.stepX 50 (OL P) L bef))->fr' 1=fr 1->fr' 4=fr 4->fr' 9=fr 9->fr' 11=fr 11->fr' 19=fr 19->fr' 20=fr 20->PV E a62 lim K fr' (G'++[]) Z) :
  PV E a62 lim (.code (.loop Nzq)::.inBlock 2::K) fr G Z:=by
 refine NR (fun i=>L.length-i) (fun i fr' G'=>i<=L.length/\fr' 1=.map (some R)/\fr' 4=fr 4/\fr' 9=fr 9/\fr' 10=Vp A10/\fr' 11=Vp A11/\fr' 19=fr 19/\fr' 20=fr 20/\fr' 30=.slice pl L.length cl/\fr' 31=Vi L.length/\fr' 32=Vi i/\
  Chg [A11] G G'/\okT ((L.take i).foldl (Yn (OL P) bef) (List.replicate 50 (-1)))/\NF G' A11=Vc (RU ((L.take i).foldl (Yn (OL P) bef) (List.replicate 50 (-1))))) 0
  ⟨Nz _,f1,rfl,rfl,f10,f11,rfl,rfl,V,W,f32,Chg.refl,Nra,ab⟩ ?_
 intro i fr' G' ⟨hi,A,T,U,h,e,u,v,m,n,w,J,B,d⟩ hN
 have C:Chg [] H G':=hE.trans' J fun j h1 h2=>by simp only [Nj] at h1;omega
 have hl:=C.len
 rw [NS Nzq.eq_1]
 refine NM ?_
 by_cases g:i<L.length
 case neg=>
  obtain rfl:i=L.length:=by omega
  rw [Oo] at B d
  simp only [n62,r62,A,h,e,m,n,w,g,SB,seval,NC,NJ,NG,NQ,reduceCtorEq,NB,place,NA,ND]
  exact hR _ _ B J d (by rw [f1];exact A) (by rw [<-T];exact rfl) (by rw [<-U];exact rfl) (by rw [f11];exact e) (by rw [<-u];exact rfl) (by rw [<-v];exact rfl)
 have O:=C.ext.sl hL
 have F:=fun X=>(O.app X).loadCells OH g
 have s:=fun c (k:IntKind) (H1:NE)=>O.idx (c:=c) (k:=k) (H1:=H1) g
 have I:IntKind.i64.wrap ((i:Int)+1)=((i+1:Nat):Int):=OG (by omega)
 have M:=J.cells aa (by simpa using ag)
 have q1:=fun X=>(OM.refl.app (X:=X)).cells M
 have q2:=fun X=>(OM.refl.app (X:=X)).cells d
 have N:=C.get hm (PQ hm) (by simp)
 have q3:∀X,NF (G'++X) R=.map (WQ P):=fun X=>by rw [NN (PQ N)];exact N
 have D:lim<=G'.length:=by omega
 have ae:lim<=A11:=by omega
 have t:=R6 g
 have hf:=o.fine _ t
 have i1:OL P (gt L i).frm<50:=o.lt _ (o.frm _ t)
 have i2:OL P (gt L i).dst<50:=o.lt _ (o.dst _ t)
 obtain ⟨j1,y⟩:=UU (i:=0) (o.frm _ t)
 obtain ⟨j2,z⟩:=UU (i:=0) (o.dst _ t)
 change findKey _ _ _=some (some (j1,Vi (OL P (gt L i).frm:Int))) at y
 change findKey _ _ _=some (some (j2,Vi (OL P (gt L i).dst:Int))) at z
 have x:=ZZ (f:=Yn (OL P) bef) (b:=List.replicate 50 (-1)) g
 generalize (L.take i).foldl (Yn (OL P) bef) (List.replicate 50 (-1))=aft at *
 have ad:=hb.2 (OL P (gt L i).dst)
 have ac:=B.2 (OL P (gt L i).frm)
 have gb:=Wd hb.1 i2
 have Y:=Wd B.1 i1
 have z1:(0:Int)<=(OL P (gt L i).frm:Int):=by omega
 have z2:(0:Int)<=(OL P (gt L i).dst:Int):=by omega
 have z3:(OL P (gt L i).frm:Int)<50:=by omega
 have z4:(OL P (gt L i).dst:Int)<50:=by omega
 have z5:OL P (gt L i).dst<=49:=by omega
 have z6:OL P (gt L i).frm<=49:=by omega
 by_cases p:bef.getD (OL P (gt L i).dst) (-1)<0
 ·have S:Yn (OL P) bef aft (gt L i)=aft:=by unfold Yn;rw [Ni p]
  rw [S] at x
  simp only [n62,r62,A,h,e,m,n,w,g,F,s,I,q1,q2,q3,y,z,gb,Y,z1,z2,z3,z4,z5,z6,OH,QH,QG,QF,QE,QD,QC,QB,QA,NI,PO,Pd,D,NH,p,SB,seval,NC,NJ,NG,NQ,reduceCtorEq,NB,place,NA,ND]
  exact hN (i+1) _ _ ⟨by omega,A,by rw [<-T];exact rfl,by rw [<-U];exact rfl,h,e,by rw [<-u];exact rfl,by rw [<-v];exact rfl,m,n,rfl,J.app,by rw [x];exact B,by rw [x];exact (OM.refl.app).cells d⟩ (by omega)
 unfold OA at ad ac
 have q:=fun (H:NE) (mp:Bool) (lim:Nat) (Q:Value->NE->Prop)=>N3l (mp:=mp) (lim:=lim) (H:=H) (Q:=Q) (l:=gt L i) (r:=bef.getD (OL P (gt L i).dst) (-1)) hf (by omega) (by omega)
 cases hx:SQ (gt L i) (bef.getD (OL P (gt L i).dst) (-1)) with
 | none=>
   rw [hx] at q
   simp only [On,Wy] at q
   have S:Yn (OL P) bef aft (gt L i)=aft:=by unfold Yn;rw [Nh p];simp only [hx]
   rw [S] at x
   simp only [n62,r62,A,h,e,m,n,w,g,F,s,I,q1,q2,q3,y,z,gb,Y,z1,z2,z3,z4,z5,z6,OH,QH,QG,QF,QE,QD,QC,QB,QA,NI,PO,Pd,D,NH,p,q,SB,seval,NC,NJ,NG,NQ,reduceCtorEq,NB,place,NA,ND]
   exact hN (i+1) _ _ ⟨by omega,A,by rw [<-T];exact rfl,by rw [<-U];exact rfl,h,e,by rw [<-u];exact rfl,by rw [<-v];exact rfl,m,n,rfl,J.app,by rw [x];exact B,by rw [x];exact (OM.refl.app).cells d⟩ (by omega)
 | some a=>
   rw [hx] at q
   simp only [Nv,Wy] at q
   obtain ⟨k1,k2,k3,k4⟩:=Ng0 hf hx
   unfold OA at k3
   have S:=Njs (aft:=aft) p hx
   rw [S] at x
   unfold Fine at hf
   have wc:IntKind.i64.wrap (a-(gt L i).cut)=a-(gt L i).cut:=NT (by omega) (by omega)
   obtain ⟨G2,e2,h2,m2⟩:=OP (NK d) (Vc (RU (aft.set (OL P (gt L i).frm) (max (aft.getD (OL P (gt L i).frm) (-1)) (a-(gt L i).cut)))))
   simp only [n62,r62,A,h,e,m,n,w,g,F,s,I,q1,q2,q3,y,z,gb,Y,z1,z2,z3,z4,z5,z6,OH,QH,QG,QF,QE,QD,QC,QB,QA,NI,PO,Pd,D,NH,p,q,wc,ae,Ny1,YF B.1,e2,SB,seval,NC,NJ,NG,NQ,reduceCtorEq,NB,place,NA,ND]
   exact hN (i+1) _ _ ⟨by omega,A,by rw [<-T];exact rfl,by rw [<-U];exact rfl,h,e,by rw [<-u];exact rfl,by rw [<-v];exact rfl,m,n,rfl,(J.mut m2 (.inl (by simp))).app,by rw [x];exact Nid B (by unfold OA;omega),by rw [x];exact (OM.refl.app).cells h2⟩ (by omega)
theorem Nev {P:List Int} {L:List Leg} {T:List Int} (b:NetOk 50 P L (OL P)) (f:okT T):∀k,okT (WU P L T k)
 | 0=>f
 | k+1=>by
   rw [WU,Go.Net.stepX]
   have g:=Nev b f k
   generalize WU P L T k=bef at g
   suffices h:∀(M:List Leg),(∀l∈M,l∈L)->∀aft,okT aft->okT (M.foldl (Yn (OL P) bef) aft) from h L (fun _ h=>h) _ Nra
   intro M
   induction M with
   | nil=>intro _ aft h;exact h
   | cons l M ih=>
     intro hM aft d
     rw [Oi]
     refine ih (fun x c=>hM x (Nk _ c)) _ ?_
     by_cases e:bef.getD (OL P l.dst) (-1)<0
     ·unfold Yn;rw [Ni e];exact d
     ·cases c:SQ l (bef.getD (OL P l.dst) (-1)) with
      | none=>unfold Yn;rw [Nh e];simp only [c];exact d
      | some a=>
        rw [Njs e c]
        obtain ⟨k1,k2,k3,j⟩:=Ng0 (b.fine _ (hM l (No ..))) c
        have i:=b.fine _ (hM l (No ..))
        have:=d.2 (OL P l.frm)
        unfold Fine at i
        exact Nid d (by omega)
theorem YS.le {α:Type} {lim e cap:Nat} {G:NE} {enc:α->List Value} {p:Option Addr} {l:List α} (h:YS lim G enc e p cap l) {lim':Nat} (hl:lim'<=lim):YS lim' G enc e p cap l:=by
 rcases h with h | ⟨R,a,h1,h2,b,c⟩
 ·exact .inl (h.le hl)
 ·exact .inr ⟨R,a,h1,h2,b,by omega⟩
theorem Nua [OB] {lim R n0:Nat} {T:List Int} {pp pl:Option Addr} {P:List Int} {L:List Leg} {cp cl:Nat} {H:NE} {Q:Value->NE->Prop} (hn:NetIn H pp pl P L) (y:NetOk 50 P L (OL P)) (hm:NF H R=.map (WQ P)) (hT:okT T) (ae:n0<2 ^ 30) (S:L.length<2 ^ 62) (x:lim<=H.length)
  (hQ:∀H' p cap,Chg [] H H'->YS H.length H' RU 50 p cap ((List.range (n0+1)).map (WU P L T))->Q (.slice p (n0+1) cap) H') :
  NL E false lim 62 [.agg (Tj pp P.length cp pl L.length cl).toArray,.map (some R),.agg (RU T).toArray,Vi n0] H Q:=by
 refine R8 (by decide) e62 rfl ?_
 rw [b62,c62]
 simp only [n62,r62,Njl,PO,NI,NH,Om,SB,seval,NC,NJ,NG,NQ,reduceCtorEq,NB,place,NA,ND]
 refine NR (fun s:Nat×Option Addr×Nat=>n0-s.1) (fun s fr G=>s.1<=n0/\fr 1=.map (some R)/\fr 4=Vp H.length/\fr 9=.slice s.2.1 (s.1+1) s.2.2/\fr 19=Vi n0/\fr 20=Vi s.1/\NF G H.length=Vc (Tj pp P.length cp pl L.length cl)/\Chg [] H G/\YS (H.length+1) G RU 50 s.2.1 s.2.2 ((List.range (s.1+1)).map (WU P L T))) (0,Sa (H.length+2),1)
  ⟨Nz _,rfl,rfl,by rfl,rfl,by rfl,NV,Chg.refl.app,.inr ⟨H.length+2,rfl,rfl,by show (1:Nat)<2 ^ 62;decide,by rw [NW];simp [WU],by omega⟩⟩ ?_
 rintro ⟨k,p,cap⟩ fr G ⟨hk,f1,f4,f9,o,f,hB,I,J⟩ hN
 simp only at hk f9 f J
 have hl:=I.len
 have U:=Nev y hT k
 rw [NS N5v.eq_1]
 refine NM ?_
 by_cases u:k<n0
 case neg=>
  obtain rfl:k=n0:=by omega
  simp only [n62,r62,f1,f4,f9,o,f,u,SB,seval,NC,NJ,NG,NQ,reduceCtorEq,NB,place,NA,ND]
  exact hQ _ _ _ I.app ((J.chg (A:=[]) (Chg.refl.app) (by simp)).le (by omega))
 have b:((List.range (k+1)).map (WU P L T)).length=k+1:=by simp
 have N:gt ((List.range (k+1)).map (WU P L T)) k=WU P L T k:=by
  rw [PZ (by rw [b];omega)];simp
 have hS:=J.sl PO
 have w:=fun X=>(hS.app X).loadCells PO (i:=k) (by rw [b];omega)
 have m:=fun c (kk:IntKind) (H1:NE)=>hS.idx (c:=c) (k:=kk) (H1:=H1) (i:=k) (by rw [b];omega)
 rw [b] at m
 rw [N] at w
 have V:IntKind.i64.wrap (((k+1:Nat):Int)-1)=(k:Int):=by rw [NT (by omega) (by omega)];omega
 have W:IntKind.i64.wrap ((k:Int)+1)=((k+1:Nat):Int):=OG (by omega)
 have O:lim<=G.length:=by omega
 have K:∀(H:NE) (mp:Bool) (lim:Nat) (Q:Value->NE->Prop),NL E mp lim 63 [Vi 0,Vi (-1)] H Q=Q (.agg (RU (List.replicate 50 (-1))).toArray) H:=fun H mp lim Q=>Noi (mp:=mp) (lim:=lim) (H:=H) (Q:=Q) (i:=0) (t:=-1) (by decide)
 have M:=fun X=>(OM.refl.app (X:=X)).cells hB
 simp only [n62,r62,f1,f4,f9,o,f,u,K,M,PR,Sg,Sd,Njl,PO,NI,NH,Om,V,m,w,O,show lim<=G.length+1 by omega,SB,seval,NC,NJ,NG,NQ,reduceCtorEq,NB,place,NA,ND]
 refine Niv (cl:=cl) (A10:=G.length) (A11:=G.length+1) y hn.sl S hm x U I.app (by omega) (by omega) (by omega) NV NW f1 rfl rfl rfl rfl rfl fun fr' G' z hC q k1 k4 k9 Y Z aa=>?_
 have B:fr' 1=.map (some R):=k1.trans f1
 have F:fr' 4=Vp H.length:=k4.trans f4
 have ab:fr' 9=.slice p (k+1) cap:=k9.trans f9
 have C:fr' 11=Vp (G.length+1):=Y.trans rfl
 have n:fr' 19=Vi n0:=Z.trans o
 have D:fr' 20=Vi k:=aa.trans f
 have l:=fun X=>(OM.refl.app (X:=X)).cells q
 have g:Chg [] G G':=hC.pre.mono fun j hj h=>by simp only [Nj] at h;omega
 have ad:=g.len
 have r:=J.chg g (by simp)
 change okT (WU P L T (k+1)) at z
 change NF G' (G.length+1)=Vc (RU (WU P L T (k+1))) at q
 change ∀X,NF (G'++X) (G.length+1)=Vc (RU (WU P L T (k+1))) at l
 have ac:H.length<G.length:=NK hB
 obtain ⟨G3,e3,O3,C3,d,l3,_⟩:=r.step (lim':=lim) (bytes:=400) (by omega) PO (by decide) (WU P L T (k+1)) (by rw [b];unfold PN;omega) (by rw [b];omega) (by omega) [Vc (RU (WU P L T (k+1)))] G'.length 1 NV
 rw [b] at e3
 have v:lim<=G'.length:=by omega
 simp only [n62,r62,B,F,ab,C,n,D,l,PO,NI,Njl,NH,Om,e3,W,v,SB,seval,NC,NJ,NG,NQ,reduceCtorEq,NB,place,NA,ND]
 refine hN (k+1,_,_) _ _ ⟨by omega,B,F,by rfl,n,rfl, ?_,C3 _ _ (by omega) (I.trans g),.inl ?_⟩ (by show n0-(k+1)<n0-k;omega)
 ·rw [Nb] at d
  rw [Nb,d H.length (by omega) fun a ha e=>by have:=(r.block ha).1;omega]
  exact g.cells hB (by simp)
 ·rw [Pq,O1]
  exact O3
theorem Oai [OB] {mp:Bool} {lim A B i:Nat} {o1 o2:Bool} {t:Int} {T:List Int} {H:NE} {Q:Value->NE->Prop} (hi:i<50) (b:T.length=50) (a:NF H A=.cells o1 [Vi i]) (hB:NF H B=.cells o2 [Vi t]) :
  NL E mp lim 61 [.agg (RU T).toArray,Vp A,Vp B] H Q=Q (.bool (decide (T.getD i (-1)=t))) H:=by
 refine pc (by decide) e61 rfl rfl ?_
 rw [b61,c61]
 have q1:=fun X=>(OM.refl.app (X:=X)).cells a
 have q2:=fun X=>(OM.refl.app (X:=X)).cells hB
 have c:(0:Int)<=(i:Int):=by omega
 have d:(i:Int)<50:=by omega
 have e:i<=49:=by omega
 have gt:=Wd b hi
 simp only [n61,r61,q1,q2,PO,NI,gt,c,d,e,Pd,SB,seval,NC,NJ,NG,NQ,reduceCtorEq,NB,place,NA,ND]
theorem N0c [OB] {mp:Bool} {lim A B i k cap:Nat} {p:Option Addr} {o1 o2:Bool} {t:Int} {Ts:List (List Int)} {H:NE} {Q:Value->NE->Prop} (hi:i<50) (q:NF H A=.cells o1 [Vi i]) (hB:NF H B=.cells o2 [Vi t]) (hs:Sl H RU 50 p Ts) (l:∀T∈Ts,T.length=50) (hn:Ts.length<2 ^ 62)
  (hk:k<Ts.length) (m:(gt Ts k).getD i (-1)=t) (n:∀j,j<k->(gt Ts j).getD i (-1)≠t) :
  NL E mp lim 60 [.slice p Ts.length cap,.func (.func 61) #[] #[Vp A,Vp B]] H Q=Q (Vi k) H:=by
 refine pc (by decide) e60 rfl rfl ?_
 rw [b60,c60]
 simp only [n60,r60,SB,seval,NC,NJ,NG,NQ,reduceCtorEq,NB,place,NA,ND]
 refine NR (fun j=>Ts.length-j) (fun j fr G=>j<=k/\fr 0=.slice p Ts.length cap/\fr 1=.func (.func 61) #[] #[Vp A,Vp B]/\fr 7=Vi Ts.length/\fr 8=Vi j/\OM H G) 0 ⟨Nz _,rfl,rfl,rfl,by rfl,OM.refl.app⟩ ?_
 intro j fr G ⟨s,f0,f1,h,o,e⟩ r
 rw [NS N5w.eq_1]
 refine NM ?_
 have a:j<Ts.length:=by omega
 have f:=fun X=>((e.sl hs).app X).loadCells PO a
 have d:=fun c (kk:IntKind) (H1:NE)=>(e.sl hs).idx (c:=c) (k:=kk) (H1:=H1) a
 have g:IntKind.i64.wrap ((j:Int)+1)=((j+1:Nat):Int):=OG (by omega)
 have b:=fun X (mp:Bool) (lim:Nat) (Q:Value->NE->Prop)=>Oai (mp:=mp) (lim:=lim) (Q:=Q) (H:=G++X) (T:=gt Ts j) hi (l _ (R6 a)) ((e.app).cells q) ((e.app).cells hB)
 by_cases he:j=k
 ·subst he
  rw [Nq m] at b
  simp only [n60,r60,f0,f1,h,o,a,f,d,g,b,SB,seval,NC,NJ,NG,NQ,reduceCtorEq,NB,place,NA,ND]
 ·rw [N8 (p:=(gt Ts j).getD i (-1)=t) (n j (by omega))] at b
  simp only [n60,r60,f0,f1,h,o,a,f,d,g,b,SB,seval,NC,NJ,NG,NQ,reduceCtorEq,NB,place,NA,ND]
  exact r (j+1) _ _ ⟨by omega,f0,f1,h,rfl,e.app⟩ (by omega)
theorem Njq [OB] {lim Y Bx c:Nat} {p:Option Addr} {o:Bool} {L:List Leg} {H:NE} {Q:Value->NE->Prop} (I:Nat->NE->Prop) (w:L.length<2 ^ 62)
  (h:∀i H H',I i H->Chg [] H H'->I i H')
  (f:∀i H,I i H->Sl H Rz 8 p L/\NF H Bx=.cells o [.slice p L.length c]/\lim<=H.length)
  (b:∀i H,i<L.length->I i H->WL E false lim Y [.agg (Rz (gt L i)).toArray] H fun v H'=>v=.bool true/\I (i+1) H')
  (s:I 0 H) (u:∀H',I L.length H'->Q (.tuple #[]) H') :
  NL E false lim 103 [.func (.yield Y) #[] #[],Vp Bx] H Q:=by
 refine R8 (by decide) Odj rfl ?_
 rw [Oen,N8a]
 have l:=fun X=>(OM.refl.app (X:=X)).cells (f _ _ s).2.1
 simp only [n103,N2v,l,SB,seval,NC,NJ,NG,NQ,reduceCtorEq,NB,place,NA,ND]
 refine NR (fun i=>L.length-i) (fun i fr G=>i<=L.length/\fr 0=.func (.yield Y) #[] #[]/\fr 5=.slice p L.length c/\fr 6=Vi L.length/\fr 7=Vi i/\I i G) 0 ⟨Nz _,rfl,rfl,rfl,by rfl,h _ _ _ s (Chg.refl.app)⟩ ?_
 intro i fr G ⟨hi,f0,f5,g,j,d⟩ t
 rw [NS Nz2.eq_1]
 refine NM ?_
 obtain ⟨hs,hB,n⟩:=f _ _ d
 by_cases a:i<L.length
 case neg=>
  obtain rfl:i=L.length:=by omega
  simp only [n103,N2v,f0,f5,g,j,a,SB,seval,NC,NJ,NG,NQ,reduceCtorEq,NB,place,NA,ND]
  exact u _ (h _ _ _ d (Chg.refl.app))
 have q:=fun X=>(hs.app X).loadCells OH a
 have e:=fun c (kk:IntKind) (H1:NE)=>hs.idx (c:=c) (k:=kk) (H1:=H1) a
 have r:IntKind.i64.wrap ((i:Int)+1)=((i+1:Nat):Int):=OG (by omega)
 simp only [n103,N2v,f0,f5,g,j,a,q,e,OH,QH,QG,QF,QE,QD,QC,QB,QA,NI,n,NH,SB,seval,NC,NJ,NG,NQ,reduceCtorEq,NB,place,NA,ND]
 refine (b i _ a (h _ _ _ d (Chg.refl.app))).mono fun v H' x=>?_
 obtain ⟨rfl,m⟩:=x
 refine NM ?_
 simp only [n103,N2v,f0,f5,g,j,r,SB,seval,NC,NJ,NG,NQ,reduceCtorEq,NB,place,NA,ND]
 exact t (i+1) _ _ ⟨by omega,f0,f5,g,rfl,h _ _ _ m (Chg.refl.app)⟩ (by omega)
theorem Nqn [OB] {lim Bx c:Nat} {p:Option Addr} {o:Bool} {L:List Leg} {H:NE} {Z:Value->NE->Prop} {fr0:Nat->Value} {K':List AItem} (hB:NF H Bx=.cells o [.slice p L.length c]) (hs:Sl H Rz 8 p L) (hn:L.length<2 ^ 30) (K:lim<=H.length)
  (f2:fr0 2=Vp H.length)
  (hQ:∀H' q cap,Chg [] H H'->Own (H.length+3) H' Rz 8 q cap L->NF H' H.length=Vc [.slice q L.length cap]->NF H' (H.length+1)=.dfr->H.length+3<=H'.length->PV E Ngb lim (K'++[.mark (H.length+1)]) fr0 (H'++[]) Z) :
  NL E false lim 103 [.func (.yield (H.length+2)) #[] #[],Vp Bx] (H++[Vc [Vz],.dfr,.loop ⟨0,none,fr0,13,[7],XN,XM⟩]) fun _ B=>
   Ym (NF B (H.length+1+1)) fun x=>PV E Ngb lim (Y2 x++(K'++[.mark (H.length+1)])) fr0 (B.set (H.length+1+1) .dead) Z:=by
 refine Njq (c:=c) (p:=p) (o:=o) (L:=L) (fun i G=>∃q cap,NF G H.length=Vc [.slice q i cap]/\Own (H.length+3) G Rz 8 q cap (L.take i)/\NF G (H.length+1)=.dfr/\NF G (H.length+2)=.loop ⟨0,none,fr0,13,[7],XN,XM⟩/\Chg [] H G/\H.length+3<=G.length/\i<=L.length) (by omega) ?_ ?_ ?_ ?_ ?_
 ·rintro i G G' ⟨q,cap,h1,h2,r,k,h5,F,I⟩ d
  have:=d.len
  exact ⟨q,cap,d.cells h1 (by simp),h2.chg d (by simp),d.get r (by omega) (by simp),d.get k (by omega) (by simp),h5.trans d,by omega,I⟩
 ·rintro i G ⟨q,cap,h1,h2,r,k,h5,F,I⟩
  exact ⟨h5.ext.sl hs,h5.cells hB (by simp),by omega⟩
 ·rintro i G v ⟨q,cap,h2,t,hd,M,d,hl,_⟩
  rw [X0 (x:=⟨0,none,fr0,13,[7],XN,XM⟩) M (by omega) rfl rfl,WN]
  rw [NS XN.eq_1]
  refine NM ?_
  obtain ⟨G1,e1,h1,f⟩:=OP (G:=G) (R:=H.length+2) (by omega) (.loop ⟨1,none,fr0,13,[7],XN,XM⟩)
  have Y:=fun X=>(OM.refl.app (X:=X)).get' M (by omega)
  have l:lim<=G.length:=by omega
  simp only [f2,OH,QH,QG,QF,QE,QD,QC,QB,QA,NI,NH,l,Y,e1,show lim<=H.length+2 by omega,SB,seval,NC,NJ,NG,NQ,reduceCtorEq,NB,place,NA,ND]
  rw [NS XM.eq_1]
  have u:Own (H.length+3) G1 Rz 8 q cap (L.take i):=t.mut f fun a e=>by have:=(t.block e).1;omega
  have g:(L.take i).length=i:=by rw [Oy];omega
  obtain ⟨n,e3,s,P,b,N,aa⟩:=u.step (lim':=lim) (bytes:=64) (by omega) OH (by decide) (gt L i) (by rw [g];unfold PN;omega) (by rw [g];omega) (by rw [f.len];omega) [Vc (Rz (gt L i)),Vc (Rz (gt L i))] (G1.length+1) 1 NW
  rw [g] at e3
  rw [f.len] at e3 s N
  simp only [Nl,Ns] at e3 N
  have b2:=fun X=>(OM.refl.app (X:=X)).cells (f.cells h2 (by omega))
  have T:∀X:NE,NF (G1++X) G.length=X.getD 0 .dead:=(Ur f.len).2.2.1
  have U:∀(X:NE) (j:Nat),NF (G1++X) (G.length+j)=X.getD j .dead:=(Ur f.len).2.1
  have w:∀j,j<H.length+3->∀a,q=some a->j≠a.block:=fun j J a e hh=>by have:=(t.block e).1;omega
  have y:NF (n++[]) H.length=Vc [.slice q i cap]:=(b _ (by rw [f.len];omega) (w _ (by omega))).trans (f.cells h2 (by omega))
  have O:NF (n++[]) (H.length+2)=_:=(b _ (by rw [f.len];omega) (w _ (by omega))).trans h1
  have D:NF (n++[]) (H.length+1)=_:=(b _ (by rw [f.len];omega) (w _ (by omega))).trans (f.alive hd (by omega))
  rw [Nb] at y O D s
  obtain ⟨Q,V,k,h⟩:=OP (NK y) (Vc [.slice (Sa (G.length+2)) (i+1) (loose 8)])
  have A:=h.alive O (by omega)
  have y4:=fun X=>(OM.refl.app (X:=X)).get' A (by rw [h.len];omega)
  obtain ⟨S,W,h5,m⟩:=OP (G:=Q) (R:=H.length+2) (by rw [h.len];omega) (.loop ⟨0,none,fr0,13,[7],XN,XM⟩)
  have z:=fun X=>(OM.refl.app (X:=X)).cells y
  simp only [f2,OH,QH,QG,QF,QE,QD,QC,QB,QA,NI,NH,l,b2,T,U,f.len,e3,V,W,y4,z,show lim<=H.length by omega,show lim<=H.length+2 by omega,SB,seval,NC,NJ,NG,NQ,reduceCtorEq,NB,place,NA,ND]
  have C:=P [] H (by omega) (d.mut f (.inr (by omega)))
  rw [Nb] at C
  have l5:S.length=n.length:=by rw [m.len,h.len]
  refine ⟨_,_,(OM.refl.app).cells (m.cells k (by omega)), ?_,(OM.refl.app).get' (m.alive (h.alive D (by omega)) (by omega)) (by omega),(OM.refl.app).get' h5 (by omega),((C.mut h (.inr (by omega))).mut m (.inr (by omega))).app,by omega,by omega⟩
  rw [Xe v]
  exact ((s.mut h fun a e=>by cases e;show G.length+2≠_;omega).mut m fun a e=>by cases e;show G.length+2≠_;omega).app _
 ·exact ⟨none,0,NV,.nil,by rw [NW];rfl,by rw [NW];rfl,Chg.refl.app,by simp,Nz _⟩
 ·rintro H' ⟨q,cap,h1,h2,r,k,h5,F,_⟩
  rw [Oo] at h2
  rw [Npz (show NF H' (H.length+1+1)=_ from k),N0t]
  show PV E Ngb lim (K'++[.mark (H.length+1)]) fr0 _ _
  have d:Mut H' (H'.set (H.length+1+1) .dead) (H.length+1+1):=⟨by simp,fun j J=>QK J⟩
  refine NM ?_
  exact hQ _ q cap (h5.mut d (.inr (by omega))) (h2.mut d fun a e=>by have:=(h2.block e).1;omega) (d.cells h1 (by omega)) (d.alive r (by omega)) (by rw [d.len];omega)
theorem Nql [OB] {lim Bx c:Nat} {p:Option Addr} {o:Bool} {L:List Leg} {H:NE} {Q:Value->NE->Prop} (hB:NF H Bx=.cells o [.slice p L.length c]) (hs:Sl H Rz 8 p L) (hn:L.length<2 ^ 30) (d:lim<=H.length)
  (k:∀H' q cap,Chg [] H H'->Own (H.length+3) H' Rz 8 q cap L->Q (.slice q L.length cap) H') :
  NL E false lim 132 [Vz,.func (.func 103) #[] #[Vp Bx]] H Q:=by
 refine R8 (by decide) Oc3 rfl ?_
 rw [Od7,N70]
 have b:(H++[Vc [Value.slice none 0 0]]).length=H.length+1:=by simp
 simp only [n132,N83,SB,seval,NC,NJ,NG,NQ,reduceCtorEq,NB,place,NA,ND]
 rw [b]
 refine Nqn hB hs hn d rfl fun H' q cap i h h2 hd hl=>?_
 have f:=fun X=>(OM.refl.app (X:=X)).cells h2
 have g:=fun X=>(OM.refl.app (X:=X)).get' hd (by omega)
 show PV E Ngb lim (.inBlock 0::.code _::.code .retM::.mark (H.length+1)::[]) _ _ _
 simp only [n132,N83,f,g,show lim<=H.length+1 by omega,SB,seval,NC,NJ,NG,NQ,reduceCtorEq,NB,place,NA,ND]
 have hm:Mut (H'++[]) ((H'++[]).set (H.length+1) .dead) (H.length+1):=⟨by simp,fun j l=>QK l⟩
 exact k _ _ _ (i.app.mut hm (.inr (by omega))) ((h.app []).mut hm fun a e=>by have:=(h.block e).1;omega)
theorem Nqa [OB] {lim Bx c:Nat} {p:Option Addr} {o:Bool} {L:List Leg} {H:NE} {Q:Value->NE->Prop} (hB:NF H Bx=.cells o [.slice p L.length c]) (hs:Sl H Rz 8 p L) (hn:L.length<2 ^ 30) (a:lim<=H.length)
  (e:∀H' q cap,Chg [] H H'->Own (H.length+3) H' Rz 8 q cap L->Q (.slice q L.length cap) H') :
  NL E false lim 101 [.func (.func 103) #[] #[Vp Bx]] H Q:=by
 refine R8 (by decide) Odk rfl ?_
 rw [Oeo,N8b]
 simp only [n101,N88,SB,seval,NC,NJ,NG,NQ,reduceCtorEq,NB,place,NA,ND]
 rw [Nb]
 refine Nql hB hs hn a fun H' q cap b d=>?_
 refine NM ?_
 simp only [n101,N88,SB,seval,NC,NJ,NG,NQ,reduceCtorEq,NB,place,NA,ND]
 exact e _ _ _ b.app (d.app _)
end Go.Proofs.YtkppjkkkdpcgiaaGreat.Fn


namespace Go.Proofs.YtkppjkkkdpcgiaaGreat.Fn
open Go.AM Go.AM.Sym Go.Scan
theorem Nly [OB] {mp:Bool} {lim:Nat} {n:Int} {H:NE} {Q:Value->NE->Prop}:NL E mp lim 104 [Vi n] H Q=Q (.bool false) H:=by
 refine pc (by decide) Odi rfl rfl ?_
 rw [Oem,N79]
 simp only [n104,Oce,SB,seval,NC,NJ,NG,NQ,reduceCtorEq,NB,place,NA,ND]
theorem Ng5 [OB] {mp:Bool} {lim:Nat} {n:Int} {H:NE} {Q:Value->NE->Prop}:NL E mp lim 156 [.int .u8 n] H Q=Q (.bool false) H:=by
 refine pc (by decide) Ocu rfl rfl ?_
 rw [Ody,c156]
 simp only [n156,Ob9,SB,seval,NC,NJ,NG,NQ,reduceCtorEq,NB,place,NA,ND]
def Nml (a b:Int):Int:=if a<b then -1 else if b<a then 1 else 0
theorem Nqb [OB] {mp:Bool} {lim:Nat} {a b:Int} {H:NE} {Q:Value->NE->Prop}:NL E mp lim 67 [Vi a,Vi b] H Q=Q (Vi (Nml a b)) H:=by
 refine pc (by decide) e67 rfl rfl ?_
 rw [b67,c67]
 simp only [n67,r67,Nly,SB,seval,NC,NJ,NG,NQ,reduceCtorEq,NB,place,NA,ND]
 repeat' ((first | refine Xa (fun c=>?_) (fun c=>?_) | refine Xu (fun c=>?_) (fun c=>?_) | refine Xb (fun c=>?_) (fun c=>?_) | refine Xv (fun c=>?_) (fun c=>?_))<;>(try simp only [c,n67,r67,Nly,SB,Nat.reduceLT,NC,NJ,Nat.reduceEqDiff,NG,NQ,reduceCtorEq,NB,place,NA,Nat.reduceAdd,Nat.reduceLeDiff,ND,Int.reduceEq,Int.reduceLT,Int.reduceLE]))
 all_goals simp [Nml, *]
theorem Nrz [OB] {mp:Bool} {lim:Nat} {a b:Int} {H:NE} {Q:Value->NE->Prop}:NL E mp lim 131 [.int .u8 a,.int .u8 b] H Q=Q (Vi (Nml a b)) H:=by
 refine pc (by decide) Oc4 rfl rfl ?_
 rw [Od8,c131]
 simp only [n131,N84,Ng5,SB,seval,NC,NJ,NG,NQ,reduceCtorEq,NB,place,NA,ND]
 repeat' ((first | refine Xa (fun c=>?_) (fun c=>?_) | refine Xu (fun c=>?_) (fun c=>?_) | refine Xb (fun c=>?_) (fun c=>?_) | refine Xv (fun c=>?_) (fun c=>?_))<;>(try simp only [c,n131,N84,Ng5,SB,Nat.reduceLT,NC,NJ,Nat.reduceEqDiff,NG,NQ,reduceCtorEq,NB,place,NA,Nat.reduceAdd,Nat.reduceLeDiff,ND,Int.reduceEq,Int.reduceLT,Int.reduceLE]))
 all_goals simp [Nml, *]
def orL:List Int->Int
 | []=>0
 | x::l=>if x≠0 then x else orL l
theorem Nxz {l:List Int} {i:Nat} (h:i<l.length):orL (l.drop i)=if gt l i≠0 then gt l i else orL (l.drop (i+1)):=by
 rw [Ou h,orL,PZ h]
theorem N9i [OB] (mp:Bool) (lim:Nat) {p:Option Addr} {l:List Int} {cap:Nat} {H:NE} {Q:Value->NE->Prop} (hs:Sl H encI 1 p l) (hn:l.length<2 ^ 62) :
  NL E mp lim 125 [.slice p l.length cap] H Q=Q (Vi (orL l)) H:=by
 refine pc (by decide) Oc7 rfl rfl ?_
 rw [Oeb,N72]
 simp only [n125,N2u,SB,seval,NC,NJ,NG,NQ,reduceCtorEq,NB,place,NA,ND]
 refine NR (fun i=>l.length-i) (fun i fr G=>i<=l.length/\fr 6=.slice p l.length cap/\fr 7=Vi l.length/\fr 8=Vi i/\fr 3=Vi 0/\Sl G encI 1 p l/\
  orL l=orL (l.drop i)) 0 ⟨Nz _,rfl,rfl,by rfl,rfl,hs.app _,rfl⟩ ?_
 intro i fr G ⟨hi,j,m,n,h,o,e⟩ q
 rw [NS Nz0.eq_1]
 refine NM ?_
 by_cases a:i<l.length
 ·have f:=(o.app []).loadCell0 (fun _=>rfl) a (by decide)
  have d:=fun c (k:IntKind) (H1:NE)=>o.idx (c:=c) (k:=k) (H1:=H1) a
  have g:IntKind.i64.wrap ((i:Int)+1)=((i+1:Nat):Int):=OG (by omega)
  rw [Nxz a] at e
  simp only [n125,N2u,j,m,n,h,a,d,f,encI,g,SB,seval,NC,NJ,NG,NQ,reduceCtorEq,NB,place,NA,ND]
  repeat' ((first | refine Xa (fun b=>?_) (fun b=>?_) | refine Xu (fun b=>?_) (fun b=>?_) | refine Xb (fun b=>?_) (fun b=>?_) | refine Xv (fun b=>?_) (fun b=>?_))<;>(try simp only [b,n125,N2u,j,m,n,h,a,d,f,encI,g,SB,Nat.reduceLT,NC,NJ,Nat.reduceEqDiff,NG,NQ,reduceCtorEq,NB,place,NA,Nat.reduceAdd,Nat.reduceLeDiff,ND,Int.reduceEq,Int.reduceLT,Int.reduceLE]))
  ·rw [e,Ni b]
  ·refine q (i+1) _ _ ⟨by omega,j,m,rfl,h,o.app _, ?_⟩ (by omega)
   rw [e,Nh b]
 ·obtain rfl:i=l.length:=by omega
  rw [Qo,orL] at e
  simp only [n125,N2u,j,m,n,h,a,e,SB,seval,NC,NJ,NG,NQ,reduceCtorEq,NB,place,NA,ND]
def ZW:List Value->List Int
 | .int _ a::r=>a::ZW r
 | _=>[]
def Nax:List Value->Bool
 | .int .i64 _::r=>Nax r
 | []=>true
 | _=>false
theorem YA {j:IntKind} {a:Int} {r:List Value}:ZW (.int j a::r)=a::ZW r:=rfl
theorem Nei:ZW []=[]:=rfl
theorem Nbs {a:Int} {r:List Value}:Nax (Vi a::r)=Nax r:=id rfl
theorem Nd8:Nax []=true:=id rfl
theorem Ng7:∀c:List Value,Nax c=true->c=(ZW c).flatMap encI
 | [],_=>rfl
 | .int .i64 a::r,h=>by
   rw [YA,Ow,<-Ng7 r h];rfl
theorem Nxy [OB] {mp:Bool} {lim b n cap:Nat} {H:NE} {Q:Value->NE->Prop} (h1:isCells (NF H b)=true) (h2:Nax (cellsOf (NF H b))=true) (a:(ZW (cellsOf (NF H b))).length=n) (c:n<2 ^ 62) :
  NL E mp lim 125 [.slice (Sa b) n cap] H Q=Q (Vi (orL (ZW (cellsOf (NF H b))))) H:=by
 subst a
 rw [N9i mp lim (Sl.lit (fun _=>rfl) h1 (Ng7 _ h2)) c]
theorem Ngz {a b:Int} {x y:List Int}:S9 (a::x) (b::y)=if Nml a b≠0 then Nml a b else S9 x y:=by
 rw [S9]
 unfold Nml
 by_cases h1:a<b
 ·simp [h1]
 ·by_cases h2:b<a
  ·simp [h1,h2]
  ·simp [h1,h2]
theorem Nlr:S9 [] []=0:=rfl
theorem N09 [OB] {mp:Bool} {lim:Nat} {a b:Mk} {H:NE} {Q:Value->NE->Prop}:NL E mp lim 124 [.agg (QT a).toArray,.agg (QT b).toArray] H Q=Q (Vi (S9 (SS a) (SS b))) H:=by
 refine pc (by decide) Oc8 rfl rfl ?_
 rw [Oec,c124]
 simp only [n124,Ocb,QT,Nqb,Nrz,Nxy,Z9,ZE,YA,Nei,Nbs,Nd8,Nat.reducePow,SB,seval,NC,NJ,NG,NQ,reduceCtorEq,NB,place,NA,ND]
 simp only [SS,Ngz,Nlr,orL]
theorem N1a [OB] {mp:Bool} {lim:Nat} {a b:Ev} {H:NE} {Q:Value->NE->Prop}:NL E mp lim 96 [.agg (encE a).toArray,.agg (encE b).toArray] H Q=Q (Vi (S9 (Tx a) (Tx b))) H:=by
 refine pc (by decide) e96 rfl rfl ?_
 rw [b96,c96]
 simp only [n96,r96,encE,Nqb,Nrz,Nxy,Z9,ZE,YA,Nei,Nbs,Nd8,Nat.reducePow,SB,seval,NC,NJ,NG,NQ,reduceCtorEq,NB,place,NA,ND]
 simp only [Tx,Ngz,Nlr,orL]
theorem M0 [OB] {mp:Bool} {lim:Nat} {a b:Mk} {H:NE} {Q:Value->NE->Prop}:NL E mp lim 127 [.agg (QT a).toArray,.agg (QT b).toArray] H Q=Q (.bool (decide (RS a b))) H:=by
 refine pc (by decide) Oc6 rfl rfl ?_
 rw [Oea,c127]
 unfold RS
 by_cases h1:a.scanner=b.scanner
 ·simp only [n127,N85,QT,N7 h1,decide_true,Rf,SB,seval,NC,NJ,NG,NQ,reduceCtorEq,NB,place,NA,ND]
 ·simp only [n127,N85,QT,Nr h1,decide_false,false_and,SB,seval,NC,NJ,NG,NQ,reduceCtorEq,NB,place,NA,ND]
theorem N7g {a b:Int} (h:0<b):a / b=if Int.tmod a b<0 then Int.tdiv a b-1 else Int.tdiv a b:=by
 have h1:=Int.mul_tdiv_add_tmod a b
 by_cases d:0<=a
 ·rw [Nh (by have:=Int.tmod_nonneg b d;omega),Ph d]
 ·have hm:Int.tmod a b<=0:=by
   have:=Int.tmod_nonneg b (a:=-a) (by omega)
   rw [Int.neg_tmod] at this;omega
  have e:-b<Int.tmod a b:=by
   have:=Int.tmod_lt_of_pos (-a) h
   rw [Int.neg_tmod] at this;omega
  by_cases c:Int.tmod a b<0
  ·rw [Ni c]
   exact ((Int.ediv_emod_unique (a:=a) (r:=Int.tmod a b+b) (q:=Int.tdiv a b-1) h).mpr ⟨by rw [Int.mul_sub,Int.mul_one];omega,by omega,by omega⟩).1
  ·rw [Nh c]
   exact ((Int.ediv_emod_unique (a:=a) (r:=Int.tmod a b) (q:=Int.tdiv a b) h).mpr ⟨by omega,by omega,by omega⟩).1
theorem N7f [OB] {mp:Bool} {lim:Nat} {a b:Int} {H:NE} {Q:Value->NE->Prop} (h:0<b) (h1:-2 ^ 62<=a) (h2:a<=2 ^ 62):NL E mp lim 145 [Vi a,Vi b] H Q=Q (Vi (a / b)) H:=by
 refine pc (by decide) Ocv rfl rfl ?_
 rw [Odz,c145]
 have i:-2 ^ 62<=Int.tdiv a b/\Int.tdiv a b<=2 ^ 62:=by
  have:=Int.natAbs_tdiv_le_natAbs a b
  omega
 have c:¬b=0:=by omega
 have e:=N7g (a:=a) h
 have d:IntKind.i64.wrap (Int.tdiv a b)=Int.tdiv a b:=NT (by omega) (by omega)
 have f:IntKind.i64.wrap (Int.tdiv a b-1)=Int.tdiv a b-1:=NT (by omega) (by omega)
 have g:IntKind.i64.wrap (Int.tmod a b)=Int.tmod a b:=by
  have j:=Int.tmod_lt_of_pos a h
  have k:=Int.natAbs_tmod a b
  have l:a.natAbs % b.natAbs<=a.natAbs:=Nat.mod_le _ _
  exact NT (by omega) (by omega)
 by_cases hm:Int.tmod a b<0
 ·rw [Ni hm] at e
  simp only [n145,N80,Nr c,d,f,g,N7 hm,e,SB,seval,NC,NJ,NG,NQ,reduceCtorEq,NB,place,NA,ND]
 ·rw [Nh hm] at e
  simp only [n145,N80,Nr c,d,f,g,Nr hm,e,SB,seval,NC,NJ,NG,NQ,reduceCtorEq,NB,place,NA,ND]
theorem N28 [OB] {mp:Bool} {lim B1 B2 c i:Nat} {o1 o2:Bool} {p:Option Addr} {M:List Mk} {sc:Int} {H:NE} {Q:Value->NE->Prop} (h1:NF H B1=.cells o1 [.slice p M.length c]) (h2:NF H B2=.cells o2 [Vi sc]) (hs:Sl H QT 3 p M) (hi:i<M.length) :
  NL E mp lim 171 [Vi i,Vp B1,Vp B2] H Q=Q (.bool (decide (sc<=(gt M i).scanner))) H:=by
 refine pc (by decide) Oco rfl rfl ?_
 rw [Odt,c171]
 have q1:=fun X=>(OM.refl.app (X:=X)).cells h1
 have q2:=fun X=>(OM.refl.app (X:=X)).cells h2
 have b:=fun X=>(hs.app X).loadCell (fun _=>rfl) hi (show 0<3 by decide)
 have a:=fun c (k:IntKind) (H1:NE)=>hs.idx (c:=c) (k:=k) (H1:=H1) hi
 simp only [n171,Ob8,q1,q2,b,a,XQ,ge_iff_le,SB,Nat.reduceLT,NC,NJ,Nat.reduceEqDiff,NG,NQ,reduceCtorEq,NB,place,NA,Nat.reduceAdd,Nat.reduceLeDiff,ND,Int.reduceEq,Int.reduceLT,Int.reduceLE]
theorem N8r {x:Int}:IntKind.u64.wrap x=x % 2 ^ 64:=by
 simp only [IntKind.wrap,IntKind.bits,IntKind.signed]
 simp
theorem Nss [OB] {mp:Bool} {lim B1 B2 c f:Nat} {o1 o2:Bool} {p:Option Addr} {M:List Mk} {sc:Int} {H:NE} {Q:Value->NE->Prop} (h1:NF H B1=.cells o1 [.slice p M.length c]) (h2:NF H B2=.cells o2 [Vi sc]) (hs:Sl H QT 3 p M) (hn:M.length<2 ^ 40)
  (t:f<=M.length) (l:∀i,i<f->(gt M i).scanner<sc) (k:∀i,f<=i->i<M.length->sc<=(gt M i).scanner) :
  NL E mp lim 170 [Vi M.length,.func (.func 171) #[] #[Vp B1,Vp B2]] H Q=Q (Vi f) H:=by
 refine pc (by decide) Ocp rfl rfl ?_
 rw [Odu,N7s]
 simp only [n170,N2r,SB,Nat.reduceLT,NC,NJ,Nat.reduceEqDiff,NG,NQ,reduceCtorEq,NB,place,NA,Nat.reduceAdd,Nat.reduceLeDiff,ND,Int.reduceEq,Int.reduceLT,Int.reduceLE]
 refine NR (fun s:Nat×Nat=>s.2-s.1) (fun s fr G=>s.1<=f/\f<=s.2/\s.2<=M.length/\fr 1=.func (.func 171) #[] #[Vp B1,Vp B2]/\fr 5=Vi s.1/\fr 6=Vi s.2/\OM H G) (0,M.length)
  ⟨Nz _,t,Nd _,rfl,by rfl,rfl,OM.refl.app⟩ ?_
 rintro ⟨i,j⟩ fr G ⟨k1,k2,k3,b,d,e,g⟩ m
 simp only at k1 k2 k3 d e
 rw [NS Nzs.eq_1]
 refine NM ?_
 have q1:=fun X=>(g.app (X:=X)).cells h1
 have q2:=fun X=>(g.app (X:=X)).cells h2
 have q3:=fun X=>(g.app (X:=X)).sl hs
 have n:IntKind.i64.wrap ((i:Int)+(j:Int))=(i:Int)+(j:Int):=NT (by omega) (by omega)
 have q:IntKind.u64.wrap ((i:Int)+(j:Int))=(i:Int)+(j:Int):=by rw [N8r];omega
 have o:IntKind.i64.wrap (((i:Int)+(j:Int)).fdiv (2 ^ min (Int.toNat 1) IntKind.u64.bits))=(((i+j) / 2:Nat):Int):=by
  rw [show (2:Int) ^ min (Int.toNat 1) IntKind.u64.bits=2 from by decide,Qw _ (by decide)]
  exact (NT (by omega) (by omega)).trans (by omega)
 have wd:IntKind.i64.wrap ((((i+j) / 2:Nat):Int)+1)=(((i+j) / 2+1:Nat):Int):=OG (by omega)
 by_cases a:i<j
 ·have ho:=fun (H':NE) (h1:_) (h2:_) (r:_) (lim:Nat) (Q:Value->NE->Prop)=>N28 (mp:=false) (lim:=lim) (H:=H') (o1:=o1) (o2:=o2) (B1:=B1) (B2:=B2) (c:=c) (p:=p) (sc:=sc) (Q:=Q) (M:=M) (i:=(i+j) / 2) h1 h2 r (by omega)
  have h:=fun (X:NE)=>ho (G++X) (q1 X) (q2 X) (q3 X)
  by_cases u:(i+j) / 2<f
  ·have hl:=l _ u
   have hd:decide (sc<=(gt M ((i+j) / 2)).scanner)=false:=N8 (by omega)
   simp only [n170,N2r,b,d,e,a,n,q,o,wd,h,hd,SB,Nat.reduceLT,NC,NJ,Nat.reduceEqDiff,NG,NQ,reduceCtorEq,NB,place,NA,Nat.reduceAdd,Nat.reduceLeDiff,ND,Int.reduceEq,Int.reduceLT,Int.reduceLE]
   refine m ((i+j) / 2+1,j) _ _ ⟨by omega,k2,k3,b,rfl,e,g.app⟩ (by simp only;omega)
  ·have hl:=k ((i+j) / 2) (by omega) (by omega)
   have hd:decide (sc<=(gt M ((i+j) / 2)).scanner)=true:=Nq hl
   simp only [n170,N2r,b,d,e,a,n,q,o,wd,h,hd,SB,Nat.reduceLT,NC,NJ,Nat.reduceEqDiff,NG,NQ,reduceCtorEq,NB,place,NA,Nat.reduceAdd,Nat.reduceLeDiff,ND,Int.reduceEq,Int.reduceLT,Int.reduceLE]
   refine m (i,(i+j) / 2) _ _ ⟨k1,by simp only;omega,by simp only;omega,b,d,rfl,g.app⟩ (by simp only;omega)
 ·obtain rfl:i=f:=by omega
  simp only [n170,N2r,b,d,e,a,SB,Nat.reduceLT,NC,NJ,Nat.reduceEqDiff,NG,NQ,reduceCtorEq,NB,place,NA,Nat.reduceAdd,Nat.reduceLeDiff,ND,Int.reduceEq,Int.reduceLT,Int.reduceLE]
def Nf0 (sc:Int) (D:List Mk) (i:Nat):List Mk:=(D.drop i).takeWhile fun m=>m.scanner == sc
theorem Nxk {sc:Int} {D:List Mk} {i:Nat} (h:i<D.length) (hs:(gt D i).scanner=sc):Nf0 sc D i=gt D i::Nf0 sc D (i+1):=by
 unfold Nf0
 rw [Ou h,<-PZ h,List.takeWhile_cons_of_pos (by simpa using hs)]
theorem N2n {sc:Int} {D:List Mk} {i:Nat} (h:i<D.length) (hs:¬(gt D i).scanner=sc):Nf0 sc D i=[]:=by
 unfold Nf0
 rw [Ou h,<-PZ h,List.takeWhile_cons_of_neg (by simpa using hs)]
theorem Nxl {sc:Int} {D:List Mk}:Nf0 sc D D.length=[]:=by
 unfold Nf0;rw [Qo];rfl
def VZ (sc:Int) (M:List Mk):Nat:=(M.takeWhile fun m=>decide (m.scanner<sc)).length
def N4w (M:List Mk):Prop:=M.Pairwise fun a b=>a.scanner<=b.scanner
theorem N2m {M:List Mk} (h:M.Pairwise Mo):N4w M:=h.imp fun {a b} q=>by unfold Mo at q;omega
theorem MP {sc:Int}:∀{M:List Mk},N4w M->VZ sc M<=M.length/\(∀i,i<VZ sc M->(gt M i).scanner<sc)/\(∀i,VZ sc M<=i->i<M.length->sc<=(gt M i).scanner)/\Nf0 sc (M.drop (VZ sc M)) 0=ofN M sc
 | [],_=>⟨Nd _,fun i h=>absurd h (by simp [VZ]),fun i _ h=>absurd h (by simp),rfl⟩
 | m::M,h=>by
   obtain ⟨h1,h2⟩:=List.pairwise_cons.mp h
   obtain ⟨j,d,f,g⟩:=MP (sc:=sc) h2
   by_cases hm:m.scanner<sc
   ·have e:VZ sc (m::M)=VZ sc M+1:=by
     unfold VZ
     rw [List.takeWhile_cons_of_pos (by simpa using hm),Nl]
    rw [e]
    refine ⟨by simp only [Nl];omega,fun i hi=>?_,fun i hi hl=>?_, ?_⟩
    ·cases i with
     | zero=>rw [ML];exact hm
     | succ i=>rw [U5];exact d i (by omega)
    ·cases i with
     | zero=>omega
     | succ i=>rw [U5];exact f i (by omega) (by simpa using hl)
    ·rw [List.drop_succ_cons,g]
     unfold ofN
     rw [Q6 (by simp;omega)]
   ·have e:VZ sc (m::M)=0:=by
     unfold VZ
     rw [List.takeWhile_cons_of_neg (by simpa using hm)];rfl
    rw [e]
    refine ⟨Nz _,fun i hi=>absurd hi (Nat.not_lt_zero i),fun i _ hl=>?_, ?_⟩
    ·cases i with
     | zero=>rw [ML];omega
     | succ i=>
       rw [U5]
       have b:i<M.length:=by simpa using hl
       have:=h1 _ (R6 b);omega
    ·rw [Ov]
     unfold Nf0 ofN
     rw [Ov]
     clear j d f g e
     have key:∀L:List Mk,N4w L->(∀x∈L,sc<=x.scanner)->(L.takeWhile fun m=>m.scanner == sc)=L.filter fun m=>m.scanner == sc:=by
      intro L
      induction L with
      | nil=>intros;rfl
      | cons x L ih=>
        intro hL a
        obtain ⟨k1,k2⟩:=List.pairwise_cons.mp hL
        by_cases hx:x.scanner=sc
        ·rw [List.takeWhile_cons_of_pos (by simpa using hx),List.filter_cons_of_pos (by simpa using hx),ih k2 fun y c=>a y (Nk _ c)]
        ·rw [List.takeWhile_cons_of_neg (by simpa using hx),Q6 (by simpa using hx)]
         symm
         rw [List.filter_eq_nil_iff]
         intro y c
         have k:=k1 y c
         have l:=a x No
         simp;omega
     exact key _ h fun x hx=>by
      rcases Np.mp hx with rfl | hx
      ·omega
      ·have:=h1 x hx;omega
theorem N9l [OB] {lim c n:Nat} {p:Option Addr} {sc:Int} {H:NE} {Q:Value->NE->Prop} :
  NL E false lim 144 [.slice p n c,Vi sc] H Q=Q (.func (.func 169) #[] #[Vp H.length,Vp (H.length+1)]) (H++[Vc [.slice p n c],Vc [Vi sc]]):=by
 refine NL.eq ?_
 refine R8 (by decide) Ocw rfl ?_
 rw [Od0,N7v]
 simp only [n144,Oca,SB,seval,NC,NJ,NG,NQ,reduceCtorEq,NB,place,NA,ND]
def Nhq (K:Nat->Prop) (H H':NE):Prop:=H.length<=H'.length/\∀j,K j->NF H' j=NF H j
theorem Nhq.sl {α:Type} {K:Nat->Prop} {H H':NE} {enc:α->List Value} {e:Nat} {p:Option Addr} {l:List α} (h:Nhq K H H') (hs:Sl H enc e p l) (hp:∀a,p=some a->K a.block):Sl H' enc e p l:=by
 cases p with
 | none=>exact hs
 | some a=>
   refine ⟨hs.1,fun hl=>?_⟩
   obtain ⟨ro,c,h1,h2⟩:=hs.2 hl
   exact ⟨ro,c,(h.2 _ (hp a rfl)).trans h1,h2⟩
theorem N27 [OB] {lim Y B1 B2 c:Nat} {p:Option Addr} {M:List Mk} {sc:Int} {H:NE} {Q:Value->NE->Prop} (I:List Mk->NE->Prop) (K:Nat->Prop)
  (z:∀rest H H',I rest H->Chg [] H H'->I rest H')
  (r:∀m rest G,m∈M->m.scanner=sc->H.length<=G.length->I (m::rest) G->WL E false lim Y [.agg (QT m).toArray] G fun v H'=>Nhq K G H'/\(v=.bool true/\I rest H'\/v=.bool false/\∀X,Q (.tuple #[]) (H'++X)))
  (h1:NF H B1=Vc [.slice p M.length c]) (h2:NF H B2=Vc [Vi sc]) (hs:Sl H QT 3 p M) (hc:Ws 3 c M.length) (hn:M.length<2 ^ 40) (hM:N4w M) (hl:lim<=H.length)
  (F:K B2) (J:M≠[]->∀a,p=some a->K a.block) (U:I (ofN M sc) H) (P:∀H',I [] H'->Q (.tuple #[]) H') :
  NL E false lim 169 [.func (.yield Y) #[] #[],Vp B1,Vp B2] H Q:=by
 refine R8 (by decide) Ocq rfl ?_
 rw [Odv,N7t]
 obtain ⟨f1,f2,f3,f4⟩:=MP (sc:=sc) hM
 have q1:=fun X=>(OM.refl.app (X:=X)).cells h1
 have q2:=fun X=>(OM.refl.app (X:=X)).cells h2
 have q3:=fun X=>(OM.refl.app (H:=H) (X:=X)).sl hs
 have N:=fun (X:NE) (lim:Nat) (Q:Value->NE->Prop)=>Nss (mp:=false) (lim:=lim) (Q:=Q) (sc:=sc) (q1 X) (q2 X) (q3 X) hn f1 f2 f3
 generalize aa:VZ sc M=f at *
 obtain ⟨q,cq,e1,S,m0,m1,_⟩:=VN (vlo:=some (Vi f)) (vhi:=none) (lo:=f) (hi:=M.length) hs hc QJ (fun cap R=>by rw [Nqd (by omega) (by omega),N2]) f1 (Nd _) (by omega)
 rw [Oo] at S
 have O:(M.drop f).length=M.length-f:=Pt
 simp only [n169,Nsy,q1,q2,N,e1,SB,seval,NC,NJ,NG,NQ,reduceCtorEq,NB,place,NA,ND]
 refine NR (fun i=>M.length-f-i) (fun i fr G=>i<=M.length-f/\fr 0=.func (.yield Y) #[] #[]/\fr 2=Vp B2/\fr 13=.slice q (M.length-f) cq/\fr 14=Vi ((M.length-f:Nat):Int)/\fr 15=Vi i/\
  NF G B2=Vc [Vi sc]/\Sl G QT 3 q (M.drop f)/\H.length<=G.length/\I (Nf0 sc (M.drop f) i) G) 0
  ⟨Nz _,rfl,rfl,rfl,rfl,by rfl,q2 _,S.app _,by simp,by rw [f4];exact z _ _ _ U (Chg.refl.app)⟩ ?_
 rintro i fr G ⟨hi,w,x,d,g,j,T,D,gL,y⟩ V
 rw [NS Nzt.eq_1]
 refine NM ?_
 by_cases n:i<M.length-f
 ·have l:i<(M.drop f).length:=by omega
  have u:=fun X=>(OM.refl.app (X:=X)).cells T
  have B:=fun X=>(D.app X).loadCells QJ l
  have t:∀(c:Nat) (k:IntKind) (H1:NE),Zv 3 (.slice q (M.length-f) c) (.int k (i:Int)) H1=some (.pointer (some (YI q 3 i)),H1):=fun c k H1=>by
   rw [<-O];exact D.idx l
  have s:IntKind.i64.wrap ((i:Int)+1)=((i+1:Nat):Int):=OG (by omega)
  have A:lim<=G.length:=by omega
  have C:gt (M.drop f) i∈M:=List.mem_of_mem_drop (R6 l)
  by_cases o:(gt (M.drop f) i).scanner=sc
  ·rw [Nxk l o] at y
   simp only [n169,Nsy,w,x,d,g,j,u,NU,n,B,t,s,A,NH,QJ,XQ,YH,YG,NI,N7 o,QT,not_true,decide_false,decide_true,SB,seval,NC,NJ,NG,NQ,reduceCtorEq,NB,place,NA,ND]
   refine (r _ _ _ C o (by simp;omega) (z _ _ _ y Chg.refl.app)).mono fun v H' hv=>?_
   obtain ⟨hk,⟨rfl,L⟩ | ⟨rfl,hq⟩⟩:=hv
   ·refine NM ?_
    simp only [n169,Nsy,w,x,d,g,j,s,SB,seval,NC,NJ,NG,NQ,reduceCtorEq,NB,place,NA,ND]
    refine V (i+1) _ _ ⟨by omega,w,x,d,g,rfl, ?_, ?_, ?_, ?_⟩ (by omega)
    ·exact (OM.refl.app).cells ((hk.2 _ F).trans (u _))
    ·exact (hk.sl (D.app _) fun a W=>by
      obtain ⟨b,Z,e⟩:=m1 a W
      rw [e];exact J (fun h=>by rw [h] at n;simp at n) b Z).app _
    ·have:=hk.1
     simp at this⊢;omega
    ·exact z _ _ _ L Chg.refl.app
   ·refine NM ?_
    simp only [n169,Nsy,w,x,d,g,j,s,SB,seval,NC,NJ,NG,NQ,reduceCtorEq,NB,place,NA,ND]
    exact hq _
  ·rw [N2n l o] at y
   simp only [n169,Nsy,w,x,d,g,j,u,NU,n,B,t,s,A,NH,QJ,XQ,YH,YG,NI,Nr o,QT,not_false_eq_true,decide_false,decide_true,SB,seval,NC,NJ,NG,NQ,reduceCtorEq,NB,place,NA,ND]
   exact P _ (z _ _ _ y Chg.refl.app)
 ·obtain rfl:i=M.length-f:=by omega
  rw [<-O,Nxl] at y
  simp only [n169,Nsy,w,x,d,g,j,NU,n,SB,seval,NC,NJ,NG,NQ,reduceCtorEq,NB,place,NA,ND]
  exact P _ (z _ _ _ y Chg.refl.app)
end Go.Proofs.YtkppjkkkdpcgiaaGreat.Fn


