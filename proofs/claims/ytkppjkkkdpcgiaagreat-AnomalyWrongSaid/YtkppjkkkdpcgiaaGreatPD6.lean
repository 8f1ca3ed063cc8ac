/-
  Joined texts, 6 of 9. A part of the claim that the last text states.
-/
import Derived.Test.YtkppjkkkdpcgiaaGreatPD5
set_option linter.unusedVariables false
set_option linter.unusedSimpArgs false
set_option linter.defProp false
set_option linter.unusedSectionVars false
set_option maxRecDepth 100000
set_option maxHeartbeats 4000000
namespace Go.Proofs.YtkppjkkkdpcgiaaGreat.Fn
open Go.AM Go.AM.Sym Go.Net
def SC (pp:Option Addr) (np cp:Nat) (pl:Option Addr) (nl cl:Nat):List Value:=[.slice pp np cp,.slice pl nl cl]
theorem OQ {pp pl:Option Addr} {np cp nl cl:Nat}:(SC pp np cp pl nl cl).length=2:=id rfl
theorem Sg {pp pl:Option Addr} {np cp nl cl:Nat}:(SC pp np cp pl nl cl)[0]? = some (.slice pp np cp):=id rfl
theorem Sd {pp pl:Option Addr} {np cp nl cl:Nat}:(SC pp np cp pl nl cl)[1]? = some (.slice pl nl cl):=id rfl
structure NetIn (H:NE) (pp pl:Option Addr) (P:List Int) (L:List Leg):Prop where
 sp:Sl H encI 1 pp P
 sl:Sl H Ry 8 pl L
 np:P.length<2 ^ 63
 nl:L.length<2 ^ 63
 bys:∀l∈L,By l
theorem NetIn.app {H:NE} {pp pl:Option Addr} {P:List Int} {L:List Leg} (h:NetIn H pp pl P L) (X:NE):NetIn (H++X) pp pl P L:=⟨h.sp.app X,h.sl.app X,h.np,h.nl,h.bys⟩
theorem NetIn.ext {H G:NE} {pp pl:Option Addr} {P:List Int} {L:List Leg} (h:NetIn H pp pl P L) (e:OI H G):NetIn G pp pl P L:=⟨e.sl h.sp,e.sl h.sl,h.np,h.nl,h.bys⟩
def TZ (ks:List Int):List (Value×Value):=ks.map fun k=>(Vi k,.bool true)
theorem Nix {ks:List Int} {a:Int} {i:Nat} (h:a∉ks):findKey (Vi a) (TZ ks) i=some none:=by
 unfold TZ
 exact XO (f:=fun k:Int=>k) (g:=fun _=>.bool true) fun x b e=>h (e▸b)
theorem Nc4 {ks:List Int} {a:Int} {i:Nat} (h:a∈ks):∃j,findKey (Vi a) (TZ ks) i=some (some (j,.bool true)):=by
 unfold TZ
 exact YI (f:=fun k:Int=>k) (g:=fun _=>.bool true) ⟨a,h,rfl⟩ fun _ _ _=>rfl
theorem Nq8 {ks:List Int} {a:Int}:TZ ks++[(Vi a,.bool true)]=TZ (ks++[a]):=by simp [TZ]
def pOk (P:List Int) (i:Nat):Prop:=1<=gt P i/\gt P i<=999999/\gt P i∉P.take i
instance (P:List Int) (i:Nat):Decidable (pOk P i):=by unfold pOk;infer_instance
def TR (P:List Int):Prop:=∀i,i<P.length->pOk P i
instance (P:List Int):Decidable (TR P):=by unfold TR;infer_instance
def lOk (P:List Int) (L:List Leg) (i:Nat):Prop:=Fine (gt L i)/\(gt L i).id∉(L.take i).map (·.id)/\(gt L i).frm∈P/\(gt L i).dst∈P
instance (P:List Int) (L:List Leg) (i:Nat):Decidable (lOk P L i):=by unfold lOk;infer_instance
def Wo (P:List Int) (L:List Leg):Prop:=∀i,i<L.length->lOk P L i
instance (P:List Int) (L:List Leg):Decidable (Wo P L):=by unfold Wo;infer_instance
def Rz (P:List Int) (L:List Leg):Int:=if 50<P.length\/200<L.length then 5 else if ¬TR P then 320 else if ¬Wo P L then 321 else 0
theorem Nng [OB] {H G:NE} {pp pl:Option Addr} {P:List Int} {L:List Leg} {cp cl R:Nat} {fr:Nat->Value} {K:List AItem} {v:Value} (hn:NetIn G pp pl P L) (aa:NH G R=Vc (SC pp P.length cp pl L.length cl))
  (hm:NH G (R+1)=.map (TZ P)) (hR:H.length<=R) (f1:fr 1=Vp R) (f3:fr 3=.map (some (R+1))) (Z:fr 6=.map (some G.length)) (S:fr 49=.slice pl L.length cl) (T:fr 50=Vi L.length) (U:fr 51=Vi 0)
  (J:¬Wo P L->v=Vi 321)
  (V:∀fr' G',Wo P L->PQ E a12 H.length K fr' (G'++[]) fun v' _=>v'=v) :
  PQ E a12 H.length (.code (.loop Nzj)::.inBlock 2::K) fr (G++[.map []]) fun v' _=>v'=v:=by
 have Y:=PR hm
 refine NR (fun i=>L.length-i) (fun i fr G'=>i<=L.length/\fr 3=.map (some (R+1))/\fr 6=.map (some G.length)/\fr 49=.slice pl L.length cl/\fr 50=Vi L.length/\fr 51=Vi i/\
  G.length<G'.length/\Sl G' Ry 8 pl L/\NH G' (R+1)=.map (TZ P)/\NH G' G.length=.map (TZ ((L.take i).map (·.id)))/\∀j,j<i->lOk P L j) 0
  ⟨Nx _,f3,Z,S,T,U,by simp,hn.sl.app _,by rw [NN Y];exact hm,NS,fun j D=>by omega⟩ ?_
 intro i fr G' ⟨hi,B,C,f,g,n,hL,I,z,M,A⟩ hN
 rw [NT Nzj.eq_1]
 refine NK ?_
 by_cases a:i<L.length
 ·have o:=Nat.le_of_lt hL
  have W:=hn.bys _ (Ru a)
  have s:∀X,NH (G'++X) (R+1)=.map (TZ P):=fun X=>by rw [NN (PR z)];exact z
  have r:∀X,NH (G'++X) G.length=.map (TZ ((L.take i).map (·.id))):=fun X=>by rw [NN hL];exact M
  have q:=fun X=>(I.app X).loadCells OH a
  have d:=fun c (k:IntKind) (H1:NE)=>I.idx (c:=c) (k:=k) (H1:=H1) a
  have t:IntKind.i64.wrap ((i:Int)+1)=((i+1:Nat):Int):=OG (by have:=hn.nl;omega)
  have p:H.length<=G.length:=by omega
  have e:H.length<=G'.length:=by omega
  have l:=fun (H:NE) (mp:Bool) (lim:Nat) (Q:Value->NE->Prop)=>Nd4 (mp:=mp) (lim:=lim) (H:=H) (Q:=Q) W
  have u:¬lOk P L i->v=Vi 321:=fun h=>J fun hh=>h (hh i a)
  by_cases O:Fine (gt L i)
  ·rw [Nq O] at l
   by_cases m:(gt L i).id∈(L.take i).map (·.id)
   ·obtain ⟨j,D⟩:=Nc4 (i:=0) m
    simp only [n12,r12,B,C,f,g,n,a,o,d,q,t,r,s,D,l,OH,QE,QD,QC,QB,QA,PZ,PY,PW,NI,e,SB,seval,NC,NJ,NF,NP,reduceCtorEq,NB,place,NA,ND]
    exact (u fun h=>h.2.1 m).symm
   ·have D:=Nix (i:=0) m
    by_cases x:(gt L i).frm∈P
    ·obtain ⟨j1,y⟩:=Nc4 (i:=0) x
     by_cases w:(gt L i).dst∈P
     ·obtain ⟨j2,F⟩:=Nc4 (i:=0) w
      simp only [n12,r12,B,C,f,g,n,a,o,d,q,t,r,s,D,y,F,l,OH,QE,QD,QC,QB,QA,PZ,PY,PW,NI,p,e,SB,seval,NC,NJ,NF,NP,reduceCtorEq,NB,place,NA,ND]
      refine hN (i+1) _ _ ⟨by omega,B,C,f,g,rfl,by simp;omega, ?_, ?_, ?_,fun j D=>?_⟩ (by omega)
      ·refine I.sim fun b ro c N=>?_
       rw [QL (by rintro rfl;rw [M] at N;cases N),NN (NM N)];exact N
      ·rw [QL (by omega),NN (PR z)];exact z
      ·rw [Vu (by simp;omega),Nq8,Xd a,Pc];rfl
      ·rcases On j i with h | h
       ·exact A j h
       ·obtain rfl:j=i:=by omega
        exact ⟨O,m,x,w⟩
     ·have F:=Nix (i:=0) w
      simp only [n12,r12,B,C,f,g,n,a,o,d,q,t,r,s,D,y,F,l,OH,QE,QD,QC,QB,QA,PZ,PY,PW,NI,p,e,SB,seval,NC,NJ,NF,NP,reduceCtorEq,NB,place,NA,ND]
      exact (u fun h=>w h.2.2.2).symm
    ·have y:=Nix (i:=0) x
     simp only [n12,r12,B,C,f,g,n,a,o,d,q,t,r,s,D,y,l,OH,QE,QD,QC,QB,QA,PZ,PY,PW,NI,p,e,SB,seval,NC,NJ,NF,NP,reduceCtorEq,NB,place,NA,ND]
     exact (u fun h=>x h.2.2.1).symm
  ·rw [N7 O] at l
   simp only [n12,r12,B,C,f,g,n,a,o,d,q,t,r,s,l,OH,QE,QD,QC,QB,QA,PZ,PY,PW,NI,e,SB,seval,NC,NJ,NF,NP,reduceCtorEq,NB,place,NA,ND]
   exact (u fun h=>O h.1).symm
 ·obtain rfl:i=L.length:=by omega
  simp only [n12,r12,B,C,f,g,n,a,SB,seval,NC,NJ,NF,NP,reduceCtorEq,NB,place,NA,ND]
  exact V _ _ A
theorem Ndh [OB] {mp:Bool} {lim:Nat} {pp pl:Option Addr} {P:List Int} {L:List Leg} {cp cl:Nat} {H:NE} {Q:Value->NE->Prop} (hn:NetIn H pp pl P L) :
  NL E mp lim 12 [.agg (SC pp P.length cp pl L.length cl).toArray] H Q=Q (Vi (Rz P L)) H:=by
 refine pc (by decide) e12 rfl rfl ?_
 rw [b12,c12]
 by_cases v:50<(P.length:Int)
 ·simp only [n12,r12,OQ,Sg,Sd,v,SB,seval,NC,NJ,NF,NP,reduceCtorEq,NB,place,NA,ND]
  rw [Rz,Ni (by omega)]
 by_cases q:200<(L.length:Int)
 ·simp only [n12,r12,OQ,Sg,Sd,v,q,SB,seval,NC,NJ,NF,NP,reduceCtorEq,NB,place,NA,ND]
  rw [Rz,Ni (by omega)]
 simp only [n12,r12,OQ,Sg,Sd,v,q,SB,seval,NC,NJ,NF,NP,reduceCtorEq,NB,place,NA,ND]
 have hv:Rz P L=if ¬TR P then 320 else if ¬Wo P L then 321 else 0:=by rw [Rz,Nh (by omega)]
 refine NR (fun i=>P.length-i) (fun i fr G=>i<=P.length/\fr 1=Vp H.length/\fr 3=.map (some (H.length+1))/\fr 24=.slice pp P.length cp/\fr 25=Vi P.length/\fr 26=Vi i/\
  H.length+1<G.length/\Sl G encI 1 pp P/\Sl G Ry 8 pl L/\NH G H.length=Vc (SC pp P.length cp pl L.length cl)/\NH G (H.length+1)=.map (TZ (P.take i))/\∀j,j<i->pOk P j) 0
  ⟨Nx _,rfl,rfl,rfl,rfl,by rfl,by simp,hn.sp.app _,hn.sl.app _,NS,NW,fun j y=>by omega⟩ ?_
 intro i fr G ⟨hi,h1,u,f,g,l,hL,o,z,x,hm,r⟩ hN
 rw [NT N5q.eq_1]
 refine NK ?_
 have C:=fun X=>(OI.refl.app (X:=X)).cells x
 have n:∀X,NH (G++X) (H.length+1)=.map (TZ (P.take i)):=fun X=>by rw [NN hL];exact hm
 have B:H.length<=H.length+1:=by omega
 by_cases a:i<P.length
 ·have m:=fun X=>(o.app X).loadCell0 RP a (by decide)
  simp only [encI,O1] at m
  have d:=fun c (k:IntKind) (H1:NE)=>o.idx (c:=c) (k:=k) (H1:=H1) a
  have p:IntKind.i64.wrap ((i:Int)+1)=((i+1:Nat):Int):=OG (by omega)
  have t:¬pOk P i->Rz P L=320:=fun h=>by rw [hv,Ni fun F=>h (F i a)]
  by_cases A:gt P i<1
  ·simp only [n12,r12,h1,u,f,g,l,a,d,m,p,n,A,SB,seval,NC,NJ,NF,NP,reduceCtorEq,NB,place,NA,ND]
   rw [t fun h=>by have:=h.1;omega]
  ·by_cases s:999999<gt P i
   ·simp only [n12,r12,h1,u,f,g,l,a,d,m,p,n,A,s,SB,seval,NC,NJ,NF,NP,reduceCtorEq,NB,place,NA,ND]
    rw [t fun h=>by have:=h.2.1;omega]
   ·by_cases e:gt P i∈P.take i
    ·obtain ⟨j,y⟩:=Nc4 (i:=0) e
     simp only [n12,r12,h1,u,f,g,l,a,d,m,p,n,A,s,y,SB,seval,NC,NJ,NF,NP,reduceCtorEq,NB,place,NA,ND]
     rw [t fun h=>h.2.2 e]
    ·have y:=Nix (i:=0) e
     simp only [n12,r12,h1,u,f,g,l,a,d,m,p,n,A,s,y,B,SB,seval,NC,NJ,NF,NP,reduceCtorEq,NB,place,NA,ND]
     have w:∀b ro c,NH G b=.cells ro c->NH ((G++[]).set (H.length+1) (.map (TZ (P.take i)++[(Value.int .i64 (gt P i),Value.bool true)]))) b=.cells ro c:=fun b ro c s=>by
      rw [QL (by rintro rfl;rw [hm] at s;cases s),NN (NM s)];exact s
     refine hN (i+1) _ _ ⟨by omega,h1,u,f,g,rfl,by simp;omega,o.sim w,z.sim w,w _ _ _ x, ?_,fun j y=>?_⟩ (by omega)
     ·rw [Vu (by simp;omega),Nq8,Xd a]
     ·rcases On j i with h | h
      ·exact r j h
      ·obtain rfl:j=i:=by omega
       exact ⟨by omega,by omega,e⟩
 ·obtain rfl:i=P.length:=by omega
  rw [Oj] at hm
  have D:TR P:=r
  rw [Nh (by simpa using D)] at hv
  simp only [n12,r12,h1,u,f,g,l,a,C,OQ,Sg,Sd,SB,seval,NC,NJ,NF,NP,reduceCtorEq,NB,place,NA,ND]
  refine Nng (H:=H) (R:=H.length) (G:=G) ⟨o,z,hn.np,hn.nl,hn.bys⟩ x hm (Nd _) h1 u rfl rfl rfl rfl (fun h=>by rw [hv,Ni h]) fun fr' G' h=>?_
  rw [Nh (by simpa using h)] at hv
  rw [hv]
  simp only [n12,r12,SB,seval,NC,NJ,NF,NP,reduceCtorEq,NB,place,NA,ND]
def WO (P:List Int):List (Value×Value):=P.map fun p=>(Vi p,Vi (P.idxOf p:Int))
theorem Vh {P:List Int} {a:Int} {i:Nat} (h:a∈P):∃j,findKey (Vi a) (WO P) i=some (some (j,Vi (P.idxOf a:Int))):=by
 unfold WO
 exact YI (f:=fun k:Int=>k) (g:=fun k=>Vi (P.idxOf k:Int)) ⟨a,h,rfl⟩ fun x _ e=>by rw [e]
theorem Nn7 {P:List Int} {a:Int} {i:Nat} (h:a∉P):findKey (Vi a) (WO P) i=some none:=by
 unfold WO
 exact XO (f:=fun k:Int=>k) (g:=fun k=>Vi (P.idxOf k:Int)) fun x b e=>h (e▸b)
theorem TR.idx {P:List Int} (h:TR P) {i:Nat} (hi:i<P.length):P.idxOf (gt P i)=i:=by
 have h1:=(h i hi).2.2
 have h2:P.idxOf (gt P i)<=i:=by
  rw [QH hi]
  apply Og;intro hc
  have:=List.not_of_lt_findIdx (xs:=P) (p:=(· == P[i])) (i:=i) (by unfold List.idxOf at hc;omega)
  simp at this
 rcases On (P.idxOf (gt P i)) i with h3 | h3
 ·exfalso
  apply h1
  have hm:gt P i∈P:=Ru hi
  have hl:=Pd hm
  have:=Q3 hl
  rw [List.mem_take_iff_getElem]
  exact ⟨P.idxOf (gt P i),by omega,this⟩
 ·omega
theorem Nih [OB] {lim:Nat} {pp pl:Option Addr} {P:List Int} {L:List Leg} {cp cl:Nat} {H:NE} {Q:Value->NE->Prop} (hn:NetIn H pp pl P L) (s:TR P) (t:lim<=H.length)
  (u:∀H',OI H H'->NH H' (H.length+1)=.map (WO P)->Q (.map (some (H.length+1))) H') :
  NL E false lim 97 [.agg (SC pp P.length cp pl L.length cl).toArray] H Q:=by
 refine R5 (by decide) e97 rfl ?_
 rw [b97,c97]
 simp only [n97,r97,OQ,Sg,Sd,SB,seval,NC,NJ,NF,NP,reduceCtorEq,NB,place,NA,ND]
 refine NR (fun i=>P.length-i) (fun i fr G=>i<=P.length/\fr 3=.map (some (H.length+1))/\fr 11=.slice pp P.length cp/\fr 12=Vi P.length/\fr 13=Vi i/\
  H.length+1<G.length/\OI H G/\NH G (H.length+1)=.map ((P.take i).map fun p=>(Vi p,Vi (P.idxOf p:Int)))) 0
  ⟨Nx _,rfl,rfl,rfl,by rfl,by simp,OI.refl.app,NW⟩ ?_
 intro i fr G ⟨hi,n,b,d,h,hL,m,hm⟩ hN
 rw [NT N45.eq_1]
 refine NK ?_
 have q:∀X,NH (G++X) (H.length+1)=.map ((P.take i).map fun p=>(Value.int .i64 p,Value.int .i64 (P.idxOf p:Int))):=fun X=>by rw [NN hL];exact hm
 have o:lim<=H.length+1:=by omega
 by_cases a:i<P.length
 ·have l:=fun X=>((m.sl hn.sp).app X).loadCell0 RP a (by decide)
  simp only [encI,O1] at l
  have j:=fun c (k:IntKind) (H1:NE)=>(m.sl hn.sp).idx (c:=c) (k:=k) (H1:=H1) a
  have r:IntKind.i64.wrap ((i:Int)+1)=((i+1:Nat):Int):=OG (by have:=hn.np;omega)
  have v:findKey (Vi (gt P i)) ((P.take i).map fun p=>(Vi p,Vi (P.idxOf p:Int))) 0=some none:=
   XO (f:=fun k:Int=>k) (g:=fun k=>Vi (P.idxOf k:Int)) fun x w e=>(s i a).2.2 (e▸w)
  simp only [n97,r97,n,b,d,h,a,j,l,r,q,v,o,SB,seval,NC,NJ,NF,NP,reduceCtorEq,NB,place,NA,ND]
  refine hN (i+1) _ _ ⟨by omega,n,b,d,rfl,by simp;omega, ?_, ?_⟩ (by omega)
  ·obtain ⟨Y,rfl⟩:=m
   exact ⟨(Y++[]).set 1 _,by rw [Nn];exact Nh9⟩
  ·rw [Vu (by simp;omega),Xd a,Pc]
   simp only [Of,List.map_nil,s.idx a]
 ·obtain rfl:i=P.length:=by omega
  rw [Oj] at hm
  simp only [n97,r97,n,b,d,h,a,SB,seval,NC,NJ,NF,NP,reduceCtorEq,NB,place,NA,ND]
  refine u _ m.app ?_
  rw [NN hL];exact hm
def Vv (P:List Int) (L:List Leg) (a b t:Int):Int:=if Rz P L≠0 then Rz P L else if a∈P/\b∈P/\0<=t/\t<=OC then 0 else 2
theorem Vn {P:List Int} {L:List Leg} (h:Rz P L=0):P.length<=50/\L.length<=200/\TR P/\Wo P L:=by
 unfold Rz at h
 split at h
 ·cases h
 ·split at h
  ·cases h
  ·split at h
   ·cases h
   ·rename_i h1 h2 a
    exact ⟨by omega,by omega,by simpa using h2,by simpa using a⟩
theorem Mm {P:List Int} {L:List Leg} {a b t:Int} (h:Vv P L a b t=0):Rz P L=0/\a∈P/\b∈P/\0<=t/\t<=OC:=by
 unfold Vv at h
 split at h
 ·contradiction
 ·rename_i hv
  split at h
  ·rename_i c;exact ⟨by simpa using hv,c⟩
  ·cases h
theorem Nfs [OB] {lim:Nat} {pp pl:Option Addr} {P:List Int} {L:List Leg} {cp cl:Nat} {a b t:Int} {H:NE} {Q:Value->NE->Prop} (hn:NetIn H pp pl P L) (q:lim<=H.length)
  (c:∀H',Vv P L a b t≠0->OI H H'->Q (.tuple #[.map none,Vi (Vv P L a b t)]) H')
  (o:∀H' R,Vv P L a b t=0->OI H H'->NH H' R=.map (WO P)->H.length<=R->Q (.tuple #[.map (some R),Vi 0]) H') :
  NL E false lim 58 [.agg (SC pp P.length cp pl L.length cl).toArray,Vi a,Vi b,Vi t] H Q:=by
 refine R5 (by decide) e58 rfl ?_
 rw [b58,c58]
 have hv:=fun X (mp:Bool) (lim:Nat) (Q:Value->NE->Prop)=>Ndh (mp:=mp) (lim:=lim) (cp:=cp) (cl:=cl) (Q:=Q) (hn.app X)
 by_cases j:Rz P L=0
 ·have l:¬(Rz P L≠0):=by simpa using j
  obtain ⟨w,x,u,y⟩:=Vn j
  rw [j] at hv
  simp only [n58,r58,hv,OQ,Sg,Sd,NI,SB,seval,NC,NJ,NF,NP,reduceCtorEq,NB,place,NA,ND]
  refine Nih (hn.app _) u (by simp;omega) fun H' r hm=>?_
  have g:OI H H':=by obtain ⟨Y,rfl⟩:=r;rw [Nn];exact OI.refl.app
  simp only [Nm,Nl,Nr,N6,O7,Nat.reduceAdd] at hm⊢
  have hl:=PR hm
  have f:∀X,NH (H'++X) (H.length+2)=.map (WO P):=fun X=>by rw [NN hl];exact hm
  refine NK ?_
  have e2:¬(a∈P/\b∈P/\0<=t/\t<=OC)->Vv P L a b t=2:=fun h=>by rw [Vv,Nh l,Nh h]
  by_cases n:a∈P
  ·obtain ⟨v,e⟩:=Vh (i:=0) n
   by_cases k:b∈P
   ·obtain ⟨s,d⟩:=Vh (i:=0) k
    by_cases p:t<0
    ·have he:=e2 fun h=>by omega
     simp only [n58,r58,f,e,d,p,SB,seval,NC,NJ,NF,NP,reduceCtorEq,NB,place,NA,ND]
     rw [<-he];exact c _ (by rw [he];decide) g.app
    ·by_cases m:1051898399<t
     ·have he:=e2 fun h=>by unfold OC at h;omega
      simp only [n58,r58,f,e,d,p,m,SB,seval,NC,NJ,NF,NP,reduceCtorEq,NB,place,NA,ND]
      rw [<-he];exact c _ (by rw [he];decide) g.app
     ·have he:Vv P L a b t=0:=by rw [Vv,Nh l,Ni ⟨n,k,by omega,by unfold OC;omega⟩]
      simp only [n58,r58,f,e,d,p,m,SB,seval,NC,NJ,NF,NP,reduceCtorEq,NB,place,NA,ND]
      exact o _ _ he g.app (f []) (by omega)
   ·have d:=Nn7 (i:=0) k
    have he:=e2 fun h=>k h.2.1
    simp only [n58,r58,f,e,d,SB,seval,NC,NJ,NF,NP,reduceCtorEq,NB,place,NA,ND]
    rw [<-he];exact c _ (by rw [he];decide) g.app
  ·have e:=Nn7 (i:=0) n
   have he:=e2 fun h=>n h.1
   by_cases k:b∈P
   ·obtain ⟨s,d⟩:=Vh (i:=0) k
    simp only [n58,r58,f,e,d,SB,seval,NC,NJ,NF,NP,reduceCtorEq,NB,place,NA,ND]
    rw [<-he];exact c _ (by rw [he];decide) g.app
   ·have d:=Nn7 (i:=0) k
    simp only [n58,r58,f,e,d,SB,seval,NC,NJ,NF,NP,reduceCtorEq,NB,place,NA,ND]
    rw [<-he];exact c _ (by rw [he];decide) g.app
 ·have he:Vv P L a b t=Rz P L:=by rw [Vv,Ni j]
  simp only [n58,r58,hv,OQ,Sg,Sd,NI,j,Ns j,SB,seval,NC,NJ,NF,NP,reduceCtorEq,NB,place,NA,ND]
  rw [<-he];exact c _ (by rw [he];exact j) OI.refl.app
theorem find_ok [OB] {mp:Bool} {lim:Nat} {pp pl:Option Addr} {P:List Int} {L:List Leg} {cp cl:Nat} {a:Int} {H:NE} {Q:Value->NE->Prop} (hn:NetIn H pp pl P L) :
  NL E mp lim 33 [.agg (SC pp P.length cp pl L.length cl).toArray,Vi a] H Q=Q (match L.find? (fun l=>l.id=a) with | some l=>.tuple #[.agg (Ry l).toArray,.bool true] | none=>.tuple #[.agg #[Vi 0,Vi 0,Vi 0,Vi 0,Vi 0,Vi 0,Vi 0,.int .u8 0],.bool false]) H:=by
 refine pc (by decide) e33 rfl (by cases L.find? (fun l=>l.id=a)<;>rfl) ?_
 rw [b33,c33]
 simp only [n33,r33,OQ,Sg,Sd,SB,seval,NC,NJ,NF,NP,reduceCtorEq,NB,place,NA,ND]
 refine NR (fun i=>L.length-i) (fun i fr G=>i<=L.length/\fr 1=Vi a/\fr 4=Vp (H.length+1)/\fr 9=.slice pl L.length cl/\fr 10=Vi L.length/\fr 11=Vi i/\OI H G/\
  NH G (H.length+1)=Vc [Vi 0,Vi 0,Vi 0,Vi 0,Vi 0,Vi 0,Vi 0,.int .u8 0]/\L.find? (fun l=>l.id=a)=(L.drop i).find? (fun l=>l.id=a)) 0
  ⟨Nx _,rfl,rfl,rfl,rfl,by rfl,OI.refl.app,NW,rfl⟩ ?_
 intro i fr G ⟨hi,h1,p,q,h10,g,r,m,j⟩ hN
 have hl:=r.len
 have s:=NM m
 rw [NT N5l.eq_1]
 refine NK ?_
 have f:=fun X=>(OI.refl.app (X:=X)).cells m
 by_cases b:i<L.length
 ·have n:=fun X=>((r.sl hn.sl).app X).loadCells OH b
  have e:=fun c (k:IntKind) (H1:NE)=>(r.sl hn.sl).idx (c:=c) (k:=k) (H1:=H1) b
  have o:IntKind.i64.wrap ((i:Int)+1)=((i+1:Nat):Int):=OG (by have:=hn.nl;omega)
  rw [Nuh b] at j
  have t:¬H.length+1=G.length:=by omega
  obtain ⟨G2,e2,h2,u⟩:=OP (NM m) (Vc (Ry (gt L i)))
  have h:=fun X=>(OI.refl.app (X:=X)).cells h2
  by_cases d:(gt L i).id=a
  ·simp only [d,decide_true,if_true] at j
   simp only [n33,r33,h1,p,q,h10,g,b,e,n,o,f,OH,QE,QD,QC,QB,QA,PZ,PY,PW,NI,hl,show H.length<=H.length+1 by omega,N5 d,NG,e2,h,SB,seval,NC,NJ,NF,NP,reduceCtorEq,NB,place,NA,ND]
   rw [j]
  ·simp only [d,decide_false,Ny,if_false] at j
   simp only [n33,r33,h1,p,q,h10,g,b,e,n,o,f,OH,QE,QD,QC,QB,QA,PZ,PY,PW,NI,hl,Ns d,SB,seval,NC,NJ,NF,NP,reduceCtorEq,NB,place,NA,ND]
   exact hN (i+1) _ _ ⟨by omega,h1,p,q,h10,rfl,r.app,(OI.refl.app).cells m,j⟩ (by omega)
 ·obtain rfl:i=L.length:=by omega
  rw [Qk,List.find?_nil] at j
  obtain ⟨G2,e2,h2,u⟩:=OP (NM m) (Vc [Vi 0,Vi 0,Vi 0,Vi 0,Vi 0,Vi 0,Vi 0,.int .u8 0])
  have h:=fun X=>(OI.refl.app (X:=X)).cells h2
  simp only [n33,r33,h1,p,q,h10,g,b,f,show H.length<=H.length+1 by omega,NG,e2,h,SB,seval,NC,NJ,NF,NP,reduceCtorEq,NB,place,NA,ND]
  rw [j]
def YX {α:Type} (lim:Nat) (G:NE) (enc:α->List Value) (e:Nat) (p:Option Addr) (cap:Nat) (l:List α):Prop:=
 Own lim G enc e p cap l\/∃R,p=Sa R/\cap=l.length/\cap<2 ^ 62/\NH G R=Vc (l.flatMap enc)/\lim<=R
section
variable {α:Type} {lim e cap:Nat} {G:NE} {enc:α->List Value} {p:Option Addr} {l:List α}
theorem YX.sl (h:YX lim G enc e p cap l) (he:∀x,(enc x).length=e):Sl G enc e p l:=by
 rcases h with h | ⟨R,rfl,_,_,h,_⟩
 ·exact h.sl he
 ·exact Sl.row he h
theorem YX.block (h:YX lim G enc e p cap l) {a:Addr} (b:p=some a):lim<=a.block/\a.block<G.length:=by
 rcases h with h | ⟨R,rfl,_,_,h,hl⟩
 ·exact h.block b
 ·cases b;exact ⟨hl,NM h⟩
theorem YX.chg {A:List Nat} {H':NE} (h:YX lim G enc e p cap l) (hc:Chg A G H') (hp:∀a,p=some a->a.block∉A):YX lim H' enc e p cap l:=by
 rcases h with h | ⟨R,rfl,h1,h2,b,c⟩
 ·exact .inl (h.chg hc hp)
 ·exact .inr ⟨R,rfl,h1,h2,hc.cells b (hp _ rfl),c⟩
theorem YX.step {lim' bytes:Nat} (h:YX lim G enc e p cap l) (n:lim'<=lim) (he:∀x,(enc x).length=e) (g:e≠0) (x:α) (t:(l.length+1)*bytes<=PS) (hn:l.length+1<2 ^ 61) (m:lim<=G.length)
  (X:NE) (b k:Nat) (r:NH (G++X) b=Vc (enc x)) :
  ∃G2,PE lim' none e bytes false (.slice p l.length cap) (.slice (Sa b) 1 k) (G++X)=some (.slice (Sa (G.length+X.length)) (l.length+1) (loose e),G2++[])/\
   Own lim (G2++[]) enc e (Sa (G.length+X.length)) (loose e) (l++[x])/\(∀A H0,H0.length<=lim->Chg A H0 G->Chg A H0 (G2++[]))/\(∀j,j<G.length->(∀a,p=some a->j≠a.block)->NH (G2++[]) j=NH G j)/\G2.length=G.length+X.length+1/\
   (∀j,j<X.length->NH (G2++[]) (G.length+j)=X.getD j .dead):=by
 rcases h with h | ⟨R,rfl,h1,h2,q,u⟩
 ·exact h.step n he g x t hn m X b k r
 ·have s:=NM q
  have c:NH ((G++(X++[Vc ((l++[x]).flatMap enc)]))++[]) (G.length+X.length)=Vc ((l++[x]).flatMap enc):=by
   rw [Nb,NW]
   rw [show X.length=X.length+0 from rfl,Sv];rfl
  refine ⟨G++(X++[Vc ((l++[x]).flatMap enc)]), ?_,Own.new c (by omega),fun A H0 _ hc=>(hc.app).app,fun j i _=>?_,by simp;omega,fun j i=>?_⟩
  ·have f:NH (G++X) R=Vc (l.flatMap enc):=by rw [NN s];exact q
   have d:AM.loadCells (G++X) ⟨R,0,none⟩ (l.length*e)=some (l.flatMap enc):=by
    simp only [Rs,f,N6,QI he,Nd,if_true,Oy]
    rw [Oc (by rw [QI he];exact Nd _)]
   have hl:AM.loadCells (G++X) ⟨b,0,none⟩ (1*e)=some (enc x):=by
    simp only [Rs,r,N6,Nat.one_mul,he,Nd,if_true,Oy]
    rw [Oc (by rw [he];exact Nd _)]
   subst h1
   have o:¬l.length=loose e:=by unfold loose;omega
   simp only [PE,firstCells,lenOf,hl,d,if_false,Ny,o,Nat.one_ne_zero]
   rw [Nh (by omega),Ni h2,Nh (by omega)]
   simp [place]
  ·rw [Nb,NN i]
  ·rw [Nb,NW,Na,N4 i,Na]
end
def i64 (n:Int):Value:=Vi n
def T50 (T:List Int):List Int:=if T.length=50 then T else List.replicate 50 0
theorem N8l {T:List Int} (h:T.length=50):T50 T=T:=Ni h
theorem N4n (T:List Int):(T50 T).length=50:=by
 unfold T50;split
 ·assumption
 ·simp
def RS (T:List Int):List Value:=(T50 T).map i64
theorem PO (T:List Int):(RS T).length=50:=by simp [RS,N4n]
theorem VM {T:List Int} (h:T.length=50):RS T=T.map i64:=by rw [RS,N8l h]
theorem Wi {T:List Int} (h:T.length=50) {j:Nat} (a:j<50):(RS T)[j]? = some (Vi (T.getD j (-1))):=by
 rw [VM h,O0,Na,Nf (by omega)];rfl
theorem YL {T:List Int} (h:T.length=50) {j:Nat} {v:Int}:(RS T).set j (Vi v)=RS (T.set j v):=by
 rw [VM h,VM (by simpa using h),List.map_set];rfl
theorem N3i {a b:List Int} (h:a.map i64=b.map i64):a=b:=by
 induction a generalizing b with
 | nil=>cases b with
   | nil=>rfl
   | cons y b=>cases h
 | cons x a ih=>cases b with
   | nil=>cases h
   | cons y b=>
     simp only [Of,List.cons.injEq,i64,Value.int.injEq,Rg] at h
     rw [h.1,ih h.2]
theorem N0f {a b:List Int} (c:a.length=50) (d:b.length=50) (h:RS a=RS b):a=b:=by
 rw [VM c,VM d] at h;exact N3i h
theorem Nug {l:List Int}:flat 4 (.agg (l.map i64).toArray)=true:=by
 simp [flat,i64,atom]
theorem N0g {a b:List Int} (c:a.length=50) (d:b.length=50):aEq (.agg (List.replicate 50 (.int .i64))) (.agg (RS a).toArray) (.agg (RS b).toArray)=some (decide (a=b)):=by
 obtain ⟨t,h1,h2⟩:=Ncj (.int .i64) 50 (RS a) (RS b) (PO a) (PO b) (by
  intro x e y f
  rw [VM c] at e
  rw [VM d] at f
  obtain ⟨n,_,rfl⟩:=List.mem_map.1 e
  obtain ⟨m,_,rfl⟩:=List.mem_map.1 f
  exact ⟨n == m,by simp [TA,i64],by simp [i64]⟩)
 show PM _ (RS a) (RS b)=_
 rw [h1]
 congr 1
 rw [Rf,h2,Oa]
 exact ⟨fun h=>N0f c d h,fun h=>by rw [h]⟩
theorem Njv:[Value.int .i64 0,Value.int .i64 0,Value.int .i64 0,Value.int .i64 0,Value.int .i64 0,Value.int .i64 0,Value.int .i64 0,Value.int .i64 0,Value.int .i64 0,Value.int .i64 0,Value.int .i64 0,Value.int .i64 0,Value.int .i64 0,Value.int .i64 0,Value.int .i64 0,Value.int .i64 0,Value.int .i64 0,Value.int .i64 0,Value.int .i64 0,Value.int .i64 0,Value.int .i64 0,Value.int .i64 0,Value.int .i64 0,Value.int .i64 0,Value.int .i64 0,Value.int .i64 0,Value.int .i64 0,Value.int .i64 0,Value.int .i64 0,Value.int .i64 0,Value.int .i64 0,Value.int .i64 0,Value.int .i64 0,Value.int .i64 0,Value.int .i64 0,Value.int .i64 0,Value.int .i64 0,Value.int .i64 0,Value.int .i64 0,Value.int .i64 0,Value.int .i64 0,Value.int .i64 0,Value.int .i64 0,Value.int .i64 0,Value.int .i64 0,Value.int .i64 0,Value.int .i64 0,Value.int .i64 0,Value.int .i64 0,Value.int .i64 0]=List.replicate 50 (Value.int .i64 0):=rfl
theorem N9t:[KK.int .i64,KK.int .i64,KK.int .i64,KK.int .i64,KK.int .i64,KK.int .i64,KK.int .i64,KK.int .i64,KK.int .i64,KK.int .i64,KK.int .i64,KK.int .i64,KK.int .i64,KK.int .i64,KK.int .i64,KK.int .i64,KK.int .i64,KK.int .i64,KK.int .i64,KK.int .i64,KK.int .i64,KK.int .i64,KK.int .i64,KK.int .i64,KK.int .i64,KK.int .i64,KK.int .i64,KK.int .i64,KK.int .i64,KK.int .i64,KK.int .i64,KK.int .i64,KK.int .i64,KK.int .i64,KK.int .i64,KK.int .i64,KK.int .i64,KK.int .i64,KK.int .i64,KK.int .i64,KK.int .i64,KK.int .i64,KK.int .i64,KK.int .i64,KK.int .i64,KK.int .i64,KK.int .i64,KK.int .i64,KK.int .i64,KK.int .i64]=List.replicate 50 (KK.int .i64):=rfl
theorem Noe [OB] {mp:Bool} {lim i:Nat} {t:Int} {H:NE} {Q:Value->NE->Prop} (hi:i<50):NL E mp lim 63 [Vi i,Vi t] H Q=Q (.agg (RS (Zz 50 i t)).toArray) H:=by
 refine pc (by decide) e63 rfl (by rw [VM Ned];exact Nug) ?_
 rw [b63,c63]
 simp only [n63,r63,Njv,SB,Nat.reduceLT,NC,NJ,Nat.reduceEqDiff,NF,NP,reduceCtorEq,NB,place,NA,Nat.reduceAdd,Nat.reduceLeDiff,ND,Int.reduceEq,Int.reduceLT,Int.reduceLE]
 refine NR (fun k=>50-k) (fun k fr G=>k<=50/\fr 0=Vi i/\fr 1=Vi t/\fr 4=Vp H.length/\fr 5=Vp (H.length+1)/\fr 7=Vi k/\
  ∃T:List Int,T.length=50/\(∀j,j<k->T[j]? = some (-1))/\G=H++[Vc (List.replicate 50 (Value.int .i64 0)),Vc (RS T)]) 0
  ⟨Nx _,rfl,rfl,rfl,rfl,by rfl,List.replicate 50 0,by simp,fun j e=>by omega,rfl⟩ ?_
 rintro k fr G ⟨hk,f,h1,g,h,o,T,l,a,rfl⟩ hN
 rw [NT N5f.eq_1]
 by_cases p:k<50
 ·have c:(k:Int)<50:=by omega
  have b:(0:Int)<=(k:Int):=by omega
  have n:IntKind.i64.wrap ((k:Int)+1)=((k+1:Nat):Int):=OG (by omega)
  simp only [n63,r63,f,h1,g,h,o,b,c,n,O8,PO,YL l,show k+1<=50 by omega,SB,Nat.reduceLT,NC,NJ,Nat.reduceEqDiff,NF,NP,reduceCtorEq,NB,place,NA,Nat.reduceAdd,Nat.reduceLeDiff,ND,Int.reduceEq,Int.reduceLT,Int.reduceLE]
  refine hN (k+1) _ _ ⟨by omega,f,h1,g,h,rfl,T.set k (-1),by simpa using l,fun j e=>?_,rfl⟩ (by omega)
  by_cases d:k=j
  ·subst d;rw [Q9 (by omega)]
  ·rw [Qi d];exact a j (by omega)
 ·obtain rfl:k=50:=by omega
  have m:T=List.replicate 50 (-1):=by
   apply List.ext_getElem? ;intro j
   by_cases e:j<50
   ·rw [a j e,Pt,Ni e]
   ·rw [Nw (by omega),Nw (by simp;omega)]
  subst m
  have c:(i:Int)<50:=by omega
  have b:(0:Int)<=(i:Int):=by omega
  simp only [n63,r63,f,h1,g,h,o,b,c,O8,PO,YL l,show i+1<=50 by omega,NI,NG,Om,SB,Nat.reduceLT,NC,NJ,Nat.reduceEqDiff,NF,NP,reduceCtorEq,NB,place,NA,Nat.reduceAdd,Nat.reduceLeDiff,ND,Int.reduceEq,Int.reduceLT,Int.reduceLE]
  rfl
def okT (T:List Int):Prop:=T.length=50/\∀j,-1<=T.getD j (-1)/\T.getD j (-1)<=OC
theorem Nip {i:Nat} {t:Int} (hi:i<50) (h:-1<=t/\t<=OC):okT (Zz 50 i t):=⟨Ned,fun j=>by
 rw [Nee hi];unfold OC at *;split<;>omega⟩
theorem Nio {T:List Int} {i:Nat} {v:Int} (h:okT T) (hv:-1<=v/\v<=OC):okT (T.set i v):=by
 refine ⟨by simpa using h.1,fun j=>?_⟩
 by_cases hi:i<T.length
 ·rw [Xp hi];split
  ·exact hv
  ·exact h.2 j
 ·rw [List.set_eq_of_length_le (by omega)];exact h.2 j
def VI (u:List Int->List Int->Leg->List Int) (L:List Leg) (first:List Int):Nat->List Int
 | 0=>first
 | k+1=>L.foldl (u (VI u L first k)) (VI u L first k)
theorem Mi {α β:Type} [Inhabited α] {f:β->α->β} {L:List α} {b:β} {i:Nat} (h:i<L.length):(L.take (i+1)).foldl f b=f ((L.take i).foldl f b) (gt L i):=by
 rw [Xd h,List.foldl_append];rfl
def N1i [OB] (H:NE) (lim:Nat) (g:FuncId) (a b:Value) (u:List Int->List Int->Leg->List Int) (L:List Leg):Prop:=
 ∀(G:NE) (A:Nat) (bef aft:List Int) (l:Leg) (Q:Value->NE->Prop),l∈L->okT bef->okT aft->Chg [] H G->lim<=A->H.length<=A->lim<=G.length->NH G A=Vc (RS aft)->
  okT (u bef aft l)/\((∀G',Chg [A] G G'->NH G' A=Vc (RS (u bef aft l))->Q (.tuple #[]) G')->NL E false lim g [.agg (Ry l).toArray,.agg (RS bef).toArray,Vp A,a,b] G Q)
theorem Nia [OB] {lim:Nat} {g:FuncId} {t v:Value} {u:List Int->List Int->Leg->List Int} {pl:Option Addr} {L:List Leg} {cl:Nat} {H G:NE} {fr:Nat->Value} {K:List AItem} {R:Value->NE->Prop} {bef:List Int} {A8 A9:Nat}
  (hu:N1i H lim g t v u L) (hL:Sl H Ry 8 pl L) (aa:L.length<2 ^ 62) (S:lim<=H.length) (Q:okT bef) (W:Chg [] H G) (V:H.length<=A8) (C:H.length<=A9) (M:A8≠A9) (T:NH G A8=Vc (RS bef)) (U:NH G A9=Vc (RS bef))
  (f2:fr 2=.func (.func g) #[] #[t,v]) (f8:fr 8=Vp A8) (f9:fr 9=Vp A9) (w:fr 21=.slice pl L.length cl) (x:fr 22=Vi L.length) (y:fr 23=Vi 0)
  (Y:∀fr' G',okT (L.foldl (u bef) bef)->Chg [A9] G G'->NH G' A9=Vc (RS (L.foldl (u bef) bef))->fr' 1=fr 1->fr' 2=fr 2->fr' 7=fr 7->fr' 8=fr 8->fr' 9=fr 9->PQ E a99 lim K fr' (G'++[]) R) :
  PQ E a99 lim (.code (.loop Ny9)::.inBlock 2::K) fr G R:=by
 refine NR (fun i=>L.length-i) (fun i fr' G'=>i<=L.length/\fr' 1=fr 1/\fr' 7=fr 7/\fr' 2=.func (.func g) #[] #[t,v]/\fr' 8=Vp A8/\fr' 9=Vp A9/\fr' 21=.slice pl L.length cl/\fr' 22=Vi L.length/\fr' 23=Vi i/\
  Chg [A9] G G'/\okT ((L.take i).foldl (u bef) bef)/\NH G' A9=Vc (RS ((L.take i).foldl (u bef) bef))) 0
  ⟨Nx _,rfl,rfl,f2,f8,f9,w,x,y,Chg.refl,Q,U⟩ ?_
 intro i fr' G' ⟨hi,O,P,m,n,o,b,d,f,s,F,e⟩ hN
 have h:Chg [] H G':=W.trans' s fun j h1 h2=>by simp only [Nk] at h1;omega
 have hl:=h.len
 rw [NT Ny9.eq_1]
 refine NK ?_
 by_cases a:i<L.length
 ·have q:=h.ext.sl hL
  have J:=fun X=>(q.app X).loadCells OH a
  have p:=fun c (k:IntKind) (H1:NE)=>q.idx (c:=c) (k:=k) (H1:=H1) a
  have r:IntKind.i64.wrap ((i:Int)+1)=((i+1:Nat):Int):=OG (by omega)
  have z:=s.cells T (by simpa using M)
  have A:=fun X=>(OI.refl.app (X:=X)).cells z
  have I:lim<=G'.length:=by omega
  simp only [n99,r99,m,n,o,b,d,f,a,p,J,r,OH,QE,QD,QC,QB,QA,PZ,PY,PW,NI,I,NG,A,PO,Nks,SB,Nat.reduceLT,NC,NJ,Nat.reduceEqDiff,NF,NP,reduceCtorEq,NB,place,NA,Nat.reduceAdd,Nat.reduceLeDiff,ND,Int.reduceEq,Int.reduceLT,Int.reduceLE]
  have Z:=NM e
  obtain ⟨N,l⟩:=hu (G'++[Vc (Ry (gt L i))]) A9 bef ((L.take i).foldl (u bef) bef) (gt L i) _ (Ru a) Q F (h.app) (by omega) C (by simp;omega) ((OI.refl.app).cells e)
  refine l fun G2 D B=>?_
  refine NK ?_
  simp only [n99,r99,m,n,o,b,d,f,r,SB,Nat.reduceLT,NC,NJ,Nat.reduceEqDiff,NF,NP,reduceCtorEq,NB,place,NA,Nat.reduceAdd,Nat.reduceLeDiff,ND,Int.reduceEq,Int.reduceLT,Int.reduceLE]
  refine hN (i+1) _ _ ⟨by omega,by rw [<-O];exact rfl,by rw [<-P];exact rfl,m,n,o,b,d,rfl, ?_, ?_, ?_⟩ (by omega)
  ·rw [Nb]
   exact s.trans D.pre
  ·rw [Mi a];exact N
  ·rw [Nb,Mi a];exact B
 ·obtain rfl:i=L.length:=by omega
  rw [Oj] at F e
  simp only [n99,r99,m,n,o,b,d,f,a,SB,Nat.reduceLT,NC,NJ,Nat.reduceEqDiff,NF,NP,reduceCtorEq,NB,place,NA,Nat.reduceAdd,Nat.reduceLeDiff,ND,Int.reduceEq,Int.reduceLT,Int.reduceLE]
  exact Y _ _ F s e (by rw [<-O];exact rfl) (by rw [f2];exact m) (by rw [<-P];exact rfl) (by rw [f8];exact n) (by rw [f9];exact o)
theorem Nsl [OB] {lim n0:Nat} {g:FuncId} {z A:Value} {u:List Int->List Int->Leg->List Int} {first:List Int} {pl:Option Addr} {L:List Leg} {cl:Nat} {H:NE} {Q:Value->NE->Prop}
  (hu:N1i H lim g z A u L) (W:okT first) (hL:Sl H Ry 8 pl L) (K:L.length<2 ^ 62) (l:lim<=H.length) (t:VI u L first (n0+1)=VI u L first n0) (M:∀k,k<n0->VI u L first (k+1)≠VI u L first k) (Z:n0<80000000000)
  (V:∀H' p cap,Chg [] H H'->YX H.length H' RS 50 p cap ((List.range (n0+1)).map (VI u L first))->Q (.slice p (n0+1) cap) H') :
  NL E false lim 99 [.agg (RS first).toArray,.slice pl L.length cl,.func (.func g) #[] #[z,A]] H Q:=by
 refine R5 (by decide) e99 rfl ?_
 rw [b99,c99]
 simp only [n99,r99,Njv,PO,NI,NG,Om,SB,Nat.reduceLT,NC,NJ,Nat.reduceEqDiff,NF,NP,reduceCtorEq,NB,place,NA,Nat.reduceAdd,Nat.reduceLeDiff,ND,Int.reduceEq,Int.reduceLT,Int.reduceLE]
 refine NR (fun s:Nat×Option Addr×Nat=>n0+1-s.1) (fun s fr G=>s.1<=n0/\fr 1=.slice pl L.length cl/\fr 2=.func (.func g) #[] #[z,A]/\fr 7=.slice s.2.1 (s.1+1) s.2.2/\Chg [] H G/\okT (VI u L first s.1)/\YX H.length G RS 50 s.2.1 s.2.2 ((List.range (s.1+1)).map (VI u L first))) (0,Sa (H.length+1),1)
  ⟨Nx _,rfl,rfl,by rfl,Chg.refl.app,W,.inr ⟨H.length+1,rfl,rfl,by show (1:Nat)<2 ^ 62;decide,by rw [NW];simp [VI],by omega⟩⟩ ?_
 rintro ⟨k,p,cap⟩ fr G ⟨hk,f1,f2,f7,B,n,C⟩ hN
 simp only at hk f7 n C
 have hl:=B.len
 rw [NT N44.eq_1]
 refine NK ?_
 have a:((List.range (k+1)).map (VI u L first)).length=k+1:=by simp
 have F:gt ((List.range (k+1)).map (VI u L first)) k=VI u L first k:=by
  rw [QH (by rw [a];omega)];simp
 have hS:=C.sl PO
 have v:=fun X=>(hS.app X).loadCells PO (i:=k) (by rw [a];omega)
 have f:=fun c (kk:IntKind) (H1:NE)=>hS.idx (c:=c) (k:=kk) (H1:=H1) (i:=k) (by rw [a];omega)
 rw [a] at f
 rw [F] at v
 have O:IntKind.i64.wrap (((k+1:Nat):Int)-1)=(k:Int):=by rw [NU (by omega) (by omega)];omega
 have J:lim<=G.length:=by omega
 simp only [n99,r99,f1,f2,f7,Njv,PO,NI,NG,Om,O,f,v,J,show lim<=G.length+1 by omega,SB,Nat.reduceLT,NC,NJ,Nat.reduceEqDiff,NF,NP,reduceCtorEq,NB,place,NA,Nat.reduceAdd,Nat.reduceLeDiff,ND,Int.reduceEq,Int.reduceLT,Int.reduceLE]
 refine Nia (cl:=cl) (A8:=G.length) (A9:=G.length+1) hu hL K l n (B.app) (by omega) (by omega) (by omega) NS NW f2 rfl rfl rfl rfl rfl fun fr' G' d R P k1 k2 k7 k8 k9=>?_
 have o:fr' 1=.slice pl L.length cl:=k1.trans f1
 have q:fr' 2=.func (.func g) #[] #[z,A]:=k2.trans f2
 have w:fr' 7=.slice p (k+1) cap:=k7.trans f7
 have x:fr' 8=Vp G.length:=k8.trans rfl
 have y:fr' 9=Vp (G.length+1):=k9.trans rfl
 have U:NH G' G.length=Vc (RS (VI u L first k)):=R.cells NS (by simp)
 have r:=fun X=>(OI.refl.app (X:=X)).cells U
 have m:=fun X=>(OI.refl.app (X:=X)).cells P
 have b:Chg [] G G':=R.pre.mono fun j hj h=>by simp only [Nk] at h;omega
 have Y:=b.len
 change okT (VI u L first (k+1)) at d
 change NH G' (G.length+1)=Vc (RS (VI u L first (k+1))) at P
 change ∀X,NH (G'++X) (G.length+1)=Vc (RS (VI u L first (k+1))) at m
 have e:=N0g d.1 n.1
 by_cases I:k=n0
 ·subst I
  rw [Nq t] at e
  simp only [n99,r99,o,q,w,x,y,r,m,PO,NI,N9t,e,SB,Nat.reduceLT,NC,NJ,Nat.reduceEqDiff,NF,NP,reduceCtorEq,NB,place,NA,Nat.reduceAdd,Nat.reduceLeDiff,ND,Int.reduceEq,Int.reduceLT,Int.reduceLE]
  exact V _ _ _ ((B.trans b).app) (C.chg (b.app) (by simp))
 ·rw [N7 (p:=VI u L first (k+1)=VI u L first k) (M k (by omega))] at e
  have D:=C.chg b (by simp)
  obtain ⟨G3,e3,T,S,N,l3,_⟩:=D.step (lim':=lim) (bytes:=400) l PO (by decide) (VI u L first (k+1)) (by rw [a];unfold PS;omega) (by rw [a];omega) (by omega) [Vc (RS (VI u L first (k+1)))] G'.length 1 NS
  rw [a] at e3
  simp only [n99,r99,o,q,w,x,y,r,m,PO,NI,N9t,e,Njv,NG,Om,e3,SB,Nat.reduceLT,NC,NJ,Nat.reduceEqDiff,NF,NP,reduceCtorEq,NB,place,NA,Nat.reduceAdd,Nat.reduceLeDiff,ND,Int.reduceEq,Int.reduceLT,Int.reduceLE]
  refine hN (k+1,_,_) _ _ ⟨by omega,o,q,by rfl,S _ _ (Nd _) (B.trans b),d,.inl ?_⟩ (by show n0+1-(k+1)<n0+1-k;omega)
  rw [P3,Pc]
  exact T
def OO (P:List Int):Int->Nat:=fun p=>P.idxOf p
theorem VS {P:List Int} {L:List Leg} (h:Rz P L=0):NetOk 50 P L (OO P):=by
 obtain ⟨h1,h2,g,d⟩:=Vn h
 have key:∀l∈L,Fine l/\l.frm∈P/\l.dst∈P:=fun l hl=>by
  obtain ⟨i,hi,rfl⟩:=List.mem_iff_getElem.1 hl
  have:=d i hi
  unfold lOk at this
  rw [QH hi] at this
  exact ⟨this.1,this.2.2⟩
 refine ⟨fun l hl=>(key l hl).1,fun l hl=>(key l hl).2.1,fun l hl=>(key l hl).2.2,fun a c b f e=>?_,fun a c=>?_⟩
 ·have h1:=Q3 (Pd c)
  have h2:=Q3 (Pd f)
  rw [<-h1,<-h2]
  congr 1
 ·have:=Pd c
  show P.idxOf a<50
  omega
theorem N17 {F:Nat->List Int} {mu:List Int->Nat} (h:∀k,F (k+1)=F k\/mu (F (k+1))<mu (F k)):∃n,n<=mu (F 0)/\F (n+1)=F n/\∀k,k<n->F (k+1)≠F k:=by
 have key:∀m k,mu (F k)<=m->(∀j,j<k->F (j+1)≠F j)->∃n,n<=k+m/\F (n+1)=F n/\∀j,j<n->F (j+1)≠F j:=by
  intro m
  induction m with
  | zero=>
    intro k hm a
    rcases h k with h1 | h1
    ·exact ⟨k,by omega,h1,a⟩
    ·omega
  | succ m ih=>
    intro k hm a
    by_cases h1:F (k+1)=F k
    ·exact ⟨k,by omega,h1,a⟩
    ·rcases h k with h2 | h2
     ·exact absurd h2 h1
     ·obtain ⟨n,d,b⟩:=ih (k+1) (by omega) fun j c=>by
       rcases On j k with h5 | h5
       ·exact a j h5
       ·obtain rfl:j=k:=by omega
        exact h1
      exact ⟨n,by omega,b⟩
 obtain ⟨n,h1,h2⟩:=key (mu (F 0)) 0 (Nd _) fun j a=>by omega
 exact ⟨n,by omega,h2⟩
theorem N16 {N:Nat} {pos:Int->Nat} {lim:Int} {L:List Leg} {p ready:Int} (k:Nat):VI (X7 pos lim) L (Zz N (pos p) ready) k=RN N pos lim L p ready k:=by
 induction k with
 | zero=>rfl
 | succ k ih=>rw [VI,RN,VA,ih]
theorem Mt {P:List Int} {L:List Leg} {p ready lim:Int} (hn:NetOk 50 P L (OO P)) (hp:p∈P) (hr:0<=ready) (hl:ready<=lim):∀k,WV ready lim (RN 50 (OO P) lim L p ready k)
 | 0=>by
   intro t b
   rw [RN,Zz] at b
   rcases Q5 b with h | rfl
   ·exact .inl (List.eq_of_mem_replicate h)
   ·exact .inr ⟨Oq _,hl⟩
 | k+1=>(Nka (Mt hn hp hr hl k) hr fun l a=>⟨hn.fine l a,by rw [U8];exact hn.lt _ (hn.dst l a)⟩).1
theorem Nmy {P:List Int} {L:List Leg} {p ready lim:Int} (hn:NetOk 50 P L (OO P)) (hp:p∈P) (hr:0<=ready) (hl:ready<=lim):∃n,n<=50*((lim-ready).toNat+1)/\RN 50 (OO P) lim L p ready (n+1)=RN 50 (OO P) lim L p ready n/\∀k,k<n->RN 50 (OO P) lim L p ready (k+1)≠RN 50 (OO P) lim L p ready k:=by
 obtain ⟨n,h1,h2⟩:=N17 (F:=RN 50 (OO P) lim L p ready) (mu:=muA ready lim) fun k=>
  (Nka (Mt hn hp hr hl k) hr fun l a=>⟨hn.fine l a,by rw [U8];exact hn.lt _ (hn.dst l a)⟩).2
 refine ⟨n,O9 h1 ?_,h2⟩
 have:=Nym (Mt hn hp hr hl 0)
 rw [U8] at this
 exact this
def N8i (P:List Int) (L:List Leg) (p ready:Int) (T:List Int):Prop:=T.length=P.length/\∀q∈P,TK L p ready q (T.getD (OO P q) (-1))
theorem N4c {P:List Int} {L:List Leg} {p ready:Int} (hn:NetOk 50 P L (OO P)) (c:P.length<=50) (hp:p∈P) (hr:0<=ready) {n:Nat} (a:RN 50 (OO P) (ready+86400) L p ready (n+1)=RN 50 (OO P) (ready+86400) L p ready n) :
  N8i P L p ready ((RN 50 (OO P) (ready+86400) L p ready n).take P.length):=by
 refine ⟨by rw [Ok,U8];omega,fun q b=>?_⟩
 have h1:=Nfq hn hp hr (by omega) a q b
 have h2:OO P q<P.length:=Pd b
 rw [Na,Py,Ni h2,<-Na]
 exact h1
theorem Ng4 {l:Leg} {r a:Int} (hl:Fine l) (h:RY l r=some a):0<=a/\r<=a/\a+l.mins<=OC:=by
 obtain ⟨⟨d,_,b,rfl⟩,h2,_⟩:=RX h
 unfold goes at b
 simp only [Nz,Oa] at b
 unfold Fine at hl
 omega
theorem Nhc {l:Leg} {b a:Int} (hl:Fine l) (h:SS l b=some a):0<=a-l.cut/\0<=a/\a+l.mins<=OC/\a+l.mins<=b:=by
 obtain ⟨⟨d,_,c,rfl⟩,h2,_⟩:=Tw h
 unfold goes at c
 simp only [Nz,Oa] at c
 unfold Fine at hl
 omega
theorem Nqj [OB] {lim B1 B2 R:Nat} {o1 o2:Bool} {P:List Int} {L:List Leg} {ready:Int} {H:NE} (hn:NetOk 50 P L (OO P)) (h1:NH H B1=.cells o1 [.map (some R)]) (h2:NH H B2=.cells o2 [Vi ready]) (hm:NH H R=.map (WO P)) (hr:0<=ready) (M:ready<=OC) :
  N1i H lim 98 (Vp B1) (Vp B2) (X7 (OO P) (ready+86400)) L:=by
 intro G A bef aft l Q hl U o N J W m v
 have T:=hn.fine l hl
 have Y:OO P l.frm<50:=hn.lt _ (hn.frm l hl)
 have Z:OO P l.dst<50:=hn.lt _ (hn.dst l hl)
 obtain ⟨j1,g⟩:=Vh (i:=0) (hn.frm l hl)
 obtain ⟨j2,j⟩:=Vh (i:=0) (hn.dst l hl)
 change findKey _ _ _=some (some (j1,Vi (OO P l.frm:Int))) at g
 change findKey _ _ _=some (some (j2,Vi (OO P l.dst:Int))) at j
 have S:=U.2 (OO P l.frm)
 have O:=o.2 (OO P l.dst)
 have u:=Wi U.1 Y
 have t:=Wi o.1 Z
 have q1:=fun X=>(OI.refl.app (X:=X)).cells (N.cells h1 (by simp))
 have q2:=fun X=>(OI.refl.app (X:=X)).cells (N.cells h2 (by simp))
 have K:=N.get hm (PR hm) (by simp)
 have q3:∀X,NH (G++X) R=.map (WO P):=fun X=>by rw [NN (PR K)];exact K
 have w:=fun X=>(OI.refl.app (X:=X)).cells v
 have z:(0:Int)<=(OO P l.frm:Int):=by omega
 have B:(0:Int)<=(OO P l.dst:Int):=by omega
 have C:(OO P l.frm:Int)<50:=by omega
 have D:(OO P l.dst:Int)<50:=by omega
 have F:OO P l.dst<=49:=by omega
 have I:OO P l.frm<=49:=by omega
 have wr:IntKind.i64.wrap (ready+86400)=ready+86400:=by unfold OC at M;exact NU (by omega) (by omega)
 unfold X7
 generalize OO P l.frm=x at *
 generalize OO P l.dst=y at *
 generalize bef.getD x (-1)=b at *
 generalize hc:aft.getD y (-1)=c at *
 unfold OC at S O M
 by_cases f:b<0
 ·rw [Ni f]
  refine ⟨o,fun n=>R5 (by decide) e98 rfl ?_⟩
  rw [b98,c98]
  simp only [n98,r98,q1,q2,q3,w,g,j,u,t,z,B,C,D,F,I,wr,OH,QE,QD,QC,QB,QA,PZ,PY,PW,NI,PO,O8,m,f,SB,Nat.reduceLT,NC,NJ,Nat.reduceEqDiff,NF,NP,reduceCtorEq,NB,place,NA,Nat.reduceAdd,Nat.reduceLeDiff,ND,Int.reduceEq,Int.reduceLT,Int.reduceLE]
  exact n _ (OI.refl.app.chg) ((OI.refl.app).cells v)
 rw [Nh f]
 have e:=fun (H:NE) (mp:Bool) (lim:Nat) (Q:Value->NE->Prop)=>Nq6 (mp:=mp) (lim:=lim) (H:=H) (Q:=Q) (l:=l) (r:=b) T (by omega) (by omega)
 cases hx:RY l b with
 | none=>
   rw [hx] at e
   simp only [Oo,Ww] at e
   refine ⟨o,fun n=>R5 (by decide) e98 rfl ?_⟩
   rw [b98,c98]
   simp only [n98,r98,q1,q2,q3,w,g,j,u,t,z,B,C,D,F,I,wr,OH,QE,QD,QC,QB,QA,PZ,PY,PW,NI,PO,O8,m,f,e,SB,Nat.reduceLT,NC,NJ,Nat.reduceEqDiff,NF,NP,reduceCtorEq,NB,place,NA,Nat.reduceAdd,Nat.reduceLeDiff,ND,Int.reduceEq,Int.reduceLT,Int.reduceLE]
   exact n _ (OI.refl.app.chg) ((OI.refl.app).cells v)
 | some a=>
   rw [hx] at e
   simp only [Nu,Ww] at e
   obtain ⟨k1,k2,k3⟩:=Ng4 T hx
   unfold Fine at T
   by_cases d:a+l.mins<=ready+86400
   ·have q:∀Q:Value->NE->Prop,(∀G',Chg [A] G G'->NH G' A=Vc (RS (aft.set y (a+l.mins)))->Q (.tuple #[]) G')->(c<0\/a+l.mins<c)->
      NL E false lim 98 [.agg (Ry l).toArray,.agg (RS bef).toArray,Vp A,Vp B1,Vp B2] G Q:=by
     intro Q n k
     refine R5 (by decide) e98 rfl ?_
     rw [b98,c98]
     obtain ⟨G2,e2,h2,V⟩:=OP (NM v) (Vc (RS (aft.set y (a+l.mins))))
     by_cases p:c<0
     ·simp only [n98,r98,q1,q2,q3,w,g,j,u,t,z,B,C,D,F,I,wr,OH,QE,QD,QC,QB,QA,PZ,PY,PW,NI,PO,O8,m,f,e,N5 d,N5 p,J,YL o.1,e2,SB,Nat.reduceLT,NC,NJ,Nat.reduceEqDiff,NF,NP,reduceCtorEq,NB,place,NA,Nat.reduceAdd,Nat.reduceLeDiff,ND,Int.reduceEq,Int.reduceLT,Int.reduceLE]
      exact n _ ((Chg.refl.mut V (.inl (by simp))).app) ((OI.refl.app).cells h2)
     ·have s:a+l.mins<c:=by omega
      simp only [n98,r98,q1,q2,q3,w,g,j,u,t,z,B,C,D,F,I,wr,OH,QE,QD,QC,QB,QA,PZ,PY,PW,NI,PO,O8,m,f,e,N5 d,Ns p,N5 s,J,YL o.1,e2,SB,Nat.reduceLT,NC,NJ,Nat.reduceEqDiff,NF,NP,reduceCtorEq,NB,place,NA,Nat.reduceAdd,Nat.reduceLeDiff,ND,Int.reduceEq,Int.reduceLT,Int.reduceLE]
      exact n _ ((Chg.refl.mut V (.inl (by simp))).app) ((OI.refl.app).cells h2)
    by_cases k:c<0\/a+l.mins<c
    ·simp only [Ni (And.intro d k)]
     exact ⟨Nio o (by omega),fun n=>q _ n k⟩
    ·simp only [Nh (fun h:_/\_=>k h.2)]
     refine ⟨o,fun n=>R5 (by decide) e98 rfl ?_⟩
     rw [b98,c98]
     have p:¬c<0:=fun h=>k (.inl h)
     have s:¬a+l.mins<c:=fun h=>k (.inr h)
     simp only [n98,r98,q1,q2,q3,w,g,j,u,t,z,B,C,D,F,I,wr,OH,QE,QD,QC,QB,QA,PZ,PY,PW,NI,PO,O8,m,f,e,N5 d,Ns p,Ns s,SB,Nat.reduceLT,NC,NJ,Nat.reduceEqDiff,NF,NP,reduceCtorEq,NB,place,NA,Nat.reduceAdd,Nat.reduceLeDiff,ND,Int.reduceEq,Int.reduceLT,Int.reduceLE]
     exact n _ (OI.refl.app.chg) ((OI.refl.app).cells v)
   ·simp only [Nh (fun h:_/\_=>d h.1)]
    refine ⟨o,fun n=>R5 (by decide) e98 rfl ?_⟩
    rw [b98,c98]
    simp only [n98,r98,q1,q2,q3,w,g,j,u,t,z,B,C,D,F,I,wr,OH,QE,QD,QC,QB,QA,PZ,PY,PW,NI,PO,O8,m,f,e,Ns d,SB,Nat.reduceLT,NC,NJ,Nat.reduceEqDiff,NF,NP,reduceCtorEq,NB,place,NA,Nat.reduceAdd,Nat.reduceLeDiff,ND,Int.reduceEq,Int.reduceLT,Int.reduceLE]
    exact n _ (OI.refl.app.chg) ((OI.refl.app).cells v)
theorem Nco [OB] {lim R:Nat} {pp pl:Option Addr} {P:List Int} {L:List Leg} {cp cl:Nat} {p ready:Int} {H:NE} {Q:Value->NE->Prop} (hn:NetIn H pp pl P L) (hv:Rz P L=0) (hm:NH H R=.map (WO P)) (hp:p∈P) (hr:0<=ready) (h:ready<=OC) (j:lim<=H.length)
  (o:∀H' q cap n,Chg [] H H'->RN 50 (OO P) (ready+86400) L p ready (n+1)=RN 50 (OO P) (ready+86400) L p ready n->(∀k,k<n->RN 50 (OO P) (ready+86400) L p ready (k+1)≠RN 50 (OO P) (ready+86400) L p ready k)->n<2 ^ 30->
   YX H.length H' RS 50 q cap ((List.range (n+1)).map (RN 50 (OO P) (ready+86400) L p ready))->Q (.slice q (n+1) cap) H') :
  NL E false lim 59 [.agg (SC pp P.length cp pl L.length cl).toArray,.map (some R),Vi p,Vi ready] H Q:=by
 have b:=VS hv
 obtain ⟨w,x,y,z⟩:=Vn hv
 refine R5 (by decide) e59 rfl ?_
 rw [b59,c59]
 obtain ⟨s,c⟩:=Vh (i:=0) hp
 have hi:OO P p<50:=b.lt _ hp
 change findKey _ _ _=some (some (s,Vi (OO P p:Int))) at c
 have q3:∀X,NH (H++X) R=.map (WO P):=fun X=>by rw [NN (PR hm)];exact hm
 have g:=fun (H:NE) (mp:Bool) (lim:Nat) (Q:Value->NE->Prop)=>Noe (mp:=mp) (lim:=lim) (H:=H) (Q:=Q) (i:=OO P p) (t:=ready) hi
 simp only [n59,r59,OQ,Sg,Sd,q3,c,g,SB,Nat.reduceLT,NC,NJ,Nat.reduceEqDiff,NF,NP,reduceCtorEq,NB,place,NA,Nat.reduceAdd,Nat.reduceLeDiff,ND,Int.reduceEq,Int.reduceLT,Int.reduceLE]
 obtain ⟨n,r,d,e⟩:=Nmy (lim:=ready+86400) b hp hr (by omega)
 have a:∀k,VI (X7 (OO P) (ready+86400)) L (Zz 50 (OO P p) ready) k=RN 50 (OO P) (ready+86400) L p ready k:=fun k=>N16 k
 unfold OC at h
 refine Nsl (n0:=n) (Nqj (R:=R) (P:=P) (ready:=ready) b NW NW (q3 _) hr (by unfold OC;omega)) (Nip hi (by unfold OC;omega)) (hn.sl.app _) (by omega) (by simp;omega) (by rw [a,a];exact d) (fun k hk=>by rw [a,a];exact e k hk) (by omega) fun H' q cap m f=>?_
 rw [funext a] at f
 refine NK ?_
 simp only [n59,r59,SB,Nat.reduceLT,NC,NJ,Nat.reduceEqDiff,NF,NP,reduceCtorEq,NB,place,NA,Nat.reduceAdd,Nat.reduceLeDiff,ND,Int.reduceEq,Int.reduceLT,Int.reduceLE]
 rw [Nb]
 refine o H' q cap n m.pre d e (by omega) ?_
 rcases f with f | ⟨l,k1,k2,k3,u,v⟩
 ·exact .inl (f.le (by simp))
 ·exact .inr ⟨l,k1,k2,k3,u,by simp at v;omega⟩
theorem Nmp [OB] {lim c:Nat} {p:Option Addr} {l:List Int} {H:NE} {Q:Value->NE->Prop} (hs:Sl H encI 1 p l) (hn:l≠[]) (hl:l.length<2 ^ 40)
  (f:∀H' q,OI H H'->Own H.length H' encI 1 q (loose 1) l->Q (.slice q l.length (loose 1)) H') :
  NL E false lim 106 [.slice p l.length c] H Q:=by
 refine R5 (by decide) N92 rfl ?_
 rw [Oaf,N37]
 obtain ⟨a,rfl⟩:=hs.some hn
 have g:=YS (lim:=lim) (b:=H.length) (e:=1) (bytes:=8) (c:=c) (H:=H++[Vc []]) (enc:=encI) (p:=some a) (l:=l) NS (hs.app _) (by decide) (by unfold PS;omega) (by omega) hn
 have d:aEq .slice (.slice (some a) l.length c) Vz=some false:=rfl
 simp only [n106,N6c,d,g,SB,Nat.reduceLT,NC,NJ,Nat.reduceEqDiff,NF,NP,reduceCtorEq,NB,place,NA,Nat.reduceAdd,Nat.reduceLeDiff,ND,Int.reduceEq,Int.reduceLT,Int.reduceLE]
 refine f _ _ OI.refl.app (Own.new ?_ (by omega))
 rw [NW];rfl
theorem N12 {H:NE} {A:Nat} {T:List Int} {n:Nat} (a:NH H A=Vc (RS T)) (b:T.length=50) (hn:n<=50):Sl H encI 1 (Sa A) (T.take n):=by
 have:Sl H encI 1 (Sa A) (T.take n++T.drop n):=by
  rw [Qc]
  refine Sl.row RP (ro:=false) ?_
  rw [a,VM b]
  congr 1
  clear a b
  induction T with
  | nil=>rfl
  | cons x T ih=>rw [Of,Ox,ih];rfl
 exact this.pre RP
theorem Nwl [OB] {lim:Nat} {pp pl:Option Addr} {P:List Int} {L:List Leg} {cp cl:Nat} {p ready:Int} {H:NE} {Q:Value->NE->Prop} (hn:NetIn H pp pl P L) (K:lim<=H.length)
  (s:∀H',Vv P L p p ready≠0->Chg [] H H'->Q (.tuple #[Vz,Vi (Vv P L p p ready)]) H')
  (G:∀H' q T,Vv P L p p ready=0->Chg [] H H'->N8i P L p ready T->Own H.length H' encI 1 q (loose 1) T->T.length=P.length->Q (.tuple #[.slice q P.length (loose 1),Vi 0]) H') :
  NL E false lim 165 [.agg (SC pp P.length cp pl L.length cl).toArray,Vi p,Vi ready] H Q:=by
 refine R5 (by decide) Oc0 rfl ?_
 rw [Od6,N7s]
 simp only [n165,Nxe,OQ,Sg,Sd,NI,SB,Nat.reduceLT,NC,NJ,Nat.reduceEqDiff,NF,NP,reduceCtorEq,NB,place,NA,Nat.reduceAdd,Nat.reduceLeDiff,ND,Int.reduceEq,Int.reduceLT,Int.reduceLE]
 refine Nfs (hn.app _) (by simp;omega) (fun H' he m=>?_) (fun H' R he m hm S=>?_)
 ·refine NK ?_
  simp only [n165,Nxe,he,Ns he,SB,Nat.reduceLT,NC,NJ,Nat.reduceEqDiff,NF,NP,reduceCtorEq,NB,place,NA,Nat.reduceAdd,Nat.reduceLeDiff,ND,Int.reduceEq,Int.reduceLT,Int.reduceLE]
  exact s _ he (m.chg.pre.app)
 ·obtain ⟨hv,hp,_,hr,I⟩:=Mm he
  obtain ⟨M,v2,v3,v4⟩:=Vn hv
  have D:=m.len
  simp only [Nm,Nl,Nr] at D S
  have j:NH H' H.length=Vc (SC pp P.length cp pl L.length cl):=m.cells NS
  have F:=fun X=>(OI.refl.app (X:=X)).cells j
  refine NK ?_
  simp only [n165,Nxe,F,OQ,Sg,Sd,NI,SB,Nat.reduceLT,NC,NJ,Nat.reduceEqDiff,NF,NP,reduceCtorEq,NB,place,NA,Nat.reduceAdd,Nat.reduceLeDiff,ND,Int.reduceEq,Int.reduceLT,Int.reduceLE]
  rw [Nb]
  have o:OI H H':=by obtain ⟨Y,rfl⟩:=m;rw [Nn];exact OI.refl.app
  refine Nco (hn.ext o) hv hm hp hr I (by omega) fun y q cap n z v W V N=>?_
  have U:=z.len
  have d:((List.range (n+1)).map (RN 50 (OO P) (ready+86400) L p ready)).length=n+1:=by simp
  have C:gt ((List.range (n+1)).map (RN 50 (OO P) (ready+86400) L p ready)) n=RN 50 (OO P) (ready+86400) L p ready n:=by
   rw [QH (by rw [d];omega)];simp
  have hS:=N.sl PO
  have w:=fun X=>(hS.app X).loadCells PO (i:=n) (by rw [d];omega)
  have g:=fun c (kk:IntKind) (H1:NE)=>hS.idx (c:=c) (k:=kk) (H1:=H1) (i:=n) (by rw [d];omega)
  rw [d] at g
  rw [C] at w
  have J:IntKind.i64.wrap (((n+1:Nat):Int)-1)=(n:Int):=by rw [NU (by omega) (by omega)];omega
  have x:=fun X=>(OI.refl.app (X:=X)).cells (z.cells j (by simp))
  have O:0<P.length:=List.length_pos_of_mem hp
  have u:∀b:Nat,XD 50 1 (Vp b) none (some (Vi P.length)) none=some (.slice (Sa b) P.length 50):=fun b=>by
   have:=Nkd (n:=50) (e:=1) (a:=⟨b,0,none⟩) (lo:=0) (hi:=P.length) (vlo:=none) (vhi:=some (Vi P.length)) (by rw [Mq (by omega) (by omega),Ob]) (by decide) (by decide)
   rw [this];simp [addr_add]
  refine NK ?_
  simp only [n165,Nxe,x,g,w,J,OQ,Sg,Sd,Njv,PO,NI,NG,Om,show lim<=y.length by omega,u,SB,Nat.reduceLT,NC,NJ,Nat.reduceEqDiff,NF,NP,reduceCtorEq,NB,place,NA,Nat.reduceAdd,Nat.reduceLeDiff,ND,Int.reduceEq,Int.reduceLT,Int.reduceLE]
  have r:(RN 50 (OO P) (ready+86400) L p ready n).length=50:=U8
  have f:((RN 50 (OO P) (ready+86400) L p ready n).take P.length).length=P.length:=by rw [Ok,r];omega
  have t:=fun Q=>Nmp (Q:=Q) (lim:=lim) (c:=50) (p:=Sa y.length) (l:=(RN 50 (OO P) (ready+86400) L p ready n).take P.length) (H:=y++[Vc (RS (RN 50 (OO P) (ready+86400) L p ready n))]) (N12 NS r M) (fun h=>by rw [h] at f;simp at f;omega) (by rw [f];omega)
  rw [f] at t
  refine t _ fun Z q3 A B=>?_
  refine NK ?_
  simp only [n165,Nxe,SB,Nat.reduceLT,NC,NJ,Nat.reduceEqDiff,NF,NP,reduceCtorEq,NB,place,NA,Nat.reduceAdd,Nat.reduceLeDiff,ND,Int.reduceEq,Int.reduceLT,Int.reduceLE]
  refine G _ _ _ he ?_ (N4c (VS hv) M hp hr v) ((B.le (by simp;omega)).app _) f
  exact (((o.chg).trans z).trans (A.chg.pre)).app
def Nd9 (P:List Int) (p:Int):Int:=if p∈P then (OO P p:Int) else -1
theorem Ni4 {H:NE} {q:Option Addr} {T:List Int} {i:Nat} (h:Sl H encI 1 q T) (hi:i<T.length):∀X,AM.loadCell (H++X) (Zt q 1 i)=some (Vi (gt T i)):=fun X=>by
 rw [(h.app X).loadCell0 RP hi (by decide)];rfl
theorem N3a {H:NE} {q:Option Addr} {T:List Int} {i n:Nat} (h:Sl H encI 1 q T) (hi:i<n) (a:T.length=n):∀(c:Nat) (k:IntKind) (H1:NE),Z0 1 (.slice q n c) (.int k (i:Int)) H1=some (.pointer (some (Zt q 1 i)),H1):=fun c k H1=>by
 subst a;exact h.idx hi
theorem N3m {T:List Int} {i:Nat} (h:i<T.length):gt T i=T.getD i (-1):=by
 rw [QH h,Na,Nf h];rfl
theorem N8h {L:List Leg} {p t q v:Int} (h:TK L p t q v) (c:t<=OC) (f:0<=t):v<=OC:=by
 rcases h with ⟨rfl,_⟩ | ⟨⟨⟨j,e⟩,_⟩,_⟩
 ·omega
 ·cases e with
  | nil=>exact c
  | snoc _ hl _ hd _=>
    obtain ⟨d,b,a,rfl⟩:=hd
    unfold goes at a
    simp only [Nz,Oa] at a
    exact a.2
theorem Nzz {l:Leg} {d:Nat} (hl:l.days=127) (h1:0<=1440*(d:Int)+l.dep-l.cut) (h2:1440*(d:Int)+l.dep+l.mins<=OC):goes l d=true:=by
 have hr:Go.Net.runs l.days d=true:=by
  rw [hl]
  have:d % 7<7:=P0 _ (by decide)
  unfold Go.Net.runs
  generalize d % 7=m at this
  match m,this with
  | 0,_=>rfl
  | 1,_=>rfl
  | 2,_=>rfl
  | 3,_=>rfl
  | 4,_=>rfl
  | 5,_=>rfl
  | 6,_=>rfl
 unfold goes
 rw [hr,Nq h1,Nq h2];rfl
theorem nx {l:Leg} {t:Int} (d:Nat) (hl:l.days=127) (hd:d<730485) (h1:0<=1440*(d:Int)+l.dep-l.cut) (h2:1440*(d:Int)+l.dep+l.mins<=OC) (a:t<=1440*(d:Int)+l.dep-l.cut) (e:1440*((d:Int)-1)+l.dep-l.cut<t):RY l t=some (1440*(d:Int)+l.dep):=
 Nlg (by rw [Zu];exact hd) (Nzz hl h1 h2) a fun c b ⟨_,h⟩=>by omega
end Go.Proofs.YtkppjkkkdpcgiaaGreat.Fn


namespace Go.Proofs.YtkppjkkkdpcgiaaGreat.Fn
open Go.AM Go.AM.Sym Go.Scan
section
variable {κ ν:Type} [DecidableEq κ]
def Nbl (k:κ):List (κ×ν)->Option ν
 | []=>none
 | (k',v)::l=>if k'=k then some v else Nbl k l
def Wv (k:κ) (v:ν):List (κ×ν)->List (κ×ν)
 | []=>[(k,v)]
 | (k',v')::l=>if k'=k then (k',v)::l else (k',v')::Wv k v l
def fk (k:κ):List (κ×ν)->Nat->Option (Nat×ν)
 | [],_=>none
 | (k',v)::l,i=>if k'=k then some (i,v) else fk k l (i+1)
theorem Npq (k:κ):∀(l:List (κ×ν)) (i:Nat),(fk k l i).map (·.2)=Nbl k l
 | [],_=>rfl
 | (k',v)::l,i=>by
   unfold fk Nbl
   by_cases h:k'=k
   ·rw [Ni h,Ni h];rfl
   ·rw [Nh h,Nh h];exact Npq k l (i+1)
theorem Njb {k:κ} {v v':ν}:∀{l:List (κ×ν)} {i j:Nat},fk k l i=some (j,v)->i<=j/\j-i<l.length/\l.set (j-i) (k,v')=Wv k v' l
 | [],_,_,h=>by cases h
 | (k2,v2)::l,i,j,h=>by
   unfold fk at h
   unfold Wv
   by_cases h2:k2=k
   ·rw [Ni h2] at h
    cases h
    rw [Ni h2,Qs,h2]
    exact ⟨Nd _,by simp,rfl⟩
   ·rw [Nh h2] at h
    obtain ⟨b,c,a⟩:=Njb (v':=v') h
    rw [Nh h2]
    have e:j-i=(j-(i+1))+1:=by omega
    rw [e,Q2,a]
    exact ⟨by omega,by simp only [Nl];omega,rfl⟩
theorem Njc {k:κ} {v':ν}:∀{l:List (κ×ν)} {i:Nat},fk k l i=none->l++[(k,v')]=Wv k v' l
 | [],_,_=>rfl
 | (k2,v2)::l,i,h=>by
   unfold fk at h
   unfold Wv
   by_cases h2:k2=k
   ·rw [Ni h2] at h;cases h
   ·rw [Nh h2] at h
    rw [Nh h2,<-Njc h,Ow]
theorem Nl7 {k k':κ} {v:ν}:∀{l:List (κ×ν)},Nbl k' (Wv k v l)=if k'=k then some v else Nbl k' l
 | []=>by
   unfold Wv Nbl
   by_cases h:k'=k
   ·rw [Ni h.symm,Ni h]
   ·rw [Nh fun q=>h q.symm,Nh h];rfl
 | (k2,v2)::l=>by
   unfold Wv
   by_cases h2:k2=k
   ·rw [Ni h2]
    subst h2
    by_cases h:k'=k2
    ·rw [Ni h];unfold Nbl;rw [Ni h.symm]
    ·rw [Nh h];unfold Nbl;rw [Nh fun q=>h q.symm,Nh fun q=>h q.symm]
   ·rw [Nh h2]
    by_cases h:k2=k'
    ·have:¬k'=k:=fun q=>h2 (h.trans q)
     rw [Nh this];unfold Nbl;rw [Ni h,Ni h]
    ·unfold Nbl;rw [Nh h,Nh h];exact Nl7
theorem Nd7 {k:κ} {v:ν}:∀{l:List (κ×ν)},(Wv k v l).length<=l.length+1
 | []=>by simp [Wv]
 | (k2,v2)::l=>by
   unfold Wv
   split
   ·simp
   ·have:=Nd7 (k:=k) (v:=v) (l:=l);simp only [Nl];omega
def Tm (kv:κ->Value) (vv:ν->Value) (es:List (κ×ν)):List (Value×Value):=es.map fun x=>(kv x.1,vv x.2)
def N1r (kv:κ->Value):Prop:=∀a b,Wd (kv a) (kv b)=some (decide (a=b))
variable {kv:κ->Value} {vv:ν->Value}
theorem YK (hk:N1r kv) (k:κ):∀(es:List (κ×ν)) (i:Nat),findKey (kv k) (Tm kv vv es) i=some ((fk k es i).map fun x=>(x.1,vv x.2))
 | [],_=>rfl
 | (k',v)::l,i=>by
   unfold Tm
   rw [Of]
   unfold findKey fk
   rw [hk]
   by_cases h:k'=k
   ·rw [Ni h,Nq h.symm];rfl
   ·rw [Nh h,N7 fun q=>h q.symm]
    exact YK hk k l (i+1)
end
def kM (k:Int×Int):Value:=.agg #[Vi k.1,Vi k.2]
def kS (k:Int×Int×Int):Value:=.agg #[Vi k.1,Vi k.2.1,.int .u8 k.2.2]
def vI (n:Int):Value:=Vi n
theorem N9x:N1r kM:=fun a b=>by
 obtain ⟨c,d⟩:=a;obtain ⟨b1,b2⟩:=b
 simp only [kM,Wd,Uy,if_true,Nu,Bool.and_true,Prod.mk.injEq,Bool.decide_and]
 rfl
theorem N9v:N1r kS:=fun a b=>by
 obtain ⟨c,d,e⟩:=a;obtain ⟨b1,b2,b3⟩:=b
 simp only [kS,Wd,Uy,if_true,Nu,Bool.and_true,Prod.mk.injEq,Bool.decide_and]
 rfl
theorem N9w {k:Int×Int}:Ui (.ints [.i64,.i64]) (kM k)=true:=by simp [kM,Ui,SH]
theorem N9u {k:Int×Int×Int}:Ui (.ints [.i64,.i64,.u8]) (kS k)=true:=by simp [kS,Ui,SH]
theorem Nz1 (k:Int×Int):∀l,WQ k l=Nbl k l
 | []=>rfl
 | (k',v)::l=>by unfold WQ Nbl;rw [Nz1 k l]
theorem Na6 (k:Int×Int) (m:Mk):∀l,Xj k m l=Wv k m l
 | []=>rfl
 | (k',v)::l=>by unfold Xj Wv;rw [Na6 k m l]
theorem Nlo {α β:Type} {f:α->Option β} {g:α->β}:∀{l:List α},(∀x∈l,f x=some (g x))->YA f l=some (l.map g)
 | [],_=>rfl
 | x::l,h=>by
   unfold YA
   rw [h x (by simp),Nlo (l:=l) fun y a=>h y (by simp [a])]
   rfl
theorem Ntp {H:NE} {I R lim:Nat} {es:List (Value×Value)} {seen:List Nat} {Q:Value->NE->Prop} (hi:NH H I=.iter (some R) es.length seen) (hl:lim<=I) (hm:NH H R=.map es) (hk:∀e∈es,VL e.1=true)
  (f:Ta es.length seen=[]->Q (.tuple #[.bool false]) H)
  (h1:∀j e,j∈Ta es.length seen->es[j]? = some e->Q (.tuple #[.bool true,e.1,e.2]) (H.set I (.iter (some R) es.length (seen++[j])))) :
  nxK false (ZL lim (Vp I) H) Q:=by
 have hn:ZL lim (Vp I) H=match Ta es.length seen with
   | []=>some [(.tuple #[.bool false],H)]
   | j::l=>YA (fun j=>match es[j]? with
     | some e=>if VL e.1 then some (.tuple #[.bool true,e.1,e.2],H.set I (.iter (some R) es.length (seen++[j]))) else none
     | none=>none) (j::l):=by
  unfold ZL
  simp only [hi,hl,if_true,TU,hm]
  cases Ta es.length seen<;>rfl
 rw [hn]
 have d:∀j∈Ta es.length seen,j<es.length:=fun j b=>by
  unfold Ta at b
  exact List.mem_range.mp (O5.mp b).1
 split
 ·rename_i e
  exact ⟨fun h=>(by cases h),fun r hr=>by
   rw [Nk] at hr;subst hr;exact f e⟩
 ·rename_i j l e
  rw [<-e]
  rw [Nlo (g:=fun j=>(.tuple #[.bool true,(es.getD j (undef,undef)).1,(es.getD j (undef,undef)).2],H.set I (.iter (some R) es.length (seen++[j])))) fun j b=>by
   have a:=d j b
   have e1:es[j]? = some es[j]:=Nf a
   have e2:es.getD j (undef,undef)=es[j]:=by rw [Na,e1];rfl
   rw [e1,e2]
   simp only [hk _ (Qj a),if_true]]
  refine ⟨fun h=>(by cases h),fun r hr=>?_⟩
  obtain ⟨c,b,rfl⟩:=List.mem_map.mp hr
  have a:=d c b
  have e1:es[c]? = some es[c]:=Nf a
  have e2:es.getD c (undef,undef)=es[c]:=by rw [Na,e1];rfl
  have:=h1 c _ b e1
  simp only [e2]
  exact this
theorem Npv {H:NE} {I R:Nat} {es:List (Value×Value)} {seen:List Nat} {j:Nat} {e:Value×Value} (hi:NH H I=.iter (some R) es.length (seen++[j])) (hm:NH H R=.map es) (he:es[j]? = some e) (hk:VL e.1=true) :
  YT (Vp I) H=some (.tuple #[e.1,e.2],H):=by
 unfold YT
 simp only [hi,TU,hm,List.getLast?_concat,he,hk,if_true]
theorem Nn1 {H:NE} {R:Nat} {es:List (Value×Value)} (hm:NH H R=.map es):Um (.map (some R)) H=some (Vp H.length,H++[.iter (some R) es.length []]):=by
 unfold Um
 simp only [TU,hm]
structure MetOk (n:Nat) (seen:List Nat):Prop where
 nd:seen.Nodup
 lt:∀j∈seen,j<n
theorem MetOk.add {n:Nat} {seen:List Nat} (h:MetOk n seen) {j:Nat} (e:j∈Ta n seen):MetOk n (seen++[j]):=by
 unfold Ta at e
 obtain ⟨h1,h2⟩:=O5.mp e
 have hn:j∉seen:=by simpa using h2
 refine ⟨Qe.mpr ⟨h.nd,List.pairwise_singleton _ _,fun a f b d c=>?_⟩,fun k hk=>?_⟩
 ·rw [Nk] at d;subst d;subst c;exact hn f
 ·rcases Oh.mp hk with hk | hk
  ·exact h.lt k hk
  ·rw [Nk] at hk;subst hk;exact List.mem_range.mp h1
theorem MetOk.len {n:Nat} {seen:List Nat} (h:MetOk n seen):seen.length<=n:=by
 have:=h.nd.length_le_of_subset (l₂:=List.range n) fun j a=>List.mem_range.mpr (h.lt j a)
 simpa using this
theorem MetOk.perm {n:Nat} {seen:List Nat} (h:MetOk n seen) (b:Ta n seen=[]):seen.Perm (List.range n):=by
 refine (List.perm_ext_iff_of_nodup h.nd List.nodup_range).mpr fun j=>⟨fun a=>List.mem_range.mpr (h.lt j a),fun a=>?_⟩
 unfold Ta at b
 rw [List.filter_eq_nil_iff] at b
 simpa using b j a
def No0 {κ ν:Type} [Inhabited ν] (es:List (κ×ν)) (seen:List Nat):List ν:=seen.map fun j=>gt (es.map (·.2)) j
theorem Nyn {κ ν:Type} [Inhabited ν] {es:List (κ×ν)} {seen:List Nat} (h:MetOk es.length seen) (a:Ta es.length seen=[]):(No0 es seen).Perm (es.map (·.2)):=by
 have e:(List.range es.length).map (fun j=>gt (es.map (·.2)) j)=es.map (·.2):=by
  refine Pj (by simp) fun i h1 h2=>?_
  rw [P8,List.getElem_range,QH h2]
 have hp:(seen.map fun j=>gt (es.map (·.2)) j).Perm ((List.range es.length).map fun j=>gt (es.map (·.2)) j):=(h.perm a).map _
 rw [e] at hp
 exact hp
def encE (e:Ev):List Value:=[Vi e.item,Vi e.place,Vi e.scanner,.int .u8 e.kind,Vi e.at',Vi e.seen,Vi e.time]
def QJ (e:Ev):List Value:=[Vi e.item,Vi e.place,Vi e.scanner,.int .u8 e.kind,Vi e.at',Vi e.seen]
def QR (m:Mk):List Value:=[Vi m.scanner,Vi m.at',Vi m.off]
theorem OA (e:Ev):(encE e).length=7:=id rfl
theorem OT (e:Ev):(QJ e).length=6:=id rfl
theorem QG (e:Mk):(QR e).length=3:=id rfl
theorem QT {e:Ev}:(encE e)[0]? = some (Vi e.item):=id rfl
theorem Rq {e:Ev}:(encE e)[1]? = some (Vi e.place):=id rfl
theorem Rp {e:Ev}:(encE e)[2]? = some (Vi e.scanner):=id rfl
theorem Ro {e:Ev}:(encE e)[3]? = some (.int .u8 e.kind):=id rfl
theorem QZ {e:Ev}:(encE e)[4]? = some (Vi e.at'):=id rfl
theorem QY {e:Ev}:(encE e)[5]? = some (Vi e.seen):=id rfl
theorem QS {e:Ev}:(encE e)[6]? = some (Vi e.time):=id rfl
theorem UZ {e:Ev}:(QJ e)[0]? = some (Vi e.item):=id rfl
theorem UY {e:Ev}:(QJ e)[1]? = some (Vi e.place):=id rfl
theorem UX {e:Ev}:(QJ e)[2]? = some (Vi e.scanner):=id rfl
theorem UW {e:Ev}:(QJ e)[3]? = some (.int .u8 e.kind):=id rfl
theorem UV {e:Ev}:(QJ e)[4]? = some (Vi e.at'):=id rfl
theorem UU {e:Ev}:(QJ e)[5]? = some (Vi e.seen):=id rfl
theorem XQ {m:Mk}:(QR m)[0]? = some (Vi m.scanner):=id rfl
theorem YN {m:Mk}:(QR m)[1]? = some (Vi m.at'):=id rfl
theorem YM {m:Mk}:(QR m)[2]? = some (Vi m.off):=id rfl
theorem Va {e:Ev}:(encE e).take 6=QJ e:=id rfl
theorem XL [OB] {mp:Bool} {lim:Nat} {a:Int} {H:NE} {Q:Value->NE->Prop}:NL E mp lim 120 [Vi a] H Q=Q (.bool (decide (1<=a/\a<=999999))) H:=by
 refine pc (by decide) Odj rfl rfl ?_
 rw [Oep,N74]
 by_cases h1:1<=a
 ·simp only [n120,N86,N5 h1,SB,seval,NC,NJ,NF,NP,reduceCtorEq,NB,place,NA,ND]
 ·simp only [n120,N86,Ns h1,SB,seval,NC,NJ,NF,NP,reduceCtorEq,NB,place,NA,ND]
theorem UR [OB] {mp:Bool} {lim:Nat} {a:Int} {H:NE} {Q:Value->NE->Prop}:NL E mp lim 121 [Vi a] H Q=Q (.bool (decide (0<=a/\a<=VZ))) H:=by
 refine pc (by decide) Odi rfl rfl ?_
 rw [Oeo,N73]
 unfold VZ
 by_cases h1:0<=a
 ·simp only [n121,N85,N5 h1,SB,seval,NC,NJ,NF,NP,reduceCtorEq,NB,place,NA,ND]
 ·simp only [n121,N85,Ns h1,SB,seval,NC,NJ,NF,NP,reduceCtorEq,NB,place,NA,ND]
theorem Zd [OB] {mp:Bool} {lim:Nat} {e:Ev} {H:NE} {Q:Value->NE->Prop}:NL E mp lim 92 [.agg (QJ e).toArray] H Q=Q (.bool (decide (Sm e))) H:=by
 refine pc (by decide) e92 rfl rfl ?_
 rw [b92,c92]
 have no:¬Sm e->decide (Sm e)=false:=fun h=>N7 h
 by_cases h1:1<=e.item/\e.item<=999999
 case neg=>simp only [n92,r92,QJ,XL,UR,N7 h1,no (fun h=>h1 h.1),SB,seval,NC,NJ,NF,NP,reduceCtorEq,NB,place,NA,ND]
 by_cases h2:1<=e.place/\e.place<=999999
 case neg=>simp only [n92,r92,QJ,XL,UR,Nq h1,N7 h2,no (fun h=>h2 h.2.1),SB,seval,NC,NJ,NF,NP,reduceCtorEq,NB,place,NA,ND]
 by_cases a:1<=e.scanner/\e.scanner<=999999
 case neg=>simp only [n92,r92,QJ,XL,UR,Nq h1,Nq h2,N7 a,no (fun h=>a h.2.2.1),SB,seval,NC,NJ,NF,NP,reduceCtorEq,NB,place,NA,ND]
 by_cases b:1<=e.kind
 case neg=>simp only [n92,r92,QJ,XL,UR,Nq h1,Nq h2,Nq a,Ns b,no (fun h=>b h.2.2.2.1.1),SB,seval,NC,NJ,NF,NP,reduceCtorEq,NB,place,NA,ND]
 by_cases c:e.kind<=4
 case neg=>simp only [n92,r92,QJ,XL,UR,Nq h1,Nq h2,Nq a,N5 b,Ns c,no (fun h=>c h.2.2.2.1.2),SB,seval,NC,NJ,NF,NP,reduceCtorEq,NB,place,NA,ND]
 by_cases d:0<=e.at'/\e.at'<=VZ
 case neg=>simp only [n92,r92,QJ,XL,UR,Nq h1,Nq h2,Nq a,N5 b,N5 c,N7 d,no (fun h=>d h.2.2.2.2.1),SB,seval,NC,NJ,NF,NP,reduceCtorEq,NB,place,NA,ND]
 have f:decide (Sm e)=decide (0<=e.seen/\e.seen<=VZ):=by
  rw [decide_eq_decide]
  exact ⟨fun h=>h.2.2.2.2.2,fun h=>⟨h1,h2,a,⟨b,c⟩,d,h⟩⟩
 simp only [n92,r92,QJ,XL,UR,Nq h1,Nq h2,Nq a,N5 b,N5 c,Nq d,f,SB,seval,NC,NJ,NF,NP,reduceCtorEq,NB,place,NA,ND]
end Go.Proofs.YtkppjkkkdpcgiaaGreat.Fn


namespace Go.Proofs.YtkppjkkkdpcgiaaGreat.Fn
open Go.AM Go.AM.Sym Go.Net Go.Scan
theorem Ndr [OB] {mp:Bool} {lim B:Nat} {e:Ev} {o:Bool} {H:NE} {Q:Value->NE->Prop} (hB:NH H B=.cells o (QJ e)):NL E mp lim 55 [.slice (Sa B) 1 1] H Q=Q (.bool (decide (Sm e))) H:=by
 refine pc (by decide) e55 rfl rfl ?_
 rw [b55,c55]
 have a:=fun X=>(OI.refl.app (X:=X)).cells hB
 have i0:∀k (H1:NE),Z0 6 (.slice (Sa B) 1 1) (.int k 0) H1=some (Vp B,H1):=fun k H1=>by simp [Z0,addr_add]
 have b:IntKind.i64.wrap (0+1)=1:=by decide
 simp only [n55,r55,SB,Nat.reduceLT,NC,NJ,Nat.reduceEqDiff,NF,NP,reduceCtorEq,NB,place,NA,Nat.reduceAdd,Nat.reduceLeDiff,ND,Int.reduceEq,Int.reduceLT,Int.reduceLE]
 rw [Xy,NT Nrn.eq_1]
 cases h:decide (Sm e) with
 | false=>simp only [n55,r55,a,i0,OT,NI,NG,Zd,h,SB,Nat.reduceLT,NC,NJ,Nat.reduceEqDiff,NF,NP,reduceCtorEq,NB,place,NA,Nat.reduceAdd,Nat.reduceLeDiff,ND,Int.reduceEq,Int.reduceLT,Int.reduceLE]
 | true=>
   simp only [n55,r55,a,i0,OT,NI,NG,Zd,h,b,SB,Nat.reduceLT,NC,NJ,Nat.reduceEqDiff,NF,NP,reduceCtorEq,NB,place,NA,Nat.reduceAdd,Nat.reduceLeDiff,ND,Int.reduceEq,Int.reduceLT,Int.reduceLE]
   rw [Ub,NT Nrn.eq_1]
   simp only [n55,r55,SB,Nat.reduceLT,NC,NJ,Nat.reduceEqDiff,NF,NP,reduceCtorEq,NB,place,NA,Nat.reduceAdd,Nat.reduceLeDiff,ND,Int.reduceEq,Int.reduceLT,Int.reduceLE]
def Nz8 (es:List Ev) (i:Nat):Prop:=Sm (gt es i)/\0<=(gt es i).time/\(gt es i).time<=OC/\(0<i->(gt es i).item=(gt es 0).item/\(gt es (i-1)).time<=(gt es i).time)
instance (es:List Ev) (i:Nat):Decidable (Nz8 es i):=by unfold Nz8;infer_instance
def Nf4 (es:List Ev):Prop:=∀i,i<es.length->Nz8 es i
instance (es:List Ev):Decidable (Nf4 es):=by unfold Nf4;infer_instance
def Yi (P:List Int) (L:List Leg) (es:List Ev):Int:=if Rz P L≠0 then Rz P L else if 40<es.length then 5 else if Nf4 es then 0 else 2
theorem N64 {P:List Int} {L:List Leg} {es:List Ev} (h:Yi P L es=0):Rz P L=0/\es.length<=40/\Nf4 es:=by
 unfold Yi at h
 split at h
 ·contradiction
 ·split at h
  ·cases h
  ·split at h
   ·rename_i h1 h2 a
    exact ⟨by simpa using h1,by omega,a⟩
   ·cases h
theorem N0x [OB] {mp:Bool} {lim ce:Nat} {pp pl pe:Option Addr} {P:List Int} {L:List Leg} {cp cl:Nat} {es:List Ev} {H:NE} {Q:Value->NE->Prop} (hn:NetIn H pp pl P L) (hs:Sl H encE 7 pe es) (J:es.length<2 ^ 63) :
  NL E mp lim 69 [.agg (SC pp P.length cp pl L.length cl).toArray,.slice pe es.length ce] H Q=Q (Vi (Yi P L es)) H:=by
 refine pc (by decide) e69 rfl rfl ?_
 rw [b69,c69]
 have hv:=fun X (mp:Bool) (lim:Nat) (Q:Value->NE->Prop)=>Ndh (mp:=mp) (lim:=lim) (cp:=cp) (cl:=cl) (Q:=Q) (hn.app X)
 by_cases r:Rz P L=0
 case neg=>
  have e:Yi P L es=Rz P L:=by unfold Yi;rw [Ni r]
  simp only [n69,r69,OQ,Sg,Sd,NI,hv,Ns r,e,SB,seval,NC,NJ,NF,NP,reduceCtorEq,NB,place,NA,ND]
 by_cases u:(40:Int)<(es.length:Int)
 ·have e:Yi P L es=5:=by unfold Yi;rw [Nh (by simpa using r),Ni (by omega)]
  simp only [n69,r69,OQ,Sg,Sd,NI,hv,N5 r,N5 u,e,SB,seval,NC,NJ,NF,NP,reduceCtorEq,NB,place,NA,ND]
 have e2:Yi P L es=if Nf4 es then 0 else 2:=by unfold Yi;rw [Nh (by simpa using r),Nh (by omega)]
 simp only [n69,r69,OQ,Sg,Sd,NI,hv,N5 r,Ns u,SB,seval,NC,NJ,NF,NP,reduceCtorEq,NB,place,NA,ND]
 refine NR (fun i=>es.length-i) (fun i fr G=>i<=es.length/\fr 1=.slice pe es.length ce/\fr 16=.slice pe es.length ce/\fr 17=Vi es.length/\fr 18=Vi i/\OI H G/\∀j,j<i->Nz8 es j) 0
  ⟨Nx _,rfl,rfl,rfl,by rfl,OI.refl.app,fun j A=>by omega⟩ ?_
 intro i fr G ⟨hi,f1,b,d,f,w,n⟩ hN
 rw [NT N5e.eq_1]
 refine NK ?_
 have hl:=w.len
 by_cases a:i<es.length
 case neg=>
  obtain rfl:i=es.length:=by omega
  rw [Ni (show Nf4 es from n)] at e2
  simp only [n69,r69,f1,b,d,f,a,e2,SB,seval,NC,NJ,NF,NP,reduceCtorEq,NB,place,NA,ND]
 have l:=w.sl hs
 have q:=fun X=>(l.app X).loadCells OA a
 have p:=fun c (kk:IntKind) (H1:NE)=>l.idx (c:=c) (k:=kk) (H1:=H1) a
 have s:=fun X=>(l.app X).loadCell OA (i:=0) (j:=0) (by omega) (by decide)
 rw [QT] at s
 replace s:∀X,AM.loadCell (G++X) (((Zt pe 7 0).add 0).add 0)=some (Vi (gt es 0).item):=s
 have i0:=fun c (kk:IntKind) (H1:NE)=>l.idx (c:=c) (k:=kk) (H1:=H1) (i:=0) (by omega)
 simp only [Qp] at i0
 have x:IntKind.i64.wrap ((i:Int)+1)=((i+1:Nat):Int):=OG (by omega)
 have m:¬Nz8 es i->Yi P L es=2:=fun h=>by rw [e2,Nh fun I=>h (I i a)]
 have K:=fun (G:NE) (B:Nat) (o:Bool) (h:NH G B=.cells o (QJ (gt es i))) (mp:Bool) (lim:Nat) (Q:Value->NE->Prop)=>Ndr (mp:=mp) (lim:=lim) (Q:=Q) h
 have g:∀(X:NE) (mp:Bool) (lim:Nat) (Q:Value->NE->Prop),NL E mp lim 55 [.slice (Sa (G.length+1)) 1 1] (G++Vc (encE (gt es i))::Vc (QJ (gt es i))::X) Q=Q (.bool (decide (Sm (gt es i)))) (G++Vc (encE (gt es i))::Vc (QJ (gt es i))::X):=fun X mp lim Q=>Ndr (o:=false) (by rw [NW];rfl)
 by_cases h1:Sm (gt es i)
 case neg=>
  simp only [n69,r69,f1,b,d,f,a,q,p,OA,QT,Rq,Rp,Ro,QZ,QY,QS,NI,NG,hl,Va,OT,g,N7 h1,SB,seval,NC,NJ,NF,NP,reduceCtorEq,NB,place,NA,ND]
  rw [m fun h=>h1 h.1]
 by_cases h2:(gt es i).time<0
 ·simp only [n69,r69,f1,b,d,f,a,q,p,OA,QT,Rq,Rp,Ro,QZ,QY,QS,NI,NG,hl,Va,OT,g,Nq h1,N5 h2,SB,seval,NC,NJ,NF,NP,reduceCtorEq,NB,place,NA,ND]
  rw [m fun h=>by have:=h.2.1;omega]
 by_cases t:1051898399<(gt es i).time
 ·simp only [n69,r69,f1,b,d,f,a,q,p,OA,QT,Rq,Rp,Ro,QZ,QY,QS,NI,NG,hl,Va,OT,g,Nq h1,Ns h2,N5 t,SB,seval,NC,NJ,NF,NP,reduceCtorEq,NB,place,NA,ND]
  rw [m fun h=>by have:=h.2.2.1;unfold OC at this;omega]
 by_cases N:0<i
 case neg=>
  obtain rfl:i=0:=by omega
  have M:IntKind.i64.wrap (0+1)=1:=by decide
  simp only [n69,r69,f1,b,d,f,a,q,p,OA,QT,Rq,Rp,Ro,QZ,QY,QS,NI,NG,hl,Va,OT,g,Nq h1,Ns h2,Ns t,i0,M,SB,seval,NC,NJ,NF,NP,reduceCtorEq,NB,place,NA,ND]
  exact hN 1 _ _ ⟨by omega,f1,b,d,by rfl,w.app,fun j A=>by
   obtain rfl:j=0:=by omega
   exact ⟨h1,by omega,by unfold OC;omega,fun h=>by omega⟩⟩ (by omega)
 obtain ⟨k,rfl⟩:∃k,i=k+1:=⟨i-1,by omega⟩
 have y:=fun X=>(l.app X).loadCell OA (i:=k) (j:=6) (by omega) (by decide)
 rw [QS] at y
 have C:=fun c (kk:IntKind) (H1:NE)=>l.idx (c:=c) (k:=kk) (H1:=H1) (i:=k) (by omega)
 have D:IntKind.i64.wrap (((k+1:Nat):Int)-1)=(k:Int):=by rw [NU (by omega) (by omega)];omega
 have kp:=N5 (show 0<k+1 by omega)
 by_cases v:(gt es (k+1)).item=(gt es 0).item
 case neg=>
  simp only [n69,r69,f1,b,d,f,a,q,p,OA,QT,Rq,Rp,Ro,QZ,QY,QS,NI,NG,hl,Va,OT,g,Nq h1,Ns h2,Ns t,s,i0,kp,Ns v,SB,seval,NC,NJ,NF,NP,reduceCtorEq,NB,place,NA,ND]
  rw [m fun h=>v (h.2.2.2 (by omega)).1]
 by_cases z:(gt es (k+1)).time<(gt es k).time
 ·simp only [n69,r69,f1,b,d,f,a,q,p,OA,QT,Rq,Rp,Ro,QZ,QY,QS,NI,NG,hl,Va,OT,g,Nq h1,Ns h2,Ns t,s,i0,kp,N5 v,y,C,D,N5 z,SB,seval,NC,NJ,NF,NP,reduceCtorEq,NB,place,NA,ND]
  rw [m fun h=>by have F:=(h.2.2.2 (by omega)).2;rw [Pw] at F;omega]
 simp only [n69,r69,f1,b,d,f,a,q,p,OA,QT,Rq,Rp,Ro,QZ,QY,QS,NI,NG,hl,Va,OT,g,Nq h1,Ns h2,Ns t,s,i0,kp,N5 v,y,C,D,Ns z,x,SB,seval,NC,NJ,NF,NP,reduceCtorEq,NB,place,NA,ND]
 exact hN (k+2) _ _ ⟨by omega,f1,b,d,rfl,w.app,fun j A=>by
  rcases On j (k+1) with h | h
  ·exact n j h
  ·obtain rfl:j=k+1:=by omega
   exact ⟨h1,by omega,by unfold OC;omega,fun _=>⟨v,by rw [Pw];omega⟩⟩⟩ (by omega)
def Nlq:Nat:=5000000
theorem Nyr:Nlq=5000000:=rfl
attribute [irreducible] Nlq
def Nfo (P:List Int) (L:List Leg) (p t q:Int):Int:=(RN 50 (OO P) (t+86400) L p t Nlq).getD (OO P q) (-1)
theorem Ndb {P:List Int} {L:List Leg} {p t q:Int} (hn:NetOk 50 P L (OO P)) (hp:p∈P) (d:q∈P) (a:0<=t):TK L p t q (Nfo P L p t q):=by
 obtain ⟨n,h1,h2,_⟩:=Nmy (lim:=t+86400) hn hp a (by omega)
 have b:=Nfq hn hp a (by omega:t<=t+86400) h2 q d
 obtain ⟨j,c⟩:∃j,Nlq=n+j:=⟨Nlq-n,by rw [Nyr];omega⟩
 unfold Nfo
 rw [c,Nfp h2 j]
 exact b
def R4 (P:List Int) (L:List Leg) (a b:Ev):Int:=
 if a.kind=4 then 80 else if a.place=b.place then 0 else if b.place∉P then 80 else if Vv P L a.place a.place a.time≠0 then 80 else
 if Nfo P L a.place a.time b.place<0 then 80 else min (max (Nfo P L a.place a.time b.place-b.time) 0) 60
theorem VJ {P:List Int} {L:List Leg} {a b:Ev}:0<=R4 P L a b/\R4 P L a b<=80:=by
 unfold R4
 repeat' split
 all_goals omega
theorem ZX {α:Type} {G G':NE} {enc:α->List Value} {e:Nat} {p:Option Addr} {l:List α} (h:Sl G enc e p l) (hk:∀a,p=some a->l≠[]->∀ro c,NH G a.block=.cells ro c->NH G' a.block=.cells ro c):Sl G' enc e p l:=by
 cases p with
 | none=>exact h
 | some a=>
   refine ⟨h.1,fun hn=>?_⟩
   obtain ⟨ro,c,h2,b⟩:=h.2 hn
   exact ⟨ro,c,hk a rfl hn _ _ h2,b⟩
def Off {α:Type} (S:List Nat) (p:Option Addr) (l:List α):Prop:=∀a,p=some a->l≠[]->a.block∉S
theorem Off.grow {α:Type} {S:List Nat} {p:Option Addr} {l:List α} {G:NE} {enc:α->List Value} {e b:Nat} (h:Off S p l) (hs:Sl G enc e p l) (g:G.length<=b):Off (b::S) p l:=fun a d hn hm=>by
 subst d
 obtain ⟨ro,c,h2,f⟩:=hs.2 hn
 have:=NM h2
 rcases Np.1 hm with h1 | h1
 ·omega
 ·exact h a rfl hn h1
def WW (S:List Nat) (G:NE) (P:List Int) (L:List Leg) (a t:Int) (v:Value):Prop:=
 (Vv P L a a t≠0/\v=Vz)\/(Vv P L a a t=0/\∃q T,v=.slice q P.length (loose 1)/\Sl G encI 1 q T/\N8i P L a t T/\Off S q T)
theorem WW.keep {S:List Nat} {G G':NE} {P:List Int} {L:List Leg} {a t:Int} {v:Value} (h:WW S G P L a t v) (hk:∀b ro c,b∉S->NH G b=.cells ro c->NH G' b=.cells ro c):WW S G' P L a t v:=by
 rcases h with h | ⟨h,q,T,h1,h2,e,d⟩
 ·exact .inl h
 ·exact .inr ⟨h,q,T,h1,ZX h2 fun a f hn ro c=>hk _ _ _ (d a f hn),e,d⟩
def MO (ms:List (Int×Int×Value)):List (Value×Value):=ms.map fun x=>(.agg #[Vi x.1,Vi x.2.1],x.2.2)
structure PI (lim R M:Nat) (S:List Nat) (G:NE) (pp pl:Option Addr) (cp cl:Nat) (P:List Int) (L:List Leg):Prop where
 net:NetIn G pp pl P L
 op:Off S pp P
 ol:Off S pl L
 r:NH G R=Vc [.slice pp P.length cp,.slice pl L.length cl,.map (some M)]
 oR:R∉S
 oM:M∉S
 m:∃ms,NH G M=.map (MO ms)/\∀x∈ms,WW S G P L x.1 x.2.1 x.2.2
 lM:lim<=M
 sl:∀j∈S,j<G.length
section
variable {lim R M:Nat} {S:List Nat} {G G':NE} {pp pl:Option Addr} {cp cl:Nat} {P:List Int} {L:List Leg}
theorem PI.alive (h:PI lim R M S G pp pl cp cl P L):M<G.length:=by
 obtain ⟨ms,h1,_⟩:=h.m
 exact PR h1
theorem NetIn.sim {H:NE} (h:NetIn H pp pl P L) (hk:∀b ro c,NH H b=.cells ro c->NH G b=.cells ro c):NetIn G pp pl P L:=⟨h.sp.sim hk,h.sl.sim hk,h.np,h.nl,h.bys⟩
theorem PI.keep (h:PI lim R M S G pp pl cp cl P L) (hk:∀b ro c,b∉S->NH G b=.cells ro c->NH G' b=.cells ro c) (e:NH G' M=NH G M) (hl:G.length<=G'.length):PI lim R M S G' pp pl cp cl P L:=by
 obtain ⟨ms,h1,h2⟩:=h.m
 exact ⟨⟨ZX h.net.sp fun a d hn ro c=>hk _ _ _ (h.op a d hn),ZX h.net.sl fun a d hn ro c=>hk _ _ _ (h.ol a d hn),h.net.np,h.net.nl,h.net.bys⟩,h.op,h.ol,hk _ _ _ h.oR h.r,h.oR,h.oM,⟨ms,e.trans h1,fun x g=>(h2 x g).keep hk⟩,h.lM,fun j f=>by have:=h.sl j f;omega⟩
theorem PI.chg (h:PI lim R M S G pp pl cp cl P L) (hc:Chg S G G'):PI lim R M S G' pp pl cp cl P L:=
 h.keep (fun b ro c a d=>hc.cells d a) (hc.other _ h.alive h.oM) hc.len
theorem PI.app (h:PI lim R M S G pp pl cp cl P L) (X:NE):PI lim R M S (G++X) pp pl cp cl P L:=h.chg Chg.refl.app
theorem PI.chgk (h:PI lim R M S G pp pl cp cl P L) (hc:Chg [M] G G'):∀b ro c,NH G b=.cells ro c->NH G' b=.cells ro c:=fun b ro c a=>hc.cells a fun hm=>by
 obtain ⟨ms,h1,_⟩:=h.m
 rw [Nk.1 hm,h1] at a
 cases a
theorem WW.grow {b:Nat} {a t:Int} {v:Value} (h:WW S G P L a t v) (e:G.length<=b):WW (b::S) G P L a t v:=by
 rcases h with h | ⟨h,q,T,h1,h2,c,d⟩
 ·exact .inl h
 ·exact .inr ⟨h,q,T,h1,h2,c,d.grow h2 e⟩
theorem PI.growC {b:Nat} (h:PI lim R M S G pp pl cp cl P L) (hc:Chg S G G') (d:G.length<=b) (l:b<G'.length):PI lim R M (b::S) G' pp pl cp cl P L:=by
 have h':=h.chg hc
 obtain ⟨ms,h1,h2⟩:=h.m
 have s:=NM h.r
 have g:=h.alive
 refine ⟨h'.net,h.op.grow h.net.sp d,h.ol.grow h.net.sl d,h'.r, ?_, ?_,⟨ms,(hc.other _ g h.oM).trans h1,fun x p=>?_⟩,h.lM, ?_⟩
 ·intro hm
  rcases Np.1 hm with e | e
  ·omega
  ·exact h.oR e
 ·intro hm
  rcases Np.1 hm with e | e
  ·omega
  ·exact h.oM e
 ·rcases (h2 x p).grow d with k | ⟨k,q,T,k1,k2,k3,f⟩
  ·exact .inl k
  ·exact .inr ⟨k,q,T,k1,ZX k2 fun a i hn ro c n=>hc.cells n fun hm=>f a i hn (Nj _ hm),k3,f⟩
 ·intro j o
  rcases Np.1 o with e | e
  ·omega
  ·have:=h.sl j e;have:=hc.len;omega
theorem PI.grow {b:Nat} (h:PI lim R M S G pp pl cp cl P L) (X:NE) (c:G.length<=b) (a:b<G.length+X.length):PI lim R M (b::S) (G++X) pp pl cp cl P L:=
 h.growC Chg.refl.app c (by simpa using a)
theorem PI.sub {S':List Nat} (h:PI lim R M S G pp pl cp cl P L) (hS:∀j∈S',j∈S):PI lim R M S' G pp pl cp cl P L:=by
 obtain ⟨ms,h1,h2⟩:=h.m
 refine ⟨h.net,fun a b hn hm=>h.op a b hn (hS _ hm),fun a b hn hm=>h.ol a b hn (hS _ hm),h.r,fun hm=>h.oR (hS _ hm),fun hm=>h.oM (hS _ hm),⟨ms,h1,fun x d=>?_⟩,h.lM,fun j c=>h.sl j (hS _ c)⟩
 rcases h2 x d with k | ⟨k,q,T,k1,k2,k3,e⟩
 ·exact .inl k
 ·exact .inr ⟨k,q,T,k1,k2,k3,fun a b hn hm=>e a b hn (hS _ hm)⟩
end
theorem Ng5 {a t:Int}:∀(ms:List (Int×Int×Value)) (i:Nat),(findKey (.agg #[Vi a,Vi t]) (MO ms) i=some none)\/∃j v,(a,t,v)∈ms/\findKey (.agg #[Vi a,Vi t]) (MO ms) i=some (some (j,v))
 | [],i=>.inl rfl
 | (c,d,v)::ms,i=>by
   have e:MO ((c,d,v)::ms)=(.agg #[Vi c,Vi d],v)::MO ms:=rfl
   rw [e,Njd]
   by_cases h:a=c/\t=d
   ·rw [Ni h]
    obtain ⟨rfl,rfl⟩:=h
    exact .inr ⟨i,v,No ..,rfl⟩
   ·rw [Nh h]
    rcases Ng5 ms (i+1) with h1 | ⟨j,w,h1,h2⟩
    ·exact .inl h1
    ·exact .inr ⟨j,w,Nj _ h1,h2⟩
theorem Noa [OB] {lim R M:Nat} {S:List Nat} {pp pl:Option Addr} {P:List Int} {L:List Leg} {cp cl:Nat} {a t:Int} {G:NE} {Q:Value->NE->Prop} (h:PI lim R M S G pp pl cp cl P L) (l:lim<=G.length)
  (z:∀G' v,Chg [M] G G'->PI lim R M S G' pp pl cp cl P L->WW S G' P L a t v->Q v G') :
  NL E false lim 137 [Vp R,Vi a,Vi t] G Q:=by
 refine R5 (by decide) Oc6 rfl ?_
 rw [Oec,N7u]
 obtain ⟨ms,hm,w⟩:=h.m
 have k:=h.alive
 have H:=fun X=>(OI.refl.app (X:=X)).cells h.r
 have F:∀X,NH (G++X) M=.map (MO ms):=fun X=>by rw [NN k];exact hm
 have e:Ui (.ints [.i64,.i64]) (.agg #[Vi a,Vi t])=true:=rfl
 rcases Ng5 (a:=a) (t:=t) ms 0 with u | ⟨j,v,hv,u⟩
 case inr=>
  simp only [n137,N2b,H,F,u,e,l,NG,SB,seval,NC,NJ,NF,NP,reduceCtorEq,NB,place,NA,ND]
  exact z _ v (Chg.refl.app) (h.app _) ((w _ hv).keep fun b ro c _ i=>(OI.refl.app).cells i)
 have put:∀(G1:NE) (v:Value),Chg [] G G1->WW S G1 P L a t v->∃G2,(∀X:NE,(G1++X).set M (.map (MO ms++[(Value.agg #[Vi a,Vi t],v)]))=G2++X)/\∀X,Chg [M] G (G2++X)/\PI lim R M S (G2++X) pp pl cp cl P L/\WW S (G2++X) P L a t v:=by
  intro G1 v f hv
  have d:NH G1 M=.map (MO ms):=f.get hm k (by simp)
  obtain ⟨G2,e2,h2,C⟩:=OP (PR d) (.map (MO ms++[(Value.agg #[Vi a,Vi t],v)]))
  have n:∀b ro c,NH G1 b=.cells ro c->NH G2 b=.cells ro c:=fun b ro c i=>C.cells i (by rintro rfl;rw [d] at i;cases i)
  have hk:∀b ro c,NH G b=.cells ro c->NH G2 b=.cells ro c:=fun b ro c i=>n _ _ _ (f.cells i (by simp))
  have y:PI lim R M S G2 pp pl cp cl P L:=by
   refine ⟨h.net.sim hk,h.op,h.ol,hk _ _ _ h.r,h.oR,h.oM,⟨ms++[(a,t,v)],by rw [h2];simp [MO],fun x hx=>?_⟩,h.lM,fun j A=>by have:=h.sl j A;have:=f.len;have:=C.len;omega⟩
   rcases Oh.1 hx with hx | hx
   ·exact (w x hx).keep fun b ro c _=>hk b ro c
   ·rw [Nk] at hx;subst hx;exact hv.keep fun b ro c _=>n b ro c
  exact ⟨G2,e2,fun X=>⟨((f.mono (fun j _ A=>by simp at A)).mut C (.inl (by simp))).app,y.app X,(hv.keep fun b ro c _=>n b ro c).keep fun b ro c _ i=>(OI.refl.app).cells i⟩⟩
 simp only [n137,N2b,H,F,u,e,l,NG,SB,seval,NC,NJ,NF,NP,reduceCtorEq,NB,place,NA,ND]
 refine Nwl (P:=P) (L:=L) (cp:=cp) (cl:=cl) (h.net.app _) (by simp;omega) (fun G1 he g=>?_) (fun G1 q T he g I D J=>?_)
 ·have f:=g.pre
  obtain ⟨G2,e2,h2⟩:=put G1 Vz f (.inl ⟨he,rfl⟩)
  have o:=fun X=>(OI.refl.app (X:=X)).cells (g.cells NS (by simp))
  have s:=fun X=>(OI.refl.app (X:=X)).cells (f.cells h.r (by simp))
  have d:NH G1 M=.map (MO ms):=f.get hm k (by simp)
  have p:∀X,NH (G1++X) M=.map (MO ms):=fun X=>by rw [NN (PR d)];exact d
  refine NK ?_
  simp only [n137,N2b,Ns he,s,o,p,u,e,e2,h.lM,SB,seval,NC,NJ,NF,NP,reduceCtorEq,NB,place,NA,ND]
  obtain ⟨k1,k3,B⟩:=h2 []
  exact z _ _ k1 k3 B
 ·have f:=g.pre
  obtain ⟨G2,e2,h2⟩:=put G1 (.slice q P.length (loose 1)) f (.inr ⟨he,q,T,rfl,D.sl RP,I,fun a K _ hm=>by have h1:=(D.block K).1;have h2:=h.sl _ hm;simp at h1;omega⟩)
  have o:=fun X=>(OI.refl.app (X:=X)).cells (g.cells NS (by simp))
  have s:=fun X=>(OI.refl.app (X:=X)).cells (f.cells h.r (by simp))
  have d:NH G1 M=.map (MO ms):=f.get hm k (by simp)
  have p:∀X,NH (G1++X) M=.map (MO ms):=fun X=>by rw [NN (PR d)];exact d
  refine NK ?_
  simp only [n137,N2b,s,o,p,u,e,e2,h.lM,SB,seval,NC,NJ,NF,NP,reduceCtorEq,NB,place,NA,ND]
  obtain ⟨k1,k3,B⟩:=h2 []
  exact z _ _ k1 k3 B
theorem Nst [OB] {mp:Bool} {lim c:Nat} {p:Option Addr} {P:List Int} {a:Int} {H:NE} {Q:Value->NE->Prop} (hs:Sl H encI 1 p P) (hn:P.length<2 ^ 63) :
  NL E mp lim 136 [.slice p P.length c,Vi a] H Q=Q (Vi (Nd9 P a)) H:=by
 refine pc (by decide) Oc7 rfl rfl ?_
 rw [Oed,N7v]
 simp only [n136,N2c,SB,seval,NC,NJ,NF,NP,reduceCtorEq,NB,place,NA,ND]
 refine NR (fun j=>P.length-j) (fun j fr G=>j<=P.length/\fr 0=.slice p P.length c/\fr 1=Vi a/\fr 7=Vi P.length/\fr 8=Vi j/\OI H G/\∀i,i<j->gt P i≠a) 0 ⟨Nx _,rfl,rfl,rfl,by rfl,OI.refl.app,fun i hi=>by omega⟩ ?_
 intro j fr G ⟨n,f0,f1,f7,f8,l,d⟩ hN
 rw [NT Nzh.eq_1]
 refine NK ?_
 by_cases b:j<P.length
 case neg=>
  obtain rfl:j=P.length:=by omega
  simp only [n136,N2c,f0,f1,f7,f8,b,SB,seval,NC,NJ,NF,NP,reduceCtorEq,NB,place,NA,ND]
  rw [Nd9,Nh fun hm=>?_]
  obtain ⟨i,hi,he⟩:=List.mem_iff_getElem.1 hm
  exact d i hi (by rw [QH hi];exact he)
 have f:=fun X=>((l.sl hs).app X).loadCell0 RP b (by decide)
 simp only [encI,O1] at f
 have e:=fun c (k:IntKind) (H1:NE)=>(l.sl hs).idx (c:=c) (k:=k) (H1:=H1) b
 have g:IntKind.i64.wrap ((j:Int)+1)=((j+1:Nat):Int):=OG (by omega)
 by_cases he:a=gt P j
 ·simp only [n136,N2c,f0,f1,f7,f8,b,e,f,g,N5 he,SB,seval,NC,NJ,NF,NP,reduceCtorEq,NB,place,NA,ND]
  have hm:a∈P:=he▸Ru b
  rw [Nd9,Ni hm]
  congr 1
  have h1:OO P a<=j:=by
   unfold OO
   apply Og;intro hc
   have:=List.not_of_lt_findIdx (xs:=P) (p:=(· == a)) (i:=j) (by unfold List.idxOf at hc;omega)
   rw [QH b] at he
   simp [he] at this
  rcases On (OO P a) j with h3 | h3
  ·exfalso
   have hl:OO P a<P.length:=Pd hm
   have:=Q3 hl
   refine d _ h3 ?_
   rw [QH hl];exact this
  ·omega
 ·simp only [n136,N2c,f0,f1,f7,f8,b,e,f,g,Ns he,SB,seval,NC,NJ,NF,NP,reduceCtorEq,NB,place,NA,ND]
  exact hN (j+1) _ _ ⟨by omega,f0,f1,f7,rfl,l.app,fun i hi=>by
   rcases On i j with h | h
   ·exact d i h
   ·obtain rfl:i=j:=by omega
    exact fun m=>he m.symm⟩ (by omega)
theorem Nkt [OB] {lim R M:Nat} {S:List Nat} {pp pl:Option Addr} {P:List Int} {L:List Leg} {cp cl:Nat} {a b:Ev} {G:NE} {Q:Value->NE->Prop} (h:PI lim R M S G pp pl cp cl P L) (d:lim<=G.length) (D:0<=b.time/\b.time<=OC)
  (K:∀G',Chg [M] G G'->PI lim R M S G' pp pl cp cl P L->Q (Vi (R4 P L a b)) G') :
  NL E false lim 107 [Vp R,.agg (encE a).toArray,.agg (encE b).toArray] G Q:=by
 refine R5 (by decide) Odn rfl ?_
 rw [Oet,c107]
 have A:=fun X=>(OI.refl.app (X:=X)).cells h.r
 unfold OC at D
 have fin:∀(n:Int) (X:NE),R4 P L a b=n->Q (Vi n) (G++X):=fun n X e=>by
  rw [<-e];exact K _ (Chg.refl.app) (h.app _)
 by_cases h1:a.kind=4
 ·simp only [n107,Nn5,A,OA,QT,Rq,Rp,Ro,QZ,QY,QS,d,N5 h1,SB,seval,NC,NJ,NF,NP,reduceCtorEq,NB,place,NA,ND]
  exact fin _ _ (by unfold R4;rw [Ni h1])
 by_cases h2:a.place=b.place
 ·simp only [n107,Nn5,A,OA,QT,Rq,Rp,Ro,QZ,QY,QS,d,Ns h1,N5 h2,SB,seval,NC,NJ,NF,NP,reduceCtorEq,NB,place,NA,ND]
  exact fin _ _ (by unfold R4;rw [Nh h1,Ni h2])
 have m:=fun X (mp:Bool) (lim:Nat) (Q:Value->NE->Prop)=>Nst (mp:=mp) (lim:=lim) (c:=cp) (a:=b.place) (Q:=Q) ((h.net.sp).app X) h.net.np
 by_cases k:b.place∈P
 case neg=>
  have e:Nd9 P b.place=-1:=Nh k
  rw [e] at m
  simp only [n107,Nn5,A,OA,QT,Rq,Rp,Ro,QZ,QY,QS,d,Ns h1,Ns h2,m,SB,seval,NC,NJ,NF,NP,reduceCtorEq,NB,place,NA,ND]
  exact fin _ _ (by unfold R4;rw [Nh h1,Nh h2,Ni k])
 have e:Nd9 P b.place=(OO P b.place:Int):=Ni k
 have f:OO P b.place<P.length:=Pd k
 rw [e] at m
 have W:¬(OO P b.place:Int)<0:=by omega
 simp only [n107,Nn5,A,OA,QT,Rq,Rp,Ro,QZ,QY,QS,d,Ns h1,Ns h2,m,SB,seval,NC,NJ,NF,NP,reduceCtorEq,NB,place,NA,ND]
 refine Noa (h.app _) (by simp;omega) fun G1 v J C hv=>?_
 have hk:=(h.app [Vc (encE a),Vc (encE b)]).chgk J
 have O:∀b ro c,NH G b=.cells ro c->NH G1 b=.cells ro c:=fun b ro c D=>hk _ _ _ ((OI.refl.app).cells D)
 have B:=J.pre
 have p:=fun X=>(OI.refl.app (X:=X)).cells (hk _ _ _ (show NH (G++[Vc (encE a),Vc (encE b)]) (G.length+1)=Vc (encE b) by rw [NW];rfl))
 have g:∀(n:Int) (X:NE),R4 P L a b=n->Q (Vi n) (G1++X):=fun n X e=>by
  rw [<-e];exact K _ (B.app) (C.app _)
 rcases hv with ⟨he,rfl⟩ | ⟨he,q,T,rfl,hs,y,_⟩
 ·have H:=N5 (show (0:Int)<=(OO P b.place:Int) by omega)
  refine NK ?_
  simp only [n107,Nn5,OA,QT,Rq,Rp,Ro,QZ,QY,QS,p,H,SB,seval,NC,NJ,NF,NP,reduceCtorEq,NB,place,NA,ND]
  exact g _ _ (by unfold R4;rw [Nh h1,Nh h2,Nh (by simpa using k),Ni he])
 ·obtain ⟨hv,hp,_,o,I⟩:=Mm he
  have l:=VS hv
  have s:=y.2 _ k
  rw [<-N3m (by rw [y.1];exact f)] at s
  have ev:=s.uniq (Ndb l hp k o)
  have lT:=Ni4 (i:=OO P b.place) hs (by rw [y.1];exact f)
  have xT:=N3a (i:=OO P b.place) hs f y.1
  rw [ev] at lT
  have F:=N8h (Ndb l hp k o) I o
  have w:R4 P L a b=if Nfo P L a.place a.time b.place<0 then 80 else min (max (Nfo P L a.place a.time b.place-b.time) 0) 60:=by
   unfold R4
   rw [Nh h1,Nh h2,Nh (by simpa using k),Nh (by simpa using he)]
  have N:-1<=Nfo P L a.place a.time b.place:=by
   rcases Ndb l hp k o with ⟨e,_⟩ | ⟨⟨⟨j,U⟩,_⟩,_⟩
   ·omega
   ·have:=U.later l.fine;omega
  generalize Nfo P L a.place a.time b.place=x at *
  unfold OC at F
  have V:IntKind.i64.wrap (x-b.time)=x-b.time:=NU (by omega) (by omega)
  have t:OO P b.place<P.length:=f
  have u:=Ns (show ¬P.length<=OO P b.place by omega)
  refine NK ?_
  by_cases z:x<0
  ·simp only [n107,Nn5,OA,QT,Rq,Rp,Ro,QZ,QY,QS,p,lT,xT,N5 z,t,u,SB,seval,NC,NJ,NF,NP,reduceCtorEq,NB,place,NA,ND]
   exact g _ _ (by rw [w,Ni z])
  ·simp only [n107,Nn5,OA,QT,Rq,Rp,Ro,QZ,QY,QS,p,lT,xT,Ns z,t,u,V,Y8,Y7,SB,seval,NC,NJ,NF,NP,reduceCtorEq,NB,place,NA,ND]
   exact g _ _ (by rw [w,Nh z])
theorem Niu [OB] {lim:Nat} {pp pl:Option Addr} {P:List Int} {L:List Leg} {cp cl:Nat} {H:NE} {Q:Value->NE->Prop} (hn:NetIn H pp pl P L) (b:lim<=H.length)
  (c:∀G R M,OI H G->H.length<=R->H.length<=M->PI lim R M [] G pp pl cp cl P L->Q (Vp R) G) :
  NL E false lim 70 [.agg (SC pp P.length cp pl L.length cl).toArray] H Q:=by
 refine R5 (by decide) e70 rfl ?_
 rw [b70,c70]
 simp only [n70,r70,SC,NI,QM,TQ,SB,seval,NC,NJ,NF,NP,reduceCtorEq,NB,place,NA,ND]
 refine c _ _ (H.length+1) OI.refl.app ?_ (by omega) ⟨hn.app _,(fun _ _ _ a=>by cases a),(fun _ _ _ a=>by cases a), ?_,(by simp),(by simp),⟨[], ?_,fun x e=>by cases e⟩,(by omega),(fun j d=>by cases d)⟩
 ·omega
 ·rw [NW];rfl
 ·rw [NW];rfl
def Wx {α:Type} (n:Nat) (G:NE) (enc:α->List Value) (e:Nat) (q:Option Addr) (l:List α):Prop:=Sl G enc e q l/\∀a,q=some a->n<=a.block
theorem Wx.app {α:Type} {n e:Nat} {G:NE} {enc:α->List Value} {q:Option Addr} {l:List α} (h:Wx n G enc e q l) (X:NE):Wx n (G++X) enc e q l:=⟨h.1.app X,h.2⟩
theorem Wx.le {α:Type} {n n' e:Nat} {G:NE} {enc:α->List Value} {q:Option Addr} {l:List α} (h:Wx n G enc e q l) (hl:n'<=n):Wx n' G enc e q l:=⟨h.1,fun a b=>by have:=h.2 a b;omega⟩
theorem Wx.mut {α:Type} {n e R:Nat} {G G':NE} {enc:α->List Value} {q:Option Addr} {l:List α} (h:Wx n G enc e q l) (hm:Mut G G' R) (d:R<n):Wx n G' enc e q l:=
 ⟨ZX h.1 fun a b hn ro c hc=>hm.cells hc (by have:=h.2 a b;omega),h.2⟩
theorem Wx.chg {α:Type} {A:List Nat} {n e:Nat} {G G':NE} {enc:α->List Value} {q:Option Addr} {l:List α} (h:Wx n G enc e q l) (hc:Chg A G G') (b:∀j∈A,j<n):Wx n G' enc e q l:=
 ⟨hc.sl h.1 fun a c _ d=>by have:=b _ d;have:=h.2 a c;omega,h.2⟩
def opB (p:Option Addr):List Nat:=match p with
 | none=>[]
 | some a=>[a.block]
theorem Own.moreF {α:Type} {lim lim' e bytes cap:Nat} {G:NE} {enc:α->List Value} {p:Option Addr} {l:List α} (h:Own lim G enc e p cap l) (n:lim'<=lim) (he:∀x,(enc x).length=e) (i:e≠0) (m:List α) (hm:m≠[]) (g:(l.length+m.length)*bytes<=PS) (hn:l.length+m.length<2 ^ 61)
  (X:NE) {x:Value} {str:Bool} (h1:firstCells (G++X) e str x=some (m.flatMap enc)) (h2:lenOf x=some m.length) :
  ∃G2,PE lim' none e bytes str (.slice p l.length cap) x (G++X)=some (.slice (Sa ((G++X).length)) (l.length+m.length) (loose e),G2++[])/\Own G.length G2 enc e (Sa ((G++X).length)) (loose e) (l++m)/\Chg (opB p) G G2/\(G++X).length<G2.length:=by
 have c:¬m.length=0:=fun q=>hm (List.length_eq_zero_iff.1 q)
 rcases h with ⟨k1,k2,k3⟩ | ⟨R,k1,k2,k3,o⟩
 ·subst k1 k2 k3
  refine ⟨G++(X++[Vc (m.flatMap enc)]), ?_, ?_,Chg.refl.app,by simp⟩
  ·simp only [Nr,N6] at g hn⊢
   simp only [PE,h1,h2,c,if_false,N6]
   rw [Nh (by omega)]
   simp [place]
  ·rw [Ol]
   refine Own.new ?_ (by simp)
   rw [<-Nn];exact NS
 ·subst k1 k2
  have b:=NM k3
  have a:NH (G++X) R=Vc (l.flatMap enc):=by rw [NN b];exact k3
  have d:AM.loadCells (G++X) ⟨R,0,none⟩ (l.length*e)=some (l.flatMap enc):=by
   simp only [Rs,a,N6,QI he,Nd,if_true,Oy]
   rw [Oc (by rw [QI he];exact Nd _)]
  have f:Mut G (G.set R .dead) R:=⟨by simp,fun j k=>QL k⟩
  refine ⟨G.set R .dead++(X++[Vc ((l++m).flatMap enc)]), ?_, ?_,(Chg.refl.mut f (.inl (by simp [opB]))).app,by simp⟩
  ·simp only [PE,h1,h2,d,a,c,if_false,if_true]
   rw [Nh (by unfold loose;omega)]
   simp [show lim'<=R by omega,place,Qh _ _ b,Nn]
  ·refine Own.new ?_ (by simp)
   rw [<-Nn,show (G++X).length=(G.set R .dead++X).length by simp];exact NS
theorem Nuz [OB] {lim c:Nat} {p:Option Addr} {l:List Int} {H:NE} {Q:Value->NE->Prop} (hs:Sl H encI 1 p l) (hc:p=none->c=0) (hl:l.length<2 ^ 40)
  (e:∀H' q h,OI H H'->Wx H.length H' encI 1 q l->Q (.slice q l.length h) H') :
  NL E false lim 106 [.slice p l.length c] H Q:=by
 by_cases hn:l=[]
 case neg=>exact Nmp hs hn hl fun H' q i g=>e H' q _ i ⟨g.sl RP,fun a d=>(g.block d).1⟩
 subst hn
 refine R5 (by decide) N92 rfl ?_
 rw [Oaf,N37]
 cases p with
 | none=>
   obtain rfl:=hc rfl
   have b:aEq .slice Vz Vz=some true:=rfl
   simp only [n106,N6c,b,SB,seval,NC,NJ,NF,NP,reduceCtorEq,NB,place,NA,ND]
   exact e _ none 0 OI.refl.app ⟨rfl,fun a d=>by cases d⟩
 | some a=>
   have b:aEq .slice (.slice (some a) 0 c) Vz=some false:=rfl
   have f:∀X,PE lim none 1 8 false (.slice (Sa H.length) 0 0) (.slice (some a) 0 c) (H++X)=some (.slice (Sa H.length) 0 0,H++X):=fun X=>by simp [PE,firstCells,lenOf]
   simp only [n106,N6c,b,f,SB,seval,NC,NJ,NF,NP,reduceCtorEq,NB,place,NA,ND]
   exact e _ (Sa H.length) 0 OI.refl.app ⟨⟨rfl,fun j=>absurd rfl j⟩,fun a d=>by cases d;exact Nd _⟩
def Ur (P:List Int) (L:List Leg) (es:List Ev) (ks:List Int) (i:Nat):Int×Int×Int:=(gt ks i,gt ks (i+1),R4 P L (gt es (gt ks i).toNat) (gt es (gt ks (i+1)).toNat))
def RV (P:List Int) (L:List Leg) (es:List Ev) (ks:List Int):List (Int×Int×Int):=(List.range (ks.length-1)).map (Ur P L es ks)
def Wu:List (Int×Int×Int)->Int
 | []=>0
 | x::l=>x.2.2+Wu l
def Tp (P:List Int) (L:List Leg) (es:List Ev) (ks:List Int):Int:=30*((es.length:Int)-ks.length)+Wu (RV P L es ks)
theorem Nax:∀(l:List (Int×Int×Int)) (x:Int×Int×Int),Wu (l++[x])=Wu l+x.2.2
 | [],x=>by simp [Wu]
 | y::l,x=>by rw [Ow,Wu,Nax l x,Wu];omega
theorem ZV {P:List Int} {L:List Leg} {es:List Ev} {ks:List Int}:∀(n:Nat),0<=Wu ((List.range n).map (Ur P L es ks))/\Wu ((List.range n).map (Ur P L es ks))<=80*n
 | 0=>by simp [Wu]
 | n+1=>by
   rw [P3,Pc,List.map_singleton,Nax]
   have h1:=ZV (P:=P) (L:=L) (es:=es) (ks:=ks) n
   have h2:=VJ (P:=P) (L:=L) (a:=gt es (gt ks n).toNat) (b:=gt es (gt ks (n+1)).toNat)
   have e:(Ur P L es ks n).2.2=R4 P L (gt es (gt ks n).toNat) (gt es (gt ks (n+1)).toNat):=rfl
   rw [e]
   omega
theorem N2i [OB] {lim R M:Nat} {S:List Nat} {pp pl pe pk:Option Addr} {P:List Int} {L:List Leg} {cp cl ce ck:Nat} {es:List Ev} {ks:List Int} {H:NE} {Q:Value->NE->Prop} (h:PI lim R M S H pp pl cp cl P L) (ai:lim<=H.length)
  (hs:Sl H encE 7 pe es) (be:es.length<=40) (ht:∀i,i<es.length->0<=(gt es i).time/\(gt es i).time<=OC) (hk:Sl H encI 1 pk ks) (bc:ks.length<2 ^ 20) (aw:pk=none->ck=0) (B:∀k∈ks,0<=k/\k<es.length)
  (hQ:∀G q cq r cr,Chg [M] H G->PI lim R M S G pp pl cp cl P L->Wx H.length G encI 1 q ks->Wx H.length G enc3 3 r (RV P L es ks)->Q (.agg #[.slice q ks.length cq,.slice r (RV P L es ks).length cr,Vi (Tp P L es ks)]) G) :
  NL E false lim 71 [Vp R,.slice pe es.length ce,.slice pk ks.length ck] H Q:=by
 refine R5 (by decide) e71 rfl ?_
 rw [b71,c71]
 have ar:=h.alive
 simp only [n71,r71,SB,seval,NC,NJ,NF,NP,reduceCtorEq,NB,place,NA,ND]
 refine Nuz (hk.app _) aw (by omega) fun H1 q cq o ab=>?_
 have w1:IntKind.i64.wrap ((es.length:Int)-ks.length)=(es.length:Int)-ks.length:=NU (by omega) (by omega)
 have w2:IntKind.i64.wrap (30*((es.length:Int)-ks.length))=30*((es.length:Int)-ks.length):=NU (by omega) (by omega)
 have az:=o.len
 simp at az
 have s:lim<=H1.length:=by omega
 have aq:Chg [M] H H1:=(OI.chg (A:=[M]) o).pre
 have bb:NH H1 M=NH H M:=(OI.chg (A:=[]) o).pre.other M ar (by simp)
 have an:NH H1 H.length=Vc [Vz,Vz,Vi 0]:=o.cells NS
 have av:=(h.grow (b:=H.length) [Vc [Vz,Vz,Vi 0]] (Nd _) (by simp)).chg (OI.chg o)
 refine NK ?_
 simp only [n71,r71,w1,w2,s,SB,seval,NC,NJ,NF,NP,reduceCtorEq,NB,place,NA,ND]
 refine NR (fun x:Nat×Option Addr×Nat=>ks.length-x.1) (fun x fr G=>(x.1=0\/x.1+1<=ks.length)/\fr 0=Vp R/\fr 1=.slice pe es.length ce/\fr 2=.slice pk ks.length ck/\fr 6=Vp H.length/\fr 7=Vp H1.length/\fr 8=Vi ((x.1+1:Nat):Int)/\Chg [M] H G/\Chg [M,H1.length] H1 G/\PI lim R M (opB x.2.1++H1.length::H.length::S) G pp pl cp cl P L/\
   NH G H1.length=Vc [.slice q ks.length cq,.slice x.2.1 x.1 x.2.2,Vi (30*((es.length:Int)-ks.length)+Wu ((List.range x.1).map (Ur P L es ks)))]/\Own (H1.length+1) G enc3 3 x.2.1 x.2.2 ((List.range x.1).map (Ur P L es ks))) (0,none,0)
  ⟨.inl rfl,rfl,rfl,rfl,rfl,by rfl,by rfl,aq.app,Chg.refl.app,av.grow _ (Nd _) (by simp),by rw [NS];simp [Wu],.nil⟩ ?_
 rintro ⟨i,pw,cw⟩ fr G ⟨hi,g0,g1,g2,g6,g7,g8,hC,v,y,hB,I⟩ hN
 simp only at hi g8 y hB I
 rw [NT N5d.eq_1]
 refine NK ?_
 have hl:=hC.len
 have bd:=v.len
 have ba:=NM hB
 have F:NH G H.length=Vc [Vz,Vz,Vi 0]:=v.cells an (by simp;omega)
 have C:((List.range i).map (Ur P L es ks)).length=i:=by simp
 have D:=hs.sim (h.chgk hC)
 have z:=hk.sim (h.chgk hC)
 have a8:=ZV (P:=P) (L:=L) (es:=es) (ks:=ks) i
 by_cases g:i+1<ks.length
 case neg=>
  have ei:ks.length-1=i:=by omega
  have a7:¬((i+1:Nat):Int)<(ks.length:Int):=by omega
  have ao:=fun X=>(OI.refl.app (X:=X)).cells hB
  have ak:=fun X=>(OI.refl.app (X:=X)).cells F
  obtain ⟨G2,e2,h2,u⟩:=OP (NM F) (Vc [.slice q ks.length cq,.slice pw i cw,Vi (30*((es.length:Int)-ks.length)+Wu ((List.range i).map (Ur P L es ks)))])
  have aj:=fun X=>(OI.refl.app (X:=X)).cells h2
  simp only [n71,r71,g0,g1,g2,g6,g7,g8,g,ao,ak,ai,e2,aj,SB,seval,NC,NJ,NF,NP,reduceCtorEq,NB,place,NA,ND]
  have K:RV P L es ks=(List.range i).map (Ur P L es ks):=by unfold RV;rw [ei]
  have ap:Chg [M] H G2:=hC.mut u (.inr (Nd _))
  have ae:=(y.chg (Chg.refl.mut u (.inl (by simp)))).sub (S':=S) fun j f=>by simp [f]
  have w:=I.mut u fun a d e=>by have:=(I.block d).1;omega
  have T:∀a,q=some a->H.length<a.block:=fun a d=>by have:=ab.2 a d;simp at this;omega
  have ay:Wx H.length G2 encI 1 q ks:=⟨ZX ab.1 (fun a d hn ro c hc=>u.cells (v.cells hc (by have h1:=NM hc;have h2:=T a d;simp;omega)) (by have h2:=T a d;omega)),fun a d=>by have:=T a d;omega⟩
  have:=hQ G2 q cq pw cw ap ae ay (by rw [K];exact ⟨w.sl OY,fun a d=>by have:=(w.block d).1;omega⟩)
  rw [K,C] at this
  unfold Tp at this
  rw [K] at this
  rw [Nb]
  exact this
 have l0:=fun X=>(z.app X).loadCell0 RP (i:=i) (by omega) (by decide)
 have l1:=fun X=>(z.app X).loadCell0 RP (i:=i+1) g (by decide)
 simp only [encI,O1] at l0 l1
 have x0:=fun c (k:IntKind) (H1:NE)=>z.idx (c:=c) (k:=k) (H1:=H1) (i:=i) (by omega)
 have x1:=fun c (k:IntKind) (H1:NE)=>z.idx (c:=c) (k:=k) (H1:=H1) (i:=i+1) g
 obtain ⟨a,ea⟩:=Int.eq_ofNat_of_zero_le (B _ (Ru (i:=i) (by omega))).1
 obtain ⟨b,eb⟩:=Int.eq_ofNat_of_zero_le (B _ (Ru g)).1
 have d:a<es.length:=by have:=(B _ (Ru (l:=ks) (i:=i) (by omega))).2;omega
 have hb:b<es.length:=by have:=(B _ (Ru g)).2;omega
 have J:Ur P L es ks i=((a:Int),(b:Int),R4 P L (gt es a) (gt es b)):=by unfold Ur;rw [ea,eb];rfl
 rw [ea] at l0
 rw [eb] at l1
 have la:=fun X=>(D.app X).loadCells OA d
 have lb:=fun X=>(D.app X).loadCells OA hb
 have xa:=fun c (k:IntKind) (H1:NE)=>D.idx (c:=c) (k:=k) (H1:=H1) d
 have xb:=fun c (k:IntKind) (H1:NE)=>D.idx (c:=c) (k:=k) (H1:=H1) hb
 have w9:IntKind.i64.wrap (((i+1:Nat):Int)-1)=(i:Int):=by rw [NU (by omega) (by omega)];omega
 have t:lim<=G.length:=by omega
 simp only [n71,r71,g0,g1,g2,g6,g7,g8,t,g,w9,l0,l1,x0,x1,la,lb,xa,xb,SB,seval,NC,NJ,NF,NP,reduceCtorEq,NB,place,NA,ND]
 refine Nkt (a:=gt es a) (y.grow [Vc [Vi a,Vi b,Vi 0]] (Nd _) (by simp)) (by simp;omega) (ht b hb) fun G1 n ad=>?_
 have ag:=(y.grow [Vc [Vi a,Vi b,Vi 0]] (Nd _) (by simp)).chgk n
 have Y:NH G1 G.length=Vc [Vi a,Vi b,Vi 0]:=ag _ _ _ NS
 have am:=ag _ _ _ ((OI.refl.app).cells hB)
 have a0:=n.len
 simp at a0
 have ac:Own (H1.length+1) G1 enc3 3 pw cw ((List.range i).map (Ur P L es ks)):=(I.app _).chg n fun a d hm=>by have:=(I.block d).1;simp at hm;omega
 generalize hp:R4 P L (gt es a) (gt es b)=p at J
 have a2:=VJ (P:=P) (L:=L) (a:=gt es a) (b:=gt es b)
 rw [hp] at a2
 obtain ⟨G2,e2,h2,u⟩:=OP (NM Y) (Vc [Vi a,Vi b,Vi p])
 have Z:=u.cells am (by omega)
 have w:=ac.mut u fun a d e=>by have:=(I.block d).2;omega
 have wp:IntKind.i64.wrap (30*((es.length:Int)-ks.length)+Wu ((List.range i).map (Ur P L es ks))+p)=30*((es.length:Int)-ks.length)+Wu ((List.range (i+1)).map (Ur P L es ks)):=by
  rw [P3,Pc,List.map_singleton,Nax,J,<-Int.add_assoc]
  exact NU (by omega) (by omega)
 obtain ⟨V,e3,h3,U⟩:=OP (NM Z) (Vc [.slice q ks.length cq,.slice pw i cw,Vi (30*((es.length:Int)-ks.length)+Wu ((List.range (i+1)).map (Ur P L es ks)))])
 have au:=w.mut U fun a d e=>by have:=(I.block d).1;omega
 have al:=U.cells h2 (by omega)
 have a5:=u.len
 have a6:=U.len
 obtain ⟨G4,W,O4,C4,ah⟩:=Own.moreF au (lim':=lim) (bytes:=24) (by omega) OY (by decide) [((a:Int),(b:Int),p)] (by simp) (by rw [C];unfold PS;simp;omega) (by rw [C];simp;omega) [Vc [Vi a,Vi b,Vi p]] (x:=.slice (Sa V.length) 1 1) (str:=false)
  (WH (m:=[((a:Int),(b:Int),p)]) (Sl.row (ro:=false) OY (by rw [NS];rfl))) rfl
 rw [C] at W
 have eN:(List.range i).map (Ur P L es ks)++[((a:Int),(b:Int),p)]=(List.range (i+1)).map (Ur P L es ks):=by rw [P3,Pc,List.map_singleton,J]
 rw [eN] at O4
 have O:∀j,j∈opB pw->H1.length+1<=j/\j<G.length:=fun j f=>by
  cases hpe:pw with
  | none=>rw [hpe] at f;cases f
  | some a=>rw [hpe] at f;have:=I.block hpe;simp [opB] at f;omega
 generalize a1:(V++[Vc [Vi a,Vi b,Vi p]]).length=r at W O4 ah
 have a3:V.length<=r:=by rw [<-a1];simp
 generalize loose 3=c' at W O4
 simp only [Nl,Nr,N6] at W
 have aa:=C4.cells h3 fun hm=>by have:=O _ hm;omega
 obtain ⟨G5,e5,h5,m5⟩:=OP (NM aa) (Vc [.slice q ks.length cq,.slice (Sa r) (i+1) c',Vi (30*((es.length:Int)-ks.length)+Wu ((List.range (i+1)).map (Ur P L es ks)))])
 have X1:=fun X=>(OI.refl.app (X:=X)).cells Y
 have X2:=fun X=>(OI.refl.app (X:=X)).cells Z
 have X3:=fun X=>(OI.refl.app (X:=X)).cells h2
 have X4:=fun X=>(OI.refl.app (X:=X)).cells h3
 have X5:=fun X=>(OI.refl.app (X:=X)).cells al
 have X6:=fun X=>(OI.refl.app (X:=X)).cells aa
 have a4:IntKind.i64.wrap (((i+1:Nat):Int)+1)=((i+2:Nat):Int):=OG (by omega)
 have N:lim<=H1.length:=s
 refine NK ?_
 simp only [n71,r71,g0,g1,g2,g6,g7,g8,t,N,X1,e2,X2,X3,e3,X4,X5,X6,W,e5,wp,a4,SB,seval,NC,NJ,NF,NP,reduceCtorEq,NB,place,NA,ND]
 have k1:Chg [M] H V:=((hC.trans n.pre).mut u (.inr (by omega))).mut U (.inr (by omega))
 have k2:Chg [M] H G5:=(k1.trans' C4 fun j f ax=>by have:=O j f;omega).mut m5 (.inr (by omega))
 have k3:Chg [M,H1.length] H1 V:=((v.trans (n.pre.mono fun j _ f=>by simp at f;simp [f])).mut u (.inr (by omega))).mut U (.inl (by simp))
 have k4:Chg [M,H1.length] H1 G5:=(k3.trans' C4 fun j f ax=>by have:=O j f;omega).mut m5 (.inl (by simp))
 have k5:=ad.chg ((Chg.refl.mut u (.inl (by simp))).mut U (.inl (by simp)))
 have k6:=k5.growC (b:=r) (G':=G4) (C4.mono fun j _ f=>by simp [f]) a3 ah
 have k7:=(k6.chg (Chg.refl.mut m5 (.inl (by simp)))).sub (S':=opB (Sa r)++H1.length::H.length::S) fun j f=>by
  simp [opB] at f
  rcases f with e | e | e | e
  ·simp [e]
  ·simp [e]
  ·simp [e]
  ·simp [e]
 have k8:=(O4.mut m5 fun a d e=>by cases d;simp at e;omega).le (lim':=H1.length+1) (by omega)
 exact hN (i+1,Sa r,c') _ _ ⟨.inr g,g0,g1,g2,g6,g7,by rfl,k2.app,k4.app,k7.app _,(OI.refl.app).cells h5,k8.app _⟩ (by show ks.length-(i+1)<ks.length-i;omega)
def Ncn (n:Nat) (ks:List Int) (i:Nat):Prop:=0<=gt ks i/\gt ks i<n/\(0<i->gt ks (i-1)<gt ks i)
instance (n:Nat) (ks:List Int) (i:Nat):Decidable (Ncn n ks i):=by unfold Ncn;infer_instance
def Ngr (n:Nat) (ks:List Int):Prop:=(ks.length=0->n=0)/\∀i,i<ks.length->Ncn n ks i
instance (n:Nat) (ks:List Int):Decidable (Ngr n ks):=by unfold Ngr;infer_instance
theorem Nqi {n:Nat} {ks:List Int} (h:∀i,i<ks.length->Ncn n ks i):∀i,i<ks.length->(i:Int)<=gt ks i
 | 0,hi=>(h 0 hi).1
 | i+1,hi=>by
   have h1:=Nqi h i (by omega)
   have h2:=(h (i+1) hi).2.2 (by omega)
   rw [Pw] at h2
   omega
theorem Njp {n:Nat} {ks:List Int} (h:∀i,i<ks.length->Ncn n ks i):ks.length<=n:=by
 apply Og;intro hc
 have h1:=Nqi h (ks.length-1) (by omega)
 have h2:=(h (ks.length-1) (by omega)).2.1
 omega
theorem Ngr.mem {n:Nat} {ks:List Int} (h:Ngr n ks):∀k∈ks,0<=k/\k<n:=fun k hk=>by
 obtain ⟨i,hi,rfl⟩:=List.mem_iff_getElem.1 hk
 have:=h.2 i hi
 rw [<-QH hi]
 exact ⟨this.1,this.2.1⟩
abbrev ZM:=Int×Int×Int
def YB (x y:ZM):Bool:=decide (x.1<y.1\/(x.1=y.1/\y.2.1<x.2.1))
theorem Nrc [OB] {mp:Bool} {lim:Nat} {x y:ZM} {H:NE} {Q:Value->NE->Prop}:NL E mp lim 108 [.agg (enc3 x).toArray,.agg (enc3 y).toArray] H Q=Q (.bool (YB x y)) H:=by
 refine pc (by decide) Odm rfl rfl ?_
 rw [Oes,N76]
 obtain ⟨a,b,c⟩:=x
 obtain ⟨a',b',d⟩:=y
 have e0:YB (a,b,c) (a',b',d)=decide (a<a'\/(a=a'/\b'<b)):=rfl
 rw [e0]
 by_cases h1:a<a'
 ·have e:=Nq (show a<a'\/(a=a'/\b'<b) from .inl h1)
  rw [e]
  simp only [n108,N6b,enc3,N5 h1,SB,seval,NC,NJ,NF,NP,reduceCtorEq,NB,place,NA,ND]
 by_cases h2:a=a'
 ·have e:decide (a<a'\/(a=a'/\b'<b))=decide (b'<b):=decide_eq_decide.2 ⟨fun h=>by omega,fun h=>.inr ⟨h2,h⟩⟩
  rw [e]
  simp only [n108,N6b,enc3,Ns h1,N5 h2,SB,seval,NC,NJ,NF,NP,reduceCtorEq,NB,place,NA,ND]
 ·have e:=N7 (show ¬(a<a'\/(a=a'/\b'<b)) by omega)
  rw [e]
  simp only [n108,N6b,enc3,Ns h1,Ns h2,SB,seval,NC,NJ,NF,NP,reduceCtorEq,NB,place,NA,ND]
def YR (P:List Int) (L:List Leg) (es:List Ev) (T:List ZM) (i j:Nat):ZM:=(R4 P L (gt es i) (gt es j)+30*((j:Int)-i-1)+(gt T j).1,(gt T j).2.1+1,(j:Int))
def VB (x r:ZM):ZM:=if YB x r then x else r
def RG (P:List Int) (L:List Leg) (es:List Ev) (T:List ZM) (i:Nat):Nat->ZM
 | 0=>(30*((es.length:Int)-1-i),1,-1)
 | m+1=>VB (RG P L es T i m) (YR P L es T i (es.length-1-m))
def OJ (P:List Int) (L:List Leg) (es:List Ev):Nat->List ZM
 | 0=>List.replicate es.length (0,0,0)
 | k+1=>(OJ P L es k).set (es.length-1-k) (RG P L es (OJ P L es k) (es.length-1-k) k)
theorem TY {P:List Int} {L:List Leg} {es:List Ev}:∀k,(OJ P L es k).length=es.length
 | 0=>by simp [OJ]
 | k+1=>by rw [OJ,Qa,TY k]
def N1j (T:List ZM):Prop:=∀j,0<=(gt T j).1/\(gt T j).1<=10000/\0<=(gt T j).2.1/\(gt T j).2.1<=40
theorem Nut {x:ZM} {a b c:Value}:(((enc3 x).set 0 a).set 1 b).set 2 c=[a,b,c]:=id rfl
theorem N9q {G:NE} {c:Blk}:OD G.length [0] (G++[c])=G++[.dead]:=by
 show (G++[c]).set (G.length+0) .dead=_
 rw [Pu,Qd _ _ (Nd _),Qs];rfl
theorem N1w {G G1:NE} {c:Blk}:NY G.length [0] (G++[c]) G1=G1.set G.length c:=by
 show G1.set (G.length+0) (NH (G++[c]) (G.length+0))=_
 rw [Pu,NS];rfl
theorem Nzw [OB] {lim R M B8 BT:Nat} {S:List Nat} {pp pl pe:Option Addr} {P:List Int} {L:List Leg} {cp cl ce ct:Nat} {es:List Ev} {T:List ZM} {i:Nat} {G:NE} {fr:Nat->Value} {K:List AItem} {Z:Value->NE->Prop} (hi:i<es.length) (F:lim<=B8) (hS:B8∈S) (ab:BT∈S)
  (ak:es.length<=40) (ht:∀i,i<es.length->0<=(gt es i).time/\(gt es i).time<=OC) (hT:T.length=es.length) (ah:N1j T)
  (hP:PI lim R M S G pp pl cp cl P L) (hs:Sl G encE 7 pe es) (C:NH G BT=Vc (T.flatMap enc3)) (h:NH G B8=Vc (enc3 (RG P L es T i 0)))
  (f0:fr 0=Vp R) (f1:fr 1=.slice pe es.length ce) (f5:fr 5=.slice (Sa BT) T.length ct) (f6:fr 6=.func (.func 108) #[] #[]) (f7:fr 7=Vi i) (f8:fr 8=Vp B8) (f9:fr 9=Vi ((es.length:Int)-1))
  (hR:∀fr' G',Chg [M,B8] G G'->PI lim R M S G' pp pl cp cl P L->NH G' B8=Vc (enc3 (RG P L es T i (es.length-1-i)))->(∀j,j<=8->fr' j=fr j)->PQ E a72 lim K fr' G' Z) :
  PQ E a72 lim (.code (.loop Nza)::.inBlock 2::K) fr G Z:=by
 refine NR (fun m=>es.length-m) (fun m fr' G'=>m<=es.length-1-i/\Chg [M,B8] G G'/\PI lim R M S G' pp pl cp cl P L/\NH G' B8=Vc (enc3 (RG P L es T i m))/\(∀j,j<=8->fr' j=fr j)/\fr' 9=Vi ((es.length:Int)-1-m)) 0
  ⟨Nx _,Chg.refl,hP,h,fun j _=>rfl,by rw [f9];simp⟩ ?_
 intro m fr' G' ⟨hm,s,l,hB,d,z⟩ hN
 rw [NT Nza.eq_1]
 have O:=(d 0 (by decide)).trans f0
 have U:=(d 1 (by decide)).trans f1
 have V:=(d 5 (by decide)).trans f5
 have W:=(d 6 (by decide)).trans f6
 have J:=(d 7 (by decide)).trans f7
 have Y:=(d 8 (by decide)).trans f8
 refine NK ?_
 by_cases am:m<es.length-1-i
 case neg=>
  obtain rfl:m=es.length-1-i:=by omega
  have e9:(es.length:Int)-1-((es.length-1-i:Nat):Int)=(i:Int):=by omega
  rw [e9] at z
  simp only [n72,r72,J,z,SB,seval,NC,NJ,NF,NP,reduceCtorEq,NB,place,NA,ND]
  exact hR _ _ s.app (l.app _) ((OI.refl.app).cells hB) fun j A=>by
   rw [<-d j A]
   simp only [upd]
   repeat rw [Nh (by omega)]
 generalize A:es.length-1-m=j
 have e9:(es.length:Int)-1-(m:Int)=(j:Int):=by omega
 rw [e9] at z
 have u:j<es.length:=by omega
 have ac:i<j:=by omega
 have ae:BT≠B8:=by
  rintro rfl
  rw [C] at h
  simp only [Blk.cells.injEq,Rg] at h
  have:=Qn List.length h
  rw [QI OY,OY] at this
  omega
 have H:BT≠M:=fun e=>l.oM (e▸ab)
 have w:Sl G' enc3 3 (Sa BT) T:=Sl.row (ro:=false) OY (s.cells C (by simp;exact ⟨H,ae⟩))
 have B:∀a,pe=some a->es≠[]->a.block≠B8:=fun a ha hn e=>by
  subst ha
  obtain ⟨ro,c,k1,k2,_⟩:=hs.2 hn
  rw [e,h] at k1
  simp only [Blk.cells.injEq] at k1
  rw [<-k1.2,OY] at k2
  omega
 have o:Sl G' encE 7 pe es:=ZX hs fun a ha hn ro c hc=>s.cells hc (by
  have h1:=B a ha hn
  have h2:a.block≠M:=fun e=>by obtain ⟨ms,k1,_⟩:=hP.m;rw [e,k1] at hc;cases hc
  simp;exact ⟨h2,h1⟩)
 have la:=fun X=>(o.app X).loadCells OA hi
 have lb:=fun X=>(o.app X).loadCells OA u
 have xa:=fun c (k:IntKind) (H1:NE)=>o.idx (c:=c) (k:=k) (H1:=H1) hi
 have xb:=fun c (k:IntKind) (H1:NE)=>o.idx (c:=c) (k:=k) (H1:=H1) u
 have t:j<T.length:=by omega
 have l0:=fun X=>(w.app X).loadCell OY t (j:=0) (by decide)
 have l1:=fun X=>(w.app X).loadCell OY t (j:=1) (by decide)
 simp only [enc3,O1,Qt] at l0 l1
 have xj:=fun c (k:IntKind) (H1:NE)=>w.idx (c:=c) (k:=k) (H1:=H1) t
 have an:=ah j
 have w1:IntKind.i64.wrap ((j:Int)-i)=(j:Int)-i:=NU (by omega) (by omega)
 have w2:IntKind.i64.wrap ((j:Int)-i-1)=(j:Int)-i-1:=NU (by omega) (by omega)
 have w3:IntKind.i64.wrap (30*((j:Int)-i-1))=30*((j:Int)-i-1):=NU (by omega) (by omega)
 have w4:IntKind.i64.wrap ((gt T j).2.1+1)=(gt T j).2.1+1:=NU (by omega) (by omega)
 have N:=Nq (show i<j from ac)
 simp only [n72,r72,O,U,V,W,J,Y,z,N,la,lb,xa,xb,l0,l1,xj,w1,w2,w3,w4,SB,seval,NC,NJ,NF,NP,reduceCtorEq,NB,place,NA,ND]
 have ai:=NM h
 have al:=s.len
 refine Nkt (a:=gt es i) (b:=gt es j) (l.grow [.dead] (Nd _) (by simp)) (by simp;omega) (ht j u) fun G1 n D=>⟨Njg ?_, ?_⟩
 ·rw [N9q]
  exact (l.grow [.dead] (Nd _) (by simp)).chgk n
 have ad:=n.len
 simp at ad
 obtain ⟨G2,e2,h2,m2⟩:=OP (show G'.length<G1.length by omega) (Vc [Vi 0,Vi 0,Vi 0])
 have eu:NY (List.length G') [0] (G'++[Vc [Vi 0,Vi 0,Vi 0]]) G1=G2++[]:=by rw [N1w,<-e2,Nb]
 rw [Nb,eu]
 generalize hp:R4 P L (gt es i) (gt es j)=p
 have ag:=VJ (P:=P) (L:=L) (a:=gt es i) (b:=gt es j)
 rw [hp] at ag
 have w5:IntKind.i64.wrap (p+30*((j:Int)-i-1))=p+30*((j:Int)-i-1):=NU (by omega) (by omega)
 have w6:IntKind.i64.wrap (p+30*((j:Int)-i-1)+(gt T j).1)=p+30*((j:Int)-i-1)+(gt T j).1:=NU (by omega) (by omega)
 have w7:IntKind.i64.wrap ((j:Int)-1)=(es.length:Int)-1-((m+1:Nat):Int):=by rw [NU (by omega) (by omega)];omega
 obtain ⟨G3,e3,h3,m3⟩:=OP (NM h2) (Vc [Vi (p+30*((j:Int)-i-1)+(gt T j).1),Vi ((gt T j).2.1+1),Vi j])
 have aa:=(l.app [.dead]).chgk n _ _ _ ((OI.refl.app).cells hB)
 have aj:=NM hB
 have r:=m3.cells (m2.cells aa (by omega)) (by omega)
 have ec:YR P L es T i j=(p+30*((j:Int)-i-1)+(gt T j).1,(gt T j).2.1+1,(j:Int)):=by unfold YR;rw [hp]
 have f:∀(X:NE) (mp:Bool) (lim:Nat) (Q:Value->NE->Prop),NL E mp lim 108 [.agg (enc3 (RG P L es T i m)).toArray,.agg #[Vi (p+30*((j:Int)-i-1)+(gt T j).1),Vi ((gt T j).2.1+1),Vi j]] X Q=Q (.bool (YB (RG P L es T i m) (YR P L es T i j))) X:=fun X mp lim Q=>by rw [ec];exact Nrc (x:=RG P L es T i m) (y:=(p+30*((j:Int)-i-1)+(gt T j).1,(gt T j).2.1+1,(j:Int)))
 have I:RG P L es T i (m+1)=VB (RG P L es T i m) (YR P L es T i j):=by rw [RG,A]
 have X2:=fun X=>(OI.refl.app (X:=X)).cells h2
 have X3:=fun X=>(OI.refl.app (X:=X)).cells h3
 have XB:=fun X=>(OI.refl.app (X:=X)).cells r
 have k1:Chg [M,B8] G G3:=((s.trans (n.pre.mono fun j _ A=>by simp at A;simp [A])).mut m2 (.inr (by have:=s.len;omega))).mut m3 (.inr (by have:=s.len;omega))
 have k2:=D.chg ((Chg.refl.mut m2 (.inl (by simp))).mut m3 (.inl (by simp)))
 have g:lim<=G'.length:=by omega
 cases hb:YB (RG P L es T i m) (YR P L es T i j) with
 | true=>
   rw [hb] at f
   rw [VB,Ni hb] at I
   simp only [n72,r72,O,U,V,W,J,Y,z,w5,w6,w7,X2,e3,X3,XB,OY,NI,f,g,SB,seval,NC,NJ,NF,NP,reduceCtorEq,NB,place,NA,ND]
   exact hN (m+1) _ _ ⟨by omega,k1.app,k2.sub (fun q v=>by simp [v]) |>.app _,by rw [I];exact (OI.refl.app).cells r,fun q v=>by
    rw [<-d q v]
    simp only [upd]
    repeat rw [Nh (by omega)],by rfl⟩ (by omega)
 | false=>
   rw [hb] at f
   rw [VB,Nh (by rw [hb];decide),ec] at I
   obtain ⟨G4,e4,h4,m4⟩:=OP (NM r) (Vc [Vi (p+30*((j:Int)-i-1)+(gt T j).1),Vi ((gt T j).2.1+1),Vi j])
   simp only [n72,r72,O,U,V,W,J,Y,z,w5,w6,w7,X2,e3,X3,XB,OY,NI,f,g,F,e4,Nut,SB,seval,NC,NJ,NF,NP,reduceCtorEq,NB,place,NA,ND]
   exact hN (m+1) _ _ ⟨by omega,(k1.mut m4 (.inl (by simp))).app,((k2.chg (Chg.refl.mut m4 (.inl (by simp [hS])))).sub (fun q v=>by simp [v])).app _,by rw [I];exact (OI.refl.app).cells h4,fun q v=>by
    rw [<-d q v]
    simp only [upd]
    repeat rw [Nh (by omega)],by rfl⟩ (by omega)
def Bnd (n j:Nat) (x:ZM):Prop:=0<=x.1/\x.1<=110*((n:Int)-1-j)/\0<=x.2.1/\x.2.1<=(n:Int)-j/\-1<=x.2.2/\x.2.2<n
theorem Nsv {n j:Nat} {x y:ZM} (a:Bnd n j x) (b:Bnd n j y):Bnd n j (VB x y):=by
 unfold VB
 split
 ·exact a
 ·exact b
theorem Ng0 {P:List Int} {L:List Leg} {es:List Ev} {T:List ZM} {i:Nat} (c:∀j,j<es.length->Bnd es.length j (gt T j)) (hi:i<es.length):∀m,m<=es.length-1-i->Bnd es.length i (RG P L es T i m)
 | 0,_=>by
   unfold RG Bnd
   refine ⟨?_, ?_, ?_, ?_, ?_, ?_⟩<;>simp only<;>omega
 | m+1,hm=>by
   rw [RG]
   refine Nsv (Ng0 c hi m (by omega)) ?_
   have h1:=c (es.length-1-m) (by omega)
   have h2:=VJ (P:=P) (L:=L) (a:=gt es i) (b:=gt es (es.length-1-m))
   unfold YR Bnd at *
   refine ⟨?_, ?_, ?_, ?_, ?_, ?_⟩<;>simp only<;>omega
theorem Ni8 {α:Type} [Inhabited α] {l:List α} {i j:Nat} {x:α} (hi:i<l.length):gt (l.set i x) j=if i=j then x else gt l j:=by
 unfold gt
 rw [Na,N1,Na]
 split
 ·simp [hi]
 ·rfl
theorem X9 {P:List Int} {L:List Leg} {es:List Ev}:∀k,k<=es.length->∀j,j<es.length->Bnd es.length j (gt (OJ P L es k) j)
 | 0,_,j,hj=>by
   rw [OJ,QH (by simpa using hj),List.getElem_replicate]
   unfold Bnd
   refine ⟨?_, ?_, ?_, ?_, ?_, ?_⟩<;>simp only<;>omega
 | k+1,hk,j,hj=>by
   rw [OJ,Ni8 (by rw [TY];omega)]
   split
   ·rename_i e
    subst e
    exact Ng0 (X9 k (by omega)) hj k (by omega)
   ·exact X9 k (by omega) j hj
theorem Nu8 {n:Nat} {T:List ZM} (hn:n<=40) (b:T.length=n) (h:∀j,j<n->Bnd n j (gt T j)):N1j T:=fun j=>by
 by_cases a:j<n
 ·have:=h j a
  unfold Bnd at this
  omega
 ·have e:gt T j=(0,0,0):=by unfold gt;rw [Na,Nw (by omega)];rfl
  rw [e]
  refine ⟨?_, ?_, ?_, ?_⟩<;>simp only<;>omega
def Yb (n j:Nat) (x:ZM):Prop:=x.2.2=-1\/((j:Int)<x.2.2/\x.2.2<n)
theorem Nd2 {P:List Int} {L:List Leg} {es:List Ev} {T:List ZM} {i:Nat}:∀m,m<=es.length-1-i->Yb es.length i (RG P L es T i m)
 | 0,_=>.inl rfl
 | m+1,hm=>by
   rw [RG,VB]
   split
   ·exact Nd2 m (by omega)
   ·refine .inr ⟨?_, ?_⟩<;>simp only [YR]<;>omega
theorem Ud {P:List Int} {L:List Leg} {es:List Ev}:∀k,k<=es.length->∀j,es.length-k<=j->j<es.length->Yb es.length j (gt (OJ P L es k) j)
 | 0,_,j,h1,h2=>by omega
 | k+1,hk,j,h1,hj=>by
   rw [OJ,Ni8 (by rw [TY];omega)]
   split
   ·rename_i e
    subst e
    exact Nd2 k (by omega)
   ·exact Ud k (by omega) j (by omega) hj
def Naw (T:List ZM) (i:Nat):ZM:=(30*(i:Int)+(gt T i).1,(gt T i).2.1,(i:Int))
def Uq (n:Nat) (T:List ZM):Nat->ZM
 | 0=>(0,0,-1)
 | m+1=>if (Uq n T m).2.2<0 then Naw T (n-1-m) else VB (Uq n T m) (Naw T (n-1-m))
def PU (T:List ZM):Nat->Int->List Int
 | 0,_=>[]
 | f+1,x=>if x<0 then [] else x::PU T f (gt T x.toNat).2.2
def Rx (P:List Int) (L:List Leg) (es:List Ev):List Int:=PU (OJ P L es es.length) es.length (Uq es.length (OJ P L es es.length) es.length).2.2
theorem Nav {n:Nat} {T:List ZM}:∀m,m<=n->(Uq n T m).2.2<n/\-1<=(Uq n T m).2.2
 | 0,_=>⟨by show (-1:Int)<n;omega,Oq _⟩
 | m+1,hm=>by
   have h1:(Naw T (n-1-m)).2.2<n/\-1<=(Naw T (n-1-m)).2.2:=by
    unfold Naw
    constructor<;>simp only<;>omega
   have h2:=Nav (n:=n) (T:=T) m (by omega)
   rw [Uq]
   unfold VB
   split
   ·exact h1
   ·split
    ·exact h2
    ·exact h1
theorem Nfc {n:Nat} {T:List ZM} (a:∀j,j<n->Yb n j (gt T j)):∀(f:Nat) (x:Int),x<n->∀k∈PU T f x,0<=k/\k<n
 | 0,_,_,k,hk=>by cases hk
 | f+1,x,hx,k,hk=>by
   rw [PU] at hk
   split at hk
   ·cases hk
   ·rename_i b
    rcases Np.1 hk with rfl | hk
    ·exact ⟨by omega,hx⟩
    ·refine Nfc a f _ ?_ k hk
     rcases a x.toNat (by omega) with e | e
     ·rw [e];omega
     ·exact e.2
theorem XU {T:List ZM}:∀(f:Nat) (x:Int),(PU T f x).length<=f
 | 0,_=>Nd _
 | f+1,x=>by
   rw [PU]
   split
   ·exact Nx _
   ·rw [Nl];have:=XU (T:=T) f (gt T x.toNat).2.2;omega
theorem Nva {P:List Int} {L:List Leg} {es:List Ev}:∀k∈Rx P L es,0<=k/\k<es.length:=
 Nfc (fun j a=>Ud _ (Nd _) j (by omega) a) _ _ (Nav _ (Nd _)).1
theorem Nwn (n:Nat):(List.range (n*3)).map (fun j=>[Value.int .i64 0,Value.int .i64 0,Value.int .i64 0].getD (j % 3) undef)=(List.replicate n ((0,0,0):ZM)).flatMap enc3:=by
 have h1:∀j,[Value.int .i64 0,Value.int .i64 0,Value.int .i64 0].getD (j % 3) undef=Value.int .i64 0:=fun j=>by
  have:j % 3=0\/j % 3=1\/j % 3=2:=by omega
  rcases this with e | e | e<;>rw [e]<;>rfl
 simp only [h1]
 rw [List.map_const',Ps]
 induction n with
 | zero=>rfl
 | succ n ih=>
   rw [Pe,Ox,<-ih,Pk]
   rfl
theorem tsl {T:List ZM} {n:Nat} (h:T.length=n) (p:Option Addr) (c:Nat):Value.slice p n c=Value.slice p T.length c:=by rw [h]
theorem N50 [OB] {lim R M B BT n:Nat} {S:List Nat} {pp pl pe:Option Addr} {P:List Int} {L:List Leg} {cp cl ce ct:Nat} {T:List ZM} {G:NE} {fr:Nat->Value} {K:List AItem} {Z:Value->NE->Prop} (p:lim<=B) (aa:n<=40) (hT:T.length=n) (U:∀j,j<n->Bnd n j (gt T j))
  (hP:PI lim R M S G pp pl cp cl P L) (hS:B∈S) (W:BT≠B) (N:NH G BT=Vc (T.flatMap enc3)) (hB:NH G B=Vc (enc3 (Uq n T 0)))
  (f1:fr 1=.slice pe n ce) (f5:fr 5=.slice (Sa BT) T.length ct) (f6:fr 6=.func (.func 108) #[] #[]) (f12:fr 12=Vp B) (f13:fr 13=Vi ((n:Int)-1))
  (hR:∀fr' G',Chg [B] G G'->PI lim R M S G' pp pl cp cl P L->NH G' B=Vc (enc3 (Uq n T n))->(∀j,j<=12->fr' j=fr j)->PQ E a72 lim K fr' G' Z) :
  PQ E a72 lim (.code (.loop Nzb)::.inBlock 4::K) fr G Z:=by
 refine NR (fun m=>n-m) (fun m fr' G'=>m<=n/\Chg [B] G G'/\PI lim R M S G' pp pl cp cl P L/\NH G' B=Vc (enc3 (Uq n T m))/\(∀j,j<=12->fr' j=fr j)/\fr' 13=Vi ((n:Int)-1-m)) 0
  ⟨Nx _,Chg.refl,hP,hB,fun j _=>rfl,by rw [f13];simp⟩ ?_
 intro m fr' G' ⟨hm,w,q,l,o,g⟩ hN
 rw [NT Nzb.eq_1]
 have I:=(o 5 (by decide)).trans f5
 have J:=(o 6 (by decide)).trans f6
 have s:=(o 12 (by decide)).trans f12
 refine NK ?_
 by_cases ab:m<n
 case neg=>
  obtain rfl:m=n:=by omega
  have e9:(m:Int)-1-(m:Int)=-1:=by omega
  rw [e9] at g
  simp only [n72,r72,g,SB,seval,NC,NJ,NF,NP,reduceCtorEq,NB,place,NA,ND]
  exact hR _ _ w.app (q.app _) ((OI.refl.app).cells l) fun j u=>by
   rw [<-o j u]
   simp only [upd]
   repeat rw [Nh (by omega)]
 generalize hi:n-1-m=i
 have e9:(n:Int)-1-(m:Int)=(i:Int):=by omega
 rw [e9] at g
 have V:i<n:=by omega
 have t:i<T.length:=by omega
 have v:Sl G' enc3 3 (Sa BT) T:=Sl.row (ro:=false) OY (w.cells N (by simp;exact W))
 have C:=fun X=>(v.app X).loadCell OY t (j:=0) (by decide)
 have D:=fun X=>(v.app X).loadCell OY t (j:=1) (by decide)
 simp only [enc3,O1,Qt] at C D
 have xj:=fun c (k:IntKind) (H1:NE)=>v.idx (c:=c) (k:=k) (H1:=H1) t
 have z:=U i V
 unfold Bnd at z
 have Y:IntKind.i64.wrap (30*(i:Int))=30*(i:Int):=NU (by omega) (by omega)
 have w2:IntKind.i64.wrap (30*(i:Int)+(gt T i).1)=30*(i:Int)+(gt T i).1:=NU (by omega) (by omega)
 have w3:IntKind.i64.wrap ((i:Int)-1)=(n:Int)-1-((m+1:Nat):Int):=by rw [NU (by omega) (by omega)];omega
 have i0:=N5 (show (0:Int)<=(i:Int) by omega)
 have e:lim<=G'.length:=by have:=w.len;have:=NM hB;omega
 have O:=NM l
 have r:Uq n T (m+1)=if (Uq n T m).2.2<0 then Naw T i else VB (Uq n T m) (Naw T i):=by rw [Uq,hi]
 generalize hx:Uq n T m=x at r
 rw [hx] at l
 have A:=l
 simp only [enc3] at A
 have H:=fun X=>(OI.refl.app (X:=X)).cells A
 have b:∀(X:NE) (mp:Bool) (lim:Nat) (Q:Value->NE->Prop),NL E mp lim 108 [.agg #[Vi x.1,Vi x.2.1,Vi x.2.2],.agg #[Vi (30*(i:Int)+(gt T i).1),Vi (gt T i).2.1,Vi i]] X Q=Q (.bool (YB x (Naw T i))) X:=fun X mp lim Q=>Nrc (x:=x) (y:=Naw T i)
 obtain ⟨G3,e3,h3,F⟩:=OP O (Vc [Vi (30*(i:Int)+(gt T i).1),Vi (gt T i).2.1,Vi i])
 have a:∀(f:Nat->Value),(∀j,j<=12->f j=fr' j)->∀j,j<=12->f j=fr j:=fun f h j u=>(h j u).trans (o j u)
 by_cases d:x.2.2<0
 ·rw [Ni d] at r
  simp only [n72,r72,I,J,s,g,C,D,xj,Y,w2,w3,i0,e,H,N5 d,p,e3,SB,seval,NC,NJ,NF,NP,reduceCtorEq,NB,place,NA,ND]
  exact hN (m+1) _ _ ⟨by omega,(w.mut F (.inl (by simp))).app,(q.chg (Chg.refl.mut F (.inl hS))).app _,by rw [r];exact (OI.refl.app).cells h3,a _ (fun j u=>by
   simp only [upd]
   repeat rw [Nh (by omega)]),by rfl⟩ (by omega)
 rw [Nh d] at r
 cases z:YB x (Naw T i) with
 | true=>
   rw [z] at b
   rw [VB,Ni z] at r
   simp only [n72,r72,I,J,s,g,C,D,xj,Y,w2,w3,i0,e,H,Ns d,p,b,SB,seval,NC,NJ,NF,NP,reduceCtorEq,NB,place,NA,ND]
   exact hN (m+1) _ _ ⟨by omega,w.app,q.app _,by rw [r];exact (OI.refl.app).cells l,a _ (fun j u=>by
    simp only [upd]
    repeat rw [Nh (by omega)]),by rfl⟩ (by omega)
 | false=>
   rw [z] at b
   rw [VB,Nh (by rw [z];decide)] at r
   simp only [n72,r72,I,J,s,g,C,D,xj,Y,w2,w3,i0,e,H,Ns d,p,b,e3,SB,seval,NC,NJ,NF,NP,reduceCtorEq,NB,place,NA,ND]
   exact hN (m+1) _ _ ⟨by omega,(w.mut F (.inl (by simp))).app,(q.chg (Chg.refl.mut F (.inl hS))).app _,by rw [r];exact (OI.refl.app).cells h3,a _ (fun j u=>by
    simp only [upd]
    repeat rw [Nh (by omega)]),by rfl⟩ (by omega)
theorem N38 [OB] {lim R M:Nat} {pp pl pe:Option Addr} {P:List Int} {L:List Leg} {cp cl ce:Nat} {es:List Ev} {H:NE} {Q:Value->NE->Prop} (h:PI lim R M [] H pp pl cp cl P L) (ad:lim<=H.length)
  (hs:Sl H encE 7 pe es) (O:es.length<=40) (ht:∀i,i<es.length->0<=(gt es i).time/\(gt es i).time<=OC)
  (hQ:∀G q cq,Chg [M] H G->PI lim R M [] G pp pl cp cl P L->Own H.length G encI 1 q cq (Rx P L es)->Q (.slice q (Rx P L es).length cq) G) :
  NL E false lim 72 [Vp R,.slice pe es.length ce] H Q:=by
 refine R5 (by decide) e72 rfl ?_
 rw [b72,c72]
 have w1:IntKind.i64.wrap ((es.length:Int)-1)=(es.length:Int)-1:=NU (by omega) (by omega)
 have z3:=Nwn es.length
 have ay:=h.alive
 have ap:=N5 (show 0<=(es.length:Int)/\(es.length:Int)*24<=2 ^ 45/\(es.length:Int)<2 ^ 62 by omega)
 simp only [n72,r72,w1,ap,z3,SB,Nat.reduceLT,NC,NJ,Nat.reduceEqDiff,NF,NP,reduceCtorEq,NB,place,NA,Nat.reduceAdd,Nat.reduceLeDiff,ND,Int.reduceEq,Int.reduceLT,Int.reduceLE]
 refine NR (fun k=>es.length-k) (fun k fr G=>k<=es.length/\fr 0=Vp R/\fr 1=.slice pe es.length ce/\fr 5=.slice (Sa H.length) es.length es.length/\fr 6=.func (.func 108) #[] #[]/\fr 7=Vi ((es.length:Int)-1-k)/\Chg [M] H G/\PI lim R M [H.length] G pp pl cp cl P L/\NH G H.length=Vc ((OJ P L es k).flatMap enc3)) 0
  ⟨Nx _,rfl,rfl,rfl,rfl,by rw [show ((es.length:Int)-1-((0:Nat):Int))=(es.length:Int)-1 by omega];rfl,Chg.refl.app,h.grow _ (Nd _) (by simp),by rw [NS];rfl⟩ ?_
 ·intro k fr G ⟨hk,g0,Z,w,g6,Y,J,y,F⟩ hN
  rw [NT N5b.eq_1]
  refine NK ?_
  by_cases az:k<es.length
  case neg=>
   obtain rfl:k=es.length:=by omega
   have e7:(es.length:Int)-1-(es.length:Int)=-1:=by omega
   rw [e7] at Y
   have d:lim<=G.length:=by have:=J.len;omega
   simp only [n72,r72,g0,Z,w,g6,Y,w1,d,SB,seval,NC,NJ,NF,NP,reduceCtorEq,NB,place,NA,ND]
   have o:=TY (P:=P) (L:=L) (es:=es) es.length
   have al:=X9 (P:=P) (L:=L) (es:=es) es.length (Nd _)
   have aj:=NM F
   rw [tsl o] at w
   refine N50 (B:=G.length) (BT:=H.length) (n:=es.length) (T:=OJ P L es es.length) (R:=R) (M:=M) (S:=[G.length,H.length]) (P:=P) (L:=L) (pp:=pp) (pl:=pl) (cp:=cp) (cl:=cl) (pe:=pe) (ce:=ce) (ct:=es.length) d O o (fun j D=>al j D) (y.grow _ (Nd _) (by simp)) (by simp) (by omega) ((OI.refl.app).cells F) (by rw [NS];rfl) Z w g6 rfl rfl fun fr' G1 u A z t=>?_
   have q5:fr' 5=.slice (Sa H.length) (OJ P L es es.length).length es.length:=(t 5 (by decide)).trans w
   have aw:fr' 12=Vp G.length:=(t 12 (by decide)).trans rfl
   have V:=u.len
   simp at V
   have I:=u.cells ((OI.refl.app).cells F) (by simp;omega)
   simp only [enc3] at z
   have XB:=fun X=>(OI.refl.app (X:=X)).cells z
   have av:=Nav (n:=es.length) (T:=OJ P L es es.length) es.length (Nd _)
   have ai:Chg [M] H G1:=(J.app (X:=[Vc [Vi 0,Vi 0,Vi (-1)]])).trans' u fun j D am=>by simp at D;omega
   refine NK ?_
   simp only [n72,r72,q5,aw,XB,SB,seval,NC,NJ,NF,NP,reduceCtorEq,NB,place,NA,ND]
   refine NR (fun s:Nat×Int×List Int×Option Addr×Nat=>s.1) (fun s fr G=>fr 5=.slice (Sa H.length) (OJ P L es es.length).length es.length/\fr 16=Vi s.2.1/\fr 15=.slice s.2.2.2.1 s.2.2.1.length s.2.2.2.2/\Chg [M] H G/\PI lim R M (opB s.2.2.2.1++[H.length]) G pp pl cp cl P L/\NH G H.length=Vc ((OJ P L es es.length).flatMap enc3)/\Own (H.length+1) G encI 1 s.2.2.2.1 s.2.2.2.2 s.2.2.1/\
     s.2.2.1++PU (OJ P L es es.length) s.1 s.2.1=Rx P L es/\s.2.1<es.length/\(s.2.1<0\/(es.length:Int)-s.2.1<=s.1)/\s.2.2.1.length+s.1=es.length) (es.length,(Uq es.length (OJ P L es es.length) es.length).2.2,[],none,0)
    ⟨q5,rfl,by rfl,ai.app,(A.sub (fun q v=>by simp [opB] at v;simp [v])).app _,(OI.refl.app).cells I,.nil,rfl,av.1,by simp only;omega,by simp⟩ ?_
   rintro ⟨f,x,l,pw,cw⟩ fr G ⟨w,N,K,J,y,F,hO,C,hx,hf,ao⟩ hN
   simp only at w N K y hO C hx hf ao
   rw [NT N5c.eq_1]
   refine NK ?_
   by_cases W:0<=x
   case neg=>
    have e:PU (OJ P L es es.length) f x=[]:=by
     cases f with
     | zero=>rfl
     | succ f=>rw [PU,Ni (by omega)]
    rw [e,Nb] at C
    subst C
    simp only [n72,r72,w,N,K,Ns W,SB,seval,NC,NJ,NF,NP,reduceCtorEq,NB,place,NA,ND]
    exact hQ _ _ _ J.app ((y.sub (fun q v=>by cases v)).app _) ((hO.le (by omega)).app _)
   obtain ⟨j,rfl⟩:=Int.eq_ofNat_of_zero_le W
   obtain ⟨f,rfl⟩:∃g,f=g+1:=⟨f-1,by omega⟩
   rw [PU,Nh (by omega),Ob] at C
   have ab:j<(OJ P L es es.length).length:=by omega
   have aq:=Ud (P:=P) (L:=L) (es:=es) es.length (Nd _) j (by omega) (by omega)
   have ax:=NM F
   obtain ⟨G4,e4,O4,C4,ac⟩:=Own.moreF hO (lim':=lim) (bytes:=8) (by omega) RP (by decide) [(j:Int)] (by simp) (by simp;unfold PS;omega) (by simp;omega) [Vc [Vi j]] (x:=.slice (Sa G.length) 1 1) (str:=false)
    (WH (m:=[(j:Int)]) (Sl.row (ro:=false) RP (by rw [NS];rfl))) rfl
   have ae:∀j,j∈opB pw->H.length+1<=j/\j<G.length:=fun j D=>by
    cases hpe:pw with
    | none=>rw [hpe] at D;cases D
    | some a=>rw [hpe] at D;have:=hO.block hpe;simp [opB] at D;omega
   generalize ar:(G++[Vc [Vi j]]).length=r at e4 O4 ac
   have au:G.length<=r:=by rw [<-ar];simp
   generalize loose 1=c' at e4 O4
   simp only [Nl,Nr,N6] at e4
   have aa:=C4.cells F fun hm=>by have:=ae _ hm;omega
   have ag:=Sl.row (R:=H.length) (ro:=false) OY aa
   have l2:=fun X=>(ag.app X).loadCell OY ab (j:=2) (by decide)
   simp only [enc3,O1,Qt] at l2
   have xj:=fun c (k:IntKind) (H1:NE)=>ag.idx (c:=c) (k:=k) (H1:=H1) ab
   simp only [n72,r72,w,N,K,e4,l2,xj,N5 W,SB,seval,NC,NJ,NF,NP,reduceCtorEq,NB,place,NA,ND]
   have k1:=(y.growC (b:=r) (G':=G4) (C4.mono fun q _ v=>Ou _ v) au ac).sub (S':=opB (Sa r)++[H.length]) fun q v=>by
    simp [opB] at v
    rcases v with e | e
    ·simp [e]
    ·simp [e]
   have ah:(gt (OJ P L es es.length) j).2.2<es.length/\((gt (OJ P L es es.length) j).2.2<0\/(es.length:Int)-(gt (OJ P L es es.length) j).2.2<=(f:Int)):=by
    rcases aq with e | e
    ·exact ⟨by omega,.inl (by omega)⟩
    ·exact ⟨e.2,.inr (by omega)⟩
   exact hN (f,(gt (OJ P L es es.length) j).2.2,l++[(j:Int)],Sa r,c') _ _ ⟨w,by rfl,by show _=Value.slice _ (l++[(j:Int)]).length _;rw [Nm];rfl,
    (J.trans' C4 fun q v a0=>by have:=ae q v;omega).app,k1.app _,(OI.refl.app).cells aa,(O4.le (by omega)).app _,by rw [Nn];exact C,ah.1,ah.2,by simp only [Nm,Qu];omega⟩ (by show f<f+1;omega)
  generalize hi:es.length-1-k=i
  have e7:(es.length:Int)-1-(k:Int)=(i:Int):=by omega
  rw [e7] at Y
  have U:i<es.length:=by omega
  have w2:IntKind.i64.wrap ((es.length:Int)-1-i)=(es.length:Int)-1-i:=NU (by omega) (by omega)
  have w3:IntKind.i64.wrap (30*((es.length:Int)-1-i))=30*((es.length:Int)-1-i):=NU (by omega) (by omega)
  have w4:IntKind.i64.wrap ((i:Int)-1)=(es.length:Int)-1-((k+1:Nat):Int):=by rw [NU (by omega) (by omega)];omega
  have d:lim<=G.length:=by have:=J.len;omega
  have i0:=N5 (show (0:Int)<=(i:Int) by omega)
  have o:=TY (P:=P) (L:=L) (es:=es) k
  have aj:=NM F
  simp only [n72,r72,g0,Z,w,g6,Y,w1,w2,w3,d,i0,SB,seval,NC,NJ,NF,NP,reduceCtorEq,NB,place,NA,ND]
  rw [tsl o] at w
  refine Nzw (B8:=G.length) (BT:=H.length) (S:=[G.length,H.length]) (i:=i) (T:=OJ P L es k) (P:=P) (L:=L) (R:=R) (M:=M) (pp:=pp) (pl:=pl) (cp:=cp) (cl:=cl) (es:=es) (pe:=pe) (ce:=ce) (ct:=es.length) U d (by simp) (by simp) O ht o (Nu8 O o (X9 k (by omega)))
   (y.grow _ (Nd _) (by simp)) (((hs.sim (h.chgk J))).app _) ((OI.refl.app).cells F) (by rw [NS];rfl) g0 Z w g6 Y rfl rfl fun fr' G1 u A z t=>?_
  have q0:fr' 0=Vp R:=(t 0 (by decide)).trans g0
  have q1:fr' 1=.slice pe es.length ce:=(t 1 (by decide)).trans Z
  have q5:fr' 5=.slice (Sa H.length) (OJ P L es k).length es.length:=(t 5 (by decide)).trans w
  have q6:fr' 6=.func (.func 108) #[] #[]:=(t 6 (by decide)).trans g6
  have q7:fr' 7=Vi i:=(t 7 (by decide)).trans Y
  have q8:fr' 8=Vp G.length:=(t 8 (by decide)).trans rfl
  have an:es.length-1-i=k:=by omega
  rw [an] at z
  have ak:H.length∉[M,G.length]:=by simp;omega
  have I:=u.cells ((OI.refl.app).cells F) ak
  obtain ⟨G2,e2,h2,m2⟩:=Nay (lim:=lim) (p:=Sa H.length) OY rfl I ad (i:=i) (by rw [o];exact U) (RG P L es (OJ P L es k) i k)
  have xT:=fun c (kk:IntKind) (H1:NE)=>(Sl.row (R:=H.length) (ro:=false) OY I).idx (c:=c) (k:=kk) (H1:=H1) (i:=i) (by rw [o];exact U)
  have XB:=fun X=>(OI.refl.app (X:=X)).cells z
  have et:OJ P L es (k+1)=(OJ P L es k).set i (RG P L es (OJ P L es k) i k):=by rw [OJ,hi]
  refine NK ?_
  simp only [n72,r72,q0,q1,q5,q6,q7,q8,XB,OY,NI,e2,xT,w4,SB,seval,NC,NJ,NF,NP,reduceCtorEq,NB,place,NA,ND]
  have V:=u.len
  simp at V
  exact hN (k+1) _ _ ⟨by omega,q0,q1,(by simp only [q5,o,FB,Nat.reduceEqDiff]),q6,rfl,(((J.app (X:=[Vc (enc3 (RG P L es (OJ P L es k) i 0))])).trans' u fun j D am=>by simp at D;simp;omega).mut m2 (.inr (by omega))).app,((A.chg (Chg.refl.mut m2 (.inl (by simp)))).sub (fun q v=>by simp at v;simp [v])).app _,by rw [et];exact (OI.refl.app).cells h2⟩ (by omega)
theorem N4w [OB] {lim:Nat} {pp pl pe:Option Addr} {P:List Int} {L:List Leg} {cp cl ce:Nat} {es:List Ev} {H:NE} {Q:Value->NE->Prop} (hn:NetIn H pp pl P L) (d:lim<=H.length)
  (hs:Sl H encE 7 pe es) (U:es.length<2 ^ 62)
  (t:∀G,Yi P L es≠0->Chg [] H G->Q (.tuple #[.agg #[Vz,Vz,Vi 0],Vi (Yi P L es)]) G)
  (z:∀G q cq r cr,Yi P L es=0->Chg [] H G->Wx H.length G encI 1 q (Rx P L es)->Wx H.length G enc3 3 r (RV P L es (Rx P L es))->Q (.tuple #[.agg #[.slice q (Rx P L es).length cq,.slice r (RV P L es (Rx P L es)).length cr,Vi (Tp P L es (Rx P L es))],Vi 0]) G) :
  NL E false lim 37 [.agg (SC pp P.length cp pl L.length cl).toArray,.slice pe es.length ce] H Q:=by
 refine R5 (by decide) e37 rfl ?_
 rw [b37,c37]
 have c:=fun X (mp:Bool) (lim:Nat) (Q:Value->NE->Prop)=>N0x (mp:=mp) (lim:=lim) (cp:=cp) (cl:=cl) (ce:=ce) (Q:=Q) (hn.app X) (hs.app X) (by omega)
 by_cases l:Yi P L es=0
 case neg=>
  simp only [n37,r37,OQ,Sg,Sd,NI,c,Ns l,d,SB,seval,NC,NJ,NF,NP,reduceCtorEq,NB,place,NA,ND]
  exact t _ l Chg.refl.app
 obtain ⟨V,m,hev⟩:=N64 l
 have I:=fun i (hi:i<es.length)=>And.intro (hev i hi).2.1 (hev i hi).2.2.1
 simp only [n37,r37,OQ,Sg,Sd,NI,c,N5 l,d,SB,seval,NC,NJ,NF,NP,reduceCtorEq,NB,place,NA,ND]
 refine Niu (lim:=lim) (hn.app _) (by simp;omega) fun G1 R M f S O p=>?_
 have x:=f.len
 simp at x S O
 have b:OI H G1:=(OI.refl.app).trans f
 have W:NH G1 (H.length+1)=Vc [Vz,Vz,Vi 0]:=f.cells (by rw [NW];rfl)
 refine NK ?_
 simp only [n37,r37,SB,seval,NC,NJ,NF,NP,reduceCtorEq,NB,place,NA,ND]
 refine N38 (p.app _) (by simp;omega) ((b.sl hs).app _) m I fun G2 q cq e s o=>?_
 have y:=e.len
 simp at y
 have D:Chg [M] H G2:=((OI.chg (A:=[M]) b).trans e.pre)
 have a:=e.pre
 refine NK ?_
 simp only [n37,r37,SB,seval,NC,NJ,NF,NP,reduceCtorEq,NB,place,NA,ND]
 refine N2i (s.app _) (by simp;omega) (((b.sl hs).sim (p.chgk a)).app _) m I ((o.sl RP).app _) (by have:=XU (T:=OJ P L es es.length) es.length (Uq es.length (OJ P L es es.length) es.length).2.2;unfold Rx;omega) (fun B=>by
  rcases o with ⟨_,_,k⟩ | ⟨R,k,_⟩
  ·exact k
  ·rw [B] at k;cases k) Nva fun G3 J h r cr n F B hr=>?_
 have u:=n.cells ((OI.refl.app (X:=[])).cells (a.cells W (by simp;omega))) (by simp;omega)
 obtain ⟨G4,K,N,C⟩:=OP (NM u) (Vc [.slice J (Rx P L es).length h,.slice r (RV P L es (Rx P L es)).length cr,Vi (Tp P L es (Rx P L es))])
 have Y:=fun X=>(OI.refl.app (X:=X)).cells u
 have Z:=fun X=>(OI.refl.app (X:=X)).cells N
 have g:lim<=H.length+1:=by omega
 refine NK ?_
 simp only [n37,r37,Y,K,Z,g,SB,seval,NC,NJ,NF,NP,reduceCtorEq,NB,place,NA,ND]
 exact z _ J h r cr l ((((OI.chg (A:=[]) b).trans' a fun j v w=>by simp at v;omega).trans' n.pre fun j v w=>by simp at v;omega).mut C (.inr (by omega))).app (((B.mut C (by simp;omega)).le (by simp;omega)).app _) (((hr.mut C (by simp;omega)).le (by simp;omega)).app _)
def ZQ:List Int->List Int->Prop
 | [],_=>True
 | _::_,[]=>False
 | x::l,y::m=>x<y\/(x=y/\ZQ l m)
theorem ZQ.refl:∀l,ZQ l l
 | []=>trivial
 | x::l=>.inr ⟨rfl,ZQ.refl l⟩
theorem ZQ.trans:∀{a b c:List Int},ZQ a b->ZQ b c->ZQ a c
 | [],_,_,_,_=>trivial
 | x::a,[],c,h,_=>by cases h
 | x::a,y::b,[],_,h=>by cases h
 | x::a,y::b,z::c,h1,h2=>by
   rcases h1 with h1 | ⟨rfl,h1⟩
   ·rcases h2 with h2 | ⟨rfl,h2⟩
    ·exact .inl (by omega)
    ·exact .inl h1
   ·rcases h2 with h2 | ⟨rfl,h2⟩
    ·exact .inl h2
    ·exact .inr ⟨rfl,h1.trans h2⟩
def BE (c k:Int) (l:List Int) (a k':Int) (b:List Int):Prop:=c<a\/(c=a/\(k'<k\/(k=k'/\ZQ l b)))
theorem BE.refl {c k:Int} {l:List Int}:BE c k l c k l:=.inr ⟨rfl,.inr ⟨rfl,ZQ.refl l⟩⟩
theorem BE.trans {a b c x y z:Int} {l m r:List Int} (h1:BE a x l b y m) (h2:BE b y m c z r):BE a x l c z r:=by
 rcases h1 with h1 | ⟨rfl,h1⟩
 ·rcases h2 with h2 | ⟨rfl,h2⟩
  ·exact .inl (by omega)
  ·exact .inl h1
 ·rcases h2 with h2 | ⟨rfl,h2⟩
  ·exact .inl h2
  ·refine .inr ⟨rfl, ?_⟩
   rcases h1 with h1 | ⟨rfl,h1⟩
   ·rcases h2 with h2 | ⟨rfl,h2⟩
    ·exact .inl (by omega)
    ·exact .inl h1
   ·rcases h2 with h2 | ⟨rfl,h2⟩
    ·exact .inl h2
    ·exact .inr ⟨rfl,h1.trans h2⟩
theorem BE.lift {c k a k' d i:Int} {l b:List Int} (h:BE c k l a k' b):BE (d+c) (k+1) (i::l) (d+a) (k'+1) (i::b):=by
 rcases h with h | ⟨rfl,h | ⟨rfl,h⟩⟩
 ·exact .inl (by omega)
 ·exact .inr ⟨rfl,.inl (by omega)⟩
 ·exact .inr ⟨rfl,.inr ⟨rfl,.inr ⟨rfl,h⟩⟩⟩
section
variable {P:List Int} {L:List Leg} {es:List Ev}
def rcI (P:List Int) (L:List Leg) (es:List Ev):List Int->Int
 | []=>0
 | [i]=>30*((es.length:Int)-1-i)
 | i::j::l=>R4 P L (gt es i.toNat) (gt es j.toNat)+30*(j-i-1)+rcI P L es (j::l)
def Asc (n:Nat):List Int->Prop
 | []=>True
 | [i]=>0<=i/\i<n
 | i::j::l=>0<=i/\i<j/\Asc n (j::l)
theorem Asc.head {n:Nat}:∀{i:Int} {l:List Int},Asc n (i::l)->0<=i/\i<n
 | i,[],h=>h
 | i,j::l,h=>⟨h.1,by have:=h.2.2.head;have:=h.2.1;omega⟩
theorem Nb0 {T a:List ZM} {i:Nat}:∀m,m<=es.length->(∀j,es.length-m<=j->j<es.length->gt T j=gt a j)->RG P L es T i m=RG P L es a i m
 | 0,_,_=>rfl
 | m+1,hm,h=>by
   rw [RG,RG,Nb0 m (by omega) fun j h1 h2=>h j (by omega) h2]
   unfold YR
   rw [h _ (by omega) (by omega)]
theorem Yr:∀d k,k+d<=es.length->∀j,es.length-k<=j->j<es.length->gt (OJ P L es (k+d)) j=gt (OJ P L es k) j
 | 0,k,_,j,_,_=>rfl
 | d+1,k,h,j,h1,h2=>by
   rw [<-O7,OJ,Ni8 (by rw [TY];omega),Nh (by omega)]
   exact Yr d k (by omega) j h1 h2
theorem Nsc {i:Nat} (hi:i<es.length):gt (OJ P L es es.length) i=RG P L es (OJ P L es es.length) i (es.length-1-i):=by
 obtain ⟨k,hk⟩:∃k,es.length-1-i=k:=⟨_,rfl⟩
 have h1:=Yr (P:=P) (L:=L) (es:=es) (es.length-(k+1)) (k+1) (by omega) i (by omega) hi
 rw [show k+1+(es.length-(k+1))=es.length by omega] at h1
 rw [h1,OJ,Ni8 (by rw [TY];omega),Ni (by omega),hk,show es.length-1-k=i by omega]
 refine Nb0 k (by omega) fun j h2 b=>?_
 have a:=Yr (P:=P) (L:=L) (es:=es) (es.length-k) k (by omega) j h2 b
 rw [show k+(es.length-k)=es.length by omega] at a
 exact a.symm
variable {F:List ZM} {n:Nat}
theorem Nfb (a:∀j,j<n->Yb n j (gt F j)):∀(f:Nat) (x:Int),(x<0\/(x<n/\(n:Int)-x<=f))->PU F (f+1) x=PU F f x
 | 0,x,h=>by
   have e:PU F (0+1) x=if x<0 then [] else x::PU F 0 (gt F x.toNat).2.2:=rfl
   rw [e,Ni (by omega)]
   rfl
 | f+1,x,h=>by
   have e:PU F (f+1+1) x=if x<0 then [] else x::PU F (f+1) (gt F x.toNat).2.2:=rfl
   have b:PU F (f+1) x=if x<0 then [] else x::PU F f (gt F x.toNat).2.2:=rfl
   rw [e,b]
   split
   ·rfl
   ·rename_i c
    congr 1
    refine Nfb a f _ ?_
    rcases a x.toNat (by omega) with e | e
    ·exact .inl (by omega)
    ·exact .inr ⟨e.2,by omega⟩
theorem Nht {x:Int} {f:Nat} (a:x<0):PU F f x=[]:=by
 cases f with
 | zero=>rfl
 | succ f=>rw [PU,Ni a]
theorem Vb (a:∀j,j<n->Yb n j (gt F j)) {i:Nat} (hi:i<n):PU F n (i:Int)=(i:Int)::PU F n (gt F i).2.2:=by
 obtain ⟨m,rfl⟩:∃m,n=m+1:=⟨n-1,by omega⟩
 rw [PU,Nh (by omega),Ob,Nfb a m]
 rcases a i hi with e | e
 ·exact .inl (by omega)
 ·exact .inr ⟨e.2,by omega⟩
structure RestOk (P:List Int) (L:List Leg) (es:List Ev) (x:ZM) (l:List Int):Prop where
 cost:x.1=rcI P L es l
 count:x.2.1=l.length
 asc:Asc es.length l
theorem Nkk (w:∀j,j<es.length->Yb es.length j (gt F j)) {i:Nat} (hi:i<es.length)
  (ih:∀j,i<j->j<es.length->RestOk P L es (gt F j) (PU F es.length j)/\∀l,Asc es.length ((j:Int)::l)->BE (gt F j).1 (gt F j).2.1 (PU F es.length j) (rcI P L es (j::l)) ((j::l:List Int).length:Int) (j::l)) :
  ∀m,m<=es.length-1-i->RestOk P L es (RG P L es F i m) (i::PU F es.length (RG P L es F i m).2.2)/\((RG P L es F i m).2.2=-1\/((es.length:Int)-m<=(RG P L es F i m).2.2/\(RG P L es F i m).2.2<es.length))/\
   ∀l,Asc es.length ((i:Int)::l)->(∀j r,l=j::r->(es.length:Int)-m<=j)->BE (RG P L es F i m).1 (RG P L es F i m).2.1 (i::PU F es.length (RG P L es F i m).2.2) (rcI P L es (i::l)) ((i::l:List Int).length:Int) (i::l)
 | 0,_=>by
   have e:PU F es.length (-1)=[]:=Nht (by omega)
   refine ⟨⟨?_, ?_, ?_⟩,.inl rfl,fun l k hl=>?_⟩
   ·show _=rcI P L es (i::PU F es.length (-1));rw [e];rfl
   ·show _=((i::PU F es.length (-1):List Int).length:Int);rw [e];rfl
   ·show Asc _ (i::PU F es.length (-1));rw [e];exact ⟨by omega,by omega⟩
   ·cases l with
    | nil=>show BE _ _ (i::PU F es.length (-1)) _ _ _;rw [e];exact BE.refl
    | cons j r=>
      have h1:=hl j r rfl
      have h2:=(k.2.2).head
      omega
 | m+1,hm=>by
   obtain ⟨⟨z,u,A⟩,s,f⟩:=Nkk w hi ih m (by omega)
   generalize H:es.length-1-m=j
   have p:j<es.length:=by omega
   obtain ⟨⟨E,v,B⟩,hd⟩:=ih j (by omega) p
   have g:=Vb (F:=F) w p
   have G:RG P L es F i (m+1)=VB (RG P L es F i m) (YR P L es F i j):=by rw [RG,H]
   rw [G]
   generalize M:RG P L es F i m=x at z u A s f
   generalize hr:YR P L es F i j=r
   have C:r.1=R4 P L (gt es i) (gt es j)+30*((j:Int)-i-1)+(gt F j).1:=by rw [<-hr];rfl
   have r2:r.2.1=(gt F j).2.1+1:=by rw [<-hr];rfl
   have J:r.2.2=(j:Int):=by rw [<-hr];rfl
   have D:∀l,Asc es.length ((i:Int)::(j:Int)::l)->BE r.1 r.2.1 (i::PU F es.length j) (rcI P L es (i::j::l)) ((i::j::l:List Int).length:Int) (i::j::l):=fun l hl=>by
    have:=(hd l hl.2.2).lift (d:=R4 P L (gt es i) (gt es j)+30*((j:Int)-i-1)) (i:=(i:Int))
    rw [C,r2]
    exact this
   unfold VB
   split
   ·rename_i c
    unfold YB at c
    rw [Oa] at c
    refine ⟨⟨z,u,A⟩,by omega,fun l k hl=>?_⟩
    cases l with
    | nil=>exact f [] k (fun j r h=>by cases h)
    | cons a t=>
      by_cases n:a=(j:Int)
      ·subst n
       have h1:=D t k
       refine BE.trans (b:=r.1) (y:=r.2.1) (m:=i::PU F es.length j) ?_ h1
       rcases c with h | ⟨h,h'⟩
       ·exact .inl h
       ·exact .inr ⟨h,.inl h'⟩
      ·refine f _ k fun a' K e=>?_
       have h1:=hl a t rfl
       cases e
       omega
   ·rename_i c
    unfold YB at c
    rw [Oa] at c
    rw [J]
    refine ⟨⟨?_, ?_, ?_⟩,.inr ⟨by omega,by omega⟩,fun l k hl=>?_⟩
    ·rw [C,E,g];rfl
    ·rw [r2,v];simp
    ·rw [g];rw [g] at B;exact ⟨by omega,by omega,B⟩
    ·have o:BE r.1 r.2.1 (i::PU F es.length j) x.1 x.2.1 (i::PU F es.length x.2.2):=by
      rcases Q0 r.1 x.1 with h | h | h
      ·exact .inl h
      ·refine .inr ⟨h, ?_⟩
       rcases Q0 x.2.1 r.2.1 with h' | h' | h'
       ·exact .inl h'
       ·refine .inr ⟨h'.symm,.inr ⟨rfl, ?_⟩⟩
        rcases s with e | ⟨e1,e2⟩
        ·exfalso
         rw [e,Nht (by omega)] at u
         rw [g] at v
         simp at u v
         omega
        ·obtain ⟨q,I⟩:=Int.eq_ofNat_of_zero_le (show 0<=x.2.2 by omega)
         rw [I,g,Vb (F:=F) w (show q<es.length by omega)]
         exact .inl (by omega)
       ·exact absurd (.inr ⟨h.symm,h'⟩) c
      ·exact absurd (.inl h) c
     cases l with
     | nil=>exact o.trans (f [] k (fun j r h=>by cases h))
     | cons a t=>
       by_cases n:a=(j:Int)
       ·subst n
        exact D t k
       ·refine o.trans (f _ k fun a' K e=>?_)
        have h1:=hl a t rfl
        cases e
        omega
end
section
variable {P:List Int} {L:List Leg} {es:List Ev}
theorem Na4:∀(k i:Nat),es.length-i<=k->i<es.length->RestOk P L es (gt (OJ P L es es.length) i) (PU (OJ P L es es.length) es.length i)/\
  ∀l,Asc es.length ((i:Int)::l)->BE (gt (OJ P L es es.length) i).1 (gt (OJ P L es es.length) i).2.1 (PU (OJ P L es es.length) es.length i) (rcI P L es (i::l)) ((i::l:List Int).length:Int) (i::l)
 | 0,i,h,hi=>by omega
 | k+1,i,h,hi=>by
   have b:∀j,j<es.length->Yb es.length j (gt (OJ P L es es.length) j):=fun j c=>Ud _ (Nd _) j (by omega) c
   obtain ⟨h1,h2,a⟩:=Nkk b hi (fun j h1 h2=>Na4 k j (by omega) h2) (es.length-1-i) (Nd _)
   rw [<-Nsc hi] at h1 h2 a
   rw [<-Vb b hi] at h1 a
   exact ⟨h1,fun l hl=>a l hl fun j r e=>by
    subst e
    have:=hl.2.1
    omega⟩
theorem BE.add {c k a k':Int} {l l':List Int} (d:Int) (h:BE c k l a k' l'):BE (d+c) k l (d+a) k' l':=by
 rcases h with h | ⟨rfl,h⟩
 ·exact .inl (by omega)
 ·exact .inr ⟨rfl,h⟩
def tot (P:List Int) (L:List Leg) (es:List Ev):List Int->Int
 | []=>0
 | i::l=>30*i+rcI P L es (i::l)
theorem Nj4:∀m,m<=es.length->0<m->∃h:Nat,h<es.length/\es.length-m<=h/\(Uq es.length (OJ P L es es.length) m).2.2=h/\(Uq es.length (OJ P L es es.length) m).1=tot P L es (PU (OJ P L es es.length) es.length h)/\(Uq es.length (OJ P L es es.length) m).2.1=(PU (OJ P L es es.length) es.length h).length/\
  ∀j l,Asc es.length (j::l)->(es.length:Int)-m<=j->BE (Uq es.length (OJ P L es es.length) m).1 (Uq es.length (OJ P L es es.length) m).2.1 (PU (OJ P L es es.length) es.length h) (tot P L es (j::l)) ((j::l).length:Int) (j::l)
 | 0,_,h=>by omega
 | m+1,hm,_=>by
   have u:∀j,j<es.length->Yb es.length j (gt (OJ P L es es.length) j):=fun j g=>Ud _ (Nd _) j (by omega) g
   generalize hi:es.length-1-m=i
   have c:i<es.length:=by omega
   have ⟨⟨A,B,D⟩,C⟩:=Na4 (P:=P) (L:=L) (es:=es) es.length i (by omega) c
   have e:=Vb (F:=OJ P L es es.length) u c
   have f:Uq es.length (OJ P L es es.length) (m+1)=if (Uq es.length (OJ P L es es.length) m).2.2<0 then Naw (OJ P L es es.length) i else VB (Uq es.length (OJ P L es es.length) m) (Naw (OJ P L es es.length) i):=by rw [Uq,hi]
   generalize hr:Naw (OJ P L es es.length) i=r at f
   have v:r.1=30*(i:Int)+(gt (OJ P L es es.length) i).1:=by rw [<-hr];rfl
   have r2:r.2.1=(gt (OJ P L es es.length) i).2.1:=by rw [<-hr];rfl
   have w:r.2.2=(i:Int):=by rw [<-hr];rfl
   have rt:r.1=tot P L es (PU (OJ P L es es.length) es.length i):=by rw [v,A,e];rfl
   have z:r.2.1=(PU (OJ P L es es.length) es.length i).length:=by rw [r2,B]
   have o:∀l,Asc es.length ((i:Int)::l)->BE r.1 r.2.1 (PU (OJ P L es es.length) es.length i) (tot P L es (i::l)) ((i::l:List Int).length:Int) (i::l):=fun l hl=>by
    rw [v,r2];exact (C l hl).add _
   by_cases n:m=0
   ·subst n
    have e0:Uq es.length (OJ P L es es.length) (0+1)=r:=by rw [f,Ni];show (-1:Int)<0;decide
    rw [e0]
    refine ⟨i,c,by omega,w,rt,z,fun j l hl g=>?_⟩
    have:=hl.head
    obtain rfl:j=(i:Int):=by omega
    exact o l hl
   obtain ⟨h,h1,h2,p,s,t,k⟩:=Nj4 m (by omega) (by omega)
   rw [Nh (by omega)] at f
   rw [f]
   generalize Uq es.length (OJ P L es es.length) m=x at p s t k
   unfold VB
   split
   ·rename_i a
    unfold YB at a
    rw [Oa] at a
    refine ⟨h,h1,by omega,p,s,t,fun j l hl g=>?_⟩
    by_cases d:j=(i:Int)
    ·subst d
     refine BE.trans (b:=r.1) (y:=r.2.1) ?_ (o l hl)
     rcases a with h | ⟨h,h'⟩
     ·exact .inl h
     ·exact .inr ⟨h,.inl h'⟩
    ·exact k j l hl (by omega)
   ·rename_i a
    unfold YB at a
    rw [Oa] at a
    refine ⟨i,c,by omega,w,rt,z,fun j l hl g=>?_⟩
    by_cases d:j=(i:Int)
    ·subst d
     exact o l hl
    ·refine BE.trans ?_ (k j l hl (by omega))
     rcases Q0 r.1 x.1 with h' | h' | h'
     ·exact .inl h'
     ·refine .inr ⟨h', ?_⟩
      rcases Q0 x.2.1 r.2.1 with q | q | q
      ·exact .inl q
      ·refine .inr ⟨q.symm, ?_⟩
       rw [e,Vb (F:=OJ P L es es.length) u h1]
       exact .inl (by omega)
      ·exact absurd (.inr ⟨h'.symm,q⟩) a
     ·exact absurd (.inl h') a
theorem Nfm (hn:0<es.length):Rx P L es≠[]/\Asc es.length (Rx P L es)/\∀j l,Asc es.length (j::l)->BE (tot P L es (Rx P L es)) ((Rx P L es).length:Int) (Rx P L es) (tot P L es (j::l)) ((j::l).length:Int) (j::l):=by
 have f:∀j,j<es.length->Yb es.length j (gt (OJ P L es es.length) j):=fun j g=>Ud _ (Nd _) j (by omega) g
 obtain ⟨h,h1,h2,a,b,c,d⟩:=Nj4 (P:=P) (L:=L) (es:=es) es.length (Nd _) hn
 have e:Rx P L es=PU (OJ P L es es.length) es.length h:=by unfold Rx;rw [a]
 rw [e]
 refine ⟨by rw [Vb f h1];simp,(Na4 es.length h (by omega) h1).1.asc,fun j l hl=>?_⟩
 have:=d j l hl (by have:=hl.head;omega)
 rw [b,c] at this
 exact this
theorem Nj7 {i j:Int} {l:List Int}:RV P L es (i::j::l)=(i,j,R4 P L (gt es i.toNat) (gt es j.toNat))::RV P L es (j::l):=by
 unfold RV
 show (List.range (l.length+1)).map _=_
 rw [List.range_succ_eq_map,Of,List.map_map]
 rfl
theorem Ndk:∀(l:List Int) (i:Int),tot P L es (i::l)=Tp P L es (i::l)
 | [],i=>by
   show 30*i+30*((es.length:Int)-1-i)=30*((es.length:Int)-1)+0
   omega
 | j::l,i=>by
   have h:=Ndk l j
   have e1:tot P L es (i::j::l)=30*i+(R4 P L (gt es i.toNat) (gt es j.toNat)+30*(j-i-1)+rcI P L es (j::l)):=rfl
   have e2:tot P L es (j::l)=30*j+rcI P L es (j::l):=rfl
   have e3:Tp P L es (i::j::l)=30*((es.length:Int)-(l.length+1+1:Nat))+Wu (RV P L es (i::j::l)):=rfl
   have a:Tp P L es (j::l)=30*((es.length:Int)-(l.length+1:Nat))+Wu (RV P L es (j::l)):=rfl
   rw [e1,e3,Nj7,Wu]
   rw [e2,a] at h
   simp only
   omega
theorem N1d {n:Nat}:∀(ks:List Int),(∀i,i<ks.length->Ncn n ks i)->Asc n ks
 | [],_=>trivial
 | [i],h=>⟨(h 0 (by simp)).1,(h 0 (by simp)).2.1⟩
 | i::j::l,h=>by
   refine ⟨(h 0 (by simp)).1,(h 1 (by simp)).2.2 (by omega),N1d (j::l) fun k hk=>?_⟩
   have h1:=h (k+1) (by simp at hk⊢;omega)
   refine ⟨h1.1,h1.2.1,fun a=>?_⟩
   have h2:=h1.2.2 (by omega)
   obtain ⟨q,rfl⟩:∃q,k=q+1:=⟨k-1,by omega⟩
   exact h2
theorem Nxy {n:Nat}:∀(ks:List Int),Asc n ks->∀i,i<ks.length->Ncn n ks i
 | [],_,i,hi=>by cases hi
 | [a],h,i,hi=>by
   obtain rfl:i=0:=by simp at hi;omega
   exact ⟨h.1,h.2,fun h=>by omega⟩
 | a::b::l,h,0,hi=>⟨h.head.1,h.head.2,fun h=>by omega⟩
 | a::b::l,h,1,hi=>⟨h.2.2.head.1,h.2.2.head.2,fun _=>h.2.1⟩
 | a::b::l,h,i+2,hi=>by
   have h1:=Nxy (b::l) h.2.2 (i+1) (by simp at hi⊢;omega)
   exact ⟨h1.1,h1.2.1,fun _=>h1.2.2 (by omega)⟩
theorem Naj:Ngr es.length (Rx P L es):=by
 by_cases hn:0<es.length
 ·obtain ⟨h1,h2,_⟩:=Nfm (P:=P) (L:=L) hn
  exact ⟨fun h=>absurd (List.length_eq_zero_iff.1 h) h1,Nxy _ h2⟩
 ·have e:Rx P L es=[]:=by
   have:=XU (T:=OJ P L es es.length) es.length (Uq es.length (OJ P L es es.length) es.length).2.2
   exact List.length_eq_zero_iff.1 (by unfold Rx;omega)
  exact ⟨fun _=>by omega,fun i hi=>by rw [e] at hi;cases hi⟩
theorem N08 {ks:List Int} (hk:Ngr es.length ks):BE (Tp P L es (Rx P L es)) ((Rx P L es).length:Int) (Rx P L es) (Tp P L es ks) (ks.length:Int) ks:=by
 cases ks with
 | nil=>
   have f:=hk.1 rfl
   have e:Rx P L es=[]:=by
    have:=XU (T:=OJ P L es es.length) es.length (Uq es.length (OJ P L es es.length) es.length).2.2
    exact List.length_eq_zero_iff.1 (by unfold Rx;omega)
   rw [e]
   exact BE.refl
 | cons j l=>
   have c:=N1d _ hk.2
   have hn:0<es.length:=by have:=c.head;omega
   obtain ⟨h1,h2,d⟩:=Nfm (P:=P) (L:=L) hn
   have:=d j l c
   rw [Ndk] at this
   generalize Rx P L es=b at *
   cases b with
   | nil=>exact absurd rfl h1
   | cons a t=>rw [Ndk] at this;exact this
end
end Go.Proofs.YtkppjkkkdpcgiaaGreat.Fn


namespace Go.Proofs.YtkppjkkkdpcgiaaGreat.Fn
open Go.AM Go.AM.Sym Go.Net
def WT (P:List Int) (L:List Leg) (T:List Int):Nat->List Int
 | 0=>T
 | k+1=>Go.Net.stepX 50 (OO P) L (WT P L T k)
theorem Nho {P:List Int} {L:List Leg} {q a:Int}:∀k,WT P L (Zz 50 (OO P q) a) k=Nab 50 (OO P) L q a k
 | 0=>rfl
 | k+1=>by rw [WT,Nab,Nho k]
theorem Nq4:okT (List.replicate 50 (-1)):=⟨by simp,fun j=>by
 rw [Na,Pt];unfold OC;split<;>simp⟩
theorem Njz {pos:Int->Nat} {bef aft:List Int} {l:Leg} {a:Int} (b:¬bef.getD (pos l.dst) (-1)<0) (h:SS l (bef.getD (pos l.dst) (-1))=some a):Yl pos bef aft l=aft.set (pos l.frm) (max (aft.getD (pos l.frm) (-1)) (a-l.cut)):=by
 unfold Yl
 rw [Nh b]
 simp only [h]
 congr 1
 split<;>omega
theorem Ni5 [OB] {lim R A10 A11:Nat} {pl:Option Addr} {P:List Int} {L:List Leg} {cl:Nat} {H G:NE} {fr:Nat->Value} {K:List AItem} {Z:Value->NE->Prop} {bef:List Int}
  (o:NetOk 50 P L (OO P)) (hL:Sl H Ry 8 pl L) (aj:L.length<2 ^ 62) (hm:NH H R=.map (WO P)) (ai:lim<=H.length) (hb:okT bef) (hE:Chg [] H G) (ag:H.length<=A10) (ah:H.length<=A11) (ae:A10≠A11) (h10:NH G A10=Vc (RS bef)) (aa:NH G A11=Vc (RS (List.replicate 50 (-1))))
  (f1:fr 1=.map (some R)) (f10:fr 10=Vp A10) (f11:fr 11=Vp A11) (V:fr 30=.slice pl L.length cl) (W:fr 31=Vi L.length) (f32:fr 32=Vi 0)
  (hR:∀fr' G',okT (Go.Net.stepX 50 (OO P) L bef)->Chg [A11] G G'->NH G' A11=Vc (RS (Go.Net.stepX 50 (OO P) L bef))->fr' 1=fr 1->fr' 4=fr 4->fr' 9=fr 9->fr' 11=fr 11->fr' 19=fr 19->fr' 20=fr 20->PQ E a62 lim K fr' (G'++[]) Z) :
  PQ E a62 lim (.code (.loop Nzc)::.inBlock 2::K) fr G Z:=by
 refine NR (fun i=>L.length-i) (fun i fr' G'=>i<=L.length/\fr' 1=.map (some R)/\fr' 4=fr 4/\fr' 9=fr 9/\fr' 10=Vp A10/\fr' 11=Vp A11/\fr' 19=fr 19/\fr' 20=fr 20/\fr' 30=.slice pl L.length cl/\fr' 31=Vi L.length/\fr' 32=Vi i/\
  Chg [A11] G G'/\okT ((L.take i).foldl (Yl (OO P) bef) (List.replicate 50 (-1)))/\NH G' A11=Vc (RS ((L.take i).foldl (Yl (OO P) bef) (List.replicate 50 (-1))))) 0
  ⟨Nx _,f1,rfl,rfl,f10,f11,rfl,rfl,V,W,f32,Chg.refl,Nq4,aa⟩ ?_
 intro i fr' G' ⟨hi,A,T,U,h,e,u,v,m,n,w,J,B,d⟩ hN
 have C:Chg [] H G':=hE.trans' J fun j h1 h2=>by simp only [Nk] at h1;omega
 have hl:=C.len
 rw [NT Nzc.eq_1]
 refine NK ?_
 by_cases g:i<L.length
 case neg=>
  obtain rfl:i=L.length:=by omega
  rw [Oj] at B d
  simp only [n62,r62,A,h,e,m,n,w,g,SB,seval,NC,NJ,NF,NP,reduceCtorEq,NB,place,NA,ND]
  exact hR _ _ B J d (by rw [f1];exact A) (by rw [<-T];exact rfl) (by rw [<-U];exact rfl) (by rw [f11];exact e) (by rw [<-u];exact rfl) (by rw [<-v];exact rfl)
 have O:=C.ext.sl hL
 have F:=fun X=>(O.app X).loadCells OH g
 have s:=fun c (k:IntKind) (H1:NE)=>O.idx (c:=c) (k:=k) (H1:=H1) g
 have I:IntKind.i64.wrap ((i:Int)+1)=((i+1:Nat):Int):=OG (by omega)
 have M:=J.cells h10 (by simpa using ae)
 have q1:=fun X=>(OI.refl.app (X:=X)).cells M
 have q2:=fun X=>(OI.refl.app (X:=X)).cells d
 have N:=C.get hm (PR hm) (by simp)
 have q3:∀X,NH (G'++X) R=.map (WO P):=fun X=>by rw [NN (PR N)];exact N
 have D:lim<=G'.length:=by omega
 have ad:lim<=A11:=by omega
 have t:=Ru g
 have hf:=o.fine _ t
 have i1:OO P (gt L i).frm<50:=o.lt _ (o.frm _ t)
 have i2:OO P (gt L i).dst<50:=o.lt _ (o.dst _ t)
 obtain ⟨j1,y⟩:=Vh (i:=0) (o.frm _ t)
 obtain ⟨j2,z⟩:=Vh (i:=0) (o.dst _ t)
 change findKey _ _ _=some (some (j1,Vi (OO P (gt L i).frm:Int))) at y
 change findKey _ _ _=some (some (j2,Vi (OO P (gt L i).dst:Int))) at z
 have x:=Mi (f:=Yl (OO P) bef) (b:=List.replicate 50 (-1)) g
 generalize (L.take i).foldl (Yl (OO P) bef) (List.replicate 50 (-1))=aft at *
 have ac:=hb.2 (OO P (gt L i).dst)
 have ab:=B.2 (OO P (gt L i).frm)
 have gb:=Wi hb.1 i2
 have Y:=Wi B.1 i1
 have z1:(0:Int)<=(OO P (gt L i).frm:Int):=by omega
 have z2:(0:Int)<=(OO P (gt L i).dst:Int):=by omega
 have z3:(OO P (gt L i).frm:Int)<50:=by omega
 have z4:(OO P (gt L i).dst:Int)<50:=by omega
 have z5:OO P (gt L i).dst<=49:=by omega
 have z6:OO P (gt L i).frm<=49:=by omega
 by_cases p:bef.getD (OO P (gt L i).dst) (-1)<0
 ·have S:Yl (OO P) bef aft (gt L i)=aft:=by unfold Yl;rw [Ni p]
  rw [S] at x
  simp only [n62,r62,A,h,e,m,n,w,g,F,s,I,q1,q2,q3,y,z,gb,Y,z1,z2,z3,z4,z5,z6,OH,QE,QD,QC,QB,QA,PZ,PY,PW,NI,PO,O8,D,NG,p,SB,seval,NC,NJ,NF,NP,reduceCtorEq,NB,place,NA,ND]
  exact hN (i+1) _ _ ⟨by omega,A,by rw [<-T];exact rfl,by rw [<-U];exact rfl,h,e,by rw [<-u];exact rfl,by rw [<-v];exact rfl,m,n,rfl,J.app,by rw [x];exact B,by rw [x];exact (OI.refl.app).cells d⟩ (by omega)
 unfold OC at ac ab
 have q:=fun (H:NE) (mp:Bool) (lim:Nat) (Q:Value->NE->Prop)=>N28 (mp:=mp) (lim:=lim) (H:=H) (Q:=Q) (l:=gt L i) (r:=bef.getD (OO P (gt L i).dst) (-1)) hf (by omega) (by omega)
 cases hx:SS (gt L i) (bef.getD (OO P (gt L i).dst) (-1)) with
 | none=>
   rw [hx] at q
   simp only [Oo,Ww] at q
   have S:Yl (OO P) bef aft (gt L i)=aft:=by unfold Yl;rw [Nh p];simp only [hx]
   rw [S] at x
   simp only [n62,r62,A,h,e,m,n,w,g,F,s,I,q1,q2,q3,y,z,gb,Y,z1,z2,z3,z4,z5,z6,OH,QE,QD,QC,QB,QA,PZ,PY,PW,NI,PO,O8,D,NG,p,q,SB,seval,NC,NJ,NF,NP,reduceCtorEq,NB,place,NA,ND]
   exact hN (i+1) _ _ ⟨by omega,A,by rw [<-T];exact rfl,by rw [<-U];exact rfl,h,e,by rw [<-u];exact rfl,by rw [<-v];exact rfl,m,n,rfl,J.app,by rw [x];exact B,by rw [x];exact (OI.refl.app).cells d⟩ (by omega)
 | some a=>
   rw [hx] at q
   simp only [Nu,Ww] at q
   obtain ⟨k1,k2,k3,k4⟩:=Nhc hf hx
   unfold OC at k3
   have S:=Njz (aft:=aft) p hx
   rw [S] at x
   unfold Fine at hf
   have wc:IntKind.i64.wrap (a-(gt L i).cut)=a-(gt L i).cut:=NU (by omega) (by omega)
   obtain ⟨G2,e2,h2,m2⟩:=OP (NM d) (Vc (RS (aft.set (OO P (gt L i).frm) (max (aft.getD (OO P (gt L i).frm) (-1)) (a-(gt L i).cut)))))
   simp only [n62,r62,A,h,e,m,n,w,g,F,s,I,q1,q2,q3,y,z,gb,Y,z1,z2,z3,z4,z5,z6,OH,QE,QD,QC,QB,QA,PZ,PY,PW,NI,PO,O8,D,NG,p,q,wc,ad,Y8,YL B.1,e2,SB,seval,NC,NJ,NF,NP,reduceCtorEq,NB,place,NA,ND]
   exact hN (i+1) _ _ ⟨by omega,A,by rw [<-T];exact rfl,by rw [<-U];exact rfl,h,e,by rw [<-u];exact rfl,by rw [<-v];exact rfl,m,n,rfl,(J.mut m2 (.inl (by simp))).app,by rw [x];exact Nio B (by unfold OC;omega),by rw [x];exact (OI.refl.app).cells h2⟩ (by omega)
theorem Ne3 {P:List Int} {L:List Leg} {T:List Int} (b:NetOk 50 P L (OO P)) (g:okT T):∀k,okT (WT P L T k)
 | 0=>g
 | k+1=>by
   rw [WT,Go.Net.stepX]
   have i:=Ne3 b g k
   generalize WT P L T k=bef at i
   suffices h:∀(M:List Leg),(∀l∈M,l∈L)->∀aft,okT aft->okT (M.foldl (Yl (OO P) bef) aft) from h L (fun _ h=>h) _ Nq4
   intro M
   induction M with
   | nil=>intro _ aft h;exact h
   | cons l M ih=>
     intro f aft d
     rw [Oi]
     refine ih (fun x c=>f x (Nj _ c)) _ ?_
     by_cases e:bef.getD (OO P l.dst) (-1)<0
     ·unfold Yl;rw [Ni e];exact d
     ·cases c:SS l (bef.getD (OO P l.dst) (-1)) with
      | none=>unfold Yl;rw [Nh e];simp only [c];exact d
      | some a=>
        rw [Njz e c]
        obtain ⟨k1,k2,k3,m⟩:=Nhc (b.fine _ (f l (No ..))) c
        have j:=b.fine _ (f l (No ..))
        have:=d.2 (OO P l.frm)
        unfold Fine at j
        exact Nio d (by omega)
theorem YX.le {α:Type} {lim e cap:Nat} {G:NE} {enc:α->List Value} {p:Option Addr} {l:List α} (h:YX lim G enc e p cap l) {lim':Nat} (hl:lim'<=lim):YX lim' G enc e p cap l:=by
 rcases h with h | ⟨R,a,h1,h2,b,c⟩
 ·exact .inl (h.le hl)
 ·exact .inr ⟨R,a,h1,h2,b,by omega⟩
theorem Ntz [OB] {lim R n0:Nat} {T:List Int} {pp pl:Option Addr} {P:List Int} {L:List Leg} {cp cl:Nat} {H:NE} {Q:Value->NE->Prop} (hn:NetIn H pp pl P L) (y:NetOk 50 P L (OO P)) (hm:NH H R=.map (WO P)) (hT:okT T) (ae:n0<2 ^ 30) (S:L.length<2 ^ 62) (x:lim<=H.length)
  (hQ:∀H' p cap,Chg [] H H'->YX H.length H' RS 50 p cap ((List.range (n0+1)).map (WT P L T))->Q (.slice p (n0+1) cap) H') :
  NL E false lim 62 [.agg (SC pp P.length cp pl L.length cl).toArray,.map (some R),.agg (RS T).toArray,Vi n0] H Q:=by
 refine R5 (by decide) e62 rfl ?_
 rw [b62,c62]
 simp only [n62,r62,Njv,PO,NI,NG,Om,SB,seval,NC,NJ,NF,NP,reduceCtorEq,NB,place,NA,ND]
 refine NR (fun s:Nat×Option Addr×Nat=>n0-s.1) (fun s fr G=>s.1<=n0/\fr 1=.map (some R)/\fr 4=Vp H.length/\fr 9=.slice s.2.1 (s.1+1) s.2.2/\fr 19=Vi n0/\fr 20=Vi s.1/\NH G H.length=Vc (SC pp P.length cp pl L.length cl)/\Chg [] H G/\YX (H.length+1) G RS 50 s.2.1 s.2.2 ((List.range (s.1+1)).map (WT P L T))) (0,Sa (H.length+2),1)
  ⟨Nx _,rfl,rfl,by rfl,rfl,by rfl,NS,Chg.refl.app,.inr ⟨H.length+2,rfl,rfl,by show (1:Nat)<2 ^ 62;decide,by rw [NW];simp [WT],by omega⟩⟩ ?_
 rintro ⟨k,p,cap⟩ fr G ⟨hk,f1,f4,f9,o,f,hB,I,J⟩ hN
 simp only at hk f9 f J
 have hl:=I.len
 have U:=Ne3 y hT k
 rw [NT N5g.eq_1]
 refine NK ?_
 by_cases u:k<n0
 case neg=>
  obtain rfl:k=n0:=by omega
  simp only [n62,r62,f1,f4,f9,o,f,u,SB,seval,NC,NJ,NF,NP,reduceCtorEq,NB,place,NA,ND]
  exact hQ _ _ _ I.app ((J.chg (A:=[]) (Chg.refl.app) (by simp)).le (by omega))
 have b:((List.range (k+1)).map (WT P L T)).length=k+1:=by simp
 have N:gt ((List.range (k+1)).map (WT P L T)) k=WT P L T k:=by
  rw [QH (by rw [b];omega)];simp
 have hS:=J.sl PO
 have w:=fun X=>(hS.app X).loadCells PO (i:=k) (by rw [b];omega)
 have m:=fun c (kk:IntKind) (H1:NE)=>hS.idx (c:=c) (k:=kk) (H1:=H1) (i:=k) (by rw [b];omega)
 rw [b] at m
 rw [N] at w
 have V:IntKind.i64.wrap (((k+1:Nat):Int)-1)=(k:Int):=by rw [NU (by omega) (by omega)];omega
 have W:IntKind.i64.wrap ((k:Int)+1)=((k+1:Nat):Int):=OG (by omega)
 have O:lim<=G.length:=by omega
 have K:∀(H:NE) (mp:Bool) (lim:Nat) (Q:Value->NE->Prop),NL E mp lim 63 [Vi 0,Vi (-1)] H Q=Q (.agg (RS (List.replicate 50 (-1))).toArray) H:=fun H mp lim Q=>Noe (mp:=mp) (lim:=lim) (H:=H) (Q:=Q) (i:=0) (t:=-1) (by decide)
 have M:=fun X=>(OI.refl.app (X:=X)).cells hB
 simp only [n62,r62,f1,f4,f9,o,f,u,K,M,OQ,Sg,Sd,Njv,PO,NI,NG,Om,V,m,w,O,show lim<=G.length+1 by omega,SB,seval,NC,NJ,NF,NP,reduceCtorEq,NB,place,NA,ND]
 refine Ni5 (cl:=cl) (A10:=G.length) (A11:=G.length+1) y hn.sl S hm x U I.app (by omega) (by omega) (by omega) NS NW f1 rfl rfl rfl rfl rfl fun fr' G' z hC q k1 k4 k9 Y Z aa=>?_
 have B:fr' 1=.map (some R):=k1.trans f1
 have F:fr' 4=Vp H.length:=k4.trans f4
 have ab:fr' 9=.slice p (k+1) cap:=k9.trans f9
 have C:fr' 11=Vp (G.length+1):=Y.trans rfl
 have n:fr' 19=Vi n0:=Z.trans o
 have D:fr' 20=Vi k:=aa.trans f
 have l:=fun X=>(OI.refl.app (X:=X)).cells q
 have g:Chg [] G G':=hC.pre.mono fun j hj h=>by simp only [Nk] at h;omega
 have ad:=g.len
 have r:=J.chg g (by simp)
 change okT (WT P L T (k+1)) at z
 change NH G' (G.length+1)=Vc (RS (WT P L T (k+1))) at q
 change ∀X,NH (G'++X) (G.length+1)=Vc (RS (WT P L T (k+1))) at l
 have ac:H.length<G.length:=NM hB
 obtain ⟨G3,e3,O3,C3,d,l3,_⟩:=r.step (lim':=lim) (bytes:=400) (by omega) PO (by decide) (WT P L T (k+1)) (by rw [b];unfold PS;omega) (by rw [b];omega) (by omega) [Vc (RS (WT P L T (k+1)))] G'.length 1 NS
 rw [b] at e3
 have v:lim<=G'.length:=by omega
 simp only [n62,r62,B,F,ab,C,n,D,l,PO,NI,Njv,NG,Om,e3,W,v,SB,seval,NC,NJ,NF,NP,reduceCtorEq,NB,place,NA,ND]
 refine hN (k+1,_,_) _ _ ⟨by omega,B,F,by rfl,n,rfl, ?_,C3 _ _ (by omega) (I.trans g),.inl ?_⟩ (by show n0-(k+1)<n0-k;omega)
 ·rw [Nb] at d
  rw [Nb,d H.length (by omega) fun a ha e=>by have:=(r.block ha).1;omega]
  exact g.cells hB (by simp)
 ·rw [P3,Pc]
  exact O3
theorem Oag [OB] {mp:Bool} {lim A B i:Nat} {o1 o2:Bool} {t:Int} {T:List Int} {H:NE} {Q:Value->NE->Prop} (hi:i<50) (b:T.length=50) (a:NH H A=.cells o1 [Vi i]) (hB:NH H B=.cells o2 [Vi t]) :
  NL E mp lim 61 [.agg (RS T).toArray,Vp A,Vp B] H Q=Q (.bool (decide (T.getD i (-1)=t))) H:=by
 refine pc (by decide) e61 rfl rfl ?_
 rw [b61,c61]
 have q1:=fun X=>(OI.refl.app (X:=X)).cells a
 have q2:=fun X=>(OI.refl.app (X:=X)).cells hB
 have c:(0:Int)<=(i:Int):=by omega
 have d:(i:Int)<50:=by omega
 have e:i<=49:=by omega
 have gt:=Wi b hi
 simp only [n61,r61,q1,q2,PO,NI,gt,c,d,e,O8,SB,seval,NC,NJ,NF,NP,reduceCtorEq,NB,place,NA,ND]
theorem Nzx [OB] {mp:Bool} {lim A B i k cap:Nat} {p:Option Addr} {o1 o2:Bool} {t:Int} {Ts:List (List Int)} {H:NE} {Q:Value->NE->Prop} (hi:i<50) (n:NH H A=.cells o1 [Vi i]) (hB:NH H B=.cells o2 [Vi t]) (hs:Sl H RS 50 p Ts) (h:∀T∈Ts,T.length=50) (hn:Ts.length<2 ^ 62)
  (hk:k<Ts.length) (l:(gt Ts k).getD i (-1)=t) (m:∀j,j<k->(gt Ts j).getD i (-1)≠t) :
  NL E mp lim 60 [.slice p Ts.length cap,.func (.func 61) #[] #[Vp A,Vp B]] H Q=Q (Vi k) H:=by
 refine pc (by decide) e60 rfl rfl ?_
 rw [b60,c60]
 simp only [n60,r60,SB,seval,NC,NJ,NF,NP,reduceCtorEq,NB,place,NA,ND]
 refine NR (fun j=>Ts.length-j) (fun j fr G=>j<=k/\fr 0=.slice p Ts.length cap/\fr 1=.func (.func 61) #[] #[Vp A,Vp B]/\fr 7=Vi Ts.length/\fr 8=Vi j/\OI H G) 0 ⟨Nx _,rfl,rfl,rfl,by rfl,OI.refl.app⟩ ?_
 intro j fr G ⟨o,f0,f1,f7,f8,e⟩ hN
 rw [NT N5h.eq_1]
 refine NK ?_
 have a:j<Ts.length:=by omega
 have f:=fun X=>((e.sl hs).app X).loadCells PO a
 have d:=fun c (kk:IntKind) (H1:NE)=>(e.sl hs).idx (c:=c) (k:=kk) (H1:=H1) a
 have g:IntKind.i64.wrap ((j:Int)+1)=((j+1:Nat):Int):=OG (by omega)
 have b:=fun X (mp:Bool) (lim:Nat) (Q:Value->NE->Prop)=>Oag (mp:=mp) (lim:=lim) (Q:=Q) (H:=G++X) (T:=gt Ts j) hi (h _ (Ru a)) ((e.app).cells n) ((e.app).cells hB)
 by_cases he:j=k
 ·subst he
  rw [Nq l] at b
  simp only [n60,r60,f0,f1,f7,f8,a,f,d,g,b,SB,seval,NC,NJ,NF,NP,reduceCtorEq,NB,place,NA,ND]
 ·rw [N7 (p:=(gt Ts j).getD i (-1)=t) (m j (by omega))] at b
  simp only [n60,r60,f0,f1,f7,f8,a,f,d,g,b,SB,seval,NC,NJ,NF,NP,reduceCtorEq,NB,place,NA,ND]
  exact hN (j+1) _ _ ⟨by omega,f0,f1,f7,rfl,e.app⟩ (by omega)
theorem Njy [OB] {lim Y Bx c:Nat} {p:Option Addr} {o:Bool} {L:List Leg} {H:NE} {Q:Value->NE->Prop} (I:Nat->NE->Prop) (t:L.length<2 ^ 62)
  (h:∀i H H',I i H->Chg [] H H'->I i H')
  (f:∀i H,I i H->Sl H Ry 8 p L/\NH H Bx=.cells o [.slice p L.length c]/\lim<=H.length)
  (b:∀i H,i<L.length->I i H->WK E false lim Y [.agg (Ry (gt L i)).toArray] H fun v H'=>v=.bool true/\I (i+1) H')
  (r:I 0 H) (s:∀H',I L.length H'->Q (.tuple #[]) H') :
  NL E false lim 103 [.func (.yield Y) #[] #[],Vp Bx] H Q:=by
 refine R5 (by decide) Odq rfl ?_
 rw [Oew,N78]
 have j:=fun X=>(OI.refl.app (X:=X)).cells (f _ _ r).2.1
 simp only [n103,N2e,j,SB,seval,NC,NJ,NF,NP,reduceCtorEq,NB,place,NA,ND]
 refine NR (fun i=>L.length-i) (fun i fr G=>i<=L.length/\fr 0=.func (.yield Y) #[] #[]/\fr 5=.slice p L.length c/\fr 6=Vi L.length/\fr 7=Vi i/\I i G) 0 ⟨Nx _,rfl,rfl,rfl,by rfl,h _ _ _ r (Chg.refl.app)⟩ ?_
 intro i fr G ⟨hi,f0,f5,g,f7,d⟩ hN
 rw [NT Nzo.eq_1]
 refine NK ?_
 obtain ⟨hs,hB,m⟩:=f _ _ d
 by_cases a:i<L.length
 case neg=>
  obtain rfl:i=L.length:=by omega
  simp only [n103,N2e,f0,f5,g,f7,a,SB,seval,NC,NJ,NF,NP,reduceCtorEq,NB,place,NA,ND]
  exact s _ (h _ _ _ d (Chg.refl.app))
 have n:=fun X=>(hs.app X).loadCells OH a
 have e:=fun c (kk:IntKind) (H1:NE)=>hs.idx (c:=c) (k:=kk) (H1:=H1) a
 have q:IntKind.i64.wrap ((i:Int)+1)=((i+1:Nat):Int):=OG (by omega)
 simp only [n103,N2e,f0,f5,g,f7,a,n,e,OH,QE,QD,QC,QB,QA,PZ,PY,PW,NI,m,NG,SB,seval,NC,NJ,NF,NP,reduceCtorEq,NB,place,NA,ND]
 refine (b i _ a (h _ _ _ d (Chg.refl.app))).mono fun v H' hv=>?_
 obtain ⟨rfl,l⟩:=hv
 refine NK ?_
 simp only [n103,N2e,f0,f5,g,f7,q,SB,seval,NC,NJ,NF,NP,reduceCtorEq,NB,place,NA,ND]
 exact hN (i+1) _ _ ⟨by omega,f0,f5,g,rfl,h _ _ _ l (Chg.refl.app)⟩ (by omega)
theorem Nql [OB] {lim Bx c:Nat} {p:Option Addr} {o:Bool} {L:List Leg} {H:NE} {Z:Value->NE->Prop} {fr0:Nat->Value} {K':List AItem} (hB:NH H Bx=.cells o [.slice p L.length c]) (hs:Sl H Ry 8 p L) (hn:L.length<2 ^ 30) (M:lim<=H.length)
  (f2:fr0 2=Vp H.length)
  (hQ:∀H' q cap,Chg [] H H'->Own (H.length+3) H' Ry 8 q cap L->NH H' H.length=Vc [.slice q L.length cap]->NH H' (H.length+1)=.dfr->H.length+3<=H'.length->PQ E Ngj lim (K'++[.mark (H.length+1)]) fr0 (H'++[]) Z) :
  NL E false lim 103 [.func (.yield (H.length+2)) #[] #[],Vp Bx] (H++[Vc [Vz],.dfr,.loop ⟨0,none,fr0,13,[7],XN,XM⟩]) fun _ C=>
   Yj (NH C (H.length+1+1)) fun x=>PQ E Ngj lim (Y1 x++(K'++[.mark (H.length+1)])) fr0 (C.set (H.length+1+1) .dead) Z:=by
 refine Njy (c:=c) (p:=p) (o:=o) (L:=L) (fun i G=>∃q cap,NH G H.length=Vc [.slice q i cap]/\Own (H.length+3) G Ry 8 q cap (L.take i)/\NH G (H.length+1)=.dfr/\NH G (H.length+2)=.loop ⟨0,none,fr0,13,[7],XN,XM⟩/\Chg [] H G/\H.length+3<=G.length/\i<=L.length) (by omega) ?_ ?_ ?_ ?_ ?_
 ·rintro i G G' ⟨q,cap,h1,h2,s,l,h,I,J⟩ d
  have:=d.len
  exact ⟨q,cap,d.cells h1 (by simp),h2.chg d (by simp),d.get s (by omega) (by simp),d.get l (by omega) (by simp),h.trans d,by omega,J⟩
 ·rintro i G ⟨q,cap,h1,h2,s,l,h,I,J⟩
  exact ⟨h.ext.sl hs,h.cells hB (by simp),by omega⟩
 ·rintro i G w ⟨q,cap,h2,u,hd,N,d,hl,_⟩
  rw [X0 (x:=⟨0,none,fr0,13,[7],XN,XM⟩) N (by omega) rfl rfl,WL]
  rw [NT XN.eq_1]
  refine NK ?_
  obtain ⟨G1,e1,h1,f⟩:=OP (G:=G) (R:=H.length+2) (by omega) (.loop ⟨1,none,fr0,13,[7],XN,XM⟩)
  have gY:=fun X=>(OI.refl.app (X:=X)).get' N (by omega)
  have m:lim<=G.length:=by omega
  simp only [f2,OH,QE,QD,QC,QB,QA,PZ,PY,PW,NI,NG,m,gY,e1,show lim<=H.length+2 by omega,SB,seval,NC,NJ,NF,NP,reduceCtorEq,NB,place,NA,ND]
  rw [NT XM.eq_1]
  have v:Own (H.length+3) G1 Ry 8 q cap (L.take i):=u.mut f fun a e=>by have:=(u.block e).1;omega
  have g:(L.take i).length=i:=by rw [Ok];omega
  obtain ⟨r,e3,t,Q,b,O,aa⟩:=v.step (lim':=lim) (bytes:=64) (by omega) OH (by decide) (gt L i) (by rw [g];unfold PS;omega) (by rw [g];omega) (by rw [f.len];omega) [Vc (Ry (gt L i)),Vc (Ry (gt L i))] (G1.length+1) 1 NW
  rw [g] at e3
  rw [f.len] at e3 t O
  simp only [Nl,Nr] at e3 O
  have b2:=fun X=>(OI.refl.app (X:=X)).cells (f.cells h2 (by omega))
  have U:∀X:NE,NH (G1++X) G.length=X.getD 0 .dead:=(Nha f.len).2.2.1
  have V:∀(X:NE) (j:Nat),NH (G1++X) (G.length+j)=X.getD j .dead:=(Nha f.len).2.1
  have y:∀j,j<H.length+3->∀a,q=some a->j≠a.block:=fun j K a e hh=>by have:=(u.block e).1;omega
  have z:NH (r++[]) H.length=Vc [.slice q i cap]:=(b _ (by rw [f.len];omega) (y _ (by omega))).trans (f.cells h2 (by omega))
  have P:NH (r++[]) (H.length+2)=_:=(b _ (by rw [f.len];omega) (y _ (by omega))).trans h1
  have F:NH (r++[]) (H.length+1)=_:=(b _ (by rw [f.len];omega) (y _ (by omega))).trans (f.alive hd (by omega))
  rw [Nb] at z P F t
  obtain ⟨S,W,l,k⟩:=OP (NM z) (Vc [.slice (Sa (G.length+2)) (i+1) (loose 8)])
  have B:=k.alive P (by omega)
  have y4:=fun X=>(OI.refl.app (X:=X)).get' B (by rw [k.len];omega)
  obtain ⟨T,Y,h,n⟩:=OP (G:=S) (R:=H.length+2) (by rw [k.len];omega) (.loop ⟨0,none,fr0,13,[7],XN,XM⟩)
  have A:=fun X=>(OI.refl.app (X:=X)).cells z
  simp only [f2,OH,QE,QD,QC,QB,QA,PZ,PY,PW,NI,NG,m,b2,U,V,f.len,e3,W,Y,y4,A,show lim<=H.length by omega,show lim<=H.length+2 by omega,SB,seval,NC,NJ,NF,NP,reduceCtorEq,NB,place,NA,ND]
  have D:=Q [] H (by omega) (d.mut f (.inr (by omega)))
  rw [Nb] at D
  have l5:T.length=r.length:=by rw [n.len,k.len]
  refine ⟨_,_,(OI.refl.app).cells (n.cells l (by omega)), ?_,(OI.refl.app).get' (n.alive (k.alive F (by omega)) (by omega)) (by omega),(OI.refl.app).get' h (by omega),((D.mut k (.inr (by omega))).mut n (.inr (by omega))).app,by omega,by omega⟩
  rw [Xd w]
  exact ((t.mut k fun a e=>by cases e;show G.length+2≠_;omega).mut n fun a e=>by cases e;show G.length+2≠_;omega).app _
 ·exact ⟨none,0,NS,.nil,by rw [NW];rfl,by rw [NW];rfl,Chg.refl.app,by simp,Nx _⟩
 ·rintro H' ⟨q,cap,h1,h2,s,l,h,I,_⟩
  rw [Oj] at h2
  rw [Npw (show NH H' (H.length+1+1)=_ from l),N0d]
  show PQ E Ngj lim (K'++[.mark (H.length+1)]) fr0 _ _
  have d:Mut H' (H'.set (H.length+1+1) .dead) (H.length+1+1):=⟨by simp,fun j K=>QL K⟩
  refine NK ?_
  exact hQ _ q cap (h.mut d (.inr (by omega))) (h2.mut d fun a e=>by have:=(h2.block e).1;omega) (d.cells h1 (by omega)) (d.alive s (by omega)) (by rw [d.len];omega)
theorem Nqk [OB] {lim Bx c:Nat} {p:Option Addr} {o:Bool} {L:List Leg} {H:NE} {Q:Value->NE->Prop} (hB:NH H Bx=.cells o [.slice p L.length c]) (hs:Sl H Ry 8 p L) (hn:L.length<2 ^ 30) (d:lim<=H.length)
  (k:∀H' q cap,Chg [] H H'->Own (H.length+3) H' Ry 8 q cap L->Q (.slice q L.length cap) H') :
  NL E false lim 132 [Vz,.func (.func 103) #[] #[Vp Bx]] H Q:=by
 refine R5 (by decide) Oda rfl ?_
 rw [Oeg,N7y]
 have b:(H++[Vc [Value.slice none 0 0]]).length=H.length+1:=by simp
 simp only [n132,N82,SB,seval,NC,NJ,NF,NP,reduceCtorEq,NB,place,NA,ND]
 rw [b]
 refine Nql hB hs hn d rfl fun H' q cap i h h2 hd hl=>?_
 have f:=fun X=>(OI.refl.app (X:=X)).cells h2
 have g:=fun X=>(OI.refl.app (X:=X)).get' hd (by omega)
 show PQ E Ngj lim (.inBlock 0::.code _::.code .retM::.mark (H.length+1)::[]) _ _ _
 simp only [n132,N82,f,g,show lim<=H.length+1 by omega,SB,seval,NC,NJ,NF,NP,reduceCtorEq,NB,place,NA,ND]
 have hm:Mut (H'++[]) ((H'++[]).set (H.length+1) .dead) (H.length+1):=⟨by simp,fun j l=>QL l⟩
 exact k _ _ _ (i.app.mut hm (.inr (by omega))) ((h.app []).mut hm fun a e=>by have:=(h.block e).1;omega)
theorem Np8 [OB] {lim Bx c:Nat} {p:Option Addr} {o:Bool} {L:List Leg} {H:NE} {Q:Value->NE->Prop} (hB:NH H Bx=.cells o [.slice p L.length c]) (hs:Sl H Ry 8 p L) (hn:L.length<2 ^ 30) (a:lim<=H.length)
  (e:∀H' q cap,Chg [] H H'->Own (H.length+3) H' Ry 8 q cap L->Q (.slice q L.length cap) H') :
  NL E false lim 101 [.func (.func 103) #[] #[Vp Bx]] H Q:=by
 refine R5 (by decide) Odr rfl ?_
 rw [Oex,N79]
 simp only [n101,N87,SB,seval,NC,NJ,NF,NP,reduceCtorEq,NB,place,NA,ND]
 rw [Nb]
 refine Nqk hB hs hn a fun H' q cap b d=>?_
 refine NK ?_
 simp only [n101,N87,SB,seval,NC,NJ,NF,NP,reduceCtorEq,NB,place,NA,ND]
 exact e _ _ _ b.app (d.app _)
end Go.Proofs.YtkppjkkkdpcgiaaGreat.Fn


namespace Go.Proofs.YtkppjkkkdpcgiaaGreat.Fn
open Go.AM Go.AM.Sym Go.Scan
theorem Nl0 [OB] {mp:Bool} {lim:Nat} {n:Int} {H:NE} {Q:Value->NE->Prop}:NL E mp lim 104 [Vi n] H Q=Q (.bool false) H:=by
 refine pc (by decide) Odp rfl rfl ?_
 rw [Oev,N77]
 simp only [n104,Ocl,SB,seval,NC,NJ,NF,NP,reduceCtorEq,NB,place,NA,ND]
theorem Nhg [OB] {mp:Bool} {lim:Nat} {n:Int} {H:NE} {Q:Value->NE->Prop}:NL E mp lim 156 [.int .u8 n] H Q=Q (.bool false) H:=by
 refine pc (by decide) Oc1 rfl rfl ?_
 rw [Od7,c156]
 simp only [n156,Ocg,SB,seval,NC,NJ,NF,NP,reduceCtorEq,NB,place,NA,ND]
def Nmo (a b:Int):Int:=if a<b then -1 else if b<a then 1 else 0
theorem Np9 [OB] {mp:Bool} {lim:Nat} {a b:Int} {H:NE} {Q:Value->NE->Prop}:NL E mp lim 67 [Vi a,Vi b] H Q=Q (Vi (Nmo a b)) H:=by
 refine pc (by decide) e67 rfl rfl ?_
 rw [b67,c67]
 simp only [n67,r67,Nl0,SB,seval,NC,NJ,NF,NP,reduceCtorEq,NB,place,NA,ND]
 repeat' ((first | refine WY (fun c=>?_) (fun c=>?_) | refine Xt (fun c=>?_) (fun c=>?_) | refine WZ (fun c=>?_) (fun c=>?_) | refine Xu (fun c=>?_) (fun c=>?_))<;>(try simp only [c,n67,r67,Nl0,SB,Nat.reduceLT,NC,NJ,Nat.reduceEqDiff,NF,NP,reduceCtorEq,NB,place,NA,Nat.reduceAdd,Nat.reduceLeDiff,ND,Int.reduceEq,Int.reduceLT,Int.reduceLE]))
 all_goals simp [Nmo, *]
theorem Nru [OB] {mp:Bool} {lim:Nat} {a b:Int} {H:NE} {Q:Value->NE->Prop}:NL E mp lim 131 [.int .u8 a,.int .u8 b] H Q=Q (Vi (Nmo a b)) H:=by
 refine pc (by decide) Odb rfl rfl ?_
 rw [Oeh,c131]
 simp only [n131,N83,Nhg,SB,seval,NC,NJ,NF,NP,reduceCtorEq,NB,place,NA,ND]
 repeat' ((first | refine WY (fun c=>?_) (fun c=>?_) | refine Xt (fun c=>?_) (fun c=>?_) | refine WZ (fun c=>?_) (fun c=>?_) | refine Xu (fun c=>?_) (fun c=>?_))<;>(try simp only [c,n131,N83,Nhg,SB,Nat.reduceLT,NC,NJ,Nat.reduceEqDiff,NF,NP,reduceCtorEq,NB,place,NA,Nat.reduceAdd,Nat.reduceLeDiff,ND,Int.reduceEq,Int.reduceLT,Int.reduceLE]))
 all_goals simp [Nmo, *]
def orL:List Int->Int
 | []=>0
 | x::l=>if x≠0 then x else orL l
theorem Nxo {l:List Int} {i:Nat} (h:i<l.length):orL (l.drop i)=if gt l i≠0 then gt l i else orL (l.drop (i+1)):=by
 rw [Ov h,orL,QH h]
theorem N9h [OB] (mp:Bool) (lim:Nat) {p:Option Addr} {l:List Int} {cap:Nat} {H:NE} {Q:Value->NE->Prop} (hs:Sl H encI 1 p l) (hn:l.length<2 ^ 62) :
  NL E mp lim 125 [.slice p l.length cap] H Q=Q (Vi (orL l)) H:=by
 refine pc (by decide) Ode rfl rfl ?_
 rw [Oek,N70]
 simp only [n125,N2d,SB,seval,NC,NJ,NF,NP,reduceCtorEq,NB,place,NA,ND]
 refine NR (fun i=>l.length-i) (fun i fr G=>i<=l.length/\fr 6=.slice p l.length cap/\fr 7=Vi l.length/\fr 8=Vi i/\fr 3=Vi 0/\Sl G encI 1 p l/\
  orL l=orL (l.drop i)) 0 ⟨Nx _,rfl,rfl,by rfl,rfl,hs.app _,rfl⟩ ?_
 intro i fr G ⟨hi,j,m,n,h,o,e⟩ hN
 rw [NT Nzm.eq_1]
 refine NK ?_
 by_cases a:i<l.length
 ·have f:=(o.app []).loadCell0 (fun _=>rfl) a (by decide)
  have d:=fun c (k:IntKind) (H1:NE)=>o.idx (c:=c) (k:=k) (H1:=H1) a
  have g:IntKind.i64.wrap ((i:Int)+1)=((i+1:Nat):Int):=OG (by omega)
  rw [Nxo a] at e
  simp only [n125,N2d,j,m,n,h,a,d,f,encI,g,SB,seval,NC,NJ,NF,NP,reduceCtorEq,NB,place,NA,ND]
  repeat' ((first | refine WY (fun b=>?_) (fun b=>?_) | refine Xt (fun b=>?_) (fun b=>?_) | refine WZ (fun b=>?_) (fun b=>?_) | refine Xu (fun b=>?_) (fun b=>?_))<;>(try simp only [b,n125,N2d,j,m,n,h,a,d,f,encI,g,SB,Nat.reduceLT,NC,NJ,Nat.reduceEqDiff,NF,NP,reduceCtorEq,NB,place,NA,Nat.reduceAdd,Nat.reduceLeDiff,ND,Int.reduceEq,Int.reduceLT,Int.reduceLE]))
  ·rw [e,Ni b]
  ·refine hN (i+1) _ _ ⟨by omega,j,m,rfl,h,o.app _, ?_⟩ (by omega)
   rw [e,Nh b]
 ·obtain rfl:i=l.length:=by omega
  rw [Qk,orL] at e
  simp only [n125,N2d,j,m,n,h,a,e,SB,seval,NC,NJ,NF,NP,reduceCtorEq,NB,place,NA,ND]
def Mf:List Value->List Int
 | .int _ a::r=>a::Mf r
 | _=>[]
def Na8:List Value->Bool
 | .int .i64 _::r=>Na8 r
 | []=>true
 | _=>false
theorem YG {j:IntKind} {a:Int} {r:List Value}:Mf (.int j a::r)=a::Mf r:=rfl
theorem Nep:Mf []=[]:=rfl
theorem Nb3 {a:Int} {r:List Value}:Na8 (Vi a::r)=Na8 r:=id rfl
theorem Nef:Na8 []=true:=id rfl
theorem Nhi:∀c:List Value,Na8 c=true->c=(Mf c).flatMap encI
 | [],_=>rfl
 | .int .i64 a::r,h=>by
   rw [YG,Ox,<-Nhi r h];rfl
theorem Nxn [OB] {mp:Bool} {lim b n cap:Nat} {H:NE} {Q:Value->NE->Prop} (h1:isCells (NH H b)=true) (h2:Na8 (cellsOf (NH H b))=true) (a:(Mf (cellsOf (NH H b))).length=n) (c:n<2 ^ 62) :
  NL E mp lim 125 [.slice (Sa b) n cap] H Q=Q (Vi (orL (Mf (cellsOf (NH H b))))) H:=by
 subst a
 rw [N9h mp lim (Sl.lit (fun _=>rfl) h1 (Nhi _ h2)) c]
theorem Ng9 {a b:Int} {x y:List Int}:SX (a::x) (b::y)=if Nmo a b≠0 then Nmo a b else SX x y:=by
 rw [SX]
 unfold Nmo
 by_cases h1:a<b
 ·simp [h1]
 ·by_cases h2:b<a
  ·simp [h1,h2]
  ·simp [h1,h2]
theorem Nlv:SX [] []=0:=rfl
theorem N0u [OB] {mp:Bool} {lim:Nat} {a b:Mk} {H:NE} {Q:Value->NE->Prop}:NL E mp lim 124 [.agg (QR a).toArray,.agg (QR b).toArray] H Q=Q (Vi (SX (SV a) (SV b))) H:=by
 refine pc (by decide) Odf rfl rfl ?_
 rw [Oel,c124]
 simp only [n124,Oci,QR,Np9,Nru,Nxn,ZE,ZJ,YG,Nep,Nb3,Nef,Nat.reducePow,SB,seval,NC,NJ,NF,NP,reduceCtorEq,NB,place,NA,ND]
 simp only [SV,Ng9,Nlv,orL]
theorem N0v [OB] {mp:Bool} {lim:Nat} {a b:Ev} {H:NE} {Q:Value->NE->Prop}:NL E mp lim 96 [.agg (encE a).toArray,.agg (encE b).toArray] H Q=Q (Vi (SX (Uh a) (Uh b))) H:=by
 refine pc (by decide) e96 rfl rfl ?_
 rw [b96,c96]
 simp only [n96,r96,encE,Np9,Nru,Nxn,ZE,ZJ,YG,Nep,Nb3,Nef,Nat.reducePow,SB,seval,NC,NJ,NF,NP,reduceCtorEq,NB,place,NA,ND]
 simp only [Uh,Ng9,Nlv,orL]
theorem MC [OB] {mp:Bool} {lim:Nat} {a b:Mk} {H:NE} {Q:Value->NE->Prop}:NL E mp lim 127 [.agg (QR a).toArray,.agg (QR b).toArray] H Q=Q (.bool (decide (RO a b))) H:=by
 refine pc (by decide) Odd rfl rfl ?_
 rw [Oej,c127]
 unfold RO
 by_cases h1:a.scanner=b.scanner
 ·simp only [n127,N84,QR,N5 h1,decide_true,Rg,SB,seval,NC,NJ,NF,NP,reduceCtorEq,NB,place,NA,ND]
 ·simp only [n127,N84,QR,Ns h1,decide_false,false_and,SB,seval,NC,NJ,NF,NP,reduceCtorEq,NB,place,NA,ND]
theorem N7e {a b:Int} (h:0<b):a / b=if Int.tmod a b<0 then Int.tdiv a b-1 else Int.tdiv a b:=by
 have h1:=Int.mul_tdiv_add_tmod a b
 by_cases d:0<=a
 ·rw [Nh (by have:=Int.tmod_nonneg b d;omega),Pn d]
 ·have hm:Int.tmod a b<=0:=by
   have:=Int.tmod_nonneg b (a:=-a) (by omega)
   rw [Int.neg_tmod] at this;omega
  have e:-b<Int.tmod a b:=by
   have:=Int.tmod_lt_of_pos (-a) h
   rw [Int.neg_tmod] at this;omega
  by_cases c:Int.tmod a b<0
  ·rw [Ni c]
   exact ((Int.ediv_emod_unique (a:=a) (r:=Int.tmod a b+b) (q:=Int.tdiv a b-1) h).mpr ⟨by rw [Int.mul_sub,Int.mul_one];omega,by omega,by omega⟩).1
  ·rw [Nh c]
   exact ((Int.ediv_emod_unique (a:=a) (r:=Int.tmod a b) (q:=Int.tdiv a b) h).mpr ⟨by omega,by omega,by omega⟩).1
theorem N7d [OB] {mp:Bool} {lim:Nat} {a b:Int} {H:NE} {Q:Value->NE->Prop} (h:0<b) (h1:-2 ^ 62<=a) (h2:a<=2 ^ 62):NL E mp lim 145 [Vi a,Vi b] H Q=Q (Vi (a / b)) H:=by
 refine pc (by decide) Oc2 rfl rfl ?_
 rw [Od8,c145]
 have i:-2 ^ 62<=Int.tdiv a b/\Int.tdiv a b<=2 ^ 62:=by
  have:=Int.natAbs_tdiv_le_natAbs a b
  omega
 have c:¬b=0:=by omega
 have e:=N7e (a:=a) h
 have d:IntKind.i64.wrap (Int.tdiv a b)=Int.tdiv a b:=NU (by omega) (by omega)
 have f:IntKind.i64.wrap (Int.tdiv a b-1)=Int.tdiv a b-1:=NU (by omega) (by omega)
 have g:IntKind.i64.wrap (Int.tmod a b)=Int.tmod a b:=by
  have j:=Int.tmod_lt_of_pos a h
  have k:=Int.natAbs_tmod a b
  have l:a.natAbs % b.natAbs<=a.natAbs:=Nat.mod_le _ _
  exact NU (by omega) (by omega)
 by_cases hm:Int.tmod a b<0
 ·rw [Ni hm] at e
  simp only [n145,N8z,Ns c,d,f,g,N5 hm,e,SB,seval,NC,NJ,NF,NP,reduceCtorEq,NB,place,NA,ND]
 ·rw [Nh hm] at e
  simp only [n145,N8z,Ns c,d,f,g,Ns hm,e,SB,seval,NC,NJ,NF,NP,reduceCtorEq,NB,place,NA,ND]
theorem N2u [OB] {mp:Bool} {lim B1 B2 c i:Nat} {o1 o2:Bool} {p:Option Addr} {M:List Mk} {sc:Int} {H:NE} {Q:Value->NE->Prop} (h1:NH H B1=.cells o1 [.slice p M.length c]) (h2:NH H B2=.cells o2 [Vi sc]) (hs:Sl H QR 3 p M) (hi:i<M.length) :
  NL E mp lim 171 [Vi i,Vp B1,Vp B2] H Q=Q (.bool (decide (sc<=(gt M i).scanner))) H:=by
 refine pc (by decide) Ocw rfl rfl ?_
 rw [Od2,c171]
 have q1:=fun X=>(OI.refl.app (X:=X)).cells h1
 have q2:=fun X=>(OI.refl.app (X:=X)).cells h2
 have b:=fun X=>(hs.app X).loadCell (fun _=>rfl) hi (show 0<3 by decide)
 have a:=fun c (k:IntKind) (H1:NE)=>hs.idx (c:=c) (k:=k) (H1:=H1) hi
 simp only [n171,Ocf,q1,q2,b,a,XQ,ge_iff_le,SB,Nat.reduceLT,NC,NJ,Nat.reduceEqDiff,NF,NP,reduceCtorEq,NB,place,NA,Nat.reduceAdd,Nat.reduceLeDiff,ND,Int.reduceEq,Int.reduceLT,Int.reduceLE]
theorem N8q {x:Int}:IntKind.u64.wrap x=x % 2 ^ 64:=by
 simp only [IntKind.wrap,IntKind.bits,IntKind.signed]
 simp
theorem Nsk [OB] {mp:Bool} {lim B1 B2 c f:Nat} {o1 o2:Bool} {p:Option Addr} {M:List Mk} {sc:Int} {H:NE} {Q:Value->NE->Prop} (h1:NH H B1=.cells o1 [.slice p M.length c]) (h2:NH H B2=.cells o2 [Vi sc]) (hs:Sl H QR 3 p M) (hn:M.length<2 ^ 40)
  (r:f<=M.length) (l:∀i,i<f->(gt M i).scanner<sc) (k:∀i,f<=i->i<M.length->sc<=(gt M i).scanner) :
  NL E mp lim 170 [Vi M.length,.func (.func 171) #[] #[Vp B1,Vp B2]] H Q=Q (Vi f) H:=by
 refine pc (by decide) Ocx rfl rfl ?_
 rw [Od3,N7q]
 simp only [n170,N2a,SB,Nat.reduceLT,NC,NJ,Nat.reduceEqDiff,NF,NP,reduceCtorEq,NB,place,NA,Nat.reduceAdd,Nat.reduceLeDiff,ND,Int.reduceEq,Int.reduceLT,Int.reduceLE]
 refine NR (fun s:Nat×Nat=>s.2-s.1) (fun s fr G=>s.1<=f/\f<=s.2/\s.2<=M.length/\fr 1=.func (.func 171) #[] #[Vp B1,Vp B2]/\fr 5=Vi s.1/\fr 6=Vi s.2/\OI H G) (0,M.length)
  ⟨Nx _,r,Nd _,rfl,by rfl,rfl,OI.refl.app⟩ ?_
 rintro ⟨i,j⟩ fr G ⟨k1,k2,k3,b,d,e,g⟩ hN
 simp only at k1 k2 k3 d e
 rw [NT Nze.eq_1]
 refine NK ?_
 have q1:=fun X=>(g.app (X:=X)).cells h1
 have q2:=fun X=>(g.app (X:=X)).cells h2
 have q3:=fun X=>(g.app (X:=X)).sl hs
 have m:IntKind.i64.wrap ((i:Int)+(j:Int))=(i:Int)+(j:Int):=NU (by omega) (by omega)
 have o:IntKind.u64.wrap ((i:Int)+(j:Int))=(i:Int)+(j:Int):=by rw [N8q];omega
 have n:IntKind.i64.wrap (((i:Int)+(j:Int)).fdiv (2 ^ min (Int.toNat 1) IntKind.u64.bits))=(((i+j) / 2:Nat):Int):=by
  rw [show (2:Int) ^ min (Int.toNat 1) IntKind.u64.bits=2 from by decide,Qy _ (by decide)]
  exact (NU (by omega) (by omega)).trans (by omega)
 have wd:IntKind.i64.wrap ((((i+j) / 2:Nat):Int)+1)=(((i+j) / 2+1:Nat):Int):=OG (by omega)
 by_cases a:i<j
 ·have ho:=fun (H':NE) (h1:_) (h2:_) (q:_) (lim:Nat) (Q:Value->NE->Prop)=>N2u (mp:=false) (lim:=lim) (H:=H') (o1:=o1) (o2:=o2) (B1:=B1) (B2:=B2) (c:=c) (p:=p) (sc:=sc) (Q:=Q) (M:=M) (i:=(i+j) / 2) h1 h2 q (by omega)
  have h:=fun (X:NE)=>ho (G++X) (q1 X) (q2 X) (q3 X)
  by_cases t:(i+j) / 2<f
  ·have hl:=l _ t
   have hd:decide (sc<=(gt M ((i+j) / 2)).scanner)=false:=N7 (by omega)
   simp only [n170,N2a,b,d,e,a,m,o,n,wd,h,hd,SB,Nat.reduceLT,NC,NJ,Nat.reduceEqDiff,NF,NP,reduceCtorEq,NB,place,NA,Nat.reduceAdd,Nat.reduceLeDiff,ND,Int.reduceEq,Int.reduceLT,Int.reduceLE]
   refine hN ((i+j) / 2+1,j) _ _ ⟨by omega,k2,k3,b,rfl,e,g.app⟩ (by simp only;omega)
  ·have hl:=k ((i+j) / 2) (by omega) (by omega)
   have hd:decide (sc<=(gt M ((i+j) / 2)).scanner)=true:=Nq hl
   simp only [n170,N2a,b,d,e,a,m,o,n,wd,h,hd,SB,Nat.reduceLT,NC,NJ,Nat.reduceEqDiff,NF,NP,reduceCtorEq,NB,place,NA,Nat.reduceAdd,Nat.reduceLeDiff,ND,Int.reduceEq,Int.reduceLT,Int.reduceLE]
   refine hN (i,(i+j) / 2) _ _ ⟨k1,by simp only;omega,by simp only;omega,b,d,rfl,g.app⟩ (by simp only;omega)
 ·obtain rfl:i=f:=by omega
  simp only [n170,N2a,b,d,e,a,SB,Nat.reduceLT,NC,NJ,Nat.reduceEqDiff,NF,NP,reduceCtorEq,NB,place,NA,Nat.reduceAdd,Nat.reduceLeDiff,ND,Int.reduceEq,Int.reduceLT,Int.reduceLE]
def Nf8 (sc:Int) (D:List Mk) (i:Nat):List Mk:=(D.drop i).takeWhile fun m=>m.scanner == sc
theorem Nxa {sc:Int} {D:List Mk} {i:Nat} (h:i<D.length) (hs:(gt D i).scanner=sc):Nf8 sc D i=gt D i::Nf8 sc D (i+1):=by
 unfold Nf8
 rw [Ov h,<-QH h,List.takeWhile_cons_of_pos (by simpa using hs)]
theorem N15 {sc:Int} {D:List Mk} {i:Nat} (h:i<D.length) (hs:¬(gt D i).scanner=sc):Nf8 sc D i=[]:=by
 unfold Nf8
 rw [Ov h,<-QH h,List.takeWhile_cons_of_neg (by simpa using hs)]
theorem Nxb {sc:Int} {D:List Mk}:Nf8 sc D D.length=[]:=by
 unfold Nf8;rw [Qk];rfl
def Wh (sc:Int) (M:List Mk):Nat:=(M.takeWhile fun m=>decide (m.scanner<sc)).length
def N4o (M:List Mk):Prop:=M.Pairwise fun a b=>a.scanner<=b.scanner
theorem N14 {M:List Mk} (h:M.Pairwise Mx):N4o M:=h.imp fun {a b} q=>by unfold Mx at q;omega
theorem MX {sc:Int}:∀{M:List Mk},N4o M->Wh sc M<=M.length/\(∀i,i<Wh sc M->(gt M i).scanner<sc)/\(∀i,Wh sc M<=i->i<M.length->sc<=(gt M i).scanner)/\Nf8 sc (M.drop (Wh sc M)) 0=ofN M sc
 | [],_=>⟨Nd _,fun i h=>absurd h (by simp [Wh]),fun i _ h=>absurd h (by simp),rfl⟩
 | m::M,h=>by
   obtain ⟨h1,h2⟩:=List.pairwise_cons.mp h
   obtain ⟨j,d,f,g⟩:=MX (sc:=sc) h2
   by_cases hm:m.scanner<sc
   ·have e:Wh sc (m::M)=Wh sc M+1:=by
     unfold Wh
     rw [List.takeWhile_cons_of_pos (by simpa using hm),Nl]
    rw [e]
    refine ⟨by simp only [Nl];omega,fun i hi=>?_,fun i hi hl=>?_, ?_⟩
    ·cases i with
     | zero=>rw [MU];exact hm
     | succ i=>rw [Uz];exact d i (by omega)
    ·cases i with
     | zero=>omega
     | succ i=>rw [Uz];exact f i (by omega) (by simpa using hl)
    ·rw [List.drop_succ_cons,g]
     unfold ofN
     rw [Q8 (by simp;omega)]
   ·have e:Wh sc (m::M)=0:=by
     unfold Wh
     rw [List.takeWhile_cons_of_neg (by simpa using hm)];rfl
    rw [e]
    refine ⟨Nx _,fun i hi=>absurd hi (Nat.not_lt_zero i),fun i _ hl=>?_, ?_⟩
    ·cases i with
     | zero=>rw [MU];omega
     | succ i=>
       rw [Uz]
       have b:i<M.length:=by simpa using hl
       have:=h1 _ (Ru b);omega
    ·rw [Oy]
     unfold Nf8 ofN
     rw [Oy]
     clear j d f g e
     have key:∀L:List Mk,N4o L->(∀x∈L,sc<=x.scanner)->(L.takeWhile fun m=>m.scanner == sc)=L.filter fun m=>m.scanner == sc:=by
      intro L
      induction L with
      | nil=>intros;rfl
      | cons x L ih=>
        intro hL a
        obtain ⟨k1,k2⟩:=List.pairwise_cons.mp hL
        by_cases hx:x.scanner=sc
        ·rw [List.takeWhile_cons_of_pos (by simpa using hx),List.filter_cons_of_pos (by simpa using hx),ih k2 fun y c=>a y (Nj _ c)]
        ·rw [List.takeWhile_cons_of_neg (by simpa using hx),Q8 (by simpa using hx)]
         symm
         rw [List.filter_eq_nil_iff]
         intro y c
         have k:=k1 y c
         have l:=a x No
         simp;omega
     exact key _ h fun x hx=>by
      rcases Np.mp hx with rfl | hx
      ·omega
      ·have:=h1 x hx;omega
theorem N9k [OB] {lim c n:Nat} {p:Option Addr} {sc:Int} {H:NE} {Q:Value->NE->Prop} :
  NL E false lim 144 [.slice p n c,Vi sc] H Q=Q (.func (.func 169) #[] #[Vp H.length,Vp (H.length+1)]) (H++[Vc [.slice p n c],Vc [Vi sc]]):=by
 refine NL.eq ?_
 refine R5 (by decide) Oc3 rfl ?_
 rw [Od9,N7t]
 simp only [n144,Och,SB,seval,NC,NJ,NF,NP,reduceCtorEq,NB,place,NA,ND]
def Nh0 (K:Nat->Prop) (H H':NE):Prop:=H.length<=H'.length/\∀j,K j->NH H' j=NH H j
theorem Nh0.sl {α:Type} {K:Nat->Prop} {H H':NE} {enc:α->List Value} {e:Nat} {p:Option Addr} {l:List α} (h:Nh0 K H H') (hs:Sl H enc e p l) (hp:∀a,p=some a->K a.block):Sl H' enc e p l:=by
 cases p with
 | none=>exact hs
 | some a=>
   refine ⟨hs.1,fun hl=>?_⟩
   obtain ⟨ro,c,h1,h2⟩:=hs.2 hl
   exact ⟨ro,c,(h.2 _ (hp a rfl)).trans h1,h2⟩
theorem N2t [OB] {lim Y B1 B2 c:Nat} {p:Option Addr} {M:List Mk} {sc:Int} {H:NE} {Q:Value->NE->Prop} (I:List Mk->NE->Prop) (K:Nat->Prop)
  (z:∀rest H H',I rest H->Chg [] H H'->I rest H')
  (r:∀m rest G,m∈M->m.scanner=sc->H.length<=G.length->I (m::rest) G->WK E false lim Y [.agg (QR m).toArray] G fun v H'=>Nh0 K G H'/\(v=.bool true/\I rest H'\/v=.bool false/\∀X,Q (.tuple #[]) (H'++X)))
  (h1:NH H B1=Vc [.slice p M.length c]) (h2:NH H B2=Vc [Vi sc]) (hs:Sl H QR 3 p M) (hc:UC 3 c M.length) (hn:M.length<2 ^ 40) (V:N4o M) (hl:lim<=H.length)
  (F:K B2) (J:M≠[]->∀a,p=some a->K a.block) (U:I (ofN M sc) H) (P:∀H',I [] H'->Q (.tuple #[]) H') :
  NL E false lim 169 [.func (.yield Y) #[] #[],Vp B1,Vp B2] H Q:=by
 refine R5 (by decide) Ocy rfl ?_
 rw [Od4,N7r]
 obtain ⟨f1,f2,f3,f4⟩:=MX (sc:=sc) V
 have q1:=fun X=>(OI.refl.app (X:=X)).cells h1
 have q2:=fun X=>(OI.refl.app (X:=X)).cells h2
 have q3:=fun X=>(OI.refl.app (H:=H) (X:=X)).sl hs
 have N:=fun (X:NE) (lim:Nat) (Q:Value->NE->Prop)=>Nsk (mp:=false) (lim:=lim) (Q:=Q) (sc:=sc) (q1 X) (q2 X) (q3 X) hn f1 f2 f3
 generalize aa:Wh sc M=f at *
 obtain ⟨q,cq,e1,S,m0,m1,_⟩:=Uf (vlo:=some (Vi f)) (vhi:=none) (lo:=f) (hi:=M.length) hs hc QG (fun cap R=>by rw [Njk (by omega) (by omega),Ob]) f1 (Nd _) (by omega)
 rw [Oj] at S
 have O:(M.drop f).length=M.length-f:=Pi
 simp only [n169,Nsq,q1,q2,N,e1,SB,seval,NC,NJ,NF,NP,reduceCtorEq,NB,place,NA,ND]
 refine NR (fun i=>M.length-f-i) (fun i fr G=>i<=M.length-f/\fr 0=.func (.yield Y) #[] #[]/\fr 2=Vp B2/\fr 13=.slice q (M.length-f) cq/\fr 14=Vi ((M.length-f:Nat):Int)/\fr 15=Vi i/\
  NH G B2=Vc [Vi sc]/\Sl G QR 3 q (M.drop f)/\H.length<=G.length/\I (Nf8 sc (M.drop f) i) G) 0
  ⟨Nx _,rfl,rfl,rfl,rfl,by rfl,q2 _,S.app _,by simp,by rw [f4];exact z _ _ _ U (Chg.refl.app)⟩ ?_
 rintro i fr G ⟨hi,w,x,d,g,j,T,D,gL,y⟩ hN
 rw [NT Nzf.eq_1]
 refine NK ?_
 by_cases n:i<M.length-f
 ·have l:i<(M.drop f).length:=by omega
  have u:=fun X=>(OI.refl.app (X:=X)).cells T
  have B:=fun X=>(D.app X).loadCells QG l
  have t:∀(c:Nat) (k:IntKind) (H1:NE),Z0 3 (.slice q (M.length-f) c) (.int k (i:Int)) H1=some (.pointer (some (Zt q 3 i)),H1):=fun c k H1=>by
   rw [<-O];exact D.idx l
  have s:IntKind.i64.wrap ((i:Int)+1)=((i+1:Nat):Int):=OG (by omega)
  have A:lim<=G.length:=by omega
  have C:gt (M.drop f) i∈M:=List.mem_of_mem_drop (Ru l)
  by_cases o:(gt (M.drop f) i).scanner=sc
  ·rw [Nxa l o] at y
   simp only [n169,Nsq,w,x,d,g,j,u,NV,n,B,t,s,A,NG,QG,XQ,YN,YM,NI,N5 o,QR,not_true,decide_false,decide_true,SB,seval,NC,NJ,NF,NP,reduceCtorEq,NB,place,NA,ND]
   refine (r _ _ _ C o (by simp;omega) (z _ _ _ y Chg.refl.app)).mono fun v H' hv=>?_
   obtain ⟨hk,⟨rfl,L⟩ | ⟨rfl,hq⟩⟩:=hv
   ·refine NK ?_
    simp only [n169,Nsq,w,x,d,g,j,s,SB,seval,NC,NJ,NF,NP,reduceCtorEq,NB,place,NA,ND]
    refine hN (i+1) _ _ ⟨by omega,w,x,d,g,rfl, ?_, ?_, ?_, ?_⟩ (by omega)
    ·exact (OI.refl.app).cells ((hk.2 _ F).trans (u _))
    ·exact (hk.sl (D.app _) fun a W=>by
      obtain ⟨b,Z,e⟩:=m1 a W
      rw [e];exact J (fun h=>by rw [h] at n;simp at n) b Z).app _
    ·have:=hk.1
     simp at this⊢;omega
    ·exact z _ _ _ L Chg.refl.app
   ·refine NK ?_
    simp only [n169,Nsq,w,x,d,g,j,s,SB,seval,NC,NJ,NF,NP,reduceCtorEq,NB,place,NA,ND]
    exact hq _
  ·rw [N15 l o] at y
   simp only [n169,Nsq,w,x,d,g,j,u,NV,n,B,t,s,A,NG,QG,XQ,YN,YM,NI,Ns o,QR,not_false_eq_true,decide_false,decide_true,SB,seval,NC,NJ,NF,NP,reduceCtorEq,NB,place,NA,ND]
   exact P _ (z _ _ _ y Chg.refl.app)
 ·obtain rfl:i=M.length-f:=by omega
  rw [<-O,Nxb] at y
  simp only [n169,Nsq,w,x,d,g,j,NV,n,SB,seval,NC,NJ,NF,NP,reduceCtorEq,NB,place,NA,ND]
  exact P _ (z _ _ _ y Chg.refl.app)
end Go.Proofs.YtkppjkkkdpcgiaaGreat.Fn


