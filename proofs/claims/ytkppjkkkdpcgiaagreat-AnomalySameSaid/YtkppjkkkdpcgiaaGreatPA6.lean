/-
  Joined texts, 6 of 10. A part of the claim that the last text states.
-/
import Derived.Test.YtkppjkkkdpcgiaaGreatPA5
set_option linter.unusedVariables false
set_option linter.unusedSimpArgs false
set_option linter.defProp false
set_option linter.unusedSectionVars false
set_option maxRecDepth 100000
set_option maxHeartbeats 4000000
namespace Go.Proofs.YtkppjkkkdpcgiaaGreat.Fn
open Go.AM Go.AM.Sym Go.Net
def Tu (pp:Option Addr) (np cp:Nat) (pl:Option Addr) (nl cl:Nat):List Value:=[.slice pp np cp,.slice pl nl cl]
theorem PS {pp pl:Option Addr} {np cp nl cl:Nat}:(Tu pp np cp pl nl cl).length=2:=id rfl
theorem Sv {pp pl:Option Addr} {np cp nl cl:Nat}:(Tu pp np cp pl nl cl)[0]? = some (.slice pp np cp):=id rfl
theorem Su {pp pl:Option Addr} {np cp nl cl:Nat}:(Tu pp np cp pl nl cl)[1]? = some (.slice pl nl cl):=id rfl
structure NetIn (H:NE) (pp pl:Option Addr) (P:List Int) (L:List Leg):Prop where
 sp:Sl H encI 1 pp P
 sl:Sl H RA 8 pl L
 np:P.length<2 ^ 63
 nl:L.length<2 ^ 63
 bys:∀l∈L,By l
theorem NetIn.app {H:NE} {pp pl:Option Addr} {P:List Int} {L:List Leg} (h:NetIn H pp pl P L) (X:NE):NetIn (H++X) pp pl P L:=⟨h.sp.app X,h.sl.app X,h.np,h.nl,h.bys⟩
theorem NetIn.ext {H G:NE} {pp pl:Option Addr} {P:List Int} {L:List Leg} (h:NetIn H pp pl P L) (e:OJ H G):NetIn G pp pl P L:=⟨e.sl h.sp,e.sl h.sl,h.np,h.nl,h.bys⟩
def Uq (ks:List Int):List (Value×Value):=ks.map fun k=>(Vi k,.bool true)
theorem Njl {ks:List Int} {a:Int} {i:Nat} (h:a∉ks):findKey (Vi a) (Uq ks) i=some none:=by
 unfold Uq
 exact XW (f:=fun k:Int=>k) (g:=fun _=>.bool true) fun x b e=>h (e▸b)
theorem Nde {ks:List Int} {a:Int} {i:Nat} (h:a∈ks):∃j,findKey (Vi a) (Uq ks) i=some (some (j,.bool true)):=by
 unfold Uq
 exact YM (f:=fun k:Int=>k) (g:=fun _=>.bool true) ⟨a,h,rfl⟩ fun _ _ _=>rfl
theorem Nr4 {ks:List Int} {a:Int}:Uq ks++[(Vi a,.bool true)]=Uq (ks++[a]):=by simp [Uq]
def pOk (P:List Int) (i:Nat):Prop:=1<=gt P i/\gt P i<=999999/\gt P i∉P.take i
instance (P:List Int) (i:Nat):Decidable (pOk P i):=by unfold pOk;infer_instance
def Uj (P:List Int):Prop:=∀i,i<P.length->pOk P i
instance (P:List Int):Decidable (Uj P):=by unfold Uj;infer_instance
def lOk (P:List Int) (L:List Leg) (i:Nat):Prop:=Fine (gt L i)/\(gt L i).id∉(L.take i).map (·.id)/\(gt L i).frm∈P/\(gt L i).dst∈P
instance (P:List Int) (L:List Leg) (i:Nat):Decidable (lOk P L i):=by unfold lOk;infer_instance
def Wv (P:List Int) (L:List Leg):Prop:=∀i,i<L.length->lOk P L i
instance (P:List Int) (L:List Leg):Decidable (Wv P L):=by unfold Wv;infer_instance
def R6 (P:List Int) (L:List Leg):Int:=if 50<P.length\/200<L.length then 5 else if ¬Uj P then 320 else if ¬Wv P L then 321 else 0
theorem Nn4 [OB] {H G:NE} {pp pl:Option Addr} {P:List Int} {L:List Leg} {cp cl R:Nat} {fr:Nat->Value} {K:List AItem} {v:Value} (hn:NetIn G pp pl P L) (aa:NH G R=Vc (Tu pp P.length cp pl L.length cl))
  (Z:NH G (R+1)=.map (Uq P)) (hR:H.length<=R) (f1:fr 1=Vp R) (f3:fr 3=.map (some (R+1))) (f6:fr 6=.map (some G.length)) (S:fr 49=.slice pl L.length cl) (T:fr 50=Vi L.length) (U:fr 51=Vi 0)
  (J:¬Wv P L->v=Vi 321)
  (V:∀fr' G',Wv P L->PV E a12 H.length K fr' (G'++[]) fun v' _=>v'=v) :
  PV E a12 H.length (.code (.loop N0m)::.inBlock 2::K) fr (G++[.map []]) fun v' _=>v'=v:=by
 have Y:=PR Z
 refine NP (fun i=>L.length-i) (fun i fr G'=>i<=L.length/\fr 3=.map (some (R+1))/\fr 6=.map (some G.length)/\fr 49=.slice pl L.length cl/\fr 50=Vi L.length/\fr 51=Vi i/\
  G.length<G'.length/\Sl G' RA 8 pl L/\NH G' (R+1)=.map (Uq P)/\NH G' G.length=.map (Uq ((L.take i).map (·.id)))/\∀j,j<i->lOk P L j) 0
  ⟨Nw _,f3,f6,S,T,U,by simp,hn.sl.app _,by rw [NQ Y];exact Z,NV,fun j D=>by omega⟩ ?_
 intro i fr G' ⟨hi,B,C,f,g,n,hL,I,z,M,A⟩ hN
 rw [NU N0m.eq_1]
 refine NK ?_
 by_cases a:i<L.length
 ·have o:=Nat.le_of_lt hL
  have W:=hn.bys _ (QR a)
  have s:∀X,NH (G'++X) (R+1)=.map (Uq P):=fun X=>by rw [NQ (PR z)];exact z
  have r:∀X,NH (G'++X) G.length=.map (Uq ((L.take i).map (·.id))):=fun X=>by rw [NQ hL];exact M
  have q:=fun X=>(I.app X).loadCells OI a
  have d:=fun c (k:IntKind) (H1:NE)=>I.idx (c:=c) (k:=k) (H1:=H1) a
  have t:IntKind.i64.wrap ((i:Int)+1)=((i+1:Nat):Int):=OD (by have:=hn.nl;omega)
  have p:H.length<=G.length:=by omega
  have e:H.length<=G'.length:=by omega
  have l:=fun (H:NE) (mp:Bool) (lim:Nat) (Q:Value->NE->Prop)=>Nej (mp:=mp) (lim:=lim) (H:=H) (Q:=Q) W
  have u:¬lOk P L i->v=Vi 321:=fun h=>J fun hh=>h (hh i a)
  by_cases O:Fine (gt L i)
  ·rw [Np O] at l
   by_cases m:(gt L i).id∈(L.take i).map (·.id)
   ·obtain ⟨j,D⟩:=Nde (i:=0) m
    simp only [n12,r12,B,C,f,g,n,a,o,d,q,t,r,s,D,l,OI,QH,QG,QF,QE,QD,QC,QB,QA,NI,e,SB,seval,NC,NJ,NG,NR,reduceCtorEq,NB,place,NA,ND]
    exact (u fun h=>h.2.1 m).symm
   ·have D:=Njl (i:=0) m
    by_cases x:(gt L i).frm∈P
    ·obtain ⟨j1,y⟩:=Nde (i:=0) x
     by_cases w:(gt L i).dst∈P
     ·obtain ⟨j2,F⟩:=Nde (i:=0) w
      simp only [n12,r12,B,C,f,g,n,a,o,d,q,t,r,s,D,y,F,l,OI,QH,QG,QF,QE,QD,QC,QB,QA,NI,p,e,SB,seval,NC,NJ,NG,NR,reduceCtorEq,NB,place,NA,ND]
      refine hN (i+1) _ _ ⟨by omega,B,C,f,g,rfl,by simp;omega, ?_, ?_, ?_,fun j D=>?_⟩ (by omega)
      ·refine I.sim fun b ro c N=>?_
       rw [QP (by rintro rfl;rw [M] at N;cases N),NQ (NM N)];exact N
      ·rw [QP (by omega),NQ (PR z)];exact z
      ·rw [V3 (by simp;omega),Nr4,Xh a,O0];rfl
      ·rcases On j i with h | h
       ·exact A j h
       ·obtain rfl:j=i:=by omega
        exact ⟨O,m,x,w⟩
     ·have F:=Njl (i:=0) w
      simp only [n12,r12,B,C,f,g,n,a,o,d,q,t,r,s,D,y,F,l,OI,QH,QG,QF,QE,QD,QC,QB,QA,NI,p,e,SB,seval,NC,NJ,NG,NR,reduceCtorEq,NB,place,NA,ND]
      exact (u fun h=>w h.2.2.2).symm
    ·have y:=Njl (i:=0) x
     simp only [n12,r12,B,C,f,g,n,a,o,d,q,t,r,s,D,y,l,OI,QH,QG,QF,QE,QD,QC,QB,QA,NI,p,e,SB,seval,NC,NJ,NG,NR,reduceCtorEq,NB,place,NA,ND]
     exact (u fun h=>x h.2.2.1).symm
  ·rw [N5 O] at l
   simp only [n12,r12,B,C,f,g,n,a,o,d,q,t,r,s,l,OI,QH,QG,QF,QE,QD,QC,QB,QA,NI,e,SB,seval,NC,NJ,NG,NR,reduceCtorEq,NB,place,NA,ND]
   exact (u fun h=>O h.1).symm
 ·obtain rfl:i=L.length:=by omega
  simp only [n12,r12,B,C,f,g,n,a,SB,seval,NC,NJ,NG,NR,reduceCtorEq,NB,place,NA,ND]
  exact V _ _ A
theorem Ndu [OB] {mp:Bool} {lim:Nat} {pp pl:Option Addr} {P:List Int} {L:List Leg} {cp cl:Nat} {H:NE} {Q:Value->NE->Prop} (hn:NetIn H pp pl P L) :
  NL E mp lim 12 [.agg (Tu pp P.length cp pl L.length cl).toArray] H Q=Q (Vi (R6 P L)) H:=by
 refine pc (by decide) e12 rfl rfl ?_
 rw [b12,c12]
 by_cases v:50<(P.length:Int)
 ·simp only [n12,r12,PS,Sv,Su,v,SB,seval,NC,NJ,NG,NR,reduceCtorEq,NB,place,NA,ND]
  rw [R6,Ni (by omega)]
 by_cases q:200<(L.length:Int)
 ·simp only [n12,r12,PS,Sv,Su,v,q,SB,seval,NC,NJ,NG,NR,reduceCtorEq,NB,place,NA,ND]
  rw [R6,Ni (by omega)]
 simp only [n12,r12,PS,Sv,Su,v,q,SB,seval,NC,NJ,NG,NR,reduceCtorEq,NB,place,NA,ND]
 have A:R6 P L=if ¬Uj P then 320 else if ¬Wv P L then 321 else 0:=by rw [R6,Ng (by omega)]
 refine NP (fun i=>P.length-i) (fun i fr G=>i<=P.length/\fr 1=Vp H.length/\fr 3=.map (some (H.length+1))/\fr 24=.slice pp P.length cp/\fr 25=Vi P.length/\fr 26=Vi i/\
  H.length+1<G.length/\Sl G encI 1 pp P/\Sl G RA 8 pl L/\NH G H.length=Vc (Tu pp P.length cp pl L.length cl)/\NH G (H.length+1)=.map (Uq (P.take i))/\∀j,j<i->pOk P j) 0
  ⟨Nw _,rfl,rfl,rfl,rfl,by rfl,by simp,hn.sp.app _,hn.sl.app _,NV,OC,fun j y=>by omega⟩ ?_
 intro i fr G ⟨hi,h1,u,f,g,l,hL,o,z,x,C,r⟩ I
 rw [NU N6w.eq_1]
 refine NK ?_
 have F:=fun X=>(OJ.refl.app (X:=X)).cells x
 have n:∀X,NH (G++X) (H.length+1)=.map (Uq (P.take i)):=fun X=>by rw [NQ hL];exact C
 have D:H.length<=H.length+1:=by omega
 by_cases a:i<P.length
 ·have m:=fun X=>(o.app X).loadCell0 Sj a (by decide)
  simp only [encI,O7] at m
  have d:=fun c (k:IntKind) (H1:NE)=>o.idx (c:=c) (k:=k) (H1:=H1) a
  have p:IntKind.i64.wrap ((i:Int)+1)=((i+1:Nat):Int):=OD (by omega)
  have t:¬pOk P i->R6 P L=320:=fun h=>by rw [A,Ni fun K=>h (K i a)]
  by_cases B:gt P i<1
  ·simp only [n12,r12,h1,u,f,g,l,a,d,m,p,n,B,SB,seval,NC,NJ,NG,NR,reduceCtorEq,NB,place,NA,ND]
   rw [t fun h=>by have:=h.1;omega]
  ·by_cases s:999999<gt P i
   ·simp only [n12,r12,h1,u,f,g,l,a,d,m,p,n,B,s,SB,seval,NC,NJ,NG,NR,reduceCtorEq,NB,place,NA,ND]
    rw [t fun h=>by have:=h.2.1;omega]
   ·by_cases e:gt P i∈P.take i
    ·obtain ⟨j,y⟩:=Nde (i:=0) e
     simp only [n12,r12,h1,u,f,g,l,a,d,m,p,n,B,s,y,SB,seval,NC,NJ,NG,NR,reduceCtorEq,NB,place,NA,ND]
     rw [t fun h=>h.2.2 e]
    ·have y:=Njl (i:=0) e
     simp only [n12,r12,h1,u,f,g,l,a,d,m,p,n,B,s,y,D,SB,seval,NC,NJ,NG,NR,reduceCtorEq,NB,place,NA,ND]
     have w:∀b ro c,NH G b=.cells ro c->NH ((G++[]).set (H.length+1) (.map (Uq (P.take i)++[(Value.int .i64 (gt P i),Value.bool true)]))) b=.cells ro c:=fun b ro c s=>by
      rw [QP (by rintro rfl;rw [C] at s;cases s),NQ (NM s)];exact s
     refine I (i+1) _ _ ⟨by omega,h1,u,f,g,rfl,by simp;omega,o.sim w,z.sim w,w _ _ _ x, ?_,fun j y=>?_⟩ (by omega)
     ·rw [V3 (by simp;omega),Nr4,Xh a]
     ·rcases On j i with h | h
      ·exact r j h
      ·obtain rfl:j=i:=by omega
       exact ⟨by omega,by omega,e⟩
 ·obtain rfl:i=P.length:=by omega
  rw [Oj] at C
  have J:Uj P:=r
  rw [Ng (by simpa using J)] at A
  simp only [n12,r12,h1,u,f,g,l,a,F,PS,Sv,Su,SB,seval,NC,NJ,NG,NR,reduceCtorEq,NB,place,NA,ND]
  refine Nn4 (H:=H) (R:=H.length) (G:=G) ⟨o,z,hn.np,hn.nl,hn.bys⟩ x C (Nd _) h1 u rfl rfl rfl rfl (fun h=>by rw [A,Ni h]) fun fr' G' h=>?_
  rw [Ng (by simpa using h)] at A
  rw [A]
  simp only [n12,r12,SB,seval,NC,NJ,NG,NR,reduceCtorEq,NB,place,NA,ND]
def WT (P:List Int):List (Value×Value):=P.map fun p=>(Vi p,Vi (P.idxOf p:Int))
theorem Vl {P:List Int} {a:Int} {i:Nat} (h:a∈P):∃j,findKey (Vi a) (WT P) i=some (some (j,Vi (P.idxOf a:Int))):=by
 unfold WT
 exact YM (f:=fun k:Int=>k) (g:=fun k=>Vi (P.idxOf k:Int)) ⟨a,h,rfl⟩ fun x _ e=>by rw [e]
theorem No0 {P:List Int} {a:Int} {i:Nat} (h:a∉P):findKey (Vi a) (WT P) i=some none:=by
 unfold WT
 exact XW (f:=fun k:Int=>k) (g:=fun k=>Vi (P.idxOf k:Int)) fun x b e=>h (e▸b)
theorem Uj.idx {P:List Int} (h:Uj P) {i:Nat} (hi:i<P.length):P.idxOf (gt P i)=i:=by
 have h1:=(h i hi).2.2
 have h2:P.idxOf (gt P i)<=i:=by
  rw [PW hi]
  apply Oh;intro hc
  have:=List.not_of_lt_findIdx (xs:=P) (p:=(· == P[i])) (i:=i) (by unfold List.idxOf at hc;omega)
  simp at this
 rcases On (P.idxOf (gt P i)) i with h3 | h3
 ·exfalso
  apply h1
  have a:gt P i∈P:=QR hi
  have hl:=Pd a
  have:=Q6 hl
  rw [List.mem_take_iff_getElem]
  exact ⟨P.idxOf (gt P i),by omega,this⟩
 ·omega
theorem Ni6 [OB] {lim:Nat} {pp pl:Option Addr} {P:List Int} {L:List Leg} {cp cl:Nat} {H:NE} {Q:Value->NE->Prop} (hn:NetIn H pp pl P L) (t:Uj P) (u:lim<=H.length)
  (w:∀H',OJ H H'->NH H' (H.length+1)=.map (WT P)->Q (.map (some (H.length+1))) H') :
  NL E false lim 97 [.agg (Tu pp P.length cp pl L.length cl).toArray] H Q:=by
 refine RG (by decide) e97 rfl ?_
 rw [b97,c97]
 simp only [n97,r97,PS,Sv,Su,SB,seval,NC,NJ,NG,NR,reduceCtorEq,NB,place,NA,ND]
 refine NP (fun i=>P.length-i) (fun i fr G=>i<=P.length/\fr 3=.map (some (H.length+1))/\fr 11=.slice pp P.length cp/\fr 12=Vi P.length/\fr 13=Vi i/\
  H.length+1<G.length/\OJ H G/\NH G (H.length+1)=.map ((P.take i).map fun p=>(Vi p,Vi (P.idxOf p:Int)))) 0
  ⟨Nw _,rfl,rfl,rfl,by rfl,by simp,OJ.refl.app,OC⟩ ?_
 intro i fr G ⟨hi,n,b,d,h,hL,m,q⟩ v
 rw [NU N57.eq_1]
 refine NK ?_
 have r:∀X,NH (G++X) (H.length+1)=.map ((P.take i).map fun p=>(Value.int .i64 p,Value.int .i64 (P.idxOf p:Int))):=fun X=>by rw [NQ hL];exact q
 have o:lim<=H.length+1:=by omega
 by_cases a:i<P.length
 ·have l:=fun X=>((m.sl hn.sp).app X).loadCell0 Sj a (by decide)
  simp only [encI,O7] at l
  have j:=fun c (k:IntKind) (H1:NE)=>(m.sl hn.sp).idx (c:=c) (k:=k) (H1:=H1) a
  have s:IntKind.i64.wrap ((i:Int)+1)=((i+1:Nat):Int):=OD (by have:=hn.np;omega)
  have y:findKey (Vi (gt P i)) ((P.take i).map fun p=>(Vi p,Vi (P.idxOf p:Int))) 0=some none:=
   XW (f:=fun k:Int=>k) (g:=fun k=>Vi (P.idxOf k:Int)) fun x z e=>(t i a).2.2 (e▸z)
  simp only [n97,r97,n,b,d,h,a,j,l,s,r,y,o,SB,seval,NC,NJ,NG,NR,reduceCtorEq,NB,place,NA,ND]
  refine v (i+1) _ _ ⟨by omega,n,b,d,rfl,by simp;omega, ?_, ?_⟩ (by omega)
  ·obtain ⟨Y,rfl⟩:=m
   exact ⟨(Y++[]).set 1 _,by rw [No];exact Niy⟩
  ·rw [V3 (by simp;omega),Xh a,O0]
   simp only [N3,List.map_nil,t.idx a]
 ·obtain rfl:i=P.length:=by omega
  rw [Oj] at q
  simp only [n97,r97,n,b,d,h,a,SB,seval,NC,NJ,NG,NR,reduceCtorEq,NB,place,NA,ND]
  refine w _ m.app ?_
  rw [NQ hL];exact q
def V4 (P:List Int) (L:List Leg) (a b t:Int):Int:=if R6 P L≠0 then R6 P L else if a∈P/\b∈P/\0<=t/\t<=OA then 0 else 2
theorem Vt {P:List Int} {L:List Leg} (h:R6 P L=0):P.length<=50/\L.length<=200/\Uj P/\Wv P L:=by
 unfold R6 at h
 split at h
 ·cases h
 ·split at h
  ·cases h
  ·split at h
   ·cases h
   ·rename_i h1 h2 a
    exact ⟨by omega,by omega,by simpa using h2,by simpa using a⟩
theorem Mq {P:List Int} {L:List Leg} {a b t:Int} (h:V4 P L a b t=0):R6 P L=0/\a∈P/\b∈P/\0<=t/\t<=OA:=by
 unfold V4 at h
 split at h
 ·contradiction
 ·rename_i d
  split at h
  ·rename_i c;exact ⟨by simpa using d,c⟩
  ·cases h
theorem Nga [OB] {lim:Nat} {pp pl:Option Addr} {P:List Int} {L:List Leg} {cp cl:Nat} {a b t:Int} {H:NE} {Q:Value->NE->Prop} (hn:NetIn H pp pl P L) (s:lim<=H.length)
  (c:∀H',V4 P L a b t≠0->OJ H H'->Q (.tuple #[.map none,Vi (V4 P L a b t)]) H')
  (p:∀H' R,V4 P L a b t=0->OJ H H'->NH H' R=.map (WT P)->H.length<=R->Q (.tuple #[.map (some R),Vi 0]) H') :
  NL E false lim 58 [.agg (Tu pp P.length cp pl L.length cl).toArray,Vi a,Vi b,Vi t] H Q:=by
 refine RG (by decide) e58 rfl ?_
 rw [b58,c58]
 have r:=fun X (mp:Bool) (lim:Nat) (Q:Value->NE->Prop)=>Ndu (mp:=mp) (lim:=lim) (cp:=cp) (cl:=cl) (Q:=Q) (hn.app X)
 by_cases j:R6 P L=0
 ·have l:¬(R6 P L≠0):=by simpa using j
  obtain ⟨y,z,w,A⟩:=Vt j
  rw [j] at r
  simp only [n58,r58,r,PS,Sv,Su,NI,SB,seval,NC,NJ,NG,NR,reduceCtorEq,NB,place,NA,ND]
  refine Ni6 (hn.app _) w (by simp;omega) fun H' u o=>?_
  have g:OJ H H':=by obtain ⟨Y,rfl⟩:=u;rw [No];exact OJ.refl.app
  simp only [Nl,Nm,Ns,Oc,Pe,Nat.reduceAdd] at o⊢
  have hl:=PR o
  have f:∀X,NH (H'++X) (H.length+2)=.map (WT P):=fun X=>by rw [NQ hl];exact o
  refine NK ?_
  have e2:¬(a∈P/\b∈P/\0<=t/\t<=OA)->V4 P L a b t=2:=fun h=>by rw [V4,Ng l,Ng h]
  by_cases n:a∈P
  ·obtain ⟨x,e⟩:=Vl (i:=0) n
   by_cases k:b∈P
   ·obtain ⟨v,d⟩:=Vl (i:=0) k
    by_cases q:t<0
    ·have he:=e2 fun h=>by omega
     simp only [n58,r58,f,e,d,q,SB,seval,NC,NJ,NG,NR,reduceCtorEq,NB,place,NA,ND]
     rw [<-he];exact c _ (by rw [he];decide) g.app
    ·by_cases m:1051898399<t
     ·have he:=e2 fun h=>by unfold OA at h;omega
      simp only [n58,r58,f,e,d,q,m,SB,seval,NC,NJ,NG,NR,reduceCtorEq,NB,place,NA,ND]
      rw [<-he];exact c _ (by rw [he];decide) g.app
     ·have he:V4 P L a b t=0:=by rw [V4,Ng l,Ni ⟨n,k,by omega,by unfold OA;omega⟩]
      simp only [n58,r58,f,e,d,q,m,SB,seval,NC,NJ,NG,NR,reduceCtorEq,NB,place,NA,ND]
      exact p _ _ he g.app (f []) (by omega)
   ·have d:=No0 (i:=0) k
    have he:=e2 fun h=>k h.2.1
    simp only [n58,r58,f,e,d,SB,seval,NC,NJ,NG,NR,reduceCtorEq,NB,place,NA,ND]
    rw [<-he];exact c _ (by rw [he];decide) g.app
  ·have e:=No0 (i:=0) n
   have he:=e2 fun h=>n h.1
   by_cases k:b∈P
   ·obtain ⟨v,d⟩:=Vl (i:=0) k
    simp only [n58,r58,f,e,d,SB,seval,NC,NJ,NG,NR,reduceCtorEq,NB,place,NA,ND]
    rw [<-he];exact c _ (by rw [he];decide) g.app
   ·have d:=No0 (i:=0) k
    simp only [n58,r58,f,e,d,SB,seval,NC,NJ,NG,NR,reduceCtorEq,NB,place,NA,ND]
    rw [<-he];exact c _ (by rw [he];decide) g.app
 ·have he:V4 P L a b t=R6 P L:=by rw [V4,Ni j]
  simp only [n58,r58,r,PS,Sv,Su,NI,j,Nq j,SB,seval,NC,NJ,NG,NR,reduceCtorEq,NB,place,NA,ND]
  rw [<-he];exact c _ (by rw [he];exact j) OJ.refl.app
theorem find_ok [OB] {mp:Bool} {lim:Nat} {pp pl:Option Addr} {P:List Int} {L:List Leg} {cp cl:Nat} {a:Int} {H:NE} {Q:Value->NE->Prop} (hn:NetIn H pp pl P L) :
  NL E mp lim 33 [.agg (Tu pp P.length cp pl L.length cl).toArray,Vi a] H Q=Q (match L.find? (fun l=>l.id=a) with | some l=>.tuple #[.agg (RA l).toArray,.bool true] | none=>.tuple #[.agg #[Vi 0,Vi 0,Vi 0,Vi 0,Vi 0,Vi 0,Vi 0,.int .u8 0],.bool false]) H:=by
 refine pc (by decide) e33 rfl (by cases L.find? (fun l=>l.id=a)<;>rfl) ?_
 rw [b33,c33]
 simp only [n33,r33,PS,Sv,Su,SB,seval,NC,NJ,NG,NR,reduceCtorEq,NB,place,NA,ND]
 refine NP (fun i=>L.length-i) (fun i fr G=>i<=L.length/\fr 1=Vi a/\fr 4=Vp (H.length+1)/\fr 9=.slice pl L.length cl/\fr 10=Vi L.length/\fr 11=Vi i/\OJ H G/\
  NH G (H.length+1)=Vc [Vi 0,Vi 0,Vi 0,Vi 0,Vi 0,Vi 0,Vi 0,.int .u8 0]/\L.find? (fun l=>l.id=a)=(L.drop i).find? (fun l=>l.id=a)) 0
  ⟨Nw _,rfl,rfl,rfl,rfl,by rfl,OJ.refl.app,OC,rfl⟩ ?_
 intro i fr G ⟨hi,h1,q,r,d,h,s,n,m⟩ t
 have hl:=s.len
 have u:=NM n
 rw [NU N6q.eq_1]
 refine NK ?_
 have g:=fun X=>(OJ.refl.app (X:=X)).cells n
 by_cases b:i<L.length
 ·have o:=fun X=>((s.sl hn.sl).app X).loadCells OI b
  have f:=fun c (k:IntKind) (H1:NE)=>(s.sl hn.sl).idx (c:=c) (k:=k) (H1:=H1) b
  have p:IntKind.i64.wrap ((i:Int)+1)=((i+1:Nat):Int):=OD (by have:=hn.nl;omega)
  rw [Nvh b] at m
  have v:¬H.length+1=G.length:=by omega
  obtain ⟨G2,e2,h2,w⟩:=OQ (NM n) (Vc (RA (gt L i)))
  have j:=fun X=>(OJ.refl.app (X:=X)).cells h2
  by_cases e:(gt L i).id=a
  ·simp only [e,decide_true,if_true] at m
   simp only [n33,r33,h1,q,r,d,h,b,f,o,p,g,OI,QH,QG,QF,QE,QD,QC,QB,QA,NI,hl,show H.length<=H.length+1 by omega,N9 e,NF,e2,j,SB,seval,NC,NJ,NG,NR,reduceCtorEq,NB,place,NA,ND]
   rw [m]
  ·simp only [e,decide_false,Nz,if_false] at m
   simp only [n33,r33,h1,q,r,d,h,b,f,o,p,g,OI,QH,QG,QF,QE,QD,QC,QB,QA,NI,hl,Nq e,SB,seval,NC,NJ,NG,NR,reduceCtorEq,NB,place,NA,ND]
   exact t (i+1) _ _ ⟨by omega,h1,q,r,d,rfl,s.app,(OJ.refl.app).cells n,m⟩ (by omega)
 ·obtain rfl:i=L.length:=by omega
  rw [Qq,List.find?_nil] at m
  obtain ⟨G2,e2,h2,w⟩:=OQ (NM n) (Vc [Vi 0,Vi 0,Vi 0,Vi 0,Vi 0,Vi 0,Vi 0,.int .u8 0])
  have j:=fun X=>(OJ.refl.app (X:=X)).cells h2
  simp only [n33,r33,h1,q,r,d,h,b,g,show H.length<=H.length+1 by omega,NF,e2,j,SB,seval,NC,NJ,NG,NR,reduceCtorEq,NB,place,NA,ND]
  rw [m]
def Za {α:Type} (lim:Nat) (G:NE) (enc:α->List Value) (e:Nat) (p:Option Addr) (cap:Nat) (l:List α):Prop:=
 Own lim G enc e p cap l\/∃R,p=Sa R/\cap=l.length/\cap<2 ^ 62/\NH G R=Vc (l.flatMap enc)/\lim<=R
section
variable {α:Type} {lim e cap:Nat} {G:NE} {enc:α->List Value} {p:Option Addr} {l:List α}
theorem Za.sl (h:Za lim G enc e p cap l) (he:∀x,(enc x).length=e):Sl G enc e p l:=by
 rcases h with h | ⟨R,rfl,_,_,h,_⟩
 ·exact h.sl he
 ·exact Sl.row he h
theorem Za.block (h:Za lim G enc e p cap l) {a:Addr} (b:p=some a):lim<=a.block/\a.block<G.length:=by
 rcases h with h | ⟨R,rfl,_,_,h,hl⟩
 ·exact h.block b
 ·cases b;exact ⟨hl,NM h⟩
theorem Za.chg {A:List Nat} {H':NE} (h:Za lim G enc e p cap l) (hc:Chg A G H') (hp:∀a,p=some a->a.block∉A):Za lim H' enc e p cap l:=by
 rcases h with h | ⟨R,rfl,h1,h2,b,c⟩
 ·exact .inl (h.chg hc hp)
 ·exact .inr ⟨R,rfl,h1,h2,hc.cells b (hp _ rfl),c⟩
theorem Za.step {lim' bytes:Nat} (h:Za lim G enc e p cap l) (n:lim'<=lim) (he:∀x,(enc x).length=e) (g:e≠0) (x:α) (t:(l.length+1)*bytes<=PU) (hn:l.length+1<2 ^ 61) (m:lim<=G.length)
  (X:NE) (b k:Nat) (r:NH (G++X) b=Vc (enc x)) :
  ∃G2,PQ lim' none e bytes false (.slice p l.length cap) (.slice (Sa b) 1 k) (G++X)=some (.slice (Sa (G.length+X.length)) (l.length+1) (loose e),G2++[])/\
   Own lim (G2++[]) enc e (Sa (G.length+X.length)) (loose e) (l++[x])/\(∀A H0,H0.length<=lim->Chg A H0 G->Chg A H0 (G2++[]))/\(∀j,j<G.length->(∀a,p=some a->j≠a.block)->NH (G2++[]) j=NH G j)/\G2.length=G.length+X.length+1/\
   (∀j,j<X.length->NH (G2++[]) (G.length+j)=X.getD j .dead):=by
 rcases h with h | ⟨R,rfl,h1,h2,q,u⟩
 ·exact h.step n he g x t hn m X b k r
 ·have s:=NM q
  have c:NH ((G++(X++[Vc ((l++[x]).flatMap enc)]))++[]) (G.length+X.length)=Vc ((l++[x]).flatMap enc):=by
   rw [Nb,OC]
   rw [show X.length=X.length+0 from rfl,SI];rfl
  refine ⟨G++(X++[Vc ((l++[x]).flatMap enc)]), ?_,Own.new c (by omega),fun A H0 _ hc=>(hc.app).app,fun j i _=>?_,by simp;omega,fun j i=>?_⟩
  ·have f:NH (G++X) R=Vc (l.flatMap enc):=by rw [NQ s];exact q
   have d:AM.loadCells (G++X) ⟨R,0,none⟩ (l.length*e)=some (l.flatMap enc):=by
    simp only [R3,f,Oc,QM he,Nd,if_true,O1]
    rw [Oe (by rw [QM he];exact Nd _)]
   have hl:AM.loadCells (G++X) ⟨b,0,none⟩ (1*e)=some (enc x):=by
    simp only [R3,r,Oc,Nat.one_mul,he,Nd,if_true,O1]
    rw [Oe (by rw [he];exact Nd _)]
   subst h1
   have o:¬l.length=loose e:=by unfold loose;omega
   simp only [PQ,firstCells,lenOf,hl,d,if_false,Nz,o,Nat.one_ne_zero]
   rw [Ng (by omega),Ni h2,Ng (by omega)]
   simp [place]
  ·rw [Nb,NQ i]
  ·rw [Nb,OC,Na,N8 i,Na]
end
def i64 (n:Int):Value:=Vi n
def T50 (T:List Int):List Int:=if T.length=50 then T else List.replicate 50 0
theorem N9t {T:List Int} (h:T.length=50):T50 T=T:=Ni h
theorem N5o (T:List Int):(T50 T).length=50:=by
 unfold T50;split
 ·assumption
 ·simp
def Sc (T:List Int):List Value:=(T50 T).map i64
theorem PN (T:List Int):(Sc T).length=50:=by simp [Sc,N5o]
theorem VN {T:List Int} (h:T.length=50):Sc T=T.map i64:=by rw [Sc,N9t h]
theorem Wo {T:List Int} (h:T.length=50) {j:Nat} (a:j<50):(Sc T)[j]? = some (Vi (T.getD j (-1))):=by
 rw [VN h,O6,Na,Nf (by omega)];rfl
theorem YP {T:List Int} (h:T.length=50) {j:Nat} {v:Int}:(Sc T).set j (Vi v)=Sc (T.set j v):=by
 rw [VN h,VN (by simpa using h),List.map_set];rfl
theorem N4n {a b:List Int} (h:a.map i64=b.map i64):a=b:=by
 induction a generalizing b with
 | nil=>cases b with
   | nil=>rfl
   | cons y b=>cases h
 | cons x a ih=>cases b with
   | nil=>cases h
   | cons y b=>
     simp only [N3,List.cons.injEq,i64,Value.int.injEq,Ri] at h
     rw [h.1,ih h.2]
theorem N1j {a b:List Int} (c:a.length=50) (d:b.length=50) (h:Sc a=Sc b):a=b:=by
 rw [VN c,VN d] at h;exact N4n h
theorem Nvg {l:List Int}:flat 4 (.agg (l.map i64).toArray)=true:=by
 simp [flat,i64,atom]
theorem N1k {a b:List Int} (c:a.length=50) (d:b.length=50):aEq (.agg (List.replicate 50 (.int .i64))) (.agg (Sc a).toArray) (.agg (Sc b).toArray)=some (decide (a=b)):=by
 obtain ⟨t,h1,h2⟩:=Ncs (.int .i64) 50 (Sc a) (Sc b) (PN a) (PN b) (by
  intro x e y f
  rw [VN c] at e
  rw [VN d] at f
  obtain ⟨n,_,rfl⟩:=List.mem_map.1 e
  obtain ⟨m,_,rfl⟩:=List.mem_map.1 f
  exact ⟨n == m,by simp [TC,i64],by simp [i64]⟩)
 show PG _ (Sc a) (Sc b)=_
 rw [h1]
 congr 1
 rw [Rh,h2,N1]
 exact ⟨fun h=>N1j c d h,fun h=>by rw [h]⟩
theorem Nkf:[Value.int .i64 0,Value.int .i64 0,Value.int .i64 0,Value.int .i64 0,Value.int .i64 0,Value.int .i64 0,Value.int .i64 0,Value.int .i64 0,Value.int .i64 0,Value.int .i64 0,Value.int .i64 0,Value.int .i64 0,Value.int .i64 0,Value.int .i64 0,Value.int .i64 0,Value.int .i64 0,Value.int .i64 0,Value.int .i64 0,Value.int .i64 0,Value.int .i64 0,Value.int .i64 0,Value.int .i64 0,Value.int .i64 0,Value.int .i64 0,Value.int .i64 0,Value.int .i64 0,Value.int .i64 0,Value.int .i64 0,Value.int .i64 0,Value.int .i64 0,Value.int .i64 0,Value.int .i64 0,Value.int .i64 0,Value.int .i64 0,Value.int .i64 0,Value.int .i64 0,Value.int .i64 0,Value.int .i64 0,Value.int .i64 0,Value.int .i64 0,Value.int .i64 0,Value.int .i64 0,Value.int .i64 0,Value.int .i64 0,Value.int .i64 0,Value.int .i64 0,Value.int .i64 0,Value.int .i64 0,Value.int .i64 0,Value.int .i64 0]=List.replicate 50 (Value.int .i64 0):=rfl
theorem Oa3:[KK.int .i64,KK.int .i64,KK.int .i64,KK.int .i64,KK.int .i64,KK.int .i64,KK.int .i64,KK.int .i64,KK.int .i64,KK.int .i64,KK.int .i64,KK.int .i64,KK.int .i64,KK.int .i64,KK.int .i64,KK.int .i64,KK.int .i64,KK.int .i64,KK.int .i64,KK.int .i64,KK.int .i64,KK.int .i64,KK.int .i64,KK.int .i64,KK.int .i64,KK.int .i64,KK.int .i64,KK.int .i64,KK.int .i64,KK.int .i64,KK.int .i64,KK.int .i64,KK.int .i64,KK.int .i64,KK.int .i64,KK.int .i64,KK.int .i64,KK.int .i64,KK.int .i64,KK.int .i64,KK.int .i64,KK.int .i64,KK.int .i64,KK.int .i64,KK.int .i64,KK.int .i64,KK.int .i64,KK.int .i64,KK.int .i64,KK.int .i64]=List.replicate 50 (KK.int .i64):=rfl
theorem No7 [OB] {mp:Bool} {lim i:Nat} {t:Int} {H:NE} {Q:Value->NE->Prop} (hi:i<50):NL E mp lim 63 [Vi i,Vi t] H Q=Q (.agg (Sc (Z4 50 i t)).toArray) H:=by
 refine pc (by decide) e63 rfl (by rw [VN Neu];exact Nvg) ?_
 rw [b63,c63]
 simp only [n63,r63,Nkf,SB,Nat.reduceLT,NC,NJ,Nat.reduceEqDiff,NG,NR,reduceCtorEq,NB,place,NA,Nat.reduceAdd,Nat.reduceLeDiff,ND,Int.reduceEq,Int.reduceLT,Int.reduceLE]
 refine NP (fun k=>50-k) (fun k fr G=>k<=50/\fr 0=Vi i/\fr 1=Vi t/\fr 4=Vp H.length/\fr 5=Vp (H.length+1)/\fr 7=Vi k/\
  ∃T:List Int,T.length=50/\(∀j,j<k->T[j]? = some (-1))/\G=H++[Vc (List.replicate 50 (Value.int .i64 0)),Vc (Sc T)]) 0
  ⟨Nw _,rfl,rfl,rfl,rfl,by rfl,List.replicate 50 0,by simp,fun j e=>by omega,rfl⟩ ?_
 rintro k fr G ⟨hk,f,h1,g,h,o,T,l,a,rfl⟩ p
 rw [NU N6h.eq_1]
 by_cases q:k<50
 ·have c:(k:Int)<50:=by omega
  have b:(0:Int)<=(k:Int):=by omega
  have n:IntKind.i64.wrap ((k:Int)+1)=((k+1:Nat):Int):=OD (by omega)
  simp only [n63,r63,f,h1,g,h,o,b,c,n,Pa,PN,YP l,show k+1<=50 by omega,SB,Nat.reduceLT,NC,NJ,Nat.reduceEqDiff,NG,NR,reduceCtorEq,NB,place,NA,Nat.reduceAdd,Nat.reduceLeDiff,ND,Int.reduceEq,Int.reduceLT,Int.reduceLE]
  refine p (k+1) _ _ ⟨by omega,f,h1,g,h,rfl,T.set k (-1),by simpa using l,fun j e=>?_,rfl⟩ (by omega)
  by_cases d:k=j
  ·subst d;rw [Rb (by omega)]
  ·rw [Qp d];exact a j (by omega)
 ·obtain rfl:k=50:=by omega
  have m:T=List.replicate 50 (-1):=by
   apply List.ext_getElem? ;intro j
   by_cases e:j<50
   ·rw [a j e,Py,Ni e]
   ·rw [Nx (by omega),Nx (by simp;omega)]
  subst m
  have c:(i:Int)<50:=by omega
  have b:(0:Int)<=(i:Int):=by omega
  simp only [n63,r63,f,h1,g,h,o,b,c,Pa,PN,YP l,show i+1<=50 by omega,NI,NF,Oo,SB,Nat.reduceLT,NC,NJ,Nat.reduceEqDiff,NG,NR,reduceCtorEq,NB,place,NA,Nat.reduceAdd,Nat.reduceLeDiff,ND,Int.reduceEq,Int.reduceLT,Int.reduceLE]
  rfl
def okT (T:List Int):Prop:=T.length=50/\∀j,-1<=T.getD j (-1)/\T.getD j (-1)<=OA
theorem Njc {i:Nat} {t:Int} (hi:i<50) (h:-1<=t/\t<=OA):okT (Z4 50 i t):=⟨Neu,fun j=>by
 rw [Nev hi];unfold OA at *;split<;>omega⟩
theorem Njb {T:List Int} {i:Nat} {v:Int} (h:okT T) (a:-1<=v/\v<=OA):okT (T.set i v):=by
 refine ⟨by simpa using h.1,fun j=>?_⟩
 by_cases hi:i<T.length
 ·rw [Xw hi];split
  ·exact a
  ·exact h.2 j
 ·rw [List.set_eq_of_length_le (by omega)];exact h.2 j
def VJ (u:List Int->List Int->Leg->List Int) (L:List Leg) (first:List Int):Nat->List Int
 | 0=>first
 | k+1=>L.foldl (u (VJ u L first k)) (VJ u L first k)
theorem Ml {α β:Type} [Inhabited α] {f:β->α->β} {L:List α} {b:β} {i:Nat} (h:i<L.length):(L.take (i+1)).foldl f b=f ((L.take i).foldl f b) (gt L i):=by
 rw [Xh h,List.foldl_append];rfl
def N2l [OB] (H:NE) (lim:Nat) (g:FuncId) (a b:Value) (u:List Int->List Int->Leg->List Int) (L:List Leg):Prop:=
 ∀(G:NE) (A:Nat) (bef aft:List Int) (l:Leg) (Q:Value->NE->Prop),l∈L->okT bef->okT aft->Chg [] H G->lim<=A->H.length<=A->lim<=G.length->NH G A=Vc (Sc aft)->
  okT (u bef aft l)/\((∀G',Chg [A] G G'->NH G' A=Vc (Sc (u bef aft l))->Q (.tuple #[]) G')->NL E false lim g [.agg (RA l).toArray,.agg (Sc bef).toArray,Vp A,a,b] G Q)
theorem Niz [OB] {lim:Nat} {g:FuncId} {t v:Value} {u:List Int->List Int->Leg->List Int} {pl:Option Addr} {L:List Leg} {cl:Nat} {H G:NE} {fr:Nat->Value} {K:List AItem} {R:Value->NE->Prop} {bef:List Int} {A8 A9:Nat}
  (hu:N2l H lim g t v u L) (hL:Sl H RA 8 pl L) (ab:L.length<2 ^ 62) (T:lim<=H.length) (S:okT bef) (Y:Chg [] H G) (W:H.length<=A8) (C:H.length<=A9) (M:A8≠A9) (U:NH G A8=Vc (Sc bef)) (V:NH G A9=Vc (Sc bef))
  (f2:fr 2=.func (.func g) #[] #[t,v]) (O:fr 8=Vp A8) (f9:fr 9=Vp A9) (w:fr 21=.slice pl L.length cl) (x:fr 22=Vi L.length) (y:fr 23=Vi 0)
  (hR:∀fr' G',okT (L.foldl (u bef) bef)->Chg [A9] G G'->NH G' A9=Vc (Sc (L.foldl (u bef) bef))->fr' 1=fr 1->fr' 2=fr 2->fr' 7=fr 7->fr' 8=fr 8->fr' 9=fr 9->PV E a99 lim K fr' (G'++[]) R) :
  PV E a99 lim (.code (.loop N0c)::.inBlock 2::K) fr G R:=by
 refine NP (fun i=>L.length-i) (fun i fr' G'=>i<=L.length/\fr' 1=fr 1/\fr' 7=fr 7/\fr' 2=.func (.func g) #[] #[t,v]/\fr' 8=Vp A8/\fr' 9=Vp A9/\fr' 21=.slice pl L.length cl/\fr' 22=Vi L.length/\fr' 23=Vi i/\
  Chg [A9] G G'/\okT ((L.take i).foldl (u bef) bef)/\NH G' A9=Vc (Sc ((L.take i).foldl (u bef) bef))) 0
  ⟨Nw _,rfl,rfl,f2,O,f9,w,x,y,Chg.refl,S,V⟩ ?_
 intro i fr' G' ⟨hi,P,Q,m,n,o,b,d,f,s,F,e⟩ Z
 have h:Chg [] H G':=Y.trans' s fun j h1 h2=>by simp only [Nk] at h1;omega
 have hl:=h.len
 rw [NU N0c.eq_1]
 refine NK ?_
 by_cases a:i<L.length
 ·have q:=h.ext.sl hL
  have J:=fun X=>(q.app X).loadCells OI a
  have p:=fun c (k:IntKind) (H1:NE)=>q.idx (c:=c) (k:=k) (H1:=H1) a
  have r:IntKind.i64.wrap ((i:Int)+1)=((i+1:Nat):Int):=OD (by omega)
  have z:=s.cells U (by simpa using M)
  have A:=fun X=>(OJ.refl.app (X:=X)).cells z
  have I:lim<=G'.length:=by omega
  simp only [n99,r99,m,n,o,b,d,f,a,p,J,r,OI,QH,QG,QF,QE,QD,QC,QB,QA,NI,I,NF,A,PN,Nlb,SB,Nat.reduceLT,NC,NJ,Nat.reduceEqDiff,NG,NR,reduceCtorEq,NB,place,NA,Nat.reduceAdd,Nat.reduceLeDiff,ND,Int.reduceEq,Int.reduceLT,Int.reduceLE]
  have aa:=NM e
  obtain ⟨N,l⟩:=hu (G'++[Vc (RA (gt L i))]) A9 bef ((L.take i).foldl (u bef) bef) (gt L i) _ (QR a) S F (h.app) (by omega) C (by simp;omega) ((OJ.refl.app).cells e)
  refine l fun G2 D B=>?_
  refine NK ?_
  simp only [n99,r99,m,n,o,b,d,f,r,SB,Nat.reduceLT,NC,NJ,Nat.reduceEqDiff,NG,NR,reduceCtorEq,NB,place,NA,Nat.reduceAdd,Nat.reduceLeDiff,ND,Int.reduceEq,Int.reduceLT,Int.reduceLE]
  refine Z (i+1) _ _ ⟨by omega,by rw [<-P];exact rfl,by rw [<-Q];exact rfl,m,n,o,b,d,rfl, ?_, ?_, ?_⟩ (by omega)
  ·rw [Nb]
   exact s.trans D.pre
  ·rw [Ml a];exact N
  ·rw [Nb,Ml a];exact B
 ·obtain rfl:i=L.length:=by omega
  rw [Oj] at F e
  simp only [n99,r99,m,n,o,b,d,f,a,SB,Nat.reduceLT,NC,NJ,Nat.reduceEqDiff,NG,NR,reduceCtorEq,NB,place,NA,Nat.reduceAdd,Nat.reduceLeDiff,ND,Int.reduceEq,Int.reduceLT,Int.reduceLE]
  exact hR _ _ F s e (by rw [<-P];exact rfl) (by rw [f2];exact m) (by rw [<-Q];exact rfl) (by rw [O];exact n) (by rw [f9];exact o)
theorem Ntg [OB] {lim n0:Nat} {g:FuncId} {z A:Value} {u:List Int->List Int->Leg->List Int} {first:List Int} {pl:Option Addr} {L:List Leg} {cl:Nat} {H:NE} {Q:Value->NE->Prop}
  (hu:N2l H lim g z A u L) (Z:okT first) (hL:Sl H RA 8 pl L) (M:L.length<2 ^ 62) (l:lim<=H.length) (t:VJ u L first (n0+1)=VJ u L first n0) (N:∀k,k<n0->VJ u L first (k+1)≠VJ u L first k) (ab:n0<80000000000)
  (Y:∀H' p cap,Chg [] H H'->Za H.length H' Sc 50 p cap ((List.range (n0+1)).map (VJ u L first))->Q (.slice p (n0+1) cap) H') :
  NL E false lim 99 [.agg (Sc first).toArray,.slice pl L.length cl,.func (.func g) #[] #[z,A]] H Q:=by
 refine RG (by decide) e99 rfl ?_
 rw [b99,c99]
 simp only [n99,r99,Nkf,PN,NI,NF,Oo,SB,Nat.reduceLT,NC,NJ,Nat.reduceEqDiff,NG,NR,reduceCtorEq,NB,place,NA,Nat.reduceAdd,Nat.reduceLeDiff,ND,Int.reduceEq,Int.reduceLT,Int.reduceLE]
 refine NP (fun s:Nat×Option Addr×Nat=>n0+1-s.1) (fun s fr G=>s.1<=n0/\fr 1=.slice pl L.length cl/\fr 2=.func (.func g) #[] #[z,A]/\fr 7=.slice s.2.1 (s.1+1) s.2.2/\Chg [] H G/\okT (VJ u L first s.1)/\Za H.length G Sc 50 s.2.1 s.2.2 ((List.range (s.1+1)).map (VJ u L first))) (0,Sa (H.length+1),1)
  ⟨Nw _,rfl,rfl,by rfl,Chg.refl.app,Z,.inr ⟨H.length+1,rfl,rfl,by show (1:Nat)<2 ^ 62;decide,by rw [OC];simp [VJ],by omega⟩⟩ ?_
 rintro ⟨k,p,cap⟩ fr G ⟨hk,f1,f2,D,B,n,C⟩ W
 simp only at hk D n C
 have hl:=B.len
 rw [NU N56.eq_1]
 refine NK ?_
 have a:((List.range (k+1)).map (VJ u L first)).length=k+1:=by simp
 have I:gt ((List.range (k+1)).map (VJ u L first)) k=VJ u L first k:=by
  rw [PW (by rw [a];omega)];simp
 have hS:=C.sl PN
 have v:=fun X=>(hS.app X).loadCells PN (i:=k) (by rw [a];omega)
 have f:=fun c (kk:IntKind) (H1:NE)=>hS.idx (c:=c) (k:=kk) (H1:=H1) (i:=k) (by rw [a];omega)
 rw [a] at f
 rw [I] at v
 have P:IntKind.i64.wrap (((k+1:Nat):Int)-1)=(k:Int):=by rw [NT (by omega) (by omega)];omega
 have K:lim<=G.length:=by omega
 simp only [n99,r99,f1,f2,D,Nkf,PN,NI,NF,Oo,P,f,v,K,show lim<=G.length+1 by omega,SB,Nat.reduceLT,NC,NJ,Nat.reduceEqDiff,NG,NR,reduceCtorEq,NB,place,NA,Nat.reduceAdd,Nat.reduceLeDiff,ND,Int.reduceEq,Int.reduceLT,Int.reduceLE]
 refine Niz (cl:=cl) (A8:=G.length) (A9:=G.length+1) hu hL M l n (B.app) (by omega) (by omega) (by omega) NV OC f2 rfl rfl rfl rfl rfl fun fr' G' d S R k1 k2 k7 k8 k9=>?_
 have o:fr' 1=.slice pl L.length cl:=k1.trans f1
 have q:fr' 2=.func (.func g) #[] #[z,A]:=k2.trans f2
 have w:fr' 7=.slice p (k+1) cap:=k7.trans D
 have x:fr' 8=Vp G.length:=k8.trans rfl
 have y:fr' 9=Vp (G.length+1):=k9.trans rfl
 have V:NH G' G.length=Vc (Sc (VJ u L first k)):=S.cells NV (by simp)
 have r:=fun X=>(OJ.refl.app (X:=X)).cells V
 have m:=fun X=>(OJ.refl.app (X:=X)).cells R
 have b:Chg [] G G':=S.pre.mono fun j hj h=>by simp only [Nk] at h;omega
 have aa:=b.len
 change okT (VJ u L first (k+1)) at d
 change NH G' (G.length+1)=Vc (Sc (VJ u L first (k+1))) at R
 change ∀X,NH (G'++X) (G.length+1)=Vc (Sc (VJ u L first (k+1))) at m
 have e:=N1k d.1 n.1
 by_cases J:k=n0
 ·subst J
  rw [Np t] at e
  simp only [n99,r99,o,q,w,x,y,r,m,PN,NI,Oa3,e,SB,Nat.reduceLT,NC,NJ,Nat.reduceEqDiff,NG,NR,reduceCtorEq,NB,place,NA,Nat.reduceAdd,Nat.reduceLeDiff,ND,Int.reduceEq,Int.reduceLT,Int.reduceLE]
  exact Y _ _ _ ((B.trans b).app) (C.chg (b.app) (by simp))
 ·rw [N5 (p:=VJ u L first (k+1)=VJ u L first k) (N k (by omega))] at e
  have F:=C.chg b (by simp)
  obtain ⟨G3,e3,U,T,O,l3,_⟩:=F.step (lim':=lim) (bytes:=400) l PN (by decide) (VJ u L first (k+1)) (by rw [a];unfold PU;omega) (by rw [a];omega) (by omega) [Vc (Sc (VJ u L first (k+1)))] G'.length 1 NV
  rw [a] at e3
  simp only [n99,r99,o,q,w,x,y,r,m,PN,NI,Oa3,e,Nkf,NF,Oo,e3,SB,Nat.reduceLT,NC,NJ,Nat.reduceEqDiff,NG,NR,reduceCtorEq,NB,place,NA,Nat.reduceAdd,Nat.reduceLeDiff,ND,Int.reduceEq,Int.reduceLT,Int.reduceLE]
  refine W (k+1,_,_) _ _ ⟨by omega,o,q,by rfl,T _ _ (Nd _) (B.trans b),d,.inl ?_⟩ (by show n0+1-(k+1)<n0+1-k;omega)
  rw [Pt,O0]
  exact U
def OO (P:List Int):Int->Nat:=fun p=>P.idxOf p
theorem VU {P:List Int} {L:List Leg} (h:R6 P L=0):NetOk 50 P L (OO P):=by
 obtain ⟨h1,h2,g,d⟩:=Vt h
 have key:∀l∈L,Fine l/\l.frm∈P/\l.dst∈P:=fun l hl=>by
  obtain ⟨i,hi,rfl⟩:=List.mem_iff_getElem.1 hl
  have:=d i hi
  unfold lOk at this
  rw [PW hi] at this
  exact ⟨this.1,this.2.2⟩
 refine ⟨fun l hl=>(key l hl).1,fun l hl=>(key l hl).2.1,fun l hl=>(key l hl).2.2,fun a c b f e=>?_,fun a c=>?_⟩
 ·have h1:=Q6 (Pd c)
  have h2:=Q6 (Pd f)
  rw [<-h1,<-h2]
  congr 1
 ·have:=Pd c
  show P.idxOf a<50
  omega
theorem N3b {F:Nat->List Int} {mu:List Int->Nat} (h:∀k,F (k+1)=F k\/mu (F (k+1))<mu (F k)):∃n,n<=mu (F 0)/\F (n+1)=F n/\∀k,k<n->F (k+1)≠F k:=by
 have key:∀m k,mu (F k)<=m->(∀j,j<k->F (j+1)≠F j)->∃n,n<=k+m/\F (n+1)=F n/\∀j,j<n->F (j+1)≠F j:=by
  intro m
  induction m with
  | zero=>
    intro k d a
    rcases h k with h1 | h1
    ·exact ⟨k,by omega,h1,a⟩
    ·omega
  | succ m ih=>
    intro k d a
    by_cases h1:F (k+1)=F k
    ·exact ⟨k,by omega,h1,a⟩
    ·rcases h k with h2 | h2
     ·exact absurd h2 h1
     ·obtain ⟨n,e,b⟩:=ih (k+1) (by omega) fun j c=>by
       rcases On j k with h5 | h5
       ·exact a j h5
       ·obtain rfl:j=k:=by omega
        exact h1
      exact ⟨n,by omega,b⟩
 obtain ⟨n,h1,h2⟩:=key (mu (F 0)) 0 (Nd _) fun j a=>by omega
 exact ⟨n,by omega,h2⟩
theorem N3a {N:Nat} {pos:Int->Nat} {lim:Int} {L:List Leg} {p ready:Int} (k:Nat):VJ (XF pos lim) L (Z4 N (pos p) ready) k=RZ N pos lim L p ready k:=by
 induction k with
 | zero=>rfl
 | succ k ih=>rw [VJ,RZ,VE,ih]
theorem Mw {P:List Int} {L:List Leg} {p ready lim:Int} (hn:NetOk 50 P L (OO P)) (hp:p∈P) (hr:0<=ready) (hl:ready<=lim):∀k,WZ ready lim (RZ 50 (OO P) lim L p ready k)
 | 0=>by
   intro t b
   rw [RZ,Z4] at b
   rcases Q8 b with h | rfl
   ·exact .inl (List.eq_of_mem_replicate h)
   ·exact .inr ⟨Oq _,hl⟩
 | k+1=>(Nkv (Mw hn hp hr hl k) hr fun l a=>⟨hn.fine l a,by rw [UI];exact hn.lt _ (hn.dst l a)⟩).1
theorem Nno {P:List Int} {L:List Leg} {p ready lim:Int} (hn:NetOk 50 P L (OO P)) (hp:p∈P) (hr:0<=ready) (hl:ready<=lim):∃n,n<=50*((lim-ready).toNat+1)/\RZ 50 (OO P) lim L p ready (n+1)=RZ 50 (OO P) lim L p ready n/\∀k,k<n->RZ 50 (OO P) lim L p ready (k+1)≠RZ 50 (OO P) lim L p ready k:=by
 obtain ⟨n,h1,h2⟩:=N3b (F:=RZ 50 (OO P) lim L p ready) (mu:=muA ready lim) fun k=>
  (Nkv (Mw hn hp hr hl k) hr fun l a=>⟨hn.fine l a,by rw [UI];exact hn.lt _ (hn.dst l a)⟩).2
 refine ⟨n,Qc h1 ?_,h2⟩
 have:=Nzo (Mw hn hp hr hl 0)
 rw [UI] at this
 exact this
def N9p (P:List Int) (L:List Leg) (p ready:Int) (T:List Int):Prop:=T.length=P.length/\∀q∈P,TZ L p ready q (T.getD (OO P q) (-1))
theorem N5i {P:List Int} {L:List Leg} {p ready:Int} (hn:NetOk 50 P L (OO P)) (c:P.length<=50) (hp:p∈P) (hr:0<=ready) {n:Nat} (a:RZ 50 (OO P) (ready+86400) L p ready (n+1)=RZ 50 (OO P) (ready+86400) L p ready n) :
  N9p P L p ready ((RZ 50 (OO P) (ready+86400) L p ready n).take P.length):=by
 refine ⟨by rw [Ok,UI];omega,fun q b=>?_⟩
 have h1:=Nf8 hn hp hr (by omega) a q b
 have h2:OO P q<P.length:=Pd b
 rw [Na,P6,Ni h2,<-Na]
 exact h1
theorem Nhn {l:Leg} {r a:Int} (hl:Fine l) (h:Si l r=some a):0<=a/\r<=a/\a+l.mins<=OA:=by
 obtain ⟨⟨d,_,b,rfl⟩,h2,_⟩:=Sg h
 unfold goes at b
 simp only [N0,N1] at b
 unfold Fine at hl
 omega
theorem Nhx {l:Leg} {b a:Int} (hl:Fine l) (h:Tj l b=some a):0<=a-l.cut/\0<=a/\a+l.mins<=OA/\a+l.mins<=b:=by
 obtain ⟨⟨d,_,c,rfl⟩,h2,_⟩:=TH h
 unfold goes at c
 simp only [N0,N1] at c
 unfold Fine at hl
 omega
theorem Nra [OB] {lim B1 B2 R:Nat} {o1 o2:Bool} {P:List Int} {L:List Leg} {ready:Int} {H:NE} (hn:NetOk 50 P L (OO P)) (h1:NH H B1=.cells o1 [.map (some R)]) (h2:NH H B2=.cells o2 [Vi ready]) (V:NH H R=.map (WT P)) (hr:0<=ready) (M:ready<=OA) :
  N2l H lim 98 (Vp B1) (Vp B2) (XF (OO P) (ready+86400)) L:=by
 intro G A bef aft l Q hl U o N J Y m v
 have T:=hn.fine l hl
 have Z:OO P l.frm<50:=hn.lt _ (hn.frm l hl)
 have i2:OO P l.dst<50:=hn.lt _ (hn.dst l hl)
 obtain ⟨j1,g⟩:=Vl (i:=0) (hn.frm l hl)
 obtain ⟨j2,j⟩:=Vl (i:=0) (hn.dst l hl)
 change findKey _ _ _=some (some (j1,Vi (OO P l.frm:Int))) at g
 change findKey _ _ _=some (some (j2,Vi (OO P l.dst:Int))) at j
 have S:=U.2 (OO P l.frm)
 have O:=o.2 (OO P l.dst)
 have u:=Wo U.1 Z
 have t:=Wo o.1 i2
 have q1:=fun X=>(OJ.refl.app (X:=X)).cells (N.cells h1 (by simp))
 have q2:=fun X=>(OJ.refl.app (X:=X)).cells (N.cells h2 (by simp))
 have K:=N.get V (PR V) (by simp)
 have q3:∀X,NH (G++X) R=.map (WT P):=fun X=>by rw [NQ (PR K)];exact K
 have w:=fun X=>(OJ.refl.app (X:=X)).cells v
 have z:(0:Int)<=(OO P l.frm:Int):=by omega
 have B:(0:Int)<=(OO P l.dst:Int):=by omega
 have C:(OO P l.frm:Int)<50:=by omega
 have D:(OO P l.dst:Int)<50:=by omega
 have F:OO P l.dst<=49:=by omega
 have I:OO P l.frm<=49:=by omega
 have wr:IntKind.i64.wrap (ready+86400)=ready+86400:=by unfold OA at M;exact NT (by omega) (by omega)
 unfold XF
 generalize OO P l.frm=x at *
 generalize OO P l.dst=y at *
 generalize bef.getD x (-1)=b at *
 generalize hc:aft.getD y (-1)=c at *
 unfold OA at S O M
 by_cases f:b<0
 ·rw [Ni f]
  refine ⟨o,fun n=>RG (by decide) e98 rfl ?_⟩
  rw [b98,c98]
  simp only [n98,r98,q1,q2,q3,w,g,j,u,t,z,B,C,D,F,I,wr,OI,QH,QG,QF,QE,QD,QC,QB,QA,NI,PN,Pa,m,f,SB,Nat.reduceLT,NC,NJ,Nat.reduceEqDiff,NG,NR,reduceCtorEq,NB,place,NA,Nat.reduceAdd,Nat.reduceLeDiff,ND,Int.reduceEq,Int.reduceLT,Int.reduceLE]
  exact n _ (OJ.refl.app.chg) ((OJ.refl.app).cells v)
 rw [Ng f]
 have e:=fun (H:NE) (mp:Bool) (lim:Nat) (Q:Value->NE->Prop)=>Nr2 (mp:=mp) (lim:=lim) (H:=H) (Q:=Q) (l:=l) (r:=b) T (by omega) (by omega)
 cases hx:Si l b with
 | none=>
   rw [hx] at e
   simp only [Ou,W9] at e
   refine ⟨o,fun n=>RG (by decide) e98 rfl ?_⟩
   rw [b98,c98]
   simp only [n98,r98,q1,q2,q3,w,g,j,u,t,z,B,C,D,F,I,wr,OI,QH,QG,QF,QE,QD,QC,QB,QA,NI,PN,Pa,m,f,e,SB,Nat.reduceLT,NC,NJ,Nat.reduceEqDiff,NG,NR,reduceCtorEq,NB,place,NA,Nat.reduceAdd,Nat.reduceLeDiff,ND,Int.reduceEq,Int.reduceLT,Int.reduceLE]
   exact n _ (OJ.refl.app.chg) ((OJ.refl.app).cells v)
 | some a=>
   rw [hx] at e
   simp only [Nv,W9] at e
   obtain ⟨k1,k2,k3⟩:=Nhn T hx
   unfold Fine at T
   by_cases d:a+l.mins<=ready+86400
   ·have q:∀Q:Value->NE->Prop,(∀G',Chg [A] G G'->NH G' A=Vc (Sc (aft.set y (a+l.mins)))->Q (.tuple #[]) G')->(c<0\/a+l.mins<c)->
      NL E false lim 98 [.agg (RA l).toArray,.agg (Sc bef).toArray,Vp A,Vp B1,Vp B2] G Q:=by
     intro Q n k
     refine RG (by decide) e98 rfl ?_
     rw [b98,c98]
     obtain ⟨G2,e2,h2,W⟩:=OQ (NM v) (Vc (Sc (aft.set y (a+l.mins))))
     by_cases p:c<0
     ·simp only [n98,r98,q1,q2,q3,w,g,j,u,t,z,B,C,D,F,I,wr,OI,QH,QG,QF,QE,QD,QC,QB,QA,NI,PN,Pa,m,f,e,N9 d,N9 p,J,YP o.1,e2,SB,Nat.reduceLT,NC,NJ,Nat.reduceEqDiff,NG,NR,reduceCtorEq,NB,place,NA,Nat.reduceAdd,Nat.reduceLeDiff,ND,Int.reduceEq,Int.reduceLT,Int.reduceLE]
      exact n _ ((Chg.refl.mut W (.inl (by simp))).app) ((OJ.refl.app).cells h2)
     ·have s:a+l.mins<c:=by omega
      simp only [n98,r98,q1,q2,q3,w,g,j,u,t,z,B,C,D,F,I,wr,OI,QH,QG,QF,QE,QD,QC,QB,QA,NI,PN,Pa,m,f,e,N9 d,Nq p,N9 s,J,YP o.1,e2,SB,Nat.reduceLT,NC,NJ,Nat.reduceEqDiff,NG,NR,reduceCtorEq,NB,place,NA,Nat.reduceAdd,Nat.reduceLeDiff,ND,Int.reduceEq,Int.reduceLT,Int.reduceLE]
      exact n _ ((Chg.refl.mut W (.inl (by simp))).app) ((OJ.refl.app).cells h2)
    by_cases k:c<0\/a+l.mins<c
    ·simp only [Ni (And.intro d k)]
     exact ⟨Njb o (by omega),fun n=>q _ n k⟩
    ·simp only [Ng (fun h:_/\_=>k h.2)]
     refine ⟨o,fun n=>RG (by decide) e98 rfl ?_⟩
     rw [b98,c98]
     have p:¬c<0:=fun h=>k (.inl h)
     have s:¬a+l.mins<c:=fun h=>k (.inr h)
     simp only [n98,r98,q1,q2,q3,w,g,j,u,t,z,B,C,D,F,I,wr,OI,QH,QG,QF,QE,QD,QC,QB,QA,NI,PN,Pa,m,f,e,N9 d,Nq p,Nq s,SB,Nat.reduceLT,NC,NJ,Nat.reduceEqDiff,NG,NR,reduceCtorEq,NB,place,NA,Nat.reduceAdd,Nat.reduceLeDiff,ND,Int.reduceEq,Int.reduceLT,Int.reduceLE]
     exact n _ (OJ.refl.app.chg) ((OJ.refl.app).cells v)
   ·simp only [Ng (fun h:_/\_=>d h.1)]
    refine ⟨o,fun n=>RG (by decide) e98 rfl ?_⟩
    rw [b98,c98]
    simp only [n98,r98,q1,q2,q3,w,g,j,u,t,z,B,C,D,F,I,wr,OI,QH,QG,QF,QE,QD,QC,QB,QA,NI,PN,Pa,m,f,e,Nq d,SB,Nat.reduceLT,NC,NJ,Nat.reduceEqDiff,NG,NR,reduceCtorEq,NB,place,NA,Nat.reduceAdd,Nat.reduceLeDiff,ND,Int.reduceEq,Int.reduceLT,Int.reduceLE]
    exact n _ (OJ.refl.app.chg) ((OJ.refl.app).cells v)
theorem Ncx [OB] {lim R:Nat} {pp pl:Option Addr} {P:List Int} {L:List Leg} {cp cl:Nat} {p ready:Int} {H:NE} {Q:Value->NE->Prop} (hn:NetIn H pp pl P L) (m:R6 P L=0) (l:NH H R=.map (WT P)) (hp:p∈P) (hr:0<=ready) (h:ready<=OA) (j:lim<=H.length)
  (s:∀H' q cap n,Chg [] H H'->RZ 50 (OO P) (ready+86400) L p ready (n+1)=RZ 50 (OO P) (ready+86400) L p ready n->(∀k,k<n->RZ 50 (OO P) (ready+86400) L p ready (k+1)≠RZ 50 (OO P) (ready+86400) L p ready k)->n<2 ^ 30->
   Za H.length H' Sc 50 q cap ((List.range (n+1)).map (RZ 50 (OO P) (ready+86400) L p ready))->Q (.slice q (n+1) cap) H') :
  NL E false lim 59 [.agg (Tu pp P.length cp pl L.length cl).toArray,.map (some R),Vi p,Vi ready] H Q:=by
 have b:=VU m
 obtain ⟨y,z,A,B⟩:=Vt m
 refine RG (by decide) e59 rfl ?_
 rw [b59,c59]
 obtain ⟨v,c⟩:=Vl (i:=0) hp
 have hi:OO P p<50:=b.lt _ hp
 change findKey _ _ _=some (some (v,Vi (OO P p:Int))) at c
 have q3:∀X,NH (H++X) R=.map (WT P):=fun X=>by rw [NQ (PR l)];exact l
 have g:=fun (H:NE) (mp:Bool) (lim:Nat) (Q:Value->NE->Prop)=>No7 (mp:=mp) (lim:=lim) (H:=H) (Q:=Q) (i:=OO P p) (t:=ready) hi
 simp only [n59,r59,PS,Sv,Su,q3,c,g,SB,Nat.reduceLT,NC,NJ,Nat.reduceEqDiff,NG,NR,reduceCtorEq,NB,place,NA,Nat.reduceAdd,Nat.reduceLeDiff,ND,Int.reduceEq,Int.reduceLT,Int.reduceLE]
 obtain ⟨n,u,d,e⟩:=Nno (lim:=ready+86400) b hp hr (by omega)
 have a:∀k,VJ (XF (OO P) (ready+86400)) L (Z4 50 (OO P p) ready) k=RZ 50 (OO P) (ready+86400) L p ready k:=fun k=>N3a k
 unfold OA at h
 refine Ntg (n0:=n) (Nra (R:=R) (P:=P) (ready:=ready) b OC OC (q3 _) hr (by unfold OA;omega)) (Njc hi (by unfold OA;omega)) (hn.sl.app _) (by omega) (by simp;omega) (by rw [a,a];exact d) (fun k hk=>by rw [a,a];exact e k hk) (by omega) fun H' q cap r f=>?_
 rw [funext a] at f
 refine NK ?_
 simp only [n59,r59,SB,Nat.reduceLT,NC,NJ,Nat.reduceEqDiff,NG,NR,reduceCtorEq,NB,place,NA,Nat.reduceAdd,Nat.reduceLeDiff,ND,Int.reduceEq,Int.reduceLT,Int.reduceLE]
 rw [Nb]
 refine s H' q cap n r.pre d e (by omega) ?_
 rcases f with f | ⟨o,k1,k2,k3,w,x⟩
 ·exact .inl (f.le (by simp))
 ·exact .inr ⟨o,k1,k2,k3,w,by simp at x;omega⟩
theorem Nne [OB] {lim c:Nat} {p:Option Addr} {l:List Int} {H:NE} {Q:Value->NE->Prop} (hs:Sl H encI 1 p l) (hn:l≠[]) (hl:l.length<2 ^ 40)
  (f:∀H' q,OJ H H'->Own H.length H' encI 1 q (loose 1) l->Q (.slice q l.length (loose 1)) H') :
  NL E false lim 106 [.slice p l.length c] H Q:=by
 refine RG (by decide) Obc rfl ?_
 rw [Obq,N5e]
 obtain ⟨a,rfl⟩:=hs.some hn
 have g:=Nnp (lim:=lim) (b:=H.length) (e:=1) (bytes:=8) (c:=c) (H:=H++[Vc []]) (enc:=encI) (p:=some a) (l:=l) NV (hs.app _) (by decide) (by unfold PU;omega) (by omega) hn
 have d:aEq .slice (.slice (some a) l.length c) Vz=some false:=rfl
 simp only [n106,N7h,d,g,SB,Nat.reduceLT,NC,NJ,Nat.reduceEqDiff,NG,NR,reduceCtorEq,NB,place,NA,Nat.reduceAdd,Nat.reduceLeDiff,ND,Int.reduceEq,Int.reduceLT,Int.reduceLE]
 refine f _ _ OJ.refl.app (Own.new ?_ (by omega))
 rw [OC];rfl
theorem N26 {H:NE} {A:Nat} {T:List Int} {n:Nat} (a:NH H A=Vc (Sc T)) (b:T.length=50) (hn:n<=50):Sl H encI 1 (Sa A) (T.take n):=by
 have:Sl H encI 1 (Sa A) (T.take n++T.drop n):=by
  rw [Qh]
  refine Sl.row Sj (ro:=false) ?_
  rw [a,VN b]
  congr 1
  clear a b
  induction T with
  | nil=>rfl
  | cons x T ih=>rw [N3,Oy,ih];rfl
 exact this.pre Sj
theorem Nxk [OB] {lim:Nat} {pp pl:Option Addr} {P:List Int} {L:List Leg} {cp cl:Nat} {p ready:Int} {H:NE} {Q:Value->NE->Prop} (hn:NetIn H pp pl P L) (M:lim<=H.length)
  (s:∀H',V4 P L p p ready≠0->Chg [] H H'->Q (.tuple #[Vz,Vi (V4 P L p p ready)]) H')
  (G:∀H' q T,V4 P L p p ready=0->Chg [] H H'->N9p P L p ready T->Own H.length H' encI 1 q (loose 1) T->T.length=P.length->Q (.tuple #[.slice q P.length (loose 1),Vi 0]) H') :
  NL E false lim 165 [.agg (Tu pp P.length cp pl L.length cl).toArray,Vi p,Vi ready] H Q:=by
 refine RG (by decide) Ody rfl ?_
 rw [Oe2,N8y]
 simp only [n165,Nyf,PS,Sv,Su,NI,SB,Nat.reduceLT,NC,NJ,Nat.reduceEqDiff,NG,NR,reduceCtorEq,NB,place,NA,Nat.reduceAdd,Nat.reduceLeDiff,ND,Int.reduceEq,Int.reduceLT,Int.reduceLE]
 refine Nga (hn.app _) (by simp;omega) (fun H' he m=>?_) (fun H' R he m W U=>?_)
 ·refine NK ?_
  simp only [n165,Nyf,he,Nq he,SB,Nat.reduceLT,NC,NJ,Nat.reduceEqDiff,NG,NR,reduceCtorEq,NB,place,NA,Nat.reduceAdd,Nat.reduceLeDiff,ND,Int.reduceEq,Int.reduceLT,Int.reduceLE]
  exact s _ he (m.chg.pre.app)
 ·obtain ⟨J,hp,_,hr,I⟩:=Mq he
  obtain ⟨N,v2,v3,v4⟩:=Vt J
  have D:=m.len
  simp only [Nl,Nm,Ns] at D U
  have j:NH H' H.length=Vc (Tu pp P.length cp pl L.length cl):=m.cells NV
  have F:=fun X=>(OJ.refl.app (X:=X)).cells j
  refine NK ?_
  simp only [n165,Nyf,F,PS,Sv,Su,NI,SB,Nat.reduceLT,NC,NJ,Nat.reduceEqDiff,NG,NR,reduceCtorEq,NB,place,NA,Nat.reduceAdd,Nat.reduceLeDiff,ND,Int.reduceEq,Int.reduceLT,Int.reduceLE]
  rw [Nb]
  have o:OJ H H':=by obtain ⟨Y,rfl⟩:=m;rw [No];exact OJ.refl.app
  refine Ncx (hn.ext o) J W hp hr I (by omega) fun y q cap n z v aa Z O=>?_
  have V:=z.len
  have d:((List.range (n+1)).map (RZ 50 (OO P) (ready+86400) L p ready)).length=n+1:=by simp
  have C:gt ((List.range (n+1)).map (RZ 50 (OO P) (ready+86400) L p ready)) n=RZ 50 (OO P) (ready+86400) L p ready n:=by
   rw [PW (by rw [d];omega)];simp
  have hS:=O.sl PN
  have w:=fun X=>(hS.app X).loadCells PN (i:=n) (by rw [d];omega)
  have g:=fun c (kk:IntKind) (H1:NE)=>hS.idx (c:=c) (k:=kk) (H1:=H1) (i:=n) (by rw [d];omega)
  rw [d] at g
  rw [C] at w
  have K:IntKind.i64.wrap (((n+1:Nat):Int)-1)=(n:Int):=by rw [NT (by omega) (by omega)];omega
  have x:=fun X=>(OJ.refl.app (X:=X)).cells (z.cells j (by simp))
  have S:0<P.length:=List.length_pos_of_mem hp
  have u:∀b:Nat,XJ 50 1 (Vp b) none (some (Vi P.length)) none=some (.slice (Sa b) P.length 50):=fun b=>by
   have:=Nkx (n:=50) (e:=1) (a:=⟨b,0,none⟩) (lo:=0) (hi:=P.length) (vlo:=none) (vhi:=some (Vi P.length)) (by rw [Ms (by omega) (by omega),Od]) (by decide) (by decide)
   rw [this];simp [addr_add]
  refine NK ?_
  simp only [n165,Nyf,x,g,w,K,PS,Sv,Su,Nkf,PN,NI,NF,Oo,show lim<=y.length by omega,u,SB,Nat.reduceLT,NC,NJ,Nat.reduceEqDiff,NG,NR,reduceCtorEq,NB,place,NA,Nat.reduceAdd,Nat.reduceLeDiff,ND,Int.reduceEq,Int.reduceLT,Int.reduceLE]
  have r:(RZ 50 (OO P) (ready+86400) L p ready n).length=50:=UI
  have f:((RZ 50 (OO P) (ready+86400) L p ready n).take P.length).length=P.length:=by rw [Ok,r];omega
  have t:=fun Q=>Nne (Q:=Q) (lim:=lim) (c:=50) (p:=Sa y.length) (l:=(RZ 50 (OO P) (ready+86400) L p ready n).take P.length) (H:=y++[Vc (Sc (RZ 50 (OO P) (ready+86400) L p ready n))]) (N26 NV r N) (fun h=>by rw [h] at f;simp at f;omega) (by rw [f];omega)
  rw [f] at t
  refine t _ fun H3 q3 A B=>?_
  refine NK ?_
  simp only [n165,Nyf,SB,Nat.reduceLT,NC,NJ,Nat.reduceEqDiff,NG,NR,reduceCtorEq,NB,place,NA,Nat.reduceAdd,Nat.reduceLeDiff,ND,Int.reduceEq,Int.reduceLT,Int.reduceLE]
  refine G _ _ _ he ?_ (N5i (VU J) N hp hr v) ((B.le (by simp;omega)).app _) f
  exact (((o.chg).trans z).trans (A.chg.pre)).app
def Nep (P:List Int) (p:Int):Int:=if p∈P then (OO P p:Int) else -1
theorem Ndg {H:NE} {q:Option Addr} {T:List Int} {i:Nat} (h:Sl H encI 1 q T) (hi:i<T.length):∀X,AM.loadCell (H++X) (Zv q 1 i)=some (Vi (gt T i)):=fun X=>by
 rw [(h.app X).loadCell0 Sj hi (by decide)];rfl
theorem N4g {H:NE} {q:Option Addr} {T:List Int} {i n:Nat} (h:Sl H encI 1 q T) (hi:i<n) (a:T.length=n):∀(c:Nat) (k:IntKind) (H1:NE),Z5 1 (.slice q n c) (.int k (i:Int)) H1=some (.pointer (some (Zv q 1 i)),H1):=fun c k H1=>by
 subst a;exact h.idx hi
theorem N4r {T:List Int} {i:Nat} (h:i<T.length):gt T i=T.getD i (-1):=by
 rw [PW h,Na,Nf h];rfl
theorem N9o {L:List Leg} {p t q v:Int} (h:TZ L p t q v) (c:t<=OA) (f:0<=t):v<=OA:=by
 rcases h with ⟨rfl,_⟩ | ⟨⟨⟨j,e⟩,_⟩,_⟩
 ·omega
 ·cases e with
  | nil=>exact c
  | snoc _ hl _ hd _=>
    obtain ⟨d,b,a,rfl⟩:=hd
    unfold goes at a
    simp only [N0,N1] at a
    exact a.2
theorem N03 {l:Leg} {d:Nat} (hl:l.days=127) (h1:0<=1440*(d:Int)+l.dep-l.cut) (h2:1440*(d:Int)+l.dep+l.mins<=OA):goes l d=true:=by
 have hr:Go.Net.runs l.days d=true:=by
  rw [hl]
  have:d % 7<7:=Qa _ (by decide)
  unfold Go.Net.runs
  generalize d % 7=m at this
  match m,this with
  | 0,_=>rfl
  | 1,_=>rfl
  | 2,_=>rfl
  | 3,_=>rfl
  | 4,_=>rfl
  | 5,_=>rfl
  | 6,_=>rfl
 unfold goes
 rw [hr,Np h1,Np h2];rfl
theorem nx {l:Leg} {t:Int} (d:Nat) (hl:l.days=127) (hd:d<730485) (h1:0<=1440*(d:Int)+l.dep-l.cut) (h2:1440*(d:Int)+l.dep+l.mins<=OA) (a:t<=1440*(d:Int)+l.dep-l.cut) (e:1440*((d:Int)-1)+l.dep-l.cut<t):Si l t=some (1440*(d:Int)+l.dep):=
 Nl0 (by rw [Zw];exact hd) (N03 hl h1 h2) a fun c b ⟨_,h⟩=>by omega
end Go.Proofs.YtkppjkkkdpcgiaaGreat.Fn


namespace Go.Proofs.YtkppjkkkdpcgiaaGreat.Fn
open Go.AM Go.AM.Sym Go.Scan
section
variable {κ ν:Type} [DecidableEq κ]
def Nbs (k:κ):List (κ×ν)->Option ν
 | []=>none
 | (k',v)::l=>if k'=k then some v else Nbs k l
def Wz (k:κ) (v:ν):List (κ×ν)->List (κ×ν)
 | []=>[(k,v)]
 | (k',v')::l=>if k'=k then (k',v)::l else (k',v')::Wz k v l
def fk (k:κ):List (κ×ν)->Nat->Option (Nat×ν)
 | [],_=>none
 | (k',v)::l,i=>if k'=k then some (i,v) else fk k l (i+1)
theorem Nqg (k:κ):∀(l:List (κ×ν)) (i:Nat),(fk k l i).map (·.2)=Nbs k l
 | [],_=>rfl
 | (k',v)::l,i=>by
   unfold fk Nbs
   by_cases h:k'=k
   ·rw [Ni h,Ni h];rfl
   ·rw [Ng h,Ng h];exact Nqg k l (i+1)
theorem Njy {k:κ} {v v':ν}:∀{l:List (κ×ν)} {i j:Nat},fk k l i=some (j,v)->i<=j/\j-i<l.length/\l.set (j-i) (k,v')=Wz k v' l
 | [],_,_,h=>by cases h
 | (k2,v2)::l,i,j,h=>by
   unfold fk at h
   unfold Wz
   by_cases h2:k2=k
   ·rw [Ni h2] at h
    cases h
    rw [Ni h2,Qv,h2]
    exact ⟨Nd _,by simp,rfl⟩
   ·rw [Ng h2] at h
    obtain ⟨b,c,a⟩:=Njy (v':=v') h
    rw [Ng h2]
    have e:j-i=(j-(i+1))+1:=by omega
    rw [e,Qw,a]
    exact ⟨by omega,by simp only [Nm];omega,rfl⟩
theorem Njz {k:κ} {v':ν}:∀{l:List (κ×ν)} {i:Nat},fk k l i=none->l++[(k,v')]=Wz k v' l
 | [],_,_=>rfl
 | (k2,v2)::l,i,h=>by
   unfold fk at h
   unfold Wz
   by_cases h2:k2=k
   ·rw [Ni h2] at h;cases h
   ·rw [Ng h2] at h
    rw [Ng h2,<-Njz h,O5]
theorem Nms {k k':κ} {v:ν}:∀{l:List (κ×ν)},Nbs k' (Wz k v l)=if k'=k then some v else Nbs k' l
 | []=>by
   unfold Wz Nbs
   by_cases h:k'=k
   ·rw [Ni h.symm,Ni h]
   ·rw [Ng fun q=>h q.symm,Ng h];rfl
 | (k2,v2)::l=>by
   unfold Wz
   by_cases h2:k2=k
   ·rw [Ni h2]
    subst h2
    by_cases h:k'=k2
    ·rw [Ni h];unfold Nbs;rw [Ni h.symm]
    ·rw [Ng h];unfold Nbs;rw [Ng fun q=>h q.symm,Ng fun q=>h q.symm]
   ·rw [Ng h2]
    by_cases h:k2=k'
    ·have:¬k'=k:=fun q=>h2 (h.trans q)
     rw [Ng this];unfold Nbs;rw [Ni h,Ni h]
    ·unfold Nbs;rw [Ng h,Ng h];exact Nms
theorem Neo {k:κ} {v:ν}:∀{l:List (κ×ν)},(Wz k v l).length<=l.length+1
 | []=>by simp [Wz]
 | (k2,v2)::l=>by
   unfold Wz
   split
   ·simp
   ·have:=Neo (k:=k) (v:=v) (l:=l);simp only [Nm];omega
def TB (kv:κ->Value) (vv:ν->Value) (es:List (κ×ν)):List (Value×Value):=es.map fun x=>(kv x.1,vv x.2)
def N2w (kv:κ->Value):Prop:=∀a b,Wj (kv a) (kv b)=some (decide (a=b))
variable {kv:κ->Value} {vv:ν->Value}
theorem YO (hk:N2w kv) (k:κ):∀(es:List (κ×ν)) (i:Nat),findKey (kv k) (TB kv vv es) i=some ((fk k es i).map fun x=>(x.1,vv x.2))
 | [],_=>rfl
 | (k',v)::l,i=>by
   unfold TB
   rw [N3]
   unfold findKey fk
   rw [hk]
   by_cases h:k'=k
   ·rw [Ni h,Np h.symm];rfl
   ·rw [Ng h,N5 fun q=>h q.symm]
    exact YO hk k l (i+1)
end
def kM (k:Int×Int):Value:=.agg #[Vi k.1,Vi k.2]
def kS (k:Int×Int×Int):Value:=.agg #[Vi k.1,Vi k.2.1,.int .u8 k.2.2]
def vI (n:Int):Value:=Vi n
theorem Oa7:N2w kM:=fun a b=>by
 obtain ⟨c,d⟩:=a;obtain ⟨b1,b2⟩:=b
 simp only [kM,Wj,UE,if_true,Nv,Bool.and_true,Prod.mk.injEq,Bool.decide_and]
 rfl
theorem Oa5:N2w kS:=fun a b=>by
 obtain ⟨c,d,e⟩:=a;obtain ⟨b1,b2,b3⟩:=b
 simp only [kS,Wj,UE,if_true,Nv,Bool.and_true,Prod.mk.injEq,Bool.decide_and]
 rfl
theorem Oa6 {k:Int×Int}:U0 (.ints [.i64,.i64]) (kM k)=true:=by simp [kM,U0,SY]
theorem Oa4 {k:Int×Int×Int}:U0 (.ints [.i64,.i64,.u8]) (kS k)=true:=by simp [kS,U0,SY]
theorem N05 (k:Int×Int):∀l,WU k l=Nbs k l
 | []=>rfl
 | (k',v)::l=>by unfold WU Nbs;rw [N05 k l]
theorem Nbe (k:Int×Int) (m:Mk):∀l,Xn k m l=Wz k m l
 | []=>rfl
 | (k',v)::l=>by unfold Xn Wz;rw [Nbe k m l]
theorem Nl8 {α β:Type} {f:α->Option β} {g:α->β}:∀{l:List α},(∀x∈l,f x=some (g x))->YE f l=some (l.map g)
 | [],_=>rfl
 | x::l,h=>by
   unfold YE
   rw [h x (by simp),Nl8 (l:=l) fun y a=>h y (by simp [a])]
   rfl
theorem Nuo {H:NE} {I R lim:Nat} {es:List (Value×Value)} {seen:List Nat} {Q:Value->NE->Prop} (hi:NH H I=.iter (some R) es.length seen) (hl:lim<=I) (i:NH H R=.map es) (hk:∀e∈es,VM e.1=true)
  (f:Tp es.length seen=[]->Q (.tuple #[.bool false]) H)
  (h1:∀j e,j∈Tp es.length seen->es[j]? = some e->Q (.tuple #[.bool true,e.1,e.2]) (H.set I (.iter (some R) es.length (seen++[j])))) :
  nxK false (ZM lim (Vp I) H) Q:=by
 have hn:ZM lim (Vp I) H=match Tp es.length seen with
   | []=>some [(.tuple #[.bool false],H)]
   | j::l=>YE (fun j=>match es[j]? with
     | some e=>if VM e.1 then some (.tuple #[.bool true,e.1,e.2],H.set I (.iter (some R) es.length (seen++[j]))) else none
     | none=>none) (j::l):=by
  unfold ZM
  simp only [hi,hl,if_true,Ul,i]
  cases Tp es.length seen<;>rfl
 rw [hn]
 have d:∀j∈Tp es.length seen,j<es.length:=fun j b=>by
  unfold Tp at b
  exact List.mem_range.mp (Om.mp b).1
 split
 ·rename_i e
  exact ⟨fun h=>(by cases h),fun r hr=>by
   rw [Nk] at hr;subst hr;exact f e⟩
 ·rename_i j l e
  rw [<-e]
  rw [Nl8 (g:=fun j=>(.tuple #[.bool true,(es.getD j (undef,undef)).1,(es.getD j (undef,undef)).2],H.set I (.iter (some R) es.length (seen++[j])))) fun j b=>by
   have a:=d j b
   have e1:es[j]? = some es[j]:=Nf a
   have e2:es.getD j (undef,undef)=es[j]:=by rw [Na,e1];rfl
   rw [e1,e2]
   simp only [hk _ (P3 a),if_true]]
  refine ⟨fun h=>(by cases h),fun r hr=>?_⟩
  obtain ⟨c,b,rfl⟩:=List.mem_map.mp hr
  have a:=d c b
  have e1:es[c]? = some es[c]:=Nf a
  have e2:es.getD c (undef,undef)=es[c]:=by rw [Na,e1];rfl
  have:=h1 c _ b e1
  simp only [e2]
  exact this
theorem Nqm {H:NE} {I R:Nat} {es:List (Value×Value)} {seen:List Nat} {j:Nat} {e:Value×Value} (hi:NH H I=.iter (some R) es.length (seen++[j])) (a:NH H R=.map es) (he:es[j]? = some e) (hk:VM e.1=true) :
  YW (Vp I) H=some (.tuple #[e.1,e.2],H):=by
 unfold YW
 simp only [hi,Ul,a,List.getLast?_concat,he,hk,if_true]
theorem Nor {H:NE} {R:Nat} {es:List (Value×Value)} (a:NH H R=.map es):U4 (.map (some R)) H=some (Vp H.length,H++[.iter (some R) es.length []]):=by
 unfold U4
 simp only [Ul,a]
structure MetOk (n:Nat) (seen:List Nat):Prop where
 nd:seen.Nodup
 lt:∀j∈seen,j<n
theorem MetOk.add {n:Nat} {seen:List Nat} (h:MetOk n seen) {j:Nat} (e:j∈Tp n seen):MetOk n (seen++[j]):=by
 unfold Tp at e
 obtain ⟨h1,h2⟩:=Om.mp e
 have hn:j∉seen:=by simpa using h2
 refine ⟨Qj.mpr ⟨h.nd,List.pairwise_singleton _ _,fun a f b d c=>?_⟩,fun k hk=>?_⟩
 ·rw [Nk] at d;subst d;subst c;exact hn f
 ·rcases Ob.mp hk with hk | hk
  ·exact h.lt k hk
  ·rw [Nk] at hk;subst hk;exact List.mem_range.mp h1
theorem MetOk.len {n:Nat} {seen:List Nat} (h:MetOk n seen):seen.length<=n:=by
 have:=h.nd.length_le_of_subset (l₂:=List.range n) fun j a=>List.mem_range.mpr (h.lt j a)
 simpa using this
theorem MetOk.perm {n:Nat} {seen:List Nat} (h:MetOk n seen) (b:Tp n seen=[]):seen.Perm (List.range n):=by
 refine (List.perm_ext_iff_of_nodup h.nd List.nodup_range).mpr fun j=>⟨fun a=>List.mem_range.mpr (h.lt j a),fun a=>?_⟩
 unfold Tp at b
 rw [List.filter_eq_nil_iff] at b
 simpa using b j a
def Npq {κ ν:Type} [Inhabited ν] (es:List (κ×ν)) (seen:List Nat):List ν:=seen.map fun j=>gt (es.map (·.2)) j
theorem Nzq {κ ν:Type} [Inhabited ν] {es:List (κ×ν)} {seen:List Nat} (h:MetOk es.length seen) (a:Tp es.length seen=[]):(Npq es seen).Perm (es.map (·.2)):=by
 have e:(List.range es.length).map (fun j=>gt (es.map (·.2)) j)=es.map (·.2):=by
  refine Ph (by simp) fun i h1 h2=>?_
  rw [P8,List.getElem_range,PW h2]
 have hp:(seen.map fun j=>gt (es.map (·.2)) j).Perm ((List.range es.length).map fun j=>gt (es.map (·.2)) j):=(h.perm a).map _
 rw [e] at hp
 exact hp
def encE (e:Ev):List Value:=[Vi e.item,Vi e.place,Vi e.scanner,.int .u8 e.kind,Vi e.at',Vi e.seen,Vi e.time]
def QL (e:Ev):List Value:=[Vi e.item,Vi e.place,Vi e.scanner,.int .u8 e.kind,Vi e.at',Vi e.seen]
def QW (m:Mk):List Value:=[Vi m.scanner,Vi m.at',Vi m.off]
theorem NZ (e:Ev):(encE e).length=7:=id rfl
theorem OP (e:Ev):(QL e).length=6:=id rfl
theorem QJ (e:Mk):(QW e).length=3:=id rfl
theorem QZ {e:Ev}:(encE e)[0]? = some (Vi e.item):=id rfl
theorem Rz {e:Ev}:(encE e)[1]? = some (Vi e.place):=id rfl
theorem Ry {e:Ev}:(encE e)[2]? = some (Vi e.scanner):=id rfl
theorem Rx {e:Ev}:(encE e)[3]? = some (.int .u8 e.kind):=id rfl
theorem Rw {e:Ev}:(encE e)[4]? = some (Vi e.at'):=id rfl
theorem Rv {e:Ev}:(encE e)[5]? = some (Vi e.seen):=id rfl
theorem QY {e:Ev}:(encE e)[6]? = some (Vi e.time):=id rfl
theorem Ud {e:Ev}:(QL e)[0]? = some (Vi e.item):=id rfl
theorem Ve {e:Ev}:(QL e)[1]? = some (Vi e.place):=id rfl
theorem Vd {e:Ev}:(QL e)[2]? = some (Vi e.scanner):=id rfl
theorem Vb {e:Ev}:(QL e)[3]? = some (.int .u8 e.kind):=id rfl
theorem Va {e:Ev}:(QL e)[4]? = some (Vi e.at'):=id rfl
theorem UZ {e:Ev}:(QL e)[5]? = some (Vi e.seen):=id rfl
theorem XY {m:Mk}:(QW m)[0]? = some (Vi m.scanner):=id rfl
theorem YR {m:Mk}:(QW m)[1]? = some (Vi m.at'):=id rfl
theorem YQ {m:Mk}:(QW m)[2]? = some (Vi m.off):=id rfl
theorem Vf {e:Ev}:(encE e).take 6=QL e:=id rfl
theorem XR [OB] {mp:Bool} {lim:Nat} {a:Int} {H:NE} {Q:Value->NE->Prop}:NL E mp lim 120 [Vi a] H Q=Q (.bool (decide (1<=a/\a<=999999))) H:=by
 refine pc (by decide) Oeh rfl rfl ?_
 rw [Ofm,N9a]
 by_cases h1:1<=a
 ·simp only [n120,Oae,N9 h1,SB,seval,NC,NJ,NG,NR,reduceCtorEq,NB,place,NA,ND]
 ·simp only [n120,Oae,Nq h1,SB,seval,NC,NJ,NG,NR,reduceCtorEq,NB,place,NA,ND]
theorem UX [OB] {mp:Bool} {lim:Nat} {a:Int} {H:NE} {Q:Value->NE->Prop}:NL E mp lim 121 [Vi a] H Q=Q (.bool (decide (0<=a/\a<=Wi))) H:=by
 refine pc (by decide) Oeg rfl rfl ?_
 rw [Ofl,N89]
 unfold Wi
 by_cases h1:0<=a
 ·simp only [n121,Oad,N9 h1,SB,seval,NC,NJ,NG,NR,reduceCtorEq,NB,place,NA,ND]
 ·simp only [n121,Oad,Nq h1,SB,seval,NC,NJ,NG,NR,reduceCtorEq,NB,place,NA,ND]
theorem Zg [OB] {mp:Bool} {lim:Nat} {e:Ev} {H:NE} {Q:Value->NE->Prop}:NL E mp lim 92 [.agg (QL e).toArray] H Q=Q (.bool (decide (Sy e))) H:=by
 refine pc (by decide) e92 rfl rfl ?_
 rw [b92,c92]
 have no:¬Sy e->decide (Sy e)=false:=fun h=>N5 h
 by_cases h1:1<=e.item/\e.item<=999999
 case neg=>simp only [n92,r92,QL,XR,UX,N5 h1,no (fun h=>h1 h.1),SB,seval,NC,NJ,NG,NR,reduceCtorEq,NB,place,NA,ND]
 by_cases h2:1<=e.place/\e.place<=999999
 case neg=>simp only [n92,r92,QL,XR,UX,Np h1,N5 h2,no (fun h=>h2 h.2.1),SB,seval,NC,NJ,NG,NR,reduceCtorEq,NB,place,NA,ND]
 by_cases a:1<=e.scanner/\e.scanner<=999999
 case neg=>simp only [n92,r92,QL,XR,UX,Np h1,Np h2,N5 a,no (fun h=>a h.2.2.1),SB,seval,NC,NJ,NG,NR,reduceCtorEq,NB,place,NA,ND]
 by_cases b:1<=e.kind
 case neg=>simp only [n92,r92,QL,XR,UX,Np h1,Np h2,Np a,Nq b,no (fun h=>b h.2.2.2.1.1),SB,seval,NC,NJ,NG,NR,reduceCtorEq,NB,place,NA,ND]
 by_cases c:e.kind<=4
 case neg=>simp only [n92,r92,QL,XR,UX,Np h1,Np h2,Np a,N9 b,Nq c,no (fun h=>c h.2.2.2.1.2),SB,seval,NC,NJ,NG,NR,reduceCtorEq,NB,place,NA,ND]
 by_cases d:0<=e.at'/\e.at'<=Wi
 case neg=>simp only [n92,r92,QL,XR,UX,Np h1,Np h2,Np a,N9 b,N9 c,N5 d,no (fun h=>d h.2.2.2.2.1),SB,seval,NC,NJ,NG,NR,reduceCtorEq,NB,place,NA,ND]
 have f:decide (Sy e)=decide (0<=e.seen/\e.seen<=Wi):=by
  rw [decide_eq_decide]
  exact ⟨fun h=>h.2.2.2.2.2,fun h=>⟨h1,h2,a,⟨b,c⟩,d,h⟩⟩
 simp only [n92,r92,QL,XR,UX,Np h1,Np h2,Np a,N9 b,N9 c,Np d,f,SB,seval,NC,NJ,NG,NR,reduceCtorEq,NB,place,NA,ND]
end Go.Proofs.YtkppjkkkdpcgiaaGreat.Fn


namespace Go.Proofs.YtkppjkkkdpcgiaaGreat.Fn
open Go.AM Go.AM.Sym Go.Net Go.Scan
theorem Nd5 [OB] {mp:Bool} {lim B:Nat} {e:Ev} {o:Bool} {H:NE} {Q:Value->NE->Prop} (hB:NH H B=.cells o (QL e)):NL E mp lim 55 [.slice (Sa B) 1 1] H Q=Q (.bool (decide (Sy e))) H:=by
 refine pc (by decide) e55 rfl rfl ?_
 rw [b55,c55]
 have a:=fun X=>(OJ.refl.app (X:=X)).cells hB
 have i0:∀k (H1:NE),Z5 6 (.slice (Sa B) 1 1) (.int k 0) H1=some (Vp B,H1):=fun k H1=>by simp [Z5,addr_add]
 have b:IntKind.i64.wrap (0+1)=1:=by decide
 simp only [n55,r55,SB,Nat.reduceLT,NC,NJ,Nat.reduceEqDiff,NG,NR,reduceCtorEq,NB,place,NA,Nat.reduceAdd,Nat.reduceLeDiff,ND,Int.reduceEq,Int.reduceLT,Int.reduceLE]
 rw [XD,NU Nsh.eq_1]
 cases h:decide (Sy e) with
 | false=>simp only [n55,r55,a,i0,OP,NI,NF,Zg,h,SB,Nat.reduceLT,NC,NJ,Nat.reduceEqDiff,NG,NR,reduceCtorEq,NB,place,NA,Nat.reduceAdd,Nat.reduceLeDiff,ND,Int.reduceEq,Int.reduceLT,Int.reduceLE]
 | true=>
   simp only [n55,r55,a,i0,OP,NI,NF,Zg,h,b,SB,Nat.reduceLT,NC,NJ,Nat.reduceEqDiff,NG,NR,reduceCtorEq,NB,place,NA,Nat.reduceAdd,Nat.reduceLeDiff,ND,Int.reduceEq,Int.reduceLT,Int.reduceLE]
   rw [Uu,NU Nsh.eq_1]
   simp only [n55,r55,SB,Nat.reduceLT,NC,NJ,Nat.reduceEqDiff,NG,NR,reduceCtorEq,NB,place,NA,Nat.reduceAdd,Nat.reduceLeDiff,ND,Int.reduceEq,Int.reduceLT,Int.reduceLE]
def N1c (es:List Ev) (i:Nat):Prop:=Sy (gt es i)/\0<=(gt es i).time/\(gt es i).time<=OA/\(0<i->(gt es i).item=(gt es 0).item/\(gt es (i-1)).time<=(gt es i).time)
instance (es:List Ev) (i:Nat):Decidable (N1c es i):=by unfold N1c;infer_instance
def Ngm (es:List Ev):Prop:=∀i,i<es.length->N1c es i
instance (es:List Ev):Decidable (Ngm es):=by unfold Ngm;infer_instance
def WX (P:List Int) (L:List Leg) (es:List Ev):Int:=if R6 P L≠0 then R6 P L else if 40<es.length then 5 else if Ngm es then 0 else 2
theorem Nql {P:List Int} {L:List Leg} {es:List Ev} (h:WX P L es=0):R6 P L=0/\es.length<=40/\Ngm es:=by
 unfold WX at h
 split at h
 ·contradiction
 ·split at h
  ·cases h
  ·split at h
   ·rename_i h1 h2 a
    exact ⟨by simpa using h1,by omega,a⟩
   ·cases h
theorem N12 [OB] {mp:Bool} {lim ce:Nat} {pp pl pe:Option Addr} {P:List Int} {L:List Leg} {cp cl:Nat} {es:List Ev} {H:NE} {Q:Value->NE->Prop} (hn:NetIn H pp pl P L) (hs:Sl H encE 7 pe es) (M:es.length<2 ^ 63) :
  NL E mp lim 69 [.agg (Tu pp P.length cp pl L.length cl).toArray,.slice pe es.length ce] H Q=Q (Vi (WX P L es)) H:=by
 refine pc (by decide) e69 rfl rfl ?_
 rw [b69,c69]
 have x:=fun X (mp:Bool) (lim:Nat) (Q:Value->NE->Prop)=>Ndu (mp:=mp) (lim:=lim) (cp:=cp) (cl:=cl) (Q:=Q) (hn.app X)
 by_cases r:R6 P L=0
 case neg=>
  have e:WX P L es=R6 P L:=by unfold WX;rw [Ni r]
  simp only [n69,r69,PS,Sv,Su,NI,x,Nq r,e,SB,seval,NC,NJ,NG,NR,reduceCtorEq,NB,place,NA,ND]
 by_cases u:(40:Int)<(es.length:Int)
 ·have e:WX P L es=5:=by unfold WX;rw [Ng (by simpa using r),Ni (by omega)]
  simp only [n69,r69,PS,Sv,Su,NI,x,N9 r,N9 u,e,SB,seval,NC,NJ,NG,NR,reduceCtorEq,NB,place,NA,ND]
 have e2:WX P L es=if Ngm es then 0 else 2:=by unfold WX;rw [Ng (by simpa using r),Ng (by omega)]
 simp only [n69,r69,PS,Sv,Su,NI,x,N9 r,Nq u,SB,seval,NC,NJ,NG,NR,reduceCtorEq,NB,place,NA,ND]
 refine NP (fun i=>es.length-i) (fun i fr G=>i<=es.length/\fr 1=.slice pe es.length ce/\fr 16=.slice pe es.length ce/\fr 17=Vi es.length/\fr 18=Vi i/\OJ H G/\∀j,j<i->N1c es j) 0
  ⟨Nw _,rfl,rfl,rfl,by rfl,OJ.refl.app,fun j D=>by omega⟩ ?_
 intro i fr G ⟨hi,f1,b,d,f,w,n⟩ C
 rw [NU N6g.eq_1]
 refine NK ?_
 have hl:=w.len
 by_cases a:i<es.length
 case neg=>
  obtain rfl:i=es.length:=by omega
  rw [Ni (show Ngm es from n)] at e2
  simp only [n69,r69,f1,b,d,f,a,e2,SB,seval,NC,NJ,NG,NR,reduceCtorEq,NB,place,NA,ND]
 have l:=w.sl hs
 have q:=fun X=>(l.app X).loadCells NZ a
 have p:=fun c (kk:IntKind) (H1:NE)=>l.idx (c:=c) (k:=kk) (H1:=H1) a
 have s:=fun X=>(l.app X).loadCell NZ (i:=0) (j:=0) (by omega) (by decide)
 rw [QZ] at s
 replace s:∀X,AM.loadCell (G++X) (((Zv pe 7 0).add 0).add 0)=some (Vi (gt es 0).item):=s
 have i0:=fun c (kk:IntKind) (H1:NE)=>l.idx (c:=c) (k:=kk) (H1:=H1) (i:=0) (by omega)
 simp only [Qs] at i0
 have y:IntKind.i64.wrap ((i:Int)+1)=((i+1:Nat):Int):=OD (by omega)
 have m:¬N1c es i->WX P L es=2:=fun h=>by rw [e2,Ng fun K=>h (K i a)]
 have N:=fun (G:NE) (B:Nat) (o:Bool) (h:NH G B=.cells o (QL (gt es i))) (mp:Bool) (lim:Nat) (Q:Value->NE->Prop)=>Nd5 (mp:=mp) (lim:=lim) (Q:=Q) h
 have g:∀(X:NE) (mp:Bool) (lim:Nat) (Q:Value->NE->Prop),NL E mp lim 55 [.slice (Sa (G.length+1)) 1 1] (G++Vc (encE (gt es i))::Vc (QL (gt es i))::X) Q=Q (.bool (decide (Sy (gt es i)))) (G++Vc (encE (gt es i))::Vc (QL (gt es i))::X):=fun X mp lim Q=>Nd5 (o:=false) (by rw [OC];rfl)
 by_cases h1:Sy (gt es i)
 case neg=>
  simp only [n69,r69,f1,b,d,f,a,q,p,NZ,QZ,Rz,Ry,Rx,Rw,Rv,QY,NI,NF,hl,Vf,OP,g,N5 h1,SB,seval,NC,NJ,NG,NR,reduceCtorEq,NB,place,NA,ND]
  rw [m fun h=>h1 h.1]
 by_cases h2:(gt es i).time<0
 ·simp only [n69,r69,f1,b,d,f,a,q,p,NZ,QZ,Rz,Ry,Rx,Rw,Rv,QY,NI,NF,hl,Vf,OP,g,Np h1,N9 h2,SB,seval,NC,NJ,NG,NR,reduceCtorEq,NB,place,NA,ND]
  rw [m fun h=>by have:=h.2.1;omega]
 by_cases t:1051898399<(gt es i).time
 ·simp only [n69,r69,f1,b,d,f,a,q,p,NZ,QZ,Rz,Ry,Rx,Rw,Rv,QY,NI,NF,hl,Vf,OP,g,Np h1,Nq h2,N9 t,SB,seval,NC,NJ,NG,NR,reduceCtorEq,NB,place,NA,ND]
  rw [m fun h=>by have:=h.2.2.1;unfold OA at this;omega]
 by_cases R:0<i
 case neg=>
  obtain rfl:i=0:=by omega
  have O:IntKind.i64.wrap (0+1)=1:=by decide
  simp only [n69,r69,f1,b,d,f,a,q,p,NZ,QZ,Rz,Ry,Rx,Rw,Rv,QY,NI,NF,hl,Vf,OP,g,Np h1,Nq h2,Nq t,i0,O,SB,seval,NC,NJ,NG,NR,reduceCtorEq,NB,place,NA,ND]
  exact C 1 _ _ ⟨by omega,f1,b,d,by rfl,w.app,fun j D=>by
   obtain rfl:j=0:=by omega
   exact ⟨h1,by omega,by unfold OA;omega,fun h=>by omega⟩⟩ (by omega)
 obtain ⟨k,rfl⟩:∃k,i=k+1:=⟨i-1,by omega⟩
 have z:=fun X=>(l.app X).loadCell NZ (i:=k) (j:=6) (by omega) (by decide)
 rw [QY] at z
 have F:=fun c (kk:IntKind) (H1:NE)=>l.idx (c:=c) (k:=kk) (H1:=H1) (i:=k) (by omega)
 have I:IntKind.i64.wrap (((k+1:Nat):Int)-1)=(k:Int):=by rw [NT (by omega) (by omega)];omega
 have kp:=N9 (show 0<k+1 by omega)
 by_cases v:(gt es (k+1)).item=(gt es 0).item
 case neg=>
  simp only [n69,r69,f1,b,d,f,a,q,p,NZ,QZ,Rz,Ry,Rx,Rw,Rv,QY,NI,NF,hl,Vf,OP,g,Np h1,Nq h2,Nq t,s,i0,kp,Nq v,SB,seval,NC,NJ,NG,NR,reduceCtorEq,NB,place,NA,ND]
  rw [m fun h=>v (h.2.2.2 (by omega)).1]
 by_cases A:(gt es (k+1)).time<(gt es k).time
 ·simp only [n69,r69,f1,b,d,f,a,q,p,NZ,QZ,Rz,Ry,Rx,Rw,Rv,QY,NI,NF,hl,Vf,OP,g,Np h1,Nq h2,Nq t,s,i0,kp,N9 v,z,F,I,N9 A,SB,seval,NC,NJ,NG,NR,reduceCtorEq,NB,place,NA,ND]
  rw [m fun h=>by have J:=(h.2.2.2 (by omega)).2;rw [P2] at J;omega]
 simp only [n69,r69,f1,b,d,f,a,q,p,NZ,QZ,Rz,Ry,Rx,Rw,Rv,QY,NI,NF,hl,Vf,OP,g,Np h1,Nq h2,Nq t,s,i0,kp,N9 v,z,F,I,Nq A,y,SB,seval,NC,NJ,NG,NR,reduceCtorEq,NB,place,NA,ND]
 exact C (k+2) _ _ ⟨by omega,f1,b,d,rfl,w.app,fun j D=>by
  rcases On j (k+1) with h | h
  ·exact n j h
  ·obtain rfl:j=k+1:=by omega
   exact ⟨h1,by omega,by unfold OA;omega,fun _=>⟨v,by rw [P2];omega⟩⟩⟩ (by omega)
def Nl9:Nat:=5000000
theorem Nzv:Nl9=5000000:=rfl
attribute [irreducible] Nl9
def Nf6 (P:List Int) (L:List Leg) (p t q:Int):Int:=(RZ 50 (OO P) (t+86400) L p t Nl9).getD (OO P q) (-1)
theorem Ndn {P:List Int} {L:List Leg} {p t q:Int} (hn:NetOk 50 P L (OO P)) (hp:p∈P) (d:q∈P) (a:0<=t):TZ L p t q (Nf6 P L p t q):=by
 obtain ⟨n,h1,h2,_⟩:=Nno (lim:=t+86400) hn hp a (by omega)
 have b:=Nf8 hn hp a (by omega:t<=t+86400) h2 q d
 obtain ⟨j,c⟩:∃j,Nl9=n+j:=⟨Nl9-n,by rw [Nzv];omega⟩
 unfold Nf6
 rw [c,Nf7 h2 j]
 exact b
def QX (P:List Int) (L:List Leg) (a b:Ev):Int:=
 if a.kind=4 then 80 else if a.place=b.place then 0 else if b.place∉P then 80 else if V4 P L a.place a.place a.time≠0 then 80 else
 if Nf6 P L a.place a.time b.place<0 then 80 else min (max (Nf6 P L a.place a.time b.place-b.time) 0) 60
theorem VK {P:List Int} {L:List Leg} {a b:Ev}:0<=QX P L a b/\QX P L a b<=80:=by
 unfold QX
 repeat' split
 all_goals omega
theorem Y0 {α:Type} {G G':NE} {enc:α->List Value} {e:Nat} {p:Option Addr} {l:List α} (h:Sl G enc e p l) (hk:∀a,p=some a->l≠[]->∀ro c,NH G a.block=.cells ro c->NH G' a.block=.cells ro c):Sl G' enc e p l:=by
 cases p with
 | none=>exact h
 | some a=>
   refine ⟨h.1,fun hn=>?_⟩
   obtain ⟨ro,c,h2,b⟩:=h.2 hn
   exact ⟨ro,c,hk a rfl hn _ _ h2,b⟩
def Off {α:Type} (S:List Nat) (p:Option Addr) (l:List α):Prop:=∀a,p=some a->l≠[]->a.block∉S
theorem Off.grow {α:Type} {S:List Nat} {p:Option Addr} {l:List α} {G:NE} {enc:α->List Value} {e b:Nat} (h:Off S p l) (hs:Sl G enc e p l) (i:G.length<=b):Off (b::S) p l:=fun a d hn f=>by
 subst d
 obtain ⟨ro,c,h2,g⟩:=hs.2 hn
 have:=NM h2
 rcases Nr.1 f with h1 | h1
 ·omega
 ·exact h a rfl hn h1
def Xb (S:List Nat) (G:NE) (P:List Int) (L:List Leg) (a t:Int) (v:Value):Prop:=
 (V4 P L a a t≠0/\v=Vz)\/(V4 P L a a t=0/\∃q T,v=.slice q P.length (loose 1)/\Sl G encI 1 q T/\N9p P L a t T/\Off S q T)
theorem Xb.keep {S:List Nat} {G G':NE} {P:List Int} {L:List Leg} {a t:Int} {v:Value} (h:Xb S G P L a t v) (hk:∀b ro c,b∉S->NH G b=.cells ro c->NH G' b=.cells ro c):Xb S G' P L a t v:=by
 rcases h with h | ⟨h,q,T,h1,h2,e,d⟩
 ·exact .inl h
 ·exact .inr ⟨h,q,T,h1,Y0 h2 fun a f hn ro c=>hk _ _ _ (d a f hn),e,d⟩
def MU (ms:List (Int×Int×Value)):List (Value×Value):=ms.map fun x=>(.agg #[Vi x.1,Vi x.2.1],x.2.2)
structure PI (lim R M:Nat) (S:List Nat) (G:NE) (pp pl:Option Addr) (cp cl:Nat) (P:List Int) (L:List Leg):Prop where
 net:NetIn G pp pl P L
 op:Off S pp P
 ol:Off S pl L
 r:NH G R=Vc [.slice pp P.length cp,.slice pl L.length cl,.map (some M)]
 oR:R∉S
 oM:M∉S
 m:∃ms,NH G M=.map (MU ms)/\∀x∈ms,Xb S G P L x.1 x.2.1 x.2.2
 lM:lim<=M
 sl:∀j∈S,j<G.length
section
variable {lim R M:Nat} {S:List Nat} {G G':NE} {pp pl:Option Addr} {cp cl:Nat} {P:List Int} {L:List Leg}
theorem PI.alive (h:PI lim R M S G pp pl cp cl P L):M<G.length:=by
 obtain ⟨ms,h1,_⟩:=h.m
 exact PR h1
theorem NetIn.sim {H:NE} (h:NetIn H pp pl P L) (hk:∀b ro c,NH H b=.cells ro c->NH G b=.cells ro c):NetIn G pp pl P L:=⟨h.sp.sim hk,h.sl.sim hk,h.np,h.nl,h.bys⟩
theorem PI.keep (h:PI lim R M S G pp pl cp cl P L) (hk:∀b ro c,b∉S->NH G b=.cells ro c->NH G' b=.cells ro c) (e:NH G' M=NH G M) (hl:G.length<=G'.length):PI lim R M S G' pp pl cp cl P L:=by
 obtain ⟨ms,h1,h2⟩:=h.m
 exact ⟨⟨Y0 h.net.sp fun a d hn ro c=>hk _ _ _ (h.op a d hn),Y0 h.net.sl fun a d hn ro c=>hk _ _ _ (h.ol a d hn),h.net.np,h.net.nl,h.net.bys⟩,h.op,h.ol,hk _ _ _ h.oR h.r,h.oR,h.oM,⟨ms,e.trans h1,fun x g=>(h2 x g).keep hk⟩,h.lM,fun j f=>by have:=h.sl j f;omega⟩
theorem PI.chg (h:PI lim R M S G pp pl cp cl P L) (hc:Chg S G G'):PI lim R M S G' pp pl cp cl P L:=
 h.keep (fun b ro c a d=>hc.cells d a) (hc.other _ h.alive h.oM) hc.len
theorem PI.app (h:PI lim R M S G pp pl cp cl P L) (X:NE):PI lim R M S (G++X) pp pl cp cl P L:=h.chg Chg.refl.app
theorem PI.chgk (h:PI lim R M S G pp pl cp cl P L) (hc:Chg [M] G G'):∀b ro c,NH G b=.cells ro c->NH G' b=.cells ro c:=fun b ro c a=>hc.cells a fun d=>by
 obtain ⟨ms,h1,_⟩:=h.m
 rw [Nk.1 d,h1] at a
 cases a
theorem Xb.grow {b:Nat} {a t:Int} {v:Value} (h:Xb S G P L a t v) (e:G.length<=b):Xb (b::S) G P L a t v:=by
 rcases h with h | ⟨h,q,T,h1,h2,c,d⟩
 ·exact .inl h
 ·exact .inr ⟨h,q,T,h1,h2,c,d.grow h2 e⟩
theorem PI.growC {b:Nat} (h:PI lim R M S G pp pl cp cl P L) (hc:Chg S G G') (f:G.length<=b) (n:b<G'.length):PI lim R M (b::S) G' pp pl cp cl P L:=by
 have h':=h.chg hc
 obtain ⟨ms,h1,h2⟩:=h.m
 have t:=NM h.r
 have i:=h.alive
 refine ⟨h'.net,h.op.grow h.net.sp f,h.ol.grow h.net.sl f,h'.r, ?_, ?_,⟨ms,(hc.other _ i h.oM).trans h1,fun x s=>?_⟩,h.lM, ?_⟩
 ·intro d
  rcases Nr.1 d with e | e
  ·omega
  ·exact h.oR e
 ·intro d
  rcases Nr.1 d with e | e
  ·omega
  ·exact h.oM e
 ·rcases (h2 x s).grow f with k | ⟨k,q,T,k1,k2,k3,g⟩
  ·exact .inl k
  ·exact .inr ⟨k,q,T,k1,Y0 k2 fun a l hn ro c o=>hc.cells o fun d=>g a l hn (Nj _ d),k3,g⟩
 ·intro j p
  rcases Nr.1 p with e | e
  ·omega
  ·have:=h.sl j e;have:=hc.len;omega
theorem PI.grow {b:Nat} (h:PI lim R M S G pp pl cp cl P L) (X:NE) (c:G.length<=b) (a:b<G.length+X.length):PI lim R M (b::S) (G++X) pp pl cp cl P L:=
 h.growC Chg.refl.app c (by simpa using a)
theorem PI.sub {S':List Nat} (h:PI lim R M S G pp pl cp cl P L) (hS:∀j∈S',j∈S):PI lim R M S' G pp pl cp cl P L:=by
 obtain ⟨ms,h1,h2⟩:=h.m
 refine ⟨h.net,fun a c hn b=>h.op a c hn (hS _ b),fun a c hn b=>h.ol a c hn (hS _ b),h.r,fun b=>h.oR (hS _ b),fun b=>h.oM (hS _ b),⟨ms,h1,fun x e=>?_⟩,h.lM,fun j d=>h.sl j (hS _ d)⟩
 rcases h2 x e with k | ⟨k,q,T,k1,k2,k3,f⟩
 ·exact .inl k
 ·exact .inr ⟨k,q,T,k1,k2,k3,fun a c hn b=>f a c hn (hS _ b)⟩
end
theorem Nho {a t:Int}:∀(ms:List (Int×Int×Value)) (i:Nat),(findKey (.agg #[Vi a,Vi t]) (MU ms) i=some none)\/∃j v,(a,t,v)∈ms/\findKey (.agg #[Vi a,Vi t]) (MU ms) i=some (some (j,v))
 | [],i=>.inl rfl
 | (c,d,v)::ms,i=>by
   have e:MU ((c,d,v)::ms)=(.agg #[Vi c,Vi d],v)::MU ms:=rfl
   rw [e,Nj0]
   by_cases h:a=c/\t=d
   ·rw [Ni h]
    obtain ⟨rfl,rfl⟩:=h
    exact .inr ⟨i,v,Nn ..,rfl⟩
   ·rw [Ng h]
    rcases Nho ms (i+1) with h1 | ⟨j,w,h1,h2⟩
    ·exact .inl h1
    ·exact .inr ⟨j,w,Nj _ h1,h2⟩
theorem No3 [OB] {lim R M:Nat} {S:List Nat} {pp pl:Option Addr} {P:List Int} {L:List Leg} {cp cl:Nat} {a t:Int} {G:NE} {Q:Value->NE->Prop} (h:PI lim R M S G pp pl cp cl P L) (l:lim<=G.length)
  (B:∀G' v,Chg [M] G G'->PI lim R M S G' pp pl cp cl P L->Xb S G' P L a t v->Q v G') :
  NL E false lim 137 [Vp R,Vi a,Vi t] G Q:=by
 refine RG (by decide) Od4 rfl ?_
 rw [Oe8,N80]
 obtain ⟨ms,u,y⟩:=h.m
 have k:=h.alive
 have J:=fun X=>(OJ.refl.app (X:=X)).cells h.r
 have I:∀X,NH (G++X) M=.map (MU ms):=fun X=>by rw [NQ k];exact u
 have e:U0 (.ints [.i64,.i64]) (.agg #[Vi a,Vi t])=true:=rfl
 rcases Nho (a:=a) (t:=t) ms 0 with w | ⟨j,v,z,w⟩
 case inr=>
  simp only [n137,N3f,J,I,w,e,l,NF,SB,seval,NC,NJ,NG,NR,reduceCtorEq,NB,place,NA,ND]
  exact B _ v (Chg.refl.app) (h.app _) ((y _ z).keep fun b ro c _ i=>(OJ.refl.app).cells i)
 have put:∀(G1:NE) (v:Value),Chg [] G G1->Xb S G1 P L a t v->∃G2,(∀X:NE,(G1++X).set M (.map (MU ms++[(Value.agg #[Vi a,Vi t],v)]))=G2++X)/\∀X,Chg [M] G (G2++X)/\PI lim R M S (G2++X) pp pl cp cl P L/\Xb S (G2++X) P L a t v:=by
  intro G1 v f z
  have d:NH G1 M=.map (MU ms):=f.get u k (by simp)
  obtain ⟨G2,e2,h2,F⟩:=OQ (PR d) (.map (MU ms++[(Value.agg #[Vi a,Vi t],v)]))
  have n:∀b ro c,NH G1 b=.cells ro c->NH G2 b=.cells ro c:=fun b ro c i=>F.cells i (by rintro rfl;rw [d] at i;cases i)
  have hk:∀b ro c,NH G b=.cells ro c->NH G2 b=.cells ro c:=fun b ro c i=>n _ _ _ (f.cells i (by simp))
  have A:PI lim R M S G2 pp pl cp cl P L:=by
   refine ⟨h.net.sim hk,h.op,h.ol,hk _ _ _ h.r,h.oR,h.oM,⟨ms++[(a,t,v)],by rw [h2];simp [MU],fun x hx=>?_⟩,h.lM,fun j C=>by have:=h.sl j C;have:=f.len;have:=F.len;omega⟩
   rcases Ob.1 hx with hx | hx
   ·exact (y x hx).keep fun b ro c _=>hk b ro c
   ·rw [Nk] at hx;subst hx;exact z.keep fun b ro c _=>n b ro c
  exact ⟨G2,e2,fun X=>⟨((f.mono (fun j _ C=>by simp at C)).mut F (.inl (by simp))).app,A.app X,(z.keep fun b ro c _=>n b ro c).keep fun b ro c _ i=>(OJ.refl.app).cells i⟩⟩
 simp only [n137,N3f,J,I,w,e,l,NF,SB,seval,NC,NJ,NG,NR,reduceCtorEq,NB,place,NA,ND]
 refine Nxk (P:=P) (L:=L) (cp:=cp) (cl:=cl) (h.net.app _) (by simp;omega) (fun G1 he g=>?_) (fun G1 q T he g K H N=>?_)
 ·have f:=g.pre
  obtain ⟨G2,e2,h2⟩:=put G1 Vz f (.inl ⟨he,rfl⟩)
  have o:=fun X=>(OJ.refl.app (X:=X)).cells (g.cells NV (by simp))
  have s:=fun X=>(OJ.refl.app (X:=X)).cells (f.cells h.r (by simp))
  have d:NH G1 M=.map (MU ms):=f.get u k (by simp)
  have p:∀X,NH (G1++X) M=.map (MU ms):=fun X=>by rw [NQ (PR d)];exact d
  refine NK ?_
  simp only [n137,N3f,Nq he,s,o,p,w,e,e2,h.lM,SB,seval,NC,NJ,NG,NR,reduceCtorEq,NB,place,NA,ND]
  obtain ⟨k1,k3,D⟩:=h2 []
  exact B _ _ k1 k3 D
 ·have f:=g.pre
  obtain ⟨G2,e2,h2⟩:=put G1 (.slice q P.length (loose 1)) f (.inr ⟨he,q,T,rfl,H.sl Sj,K,fun a O _ u=>by have h1:=(H.block O).1;have h2:=h.sl _ u;simp at h1;omega⟩)
  have o:=fun X=>(OJ.refl.app (X:=X)).cells (g.cells NV (by simp))
  have s:=fun X=>(OJ.refl.app (X:=X)).cells (f.cells h.r (by simp))
  have d:NH G1 M=.map (MU ms):=f.get u k (by simp)
  have p:∀X,NH (G1++X) M=.map (MU ms):=fun X=>by rw [NQ (PR d)];exact d
  refine NK ?_
  simp only [n137,N3f,s,o,p,w,e,e2,h.lM,SB,seval,NC,NJ,NG,NR,reduceCtorEq,NB,place,NA,ND]
  obtain ⟨k1,k3,D⟩:=h2 []
  exact B _ _ k1 k3 D
theorem Ntp [OB] {mp:Bool} {lim c:Nat} {p:Option Addr} {P:List Int} {a:Int} {H:NE} {Q:Value->NE->Prop} (hs:Sl H encI 1 p P) (hn:P.length<2 ^ 63) :
  NL E mp lim 136 [.slice p P.length c,Vi a] H Q=Q (Vi (Nep P a)) H:=by
 refine pc (by decide) Od5 rfl rfl ?_
 rw [Oe9,N81]
 simp only [n136,N3g,SB,seval,NC,NJ,NG,NR,reduceCtorEq,NB,place,NA,ND]
 refine NP (fun j=>P.length-j) (fun j fr G=>j<=P.length/\fr 0=.slice p P.length c/\fr 1=Vi a/\fr 7=Vi P.length/\fr 8=Vi j/\OJ H G/\∀i,i<j->gt P i≠a) 0 ⟨Nw _,rfl,rfl,rfl,by rfl,OJ.refl.app,fun i hi=>by omega⟩ ?_
 intro j fr G ⟨s,f0,f1,l,n,o,d⟩ q
 rw [NU N0k.eq_1]
 refine NK ?_
 by_cases b:j<P.length
 case neg=>
  obtain rfl:j=P.length:=by omega
  simp only [n136,N3g,f0,f1,l,n,b,SB,seval,NC,NJ,NG,NR,reduceCtorEq,NB,place,NA,ND]
  rw [Nep,Ng fun m=>?_]
  obtain ⟨i,hi,he⟩:=List.mem_iff_getElem.1 m
  exact d i hi (by rw [PW hi];exact he)
 have f:=fun X=>((o.sl hs).app X).loadCell0 Sj b (by decide)
 simp only [encI,O7] at f
 have e:=fun c (k:IntKind) (H1:NE)=>(o.sl hs).idx (c:=c) (k:=k) (H1:=H1) b
 have g:IntKind.i64.wrap ((j:Int)+1)=((j+1:Nat):Int):=OD (by omega)
 by_cases he:a=gt P j
 ·simp only [n136,N3g,f0,f1,l,n,b,e,f,g,N9 he,SB,seval,NC,NJ,NG,NR,reduceCtorEq,NB,place,NA,ND]
  have m:a∈P:=he▸QR b
  rw [Nep,Ni m]
  congr 1
  have h1:OO P a<=j:=by
   unfold OO
   apply Oh;intro hc
   have:=List.not_of_lt_findIdx (xs:=P) (p:=(· == a)) (i:=j) (by unfold List.idxOf at hc;omega)
   rw [PW b] at he
   simp [he] at this
  rcases On (OO P a) j with h3 | h3
  ·exfalso
   have hl:OO P a<P.length:=Pd m
   have:=Q6 hl
   refine d _ h3 ?_
   rw [PW hl];exact this
  ·omega
 ·simp only [n136,N3g,f0,f1,l,n,b,e,f,g,Nq he,SB,seval,NC,NJ,NG,NR,reduceCtorEq,NB,place,NA,ND]
  exact q (j+1) _ _ ⟨by omega,f0,f1,l,rfl,o.app,fun i hi=>by
   rcases On i j with h | h
   ·exact d i h
   ·obtain rfl:i=j:=by omega
    exact fun r=>he r.symm⟩ (by omega)
theorem Nlc [OB] {lim R M:Nat} {S:List Nat} {pp pl:Option Addr} {P:List Int} {L:List Leg} {cp cl:Nat} {a b:Ev} {G:NE} {Q:Value->NE->Prop} (h:PI lim R M S G pp pl cp cl P L) (d:lim<=G.length) (D:0<=b.time/\b.time<=OA)
  (N:∀G',Chg [M] G G'->PI lim R M S G' pp pl cp cl P L->Q (Vi (QX P L a b)) G') :
  NL E false lim 107 [Vp R,.agg (encE a).toArray,.agg (encE b).toArray] G Q:=by
 refine RG (by decide) Oel rfl ?_
 rw [Ofq,c107]
 have A:=fun X=>(OJ.refl.app (X:=X)).cells h.r
 unfold OA at D
 have fin:∀(n:Int) (X:NE),QX P L a b=n->Q (Vi n) (G++X):=fun n X e=>by
  rw [<-e];exact N _ (Chg.refl.app) (h.app _)
 by_cases h1:a.kind=4
 ·simp only [n107,Noy,A,NZ,QZ,Rz,Ry,Rx,Rw,Rv,QY,d,N9 h1,SB,seval,NC,NJ,NG,NR,reduceCtorEq,NB,place,NA,ND]
  exact fin _ _ (by unfold QX;rw [Ni h1])
 by_cases h2:a.place=b.place
 ·simp only [n107,Noy,A,NZ,QZ,Rz,Ry,Rx,Rw,Rv,QY,d,Nq h1,N9 h2,SB,seval,NC,NJ,NG,NR,reduceCtorEq,NB,place,NA,ND]
  exact fin _ _ (by unfold QX;rw [Ng h1,Ni h2])
 have m:=fun X (mp:Bool) (lim:Nat) (Q:Value->NE->Prop)=>Ntp (mp:=mp) (lim:=lim) (c:=cp) (a:=b.place) (Q:=Q) ((h.net.sp).app X) h.net.np
 by_cases k:b.place∈P
 case neg=>
  have e:Nep P b.place=-1:=Ng k
  rw [e] at m
  simp only [n107,Noy,A,NZ,QZ,Rz,Ry,Rx,Rw,Rv,QY,d,Nq h1,Nq h2,m,SB,seval,NC,NJ,NG,NR,reduceCtorEq,NB,place,NA,ND]
  exact fin _ _ (by unfold QX;rw [Ng h1,Ng h2,Ni k])
 have e:Nep P b.place=(OO P b.place:Int):=Ni k
 have f:OO P b.place<P.length:=Pd k
 rw [e] at m
 have Y:¬(OO P b.place:Int)<0:=by omega
 simp only [n107,Noy,A,NZ,QZ,Rz,Ry,Rx,Rw,Rv,QY,d,Nq h1,Nq h2,m,SB,seval,NC,NJ,NG,NR,reduceCtorEq,NB,place,NA,ND]
 refine No3 (h.app _) (by simp;omega) fun G1 v K C J=>?_
 have hk:=(h.app [Vc (encE a),Vc (encE b)]).chgk K
 have U:∀b ro c,NH G b=.cells ro c->NH G1 b=.cells ro c:=fun b ro c D=>hk _ _ _ ((OJ.refl.app).cells D)
 have B:=K.pre
 have p:=fun X=>(OJ.refl.app (X:=X)).cells (hk _ _ _ (show NH (G++[Vc (encE a),Vc (encE b)]) (G.length+1)=Vc (encE b) by rw [OC];rfl))
 have g:∀(n:Int) (X:NE),QX P L a b=n->Q (Vi n) (G1++X):=fun n X e=>by
  rw [<-e];exact N _ (B.app) (C.app _)
 rcases J with ⟨he,rfl⟩ | ⟨he,q,T,rfl,hs,y,_⟩
 ·have H:=N9 (show (0:Int)<=(OO P b.place:Int) by omega)
  refine NK ?_
  simp only [n107,Noy,NZ,QZ,Rz,Ry,Rx,Rw,Rv,QY,p,H,SB,seval,NC,NJ,NG,NR,reduceCtorEq,NB,place,NA,ND]
  exact g _ _ (by unfold QX;rw [Ng h1,Ng h2,Ng (by simpa using k),Ni he])
 ·obtain ⟨J,hp,_,o,I⟩:=Mq he
  have l:=VU J
  have s:=y.2 _ k
  rw [<-N4r (by rw [y.1];exact f)] at s
  have ev:=s.uniq (Ndn l hp k o)
  have lT:=Ndg (i:=OO P b.place) hs (by rw [y.1];exact f)
  have xT:=N4g (i:=OO P b.place) hs f y.1
  rw [ev] at lT
  have F:=N9o (Ndn l hp k o) I o
  have w:QX P L a b=if Nf6 P L a.place a.time b.place<0 then 80 else min (max (Nf6 P L a.place a.time b.place-b.time) 0) 60:=by
   unfold QX
   rw [Ng h1,Ng h2,Ng (by simpa using k),Ng (by simpa using he)]
  have O:-1<=Nf6 P L a.place a.time b.place:=by
   rcases Ndn l hp k o with ⟨e,_⟩ | ⟨⟨⟨j,V⟩,_⟩,_⟩
   ·omega
   ·have:=V.later l.fine;omega
  generalize Nf6 P L a.place a.time b.place=x at *
  unfold OA at F
  have W:IntKind.i64.wrap (x-b.time)=x-b.time:=NT (by omega) (by omega)
  have t:OO P b.place<P.length:=f
  have u:=Nq (show ¬P.length<=OO P b.place by omega)
  refine NK ?_
  by_cases z:x<0
  ·simp only [n107,Noy,NZ,QZ,Rz,Ry,Rx,Rw,Rv,QY,p,lT,xT,N9 z,t,u,SB,seval,NC,NJ,NG,NR,reduceCtorEq,NB,place,NA,ND]
   exact g _ _ (by rw [w,Ni z])
  ·simp only [n107,Noy,NZ,QZ,Rz,Ry,Rx,Rw,Rv,QY,p,lT,xT,Nq z,t,u,W,Nzs,Nzp,SB,seval,NC,NJ,NG,NR,reduceCtorEq,NB,place,NA,ND]
   exact g _ _ (by rw [w,Ng z])
theorem Njh [OB] {lim:Nat} {pp pl:Option Addr} {P:List Int} {L:List Leg} {cp cl:Nat} {H:NE} {Q:Value->NE->Prop} (hn:NetIn H pp pl P L) (b:lim<=H.length)
  (c:∀G R M,OJ H G->H.length<=R->H.length<=M->PI lim R M [] G pp pl cp cl P L->Q (Vp R) G) :
  NL E false lim 70 [.agg (Tu pp P.length cp pl L.length cl).toArray] H Q:=by
 refine RG (by decide) e70 rfl ?_
 rw [b70,c70]
 simp only [n70,r70,Tu,NI,QO,Ui,SB,seval,NC,NJ,NG,NR,reduceCtorEq,NB,place,NA,ND]
 refine c _ _ (H.length+1) OJ.refl.app ?_ (by omega) ⟨hn.app _,(fun _ _ _ a=>by cases a),(fun _ _ _ a=>by cases a), ?_,(by simp),(by simp),⟨[], ?_,fun x e=>by cases e⟩,(by omega),(fun j d=>by cases d)⟩
 ·omega
 ·rw [OC];rfl
 ·rw [OC];rfl
def Wu {α:Type} (n:Nat) (G:NE) (enc:α->List Value) (e:Nat) (q:Option Addr) (l:List α):Prop:=Sl G enc e q l/\∀a,q=some a->n<=a.block
theorem Wu.app {α:Type} {n e:Nat} {G:NE} {enc:α->List Value} {q:Option Addr} {l:List α} (h:Wu n G enc e q l) (X:NE):Wu n (G++X) enc e q l:=⟨h.1.app X,h.2⟩
theorem Wu.le {α:Type} {n n' e:Nat} {G:NE} {enc:α->List Value} {q:Option Addr} {l:List α} (h:Wu n G enc e q l) (hl:n'<=n):Wu n' G enc e q l:=⟨h.1,fun a b=>by have:=h.2 a b;omega⟩
theorem Wu.mut {α:Type} {n e R:Nat} {G G':NE} {enc:α->List Value} {q:Option Addr} {l:List α} (h:Wu n G enc e q l) (d:Mut G G' R) (f:R<n):Wu n G' enc e q l:=
 ⟨Y0 h.1 fun a b hn ro c hc=>d.cells hc (by have:=h.2 a b;omega),h.2⟩
theorem Wu.chg {α:Type} {A:List Nat} {n e:Nat} {G G':NE} {enc:α->List Value} {q:Option Addr} {l:List α} (h:Wu n G enc e q l) (hc:Chg A G G') (b:∀j∈A,j<n):Wu n G' enc e q l:=
 ⟨hc.sl h.1 fun a c _ d=>by have:=b _ d;have:=h.2 a c;omega,h.2⟩
def opB (p:Option Addr):List Nat:=match p with
 | none=>[]
 | some a=>[a.block]
theorem Own.moreF {α:Type} {lim lim' e bytes cap:Nat} {G:NE} {enc:α->List Value} {p:Option Addr} {l:List α} (h:Own lim G enc e p cap l) (n:lim'<=lim) (he:∀x,(enc x).length=e) (i:e≠0) (m:List α) (o:m≠[]) (g:(l.length+m.length)*bytes<=PU) (hn:l.length+m.length<2 ^ 61)
  (X:NE) {x:Value} {str:Bool} (h1:firstCells (G++X) e str x=some (m.flatMap enc)) (h2:lenOf x=some m.length) :
  ∃G2,PQ lim' none e bytes str (.slice p l.length cap) x (G++X)=some (.slice (Sa ((G++X).length)) (l.length+m.length) (loose e),G2++[])/\Own G.length G2 enc e (Sa ((G++X).length)) (loose e) (l++m)/\Chg (opB p) G G2/\(G++X).length<G2.length:=by
 have c:¬m.length=0:=fun q=>o (List.length_eq_zero_iff.1 q)
 rcases h with ⟨k1,k2,k3⟩ | ⟨R,k1,k2,k3,r⟩
 ·subst k1 k2 k3
  refine ⟨G++(X++[Vc (m.flatMap enc)]), ?_, ?_,Chg.refl.app,by simp⟩
  ·simp only [Ns,Oc] at g hn⊢
   simp only [PQ,h1,h2,c,if_false,Oc]
   rw [Ng (by omega)]
   simp [place]
  ·rw [Ov]
   refine Own.new ?_ (by simp)
   rw [<-No];exact NV
 ·subst k1 k2
  have b:=NM k3
  have a:NH (G++X) R=Vc (l.flatMap enc):=by rw [NQ b];exact k3
  have d:AM.loadCells (G++X) ⟨R,0,none⟩ (l.length*e)=some (l.flatMap enc):=by
   simp only [R3,a,Oc,QM he,Nd,if_true,O1]
   rw [Oe (by rw [QM he];exact Nd _)]
  have f:Mut G (G.set R .dead) R:=⟨by simp,fun j k=>QP k⟩
  refine ⟨G.set R .dead++(X++[Vc ((l++m).flatMap enc)]), ?_, ?_,(Chg.refl.mut f (.inl (by simp [opB]))).app,by simp⟩
  ·simp only [PQ,h1,h2,d,a,c,if_false,if_true]
   rw [Ng (by unfold loose;omega)]
   simp [show lim'<=R by omega,place,Qn _ _ b,No]
  ·refine Own.new ?_ (by simp)
   rw [<-No,show (G++X).length=(G.set R .dead++X).length by simp];exact NV
theorem Nvx [OB] {lim c:Nat} {p:Option Addr} {l:List Int} {H:NE} {Q:Value->NE->Prop} (hs:Sl H encI 1 p l) (hc:p=none->c=0) (hl:l.length<2 ^ 40)
  (e:∀H' q h,OJ H H'->Wu H.length H' encI 1 q l->Q (.slice q l.length h) H') :
  NL E false lim 106 [.slice p l.length c] H Q:=by
 by_cases hn:l=[]
 case neg=>exact Nne hs hn hl fun H' q i g=>e H' q _ i ⟨g.sl Sj,fun a d=>(g.block d).1⟩
 subst hn
 refine RG (by decide) Obc rfl ?_
 rw [Obq,N5e]
 cases p with
 | none=>
   obtain rfl:=hc rfl
   have b:aEq .slice Vz Vz=some true:=rfl
   simp only [n106,N7h,b,SB,seval,NC,NJ,NG,NR,reduceCtorEq,NB,place,NA,ND]
   exact e _ none 0 OJ.refl.app ⟨rfl,fun a d=>by cases d⟩
 | some a=>
   have b:aEq .slice (.slice (some a) 0 c) Vz=some false:=rfl
   have f:∀X,PQ lim none 1 8 false (.slice (Sa H.length) 0 0) (.slice (some a) 0 c) (H++X)=some (.slice (Sa H.length) 0 0,H++X):=fun X=>by simp [PQ,firstCells,lenOf]
   simp only [n106,N7h,b,f,SB,seval,NC,NJ,NG,NR,reduceCtorEq,NB,place,NA,ND]
   exact e _ (Sa H.length) 0 OJ.refl.app ⟨⟨rfl,fun j=>absurd rfl j⟩,fun a d=>by cases d;exact Nd _⟩
def U7 (P:List Int) (L:List Leg) (es:List Ev) (ks:List Int) (i:Nat):Int×Int×Int:=(gt ks i,gt ks (i+1),QX P L (gt es (gt ks i).toNat) (gt es (gt ks (i+1)).toNat))
def QU (P:List Int) (L:List Leg) (es:List Ev) (ks:List Int):List (Int×Int×Int):=(List.range (ks.length-1)).map (U7 P L es ks)
def UL:List (Int×Int×Int)->Int
 | []=>0
 | x::l=>x.2.2+UL l
def Td (P:List Int) (L:List Leg) (es:List Ev) (ks:List Int):Int:=30*((es.length:Int)-ks.length)+UL (QU P L es ks)
theorem Na4:∀(l:List (Int×Int×Int)) (x:Int×Int×Int),UL (l++[x])=UL l+x.2.2
 | [],x=>by simp [UL]
 | y::l,x=>by rw [O5,UL,Na4 l x,UL];omega
theorem ZX {P:List Int} {L:List Leg} {es:List Ev} {ks:List Int}:∀(n:Nat),0<=UL ((List.range n).map (U7 P L es ks))/\UL ((List.range n).map (U7 P L es ks))<=80*n
 | 0=>by simp [UL]
 | n+1=>by
   rw [Pt,O0,List.map_singleton,Na4]
   have h1:=ZX (P:=P) (L:=L) (es:=es) (ks:=ks) n
   have h2:=VK (P:=P) (L:=L) (a:=gt es (gt ks n).toNat) (b:=gt es (gt ks (n+1)).toNat)
   have e:(U7 P L es ks n).2.2=QX P L (gt es (gt ks n).toNat) (gt es (gt ks (n+1)).toNat):=rfl
   rw [e]
   omega
theorem N3m [OB] {lim R M:Nat} {S:List Nat} {pp pl pe pk:Option Addr} {P:List Int} {L:List Leg} {cp cl ce ck:Nat} {es:List Ev} {ks:List Int} {H:NE} {Q:Value->NE->Prop} (h:PI lim R M S H pp pl cp cl P L) (aj:lim<=H.length)
  (hs:Sl H encE 7 pe es) (bf:es.length<=40) (ht:∀i,i<es.length->0<=(gt es i).time/\(gt es i).time<=OA) (hk:Sl H encI 1 pk ks) (bd:ks.length<2 ^ 20) (ax:pk=none->ck=0) (B:∀k∈ks,0<=k/\k<es.length)
  (hQ:∀G q cq r cr,Chg [M] H G->PI lim R M S G pp pl cp cl P L->Wu H.length G encI 1 q ks->Wu H.length G enc3 3 r (QU P L es ks)->Q (.agg #[.slice q ks.length cq,.slice r (QU P L es ks).length cr,Vi (Td P L es ks)]) G) :
  NL E false lim 71 [Vp R,.slice pe es.length ce,.slice pk ks.length ck] H Q:=by
 refine RG (by decide) e71 rfl ?_
 rw [b71,c71]
 have au:=h.alive
 simp only [n71,r71,SB,seval,NC,NJ,NG,NR,reduceCtorEq,NB,place,NA,ND]
 refine Nvx (hk.app _) ax (by omega) fun H1 q cq o ac=>?_
 have w1:IntKind.i64.wrap ((es.length:Int)-ks.length)=(es.length:Int)-ks.length:=NT (by omega) (by omega)
 have w2:IntKind.i64.wrap (30*((es.length:Int)-ks.length))=30*((es.length:Int)-ks.length):=NT (by omega) (by omega)
 have a0:=o.len
 simp at a0
 have s:lim<=H1.length:=by omega
 have ar:Chg [M] H H1:=(OJ.chg (A:=[M]) o).pre
 have bc:NH H1 M=NH H M:=(OJ.chg (A:=[]) o).pre.other M au (by simp)
 have ao:NH H1 H.length=Vc [Vz,Vz,Vi 0]:=o.cells NV
 have aw:=(h.grow (b:=H.length) [Vc [Vz,Vz,Vi 0]] (Nd _) (by simp)).chg (OJ.chg o)
 refine NK ?_
 simp only [n71,r71,w1,w2,s,SB,seval,NC,NJ,NG,NR,reduceCtorEq,NB,place,NA,ND]
 refine NP (fun x:Nat×Option Addr×Nat=>ks.length-x.1) (fun x fr G=>(x.1=0\/x.1+1<=ks.length)/\fr 0=Vp R/\fr 1=.slice pe es.length ce/\fr 2=.slice pk ks.length ck/\fr 6=Vp H.length/\fr 7=Vp H1.length/\fr 8=Vi ((x.1+1:Nat):Int)/\Chg [M] H G/\Chg [M,H1.length] H1 G/\PI lim R M (opB x.2.1++H1.length::H.length::S) G pp pl cp cl P L/\
   NH G H1.length=Vc [.slice q ks.length cq,.slice x.2.1 x.1 x.2.2,Vi (30*((es.length:Int)-ks.length)+UL ((List.range x.1).map (U7 P L es ks)))]/\Own (H1.length+1) G enc3 3 x.2.1 x.2.2 ((List.range x.1).map (U7 P L es ks))) (0,none,0)
  ⟨.inl rfl,rfl,rfl,rfl,rfl,by rfl,by rfl,ar.app,Chg.refl.app,aw.grow _ (Nd _) (by simp),by rw [NV];simp [UL],.nil⟩ ?_
 rintro ⟨i,V,cw⟩ fr G ⟨hi,g0,g1,g2,g6,g7,g8,hC,v,y,hB,I⟩ hN
 simp only at hi g8 y hB I
 rw [NU N6f.eq_1]
 refine NK ?_
 have hl:=hC.len
 have be:=v.len
 have bb:=NM hB
 have F:NH G H.length=Vc [Vz,Vz,Vi 0]:=v.cells ao (by simp;omega)
 have C:((List.range i).map (U7 P L es ks)).length=i:=by simp
 have D:=hs.sim (h.chgk hC)
 have z:=hk.sim (h.chgk hC)
 have ba:=ZX (P:=P) (L:=L) (es:=es) (ks:=ks) i
 by_cases g:i+1<ks.length
 case neg=>
  have ei:ks.length-1=i:=by omega
  have a9:¬((i+1:Nat):Int)<(ks.length:Int):=by omega
  have ap:=fun X=>(OJ.refl.app (X:=X)).cells hB
  have al:=fun X=>(OJ.refl.app (X:=X)).cells F
  obtain ⟨G2,e2,h2,u⟩:=OQ (NM F) (Vc [.slice q ks.length cq,.slice V i cw,Vi (30*((es.length:Int)-ks.length)+UL ((List.range i).map (U7 P L es ks)))])
  have ak:=fun X=>(OJ.refl.app (X:=X)).cells h2
  simp only [n71,r71,g0,g1,g2,g6,g7,g8,g,ap,al,aj,e2,ak,SB,seval,NC,NJ,NG,NR,reduceCtorEq,NB,place,NA,ND]
  have K:QU P L es ks=(List.range i).map (U7 P L es ks):=by unfold QU;rw [ei]
  have aq:Chg [M] H G2:=hC.mut u (.inr (Nd _))
  have ag:=(y.chg (Chg.refl.mut u (.inl (by simp)))).sub (S':=S) fun j f=>by simp [f]
  have w:=I.mut u fun a d e=>by have:=(I.block d).1;omega
  have T:∀a,q=some a->H.length<a.block:=fun a d=>by have:=ac.2 a d;simp at this;omega
  have az:Wu H.length G2 encI 1 q ks:=⟨Y0 ac.1 (fun a d hn ro c hc=>u.cells (v.cells hc (by have h1:=NM hc;have h2:=T a d;simp;omega)) (by have h2:=T a d;omega)),fun a d=>by have:=T a d;omega⟩
  have:=hQ G2 q cq V cw aq ag az (by rw [K];exact ⟨w.sl OT,fun a d=>by have:=(w.block d).1;omega⟩)
  rw [K,C] at this
  unfold Td at this
  rw [K] at this
  rw [Nb]
  exact this
 have l0:=fun X=>(z.app X).loadCell0 Sj (i:=i) (by omega) (by decide)
 have l1:=fun X=>(z.app X).loadCell0 Sj (i:=i+1) g (by decide)
 simp only [encI,O7] at l0 l1
 have x0:=fun c (k:IntKind) (H1:NE)=>z.idx (c:=c) (k:=k) (H1:=H1) (i:=i) (by omega)
 have x1:=fun c (k:IntKind) (H1:NE)=>z.idx (c:=c) (k:=k) (H1:=H1) (i:=i+1) g
 obtain ⟨a,ea⟩:=Int.eq_ofNat_of_zero_le (B _ (QR (i:=i) (by omega))).1
 obtain ⟨b,eb⟩:=Int.eq_ofNat_of_zero_le (B _ (QR g)).1
 have d:a<es.length:=by have:=(B _ (QR (l:=ks) (i:=i) (by omega))).2;omega
 have hb:b<es.length:=by have:=(B _ (QR g)).2;omega
 have J:U7 P L es ks i=((a:Int),(b:Int),QX P L (gt es a) (gt es b)):=by unfold U7;rw [ea,eb];rfl
 rw [ea] at l0
 rw [eb] at l1
 have la:=fun X=>(D.app X).loadCells NZ d
 have lb:=fun X=>(D.app X).loadCells NZ hb
 have xa:=fun c (k:IntKind) (H1:NE)=>D.idx (c:=c) (k:=k) (H1:=H1) d
 have xb:=fun c (k:IntKind) (H1:NE)=>D.idx (c:=c) (k:=k) (H1:=H1) hb
 have w9:IntKind.i64.wrap (((i+1:Nat):Int)-1)=(i:Int):=by rw [NT (by omega) (by omega)];omega
 have t:lim<=G.length:=by omega
 simp only [n71,r71,g0,g1,g2,g6,g7,g8,t,g,w9,l0,l1,x0,x1,la,lb,xa,xb,SB,seval,NC,NJ,NG,NR,reduceCtorEq,NB,place,NA,ND]
 refine Nlc (a:=gt es a) (y.grow [Vc [Vi a,Vi b,Vi 0]] (Nd _) (by simp)) (by simp;omega) (ht b hb) fun G1 n ae=>?_
 have ah:=(y.grow [Vc [Vi a,Vi b,Vi 0]] (Nd _) (by simp)).chgk n
 have Z:NH G1 G.length=Vc [Vi a,Vi b,Vi 0]:=ah _ _ _ NV
 have an:=ah _ _ _ ((OJ.refl.app).cells hB)
 have a1:=n.len
 simp at a1
 have ad:Own (H1.length+1) G1 enc3 3 V cw ((List.range i).map (U7 P L es ks)):=(I.app _).chg n fun a d hm=>by have:=(I.block d).1;simp at hm;omega
 generalize hp:QX P L (gt es a) (gt es b)=p at J
 have a3:=VK (P:=P) (L:=L) (a:=gt es a) (b:=gt es b)
 rw [hp] at a3
 obtain ⟨G2,e2,h2,u⟩:=OQ (NM Z) (Vc [Vi a,Vi b,Vi p])
 have aa:=u.cells an (by omega)
 have w:=ad.mut u fun a d e=>by have:=(I.block d).2;omega
 have wp:IntKind.i64.wrap (30*((es.length:Int)-ks.length)+UL ((List.range i).map (U7 P L es ks))+p)=30*((es.length:Int)-ks.length)+UL ((List.range (i+1)).map (U7 P L es ks)):=by
  rw [Pt,O0,List.map_singleton,Na4,J,<-Int.add_assoc]
  exact NT (by omega) (by omega)
 obtain ⟨W,e3,h3,U⟩:=OQ (NM aa) (Vc [.slice q ks.length cq,.slice V i cw,Vi (30*((es.length:Int)-ks.length)+UL ((List.range (i+1)).map (U7 P L es ks)))])
 have av:=w.mut U fun a d e=>by have:=(I.block d).1;omega
 have am:=U.cells h2 (by omega)
 have a6:=u.len
 have a8:=U.len
 obtain ⟨G4,Y,O4,C4,ai⟩:=Own.moreF av (lim':=lim) (bytes:=24) (by omega) OT (by decide) [((a:Int),(b:Int),p)] (by simp) (by rw [C];unfold PU;simp;omega) (by rw [C];simp;omega) [Vc [Vi a,Vi b,Vi p]] (x:=.slice (Sa W.length) 1 1) (str:=false)
  (WL (m:=[((a:Int),(b:Int),p)]) (Sl.row (ro:=false) OT (by rw [NV];rfl))) rfl
 rw [C] at Y
 have eN:(List.range i).map (U7 P L es ks)++[((a:Int),(b:Int),p)]=(List.range (i+1)).map (U7 P L es ks):=by rw [Pt,O0,List.map_singleton,J]
 rw [eN] at O4
 have O:∀j,j∈opB V->H1.length+1<=j/\j<G.length:=fun j f=>by
  cases hpe:V with
  | none=>rw [hpe] at f;cases f
  | some a=>rw [hpe] at f;have:=I.block hpe;simp [opB] at f;omega
 generalize a2:(W++[Vc [Vi a,Vi b,Vi p]]).length=r at Y O4 ai
 have a4:W.length<=r:=by rw [<-a2];simp
 generalize loose 3=c' at Y O4
 simp only [Nm,Ns,Oc] at Y
 have ab:=C4.cells h3 fun hm=>by have:=O _ hm;omega
 obtain ⟨G5,e5,h5,m5⟩:=OQ (NM ab) (Vc [.slice q ks.length cq,.slice (Sa r) (i+1) c',Vi (30*((es.length:Int)-ks.length)+UL ((List.range (i+1)).map (U7 P L es ks)))])
 have X1:=fun X=>(OJ.refl.app (X:=X)).cells Z
 have X2:=fun X=>(OJ.refl.app (X:=X)).cells aa
 have X3:=fun X=>(OJ.refl.app (X:=X)).cells h2
 have X4:=fun X=>(OJ.refl.app (X:=X)).cells h3
 have X5:=fun X=>(OJ.refl.app (X:=X)).cells am
 have X6:=fun X=>(OJ.refl.app (X:=X)).cells ab
 have a5:IntKind.i64.wrap (((i+1:Nat):Int)+1)=((i+2:Nat):Int):=OD (by omega)
 have N:lim<=H1.length:=s
 refine NK ?_
 simp only [n71,r71,g0,g1,g2,g6,g7,g8,t,N,X1,e2,X2,X3,e3,X4,X5,X6,Y,e5,wp,a5,SB,seval,NC,NJ,NG,NR,reduceCtorEq,NB,place,NA,ND]
 have k1:Chg [M] H W:=((hC.trans n.pre).mut u (.inr (by omega))).mut U (.inr (by omega))
 have k2:Chg [M] H G5:=(k1.trans' C4 fun j f ay=>by have:=O j f;omega).mut m5 (.inr (by omega))
 have k3:Chg [M,H1.length] H1 W:=((v.trans (n.pre.mono fun j _ f=>by simp at f;simp [f])).mut u (.inr (by omega))).mut U (.inl (by simp))
 have k4:Chg [M,H1.length] H1 G5:=(k3.trans' C4 fun j f ay=>by have:=O j f;omega).mut m5 (.inl (by simp))
 have k5:=ae.chg ((Chg.refl.mut u (.inl (by simp))).mut U (.inl (by simp)))
 have k6:=k5.growC (b:=r) (G':=G4) (C4.mono fun j _ f=>by simp [f]) a4 ai
 have k7:=(k6.chg (Chg.refl.mut m5 (.inl (by simp)))).sub (S':=opB (Sa r)++H1.length::H.length::S) fun j f=>by
  simp [opB] at f
  rcases f with e | e | e | e
  ·simp [e]
  ·simp [e]
  ·simp [e]
  ·simp [e]
 have k8:=(O4.mut m5 fun a d e=>by cases d;simp at e;omega).le (lim':=H1.length+1) (by omega)
 exact hN (i+1,Sa r,c') _ _ ⟨.inr g,g0,g1,g2,g6,g7,by rfl,k2.app,k4.app,k7.app _,(OJ.refl.app).cells h5,k8.app _⟩ (by show ks.length-(i+1)<ks.length-i;omega)
def Ncw (n:Nat) (ks:List Int) (i:Nat):Prop:=0<=gt ks i/\gt ks i<n/\(0<i->gt ks (i-1)<gt ks i)
instance (n:Nat) (ks:List Int) (i:Nat):Decidable (Ncw n ks i):=by unfold Ncw;infer_instance
def Nc7 (n:Nat) (ks:List Int):Prop:=(ks.length=0->n=0)/\∀i,i<ks.length->Ncw n ks i
instance (n:Nat) (ks:List Int):Decidable (Nc7 n ks):=by unfold Nc7;infer_instance
theorem Nq9 {n:Nat} {ks:List Int} (h:∀i,i<ks.length->Ncw n ks i):∀i,i<ks.length->(i:Int)<=gt ks i
 | 0,hi=>(h 0 hi).1
 | i+1,hi=>by
   have h1:=Nq9 h i (by omega)
   have h2:=(h (i+1) hi).2.2 (by omega)
   rw [P2] at h2
   omega
theorem Ndm {n:Nat} {ks:List Int} (h:∀i,i<ks.length->Ncw n ks i):ks.length<=n:=by
 apply Oh;intro hc
 have h1:=Nq9 h (ks.length-1) (by omega)
 have h2:=(h (ks.length-1) (by omega)).2.1
 omega
theorem Nc7.mem {n:Nat} {ks:List Int} (h:Nc7 n ks):∀k∈ks,0<=k/\k<n:=fun k hk=>by
 obtain ⟨i,hi,rfl⟩:=List.mem_iff_getElem.1 hk
 have:=h.2 i hi
 rw [<-PW hi]
 exact ⟨this.1,this.2.1⟩
abbrev ZN:=Int×Int×Int
def YF (x y:ZN):Bool:=decide (x.1<y.1\/(x.1=y.1/\y.2.1<x.2.1))
theorem Nr6 [OB] {mp:Bool} {lim:Nat} {x y:ZN} {H:NE} {Q:Value->NE->Prop}:NL E mp lim 108 [.agg (enc3 x).toArray,.agg (enc3 y).toArray] H Q=Q (.bool (YF x y)) H:=by
 refine pc (by decide) Oek rfl rfl ?_
 rw [Ofp,N9c]
 obtain ⟨a,b,c⟩:=x
 obtain ⟨a',b',d⟩:=y
 have e0:YF (a,b,c) (a',b',d)=decide (a<a'\/(a=a'/\b'<b)):=rfl
 rw [e0]
 by_cases h1:a<a'
 ·have e:=Np (show a<a'\/(a=a'/\b'<b) from .inl h1)
  rw [e]
  simp only [n108,N7g,enc3,N9 h1,SB,seval,NC,NJ,NG,NR,reduceCtorEq,NB,place,NA,ND]
 by_cases h2:a=a'
 ·have e:decide (a<a'\/(a=a'/\b'<b))=decide (b'<b):=decide_eq_decide.2 ⟨fun h=>by omega,fun h=>.inr ⟨h2,h⟩⟩
  rw [e]
  simp only [n108,N7g,enc3,Nq h1,N9 h2,SB,seval,NC,NJ,NG,NR,reduceCtorEq,NB,place,NA,ND]
 ·have e:=N5 (show ¬(a<a'\/(a=a'/\b'<b)) by omega)
  rw [e]
  simp only [n108,N7g,enc3,Nq h1,Nq h2,SB,seval,NC,NJ,NG,NR,reduceCtorEq,NB,place,NA,ND]
def YU (P:List Int) (L:List Leg) (es:List Ev) (T:List ZN) (i j:Nat):ZN:=(QX P L (gt es i) (gt es j)+30*((j:Int)-i-1)+(gt T j).1,(gt T j).2.1+1,(j:Int))
def VF (x r:ZN):ZN:=if YF x r then x else r
def RS (P:List Int) (L:List Leg) (es:List Ev) (T:List ZN) (i:Nat):Nat->ZN
 | 0=>(30*((es.length:Int)-1-i),1,-1)
 | m+1=>VF (RS P L es T i m) (YU P L es T i (es.length-1-m))
def OL (P:List Int) (L:List Leg) (es:List Ev):Nat->List ZN
 | 0=>List.replicate es.length (0,0,0)
 | k+1=>(OL P L es k).set (es.length-1-k) (RS P L es (OL P L es k) (es.length-1-k) k)
theorem Uo {P:List Int} {L:List Leg} {es:List Ev}:∀k,(OL P L es k).length=es.length
 | 0=>by simp [OL]
 | k+1=>by rw [OL,P0,Uo k]
def N2m (T:List ZN):Prop:=∀j,0<=(gt T j).1/\(gt T j).1<=10000/\0<=(gt T j).2.1/\(gt T j).2.1<=40
theorem Nvr {x:ZN} {a b c:Value}:(((enc3 x).set 0 a).set 1 b).set 2 c=[a,b,c]:=id rfl
theorem Oay {G:NE} {c:Blk}:OE G.length [0] (G++[c])=G++[.dead]:=by
 show (G++[c]).set (G.length+0) .dead=_
 rw [Po,Qi _ _ (Nd _),Qv];rfl
theorem N2z {G G1:NE} {c:Blk}:NW G.length [0] (G++[c]) G1=G1.set G.length c:=by
 show G1.set (G.length+0) (NH (G++[c]) (G.length+0))=_
 rw [Po,NV];rfl
theorem N00 [OB] {lim R M B8 BT:Nat} {S:List Nat} {pp pl pe:Option Addr} {P:List Int} {L:List Leg} {cp cl ce ct:Nat} {es:List Ev} {T:List ZN} {i:Nat} {G:NE} {fr:Nat->Value} {K:List AItem} {Z:Value->NE->Prop} (hi:i<es.length) (F:lim<=B8) (hS:B8∈S) (ab:BT∈S)
  (ak:es.length<=40) (ht:∀i,i<es.length->0<=(gt es i).time/\(gt es i).time<=OA) (hT:T.length=es.length) (ah:N2m T)
  (hP:PI lim R M S G pp pl cp cl P L) (hs:Sl G encE 7 pe es) (C:NH G BT=Vc (T.flatMap enc3)) (h:NH G B8=Vc (enc3 (RS P L es T i 0)))
  (f0:fr 0=Vp R) (f1:fr 1=.slice pe es.length ce) (f5:fr 5=.slice (Sa BT) T.length ct) (f6:fr 6=.func (.func 108) #[] #[]) (f7:fr 7=Vi i) (f8:fr 8=Vp B8) (f9:fr 9=Vi ((es.length:Int)-1))
  (hR:∀fr' G',Chg [M,B8] G G'->PI lim R M S G' pp pl cp cl P L->NH G' B8=Vc (enc3 (RS P L es T i (es.length-1-i)))->(∀j,j<=8->fr' j=fr j)->PV E a72 lim K fr' G' Z) :
  PV E a72 lim (.code (.loop N0d)::.inBlock 2::K) fr G Z:=by
 refine NP (fun m=>es.length-m) (fun m fr' G'=>m<=es.length-1-i/\Chg [M,B8] G G'/\PI lim R M S G' pp pl cp cl P L/\NH G' B8=Vc (enc3 (RS P L es T i m))/\(∀j,j<=8->fr' j=fr j)/\fr' 9=Vi ((es.length:Int)-1-m)) 0
  ⟨Nw _,Chg.refl,hP,h,fun j _=>rfl,by rw [f9];simp⟩ ?_
 intro m fr' G' ⟨hm,s,l,hB,d,z⟩ hN
 rw [NU N0d.eq_1]
 have U:=(d 0 (by decide)).trans f0
 have V:=(d 1 (by decide)).trans f1
 have W:=(d 5 (by decide)).trans f5
 have Y:=(d 6 (by decide)).trans f6
 have J:=(d 7 (by decide)).trans f7
 have g8:=(d 8 (by decide)).trans f8
 refine NK ?_
 by_cases am:m<es.length-1-i
 case neg=>
  obtain rfl:m=es.length-1-i:=by omega
  have O:(es.length:Int)-1-((es.length-1-i:Nat):Int)=(i:Int):=by omega
  rw [O] at z
  simp only [n72,r72,J,z,SB,seval,NC,NJ,NG,NR,reduceCtorEq,NB,place,NA,ND]
  exact hR _ _ s.app (l.app _) ((OJ.refl.app).cells hB) fun j A=>by
   rw [<-d j A]
   simp only [upd]
   repeat rw [Ng (by omega)]
 generalize A:es.length-1-m=j
 have O:(es.length:Int)-1-(m:Int)=(j:Int):=by omega
 rw [O] at z
 have u:j<es.length:=by omega
 have ac:i<j:=by omega
 have ae:BT≠B8:=by
  rintro rfl
  rw [C] at h
  simp only [Blk.cells.injEq,Ri] at h
  have:=P9 List.length h
  rw [QM OT,OT] at this
  omega
 have H:BT≠M:=fun e=>l.oM (e▸ab)
 have w:Sl G' enc3 3 (Sa BT) T:=Sl.row (ro:=false) OT (s.cells C (by simp;exact ⟨H,ae⟩))
 have B:∀a,pe=some a->es≠[]->a.block≠B8:=fun a ha hn e=>by
  subst ha
  obtain ⟨ro,c,k1,k2,_⟩:=hs.2 hn
  rw [e,h] at k1
  simp only [Blk.cells.injEq] at k1
  rw [<-k1.2,OT] at k2
  omega
 have o:Sl G' encE 7 pe es:=Y0 hs fun a ha hn ro c hc=>s.cells hc (by
  have h1:=B a ha hn
  have h2:a.block≠M:=fun e=>by obtain ⟨ms,k1,_⟩:=hP.m;rw [e,k1] at hc;cases hc
  simp;exact ⟨h2,h1⟩)
 have la:=fun X=>(o.app X).loadCells NZ hi
 have lb:=fun X=>(o.app X).loadCells NZ u
 have xa:=fun c (k:IntKind) (H1:NE)=>o.idx (c:=c) (k:=k) (H1:=H1) hi
 have xb:=fun c (k:IntKind) (H1:NE)=>o.idx (c:=c) (k:=k) (H1:=H1) u
 have t:j<T.length:=by omega
 have l0:=fun X=>(w.app X).loadCell OT t (j:=0) (by decide)
 have l1:=fun X=>(w.app X).loadCell OT t (j:=1) (by decide)
 simp only [enc3,O7,Qy] at l0 l1
 have xj:=fun c (k:IntKind) (H1:NE)=>w.idx (c:=c) (k:=k) (H1:=H1) t
 have an:=ah j
 have w1:IntKind.i64.wrap ((j:Int)-i)=(j:Int)-i:=NT (by omega) (by omega)
 have w2:IntKind.i64.wrap ((j:Int)-i-1)=(j:Int)-i-1:=NT (by omega) (by omega)
 have w3:IntKind.i64.wrap (30*((j:Int)-i-1))=30*((j:Int)-i-1):=NT (by omega) (by omega)
 have w4:IntKind.i64.wrap ((gt T j).2.1+1)=(gt T j).2.1+1:=NT (by omega) (by omega)
 have N:=Np (show i<j from ac)
 simp only [n72,r72,U,V,W,Y,J,g8,z,N,la,lb,xa,xb,l0,l1,xj,w1,w2,w3,w4,SB,seval,NC,NJ,NG,NR,reduceCtorEq,NB,place,NA,ND]
 have ai:=NM h
 have al:=s.len
 refine Nlc (a:=gt es i) (b:=gt es j) (l.grow [.dead] (Nd _) (by simp)) (by simp;omega) (ht j u) fun G1 n D=>⟨Nj4 ?_, ?_⟩
 ·rw [Oay]
  exact (l.grow [.dead] (Nd _) (by simp)).chgk n
 have ad:=n.len
 simp at ad
 obtain ⟨G2,e2,h2,m2⟩:=OQ (show G'.length<G1.length by omega) (Vc [Vi 0,Vi 0,Vi 0])
 have eu:NW (List.length G') [0] (G'++[Vc [Vi 0,Vi 0,Vi 0]]) G1=G2++[]:=by rw [N2z,<-e2,Nb]
 rw [Nb,eu]
 generalize hp:QX P L (gt es i) (gt es j)=p
 have ag:=VK (P:=P) (L:=L) (a:=gt es i) (b:=gt es j)
 rw [hp] at ag
 have w5:IntKind.i64.wrap (p+30*((j:Int)-i-1))=p+30*((j:Int)-i-1):=NT (by omega) (by omega)
 have w6:IntKind.i64.wrap (p+30*((j:Int)-i-1)+(gt T j).1)=p+30*((j:Int)-i-1)+(gt T j).1:=NT (by omega) (by omega)
 have w7:IntKind.i64.wrap ((j:Int)-1)=(es.length:Int)-1-((m+1:Nat):Int):=by rw [NT (by omega) (by omega)];omega
 obtain ⟨G3,e3,h3,m3⟩:=OQ (NM h2) (Vc [Vi (p+30*((j:Int)-i-1)+(gt T j).1),Vi ((gt T j).2.1+1),Vi j])
 have aa:=(l.app [.dead]).chgk n _ _ _ ((OJ.refl.app).cells hB)
 have aj:=NM hB
 have r:=m3.cells (m2.cells aa (by omega)) (by omega)
 have ec:YU P L es T i j=(p+30*((j:Int)-i-1)+(gt T j).1,(gt T j).2.1+1,(j:Int)):=by unfold YU;rw [hp]
 have f:∀(X:NE) (mp:Bool) (lim:Nat) (Q:Value->NE->Prop),NL E mp lim 108 [.agg (enc3 (RS P L es T i m)).toArray,.agg #[Vi (p+30*((j:Int)-i-1)+(gt T j).1),Vi ((gt T j).2.1+1),Vi j]] X Q=Q (.bool (YF (RS P L es T i m) (YU P L es T i j))) X:=fun X mp lim Q=>by rw [ec];exact Nr6 (x:=RS P L es T i m) (y:=(p+30*((j:Int)-i-1)+(gt T j).1,(gt T j).2.1+1,(j:Int)))
 have I:RS P L es T i (m+1)=VF (RS P L es T i m) (YU P L es T i j):=by rw [RS,A]
 have X2:=fun X=>(OJ.refl.app (X:=X)).cells h2
 have X3:=fun X=>(OJ.refl.app (X:=X)).cells h3
 have XB:=fun X=>(OJ.refl.app (X:=X)).cells r
 have k1:Chg [M,B8] G G3:=((s.trans (n.pre.mono fun j _ A=>by simp at A;simp [A])).mut m2 (.inr (by have:=s.len;omega))).mut m3 (.inr (by have:=s.len;omega))
 have k2:=D.chg ((Chg.refl.mut m2 (.inl (by simp))).mut m3 (.inl (by simp)))
 have g:lim<=G'.length:=by omega
 cases hb:YF (RS P L es T i m) (YU P L es T i j) with
 | true=>
   rw [hb] at f
   rw [VF,Ni hb] at I
   simp only [n72,r72,U,V,W,Y,J,g8,z,w5,w6,w7,X2,e3,X3,XB,OT,NI,f,g,SB,seval,NC,NJ,NG,NR,reduceCtorEq,NB,place,NA,ND]
   exact hN (m+1) _ _ ⟨by omega,k1.app,k2.sub (fun q v=>by simp [v]) |>.app _,by rw [I];exact (OJ.refl.app).cells r,fun q v=>by
    rw [<-d q v]
    simp only [upd]
    repeat rw [Ng (by omega)],by rfl⟩ (by omega)
 | false=>
   rw [hb] at f
   rw [VF,Ng (by rw [hb];decide),ec] at I
   obtain ⟨G4,e4,h4,m4⟩:=OQ (NM r) (Vc [Vi (p+30*((j:Int)-i-1)+(gt T j).1),Vi ((gt T j).2.1+1),Vi j])
   simp only [n72,r72,U,V,W,Y,J,g8,z,w5,w6,w7,X2,e3,X3,XB,OT,NI,f,g,F,e4,Nvr,SB,seval,NC,NJ,NG,NR,reduceCtorEq,NB,place,NA,ND]
   exact hN (m+1) _ _ ⟨by omega,(k1.mut m4 (.inl (by simp))).app,((k2.chg (Chg.refl.mut m4 (.inl (by simp [hS])))).sub (fun q v=>by simp [v])).app _,by rw [I];exact (OJ.refl.app).cells h4,fun q v=>by
    rw [<-d q v]
    simp only [upd]
    repeat rw [Ng (by omega)],by rfl⟩ (by omega)
def Bnd (n j:Nat) (x:ZN):Prop:=0<=x.1/\x.1<=110*((n:Int)-1-j)/\0<=x.2.1/\x.2.1<=(n:Int)-j/\-1<=x.2.2/\x.2.2<n
theorem Ntr {n j:Nat} {x y:ZN} (a:Bnd n j x) (b:Bnd n j y):Bnd n j (VF x y):=by
 unfold VF
 split
 ·exact a
 ·exact b
theorem Nhj {P:List Int} {L:List Leg} {es:List Ev} {T:List ZN} {i:Nat} (c:∀j,j<es.length->Bnd es.length j (gt T j)) (hi:i<es.length):∀m,m<=es.length-1-i->Bnd es.length i (RS P L es T i m)
 | 0,_=>by
   unfold RS Bnd
   refine ⟨?_, ?_, ?_, ?_, ?_, ?_⟩<;>simp only<;>omega
 | m+1,hm=>by
   rw [RS]
   refine Ntr (Nhj c hi m (by omega)) ?_
   have h1:=c (es.length-1-m) (by omega)
   have h2:=VK (P:=P) (L:=L) (a:=gt es i) (b:=gt es (es.length-1-m))
   unfold YU Bnd at *
   refine ⟨?_, ?_, ?_, ?_, ?_, ?_⟩<;>simp only<;>omega
theorem Njv {α:Type} [Inhabited α] {l:List α} {i j:Nat} {x:α} (hi:i<l.length):gt (l.set i x) j=if i=j then x else gt l j:=by
 unfold gt
 rw [Na,N6,Na]
 split
 ·simp [hi]
 ·rfl
theorem XH {P:List Int} {L:List Leg} {es:List Ev}:∀k,k<=es.length->∀j,j<es.length->Bnd es.length j (gt (OL P L es k) j)
 | 0,_,j,hj=>by
   rw [OL,PW (by simpa using hj),List.getElem_replicate]
   unfold Bnd
   refine ⟨?_, ?_, ?_, ?_, ?_, ?_⟩<;>simp only<;>omega
 | k+1,hk,j,hj=>by
   rw [OL,Njv (by rw [Uo];omega)]
   split
   ·rename_i e
    subst e
    exact Nhj (XH k (by omega)) hj k (by omega)
   ·exact XH k (by omega) j hj
theorem Nv7 {n:Nat} {T:List ZN} (hn:n<=40) (b:T.length=n) (h:∀j,j<n->Bnd n j (gt T j)):N2m T:=fun j=>by
 by_cases a:j<n
 ·have:=h j a
  unfold Bnd at this
  omega
 ·have e:gt T j=(0,0,0):=by unfold gt;rw [Na,Nx (by omega)];rfl
  rw [e]
  refine ⟨?_, ?_, ?_, ?_⟩<;>simp only<;>omega
def Yi (n j:Nat) (x:ZN):Prop:=x.2.2=-1\/((j:Int)<x.2.2/\x.2.2<n)
theorem Neh {P:List Int} {L:List Leg} {es:List Ev} {T:List ZN} {i:Nat}:∀m,m<=es.length-1-i->Yi es.length i (RS P L es T i m)
 | 0,_=>.inl rfl
 | m+1,hm=>by
   rw [RS,VF]
   split
   ·exact Neh m (by omega)
   ·refine .inr ⟨?_, ?_⟩<;>simp only [YU]<;>omega
theorem Uw {P:List Int} {L:List Leg} {es:List Ev}:∀k,k<=es.length->∀j,es.length-k<=j->j<es.length->Yi es.length j (gt (OL P L es k) j)
 | 0,_,j,h1,h2=>by omega
 | k+1,hk,j,h1,hj=>by
   rw [OL,Njv (by rw [Uo];omega)]
   split
   ·rename_i e
    subst e
    exact Neh k (by omega)
   ·exact Uw k (by omega) j (by omega) hj
def Na3 (T:List ZN) (i:Nat):ZN:=(30*(i:Int)+(gt T i).1,(gt T i).2.1,(i:Int))
def U6 (n:Nat) (T:List ZN):Nat->ZN
 | 0=>(0,0,-1)
 | m+1=>if (U6 n T m).2.2<0 then Na3 T (n-1-m) else VF (U6 n T m) (Na3 T (n-1-m))
def PY (T:List ZN):Nat->Int->List Int
 | 0,_=>[]
 | f+1,x=>if x<0 then [] else x::PY T f (gt T x.toNat).2.2
def R5 (P:List Int) (L:List Leg) (es:List Ev):List Int:=PY (OL P L es es.length) es.length (U6 es.length (OL P L es es.length) es.length).2.2
theorem Na2 {n:Nat} {T:List ZN}:∀m,m<=n->(U6 n T m).2.2<n/\-1<=(U6 n T m).2.2
 | 0,_=>⟨by show (-1:Int)<n;omega,Oq _⟩
 | m+1,hm=>by
   have h1:(Na3 T (n-1-m)).2.2<n/\-1<=(Na3 T (n-1-m)).2.2:=by
    unfold Na3
    constructor<;>simp only<;>omega
   have h2:=Na2 (n:=n) (T:=T) m (by omega)
   rw [U6]
   unfold VF
   split
   ·exact h1
   ·split
    ·exact h2
    ·exact h1
theorem Nfu {n:Nat} {T:List ZN} (a:∀j,j<n->Yi n j (gt T j)):∀(f:Nat) (x:Int),x<n->∀k∈PY T f x,0<=k/\k<n
 | 0,_,_,k,hk=>by cases hk
 | f+1,x,hx,k,hk=>by
   rw [PY] at hk
   split at hk
   ·cases hk
   ·rename_i b
    rcases Nr.1 hk with rfl | hk
    ·exact ⟨by omega,hx⟩
    ·refine Nfu a f _ ?_ k hk
     rcases a x.toNat (by omega) with e | e
     ·rw [e];omega
     ·exact e.2
theorem Yb {T:List ZN}:∀(f:Nat) (x:Int),(PY T f x).length<=f
 | 0,_=>Nd _
 | f+1,x=>by
   rw [PY]
   split
   ·exact Nw _
   ·rw [Nm];have:=Yb (T:=T) f (gt T x.toNat).2.2;omega
theorem Nv9 {P:List Int} {L:List Leg} {es:List Ev}:∀k∈R5 P L es,0<=k/\k<es.length:=
 Nfu (fun j a=>Uw _ (Nd _) j (by omega) a) _ _ (Na2 _ (Nd _)).1
theorem Nxm (n:Nat):(List.range (n*3)).map (fun j=>[Value.int .i64 0,Value.int .i64 0,Value.int .i64 0].getD (j % 3) undef)=(List.replicate n ((0,0,0):ZN)).flatMap enc3:=by
 have h1:∀j,[Value.int .i64 0,Value.int .i64 0,Value.int .i64 0].getD (j % 3) undef=Value.int .i64 0:=fun j=>by
  have:j % 3=0\/j % 3=1\/j % 3=2:=by omega
  rcases this with e | e | e<;>rw [e]<;>rfl
 simp only [h1]
 rw [List.map_const',Pq]
 induction n with
 | zero=>rfl
 | succ n ih=>
   rw [Pc,Oy,<-ih,Pn]
   rfl
theorem tsl {T:List ZN} {n:Nat} (h:T.length=n) (p:Option Addr) (c:Nat):Value.slice p n c=Value.slice p T.length c:=by rw [h]
theorem N66 [OB] {lim R M B BT n:Nat} {S:List Nat} {pp pl pe:Option Addr} {P:List Int} {L:List Leg} {cp cl ce ct:Nat} {T:List ZN} {G:NE} {fr:Nat->Value} {K:List AItem} {Z:Value->NE->Prop} (p:lim<=B) (ab:n<=40) (hT:T.length=n) (W:∀j,j<n->Bnd n j (gt T j))
  (hP:PI lim R M S G pp pl cp cl P L) (hS:B∈S) (aa:BT≠B) (O:NH G BT=Vc (T.flatMap enc3)) (hB:NH G B=Vc (enc3 (U6 n T 0)))
  (f1:fr 1=.slice pe n ce) (f5:fr 5=.slice (Sa BT) T.length ct) (f6:fr 6=.func (.func 108) #[] #[]) (f12:fr 12=Vp B) (f13:fr 13=Vi ((n:Int)-1))
  (hR:∀fr' G',Chg [B] G G'->PI lim R M S G' pp pl cp cl P L->NH G' B=Vc (enc3 (U6 n T n))->(∀j,j<=12->fr' j=fr j)->PV E a72 lim K fr' G' Z) :
  PV E a72 lim (.code (.loop N0e)::.inBlock 4::K) fr G Z:=by
 refine NP (fun m=>n-m) (fun m fr' G'=>m<=n/\Chg [B] G G'/\PI lim R M S G' pp pl cp cl P L/\NH G' B=Vc (enc3 (U6 n T m))/\(∀j,j<=12->fr' j=fr j)/\fr' 13=Vi ((n:Int)-1-m)) 0
  ⟨Nw _,Chg.refl,hP,hB,fun j _=>rfl,by rw [f13];simp⟩ ?_
 intro m fr' G' ⟨hm,w,q,l,o,g⟩ V
 rw [NU N0e.eq_1]
 have J:=(o 5 (by decide)).trans f5
 have N:=(o 6 (by decide)).trans f6
 have s:=(o 12 (by decide)).trans f12
 refine NK ?_
 by_cases ac:m<n
 case neg=>
  obtain rfl:m=n:=by omega
  have I:(m:Int)-1-(m:Int)=-1:=by omega
  rw [I] at g
  simp only [n72,r72,g,SB,seval,NC,NJ,NG,NR,reduceCtorEq,NB,place,NA,ND]
  exact hR _ _ w.app (q.app _) ((OJ.refl.app).cells l) fun j u=>by
   rw [<-o j u]
   simp only [upd]
   repeat rw [Ng (by omega)]
 generalize hi:n-1-m=i
 have I:(n:Int)-1-(m:Int)=(i:Int):=by omega
 rw [I] at g
 have Y:i<n:=by omega
 have t:i<T.length:=by omega
 have v:Sl G' enc3 3 (Sa BT) T:=Sl.row (ro:=false) OT (w.cells O (by simp;exact aa))
 have C:=fun X=>(v.app X).loadCell OT t (j:=0) (by decide)
 have D:=fun X=>(v.app X).loadCell OT t (j:=1) (by decide)
 simp only [enc3,O7,Qy] at C D
 have xj:=fun c (k:IntKind) (H1:NE)=>v.idx (c:=c) (k:=k) (H1:=H1) t
 have z:=W i Y
 unfold Bnd at z
 have w1:IntKind.i64.wrap (30*(i:Int))=30*(i:Int):=NT (by omega) (by omega)
 have w2:IntKind.i64.wrap (30*(i:Int)+(gt T i).1)=30*(i:Int)+(gt T i).1:=NT (by omega) (by omega)
 have w3:IntKind.i64.wrap ((i:Int)-1)=(n:Int)-1-((m+1:Nat):Int):=by rw [NT (by omega) (by omega)];omega
 have i0:=N9 (show (0:Int)<=(i:Int) by omega)
 have e:lim<=G'.length:=by have:=w.len;have:=NM hB;omega
 have U:=NM l
 have r:U6 n T (m+1)=if (U6 n T m).2.2<0 then Na3 T i else VF (U6 n T m) (Na3 T i):=by rw [U6,hi]
 generalize hx:U6 n T m=x at r
 rw [hx] at l
 have A:=l
 simp only [enc3] at A
 have H:=fun X=>(OJ.refl.app (X:=X)).cells A
 have b:∀(X:NE) (mp:Bool) (lim:Nat) (Q:Value->NE->Prop),NL E mp lim 108 [.agg #[Vi x.1,Vi x.2.1,Vi x.2.2],.agg #[Vi (30*(i:Int)+(gt T i).1),Vi (gt T i).2.1,Vi i]] X Q=Q (.bool (YF x (Na3 T i))) X:=fun X mp lim Q=>Nr6 (x:=x) (y:=Na3 T i)
 obtain ⟨G3,e3,h3,F⟩:=OQ U (Vc [Vi (30*(i:Int)+(gt T i).1),Vi (gt T i).2.1,Vi i])
 have a:∀(f:Nat->Value),(∀j,j<=12->f j=fr' j)->∀j,j<=12->f j=fr j:=fun f h j u=>(h j u).trans (o j u)
 by_cases d:x.2.2<0
 ·rw [Ni d] at r
  simp only [n72,r72,J,N,s,g,C,D,xj,w1,w2,w3,i0,e,H,N9 d,p,e3,SB,seval,NC,NJ,NG,NR,reduceCtorEq,NB,place,NA,ND]
  exact V (m+1) _ _ ⟨by omega,(w.mut F (.inl (by simp))).app,(q.chg (Chg.refl.mut F (.inl hS))).app _,by rw [r];exact (OJ.refl.app).cells h3,a _ (fun j u=>by
   simp only [upd]
   repeat rw [Ng (by omega)]),by rfl⟩ (by omega)
 rw [Ng d] at r
 cases z:YF x (Na3 T i) with
 | true=>
   rw [z] at b
   rw [VF,Ni z] at r
   simp only [n72,r72,J,N,s,g,C,D,xj,w1,w2,w3,i0,e,H,Nq d,p,b,SB,seval,NC,NJ,NG,NR,reduceCtorEq,NB,place,NA,ND]
   exact V (m+1) _ _ ⟨by omega,w.app,q.app _,by rw [r];exact (OJ.refl.app).cells l,a _ (fun j u=>by
    simp only [upd]
    repeat rw [Ng (by omega)]),by rfl⟩ (by omega)
 | false=>
   rw [z] at b
   rw [VF,Ng (by rw [z];decide)] at r
   simp only [n72,r72,J,N,s,g,C,D,xj,w1,w2,w3,i0,e,H,Nq d,p,b,e3,SB,seval,NC,NJ,NG,NR,reduceCtorEq,NB,place,NA,ND]
   exact V (m+1) _ _ ⟨by omega,(w.mut F (.inl (by simp))).app,(q.chg (Chg.refl.mut F (.inl hS))).app _,by rw [r];exact (OJ.refl.app).cells h3,a _ (fun j u=>by
    simp only [upd]
    repeat rw [Ng (by omega)]),by rfl⟩ (by omega)
theorem N5f [OB] {lim R M:Nat} {pp pl pe:Option Addr} {P:List Int} {L:List Leg} {cp cl ce:Nat} {es:List Ev} {H:NE} {Q:Value->NE->Prop} (h:PI lim R M [] H pp pl cp cl P L) (ad:lim<=H.length)
  (hs:Sl H encE 7 pe es) (O:es.length<=40) (ht:∀i,i<es.length->0<=(gt es i).time/\(gt es i).time<=OA)
  (hQ:∀G q cq,Chg [M] H G->PI lim R M [] G pp pl cp cl P L->Own H.length G encI 1 q cq (R5 P L es)->Q (.slice q (R5 P L es).length cq) G) :
  NL E false lim 72 [Vp R,.slice pe es.length ce] H Q:=by
 refine RG (by decide) e72 rfl ?_
 rw [b72,c72]
 have w1:IntKind.i64.wrap ((es.length:Int)-1)=(es.length:Int)-1:=NT (by omega) (by omega)
 have z3:=Nxm es.length
 have ay:=h.alive
 have ap:=N9 (show 0<=(es.length:Int)/\(es.length:Int)*24<=2 ^ 45/\(es.length:Int)<2 ^ 62 by omega)
 simp only [n72,r72,w1,ap,z3,SB,Nat.reduceLT,NC,NJ,Nat.reduceEqDiff,NG,NR,reduceCtorEq,NB,place,NA,Nat.reduceAdd,Nat.reduceLeDiff,ND,Int.reduceEq,Int.reduceLT,Int.reduceLE]
 refine NP (fun k=>es.length-k) (fun k fr G=>k<=es.length/\fr 0=Vp R/\fr 1=.slice pe es.length ce/\fr 5=.slice (Sa H.length) es.length es.length/\fr 6=.func (.func 108) #[] #[]/\fr 7=Vi ((es.length:Int)-1-k)/\Chg [M] H G/\PI lim R M [H.length] G pp pl cp cl P L/\NH G H.length=Vc ((OL P L es k).flatMap enc3)) 0
  ⟨Nw _,rfl,rfl,rfl,rfl,by rw [show ((es.length:Int)-1-((0:Nat):Int))=(es.length:Int)-1 by omega];rfl,Chg.refl.app,h.grow _ (Nd _) (by simp),by rw [NV];rfl⟩ ?_
 ·intro k fr G ⟨hk,g0,Z,w,g6,Y,J,y,F⟩ hN
  rw [NU N6d.eq_1]
  refine NK ?_
  by_cases az:k<es.length
  case neg=>
   obtain rfl:k=es.length:=by omega
   have e7:(es.length:Int)-1-(es.length:Int)=-1:=by omega
   rw [e7] at Y
   have d:lim<=G.length:=by have:=J.len;omega
   simp only [n72,r72,g0,Z,w,g6,Y,w1,d,SB,seval,NC,NJ,NG,NR,reduceCtorEq,NB,place,NA,ND]
   have o:=Uo (P:=P) (L:=L) (es:=es) es.length
   have al:=XH (P:=P) (L:=L) (es:=es) es.length (Nd _)
   have aj:=NM F
   rw [tsl o] at w
   refine N66 (B:=G.length) (BT:=H.length) (n:=es.length) (T:=OL P L es es.length) (R:=R) (M:=M) (S:=[G.length,H.length]) (P:=P) (L:=L) (pp:=pp) (pl:=pl) (cp:=cp) (cl:=cl) (pe:=pe) (ce:=ce) (ct:=es.length) d O o (fun j D=>al j D) (y.grow _ (Nd _) (by simp)) (by simp) (by omega) ((OJ.refl.app).cells F) (by rw [NV];rfl) Z w g6 rfl rfl fun fr' G1 u A z t=>?_
   have q5:fr' 5=.slice (Sa H.length) (OL P L es es.length).length es.length:=(t 5 (by decide)).trans w
   have aw:fr' 12=Vp G.length:=(t 12 (by decide)).trans rfl
   have V:=u.len
   simp at V
   have I:=u.cells ((OJ.refl.app).cells F) (by simp;omega)
   simp only [enc3] at z
   have XB:=fun X=>(OJ.refl.app (X:=X)).cells z
   have av:=Na2 (n:=es.length) (T:=OL P L es es.length) es.length (Nd _)
   have ai:Chg [M] H G1:=(J.app (X:=[Vc [Vi 0,Vi 0,Vi (-1)]])).trans' u fun j D am=>by simp at D;omega
   refine NK ?_
   simp only [n72,r72,q5,aw,XB,SB,seval,NC,NJ,NG,NR,reduceCtorEq,NB,place,NA,ND]
   refine NP (fun s:Nat×Int×List Int×Option Addr×Nat=>s.1) (fun s fr G=>fr 5=.slice (Sa H.length) (OL P L es es.length).length es.length/\fr 16=Vi s.2.1/\fr 15=.slice s.2.2.2.1 s.2.2.1.length s.2.2.2.2/\Chg [M] H G/\PI lim R M (opB s.2.2.2.1++[H.length]) G pp pl cp cl P L/\NH G H.length=Vc ((OL P L es es.length).flatMap enc3)/\Own (H.length+1) G encI 1 s.2.2.2.1 s.2.2.2.2 s.2.2.1/\
     s.2.2.1++PY (OL P L es es.length) s.1 s.2.1=R5 P L es/\s.2.1<es.length/\(s.2.1<0\/(es.length:Int)-s.2.1<=s.1)/\s.2.2.1.length+s.1=es.length) (es.length,(U6 es.length (OL P L es es.length) es.length).2.2,[],none,0)
    ⟨q5,rfl,by rfl,ai.app,(A.sub (fun q v=>by simp [opB] at v;simp [v])).app _,(OJ.refl.app).cells I,.nil,rfl,av.1,by simp only;omega,by simp⟩ ?_
   rintro ⟨f,x,l,pw,cw⟩ fr G ⟨w,N,K,J,y,F,hO,C,hx,hf,ao⟩ hN
   simp only at w N K y hO C hx hf ao
   rw [NU N6e.eq_1]
   refine NK ?_
   by_cases W:0<=x
   case neg=>
    have e:PY (OL P L es es.length) f x=[]:=by
     cases f with
     | zero=>rfl
     | succ f=>rw [PY,Ni (by omega)]
    rw [e,Nb] at C
    subst C
    simp only [n72,r72,w,N,K,Nq W,SB,seval,NC,NJ,NG,NR,reduceCtorEq,NB,place,NA,ND]
    exact hQ _ _ _ J.app ((y.sub (fun q v=>by cases v)).app _) ((hO.le (by omega)).app _)
   obtain ⟨j,rfl⟩:=Int.eq_ofNat_of_zero_le W
   obtain ⟨f,rfl⟩:∃g,f=g+1:=⟨f-1,by omega⟩
   rw [PY,Ng (by omega),Od] at C
   have ab:j<(OL P L es es.length).length:=by omega
   have aq:=Uw (P:=P) (L:=L) (es:=es) es.length (Nd _) j (by omega) (by omega)
   have ax:=NM F
   obtain ⟨G4,e4,O4,C4,ac⟩:=Own.moreF hO (lim':=lim) (bytes:=8) (by omega) Sj (by decide) [(j:Int)] (by simp) (by simp;unfold PU;omega) (by simp;omega) [Vc [Vi j]] (x:=.slice (Sa G.length) 1 1) (str:=false)
    (WL (m:=[(j:Int)]) (Sl.row (ro:=false) Sj (by rw [NV];rfl))) rfl
   have ae:∀j,j∈opB pw->H.length+1<=j/\j<G.length:=fun j D=>by
    cases hpe:pw with
    | none=>rw [hpe] at D;cases D
    | some a=>rw [hpe] at D;have:=hO.block hpe;simp [opB] at D;omega
   generalize ar:(G++[Vc [Vi j]]).length=r at e4 O4 ac
   have au:G.length<=r:=by rw [<-ar];simp
   generalize loose 1=c' at e4 O4
   simp only [Nm,Ns,Oc] at e4
   have aa:=C4.cells F fun hm=>by have:=ae _ hm;omega
   have ag:=Sl.row (R:=H.length) (ro:=false) OT aa
   have l2:=fun X=>(ag.app X).loadCell OT ab (j:=2) (by decide)
   simp only [enc3,O7,Qy] at l2
   have xj:=fun c (k:IntKind) (H1:NE)=>ag.idx (c:=c) (k:=k) (H1:=H1) ab
   simp only [n72,r72,w,N,K,e4,l2,xj,N9 W,SB,seval,NC,NJ,NG,NR,reduceCtorEq,NB,place,NA,ND]
   have k1:=(y.growC (b:=r) (G':=G4) (C4.mono fun q _ v=>Ol _ v) au ac).sub (S':=opB (Sa r)++[H.length]) fun q v=>by
    simp [opB] at v
    rcases v with e | e
    ·simp [e]
    ·simp [e]
   have ah:(gt (OL P L es es.length) j).2.2<es.length/\((gt (OL P L es es.length) j).2.2<0\/(es.length:Int)-(gt (OL P L es es.length) j).2.2<=(f:Int)):=by
    rcases aq with e | e
    ·exact ⟨by omega,.inl (by omega)⟩
    ·exact ⟨e.2,.inr (by omega)⟩
   exact hN (f,(gt (OL P L es es.length) j).2.2,l++[(j:Int)],Sa r,c') _ _ ⟨w,by rfl,by show _=Value.slice _ (l++[(j:Int)]).length _;rw [Nl];rfl,
    (J.trans' C4 fun q v a0=>by have:=ae q v;omega).app,k1.app _,(OJ.refl.app).cells aa,(O4.le (by omega)).app _,by rw [No];exact C,ah.1,ah.2,by simp only [Nl,Qz];omega⟩ (by show f<f+1;omega)
  generalize hi:es.length-1-k=i
  have e7:(es.length:Int)-1-(k:Int)=(i:Int):=by omega
  rw [e7] at Y
  have U:i<es.length:=by omega
  have w2:IntKind.i64.wrap ((es.length:Int)-1-i)=(es.length:Int)-1-i:=NT (by omega) (by omega)
  have w3:IntKind.i64.wrap (30*((es.length:Int)-1-i))=30*((es.length:Int)-1-i):=NT (by omega) (by omega)
  have w4:IntKind.i64.wrap ((i:Int)-1)=(es.length:Int)-1-((k+1:Nat):Int):=by rw [NT (by omega) (by omega)];omega
  have d:lim<=G.length:=by have:=J.len;omega
  have i0:=N9 (show (0:Int)<=(i:Int) by omega)
  have o:=Uo (P:=P) (L:=L) (es:=es) k
  have aj:=NM F
  simp only [n72,r72,g0,Z,w,g6,Y,w1,w2,w3,d,i0,SB,seval,NC,NJ,NG,NR,reduceCtorEq,NB,place,NA,ND]
  rw [tsl o] at w
  refine N00 (B8:=G.length) (BT:=H.length) (S:=[G.length,H.length]) (i:=i) (T:=OL P L es k) (P:=P) (L:=L) (R:=R) (M:=M) (pp:=pp) (pl:=pl) (cp:=cp) (cl:=cl) (es:=es) (pe:=pe) (ce:=ce) (ct:=es.length) U d (by simp) (by simp) O ht o (Nv7 O o (XH k (by omega)))
   (y.grow _ (Nd _) (by simp)) (((hs.sim (h.chgk J))).app _) ((OJ.refl.app).cells F) (by rw [NV];rfl) g0 Z w g6 Y rfl rfl fun fr' G1 u A z t=>?_
  have q0:fr' 0=Vp R:=(t 0 (by decide)).trans g0
  have q1:fr' 1=.slice pe es.length ce:=(t 1 (by decide)).trans Z
  have q5:fr' 5=.slice (Sa H.length) (OL P L es k).length es.length:=(t 5 (by decide)).trans w
  have q6:fr' 6=.func (.func 108) #[] #[]:=(t 6 (by decide)).trans g6
  have q7:fr' 7=Vi i:=(t 7 (by decide)).trans Y
  have q8:fr' 8=Vp G.length:=(t 8 (by decide)).trans rfl
  have an:es.length-1-i=k:=by omega
  rw [an] at z
  have ak:H.length∉[M,G.length]:=by simp;omega
  have I:=u.cells ((OJ.refl.app).cells F) ak
  obtain ⟨G2,e2,h2,m2⟩:=Na5 (lim:=lim) (p:=Sa H.length) OT rfl I ad (i:=i) (by rw [o];exact U) (RS P L es (OL P L es k) i k)
  have xT:=fun c (kk:IntKind) (H1:NE)=>(Sl.row (R:=H.length) (ro:=false) OT I).idx (c:=c) (k:=kk) (H1:=H1) (i:=i) (by rw [o];exact U)
  have XB:=fun X=>(OJ.refl.app (X:=X)).cells z
  have et:OL P L es (k+1)=(OL P L es k).set i (RS P L es (OL P L es k) i k):=by rw [OL,hi]
  refine NK ?_
  simp only [n72,r72,q0,q1,q5,q6,q7,q8,XB,OT,NI,e2,xT,w4,SB,seval,NC,NJ,NG,NR,reduceCtorEq,NB,place,NA,ND]
  have V:=u.len
  simp at V
  exact hN (k+1) _ _ ⟨by omega,q0,q1,(by simp only [q5,o,FB,Nat.reduceEqDiff]),q6,rfl,(((J.app (X:=[Vc (enc3 (RS P L es (OL P L es k) i 0))])).trans' u fun j D am=>by simp at D;simp;omega).mut m2 (.inr (by omega))).app,((A.chg (Chg.refl.mut m2 (.inl (by simp)))).sub (fun q v=>by simp at v;simp [v])).app _,by rw [et];exact (OJ.refl.app).cells h2⟩ (by omega)
theorem N5x [OB] {lim:Nat} {pp pl pe:Option Addr} {P:List Int} {L:List Leg} {cp cl ce:Nat} {es:List Ev} {H:NE} {Q:Value->NE->Prop} (hn:NetIn H pp pl P L) (d:lim<=H.length)
  (hs:Sl H encE 7 pe es) (U:es.length<2 ^ 62)
  (t:∀G,WX P L es≠0->Chg [] H G->Q (.tuple #[.agg #[Vz,Vz,Vi 0],Vi (WX P L es)]) G)
  (z:∀G q cq r cr,WX P L es=0->Chg [] H G->Wu H.length G encI 1 q (R5 P L es)->Wu H.length G enc3 3 r (QU P L es (R5 P L es))->Q (.tuple #[.agg #[.slice q (R5 P L es).length cq,.slice r (QU P L es (R5 P L es)).length cr,Vi (Td P L es (R5 P L es))],Vi 0]) G) :
  NL E false lim 37 [.agg (Tu pp P.length cp pl L.length cl).toArray,.slice pe es.length ce] H Q:=by
 refine RG (by decide) e37 rfl ?_
 rw [b37,c37]
 have c:=fun X (mp:Bool) (lim:Nat) (Q:Value->NE->Prop)=>N12 (mp:=mp) (lim:=lim) (cp:=cp) (cl:=cl) (ce:=ce) (Q:=Q) (hn.app X) (hs.app X) (by omega)
 by_cases l:WX P L es=0
 case neg=>
  simp only [n37,r37,PS,Sv,Su,NI,c,Nq l,d,SB,seval,NC,NJ,NG,NR,reduceCtorEq,NB,place,NA,ND]
  exact t _ l Chg.refl.app
 obtain ⟨V,m,hev⟩:=Nql l
 have I:=fun i (hi:i<es.length)=>And.intro (hev i hi).2.1 (hev i hi).2.2.1
 simp only [n37,r37,PS,Sv,Su,NI,c,N9 l,d,SB,seval,NC,NJ,NG,NR,reduceCtorEq,NB,place,NA,ND]
 refine Njh (lim:=lim) (hn.app _) (by simp;omega) fun G1 R M f S O p=>?_
 have x:=f.len
 simp at x S O
 have b:OJ H G1:=(OJ.refl.app).trans f
 have W:NH G1 (H.length+1)=Vc [Vz,Vz,Vi 0]:=f.cells (by rw [OC];rfl)
 refine NK ?_
 simp only [n37,r37,SB,seval,NC,NJ,NG,NR,reduceCtorEq,NB,place,NA,ND]
 refine N5f (p.app _) (by simp;omega) ((b.sl hs).app _) m I fun G2 q cq e s o=>?_
 have y:=e.len
 simp at y
 have D:Chg [M] H G2:=((OJ.chg (A:=[M]) b).trans e.pre)
 have a:=e.pre
 refine NK ?_
 simp only [n37,r37,SB,seval,NC,NJ,NG,NR,reduceCtorEq,NB,place,NA,ND]
 refine N3m (s.app _) (by simp;omega) (((b.sl hs).sim (p.chgk a)).app _) m I ((o.sl Sj).app _) (by have:=Yb (T:=OL P L es es.length) es.length (U6 es.length (OL P L es es.length) es.length).2.2;unfold R5;omega) (fun B=>by
  rcases o with ⟨_,_,k⟩ | ⟨R,k,_⟩
  ·exact k
  ·rw [B] at k;cases k) Nv9 fun G3 J h r cr n F B hr=>?_
 have u:=n.cells ((OJ.refl.app (X:=[])).cells (a.cells W (by simp;omega))) (by simp;omega)
 obtain ⟨G4,K,N,C⟩:=OQ (NM u) (Vc [.slice J (R5 P L es).length h,.slice r (QU P L es (R5 P L es)).length cr,Vi (Td P L es (R5 P L es))])
 have Y:=fun X=>(OJ.refl.app (X:=X)).cells u
 have Z:=fun X=>(OJ.refl.app (X:=X)).cells N
 have g:lim<=H.length+1:=by omega
 refine NK ?_
 simp only [n37,r37,Y,K,Z,g,SB,seval,NC,NJ,NG,NR,reduceCtorEq,NB,place,NA,ND]
 exact z _ J h r cr l ((((OJ.chg (A:=[]) b).trans' a fun j v w=>by simp at v;omega).trans' n.pre fun j v w=>by simp at v;omega).mut C (.inr (by omega))).app (((B.mut C (by simp;omega)).le (by simp;omega)).app _) (((hr.mut C (by simp;omega)).le (by simp;omega)).app _)
def ZR:List Int->List Int->Prop
 | [],_=>True
 | _::_,[]=>False
 | x::l,y::m=>x<y\/(x=y/\ZR l m)
theorem ZR.refl:∀l,ZR l l
 | []=>trivial
 | x::l=>.inr ⟨rfl,ZR.refl l⟩
theorem ZR.trans:∀{a b c:List Int},ZR a b->ZR b c->ZR a c
 | [],_,_,_,_=>trivial
 | x::a,[],c,h,_=>by cases h
 | x::a,y::b,[],_,h=>by cases h
 | x::a,y::b,z::c,h1,h2=>by
   rcases h1 with h1 | ⟨rfl,h1⟩
   ·rcases h2 with h2 | ⟨rfl,h2⟩
    ·exact .inl (by omega)
    ·exact .inl h1
   ·rcases h2 with h2 | ⟨rfl,h2⟩
    ·exact .inl h2
    ·exact .inr ⟨rfl,h1.trans h2⟩
def BE (c k:Int) (l:List Int) (a k':Int) (b:List Int):Prop:=c<a\/(c=a/\(k'<k\/(k=k'/\ZR l b)))
theorem BE.refl {c k:Int} {l:List Int}:BE c k l c k l:=.inr ⟨rfl,.inr ⟨rfl,ZR.refl l⟩⟩
theorem BE.trans {a b c x y z:Int} {l m r:List Int} (h1:BE a x l b y m) (h2:BE b y m c z r):BE a x l c z r:=by
 rcases h1 with h1 | ⟨rfl,h1⟩
 ·rcases h2 with h2 | ⟨rfl,h2⟩
  ·exact .inl (by omega)
  ·exact .inl h1
 ·rcases h2 with h2 | ⟨rfl,h2⟩
  ·exact .inl h2
  ·refine .inr ⟨rfl, ?_⟩
   rcases h1 with h1 | ⟨rfl,h1⟩
   ·rcases h2 with h2 | ⟨rfl,h2⟩
    ·exact .inl (by omega)
    ·exact .inl h1
   ·rcases h2 with h2 | ⟨rfl,h2⟩
    ·exact .inl h2
    ·exact .inr ⟨rfl,h1.trans h2⟩
theorem BE.lift {c k a k' d i:Int} {l b:List Int} (h:BE c k l a k' b):BE (d+c) (k+1) (i::l) (d+a) (k'+1) (i::b):=by
 rcases h with h | ⟨rfl,h | ⟨rfl,h⟩⟩
 ·exact .inl (by omega)
 ·exact .inr ⟨rfl,.inl (by omega)⟩
 ·exact .inr ⟨rfl,.inr ⟨rfl,.inr ⟨rfl,h⟩⟩⟩
section
variable {P:List Int} {L:List Leg} {es:List Ev}
def rcI (P:List Int) (L:List Leg) (es:List Ev):List Int->Int
 | []=>0
 | [i]=>30*((es.length:Int)-1-i)
 | i::j::l=>QX P L (gt es i.toNat) (gt es j.toNat)+30*(j-i-1)+rcI P L es (j::l)
def Asc (n:Nat):List Int->Prop
 | []=>True
 | [i]=>0<=i/\i<n
 | i::j::l=>0<=i/\i<j/\Asc n (j::l)
theorem Asc.head {n:Nat}:∀{i:Int} {l:List Int},Asc n (i::l)->0<=i/\i<n
 | i,[],h=>h
 | i,j::l,h=>⟨h.1,by have:=h.2.2.head;have:=h.2.1;omega⟩
theorem Nb8 {T a:List ZN} {i:Nat}:∀m,m<=es.length->(∀j,es.length-m<=j->j<es.length->gt T j=gt a j)->RS P L es T i m=RS P L es a i m
 | 0,_,_=>rfl
 | m+1,hm,h=>by
   rw [RS,RS,Nb8 m (by omega) fun j h1 h2=>h j (by omega) h2]
   unfold YU
   rw [h _ (by omega) (by omega)]
theorem Yy:∀d k,k+d<=es.length->∀j,es.length-k<=j->j<es.length->gt (OL P L es (k+d)) j=gt (OL P L es k) j
 | 0,k,_,j,_,_=>rfl
 | d+1,k,h,j,h1,h2=>by
   rw [<-Pe,OL,Njv (by rw [Uo];omega),Ng (by omega)]
   exact Yy d k (by omega) j h1 h2
theorem Ns7 {i:Nat} (hi:i<es.length):gt (OL P L es es.length) i=RS P L es (OL P L es es.length) i (es.length-1-i):=by
 obtain ⟨k,hk⟩:∃k,es.length-1-i=k:=⟨_,rfl⟩
 have h1:=Yy (P:=P) (L:=L) (es:=es) (es.length-(k+1)) (k+1) (by omega) i (by omega) hi
 rw [show k+1+(es.length-(k+1))=es.length by omega] at h1
 rw [h1,OL,Njv (by rw [Uo];omega),Ni (by omega),hk,show es.length-1-k=i by omega]
 refine Nb8 k (by omega) fun j h2 b=>?_
 have a:=Yy (P:=P) (L:=L) (es:=es) (es.length-k) k (by omega) j h2 b
 rw [show k+(es.length-k)=es.length by omega] at a
 exact a.symm
variable {F:List ZN} {n:Nat}
theorem Nft (a:∀j,j<n->Yi n j (gt F j)):∀(f:Nat) (x:Int),(x<0\/(x<n/\(n:Int)-x<=f))->PY F (f+1) x=PY F f x
 | 0,x,h=>by
   have e:PY F (0+1) x=if x<0 then [] else x::PY F 0 (gt F x.toNat).2.2:=rfl
   rw [e,Ni (by omega)]
   rfl
 | f+1,x,h=>by
   have e:PY F (f+1+1) x=if x<0 then [] else x::PY F (f+1) (gt F x.toNat).2.2:=rfl
   have b:PY F (f+1) x=if x<0 then [] else x::PY F f (gt F x.toNat).2.2:=rfl
   rw [e,b]
   split
   ·rfl
   ·rename_i c
    congr 1
    refine Nft a f _ ?_
    rcases a x.toNat (by omega) with e | e
    ·exact .inl (by omega)
    ·exact .inr ⟨e.2,by omega⟩
theorem Nig {x:Int} {f:Nat} (a:x<0):PY F f x=[]:=by
 cases f with
 | zero=>rfl
 | succ f=>rw [PY,Ni a]
theorem Vg (a:∀j,j<n->Yi n j (gt F j)) {i:Nat} (hi:i<n):PY F n (i:Int)=(i:Int)::PY F n (gt F i).2.2:=by
 obtain ⟨m,rfl⟩:∃m,n=m+1:=⟨n-1,by omega⟩
 rw [PY,Ng (by omega),Od,Nft a m]
 rcases a i hi with e | e
 ·exact .inl (by omega)
 ·exact .inr ⟨e.2,by omega⟩
structure RestOk (P:List Int) (L:List Leg) (es:List Ev) (x:ZN) (l:List Int):Prop where
 cost:x.1=rcI P L es l
 count:x.2.1=l.length
 asc:Asc es.length l
theorem Nk3 (w:∀j,j<es.length->Yi es.length j (gt F j)) {i:Nat} (hi:i<es.length)
  (ih:∀j,i<j->j<es.length->RestOk P L es (gt F j) (PY F es.length j)/\∀l,Asc es.length ((j:Int)::l)->BE (gt F j).1 (gt F j).2.1 (PY F es.length j) (rcI P L es (j::l)) ((j::l:List Int).length:Int) (j::l)) :
  ∀m,m<=es.length-1-i->RestOk P L es (RS P L es F i m) (i::PY F es.length (RS P L es F i m).2.2)/\((RS P L es F i m).2.2=-1\/((es.length:Int)-m<=(RS P L es F i m).2.2/\(RS P L es F i m).2.2<es.length))/\
   ∀l,Asc es.length ((i:Int)::l)->(∀j r,l=j::r->(es.length:Int)-m<=j)->BE (RS P L es F i m).1 (RS P L es F i m).2.1 (i::PY F es.length (RS P L es F i m).2.2) (rcI P L es (i::l)) ((i::l:List Int).length:Int) (i::l)
 | 0,_=>by
   have e:PY F es.length (-1)=[]:=Nig (by omega)
   refine ⟨⟨?_, ?_, ?_⟩,.inl rfl,fun l k hl=>?_⟩
   ·show _=rcI P L es (i::PY F es.length (-1));rw [e];rfl
   ·show _=((i::PY F es.length (-1):List Int).length:Int);rw [e];rfl
   ·show Asc _ (i::PY F es.length (-1));rw [e];exact ⟨by omega,by omega⟩
   ·cases l with
    | nil=>show BE _ _ (i::PY F es.length (-1)) _ _ _;rw [e];exact BE.refl
    | cons j r=>
      have h1:=hl j r rfl
      have h2:=(k.2.2).head
      omega
 | m+1,hm=>by
   obtain ⟨⟨z,u,A⟩,s,f⟩:=Nk3 w hi ih m (by omega)
   generalize H:es.length-1-m=j
   have p:j<es.length:=by omega
   obtain ⟨⟨E,v,B⟩,hd⟩:=ih j (by omega) p
   have g:=Vg (F:=F) w p
   have G:RS P L es F i (m+1)=VF (RS P L es F i m) (YU P L es F i j):=by rw [RS,H]
   rw [G]
   generalize M:RS P L es F i m=x at z u A s f
   generalize hr:YU P L es F i j=r
   have C:r.1=QX P L (gt es i) (gt es j)+30*((j:Int)-i-1)+(gt F j).1:=by rw [<-hr];rfl
   have r2:r.2.1=(gt F j).2.1+1:=by rw [<-hr];rfl
   have J:r.2.2=(j:Int):=by rw [<-hr];rfl
   have D:∀l,Asc es.length ((i:Int)::(j:Int)::l)->BE r.1 r.2.1 (i::PY F es.length j) (rcI P L es (i::j::l)) ((i::j::l:List Int).length:Int) (i::j::l):=fun l hl=>by
    have:=(hd l hl.2.2).lift (d:=QX P L (gt es i) (gt es j)+30*((j:Int)-i-1)) (i:=(i:Int))
    rw [C,r2]
    exact this
   unfold VF
   split
   ·rename_i c
    unfold YF at c
    rw [N1] at c
    refine ⟨⟨z,u,A⟩,by omega,fun l k hl=>?_⟩
    cases l with
    | nil=>exact f [] k (fun j r h=>by cases h)
    | cons a t=>
      by_cases n:a=(j:Int)
      ·subst n
       have h1:=D t k
       refine BE.trans (b:=r.1) (y:=r.2.1) (m:=i::PY F es.length j) ?_ h1
       rcases c with h | ⟨h,h'⟩
       ·exact .inl h
       ·exact .inr ⟨h,.inl h'⟩
      ·refine f _ k fun a' K e=>?_
       have h1:=hl a t rfl
       cases e
       omega
   ·rename_i c
    unfold YF at c
    rw [N1] at c
    rw [J]
    refine ⟨⟨?_, ?_, ?_⟩,.inr ⟨by omega,by omega⟩,fun l k hl=>?_⟩
    ·rw [C,E,g];rfl
    ·rw [r2,v];simp
    ·rw [g];rw [g] at B;exact ⟨by omega,by omega,B⟩
    ·have o:BE r.1 r.2.1 (i::PY F es.length j) x.1 x.2.1 (i::PY F es.length x.2.2):=by
      rcases Q4 r.1 x.1 with h | h | h
      ·exact .inl h
      ·refine .inr ⟨h, ?_⟩
       rcases Q4 x.2.1 r.2.1 with h' | h' | h'
       ·exact .inl h'
       ·refine .inr ⟨h'.symm,.inr ⟨rfl, ?_⟩⟩
        rcases s with e | ⟨e1,e2⟩
        ·exfalso
         rw [e,Nig (by omega)] at u
         rw [g] at v
         simp at u v
         omega
        ·obtain ⟨q,I⟩:=Int.eq_ofNat_of_zero_le (show 0<=x.2.2 by omega)
         rw [I,g,Vg (F:=F) w (show q<es.length by omega)]
         exact .inl (by omega)
       ·exact absurd (.inr ⟨h.symm,h'⟩) c
      ·exact absurd (.inl h) c
     cases l with
     | nil=>exact o.trans (f [] k (fun j r h=>by cases h))
     | cons a t=>
       by_cases n:a=(j:Int)
       ·subst n
        exact D t k
       ·refine o.trans (f _ k fun a' K e=>?_)
        have h1:=hl a t rfl
        cases e
        omega
end
section
variable {P:List Int} {L:List Leg} {es:List Ev}
theorem Nbc:∀(k i:Nat),es.length-i<=k->i<es.length->RestOk P L es (gt (OL P L es es.length) i) (PY (OL P L es es.length) es.length i)/\
  ∀l,Asc es.length ((i:Int)::l)->BE (gt (OL P L es es.length) i).1 (gt (OL P L es es.length) i).2.1 (PY (OL P L es es.length) es.length i) (rcI P L es (i::l)) ((i::l:List Int).length:Int) (i::l)
 | 0,i,h,hi=>by omega
 | k+1,i,h,hi=>by
   have b:∀j,j<es.length->Yi es.length j (gt (OL P L es es.length) j):=fun j c=>Uw _ (Nd _) j (by omega) c
   obtain ⟨h1,h2,a⟩:=Nk3 b hi (fun j h1 h2=>Nbc k j (by omega) h2) (es.length-1-i) (Nd _)
   rw [<-Ns7 hi] at h1 h2 a
   rw [<-Vg b hi] at h1 a
   exact ⟨h1,fun l hl=>a l hl fun j r e=>by
    subst e
    have:=hl.2.1
    omega⟩
theorem BE.add {c k a k':Int} {l l':List Int} (d:Int) (h:BE c k l a k' l'):BE (d+c) k l (d+a) k' l':=by
 rcases h with h | ⟨rfl,h⟩
 ·exact .inl (by omega)
 ·exact .inr ⟨rfl,h⟩
def tot (P:List Int) (L:List Leg) (es:List Ev):List Int->Int
 | []=>0
 | i::l=>30*i+rcI P L es (i::l)
theorem Nko:∀m,m<=es.length->0<m->∃h:Nat,h<es.length/\es.length-m<=h/\(U6 es.length (OL P L es es.length) m).2.2=h/\(U6 es.length (OL P L es es.length) m).1=tot P L es (PY (OL P L es es.length) es.length h)/\(U6 es.length (OL P L es es.length) m).2.1=(PY (OL P L es es.length) es.length h).length/\
  ∀j l,Asc es.length (j::l)->(es.length:Int)-m<=j->BE (U6 es.length (OL P L es es.length) m).1 (U6 es.length (OL P L es es.length) m).2.1 (PY (OL P L es es.length) es.length h) (tot P L es (j::l)) ((j::l).length:Int) (j::l)
 | 0,_,h=>by omega
 | m+1,hm,_=>by
   have u:∀j,j<es.length->Yi es.length j (gt (OL P L es es.length) j):=fun j g=>Uw _ (Nd _) j (by omega) g
   generalize hi:es.length-1-m=i
   have c:i<es.length:=by omega
   have ⟨⟨A,B,D⟩,C⟩:=Nbc (P:=P) (L:=L) (es:=es) es.length i (by omega) c
   have e:=Vg (F:=OL P L es es.length) u c
   have f:U6 es.length (OL P L es es.length) (m+1)=if (U6 es.length (OL P L es es.length) m).2.2<0 then Na3 (OL P L es es.length) i else VF (U6 es.length (OL P L es es.length) m) (Na3 (OL P L es es.length) i):=by rw [U6,hi]
   generalize hr:Na3 (OL P L es es.length) i=r at f
   have v:r.1=30*(i:Int)+(gt (OL P L es es.length) i).1:=by rw [<-hr];rfl
   have r2:r.2.1=(gt (OL P L es es.length) i).2.1:=by rw [<-hr];rfl
   have w:r.2.2=(i:Int):=by rw [<-hr];rfl
   have rt:r.1=tot P L es (PY (OL P L es es.length) es.length i):=by rw [v,A,e];rfl
   have z:r.2.1=(PY (OL P L es es.length) es.length i).length:=by rw [r2,B]
   have o:∀l,Asc es.length ((i:Int)::l)->BE r.1 r.2.1 (PY (OL P L es es.length) es.length i) (tot P L es (i::l)) ((i::l:List Int).length:Int) (i::l):=fun l hl=>by
    rw [v,r2];exact (C l hl).add _
   by_cases n:m=0
   ·subst n
    have e0:U6 es.length (OL P L es es.length) (0+1)=r:=by rw [f,Ni];show (-1:Int)<0;decide
    rw [e0]
    refine ⟨i,c,by omega,w,rt,z,fun j l hl g=>?_⟩
    have:=hl.head
    obtain rfl:j=(i:Int):=by omega
    exact o l hl
   obtain ⟨h,h1,h2,p,s,t,k⟩:=Nko m (by omega) (by omega)
   rw [Ng (by omega)] at f
   rw [f]
   generalize U6 es.length (OL P L es es.length) m=x at p s t k
   unfold VF
   split
   ·rename_i a
    unfold YF at a
    rw [N1] at a
    refine ⟨h,h1,by omega,p,s,t,fun j l hl g=>?_⟩
    by_cases d:j=(i:Int)
    ·subst d
     refine BE.trans (b:=r.1) (y:=r.2.1) ?_ (o l hl)
     rcases a with h | ⟨h,h'⟩
     ·exact .inl h
     ·exact .inr ⟨h,.inl h'⟩
    ·exact k j l hl (by omega)
   ·rename_i a
    unfold YF at a
    rw [N1] at a
    refine ⟨i,c,by omega,w,rt,z,fun j l hl g=>?_⟩
    by_cases d:j=(i:Int)
    ·subst d
     exact o l hl
    ·refine BE.trans ?_ (k j l hl (by omega))
     rcases Q4 r.1 x.1 with h' | h' | h'
     ·exact .inl h'
     ·refine .inr ⟨h', ?_⟩
      rcases Q4 x.2.1 r.2.1 with q | q | q
      ·exact .inl q
      ·refine .inr ⟨q.symm, ?_⟩
       rw [e,Vg (F:=OL P L es es.length) u h1]
       exact .inl (by omega)
      ·exact absurd (.inr ⟨h'.symm,q⟩) a
     ·exact absurd (.inl h') a
theorem Nf4 (hn:0<es.length):R5 P L es≠[]/\Asc es.length (R5 P L es)/\∀j l,Asc es.length (j::l)->BE (tot P L es (R5 P L es)) ((R5 P L es).length:Int) (R5 P L es) (tot P L es (j::l)) ((j::l).length:Int) (j::l):=by
 have f:∀j,j<es.length->Yi es.length j (gt (OL P L es es.length) j):=fun j g=>Uw _ (Nd _) j (by omega) g
 obtain ⟨h,h1,h2,a,b,c,d⟩:=Nko (P:=P) (L:=L) (es:=es) es.length (Nd _) hn
 have e:R5 P L es=PY (OL P L es es.length) es.length h:=by unfold R5;rw [a]
 rw [e]
 refine ⟨by rw [Vg f h1];simp,(Nbc es.length h (by omega) h1).1.asc,fun j l hl=>?_⟩
 have:=d j l hl (by have:=hl.head;omega)
 rw [b,c] at this
 exact this
theorem Nks {i j:Int} {l:List Int}:QU P L es (i::j::l)=(i,j,QX P L (gt es i.toNat) (gt es j.toNat))::QU P L es (j::l):=by
 unfold QU
 show (List.range (l.length+1)).map _=_
 rw [List.range_succ_eq_map,N3,List.map_map]
 rfl
theorem Ndx:∀(l:List Int) (i:Int),tot P L es (i::l)=Td P L es (i::l)
 | [],i=>by
   show 30*i+30*((es.length:Int)-1-i)=30*((es.length:Int)-1)+0
   omega
 | j::l,i=>by
   have h:=Ndx l j
   have e1:tot P L es (i::j::l)=30*i+(QX P L (gt es i.toNat) (gt es j.toNat)+30*(j-i-1)+rcI P L es (j::l)):=rfl
   have e2:tot P L es (j::l)=30*j+rcI P L es (j::l):=rfl
   have e3:Td P L es (i::j::l)=30*((es.length:Int)-(l.length+1+1:Nat))+UL (QU P L es (i::j::l)):=rfl
   have a:Td P L es (j::l)=30*((es.length:Int)-(l.length+1:Nat))+UL (QU P L es (j::l)):=rfl
   rw [e1,e3,Nks,UL]
   rw [e2,a] at h
   simp only
   omega
theorem N2g {n:Nat}:∀(ks:List Int),(∀i,i<ks.length->Ncw n ks i)->Asc n ks
 | [],_=>trivial
 | [i],h=>⟨(h 0 (by simp)).1,(h 0 (by simp)).2.1⟩
 | i::j::l,h=>by
   refine ⟨(h 0 (by simp)).1,(h 1 (by simp)).2.2 (by omega),N2g (j::l) fun k hk=>?_⟩
   have h1:=h (k+1) (by simp at hk⊢;omega)
   refine ⟨h1.1,h1.2.1,fun a=>?_⟩
   have h2:=h1.2.2 (by omega)
   obtain ⟨q,rfl⟩:∃q,k=q+1:=⟨k-1,by omega⟩
   exact h2
theorem Ny0 {n:Nat}:∀(ks:List Int),Asc n ks->∀i,i<ks.length->Ncw n ks i
 | [],_,i,hi=>by cases hi
 | [a],h,i,hi=>by
   obtain rfl:i=0:=by simp at hi;omega
   exact ⟨h.1,h.2,fun h=>by omega⟩
 | a::b::l,h,0,hi=>⟨h.head.1,h.head.2,fun h=>by omega⟩
 | a::b::l,h,1,hi=>⟨h.2.2.head.1,h.2.2.head.2,fun _=>h.2.1⟩
 | a::b::l,h,i+2,hi=>by
   have h1:=Ny0 (b::l) h.2.2 (i+1) (by simp at hi⊢;omega)
   exact ⟨h1.1,h1.2.1,fun _=>h1.2.2 (by omega)⟩
theorem YV:Nc7 es.length (R5 P L es):=by
 by_cases hn:0<es.length
 ·obtain ⟨h1,h2,_⟩:=Nf4 (P:=P) (L:=L) hn
  exact ⟨fun h=>absurd (List.length_eq_zero_iff.1 h) h1,Ny0 _ h2⟩
 ·have e:R5 P L es=[]:=by
   have:=Yb (T:=OL P L es es.length) es.length (U6 es.length (OL P L es es.length) es.length).2.2
   exact List.length_eq_zero_iff.1 (by unfold R5;omega)
  exact ⟨fun _=>by omega,fun i hi=>by rw [e] at hi;cases hi⟩
theorem N2c {ks:List Int} (hk:Nc7 es.length ks):BE (Td P L es (R5 P L es)) ((R5 P L es).length:Int) (R5 P L es) (Td P L es ks) (ks.length:Int) ks:=by
 cases ks with
 | nil=>
   have f:=hk.1 rfl
   have e:R5 P L es=[]:=by
    have:=Yb (T:=OL P L es es.length) es.length (U6 es.length (OL P L es es.length) es.length).2.2
    exact List.length_eq_zero_iff.1 (by unfold R5;omega)
   rw [e]
   exact BE.refl
 | cons j l=>
   have c:=N2g _ hk.2
   have hn:0<es.length:=by have:=c.head;omega
   obtain ⟨h1,h2,d⟩:=Nf4 (P:=P) (L:=L) hn
   have:=d j l c
   rw [Ndx] at this
   generalize R5 P L es=b at *
   cases b with
   | nil=>exact absurd rfl h1
   | cons a t=>rw [Ndx] at this;exact this
end
end Go.Proofs.YtkppjkkkdpcgiaaGreat.Fn


namespace Go.Proofs.YtkppjkkkdpcgiaaGreat.Fn
open Go.AM Go.AM.Sym Go.Net
def WW (P:List Int) (L:List Leg) (T:List Int):Nat->List Int
 | 0=>T
 | k+1=>Go.Net.stepX 50 (OO P) L (WW P L T k)
theorem Nib {P:List Int} {L:List Leg} {q a:Int}:∀k,WW P L (Z4 50 (OO P q) a) k=Nai 50 (OO P) L q a k
 | 0=>rfl
 | k+1=>by rw [WW,Nai,Nib k]
theorem Nr0:okT (List.replicate 50 (-1)):=⟨by simp,fun j=>by
 rw [Na,Py];unfold OA;split<;>simp⟩
theorem Nkj {pos:Int->Nat} {bef aft:List Int} {l:Leg} {a:Int} (b:¬bef.getD (pos l.dst) (-1)<0) (h:Tj l (bef.getD (pos l.dst) (-1))=some a):Yv pos bef aft l=aft.set (pos l.frm) (max (aft.getD (pos l.frm) (-1)) (a-l.cut)):=by
 unfold Yv
 rw [Ng b]
 simp only [h]
 congr 1
 split<;>omega
theorem Njs [OB] {lim R A10 A11:Nat} {pl:Option Addr} {P:List Int} {L:List Leg} {cl:Nat} {H G:NE} {fr:Nat->Value} {K:List AItem} {Z:Value->NE->Prop} {bef:List Int}
  (o:NetOk 50 P L (OO P)) (hL:Sl H RA 8 pl L) (ak:L.length<2 ^ 62) (hm:NH H R=.map (WT P)) (aj:lim<=H.length) (hb:okT bef) (hE:Chg [] H G) (ah:H.length<=A10) (ai:H.length<=A11) (ag:A10≠A11) (aa:NH G A10=Vc (Sc bef)) (ab:NH G A11=Vc (Sc (List.replicate 50 (-1))))
  (f1:fr 1=.map (some R)) (f10:fr 10=Vp A10) (f11:fr 11=Vp A11) (V:fr 30=.slice pl L.length cl) (W:fr 31=Vi L.length) (f32:fr 32=Vi 0)
  (hR:∀fr' G',okT (Go.Net.stepX 50 (OO P) L bef)->Chg [A11] G G'->NH G' A11=Vc (Sc (Go.Net.stepX 50 (OO P) L bef))->fr' 1=fr 1->fr' 4=fr 4->fr' 9=fr 9->fr' 11=fr 11->fr' 19=fr 19->fr' 20=fr 20->PV E a62 lim K fr' (G'++[]) Z) :
  PV E a62 lim (.code (.loop N0f)::.inBlock 2::K) fr G Z:=by
 refine NP (fun i=>L.length-i) (fun i fr' G'=>i<=L.length/\fr' 1=.map (some R)/\fr' 4=fr 4/\fr' 9=fr 9/\fr' 10=Vp A10/\fr' 11=Vp A11/\fr' 19=fr 19/\fr' 20=fr 20/\fr' 30=.slice pl L.length cl/\fr' 31=Vi L.length/\fr' 32=Vi i/\
  Chg [A11] G G'/\okT ((L.take i).foldl (Yv (OO P) bef) (List.replicate 50 (-1)))/\NH G' A11=Vc (Sc ((L.take i).foldl (Yv (OO P) bef) (List.replicate 50 (-1))))) 0
  ⟨Nw _,f1,rfl,rfl,f10,f11,rfl,rfl,V,W,f32,Chg.refl,Nr0,ab⟩ ?_
 intro i fr' G' ⟨hi,A,T,U,h,e,u,v,m,n,w,J,B,d⟩ hN
 have C:Chg [] H G':=hE.trans' J fun j h1 h2=>by simp only [Nk] at h1;omega
 have hl:=C.len
 rw [NU N0f.eq_1]
 refine NK ?_
 by_cases g:i<L.length
 case neg=>
  obtain rfl:i=L.length:=by omega
  rw [Oj] at B d
  simp only [n62,r62,A,h,e,m,n,w,g,SB,seval,NC,NJ,NG,NR,reduceCtorEq,NB,place,NA,ND]
  exact hR _ _ B J d (by rw [f1];exact A) (by rw [<-T];exact rfl) (by rw [<-U];exact rfl) (by rw [f11];exact e) (by rw [<-u];exact rfl) (by rw [<-v];exact rfl)
 have O:=C.ext.sl hL
 have F:=fun X=>(O.app X).loadCells OI g
 have s:=fun c (k:IntKind) (H1:NE)=>O.idx (c:=c) (k:=k) (H1:=H1) g
 have I:IntKind.i64.wrap ((i:Int)+1)=((i+1:Nat):Int):=OD (by omega)
 have M:=J.cells aa (by simpa using ag)
 have q1:=fun X=>(OJ.refl.app (X:=X)).cells M
 have q2:=fun X=>(OJ.refl.app (X:=X)).cells d
 have N:=C.get hm (PR hm) (by simp)
 have q3:∀X,NH (G'++X) R=.map (WT P):=fun X=>by rw [NQ (PR N)];exact N
 have D:lim<=G'.length:=by omega
 have ae:lim<=A11:=by omega
 have t:=QR g
 have hf:=o.fine _ t
 have i1:OO P (gt L i).frm<50:=o.lt _ (o.frm _ t)
 have i2:OO P (gt L i).dst<50:=o.lt _ (o.dst _ t)
 obtain ⟨j1,y⟩:=Vl (i:=0) (o.frm _ t)
 obtain ⟨j2,z⟩:=Vl (i:=0) (o.dst _ t)
 change findKey _ _ _=some (some (j1,Vi (OO P (gt L i).frm:Int))) at y
 change findKey _ _ _=some (some (j2,Vi (OO P (gt L i).dst:Int))) at z
 have x:=Ml (f:=Yv (OO P) bef) (b:=List.replicate 50 (-1)) g
 generalize (L.take i).foldl (Yv (OO P) bef) (List.replicate 50 (-1))=aft at *
 have ad:=hb.2 (OO P (gt L i).dst)
 have ac:=B.2 (OO P (gt L i).frm)
 have gb:=Wo hb.1 i2
 have Y:=Wo B.1 i1
 have z1:(0:Int)<=(OO P (gt L i).frm:Int):=by omega
 have z2:(0:Int)<=(OO P (gt L i).dst:Int):=by omega
 have z3:(OO P (gt L i).frm:Int)<50:=by omega
 have z4:(OO P (gt L i).dst:Int)<50:=by omega
 have z5:OO P (gt L i).dst<=49:=by omega
 have z6:OO P (gt L i).frm<=49:=by omega
 by_cases p:bef.getD (OO P (gt L i).dst) (-1)<0
 ·have S:Yv (OO P) bef aft (gt L i)=aft:=by unfold Yv;rw [Ni p]
  rw [S] at x
  simp only [n62,r62,A,h,e,m,n,w,g,F,s,I,q1,q2,q3,y,z,gb,Y,z1,z2,z3,z4,z5,z6,OI,QH,QG,QF,QE,QD,QC,QB,QA,NI,PN,Pa,D,NF,p,SB,seval,NC,NJ,NG,NR,reduceCtorEq,NB,place,NA,ND]
  exact hN (i+1) _ _ ⟨by omega,A,by rw [<-T];exact rfl,by rw [<-U];exact rfl,h,e,by rw [<-u];exact rfl,by rw [<-v];exact rfl,m,n,rfl,J.app,by rw [x];exact B,by rw [x];exact (OJ.refl.app).cells d⟩ (by omega)
 unfold OA at ad ac
 have q:=fun (H:NE) (mp:Bool) (lim:Nat) (Q:Value->NE->Prop)=>N4e (mp:=mp) (lim:=lim) (H:=H) (Q:=Q) (l:=gt L i) (r:=bef.getD (OO P (gt L i).dst) (-1)) hf (by omega) (by omega)
 cases hx:Tj (gt L i) (bef.getD (OO P (gt L i).dst) (-1)) with
 | none=>
   rw [hx] at q
   simp only [Ou,W9] at q
   have S:Yv (OO P) bef aft (gt L i)=aft:=by unfold Yv;rw [Ng p];simp only [hx]
   rw [S] at x
   simp only [n62,r62,A,h,e,m,n,w,g,F,s,I,q1,q2,q3,y,z,gb,Y,z1,z2,z3,z4,z5,z6,OI,QH,QG,QF,QE,QD,QC,QB,QA,NI,PN,Pa,D,NF,p,q,SB,seval,NC,NJ,NG,NR,reduceCtorEq,NB,place,NA,ND]
   exact hN (i+1) _ _ ⟨by omega,A,by rw [<-T];exact rfl,by rw [<-U];exact rfl,h,e,by rw [<-u];exact rfl,by rw [<-v];exact rfl,m,n,rfl,J.app,by rw [x];exact B,by rw [x];exact (OJ.refl.app).cells d⟩ (by omega)
 | some a=>
   rw [hx] at q
   simp only [Nv,W9] at q
   obtain ⟨k1,k2,k3,k4⟩:=Nhx hf hx
   unfold OA at k3
   have S:=Nkj (aft:=aft) p hx
   rw [S] at x
   unfold Fine at hf
   have wc:IntKind.i64.wrap (a-(gt L i).cut)=a-(gt L i).cut:=NT (by omega) (by omega)
   obtain ⟨G2,e2,h2,m2⟩:=OQ (NM d) (Vc (Sc (aft.set (OO P (gt L i).frm) (max (aft.getD (OO P (gt L i).frm) (-1)) (a-(gt L i).cut)))))
   simp only [n62,r62,A,h,e,m,n,w,g,F,s,I,q1,q2,q3,y,z,gb,Y,z1,z2,z3,z4,z5,z6,OI,QH,QG,QF,QE,QD,QC,QB,QA,NI,PN,Pa,D,NF,p,q,wc,ae,Nzs,YP B.1,e2,SB,seval,NC,NJ,NG,NR,reduceCtorEq,NB,place,NA,ND]
   exact hN (i+1) _ _ ⟨by omega,A,by rw [<-T];exact rfl,by rw [<-U];exact rfl,h,e,by rw [<-u];exact rfl,by rw [<-v];exact rfl,m,n,rfl,(J.mut m2 (.inl (by simp))).app,by rw [x];exact Njb B (by unfold OA;omega),by rw [x];exact (OJ.refl.app).cells h2⟩ (by omega)
theorem Nfl {P:List Int} {L:List Leg} {T:List Int} (b:NetOk 50 P L (OO P)) (g:okT T):∀k,okT (WW P L T k)
 | 0=>g
 | k+1=>by
   rw [WW,Go.Net.stepX]
   have i:=Nfl b g k
   generalize WW P L T k=bef at i
   suffices h:∀(M:List Leg),(∀l∈M,l∈L)->∀aft,okT aft->okT (M.foldl (Yv (OO P) bef) aft) from h L (fun _ h=>h) _ Nr0
   intro M
   induction M with
   | nil=>intro _ aft h;exact h
   | cons l M ih=>
     intro f aft d
     rw [Oi]
     refine ih (fun x c=>f x (Nj _ c)) _ ?_
     by_cases e:bef.getD (OO P l.dst) (-1)<0
     ·unfold Yv;rw [Ni e];exact d
     ·cases c:Tj l (bef.getD (OO P l.dst) (-1)) with
      | none=>unfold Yv;rw [Ng e];simp only [c];exact d
      | some a=>
        rw [Nkj e c]
        obtain ⟨k1,k2,k3,m⟩:=Nhx (b.fine _ (f l (Nn ..))) c
        have j:=b.fine _ (f l (Nn ..))
        have:=d.2 (OO P l.frm)
        unfold Fine at j
        exact Njb d (by omega)
theorem Za.le {α:Type} {lim e cap:Nat} {G:NE} {enc:α->List Value} {p:Option Addr} {l:List α} (h:Za lim G enc e p cap l) {lim':Nat} (hl:lim'<=lim):Za lim' G enc e p cap l:=by
 rcases h with h | ⟨R,a,h1,h2,b,c⟩
 ·exact .inl (h.le hl)
 ·exact .inr ⟨R,a,h1,h2,b,by omega⟩
theorem Nu1 [OB] {lim R n0:Nat} {T:List Int} {pp pl:Option Addr} {P:List Int} {L:List Leg} {cp cl:Nat} {H:NE} {Q:Value->NE->Prop} (hn:NetIn H pp pl P L) (y:NetOk 50 P L (OO P)) (hm:NH H R=.map (WT P)) (hT:okT T) (ae:n0<2 ^ 30) (S:L.length<2 ^ 62) (x:lim<=H.length)
  (hQ:∀H' p cap,Chg [] H H'->Za H.length H' Sc 50 p cap ((List.range (n0+1)).map (WW P L T))->Q (.slice p (n0+1) cap) H') :
  NL E false lim 62 [.agg (Tu pp P.length cp pl L.length cl).toArray,.map (some R),.agg (Sc T).toArray,Vi n0] H Q:=by
 refine RG (by decide) e62 rfl ?_
 rw [b62,c62]
 simp only [n62,r62,Nkf,PN,NI,NF,Oo,SB,seval,NC,NJ,NG,NR,reduceCtorEq,NB,place,NA,ND]
 refine NP (fun s:Nat×Option Addr×Nat=>n0-s.1) (fun s fr G=>s.1<=n0/\fr 1=.map (some R)/\fr 4=Vp H.length/\fr 9=.slice s.2.1 (s.1+1) s.2.2/\fr 19=Vi n0/\fr 20=Vi s.1/\NH G H.length=Vc (Tu pp P.length cp pl L.length cl)/\Chg [] H G/\Za (H.length+1) G Sc 50 s.2.1 s.2.2 ((List.range (s.1+1)).map (WW P L T))) (0,Sa (H.length+2),1)
  ⟨Nw _,rfl,rfl,by rfl,rfl,by rfl,NV,Chg.refl.app,.inr ⟨H.length+2,rfl,rfl,by show (1:Nat)<2 ^ 62;decide,by rw [OC];simp [WW],by omega⟩⟩ ?_
 rintro ⟨k,p,cap⟩ fr G ⟨hk,f1,f4,f9,o,f,hB,I,J⟩ hN
 simp only at hk f9 f J
 have hl:=I.len
 have U:=Nfl y hT k
 rw [NU N6i.eq_1]
 refine NK ?_
 by_cases u:k<n0
 case neg=>
  obtain rfl:k=n0:=by omega
  simp only [n62,r62,f1,f4,f9,o,f,u,SB,seval,NC,NJ,NG,NR,reduceCtorEq,NB,place,NA,ND]
  exact hQ _ _ _ I.app ((J.chg (A:=[]) (Chg.refl.app) (by simp)).le (by omega))
 have b:((List.range (k+1)).map (WW P L T)).length=k+1:=by simp
 have N:gt ((List.range (k+1)).map (WW P L T)) k=WW P L T k:=by
  rw [PW (by rw [b];omega)];simp
 have hS:=J.sl PN
 have w:=fun X=>(hS.app X).loadCells PN (i:=k) (by rw [b];omega)
 have m:=fun c (kk:IntKind) (H1:NE)=>hS.idx (c:=c) (k:=kk) (H1:=H1) (i:=k) (by rw [b];omega)
 rw [b] at m
 rw [N] at w
 have V:IntKind.i64.wrap (((k+1:Nat):Int)-1)=(k:Int):=by rw [NT (by omega) (by omega)];omega
 have W:IntKind.i64.wrap ((k:Int)+1)=((k+1:Nat):Int):=OD (by omega)
 have O:lim<=G.length:=by omega
 have K:∀(H:NE) (mp:Bool) (lim:Nat) (Q:Value->NE->Prop),NL E mp lim 63 [Vi 0,Vi (-1)] H Q=Q (.agg (Sc (List.replicate 50 (-1))).toArray) H:=fun H mp lim Q=>No7 (mp:=mp) (lim:=lim) (H:=H) (Q:=Q) (i:=0) (t:=-1) (by decide)
 have M:=fun X=>(OJ.refl.app (X:=X)).cells hB
 simp only [n62,r62,f1,f4,f9,o,f,u,K,M,PS,Sv,Su,Nkf,PN,NI,NF,Oo,V,m,w,O,show lim<=G.length+1 by omega,SB,seval,NC,NJ,NG,NR,reduceCtorEq,NB,place,NA,ND]
 refine Njs (cl:=cl) (A10:=G.length) (A11:=G.length+1) y hn.sl S hm x U I.app (by omega) (by omega) (by omega) NV OC f1 rfl rfl rfl rfl rfl fun fr' G' z hC q k1 k4 k9 Y Z aa=>?_
 have B:fr' 1=.map (some R):=k1.trans f1
 have F:fr' 4=Vp H.length:=k4.trans f4
 have ab:fr' 9=.slice p (k+1) cap:=k9.trans f9
 have C:fr' 11=Vp (G.length+1):=Y.trans rfl
 have n:fr' 19=Vi n0:=Z.trans o
 have D:fr' 20=Vi k:=aa.trans f
 have l:=fun X=>(OJ.refl.app (X:=X)).cells q
 have g:Chg [] G G':=hC.pre.mono fun j hj h=>by simp only [Nk] at h;omega
 have ad:=g.len
 have r:=J.chg g (by simp)
 change okT (WW P L T (k+1)) at z
 change NH G' (G.length+1)=Vc (Sc (WW P L T (k+1))) at q
 change ∀X,NH (G'++X) (G.length+1)=Vc (Sc (WW P L T (k+1))) at l
 have ac:H.length<G.length:=NM hB
 obtain ⟨G3,e3,O3,C3,d,l3,_⟩:=r.step (lim':=lim) (bytes:=400) (by omega) PN (by decide) (WW P L T (k+1)) (by rw [b];unfold PU;omega) (by rw [b];omega) (by omega) [Vc (Sc (WW P L T (k+1)))] G'.length 1 NV
 rw [b] at e3
 have v:lim<=G'.length:=by omega
 simp only [n62,r62,B,F,ab,C,n,D,l,PN,NI,Nkf,NF,Oo,e3,W,v,SB,seval,NC,NJ,NG,NR,reduceCtorEq,NB,place,NA,ND]
 refine hN (k+1,_,_) _ _ ⟨by omega,B,F,by rfl,n,rfl, ?_,C3 _ _ (by omega) (I.trans g),.inl ?_⟩ (by show n0-(k+1)<n0-k;omega)
 ·rw [Nb] at d
  rw [Nb,d H.length (by omega) fun a ha e=>by have:=(r.block ha).1;omega]
  exact g.cells hB (by simp)
 ·rw [Pt,O0]
  exact O3
theorem Obr [OB] {mp:Bool} {lim A B i:Nat} {o1 o2:Bool} {t:Int} {T:List Int} {H:NE} {Q:Value->NE->Prop} (hi:i<50) (b:T.length=50) (a:NH H A=.cells o1 [Vi i]) (hB:NH H B=.cells o2 [Vi t]) :
  NL E mp lim 61 [.agg (Sc T).toArray,Vp A,Vp B] H Q=Q (.bool (decide (T.getD i (-1)=t))) H:=by
 refine pc (by decide) e61 rfl rfl ?_
 rw [b61,c61]
 have q1:=fun X=>(OJ.refl.app (X:=X)).cells a
 have q2:=fun X=>(OJ.refl.app (X:=X)).cells hB
 have c:(0:Int)<=(i:Int):=by omega
 have d:(i:Int)<50:=by omega
 have e:i<=49:=by omega
 have gt:=Wo b hi
 simp only [n61,r61,q1,q2,PN,NI,gt,c,d,e,Pa,SB,seval,NC,NJ,NG,NR,reduceCtorEq,NB,place,NA,ND]
theorem N01 [OB] {mp:Bool} {lim A B i k cap:Nat} {p:Option Addr} {o1 o2:Bool} {t:Int} {Ts:List (List Int)} {H:NE} {Q:Value->NE->Prop} (hi:i<50) (q:NH H A=.cells o1 [Vi i]) (hB:NH H B=.cells o2 [Vi t]) (hs:Sl H Sc 50 p Ts) (l:∀T∈Ts,T.length=50) (hn:Ts.length<2 ^ 62)
  (hk:k<Ts.length) (m:(gt Ts k).getD i (-1)=t) (n:∀j,j<k->(gt Ts j).getD i (-1)≠t) :
  NL E mp lim 60 [.slice p Ts.length cap,.func (.func 61) #[] #[Vp A,Vp B]] H Q=Q (Vi k) H:=by
 refine pc (by decide) e60 rfl rfl ?_
 rw [b60,c60]
 simp only [n60,r60,SB,seval,NC,NJ,NG,NR,reduceCtorEq,NB,place,NA,ND]
 refine NP (fun j=>Ts.length-j) (fun j fr G=>j<=k/\fr 0=.slice p Ts.length cap/\fr 1=.func (.func 61) #[] #[Vp A,Vp B]/\fr 7=Vi Ts.length/\fr 8=Vi j/\OJ H G) 0 ⟨Nw _,rfl,rfl,rfl,by rfl,OJ.refl.app⟩ ?_
 intro j fr G ⟨s,f0,f1,h,o,e⟩ r
 rw [NU N6j.eq_1]
 refine NK ?_
 have a:j<Ts.length:=by omega
 have f:=fun X=>((e.sl hs).app X).loadCells PN a
 have d:=fun c (kk:IntKind) (H1:NE)=>(e.sl hs).idx (c:=c) (k:=kk) (H1:=H1) a
 have g:IntKind.i64.wrap ((j:Int)+1)=((j+1:Nat):Int):=OD (by omega)
 have b:=fun X (mp:Bool) (lim:Nat) (Q:Value->NE->Prop)=>Obr (mp:=mp) (lim:=lim) (Q:=Q) (H:=G++X) (T:=gt Ts j) hi (l _ (QR a)) ((e.app).cells q) ((e.app).cells hB)
 by_cases he:j=k
 ·subst he
  rw [Np m] at b
  simp only [n60,r60,f0,f1,h,o,a,f,d,g,b,SB,seval,NC,NJ,NG,NR,reduceCtorEq,NB,place,NA,ND]
 ·rw [N5 (p:=(gt Ts j).getD i (-1)=t) (n j (by omega))] at b
  simp only [n60,r60,f0,f1,h,o,a,f,d,g,b,SB,seval,NC,NJ,NG,NR,reduceCtorEq,NB,place,NA,ND]
  exact r (j+1) _ _ ⟨by omega,f0,f1,h,rfl,e.app⟩ (by omega)
theorem Nki [OB] {lim Y Bx c:Nat} {p:Option Addr} {o:Bool} {L:List Leg} {H:NE} {Q:Value->NE->Prop} (I:Nat->NE->Prop) (w:L.length<2 ^ 62)
  (h:∀i H H',I i H->Chg [] H H'->I i H')
  (f:∀i H,I i H->Sl H RA 8 p L/\NH H Bx=.cells o [.slice p L.length c]/\lim<=H.length)
  (b:∀i H,i<L.length->I i H->WP E false lim Y [.agg (RA (gt L i)).toArray] H fun v H'=>v=.bool true/\I (i+1) H')
  (s:I 0 H) (u:∀H',I L.length H'->Q (.tuple #[]) H') :
  NL E false lim 103 [.func (.yield Y) #[] #[],Vp Bx] H Q:=by
 refine RG (by decide) Oeo rfl ?_
 rw [Oft,N9e]
 have l:=fun X=>(OJ.refl.app (X:=X)).cells (f _ _ s).2.1
 simp only [n103,N3i,l,SB,seval,NC,NJ,NG,NR,reduceCtorEq,NB,place,NA,ND]
 refine NP (fun i=>L.length-i) (fun i fr G=>i<=L.length/\fr 0=.func (.yield Y) #[] #[]/\fr 5=.slice p L.length c/\fr 6=Vi L.length/\fr 7=Vi i/\I i G) 0 ⟨Nw _,rfl,rfl,rfl,by rfl,h _ _ _ s (Chg.refl.app)⟩ ?_
 intro i fr G ⟨hi,f0,f5,g,j,d⟩ t
 rw [NU N0r.eq_1]
 refine NK ?_
 obtain ⟨hs,hB,n⟩:=f _ _ d
 by_cases a:i<L.length
 case neg=>
  obtain rfl:i=L.length:=by omega
  simp only [n103,N3i,f0,f5,g,j,a,SB,seval,NC,NJ,NG,NR,reduceCtorEq,NB,place,NA,ND]
  exact u _ (h _ _ _ d (Chg.refl.app))
 have q:=fun X=>(hs.app X).loadCells OI a
 have e:=fun c (kk:IntKind) (H1:NE)=>hs.idx (c:=c) (k:=kk) (H1:=H1) a
 have r:IntKind.i64.wrap ((i:Int)+1)=((i+1:Nat):Int):=OD (by omega)
 simp only [n103,N3i,f0,f5,g,j,a,q,e,OI,QH,QG,QF,QE,QD,QC,QB,QA,NI,n,NF,SB,seval,NC,NJ,NG,NR,reduceCtorEq,NB,place,NA,ND]
 refine (b i _ a (h _ _ _ d (Chg.refl.app))).mono fun v H' x=>?_
 obtain ⟨rfl,m⟩:=x
 refine NK ?_
 simp only [n103,N3i,f0,f5,g,j,r,SB,seval,NC,NJ,NG,NR,reduceCtorEq,NB,place,NA,ND]
 exact t (i+1) _ _ ⟨by omega,f0,f5,g,rfl,h _ _ _ m (Chg.refl.app)⟩ (by omega)
theorem Nrc [OB] {lim Bx c:Nat} {p:Option Addr} {o:Bool} {L:List Leg} {H:NE} {Z:Value->NE->Prop} {fr0:Nat->Value} {K':List AItem} (hB:NH H Bx=.cells o [.slice p L.length c]) (hs:Sl H RA 8 p L) (hn:L.length<2 ^ 30) (M:lim<=H.length)
  (f2:fr0 2=Vp H.length)
  (hQ:∀H' q cap,Chg [] H H'->Own (H.length+3) H' RA 8 q cap L->NH H' H.length=Vc [.slice q L.length cap]->NH H' (H.length+1)=.dfr->H.length+3<=H'.length->PV E Ng2 lim (K'++[.mark (H.length+1)]) fr0 (H'++[]) Z) :
  NL E false lim 103 [.func (.yield (H.length+2)) #[] #[],Vp Bx] (H++[Vc [Vz],.dfr,.loop ⟨0,none,fr0,13,[7],XV,XU⟩]) fun _ C=>
   Yt (NH C (H.length+1+1)) fun x=>PV E Ng2 lim (Y8 x++(K'++[.mark (H.length+1)])) fr0 (C.set (H.length+1+1) .dead) Z:=by
 refine Nki (c:=c) (p:=p) (o:=o) (L:=L) (fun i G=>∃q cap,NH G H.length=Vc [.slice q i cap]/\Own (H.length+3) G RA 8 q cap (L.take i)/\NH G (H.length+1)=.dfr/\NH G (H.length+2)=.loop ⟨0,none,fr0,13,[7],XV,XU⟩/\Chg [] H G/\H.length+3<=G.length/\i<=L.length) (by omega) ?_ ?_ ?_ ?_ ?_
 ·rintro i G G' ⟨q,cap,h1,h2,s,l,h,I,J⟩ d
  have:=d.len
  exact ⟨q,cap,d.cells h1 (by simp),h2.chg d (by simp),d.get s (by omega) (by simp),d.get l (by omega) (by simp),h.trans d,by omega,J⟩
 ·rintro i G ⟨q,cap,h1,h2,s,l,h,I,J⟩
  exact ⟨h.ext.sl hs,h.cells hB (by simp),by omega⟩
 ·rintro i G w ⟨q,cap,h2,u,hd,N,d,hl,_⟩
  rw [XE (x:=⟨0,none,fr0,13,[7],XV,XU⟩) N (by omega) rfl rfl,WQ]
  rw [NU XV.eq_1]
  refine NK ?_
  obtain ⟨G1,e1,h1,f⟩:=OQ (G:=G) (R:=H.length+2) (by omega) (.loop ⟨1,none,fr0,13,[7],XV,XU⟩)
  have gY:=fun X=>(OJ.refl.app (X:=X)).get' N (by omega)
  have m:lim<=G.length:=by omega
  simp only [f2,OI,QH,QG,QF,QE,QD,QC,QB,QA,NI,NF,m,gY,e1,show lim<=H.length+2 by omega,SB,seval,NC,NJ,NG,NR,reduceCtorEq,NB,place,NA,ND]
  rw [NU XU.eq_1]
  have v:Own (H.length+3) G1 RA 8 q cap (L.take i):=u.mut f fun a e=>by have:=(u.block e).1;omega
  have g:(L.take i).length=i:=by rw [Ok];omega
  obtain ⟨r,e3,t,Q,b,O,aa⟩:=v.step (lim':=lim) (bytes:=64) (by omega) OI (by decide) (gt L i) (by rw [g];unfold PU;omega) (by rw [g];omega) (by rw [f.len];omega) [Vc (RA (gt L i)),Vc (RA (gt L i))] (G1.length+1) 1 OC
  rw [g] at e3
  rw [f.len] at e3 t O
  simp only [Nm,Ns] at e3 O
  have b2:=fun X=>(OJ.refl.app (X:=X)).cells (f.cells h2 (by omega))
  have U:∀X:NE,NH (G1++X) G.length=X.getD 0 .dead:=(Nhu f.len).2.2.1
  have V:∀(X:NE) (j:Nat),NH (G1++X) (G.length+j)=X.getD j .dead:=(Nhu f.len).2.1
  have y:∀j,j<H.length+3->∀a,q=some a->j≠a.block:=fun j K a e hh=>by have:=(u.block e).1;omega
  have z:NH (r++[]) H.length=Vc [.slice q i cap]:=(b _ (by rw [f.len];omega) (y _ (by omega))).trans (f.cells h2 (by omega))
  have P:NH (r++[]) (H.length+2)=_:=(b _ (by rw [f.len];omega) (y _ (by omega))).trans h1
  have F:NH (r++[]) (H.length+1)=_:=(b _ (by rw [f.len];omega) (y _ (by omega))).trans (f.alive hd (by omega))
  rw [Nb] at z P F t
  obtain ⟨S,W,l,k⟩:=OQ (NM z) (Vc [.slice (Sa (G.length+2)) (i+1) (loose 8)])
  have B:=k.alive P (by omega)
  have y4:=fun X=>(OJ.refl.app (X:=X)).get' B (by rw [k.len];omega)
  obtain ⟨T,Y,h,n⟩:=OQ (G:=S) (R:=H.length+2) (by rw [k.len];omega) (.loop ⟨0,none,fr0,13,[7],XV,XU⟩)
  have A:=fun X=>(OJ.refl.app (X:=X)).cells z
  simp only [f2,OI,QH,QG,QF,QE,QD,QC,QB,QA,NI,NF,m,b2,U,V,f.len,e3,W,Y,y4,A,show lim<=H.length by omega,show lim<=H.length+2 by omega,SB,seval,NC,NJ,NG,NR,reduceCtorEq,NB,place,NA,ND]
  have D:=Q [] H (by omega) (d.mut f (.inr (by omega)))
  rw [Nb] at D
  have l5:T.length=r.length:=by rw [n.len,k.len]
  refine ⟨_,_,(OJ.refl.app).cells (n.cells l (by omega)), ?_,(OJ.refl.app).get' (n.alive (k.alive F (by omega)) (by omega)) (by omega),(OJ.refl.app).get' h (by omega),((D.mut k (.inr (by omega))).mut n (.inr (by omega))).app,by omega,by omega⟩
  rw [Xh w]
  exact ((t.mut k fun a e=>by cases e;show G.length+2≠_;omega).mut n fun a e=>by cases e;show G.length+2≠_;omega).app _
 ·exact ⟨none,0,NV,.nil,by rw [OC];rfl,by rw [OC];rfl,Chg.refl.app,by simp,Nw _⟩
 ·rintro H' ⟨q,cap,h1,h2,s,l,h,I,_⟩
  rw [Oj] at h2
  rw [Nqn (show NH H' (H.length+1+1)=_ from l),N1h]
  show PV E Ng2 lim (K'++[.mark (H.length+1)]) fr0 _ _
  have d:Mut H' (H'.set (H.length+1+1) .dead) (H.length+1+1):=⟨by simp,fun j K=>QP K⟩
  refine NK ?_
  exact hQ _ q cap (h.mut d (.inr (by omega))) (h2.mut d fun a e=>by have:=(h2.block e).1;omega) (d.cells h1 (by omega)) (d.alive s (by omega)) (by rw [d.len];omega)
theorem Nrb [OB] {lim Bx c:Nat} {p:Option Addr} {o:Bool} {L:List Leg} {H:NE} {Q:Value->NE->Prop} (hB:NH H Bx=.cells o [.slice p L.length c]) (hs:Sl H RA 8 p L) (hn:L.length<2 ^ 30) (d:lim<=H.length)
  (l:∀H' q cap,Chg [] H H'->Own (H.length+3) H' RA 8 q cap L->Q (.slice q L.length cap) H') :
  NL E false lim 132 [Vz,.func (.func 103) #[] #[Vp Bx]] H Q:=by
 refine RG (by decide) Od8 rfl ?_
 rw [Ofc,N84]
 have b:(H++[Vc [Value.slice none 0 0]]).length=H.length+1:=by simp
 simp only [n132,Oaa,SB,seval,NC,NJ,NG,NR,reduceCtorEq,NB,place,NA,ND]
 rw [b]
 refine Nrc hB hs hn d rfl fun H' q cap k h h2 hd hl=>?_
 have f:=fun X=>(OJ.refl.app (X:=X)).cells h2
 have g:=fun X=>(OJ.refl.app (X:=X)).get' hd (by omega)
 show PV E Ng2 lim (.inBlock 0::.code _::.code .retM::.mark (H.length+1)::[]) _ _ _
 simp only [n132,Oaa,f,g,show lim<=H.length+1 by omega,SB,seval,NC,NJ,NG,NR,reduceCtorEq,NB,place,NA,ND]
 have i:Mut (H'++[]) ((H'++[]).set (H.length+1) .dead) (H.length+1):=⟨by simp,fun j m=>QP m⟩
 exact l _ _ _ (k.app.mut i (.inr (by omega))) ((h.app []).mut i fun a e=>by have:=(h.block e).1;omega)
theorem Nqy [OB] {lim Bx c:Nat} {p:Option Addr} {o:Bool} {L:List Leg} {H:NE} {Q:Value->NE->Prop} (hB:NH H Bx=.cells o [.slice p L.length c]) (hs:Sl H RA 8 p L) (hn:L.length<2 ^ 30) (a:lim<=H.length)
  (e:∀H' q cap,Chg [] H H'->Own (H.length+3) H' RA 8 q cap L->Q (.slice q L.length cap) H') :
  NL E false lim 101 [.func (.func 103) #[] #[Vp Bx]] H Q:=by
 refine RG (by decide) Oep rfl ?_
 rw [Ofu,N9f]
 simp only [n101,Oaf,SB,seval,NC,NJ,NG,NR,reduceCtorEq,NB,place,NA,ND]
 rw [Nb]
 refine Nrb hB hs hn a fun H' q cap b d=>?_
 refine NK ?_
 simp only [n101,Oaf,SB,seval,NC,NJ,NG,NR,reduceCtorEq,NB,place,NA,ND]
 exact e _ _ _ b.app (d.app _)
end Go.Proofs.YtkppjkkkdpcgiaaGreat.Fn


namespace Go.Proofs.YtkppjkkkdpcgiaaGreat.Fn
open Go.AM Go.AM.Sym Go.Scan
theorem Nml [OB] {mp:Bool} {lim:Nat} {n:Int} {H:NE} {Q:Value->NE->Prop}:NL E mp lim 104 [Vi n] H Q=Q (.bool false) H:=by
 refine pc (by decide) Oen rfl rfl ?_
 rw [Ofs,N9d]
 simp only [n104,Odk,SB,seval,NC,NJ,NG,NR,reduceCtorEq,NB,place,NA,ND]
theorem Nh1 [OB] {mp:Bool} {lim:Nat} {n:Int} {H:NE} {Q:Value->NE->Prop}:NL E mp lim 156 [.int .u8 n] H Q=Q (.bool false) H:=by
 refine pc (by decide) Odz rfl rfl ?_
 rw [Oe3,c156]
 simp only [n156,Odf,SB,seval,NC,NJ,NG,NR,reduceCtorEq,NB,place,NA,ND]
def Nnd (a b:Int):Int:=if a<b then -1 else if b<a then 1 else 0
theorem Nqz [OB] {mp:Bool} {lim:Nat} {a b:Int} {H:NE} {Q:Value->NE->Prop}:NL E mp lim 67 [Vi a,Vi b] H Q=Q (Vi (Nnd a b)) H:=by
 refine pc (by decide) e67 rfl rfl ?_
 rw [b67,c67]
 simp only [n67,r67,Nml,SB,seval,NC,NJ,NG,NR,reduceCtorEq,NB,place,NA,ND]
 repeat' ((first | refine Xd (fun c=>?_) (fun c=>?_) | refine Xz (fun c=>?_) (fun c=>?_) | refine Xe (fun c=>?_) (fun c=>?_) | refine X0 (fun c=>?_) (fun c=>?_))<;>(try simp only [c,n67,r67,Nml,SB,Nat.reduceLT,NC,NJ,Nat.reduceEqDiff,NG,NR,reduceCtorEq,NB,place,NA,Nat.reduceAdd,Nat.reduceLeDiff,ND,Int.reduceEq,Int.reduceLT,Int.reduceLE]))
 all_goals simp [Nnd, *]
theorem Nso [OB] {mp:Bool} {lim:Nat} {a b:Int} {H:NE} {Q:Value->NE->Prop}:NL E mp lim 131 [.int .u8 a,.int .u8 b] H Q=Q (Vi (Nnd a b)) H:=by
 refine pc (by decide) Od9 rfl rfl ?_
 rw [Ofd,c131]
 simp only [n131,Oab,Nh1,SB,seval,NC,NJ,NG,NR,reduceCtorEq,NB,place,NA,ND]
 repeat' ((first | refine Xd (fun c=>?_) (fun c=>?_) | refine Xz (fun c=>?_) (fun c=>?_) | refine Xe (fun c=>?_) (fun c=>?_) | refine X0 (fun c=>?_) (fun c=>?_))<;>(try simp only [c,n131,Oab,Nh1,SB,Nat.reduceLT,NC,NJ,Nat.reduceEqDiff,NG,NR,reduceCtorEq,NB,place,NA,Nat.reduceAdd,Nat.reduceLeDiff,ND,Int.reduceEq,Int.reduceLT,Int.reduceLE]))
 all_goals simp [Nnd, *]
def orL:List Int->Int
 | []=>0
 | x::l=>if x≠0 then x else orL l
theorem Nyq {l:List Int} {i:Nat} (h:i<l.length):orL (l.drop i)=if gt l i≠0 then gt l i else orL (l.drop (i+1)):=by
 rw [Ow h,orL,PW h]
theorem Oap [OB] (mp:Bool) (lim:Nat) {p:Option Addr} {l:List Int} {cap:Nat} {H:NE} {Q:Value->NE->Prop} (hs:Sl H encI 1 p l) (hn:l.length<2 ^ 62) :
  NL E mp lim 125 [.slice p l.length cap] H Q=Q (Vi (orL l)) H:=by
 refine pc (by decide) Oec rfl rfl ?_
 rw [Ofh,N86]
 simp only [n125,N3h,SB,seval,NC,NJ,NG,NR,reduceCtorEq,NB,place,NA,ND]
 refine NP (fun i=>l.length-i) (fun i fr G=>i<=l.length/\fr 6=.slice p l.length cap/\fr 7=Vi l.length/\fr 8=Vi i/\fr 3=Vi 0/\Sl G encI 1 p l/\
  orL l=orL (l.drop i)) 0 ⟨Nw _,rfl,rfl,by rfl,rfl,hs.app _,rfl⟩ ?_
 intro i fr G ⟨hi,j,m,n,h,o,e⟩ q
 rw [NU N0p.eq_1]
 refine NK ?_
 by_cases a:i<l.length
 ·have f:=(o.app []).loadCell0 (fun _=>rfl) a (by decide)
  have d:=fun c (k:IntKind) (H1:NE)=>o.idx (c:=c) (k:=k) (H1:=H1) a
  have g:IntKind.i64.wrap ((i:Int)+1)=((i+1:Nat):Int):=OD (by omega)
  rw [Nyq a] at e
  simp only [n125,N3h,j,m,n,h,a,d,f,encI,g,SB,seval,NC,NJ,NG,NR,reduceCtorEq,NB,place,NA,ND]
  repeat' ((first | refine Xd (fun b=>?_) (fun b=>?_) | refine Xz (fun b=>?_) (fun b=>?_) | refine Xe (fun b=>?_) (fun b=>?_) | refine X0 (fun b=>?_) (fun b=>?_))<;>(try simp only [b,n125,N3h,j,m,n,h,a,d,f,encI,g,SB,Nat.reduceLT,NC,NJ,Nat.reduceEqDiff,NG,NR,reduceCtorEq,NB,place,NA,Nat.reduceAdd,Nat.reduceLeDiff,ND,Int.reduceEq,Int.reduceLT,Int.reduceLE]))
  ·rw [e,Ni b]
  ·refine q (i+1) _ _ ⟨by omega,j,m,rfl,h,o.app _, ?_⟩ (by omega)
   rw [e,Ng b]
 ·obtain rfl:i=l.length:=by omega
  rw [Qq,orL] at e
  simp only [n125,N3h,j,m,n,h,a,e,SB,seval,NC,NJ,NG,NR,reduceCtorEq,NB,place,NA,ND]
def Mh:List Value->List Int
 | .int _ a::r=>a::Mh r
 | _=>[]
def Nbg:List Value->Bool
 | .int .i64 _::r=>Nbg r
 | []=>true
 | _=>false
theorem YK {j:IntKind} {a:Int} {r:List Value}:Mh (.int j a::r)=a::Mh r:=rfl
theorem Ne9:Mh []=[]:=rfl
theorem Ncb {a:Int} {r:List Value}:Nbg (Vi a::r)=Nbg r:=id rfl
theorem Nex:Nbg []=true:=id rfl
theorem Nh3:∀c:List Value,Nbg c=true->c=(Mh c).flatMap encI
 | [],_=>rfl
 | .int .i64 a::r,h=>by
   rw [YK,Oy,<-Nh3 r h];rfl
theorem Nyp [OB] {mp:Bool} {lim b n cap:Nat} {H:NE} {Q:Value->NE->Prop} (h1:isCells (NH H b)=true) (h2:Nbg (cellsOf (NH H b))=true) (a:(Mh (cellsOf (NH H b))).length=n) (c:n<2 ^ 62) :
  NL E mp lim 125 [.slice (Sa b) n cap] H Q=Q (Vi (orL (Mh (cellsOf (NH H b))))) H:=by
 subst a
 rw [Oap mp lim (Sl.lit (fun _=>rfl) h1 (Nh3 _ h2)) c]
theorem Nht {a b:Int} {x y:List Int}:Tm (a::x) (b::y)=if Nnd a b≠0 then Nnd a b else Tm x y:=by
 rw [Tm]
 unfold Nnd
 by_cases h1:a<b
 ·simp [h1]
 ·by_cases h2:b<a
  ·simp [h1,h2]
  ·simp [h1,h2]
theorem Nme:Tm [] []=0:=rfl
theorem N1z [OB] {mp:Bool} {lim:Nat} {a b:Mk} {H:NE} {Q:Value->NE->Prop}:NL E mp lim 124 [.agg (QW a).toArray,.agg (QW b).toArray] H Q=Q (Vi (Tm (SX a) (SX b))) H:=by
 refine pc (by decide) Oed rfl rfl ?_
 rw [Ofi,c124]
 simp only [n124,Odh,QW,Nqz,Nso,Nyp,ZG,ZK,YK,Ne9,Ncb,Nex,Nat.reducePow,SB,seval,NC,NJ,NG,NR,reduceCtorEq,NB,place,NA,ND]
 simp only [SX,Nht,Nme,orL]
theorem N10 [OB] {mp:Bool} {lim:Nat} {a b:Ev} {H:NE} {Q:Value->NE->Prop}:NL E mp lim 96 [.agg (encE a).toArray,.agg (encE b).toArray] H Q=Q (Vi (Tm (TV a) (TV b))) H:=by
 refine pc (by decide) e96 rfl rfl ?_
 rw [b96,c96]
 simp only [n96,r96,encE,Nqz,Nso,Nyp,ZG,ZK,YK,Ne9,Ncb,Nex,Nat.reducePow,SB,seval,NC,NJ,NG,NR,reduceCtorEq,NB,place,NA,ND]
 simp only [TV,Nht,Nme,orL]
theorem ME [OB] {mp:Bool} {lim:Nat} {a b:Mk} {H:NE} {Q:Value->NE->Prop}:NL E mp lim 127 [.agg (QW a).toArray,.agg (QW b).toArray] H Q=Q (.bool (decide (RF a b))) H:=by
 refine pc (by decide) Oeb rfl rfl ?_
 rw [Ofg,c127]
 unfold RF
 by_cases h1:a.scanner=b.scanner
 ·simp only [n127,Oac,QW,N9 h1,decide_true,Ri,SB,seval,NC,NJ,NG,NR,reduceCtorEq,NB,place,NA,ND]
 ·simp only [n127,Oac,QW,Nq h1,decide_false,false_and,SB,seval,NC,NJ,NG,NR,reduceCtorEq,NB,place,NA,ND]
theorem N8k {a b:Int} (h:0<b):a / b=if Int.tmod a b<0 then Int.tdiv a b-1 else Int.tdiv a b:=by
 have h1:=Int.mul_tdiv_add_tmod a b
 by_cases d:0<=a
 ·rw [Ng (by have:=Int.tmod_nonneg b d;omega),Pr d]
 ·have f:Int.tmod a b<=0:=by
   have:=Int.tmod_nonneg b (a:=-a) (by omega)
   rw [Int.neg_tmod] at this;omega
  have e:-b<Int.tmod a b:=by
   have:=Int.tmod_lt_of_pos (-a) h
   rw [Int.neg_tmod] at this;omega
  by_cases c:Int.tmod a b<0
  ·rw [Ni c]
   exact ((Int.ediv_emod_unique (a:=a) (r:=Int.tmod a b+b) (q:=Int.tdiv a b-1) h).mpr ⟨by rw [Int.mul_sub,Int.mul_one];omega,by omega,by omega⟩).1
  ·rw [Ng c]
   exact ((Int.ediv_emod_unique (a:=a) (r:=Int.tmod a b) (q:=Int.tdiv a b) h).mpr ⟨by omega,by omega,by omega⟩).1
theorem N8j [OB] {mp:Bool} {lim:Nat} {a b:Int} {H:NE} {Q:Value->NE->Prop} (h:0<b) (h1:-2 ^ 62<=a) (h2:a<=2 ^ 62):NL E mp lim 145 [Vi a,Vi b] H Q=Q (Vi (a / b)) H:=by
 refine pc (by decide) Od0 rfl rfl ?_
 rw [Oe4,c145]
 have j:-2 ^ 62<=Int.tdiv a b/\Int.tdiv a b<=2 ^ 62:=by
  have:=Int.natAbs_tdiv_le_natAbs a b
  omega
 have d:¬b=0:=by omega
 have e:=N8k (a:=a) h
 have f:IntKind.i64.wrap (Int.tdiv a b)=Int.tdiv a b:=NT (by omega) (by omega)
 have g:IntKind.i64.wrap (Int.tdiv a b-1)=Int.tdiv a b-1:=NT (by omega) (by omega)
 have i:IntKind.i64.wrap (Int.tmod a b)=Int.tmod a b:=by
  have k:=Int.tmod_lt_of_pos a h
  have l:=Int.natAbs_tmod a b
  have m:a.natAbs % b.natAbs<=a.natAbs:=Nat.mod_le _ _
  exact NT (by omega) (by omega)
 by_cases c:Int.tmod a b<0
 ·rw [Ni c] at e
  simp only [n145,N97,Nq d,f,g,i,N9 c,e,SB,seval,NC,NJ,NG,NR,reduceCtorEq,NB,place,NA,ND]
 ·rw [Ng c] at e
  simp only [n145,N97,Nq d,f,g,i,Nq c,e,SB,seval,NC,NJ,NG,NR,reduceCtorEq,NB,place,NA,ND]
theorem N3w [OB] {mp:Bool} {lim B1 B2 c i:Nat} {o1 o2:Bool} {p:Option Addr} {M:List Mk} {sc:Int} {H:NE} {Q:Value->NE->Prop} (h1:NH H B1=.cells o1 [.slice p M.length c]) (h2:NH H B2=.cells o2 [Vi sc]) (hs:Sl H QW 3 p M) (hi:i<M.length) :
  NL E mp lim 171 [Vi i,Vp B1,Vp B2] H Q=Q (.bool (decide (sc<=(gt M i).scanner))) H:=by
 refine pc (by decide) Odu rfl rfl ?_
 rw [Oey,c171]
 have q1:=fun X=>(OJ.refl.app (X:=X)).cells h1
 have q2:=fun X=>(OJ.refl.app (X:=X)).cells h2
 have b:=fun X=>(hs.app X).loadCell (fun _=>rfl) hi (show 0<3 by decide)
 have a:=fun c (k:IntKind) (H1:NE)=>hs.idx (c:=c) (k:=k) (H1:=H1) hi
 simp only [n171,Ode,q1,q2,b,a,XY,ge_iff_le,SB,Nat.reduceLT,NC,NJ,Nat.reduceEqDiff,NG,NR,reduceCtorEq,NB,place,NA,Nat.reduceAdd,Nat.reduceLeDiff,ND,Int.reduceEq,Int.reduceLT,Int.reduceLE]
theorem N9x {x:Int}:IntKind.u64.wrap x=x % 2 ^ 64:=by
 simp only [IntKind.wrap,IntKind.bits,IntKind.signed]
 simp
theorem Ntf [OB] {mp:Bool} {lim B1 B2 c f:Nat} {o1 o2:Bool} {p:Option Addr} {M:List Mk} {sc:Int} {H:NE} {Q:Value->NE->Prop} (h1:NH H B1=.cells o1 [.slice p M.length c]) (h2:NH H B2=.cells o2 [Vi sc]) (hs:Sl H QW 3 p M) (hn:M.length<2 ^ 40)
  (t:f<=M.length) (l:∀i,i<f->(gt M i).scanner<sc) (k:∀i,f<=i->i<M.length->sc<=(gt M i).scanner) :
  NL E mp lim 170 [Vi M.length,.func (.func 171) #[] #[Vp B1,Vp B2]] H Q=Q (Vi f) H:=by
 refine pc (by decide) Odv rfl rfl ?_
 rw [Oez,N8w]
 simp only [n170,N3e,SB,Nat.reduceLT,NC,NJ,Nat.reduceEqDiff,NG,NR,reduceCtorEq,NB,place,NA,Nat.reduceAdd,Nat.reduceLeDiff,ND,Int.reduceEq,Int.reduceLT,Int.reduceLE]
 refine NP (fun s:Nat×Nat=>s.2-s.1) (fun s fr G=>s.1<=f/\f<=s.2/\s.2<=M.length/\fr 1=.func (.func 171) #[] #[Vp B1,Vp B2]/\fr 5=Vi s.1/\fr 6=Vi s.2/\OJ H G) (0,M.length)
  ⟨Nw _,t,Nd _,rfl,by rfl,rfl,OJ.refl.app⟩ ?_
 rintro ⟨i,j⟩ fr G ⟨k1,k2,k3,b,d,e,g⟩ m
 simp only at k1 k2 k3 d e
 rw [NU N0h.eq_1]
 refine NK ?_
 have q1:=fun X=>(g.app (X:=X)).cells h1
 have q2:=fun X=>(g.app (X:=X)).cells h2
 have q3:=fun X=>(g.app (X:=X)).sl hs
 have n:IntKind.i64.wrap ((i:Int)+(j:Int))=(i:Int)+(j:Int):=NT (by omega) (by omega)
 have q:IntKind.u64.wrap ((i:Int)+(j:Int))=(i:Int)+(j:Int):=by rw [N9x];omega
 have o:IntKind.i64.wrap (((i:Int)+(j:Int)).fdiv (2 ^ min (Int.toNat 1) IntKind.u64.bits))=(((i+j) / 2:Nat):Int):=by
  rw [show (2:Int) ^ min (Int.toNat 1) IntKind.u64.bits=2 from by decide,Q2 _ (by decide)]
  exact (NT (by omega) (by omega)).trans (by omega)
 have wd:IntKind.i64.wrap ((((i+j) / 2:Nat):Int)+1)=(((i+j) / 2+1:Nat):Int):=OD (by omega)
 by_cases a:i<j
 ·have ho:=fun (H':NE) (h1:_) (h2:_) (r:_) (lim:Nat) (Q:Value->NE->Prop)=>N3w (mp:=false) (lim:=lim) (H:=H') (o1:=o1) (o2:=o2) (B1:=B1) (B2:=B2) (c:=c) (p:=p) (sc:=sc) (Q:=Q) (M:=M) (i:=(i+j) / 2) h1 h2 r (by omega)
  have h:=fun (X:NE)=>ho (G++X) (q1 X) (q2 X) (q3 X)
  by_cases u:(i+j) / 2<f
  ·have hl:=l _ u
   have hd:decide (sc<=(gt M ((i+j) / 2)).scanner)=false:=N5 (by omega)
   simp only [n170,N3e,b,d,e,a,n,q,o,wd,h,hd,SB,Nat.reduceLT,NC,NJ,Nat.reduceEqDiff,NG,NR,reduceCtorEq,NB,place,NA,Nat.reduceAdd,Nat.reduceLeDiff,ND,Int.reduceEq,Int.reduceLT,Int.reduceLE]
   refine m ((i+j) / 2+1,j) _ _ ⟨by omega,k2,k3,b,rfl,e,g.app⟩ (by simp only;omega)
  ·have hl:=k ((i+j) / 2) (by omega) (by omega)
   have hd:decide (sc<=(gt M ((i+j) / 2)).scanner)=true:=Np hl
   simp only [n170,N3e,b,d,e,a,n,q,o,wd,h,hd,SB,Nat.reduceLT,NC,NJ,Nat.reduceEqDiff,NG,NR,reduceCtorEq,NB,place,NA,Nat.reduceAdd,Nat.reduceLeDiff,ND,Int.reduceEq,Int.reduceLT,Int.reduceLE]
   refine m (i,(i+j) / 2) _ _ ⟨k1,by simp only;omega,by simp only;omega,b,d,rfl,g.app⟩ (by simp only;omega)
 ·obtain rfl:i=f:=by omega
  simp only [n170,N3e,b,d,e,a,SB,Nat.reduceLT,NC,NJ,Nat.reduceEqDiff,NG,NR,reduceCtorEq,NB,place,NA,Nat.reduceAdd,Nat.reduceLeDiff,ND,Int.reduceEq,Int.reduceLT,Int.reduceLE]
def Ngr (sc:Int) (D:List Mk) (i:Nat):List Mk:=(D.drop i).takeWhile fun m=>m.scanner == sc
theorem Nya {sc:Int} {D:List Mk} {i:Nat} (h:i<D.length) (hs:(gt D i).scanner=sc):Ngr sc D i=gt D i::Ngr sc D (i+1):=by
 unfold Ngr
 rw [Ow h,<-PW h,List.takeWhile_cons_of_pos (by simpa using hs)]
theorem N29 {sc:Int} {D:List Mk} {i:Nat} (h:i<D.length) (hs:¬(gt D i).scanner=sc):Ngr sc D i=[]:=by
 unfold Ngr
 rw [Ow h,<-PW h,List.takeWhile_cons_of_neg (by simpa using hs)]
theorem Nyb {sc:Int} {D:List Mk}:Ngr sc D D.length=[]:=by
 unfold Ngr;rw [Qq];rfl
def Wn (sc:Int) (M:List Mk):Nat:=(M.takeWhile fun m=>decide (m.scanner<sc)).length
def N5p (M:List Mk):Prop:=M.Pairwise fun a b=>a.scanner<=b.scanner
theorem N28 {M:List Mk} (h:M.Pairwise Yl):N5p M:=h.imp fun {a b} q=>by unfold Yl at q;omega
theorem Naf {sc:Int}:∀{M:List Mk},N5p M->Wn sc M<=M.length/\(∀i,i<Wn sc M->(gt M i).scanner<sc)/\(∀i,Wn sc M<=i->i<M.length->sc<=(gt M i).scanner)/\Ngr sc (M.drop (Wn sc M)) 0=ofN M sc
 | [],_=>⟨Nd _,fun i h=>absurd h (by simp [Wn]),fun i _ h=>absurd h (by simp),rfl⟩
 | m::M,h=>by
   obtain ⟨h1,h2⟩:=List.pairwise_cons.mp h
   obtain ⟨k,f,g,j⟩:=Naf (sc:=sc) h2
   by_cases c:m.scanner<sc
   ·have e:Wn sc (m::M)=Wn sc M+1:=by
     unfold Wn
     rw [List.takeWhile_cons_of_pos (by simpa using c),Nm]
    rw [e]
    refine ⟨by simp only [Nm];omega,fun i hi=>?_,fun i hi hl=>?_, ?_⟩
    ·cases i with
     | zero=>rw [Nab];exact c
     | succ i=>rw [UF];exact f i (by omega)
    ·cases i with
     | zero=>omega
     | succ i=>rw [UF];exact g i (by omega) (by simpa using hl)
    ·rw [List.drop_succ_cons,j]
     unfold ofN
     rw [Pk (by simp;omega)]
   ·have e:Wn sc (m::M)=0:=by
     unfold Wn
     rw [List.takeWhile_cons_of_neg (by simpa using c)];rfl
    rw [e]
    refine ⟨Nw _,fun i hi=>absurd hi (Nat.not_lt_zero i),fun i _ hl=>?_, ?_⟩
    ·cases i with
     | zero=>rw [Nab];omega
     | succ i=>
       rw [UF]
       have b:i<M.length:=by simpa using hl
       have:=h1 _ (QR b);omega
    ·rw [O1]
     unfold Ngr ofN
     rw [O1]
     clear k f g j e
     have key:∀L:List Mk,N5p L->(∀x∈L,sc<=x.scanner)->(L.takeWhile fun m=>m.scanner == sc)=L.filter fun m=>m.scanner == sc:=by
      intro L
      induction L with
      | nil=>intros;rfl
      | cons x L ih=>
        intro hL a
        obtain ⟨k1,k2⟩:=List.pairwise_cons.mp hL
        by_cases hx:x.scanner=sc
        ·rw [List.takeWhile_cons_of_pos (by simpa using hx),Pz (by simpa using hx),ih k2 fun y d=>a y (Nj _ d)]
        ·rw [List.takeWhile_cons_of_neg (by simpa using hx),Pk (by simpa using hx)]
         symm
         rw [List.filter_eq_nil_iff]
         intro y d
         have l:=k1 y d
         have n:=a x Nn
         simp;omega
     exact key _ h fun x hx=>by
      rcases Nr.mp hx with rfl | hx
      ·omega
      ·have:=h1 x hx;omega
theorem Oas [OB] {lim c n:Nat} {p:Option Addr} {sc:Int} {H:NE} {Q:Value->NE->Prop} :
  NL E false lim 144 [.slice p n c,Vi sc] H Q=Q (.func (.func 169) #[] #[Vp H.length,Vp (H.length+1)]) (H++[Vc [.slice p n c],Vc [Vi sc]]):=by
 refine NL.eq ?_
 refine RG (by decide) Od1 rfl ?_
 rw [Oe5,N8z]
 simp only [n144,Odg,SB,seval,NC,NJ,NG,NR,reduceCtorEq,NB,place,NA,ND]
def Nio (K:Nat->Prop) (H H':NE):Prop:=H.length<=H'.length/\∀j,K j->NH H' j=NH H j
theorem Nio.sl {α:Type} {K:Nat->Prop} {H H':NE} {enc:α->List Value} {e:Nat} {p:Option Addr} {l:List α} (h:Nio K H H') (hs:Sl H enc e p l) (hp:∀a,p=some a->K a.block):Sl H' enc e p l:=by
 cases p with
 | none=>exact hs
 | some a=>
   refine ⟨hs.1,fun hl=>?_⟩
   obtain ⟨ro,c,h1,h2⟩:=hs.2 hl
   exact ⟨ro,c,(h.2 _ (hp a rfl)).trans h1,h2⟩
theorem N3v [OB] {lim Y B1 B2 c:Nat} {p:Option Addr} {M:List Mk} {sc:Int} {H:NE} {Q:Value->NE->Prop} (I:List Mk->NE->Prop) (K:Nat->Prop)
  (z:∀rest H H',I rest H->Chg [] H H'->I rest H')
  (r:∀m rest G,m∈M->m.scanner=sc->H.length<=G.length->I (m::rest) G->WP E false lim Y [.agg (QW m).toArray] G fun v H'=>Nio K G H'/\(v=.bool true/\I rest H'\/v=.bool false/\∀X,Q (.tuple #[]) (H'++X)))
  (h1:NH H B1=Vc [.slice p M.length c]) (h2:NH H B2=Vc [Vi sc]) (hs:Sl H QW 3 p M) (hc:Ua 3 c M.length) (hn:M.length<2 ^ 40) (V:N5p M) (hl:lim<=H.length)
  (F:K B2) (J:M≠[]->∀a,p=some a->K a.block) (U:I (ofN M sc) H) (P:∀H',I [] H'->Q (.tuple #[]) H') :
  NL E false lim 169 [.func (.yield Y) #[] #[],Vp B1,Vp B2] H Q:=by
 refine RG (by decide) Odw rfl ?_
 rw [Oe0,N8x]
 obtain ⟨f1,f2,f3,f4⟩:=Naf (sc:=sc) V
 have q1:=fun X=>(OJ.refl.app (X:=X)).cells h1
 have q2:=fun X=>(OJ.refl.app (X:=X)).cells h2
 have q3:=fun X=>(OJ.refl.app (H:=H) (X:=X)).sl hs
 have N:=fun (X:NE) (lim:Nat) (Q:Value->NE->Prop)=>Ntf (mp:=false) (lim:=lim) (Q:=Q) (sc:=sc) (q1 X) (q2 X) (q3 X) hn f1 f2 f3
 generalize aa:Wn sc M=f at *
 obtain ⟨q,cq,e1,S,m0,m1,_⟩:=UR (vlo:=some (Vi f)) (vhi:=none) (lo:=f) (hi:=M.length) hs hc QJ (fun cap R=>by rw [Nq2 (by omega) (by omega),Od]) f1 (Nd _) (by omega)
 rw [Oj] at S
 have O:(M.drop f).length=M.length-f:=Pw
 simp only [n169,Ntl,q1,q2,N,e1,SB,seval,NC,NJ,NG,NR,reduceCtorEq,NB,place,NA,ND]
 refine NP (fun i=>M.length-f-i) (fun i fr G=>i<=M.length-f/\fr 0=.func (.yield Y) #[] #[]/\fr 2=Vp B2/\fr 13=.slice q (M.length-f) cq/\fr 14=Vi ((M.length-f:Nat):Int)/\fr 15=Vi i/\
  NH G B2=Vc [Vi sc]/\Sl G QW 3 q (M.drop f)/\H.length<=G.length/\I (Ngr sc (M.drop f) i) G) 0
  ⟨Nw _,rfl,rfl,rfl,rfl,by rfl,q2 _,S.app _,by simp,by rw [f4];exact z _ _ _ U (Chg.refl.app)⟩ ?_
 rintro i fr G ⟨hi,w,x,d,g,j,T,D,gL,y⟩ W
 rw [NU N0i.eq_1]
 refine NK ?_
 by_cases n:i<M.length-f
 ·have l:i<(M.drop f).length:=by omega
  have u:=fun X=>(OJ.refl.app (X:=X)).cells T
  have B:=fun X=>(D.app X).loadCells QJ l
  have t:∀(c:Nat) (k:IntKind) (H1:NE),Z5 3 (.slice q (M.length-f) c) (.int k (i:Int)) H1=some (.pointer (some (Zv q 3 i)),H1):=fun c k H1=>by
   rw [<-O];exact D.idx l
  have s:IntKind.i64.wrap ((i:Int)+1)=((i+1:Nat):Int):=OD (by omega)
  have A:lim<=G.length:=by omega
  have C:gt (M.drop f) i∈M:=List.mem_of_mem_drop (QR l)
  by_cases o:(gt (M.drop f) i).scanner=sc
  ·rw [Nya l o] at y
   simp only [n169,Ntl,w,x,d,g,j,u,NN,n,B,t,s,A,NF,QJ,XY,YR,YQ,NI,N9 o,QW,not_true,decide_false,decide_true,SB,seval,NC,NJ,NG,NR,reduceCtorEq,NB,place,NA,ND]
   refine (r _ _ _ C o (by simp;omega) (z _ _ _ y Chg.refl.app)).mono fun v H' hv=>?_
   obtain ⟨hk,⟨rfl,L⟩ | ⟨rfl,hq⟩⟩:=hv
   ·refine NK ?_
    simp only [n169,Ntl,w,x,d,g,j,s,SB,seval,NC,NJ,NG,NR,reduceCtorEq,NB,place,NA,ND]
    refine W (i+1) _ _ ⟨by omega,w,x,d,g,rfl, ?_, ?_, ?_, ?_⟩ (by omega)
    ·exact (OJ.refl.app).cells ((hk.2 _ F).trans (u _))
    ·exact (hk.sl (D.app _) fun a Z=>by
      obtain ⟨b,hb,e⟩:=m1 a Z
      rw [e];exact J (fun h=>by rw [h] at n;simp at n) b hb).app _
    ·have:=hk.1
     simp at this⊢;omega
    ·exact z _ _ _ L Chg.refl.app
   ·refine NK ?_
    simp only [n169,Ntl,w,x,d,g,j,s,SB,seval,NC,NJ,NG,NR,reduceCtorEq,NB,place,NA,ND]
    exact hq _
  ·rw [N29 l o] at y
   simp only [n169,Ntl,w,x,d,g,j,u,NN,n,B,t,s,A,NF,QJ,XY,YR,YQ,NI,Nq o,QW,not_false_eq_true,decide_false,decide_true,SB,seval,NC,NJ,NG,NR,reduceCtorEq,NB,place,NA,ND]
   exact P _ (z _ _ _ y Chg.refl.app)
 ·obtain rfl:i=M.length-f:=by omega
  rw [<-O,Nyb] at y
  simp only [n169,Ntl,w,x,d,g,j,NN,n,SB,seval,NC,NJ,NG,NR,reduceCtorEq,NB,place,NA,ND]
  exact P _ (z _ _ _ y Chg.refl.app)
end Go.Proofs.YtkppjkkkdpcgiaaGreat.Fn


