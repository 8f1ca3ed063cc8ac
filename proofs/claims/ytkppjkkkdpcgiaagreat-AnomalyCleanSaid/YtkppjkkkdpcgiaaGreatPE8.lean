/-
  Joined texts, 8 of 9. A part of the claim that the last text states.
-/
import Derived.Test.YtkppjkkkdpcgiaaGreatPE7
set_option linter.unusedVariables false
set_option linter.unusedSimpArgs false
set_option linter.defProp false
set_option linter.unusedSectionVars false
set_option maxRecDepth 100000
set_option maxHeartbeats 4000000
namespace Go.Proofs.YtkppjkkkdpcgiaaGreat.Fn
open Go.AM Go.AM.Sym Go.Scan Go.Sort
def Nku (p:Option Addr):List Nat:=match p with
 | none=>[]
 | some a=>[a.block]
theorem Ncs {p:Option Addr} {j:Nat} (h:j∈Nku p):∃a,p=some a/\j=a.block:=by
 cases p with
 | none=>cases h
 | some a=>exact ⟨a,rfl,by simpa [Nku] using h⟩
theorem Ncr {p:Option Addr} {j:Nat} (h:j∉Nku p):∀a,p=some a->j≠a.block:=fun a e h2=>h (by rw [e];simp [Nku,h2])
structure FSt (H:NE) (EV:List Ev) (B Mp:Nat) (kr tr:List Ev) (es:List ((Int×Int×Int)×Int)) (kp tp:Option Addr) (kc tc:Nat) (G:NE):Prop where
 mp:NF G Mp=.map (Tm kS vI es)
 ev:NF G B=Vc (EV.flatMap encE)
 ko:Own (Mp+1) G encE 7 kp kc kr.reverse
 to:Own (Mp+1) G encE 7 tp tc tr.reverse
 ne:∀a b,kp=some a->tp=some b->a.block≠b.block
 old:∀j,j<H.length->NF G j=NF H j
 len:Mp<G.length
 rel:∀e,Na9 (RX e) es=(Xn e kr).map (·.time)
 sub:∀x∈kr,x∈EV
 kn:kr=[]->kp=none
 tn:tr=[]->tp=none
theorem FSt.twice {H:NE} {EV:List Ev} {B Mp:Nat} {kr tr:List Ev} {es:List ((Int×Int×Int)×Int)} {kp tp:Option Addr} {kc tc:Nat} {G:NE} {lim:Nat} (h:FSt H EV B Mp kr tr es kp tp kc tc G) (hl:lim<=H.length) (n:H.length<=B) (m:B<Mp) (e:Ev) (hn:tr.length<4000) (x y:Blk) :
  ∃G',OT lim none 7 56 false (.slice tp tr.length tc) (.slice (Sa (G.length+2)) 1 1) (G++[x,y,Vc (encE e)])=some (.slice (Sa (G.length+3)) (tr.length+1) (loose 7),G'++[])/\FSt H EV B Mp kr (e::tr) es kp (Sa (G.length+3)) kc (loose 7) (G'++[]):=by
 have len:=h.len
 obtain ⟨G2,e2,d,_,c,g,_⟩:=h.to.step (lim':=lim) (bytes:=56) (by omega) OC (by decide) e (by rw [List.length_reverse];unfold PN;omega) (by rw [List.length_reverse];omega) (by omega) [x,y,Vc (encE e)] (G.length+2) 1 (by rw [NW];rfl)
 rw [List.length_reverse] at e2
 simp only [Nl,Ns,N0,Nat.reduceAdd] at e2 d g
 have nt:∀j,j<=Mp->∀a,tp=some a->j≠a.block:=fun j i a f=>by have:=(h.to.block f).1;omega
 have hc:Chg (Nku tp) G (G2++[]):=⟨by simp;omega,fun j i l=>c j i (Ncr l)⟩
 refine ⟨G2,e2,(c _ len (nt _ (Nd _))).trans h.mp,(c _ (by omega) (nt _ (by omega))).trans h.ev,h.ko.chg hc fun a f o=>?_,by rw [List.reverse_cons];exact d,fun a b f k=>?_,fun j i=>(c j (by omega) (nt _ (by omega))).trans (h.old j i),by simp;omega,h.rel,h.sub,h.kn,fun h=>(by cases h)⟩
 ·obtain ⟨b,k,e⟩:=Ncs o
  exact h.ne a b f k e
 ·cases k
  have:=(h.ko.block f).2
  show a.block≠G.length+3
  omega
theorem Npd {e x:Ev} {kr:List Ev}:Xn e (x::kr)=if RX x=RX e then some x else Xn e kr:=by
 unfold Xn
 by_cases h:RX x=RX e
 ·rw [List.find?_cons_of_pos (by simpa using h),Ni h]
 ·rw [List.find?_cons_of_neg (by simpa using h),Nh h]
theorem FSt.kept {H:NE} {EV:List Ev} {B Mp:Nat} {kr tr:List Ev} {es:List ((Int×Int×Int)×Int)} {kp tp:Option Addr} {kc tc:Nat} {G:NE} {lim:Nat} (h:FSt H EV B Mp kr tr es kp tp kc tc G) (hl:lim<=H.length) (s:H.length<=B) (r:B<Mp) (e:Ev) (he:e∈EV) (hn:kr.length<4000) (x y:Blk) :
  ∃G1,(∀X:NE,(G++X).set Mp (.map (Tm kS vI (Ww (RX e) e.time es)))=G1++X)/\∃G',OT lim none 7 56 false (.slice kp kr.length kc) (.slice (Sa (G1.length+2)) 1 1) (G1++[x,y,Vc (encE e)])=some (.slice (Sa (G1.length+3)) (kr.length+1) (loose 7),G'++[])/\
   FSt H EV B Mp (e::kr) tr (Ww (RX e) e.time es) (Sa (G1.length+3)) tp (loose 7) tc (G'++[])/\G1.length=G.length:=by
 have len:=h.len
 obtain ⟨G1,e1,h1,k⟩:=OP (G:=G) (R:=Mp) len (.map (Tm kS vI (Ww (RX e) e.time es)))
 have u:=k.len
 have nk:∀j,j<=Mp->∀a,kp=some a->j≠a.block:=fun j g a d=>by have:=(h.ko.block d).1;omega
 have nt:∀j,j<=Mp->∀a,tp=some a->j≠a.block:=fun j g a d=>by have:=(h.to.block d).1;omega
 have n:=h.ko.mut k (fun a d=>(nk Mp (Nd _) a d).symm)
 have o:=h.to.mut k (fun a d=>(nt Mp (Nd _) a d).symm)
 obtain ⟨G2,e2,f,_,c,i,_⟩:=n.step (lim':=lim) (bytes:=56) (by omega) OC (by decide) e (by rw [List.length_reverse];unfold PN;omega) (by rw [List.length_reverse];omega) (by omega) [x,y,Vc (encE e)] (G1.length+2) 1 (by rw [NW];rfl)
 rw [List.length_reverse] at e2
 simp only [Nl,Ns,N0,Nat.reduceAdd] at e2 f i
 have hc:Chg (Nku kp) G1 (G2++[]):=⟨by simp;omega,fun j g p=>c j g (Ncr p)⟩
 refine ⟨G1,e1,G2,e2,⟨(c _ (by omega) (nk _ (Nd _))).trans h1,(c _ (by omega) (nk _ (by omega))).trans ((k.other _ (by omega)).trans h.ev),by rw [List.reverse_cons];exact f,o.chg hc fun a d t=>?_,fun a b d m=>?_,fun j g=>(c j (by omega) (nk _ (by omega))).trans ((k.other j (by omega)).trans (h.old j g)),by simp;omega,fun a=>?_,fun z hz=>?_,fun h=>(by cases h),h.tn⟩,u⟩
 ·obtain ⟨b,m,e⟩:=Ncs t
  exact h.ne b a m d e.symm
 ·cases d
  have:=(h.to.block m).2
  show G1.length+3≠b.block
  omega
 ·rw [Nl5,Npd,h.rel]
  by_cases l:RX a=RX e
  ·rw [Ni l,Ni l.symm];rfl
  ·rw [Nh l,Nh fun q=>l q.symm]
 ·rcases Np.mp hz with rfl | hz
  ·exact he
  ·exact h.sub z hz
theorem Ncp [OB] {lim c:Nat} {p:Option Addr} {S:List Ev} {H:NE} {Q:Value->NE->Prop} (hs:Sl H QL 6 p S) (hS:QW S) (hl:lim<=H.length)
  (hQ:∀G kp kc tp tc,Own H.length G encE 7 kp kc (OO S).1->Own H.length G encE 7 tp tc (OO S).2->(∀a b,kp=some a->tp=some b->a.block≠b.block)->Chg [] H G->((OO S).1=[]->kp=none)->((OO S).2=[]->tp=none)->Q (.tuple #[.slice kp (OO S).1.length kc,.slice tp (OO S).2.length tc]) (G++[])) :
  NL Ef false lim 56 [.slice p S.length c] H Q:=by
 have hn:=hS.1
 refine Ngo (by decide) e56 rfl ?_
 rw [b56,c56]
 simp only [n56,r56,SB,seval,NC,NJ,NG,NQ,reduceCtorEq,NB,place,NA,ND]
 rw [Nb]
 refine gather_ok hs hS hl fun G pm cm sm aw hC=>?_
 have az:=Go.Scan.gather_ok hS.2
 generalize hM:Ro S=M at *
 have lM:M.length<=2000:=by rw [<-hM];have:=Npp S;omega
 have bq:=hC.len
 have aq:∀G',(∀j,j<H.length->NF G' j=NF H j)->Sl G' QL 6 p S:=fun G' ho=>Sl.same hs fun a ha ac=>by
  subst ha;exact ho _ (hs.lt ac)
 have a1:(S.length:Int)*56<=2 ^ 45:=by omega
 have a2:(S.length:Int)<2 ^ 62:=by omega
 have hz:(List.range (S.length*7)).length=S.length*7:=O7
 have bb:(0:Int)<=(S.length:Int):=by omega
 have ad:∀z:List Value,z.length=S.length*7->ESt H M S p pm G.length 0 (G++[Vc z]):=fun z hz=>by
  have ho:∀j,j<H.length->NF (G++[Vc z]) j=NF H j:=fun j I=>by rw [NN (by omega),hC.other j I (by simp)]
  exact ⟨⟨z,by rw [hz,Nat.sub_zero],by rw [NV];rfl⟩,sm.app _,aq _ ho,ho,by simp⟩
 simp only [n56,r56,a1,a2,N2,Rg,bb,SB,Nat.reduceLT,NC,NJ,Nat.reduceEqDiff,NG,NQ,reduceCtorEq,NB,place,NA,Nat.reduceAdd,Nat.reduceLeDiff,ND,Int.reduceEq,Int.reduceLT,Int.reduceLE]
 refine NR (fun i=>S.length-i) (fun i fr G2=>i<=S.length/\fr 2=Vz/\fr 3=Vz/\fr 4=.slice pm M.length cm/\fr 5=.slice (Sa G.length) i S.length/\fr 19=.slice p S.length c/\fr 20=Vi S.length/\fr 21=Vi i/\ESt H M S p pm G.length i G2) 0
  ⟨Nz _,rfl,rfl,rfl,rfl,rfl,rfl,by rfl,ad _ (by rw [Nu,O7])⟩ ?_
 ·rintro i fr G2 ⟨hi,g2,g3,g4,g5,V,W,ah,⟨rest,K,D⟩,au,av,U,T⟩ hN
  rw [NS N5x.eq_1]
  refine NM ?_
  by_cases o:i<S.length
  ·have ba:=fun X=>(av.app X).loadCells OU o
   have ao:=fun c (k:IntKind) (H1:NE)=>av.idx (c:=c) (k:=k) (H1:=H1) o
   have bh:IntKind.i64.wrap ((i:Int)+1)=((i+1:Nat):Int):=OG (by omega)
   have hf:Sb (gt S i):=hS.2 _ (R6 o)
   have a3:=fun X (mp:Bool) (lim:Nat) (Q:Value->NE->Prop)=>Np6 (mp:=mp) (lim:=lim) (Q:=Q) (au.app X) aw (by omega) az hf
   have a9:lim<=G2.length:=by omega
   have al:=N33 (M:=M) o
   generalize bu:gt S i=s at *
   generalize bw:V4 M s=t at *
   have bd:QN [Value.int .i64 0,Vi 0,Vi 0,.int .u8 0,Vi 0,Vi 0,Vi 0] 0 (QL s)=[Vi s.item,Vi s.place,Vi s.scanner,.int .u8 s.kind,Vi s.at',Vi s.seen,Vi 0]:=rfl
   have hev:[Value.int .i64 s.item,Vi s.place,Vi s.scanner,.int .u8 s.kind,Vi s.at',Vi s.seen,Vi t]=encE { s with time:=t }:=rfl
   generalize hex:{ s with time:=t }=e at *
   have L:((Nmf M S).take i).length=i:=by rw [Oy,Xr];omega
   obtain ⟨E,e3,h3,m3⟩:=OP (G:=G2) (R:=G.length) T (Vc ((((Nmf M S).take i)++[e]).flatMap encE++rest.drop 7))
   have O:=Nae (lim:=lim) (R:=G.length) (bytes:=56) (cap:=S.length) (k:=1) (b:=G2.length+1) (dest:=some (G2.length+2)) (H:=G2++[Vc (QL s),Vc (encE e),.dead]) (enc:=encE) (old:=(Nmf M S).take i) (x:=e) (ro:=false) (rest:=rest) OC (by decide)
    (by rw [NW];rfl) (by rw [NN T];exact D) (by omega) (by rw [L];omega) (by rw [L];exact K) (by omega) (by rw [L];unfold PN;omega)
   rw [L,e3] at O
   simp only [n56,r56,g2,g3,g4,g5,V,W,ah,NU,o,ao,ba,a9,OU,Vy,Vx,Vw,Vv,Vu,Vt,NI,NH,a3,bh,bd,hev,OC,O,SB,seval,NC,NJ,NG,NQ,reduceCtorEq,NB,place,NA,ND]
   have l3:=m3.len
   have J:∀j,j<H.length->NF (E++[Vc (QL s),Vc (encE e),.dead]) j=NF H j:=fun j I=>by
    rw [NN (by omega),m3.other j (by omega)];exact U j I
   have bk:Sl E QT 3 pm M:=Sl.same au fun a ha ac=>by
    subst ha
    have:=sm.lt ac
    exact m3.other _ (by omega)
   refine hN (i+1) _ _ ⟨by omega,g2,g3,g4,rfl,V,W,rfl,⟨⟨rest.drop 7,by rw [Pt,K];omega, ?_⟩,bk.app _,aq _ J,J,by simp;omega⟩⟩ (by omega)
   rw [NN (by omega),h3,Of (i:=i) (by rw [Xr];exact o),<-PZ,al]
  ·obtain rfl:i=S.length:=by omega
   have bc:rest=[]:=by
    rw [Qt,Qh] at K
    exact List.length_eq_zero_iff.mp K
   rw [bc,Nb,Og (by rw [Xr];exact Nd _)] at D
   obtain ⟨E,s1,s2,s3⟩:=Nxh (lim:=lim) (cap:=S.length) D (by omega) (by rw [Xr];omega)
   rw [Xr] at s1
   have am:UE Tx (Nmf M S)=Sj M S:=rfl
   rw [am] at s2
   simp only [n56,r56,g2,g3,g4,g5,V,W,ah,NU,o,s1,SB,seval,NC,NJ,NG,NQ,reduceCtorEq,NB,place,NA,ND]
   have a0:OO S=Tg [] [] (Sj M S):=by rw [<-hM];rfl
   generalize ai:Sj M S=EV at *
   have aj:EV.length=S.length:=by rw [<-ai,Npx]
   have l3:=s3.len
   have J:∀j,j<H.length->NF E j=NF H j:=fun j I=>by rw [s3.other j (by omega) (by simp;omega)];exact U j I
   have an:∀x∈EV,0<=x.time/\x.time<=1051898399:=fun x hx=>by
    rw [<-ai] at hx
    obtain ⟨z,hz,rfl⟩:=Mc.mp hx
    have ar:=hS.2 z hz
    have:=Nq4 (M:=M) ar
    unfold Sb VE at ar
    simp only;omega
   have ay:=NK s2
   refine NR (S:=Nat×List Ev×List Ev×List ((Int×Int×Int)×Int)×Option Addr×Option Addr×Nat×Nat) (fun s=>S.length-s.1) (fun s fr F=>s.1<=S.length/\Tg s.2.1 s.2.2.1 (EV.drop s.1)=OO S/\s.2.1.length<=s.1/\s.2.2.1.length<=s.1/\
    fr 2=.slice s.2.2.2.2.1 s.2.1.length s.2.2.2.2.2.2.1/\fr 3=.slice s.2.2.2.2.2.1 s.2.2.1.length s.2.2.2.2.2.2.2/\fr 8=.map (some E.length)/\fr 37=.slice (Sa G.length) S.length S.length/\fr 38=Vi S.length/\fr 39=Vi s.1/\
    FSt H EV G.length E.length s.2.1 s.2.2.1 s.2.2.2.1 s.2.2.2.2.1 s.2.2.2.2.2.1 s.2.2.2.2.2.2.1 s.2.2.2.2.2.2.2 F) (0,[],[],[],none,none,0,0)
    ⟨Nz _,by rw [Ov];exact a0.symm,Nd _,Nd _,(by simp only [g2,Ns,FB,Nat.reduceEqDiff]),(by simp only [g3,Ns,FB,Nat.reduceEqDiff]),rfl,rfl,rfl,by rfl,⟨by rw [NV];rfl,by rw [NN ay];exact s2,.inl ⟨rfl,rfl,rfl⟩,.inl ⟨rfl,rfl,rfl⟩,fun a b h=>(by cases h),fun j I=>by rw [NN (by omega)];exact J j I,by simp,fun e=>rfl,fun x hx=>(O8 hx).elim,fun _=>rfl,fun _=>rfl⟩⟩ ?_
   rintro ⟨i,kr,tr,es,kp,tp,kc,tc⟩ bo F ⟨a6,l,a7,be,f2,f3,f8,u,m,w,st⟩ aa
   simp only at a6 l a7 be f2 f3 w st
   rw [NS N5y.eq_1]
   refine NM ?_
   by_cases q:i<S.length
   ·have y:i<EV.length:=by omega
    have P:Sl F encE 7 (Sa G.length) EV:=Sl.row OC st.ev
    have C:=fun X=>(P.app X).loadCells OC y
    have n:∀(c:Nat) (k:IntKind) (H1:NE),Zv 7 (.slice (Sa G.length) S.length c) (.int k (i:Int)) H1=some (.pointer (some (YI (Sa G.length) 7 i)),H1):=fun c k H1=>by
     rw [<-aj];exact P.idx y
    have ag:IntKind.i64.wrap ((i:Int)+1)=((i+1:Nat):Int):=OG (by omega)
    have ak:gt EV i∈EV:=R6 y
    have a4:EV.drop i=gt EV i::EV.drop (i+1):=by rw [Ou y,PZ y]
    rw [a4] at l
    have f:=st.rel (gt EV i)
    generalize hex:gt EV i=e at *
    have hk:Us (.ints [.i64,.i64,.u8]) (.agg #[Vi e.item,Vi e.place,.int .u8 e.kind])=true:=N9x (k:=RX e)
    have g:=YE (vv:=vI) N9y (RX e) es 0
    have ap:kS (RX e)=.agg #[Vi e.item,Vi e.place,.int .u8 e.kind]:=rfl
    rw [ap] at g
    have d:=Npt (RX e) es 0
    have Z:∀X,NF (F++X) E.length=.map (Tm kS vI es):=fun X=>by rw [NN st.len];exact st.mp
    have B:lim<=F.length:=by have:=st.len;omega
    have A:lim<=E.length:=by omega
    have N:∀(em:List (Value×Value)),em=Tm kS vI (Ww (RX e) e.time es)->
      ∃G1,(∀X:NE,(F++X).set E.length (.map em)=G1++X)/\(∀Y,NF (G1++Vc (encE e)::Y) F.length=Vc (encE e))/\∃G',OT lim none 7 56 false (.slice kp kr.length kc) (.slice (Sa (G1.length+2)) 1 1) (G1++[Vc (encE e),Vc [Vi e.item,Vi e.place,.int .u8 e.kind],Vc (encE e)])=some (.slice (Sa (G1.length+3)) (kr.length+1) (loose 7),G'++[])/\
       FSt H EV G.length E.length (e::kr) tr (Ww (RX e) e.time es) (Sa (G1.length+3)) tp (loose 7) tc (G'++[]):=by
     intro em a5
     subst a5
     obtain ⟨G1,e1,G',e2,bm,l1⟩:=st.kept hl (by omega) (by omega) e ak (by omega) (Vc (encE e)) (Vc [Vi e.item,Vi e.place,.int .u8 e.kind])
     exact ⟨G1,e1,fun Y=>by rw [<-l1];exact NV,G',e2,bm⟩
    obtain ⟨GT,ax,bn⟩:=st.twice hl (by omega) (by omega) e (by omega) (Vc (encE e)) (Vc [Vi e.item,Vi e.place,.int .u8 e.kind])
    cases hc:fk (RX e) es 0 with
    | none=>
      rw [hc] at g d
      simp only [On] at g d
      have r:=Ni2 (v':=e.time) hc
      have htw:WM e kr=false:=by
       unfold WM
       rw [<-d] at f
       cases hq:Xn e kr with
       | none=>rfl
       | some z=>rw [hq] at f;cases f
      obtain ⟨G1,e1,R1,G',e2,fin⟩:=N (Tm kS vI es++[(.agg #[Vi e.item,Vi e.place,.int .u8 e.kind],Vi e.time)]) (by rw [<-r];simp only [Tm,O1,Oc,List.map_nil];rfl)
      simp only [n56,r56,f2,f3,f8,u,m,w,NU,q,n,C,B,A,OC,QV,Rv,Ru,Rt,Rs,Rq,QU,NI,NH,ag,Z,hk,g,e1,R1,e2,SB,seval,NC,NJ,NG,NQ,reduceCtorEq,NB,place,NA,ND]
      exact aa (i+1,e::kr,tr,Ww (RX e) e.time es,Sa (G1.length+3),tp,loose 7,tc) _ _ ⟨by simp only;omega,by rw [<-l,Tg,htw];rfl,by simp only [Nl];omega,by simp only;omega,(by simp only [Nl,FB,Nat.reduceEqDiff]),f3,f8,u,m,rfl,fin⟩ (by simp only;omega)
    | some x=>
      obtain ⟨j,v⟩:=x
      rw [hc] at g d
      simp only [Nv] at g d
      have r:=(Ni1 (v':=e.time) hc).2.2
      rw [Nat.sub_zero] at r
      rw [<-d] at f
      cases hq:Xn e kr with
      | none=>rw [hq] at f;cases f
      | some z=>
      rw [hq] at f
      have bg:v=z.time:=by simpa using f
      have hz:=an z (st.sub z (Npc hq).1)
      have bv:=an e ak
      have bf:vI v=Vi z.time:=by rw [bg];rfl
      rw [bf] at g
      have wd:IntKind.i64.wrap (e.time-z.time)=e.time-z.time:=NT (by omega) (by omega)
      by_cases hd:e.time-z.time<=10
      ·have htw:WM e kr=true:=Njx.mpr ⟨z,hq,hd⟩
       simp only [n56,r56,f2,f3,f8,u,m,w,NU,q,n,C,B,A,OC,QV,Rv,Ru,Rt,Rs,Rq,QU,NI,NH,ag,Z,hk,g,wd,N7 hd,ax,SB,seval,NC,NJ,NG,NQ,reduceCtorEq,NB,place,NA,ND]
       exact aa (i+1,kr,e::tr,es,kp,Sa (F.length+3),kc,loose 7) _ _ ⟨by simp only;omega,by rw [<-l,Tg,htw];rfl,by simp only;omega,by simp only [Nl];omega,f2,(by simp only [Nl,FB,Nat.reduceEqDiff]),f8,u,m,rfl,bn⟩ (by simp only;omega)
      ·have htw:WM e kr=false:=by unfold WM;rw [hq];exact N8 hd
       obtain ⟨G1,e1,R1,G',e2,fin⟩:=N ((Tm kS vI es).set j (.agg #[Vi e.item,Vi e.place,.int .u8 e.kind],Vi e.time)) (by rw [<-r];simp only [Tm,List.map_set];rfl)
       simp only [n56,r56,f2,f3,f8,u,m,w,NU,q,n,C,B,A,OC,QV,Rv,Ru,Rt,Rs,Rq,QU,NI,NH,ag,Z,hk,g,wd,Nr hd,e1,R1,e2,SB,seval,NC,NJ,NG,NQ,reduceCtorEq,NB,place,NA,ND]
       exact aa (i+1,e::kr,tr,Ww (RX e) e.time es,Sa (G1.length+3),tp,loose 7,tc) _ _ ⟨by simp only;omega,by rw [<-l,Tg,htw];rfl,by simp only [Nl];omega,by simp only;omega,(by simp only [Nl,FB,Nat.reduceEqDiff]),f3,f8,u,m,rfl,fin⟩ (by simp only;omega)
   ·obtain rfl:i=S.length:=by omega
    rw [<-aj,Qo] at l
    have ab:kr.reverse=(OO S).1:=Qg Prod.fst l
    have ae:tr.reverse=(OO S).2:=Qg Prod.snd l
    have ko:=st.ko
    have to:=st.to
    have lk:kr.length=(OO S).1.length:=by rw [<-ab,List.length_reverse]
    have lt:tr.length=(OO S).2.length:=by rw [<-ae,List.length_reverse]
    rw [ab] at ko
    rw [ae] at to
    rw [lk] at f2
    rw [lt] at f3
    simp only [n56,r56,f2,f3,m,w,NU,q,SB,seval,NC,NJ,NG,NQ,reduceCtorEq,NB,place,NA,ND]
    refine hQ F kp kc tp tc (ko.le (by omega)) (to.le (by omega)) st.ne ⟨by have:=st.len;omega,fun j I _=>st.old j I⟩ (fun h=>st.kn (List.reverse_eq_nil_iff.1 (ab.trans h))) (fun h=>st.tn (List.reverse_eq_nil_iff.1 (ae.trans h)))
theorem M4 [OB] {mp:Bool} {lim c:Nat} {p:Option Addr} {S:List Ev} {H:NE} {Q:Value->NE->Prop} (hs:Sl H QL 6 p S) (hn:S.length<2 ^ 63) :
  NL Ef mp lim 55 [.slice p S.length c] H Q=Q (.bool (decide (QW S))) H:=NL.eqF (by rw [Nsv hs hn];exact ⟨rfl,rfl⟩)
theorem Order_ok [OB] (a:∀as H,OB.eff 36 as H=none) {lim c:Nat} {p:Option Addr} {S:List Ev} {H:NE} {Q:Value->NE->Prop} (hs:Sl H QL 6 p S) (hS:QW S) (hl:lim<=H.length)
  (d:∀G kp kc,Own H.length G encE 7 kp kc (OO S).1->Chg [] H G->((OO S).1=[]->kp=none)->Q (.tuple #[.slice kp (OO S).1.length kc,Vi 0]) (G++[])) :
  NL Ef false lim 36 [.slice p S.length c] H Q:=by
 refine Nq6 (by decide) a e36 rfl ?_
 rw [b36,c36]
 have hr:=fun (X:NE) (mp:Bool) (lim:Nat) (Q:Value->NE->Prop)=>M4 (mp:=mp) (lim:=lim) (Q:=Q) (c:=c) (hs.app X) (by have:=hS.1;omega)
 simp only [n36,r36,hr,Nq hS,SB,seval,NC,NJ,NG,NQ,reduceCtorEq,NB,place,NA,ND]
 rw [Nb]
 refine Ncp hs hS hl fun G kp kc tp tc h1 h2 e b h5 f=>?_
 simp only [n36,r36,SB,seval,NC,NJ,NG,NQ,reduceCtorEq,NB,place,NA,ND]
 exact d G kp kc h1 b h5
theorem Order_no [OB] (a:∀as H,OB.eff 36 as H=none) {lim c:Nat} {p:Option Addr} {S:List Ev} {H:NE} {Q:Value->NE->Prop} (hs:Sl H QL 6 p S) (hn:S.length<2 ^ 63) (hS:¬QW S) :
  NL Ef false lim 36 [.slice p S.length c] H Q=Q (.tuple #[Vz,Vi 2]) H:=by
 refine NL.eq ?_
 refine Nq6 (by decide) a e36 rfl ?_
 rw [b36,c36]
 have hr:=fun (X:NE) (mp:Bool) (lim:Nat) (Q:Value->NE->Prop)=>M4 (mp:=mp) (lim:=lim) (Q:=Q) (c:=c) (hs.app X) hn
 simp only [n36,r36,hr,N8 hS,SB,seval,NC,NJ,NG,NQ,reduceCtorEq,NB,place,NA,ND]
 exact Nb H
theorem Doubled_ok [OB] (a:∀as H,OB.eff 27 as H=none) {lim c:Nat} {p:Option Addr} {S:List Ev} {H:NE} {Q:Value->NE->Prop} (hs:Sl H QL 6 p S) (hS:QW S) (hl:lim<=H.length)
  (e:∀G tp tc,Own H.length G encE 7 tp tc (OO S).2->Chg [] H G->((OO S).2=[]->tp=none)->Q (.tuple #[.slice tp (OO S).2.length tc,Vi 0]) (G++[])) :
  NL Ef false lim 27 [.slice p S.length c] H Q:=by
 refine Nq6 (by decide) a e27 rfl ?_
 rw [b27,c27]
 have hr:=fun (X:NE) (mp:Bool) (lim:Nat) (Q:Value->NE->Prop)=>M4 (mp:=mp) (lim:=lim) (Q:=Q) (c:=c) (hs.app X) (by have:=hS.1;omega)
 simp only [n27,r27,hr,Nq hS,SB,seval,NC,NJ,NG,NQ,reduceCtorEq,NB,place,NA,ND]
 rw [Nb]
 refine Ncp hs hS hl fun G kp kc tp tc h1 h2 f b h5 d=>?_
 simp only [n27,r27,SB,seval,NC,NJ,NG,NQ,reduceCtorEq,NB,place,NA,ND]
 exact e G tp tc h2 b d
theorem Doubled_no [OB] (a:∀as H,OB.eff 27 as H=none) {lim c:Nat} {p:Option Addr} {S:List Ev} {H:NE} {Q:Value->NE->Prop} (hs:Sl H QL 6 p S) (hn:S.length<2 ^ 63) (hS:¬QW S) :
  NL Ef false lim 27 [.slice p S.length c] H Q=Q (.tuple #[Vz,Vi 2]) H:=by
 refine NL.eq ?_
 refine Nq6 (by decide) a e27 rfl ?_
 rw [b27,c27]
 have hr:=fun (X:NE) (mp:Bool) (lim:Nat) (Q:Value->NE->Prop)=>M4 (mp:=mp) (lim:=lim) (Q:=Q) (c:=c) (hs.app X) hn
 simp only [n27,r27,hr,N8 hS,SB,seval,NC,NJ,NG,NQ,reduceCtorEq,NB,place,NA,ND]
 exact Nb H
end Go.Proofs.YtkppjkkkdpcgiaaGreat.Fn


namespace Go.Proofs.YtkppjkkkdpcgiaaGreat.Fn
open Go.AM Go.AM.Sym Go.Net Go.Scan
def TH (a:An):List Value:=[.int .u8 a.kind,Vi a.ev,Vi a.other,Vi a.place,Vi a.mins]
theorem RN (a:An):(TH a).length=5:=id rfl
def MU (b:Bool):List Value:=[.bool b]
theorem Zn (b:Bool):(MU b).length=1:=id rfl
theorem N01 {x:Stp}:(enc3 x)[0]? = some (Vi x.1):=id rfl
theorem Np1 {x:Stp}:(enc3 x)[1]? = some (Vi x.2.1):=id rfl
theorem N7e {x:Stp}:(enc3 x)[2]? = some (Vi x.2.2):=id rfl
def Uh (pe:Option Addr) (n ce:Nat) (q:Option Addr) (nk cq:Nat) (r:Option Addr) (ns cr:Nat) (c:Int) (pl:Option Addr) (nl cl:Nat):List Value:=[.slice pe n ce,.slice q nk cq,.slice r ns cr,Vi c,.slice pl nl cl]
section
variable {pe q r pl:Option Addr} {n ce nk cq ns cr nl cl:Nat} {c:Int}
theorem QS:(Uh pe n ce q nk cq r ns cr c pl nl cl).length=5:=id rfl
theorem TS:(Uh pe n ce q nk cq r ns cr c pl nl cl)[0]? = some (.slice pe n ce):=id rfl
theorem Ug:(Uh pe n ce q nk cq r ns cr c pl nl cl)[1]? = some (.slice q nk cq):=id rfl
theorem Uf:(Uh pe n ce q nk cq r ns cr c pl nl cl)[2]? = some (.slice r ns cr):=id rfl
theorem Ue:(Uh pe n ce q nk cq r ns cr c pl nl cl)[3]? = some (Vi c):=id rfl
theorem SV:(Uh pe n ce q nk cq r ns cr c pl nl cl)[4]? = some (.slice pl nl cl):=id rfl
end
theorem N6a (n:Nat):(List.range (n*1)).map (fun j=>[Value.bool false].getD (j % 1) undef)=(List.replicate n false).flatMap MU:=by
 have h1:∀j,[Value.bool false].getD (j % 1) undef=Value.bool false:=fun j=>by rw [Nat.mod_one];rfl
 simp only [h1]
 rw [List.map_const',O7,Pd]
 induction n with
 | zero=>rfl
 | succ n ih=>
   rw [Pi,Pi,Ow,<-ih]
   rfl
def Y9 (n:Nat) (ks:List Int) (i:Nat):List Bool:=(ks.take i).foldl (fun l k=>l.set k.toNat true) (List.replicate n false)
def toI (n:Nat) (ss:List Stp) (i:Nat):List Stp:=(ss.take i).foldl (fun l s=>l.set s.2.1.toNat s) (List.replicate n (0,0,0))
theorem Na3 {n:Nat} {ks:List Int} {i:Nat}:(Y9 n ks i).length=n:=by unfold Y9;rw [Na4,Om]
theorem Nhu {n:Nat} {ks:List Stp} {i:Nat}:(toI n ks i).length=n:=by unfold toI;rw [Nhv,Om]
theorem Nuf {n:Nat} {ks:List Int}:Y9 n ks ks.length=V7 n ks:=by unfold Y9 V7;rw [Oo]
theorem N2h {n:Nat} {ks:List Stp}:toI n ks ks.length=toN n ks:=by unfold toI toN;rw [Oo]
theorem Nph {n:Nat} {ks:List Int} {i:Nat} (h:i<ks.length):Y9 n ks (i+1)=(Y9 n ks i).set (gt ks i).toNat true:=by
 unfold Y9
 rw [Of h,List.foldl_append,PZ h];rfl
theorem Nw9 {n:Nat} {ks:List Stp} {i:Nat} (h:i<ks.length):toI n ks (i+1)=(toI n ks i).set (gt ks i).2.1.toNat (gt ks i):=by
 unfold toI
 rw [Of h,List.foldl_append,PZ h];rfl
theorem Nnn [OB] {lim n ce cq cr nl cl:Nat} {pe q r pl:Option Addr} {ks:List Int} {ss:List Stp} {c:Int} {H:NE} {Q:Value->NE->Prop} (V:Sl H encI 1 q ks) (hr:Sl H enc3 3 r ss) (hn:n<2 ^ 30) (U:ks.length<2 ^ 40) (W:ss.length<2 ^ 40) (hl:lim<=H.length)
  (hk:∀k∈ks,0<=k/\k<n) (hs:∀s∈ss,U9 n s)
  (T:∀G A B,Chg [] H G->H.length<=A->H.length<=B->NF G A=Vc ((V7 n ks).flatMap MU)->NF G B=Vc ((toN n ss).flatMap enc3)->Q (.tuple #[.slice (Sa A) n n,.slice (Sa B) n n]) G) :
  NL E false lim 74 [.agg (Uh pe n ce q ks.length cq r ss.length cr c pl nl cl).toArray] H Q:=by
 refine R8 (by decide) e74 rfl ?_
 rw [b74,c74]
 have z1:=N6a n
 have z3:=Nwv n
 have P:=N7 (show 0<=(n:Int)/\(n:Int)*1<=35184372088832/\(n:Int)<4611686018427387904 by omega)
 have R:=N7 (show 0<=(n:Int)/\(n:Int)*24<=35184372088832/\(n:Int)<4611686018427387904 by omega)
 simp only [n74,r74,QS,TS,Ug,Uf,Ue,SV,NI,P,R,z1,z3,SB,seval,NC,NJ,NG,NQ,reduceCtorEq,NB,place,NA,ND]
 refine NR (fun i=>ks.length-i) (fun i fr G=>i<=ks.length/\fr 1=Vp H.length/\fr 4=.slice (Sa (H.length+1)) n n/\fr 5=.slice (Sa (H.length+2)) n n/\fr 20=.slice q ks.length cq/\fr 21=Vi ks.length/\fr 22=Vi i/\
   Chg [] H G/\NF G H.length=Vc (Uh pe n ce q ks.length cq r ss.length cr c pl nl cl)/\NF G (H.length+1)=Vc ((Y9 n ks i).flatMap MU)/\NF G (H.length+2)=Vc ((toI n ss 0).flatMap enc3)) 0
  ⟨Nz _,rfl,rfl,rfl,rfl,rfl,by rfl,Chg.refl.app,by rw [NV];rfl,by rw [NW];rfl,by rw [NW];rfl⟩ ?_
 intro i fr G ⟨hi,l,o,t,y,z,J,f,O,u,hB⟩ N
 rw [NS N5o.eq_1]
 refine NM ?_
 have L:=f.len
 by_cases b:i<ks.length
 ·have M:=f.sl V (fun a _ _ h=>(by cases h))
  obtain ⟨m,hm⟩:∃m:Nat,gt ks i=m:=⟨(gt ks i).toNat,by have:=hk _ (R6 b);omega⟩
  have e:m<n:=by have:=hk _ (R6 b);omega
  have g:=Niu M b
  rw [hm] at g
  have d:=fun c (k:IntKind) (H1:NE)=>M.idx (c:=c) (k:=k) (H1:=H1) b
  have I:IntKind.i64.wrap ((i:Int)+1)=((i+1:Nat):Int):=OG (by omega)
  have Y:Sl G MU 1 (Sa (H.length+1)) (Y9 n ks i):=Sl.row Zn u
  have v:=fun c (k:IntKind) (H1:NE)=>Y.idx (c:=c) (k:=k) (H1:=H1) (i:=m) (by rw [Na3];exact e)
  rw [Na3] at v
  obtain ⟨G2,e2,h2,j⟩:=Nan (lim:=lim) (p:=Sa (H.length+1)) Zn rfl u (by omega) (i:=m) (by rw [Na3];exact e) true
  simp only [MU] at e2
  have F:(Y9 n ks i).set m true=Y9 n ks (i+1):=by rw [Nph b,hm];rfl
  rw [F] at h2
  simp only [n74,r74,l,o,t,y,z,J,NU,b,d,g,v,e2,I,SB,seval,NC,NJ,NG,NQ,reduceCtorEq,NB,place,NA,ND]
  exact N (i+1) _ _ ⟨by omega,l,o,t,y,z,rfl,(f.mut j (.inr (by omega))).app,by rw [NN (by rw [j.len];exact NK O)];exact j.cells O (by omega),by rw [NN (NK h2)];exact h2,by rw [NN (by rw [j.len];exact NK hB)];exact j.cells hB (by omega)⟩ (by omega)
 obtain rfl:i=ks.length:=by omega
 rw [Nuf] at u
 have xR:=fun X=>(OM.refl.app (X:=X)).cells O
 simp only [n74,r74,l,o,t,y,z,J,NU,b,xR,QS,TS,Ug,Uf,Ue,SV,NI,SB,seval,NC,NJ,NG,NQ,reduceCtorEq,NB,place,NA,ND]
 refine NR (fun i=>ss.length-i) (fun i fr G=>i<=ss.length/\fr 1=Vp H.length/\fr 4=.slice (Sa (H.length+1)) n n/\fr 5=.slice (Sa (H.length+2)) n n/\fr 32=.slice r ss.length cr/\fr 33=Vi ss.length/\fr 34=Vi i/\
   Chg [] H G/\NF G (H.length+1)=Vc ((V7 n ks).flatMap MU)/\NF G (H.length+2)=Vc ((toI n ss i).flatMap enc3)) 0
  ⟨Nz _,l,o,t,rfl,rfl,by rfl,f.app,(OM.refl.app).cells u,(OM.refl.app).cells hB⟩ ?_
 intro i fr G ⟨hi,l,o,t,C,D,K,f,u,hB⟩ N
 rw [NS N5p.eq_1]
 refine NM ?_
 have L:=f.len
 by_cases b:i<ss.length
 ·have M:=f.sl hr (fun a _ _ h=>(by cases h))
  have S:=hs _ (R6 b)
  unfold U9 at S
  obtain ⟨m,hm⟩:∃m:Nat,(gt ss i).2.1=m:=⟨(gt ss i).2.1.toNat,by omega⟩
  have e:m<n:=by omega
  have g:=fun X=>(M.app X).loadCells OY b
  have d:=fun c (k:IntKind) (H1:NE)=>M.idx (c:=c) (k:=k) (H1:=H1) b
  have I:IntKind.i64.wrap ((i:Int)+1)=((i+1:Nat):Int):=OG (by omega)
  have Z:Sl G enc3 3 (Sa (H.length+2)) (toI n ss i):=Sl.row OY hB
  have w:=fun c (k:IntKind) (H1:NE)=>Z.idx (c:=c) (k:=k) (H1:=H1) (i:=m) (by rw [Nhu];exact e)
  rw [Nhu] at w
  obtain ⟨G2,e2,h2,j⟩:=Nan (lim:=lim) (p:=Sa (H.length+2)) OY rfl hB (by omega) (i:=m) (by rw [Nhu];exact e) (gt ss i)
  have F:(toI n ss i).set m (gt ss i)=toI n ss (i+1):=by rw [Nw9 b,hm];rfl
  rw [F] at h2
  have e1:=Np1 (x:=gt ss i)
  rw [hm] at e1
  simp only [n74,r74,l,o,t,C,D,K,NU,b,d,g,w,e1,e2,I,OY,NI,NH,show lim<=G.length by omega,SB,seval,NC,NJ,NG,NQ,reduceCtorEq,NB,place,NA,ND]
  exact N (i+1) _ _ ⟨by omega,l,o,t,C,D,rfl,(f.mut j (.inr (by omega))).app,by rw [NN (by rw [j.len];exact NK u)];exact j.cells u (by omega),by rw [NN (NK h2)];exact h2⟩ (by omega)
 obtain rfl:i=ss.length:=by omega
 rw [N2h] at hB
 simp only [n74,r74,l,o,t,C,D,K,NU,b,SB,seval,NC,NJ,NG,NQ,reduceCtorEq,NB,place,NA,ND]
 exact T _ _ _ f.app (by omega) (by omega) ((OM.refl.app).cells u) ((OM.refl.app).cells hB)
def atE (es:List Ev) (d:Ev) (i:Nat):Prop:=Neg (gt es i) (Vq (gt es i) (es.drop (i+1))) d
instance (es:List Ev) (d:Ev) (i:Nat):Decidable (atE es d i):=by unfold atE;infer_instance
theorem Npo {ks:List Int} (h:ks≠[]):ks.getLast? = some (gt ks (ks.length-1)):=by
 have hl:0<ks.length:=List.length_pos_iff.2 h
 rw [List.getLast?_eq_getElem?,Nf (by omega),PZ (by omega)]
def UZ (es:List Ev):Prop:=∀e∈es,0<=e.time/\e.time<=OA
theorem N3i [OB] {lim ce cq cr nl cl:Nat} {pe q r pl:Option Addr} {es:List Ev} {ks:List Int} {ns:Nat} {c now:Int} {H:NE} {Q:Value->NE->Prop} (he:Sl H encE 7 pe es) (x:Sl H encI 1 q ks) (hn:es.length<2 ^ 30) (z:ks.length<2 ^ 40) (hl:lim<=H.length) (hk:∀k∈ks,0<=k/\k<es.length) (B:UZ es) (u:0<=now/\now<=OA)
  (d:∀G p y,Chg [] H G->Sl G TH 5 p (VW es ks now)->Q (.slice p (VW es ks now).length y) G) :
  NL E false lim 77 [.agg (Uh pe es.length ce q ks.length cq r ns cr c pl nl cl).toArray,Vi now] H Q:=by
 refine R8 (by decide) e77 rfl ?_
 rw [b77,c77]
 by_cases v:ks=[]
 ·subst v
  simp only [n77,r77,QS,TS,Ug,Uf,Ue,SV,NI,Ns,SB,seval,NC,NJ,NG,NQ,reduceCtorEq,NB,place,NA,ND]
  exact d _ none 0 Chg.refl.app rfl
 have A:0<ks.length:=List.length_pos_iff.2 v
 obtain ⟨m,hm⟩:∃m:Nat,gt ks (ks.length-1)=m:=⟨(gt ks (ks.length-1)).toNat,by have:=hk _ (R6 (show ks.length-1<ks.length by omega));omega⟩
 have g:m<es.length:=by have:=hk _ (R6 (show ks.length-1<ks.length by omega));omega
 have t:=Npo v
 rw [hm] at t
 have j:¬((ks.length:Nat):Int)=0:=by omega
 have l:IntKind.i64.wrap ((ks.length:Int)-1)=((ks.length-1:Nat):Int):=by rw [NT (by omega) (by omega)];omega
 have b:=fun X=>Niu x (i:=ks.length-1) (by omega) X
 rw [hm] at b
 have a:=fun c (k:IntKind) (H1:NE)=>x.idx (c:=c) (k:=k) (H1:=H1) (i:=ks.length-1) (by omega)
 have f:=fun X=>(he.app X).loadCells OC g
 have e:=fun c (k:IntKind) (H1:NE)=>he.idx (c:=c) (k:=k) (H1:=H1) g
 have w:=B _ (R6 g)
 unfold OA at w u
 have n:IntKind.i64.wrap (now-(gt es m).time)=now-(gt es m).time:=NT (by omega) (by omega)
 have C:((m:Nat):Int).toNat=m:=N2 m
 have o:VW es ks now=if (gt es m).kind=4\/now-(gt es m).time<=20160 then [] else [⟨7,(m:Int),0,(gt es m).place,now-(gt es m).time⟩]:=by unfold VW;rw [t];rfl
 by_cases s:(gt es m).kind=4
 ·rw [Ni (.inl s)] at o
  rw [o] at d
  simp only [n77,r77,QS,TS,Ug,Uf,Ue,SV,OC,QV,Rv,Ru,Rt,Rs,Rq,QU,NI,Nr j,l,b,a,f,e,NH,hl,n,N7 s,SB,seval,NC,NJ,NG,NQ,reduceCtorEq,NB,place,NA,ND]
  exact d _ none 0 Chg.refl.app rfl
 by_cases h5:now-(gt es m).time<=20160
 ·rw [Ni (.inr h5)] at o
  rw [o] at d
  simp only [n77,r77,QS,TS,Ug,Uf,Ue,SV,OC,QV,Rv,Ru,Rt,Rs,Rq,QU,NI,Nr j,l,b,a,f,e,NH,hl,n,Nr s,N7 h5,SB,seval,NC,NJ,NG,NQ,reduceCtorEq,NB,place,NA,ND]
  exact d _ none 0 Chg.refl.app rfl
 rw [Nh (by rintro (h | h);exact s h;exact h5 h)] at o
 rw [o] at d
 simp only [n77,r77,QS,TS,Ug,Uf,Ue,SV,OC,QV,Rv,Ru,Rt,Rs,Rq,QU,NI,Nr j,l,b,a,f,e,NH,hl,n,Nr s,Nr h5,SB,seval,NC,NJ,NG,NQ,reduceCtorEq,NB,place,NA,ND]
 exact d _ _ _ Chg.refl.app (Sl.row (ro:=false) RN (by rw [NW];rfl))
theorem Nmz [OB] {mp:Bool} {lim B:Nat} {x y:Ev} {o:Bool} {H:NE} {Q:Value->NE->Prop} (hB:NF H B=.cells o (encE x)) :
  NL E mp lim 110 [.agg (encE y).toArray,Vp B] H Q=Q (.bool (decide (Z8 y x))) H:=by
 refine pc (by decide) Odd rfl rfl ?_
 rw [Oeh,N77]
 have a:=fun X=>(OM.refl.app (X:=X)).cells hB
 by_cases h1:y.place=x.place
 ·by_cases h2:y.kind=x.kind
  ·simp only [n110,N6i,a,OC,QV,Rv,Ru,Rt,Rs,Rq,QU,NI,NH,N7 h1,N7 h2,N7 (show Z8 y x from ⟨h1,h2⟩),SB,seval,NC,NJ,NG,NQ,reduceCtorEq,NB,place,NA,ND]
  ·simp only [n110,N6i,a,OC,QV,Rv,Ru,Rt,Rs,Rq,QU,NI,NH,N7 h1,Nr h2,Nr (fun h:Z8 y x=>h2 h.2),SB,seval,NC,NJ,NG,NQ,reduceCtorEq,NB,place,NA,ND]
 ·simp only [n110,N6i,a,OC,QV,Rv,Ru,Rt,Rs,Rq,QU,NI,NH,Nr h1,Nr (fun h:Z8 y x=>h1 h.1),SB,seval,NC,NJ,NG,NQ,reduceCtorEq,NB,place,NA,ND]
def N2c:ACode:=Sy (Sy (Sy (Sy (Sy c76))))
theorem N4g:c76=.seq (UC c76) (.seq (UC (Sy c76)) (.seq (UC (Sy (Sy c76))) (.seq (UC (Sy (Sy (Sy c76)))) (.seq (UC (Sy (Sy (Sy (Sy c76))))) N2c)))):=rfl
def Nbd (x:Ev) (i:Nat) (lv:Int) (tw:List Ev):List An:=(tw.filter fun y=>Neg x lv y).map (Nu5 x i)
theorem Nu4 {x:Ev} {i j:Nat} {lv:Int} {tw:List Ev} (h:j<tw.length):Nbd x i lv (tw.take (j+1))=if Neg x lv (gt tw j) then Nbd x i lv (tw.take j)++[Nu5 x i (gt tw j)] else Nbd x i lv (tw.take j):=by
 unfold Nbd
 rw [Of h,List.filter_append,<-PZ h]
 by_cases a:Neg x lv (gt tw j)
 ·rw [Ni a,List.filter_cons_of_pos (by simpa using a),List.filter_nil,O1];rfl
 ·rw [Nh a,Q6 (by simpa using a),List.filter_nil,Nb]
theorem N05 {x:Ev} {i:Nat} {lv:Int} {tw:List Ev}:(Nbd x i lv tw).length<=tw.length:=by
 unfold Nbd;rw [Nu];exact Qv ..
theorem Nrx [OB] {lim B ct i:Nat} {pt:Option Addr} {x:Ev} {tw:List Ev} {lv:Int} {H G:NE} {fr:Nat->Value} {Q:Value->NE->Prop} (hB:NF G B=Vc (encE x)) (htw:Sl H encE 7 pt tw) (u:Chg [] H G) (Z:H.length<=B) (hn:tw.length<2 ^ 30) (hl:lim<=H.length) (ht:UZ tw) (hx:0<=x.time/\x.time<=OA)
  (f1:fr 1=.slice pt tw.length ct) (f2:fr 2=Vi i) (S:fr 7=Vp B) (T:fr 8=.func (.func 110) #[] #[Vp B]) (f9:fr 9=Vi lv)
  (hQ:∀G p F,Chg [] H G->Sl G TH 5 p (Nbd x i lv tw)->Q (.slice p (Nbd x i lv tw).length F) G) :
  PV E a76 lim [.code N2c] fr G Q:=by
 unfold N2c
 refine NM ?_
 simp only [UC,Sy,c76,n76,r76,f1,f2,S,T,f9,SB,seval,NC,NJ,NG,NQ,reduceCtorEq,NB,place,NA,ND]
 refine NR (fun j:Nat×Option Addr×Nat=>tw.length-j.1) (fun j fr G=>j.1<=tw.length/\fr 2=Vi i/\fr 7=Vp B/\fr 8=.func (.func 110) #[] #[Vp B]/\fr 9=Vi lv/\fr 12=.slice j.2.1 (Nbd x i lv (tw.take j.1)).length j.2.2/\fr 37=.slice pt tw.length ct/\fr 38=Vi tw.length/\fr 39=Vi j.1/\
   Chg [] H G/\NF G B=Vc (encE x)/\Own (B+1) G TH 5 j.2.1 j.2.2 (Nbd x i lv (tw.take j.1))) (0,none,0)
  ⟨Nz _,f2,S,T,f9,rfl,rfl,rfl,by rfl,u.app,(OM.refl.app).cells hB,.nil⟩ ?_
 rintro ⟨j,p,F⟩ fr G ⟨hj,q,r,s,t,b,d,e,m,u,hB,o⟩ K
 simp only at hj b m o K
 rw [NS N5n.eq_1]
 refine NM ?_
 have V:=u.len
 by_cases f:j<tw.length
 case neg=>
  obtain rfl:j=tw.length:=by omega
  rw [Oo] at b o
  simp only [n76,r76,q,r,s,t,b,d,e,m,NU,f,SB,seval,NC,NJ,NG,NQ,reduceCtorEq,NB,place,NA,ND]
  exact hQ _ _ _ u.app ((o.sl RN).app _)
 have Y:=u.sl htw (fun a _ _ h=>(by cases h))
 have z:=fun X=>(Y.app X).loadCells OC f
 have l:=fun c (k:IntKind) (H1:NE)=>Y.idx (c:=c) (k:=k) (H1:=H1) f
 have A:IntKind.i64.wrap ((j:Int)+1)=((j+1:Nat):Int):=OG (by omega)
 have w:lim<=G.length:=by omega
 have O:=NK hB
 have g:=Nu4 (x:=x) (i:=i) (lv:=lv) f
 have U:(Nbd x i lv (tw.take j)).length<=tw.length:=Qi N05 (by rw [Oy];omega)
 have P:=ht _ (R6 f)
 generalize gt tw j=y at *
 have n:=fun X=>(OM.refl.app (X:=X)).cells hB
 have v:=fun X (mp:Bool) (lim:Nat) (Q:Value->NE->Prop)=>Nmz (mp:=mp) (lim:=lim) (x:=x) (y:=y) (Q:=Q) (n X)
 by_cases D:Z8 y x
 case neg=>
  rw [Nh (fun h=>D h.1)] at g
  rw [<-g] at b o
  simp only [n76,r76,q,r,s,t,b,d,e,m,NU,f,z,l,A,w,v,n,OC,QV,Rv,Ru,Rt,Rs,Rq,QU,NI,NH,ge_iff_le,N8 D,SB,seval,NC,NJ,NG,NQ,reduceCtorEq,NB,place,NA,ND]
  exact K (j+1,p,F) _ _ ⟨by omega,q,r,s,t,b,d,e,rfl,u.app,(OM.refl.app).cells hB,o.app _⟩ (by simp only;omega)
 by_cases I:x.time<=y.time
 case neg=>
  rw [Nh (fun h=>I h.2.1)] at g
  rw [<-g] at b o
  simp only [n76,r76,q,r,s,t,b,d,e,m,NU,f,z,l,A,w,v,n,OC,QV,Rv,Ru,Rt,Rs,Rq,QU,NI,NH,ge_iff_le,Nq D,Nr I,SB,seval,NC,NJ,NG,NQ,reduceCtorEq,NB,place,NA,ND]
  exact K (j+1,p,F) _ _ ⟨by omega,q,r,s,t,b,d,e,rfl,u.app,(OM.refl.app).cells hB,o.app _⟩ (by simp only;omega)
 by_cases M:y.time<lv
 case neg=>
  rw [Nh (fun h=>M h.2.2)] at g
  rw [<-g] at b o
  simp only [n76,r76,q,r,s,t,b,d,e,m,NU,f,z,l,A,w,v,n,OC,QV,Rv,Ru,Rt,Rs,Rq,QU,NI,NH,ge_iff_le,Nq D,N7 I,Nr M,SB,seval,NC,NJ,NG,NQ,reduceCtorEq,NB,place,NA,ND]
  exact K (j+1,p,F) _ _ ⟨by omega,q,r,s,t,b,d,e,rfl,u.app,(OM.refl.app).cells hB,o.app _⟩ (by simp only;omega)
 rw [Ni ⟨D,I,M⟩] at g
 unfold OA at hx P
 have R:IntKind.i64.wrap (y.time-x.time)=y.time-x.time:=NT (by omega) (by omega)
 obtain ⟨G2,e2,L,J,C,W,_⟩:=o.step (lim':=lim) (bytes:=40) (by omega) RN (by decide) (Nu5 x i y) (by unfold PN;omega) (by omega) (by omega) [Vc (encE y),Vc (TH (Nu5 x i y))] (G.length+1) 1 (by rw [NW];rfl)
 have N:TH (Nu5 x i y)=[.int .u8 6,Vi i,Vi 0,Vi x.place,Vi (y.time-x.time)]:=rfl
 rw [N] at e2
 simp only [n76,r76,q,r,s,t,b,d,e,m,NU,f,z,l,A,w,v,n,OC,QV,Rv,Ru,Rt,Rs,Rq,QU,NI,NH,ge_iff_le,Nq D,N7 I,N7 M,R,e2,SB,seval,NC,NJ,NG,NQ,reduceCtorEq,NB,place,NA,ND]
 exact K (j+1,Sa (G.length+2),loose 5) _ _ ⟨by omega,q,r,s,t,by rw [g,Nm];rfl,d,e,rfl,J [] H (by omega) u,by rw [C B O (fun a ha=>by have:=(o.block ha).1;omega)];exact hB,by rw [g];exact L⟩ (by simp only;omega)
theorem Np4 [OB] {lim ce cq cr nl cl ct nk ns i:Nat} {pe q r pl pt:Option Addr} {es tw:List Ev} {c:Int} {H:NE} {Q:Value->NE->Prop} (he:Sl H encE 7 pe es) (hce:Ws 7 ce es.length) (htw:Sl H encE 7 pt tw) (hi:i<es.length) (hn:es.length<2 ^ 30) (F:tw.length<2 ^ 30) (hl:lim<=H.length) (Z:UZ es) (I:UZ tw)
  (A:∀G p U,Chg [] H G->Sl G TH 5 p (R5 es tw i)->Q (.slice p (R5 es tw i).length U) G) :
  NL E false lim 76 [.agg (Uh pe es.length ce q nk cq r ns cr c pl nl cl).toArray,.slice pt tw.length ct,Vi i] H Q:=by
 refine R8 (by decide) e76 rfl ?_
 rw [b76,N4g]
 have m:=fun X=>(he.app X).loadCells OC hi
 have e:=fun c (k:IntKind) (H1:NE)=>he.idx (c:=c) (k:=k) (H1:=H1) hi
 have n:IntKind.i64.wrap ((i:Int)+1)=((i+1:Nat):Int):=OG (by omega)
 obtain ⟨q1,k1,x1,P,_,_,_⟩:=VN (vlo:=some (Vi ((i+1:Nat):Int))) (vhi:=none) (lo:=i+1) (hi:=es.length) he hce OC (fun cap R=>by rw [Nqd (by omega) (by omega),N2]) (by omega) (Nd _) (by omega)
 rw [Oo] at P
 simp only [UC,Sy,c76,n76,r76,QS,TS,Ug,Uf,Ue,SV,NI,m,e,n,NH,hl,OC,x1,SB,seval,NC,NJ,NG,NQ,reduceCtorEq,NB,place,NA,ND]
 obtain ⟨D,M⟩:∃D,D=es.drop (i+1):=⟨_,rfl⟩
 have N:es.length-(i+1)=D.length:=by rw [M,Pt]
 rw [<-M] at P
 rw [N]
 have V:R5 es tw i=Nbd (gt es i) i (Vq (gt es i) D) tw:=by unfold R5 Nbd;rw [M]
 rw [V] at A
 have J:=Z _ (R6 hi)
 generalize gt es i=x at *
 have W:D.length<2 ^ 30:=by omega
 refine NR (fun j:Nat=>D.length-j) (fun j fr G=>j<=D.length/\fr 1=.slice pt tw.length ct/\fr 2=Vi i/\fr 7=Vp (H.length+1)/\fr 8=.func (.func 110) #[] #[Vp (H.length+1)]/\fr 9=Vi (OA+1)/\fr 25=.slice q1 D.length k1/\fr 26=Vi D.length/\fr 27=Vi j/\
   Chg [] H G/\NF G (H.length+1)=Vc (encE x)/\Vq x D=Vq x (D.drop j)) 0
  ⟨Nz _,rfl,rfl,rfl,rfl,rfl,rfl,rfl,by rfl,Chg.refl.app,by rw [NW];rfl,rfl⟩ ?_
 intro j fr G ⟨hj,s,t,u,v,w,g,l,o,z,hB,b⟩ Y
 rw [NS N5m.eq_1]
 refine NM ?_
 have S:=z.len
 by_cases d:j<D.length
 case neg=>
  obtain rfl:j=D.length:=by omega
  rw [Qo] at b
  have f:Vq x D=OA+1:=b
  rw [f] at A
  simp only [n76,r76,s,t,u,v,w,g,l,o,NU,d,SB,seval,NC,NJ,NG,NQ,reduceCtorEq,NB,place,NA,ND]
  exact Nrx (lv:=OA+1) ((OM.refl.app).cells hB) htw z.app (by omega) F hl I J s t u v w A
 have T:=z.sl P (fun a _ _ h=>(by cases h))
 have m:=fun X=>(T.app X).loadCells OC d
 have e:=fun c (k:IntKind) (H1:NE)=>T.idx (c:=c) (k:=k) (H1:=H1) d
 have n:IntKind.i64.wrap ((j:Int)+1)=((j+1:Nat):Int):=OG (by omega)
 have C:lim<=G.length:=by omega
 have O:D.drop j=gt D j::D.drop (j+1):=by rw [Ou d,PZ d]
 rw [O] at b
 generalize gt D j=y at *
 have L:=fun X=>(OM.refl.app (X:=X)).cells hB
 have B:=fun X (mp:Bool) (lim:Nat) (Q:Value->NE->Prop)=>Nmz (mp:=mp) (lim:=lim) (x:=x) (y:=y) (Q:=Q) (L X)
 by_cases K:Z8 y x
 ·have f:Vq x D=y.time:=b.trans (by unfold Vq;rw [Ni K])
  rw [f] at A
  simp only [n76,r76,s,t,u,v,w,g,l,o,NU,d,m,e,n,C,B,OC,QV,Rv,Ru,Rt,Rs,Rq,QU,NI,NH,Nq K,SB,seval,NC,NJ,NG,NQ,reduceCtorEq,NB,place,NA,ND]
  exact Nrx (lv:=y.time) ((OM.refl.app).cells hB) htw z.app (by omega) F hl I J s t u v rfl A
 ·have f:Vq x D=Vq x (D.drop (j+1)):=b.trans (by conv=>lhs;unfold Vq;rw [Nh K])
  simp only [n76,r76,s,t,u,v,w,g,l,o,NU,d,m,e,n,C,B,OC,QV,Rv,Ru,Rt,Rs,Rq,QU,NI,NH,N8 K,SB,seval,NC,NJ,NG,NQ,reduceCtorEq,NB,place,NA,ND]
  exact Y (j+1) _ _ ⟨by omega,s,t,u,v,w,g,l,rfl,z.app,(OM.refl.app).cells hB,f⟩ (by omega)
theorem N0i {L:List Leg} (c:L.Pairwise (fun a b=>a.id≠b.id)) {l:Leg} (hl:l∈L):L.find? (fun x=>x.id=l.id)=some l:=by
 cases h:L.find? (fun x=>x.id=l.id) with
 | none=>exact absurd (List.find?_eq_none.1 h l hl) (by simp)
 | some y=>
   have h1:=List.find?_some h
   have h2:=Rm h
   rw [Nl3 c y h2 l hl (by simpa using h1)]
theorem N3x {α β:Type} [Inhabited α] [Inhabited β] {f:α->β} {l:List α} {i:Nat} (h:i<l.length):gt (l.map f) i=f (gt l i):=by
 rw [PZ (by simpa using h),PZ h,Pu]
theorem Nt1 [OB] {lim ce cq cr nl cl cp cL nk ns:Nat} {pe q r pl pp pL:Option Addr} {P:List Int} {L:List Leg} {es:List Ev} {s:Stp} {c:Int} {H:NE} {Q:Value->NE->Prop} (hN:NetIn H pp pL P L) (he:Sl H encE 7 pe es) (hs:U9 es.length s) (hn:es.length<2 ^ 30) (hl:lim<=H.length)
  (i:∀G p c',Chg [] H G->Sl G TH 5 p (Tp P L es s)->Q (.slice p (Tp P L es s).length c') G) :
  NL E false lim 109 [.agg (Uh pe es.length ce q nk cq r ns cr c pl nl cl).toArray,.agg (Tj pp P.length cp pL L.length cL).toArray,.agg (enc3 s).toArray] H Q:=by
 refine R8 (by decide) Ode rfl ?_
 rw [Oei,c109]
 unfold U9 at hs
 obtain ⟨m,hm⟩:∃m:Nat,s.1=m:=⟨s.1.toNat,by omega⟩
 obtain ⟨k,hk⟩:∃k:Nat,s.2.1=k:=⟨s.2.1.toNat,by omega⟩
 have V:m<es.length:=by omega
 have R:k<es.length:=by omega
 have e0:=N01 (x:=s)
 have e1:=Np1 (x:=s)
 rw [hm] at e0
 rw [hk] at e1
 have ao:=fun X=>(he.app X).loadCells OC V
 have ap:=fun X=>(he.app X).loadCells OC R
 have am:=fun c (k:IntKind) (H1:NE)=>he.idx (c:=c) (k:=k) (H1:=H1) V
 have an:=fun c (k:IntKind) (H1:NE)=>he.idx (c:=c) (k:=k) (H1:=H1) R
 have d:Tp P L es s=(Yj P L (gt es m).place (gt es k).place (gt es m).time).dropLast.map (Xm s):=by unfold Tp;rw [hm,hk,N2,N2]
 simp only [n109,Nn7,QS,TS,Ug,Uf,Ue,SV,OC,QV,Rv,Ru,Rt,Rs,Rq,QU,OY,e0,e1,NI,ao,ap,am,an,NH,hl,PR,SB,seval,NC,NJ,NG,NQ,reduceCtorEq,NB,place,NA,ND]
 generalize gt es m=a at *
 generalize gt es k=b at *
 refine N8m (hN.app _) (by simp;omega) (fun G he e=>?_) (fun G he hA e=>?_) (fun G v w pw cw he e hv hA hB av n=>?_)
 ·rw [Nwx he] at d
  rw [d] at i
  refine NM ?_
  simp only [n109,Nn7,Nr he,SB,seval,NC,NJ,NG,NQ,reduceCtorEq,NB,place,NA,ND]
  exact i _ none 0 e.pre.app rfl
 ·rw [Nr9 hA] at d
  rw [d] at i
  refine NM ?_
  simp only [n109,Nn7,SB,seval,NC,NJ,NG,NQ,reduceCtorEq,NB,place,NA,ND]
  exact i _ none 0 e.pre.app rfl
 have Z:Yj P L a.place b.place a.time=w:=Nc5 ⟨he,v,hv,hA,hB⟩
 rw [Z] at d
 by_cases h0:w=[]
 ·subst h0
  rw [d] at i
  refine NM ?_
  simp only [n109,Nn7,Ns,SB,seval,NC,NJ,NG,NQ,reduceCtorEq,NB,place,NA,ND]
  exact i _ none 0 e.pre.app rfl
 have au:0<w.length:=List.length_pos_iff.2 h0
 have ai:¬((w.length:Nat):Int)=0:=by omega
 have Y:IntKind.i64.wrap ((w.length:Int)-1)=((w.length-1:Nat):Int):=by rw [NT (by omega) (by omega)];omega
 have g:=n.capOk
 have W:=n.sl OY
 obtain ⟨q1,k1,x1,s1,_,_,_⟩:=VN (vlo:=none) (vhi:=some (Vi ((w.length-1:Nat):Int))) (lo:=0) (hi:=w.length-1) W g OY (fun cap g=>by rw [Nbf (by omega) (by rw [Nu] at g;omega),N2]) (Nz _) (by rw [Nu];omega) (by rw [Nu];omega)
 obtain ⟨D,hD⟩:∃D,D=w.dropLast:=⟨_,rfl⟩
 have K:D.length=w.length-1:=by rw [hD,List.length_dropLast]
 rw [Ov,<-List.map_take,<-List.dropLast_eq_take,<-hD] at s1
 rw [Nu,Nat.sub_zero,<-K] at x1
 rw [<-hD] at d
 rw [d] at i
 rw [Nu] at i
 rw [<-K] at Y
 have U:∀x∈D,x.1∈L:=fun x hx=>hB.way.mem x (by rw [hD] at hx;exact List.dropLast_subset _ hx)
 have ae:=Ned (Va (Me he).1).2.2.2
 refine NM ?_
 simp only [n109,Nn7,Nr ai,Y,x1,SB,seval,NC,NJ,NG,NQ,reduceCtorEq,NB,place,NA,ND]
 have S:=e.len
 simp at S
 have l:=e.cells (NW (X:=[_,Vc (Tj pp P.length cp pL L.length cL),Vc (enc3 s),_,_]) (j:=1)) (by simp)
 have o:=e.cells (NW (X:=[_,Vc (Tj pp P.length cp pL L.length cL),Vc (enc3 s),_,_]) (j:=2)) (by simp)
 have N:=(hN.app [Vc (Uh pe es.length ce q nk cq r ns cr c pl nl cl),Vc (Tj pp P.length cp pL L.length cL),Vc (enc3 s),Vc (encE a),Vc (encE b)]).sim fun b ro c h=>e.cells h (by simp)
 obtain ⟨F,ac⟩:∃F,F=G:=⟨_,rfl⟩
 have J:=e.pre
 rw [<-ac] at l o N s1 J S⊢
 clear e n W
 refine NR (fun j:Nat×Option Addr×Nat=>D.length-j.1) (fun j fr G=>j.1<=D.length/\fr 4=Vp (H.length+1)/\fr 5=Vp (H.length+2)/\fr 11=.slice j.2.1 j.1 j.2.2/\fr 52=.slice q1 D.length k1/\fr 53=Vi D.length/\fr 54=Vi j.1/\
   Chg [] F G/\Own F.length G TH 5 j.2.1 j.2.2 ((D.take j.1).map (Xm s))) (0,none,0)
  ⟨Nz _,rfl,rfl,rfl,rfl,rfl,by rfl,Chg.refl.app,.nil⟩ ?_
 rintro ⟨j,p,c'⟩ fr G ⟨hj,g4,g5,u,y,z,A,e,n⟩ M
 simp only at hj u A n M
 rw [NS Nz1.eq_1]
 refine NM ?_
 have aq:=e.len
 have O:((D.take j).map (Xm s)).length=j:=by rw [Nu,Oy];omega
 by_cases f:j<D.length
 case neg=>
  obtain rfl:j=D.length:=by omega
  rw [Oo] at n
  simp only [n109,Nn7,g4,g5,u,y,z,A,NU,f,SB,seval,NC,NJ,NG,NQ,reduceCtorEq,NB,place,NA,ND]
  exact i _ _ _ (J.trans e).app ((n.sl RN).app _)
 have sT:=e.sl s1 (fun a _ _ h=>(by cases h))
 have T:j<(D.map Vn).length:=by rw [Nu];exact f
 have C:=fun X=>(sT.app X).loadCells OY T
 have t:=fun c (k:IntKind) (H1:NE)=>sT.idx (c:=c) (k:=k) (H1:=H1) T
 rw [N3x f] at C
 rw [Nu] at t
 have al:IntKind.i64.wrap ((j:Int)+1)=((j+1:Nat):Int):=OG (by omega)
 have ag:lim<=G.length:=by omega
 have ah:=U _ (R6 f)
 have ak:(D.take (j+1)).map (Xm s)=(D.take j).map (Xm s)++[Xm s (gt D j)]:=by
  rw [Of f,O1,PZ f];rfl
 generalize gt D j=x at *
 have ad:=N0i ae ah
 have e3:enc3 (Vn x)=[Vi x.1.id,Vi x.2,Vi (x.2+x.1.mins)]:=rfl
 rw [e3] at C
 have xN:=fun X=>(OM.refl.app (X:=X)).cells (e.cells l (by simp))
 have xS:=fun X=>(OM.refl.app (X:=X)).cells (e.cells o (by simp))
 have B:=fun X (mp:Bool) (lim:Nat) (Q:Value->NE->Prop)=>find_ok (mp:=mp) (lim:=lim) (cp:=cp) (cl:=cL) (a:=x.1.id) (Q:=Q) ((N.sim fun b ro c h=>e.cells h (by simp)).app X)
 rw [ad] at B
 simp only at B
 obtain ⟨G2,e2,aa,I,aj,ar,_⟩:=n.step (lim':=lim) (bytes:=40) (by omega) RN (by decide) (Xm s x) (by rw [O];unfold PN;omega) (by omega) (by omega) [Vc [Vi x.1.id,Vi x.2,Vi (x.2+x.1.mins)],Vc (Rz x.1),Vc (TH (Xm s x))] (G.length+2) 1 (by rw [NW];rfl)
 have ab:TH (Xm s x)=[.int .u8 5,Vi k,Vi m,Vi x.1.dst,Vi 0]:=by rw [<-hk,<-hm];rfl
 rw [O,ab] at e2
 simp only [n109,Nn7,g4,g5,u,y,z,A,NU,f,C,t,al,ag,xN,xS,B,PR,e0,e1,OY,OH,QH,QG,QF,QE,QD,QC,QB,QA,NI,NH,e2,SB,seval,NC,NJ,NG,NQ,reduceCtorEq,NB,place,NA,ND]
 exact M (j+1,Sa (G.length+3),loose 5) _ _ ⟨by omega,g4,g5,rfl,y,z,rfl,I [] F (Nd _) e,by rw [ak];exact aa⟩ (by simp only;omega)
theorem Ntk [OB] {lim ce cq cr nl cl cp cL nk ns:Nat} {pe q r pl pp pL:Option Addr} {P:List Int} {L:List Leg} {es:List Ev} {s:Stp} {c:Int} {H:NE} {Q:Value->NE->Prop} (z:NetIn H pp pL P L) (he:Sl H encE 7 pe es) (hs:U9 es.length s) (hn:es.length<2 ^ 30) (hl:lim<=H.length)
  (b:∀G p i,Chg [] H G->Sl G TH 5 p (TZ P L es s)->Q (.slice p (TZ P L es s).length i) G) :
  NL E false lim 75 [.agg (Uh pe es.length ce q nk cq r ns cr c pl nl cl).toArray,.agg (Tj pp P.length cp pL L.length cL).toArray,.agg (enc3 s).toArray] H Q:=by
 refine R8 (by decide) e75 rfl ?_
 rw [b75,c75]
 have w:=hs
 unfold U9 at hs
 obtain ⟨m,hm⟩:∃m:Nat,s.1=m:=⟨s.1.toNat,by omega⟩
 obtain ⟨k,hk⟩:∃k:Nat,s.2.1=k:=⟨s.2.1.toNat,by omega⟩
 have u:m<es.length:=by omega
 have o:k<es.length:=by omega
 have e0:=N01 (x:=s)
 have e1:=Np1 (x:=s)
 have e2:=N7e (x:=s)
 rw [hm] at e0
 rw [hk] at e1
 have f:∀X,AM.loadCells (H++X) ((YI pe 7 m).add 0) 6=some (QL (gt es m)):=fun X=>(he.app X).loadSub OC (j:=0) (n:=6) u (by omega)
 have g:∀X,AM.loadCells (H++X) ((YI pe 7 k).add 0) 6=some (QL (gt es k)):=fun X=>(he.app X).loadSub OC (j:=0) (n:=6) o (by omega)
 have d:=fun c (k:IntKind) (H1:NE)=>he.idx (c:=c) (k:=k) (H1:=H1) u
 have e:=fun c (k:IntKind) (H1:NE)=>he.idx (c:=c) (k:=k) (H1:=H1) o
 have a:TZ P L es s=if (gt es m).kind=4 then [⟨2,(k:Int),(m:Int),(gt es k).place,0⟩] else if s.2.2=80 then [⟨3,(k:Int),(m:Int),(gt es k).place,0⟩] else if 0<s.2.2 then [⟨4,(k:Int),(m:Int),(gt es k).place,s.2.2⟩]
   else if (gt es m).place≠(gt es k).place then Tp P L es s else []:=by unfold TZ;rw [hm,hk,N2,N2]
 have t:=fun X (Q:Value->NE->Prop) (b:∀G p i,Chg [] (H++X) G->Sl G TH 5 p (Tp P L es s)->Q (.slice p (Tp P L es s).length i) G)=>Nt1 (lim:=lim) (ce:=ce) (cq:=cq) (cr:=cr) (nl:=nl) (cl:=cl) (cp:=cp) (cL:=cL) (nk:=nk) (ns:=ns) (q:=q) (r:=r) (pl:=pl) (c:=c) (z.app X) (he.app X) w hn (by simp;omega) b
 by_cases h:(gt es m).kind=4
 ·rw [Ni h] at a
  rw [a] at b
  simp only [n75,r75,QS,TS,Ug,Uf,Ue,SV,OU,Vy,Vx,Vw,Vv,Vu,Vt,OY,e0,e1,e2,NI,f,g,d,e,NH,hl,gt_iff_lt,N7 h,SB,seval,NC,NJ,NG,NQ,reduceCtorEq,NB,place,NA,ND]
  exact b _ _ _ Chg.refl.app (Sl.row (ro:=false) RN (by rw [NW];rfl))
 rw [Nh h] at a
 by_cases h5:s.2.2=80
 ·rw [Ni h5] at a
  rw [a] at b
  simp only [n75,r75,QS,TS,Ug,Uf,Ue,SV,OU,Vy,Vx,Vw,Vv,Vu,Vt,OY,e0,e1,e2,NI,f,g,d,e,NH,hl,gt_iff_lt,Nr h,N7 h5,SB,seval,NC,NJ,NG,NQ,reduceCtorEq,NB,place,NA,ND]
  exact b _ _ _ Chg.refl.app (Sl.row (ro:=false) RN (by rw [NW];rfl))
 rw [Nh h5] at a
 by_cases l:0<s.2.2
 ·rw [Ni l] at a
  rw [a] at b
  simp only [n75,r75,QS,TS,Ug,Uf,Ue,SV,OU,Vy,Vx,Vw,Vv,Vu,Vt,OY,e0,e1,e2,NI,f,g,d,e,NH,hl,gt_iff_lt,Nr h,Nr h5,N7 l,Nr (show ¬H.length=H.length+3 by omega),not_false_eq_true,AM.loadX,SB,seval,NC,NJ,NG,NQ,reduceCtorEq,NB,place,NA,ND]
  exact b _ _ _ Chg.refl.app (Sl.row (ro:=false) RN (by rw [NW];rfl))
 rw [Nh l] at a
 by_cases v:(gt es m).place=(gt es k).place
 ·rw [Nh (by simpa using v)] at a
  rw [a] at b
  simp only [n75,r75,QS,TS,Ug,Uf,Ue,SV,OU,Vy,Vx,Vw,Vv,Vu,Vt,OY,e0,e1,e2,NI,f,g,d,e,NH,hl,gt_iff_lt,Nr h,Nr h5,Nr l,N7 v,SB,seval,NC,NJ,NG,NQ,reduceCtorEq,NB,place,NA,ND]
  exact b _ none 0 Chg.refl.app rfl
 rw [Ni v] at a
 rw [a] at b
 simp only [n75,r75,QS,TS,Ug,Uf,Ue,SV,OU,Vy,Vx,Vw,Vv,Vu,Vt,OY,e0,e1,e2,NI,f,g,d,e,NH,hl,gt_iff_lt,Nr h,Nr h5,Nr l,Nr v,PR,SB,seval,NC,NJ,NG,NQ,reduceCtorEq,NB,place,NA,ND]
 refine t _ _ fun G p i y hS=>?_
 refine NM ?_
 simp only [n75,r75,SB,seval,NC,NJ,NG,NQ,reduceCtorEq,NB,place,NA,ND]
 exact b _ p i y.pre.app (hS.app _)
structure G38 (G1:NE) (B:Nat) (G:NE) (l:List An) (p:Option Addr) (cap:Nat):Prop where
 chg:Chg [B] G1 G
 cell:NF G B=Vc [.slice p l.length cap]
 own:Own G1.length G TH 5 p cap l
theorem G38.grow {G1 G G2:NE} {B cap:Nat} {l:List An} {p:Option Addr} (h:G38 G1 B G l p cap) (hc:Chg [] G G2):G38 G1 B G2 l p cap:=
 ⟨h.chg.trans' hc fun j b=>(by cases b),hc.cells h.cell (by simp),h.own.chg hc (fun a _=>by simp)⟩
theorem G38.add [OB] {lim B cap q:Nat} {p n:Option Addr} {l m:List An} {G1 G:NE} {Q:Value->NE->Prop} (h:G38 G1 B G l p cap) (hs:Sl G TH 5 n m) (j:lim<=B) (hB:B<G1.length) (hn:l.length+m.length<2 ^ 31)
  (t:∀G' e b,G.length<=G'.length->G38 G1 B G' (l++m) e b->Q (.tuple #[]) G') :
  NL E false lim 73 [.slice n m.length q,Vp B] G Q:=by
 refine R8 (by decide) e73 rfl ?_
 rw [b73,c73]
 have f:=NK h.cell
 have g:=h.chg.len
 obtain ⟨G2,e,b,k1,k2,k3,u,w⟩:=h.own.more (lim':=lim) (bytes:=40) (by omega) RN (by decide) m (by unfold PN;omega) (by omega) g [] (x:=.slice n m.length q) (str:=false) (Vk (hs.app [])) rfl
 have c:NF (G2++[]) B=Vc [.slice p l.length cap]:=by
  rw [u B f (fun a i=>by have:=(h.own.block i).1;omega)];exact h.cell
 rw [Nb] at k2 c
 have d:=k3 [B] G1 (Nd _) h.chg
 rw [Nb] at d
 obtain ⟨r,e3,s,k⟩:=OP (NK c) (Vc [.slice e (l.length+m.length) b])
 have v:=fun X=>(OM.refl.app (X:=X)).cells h.cell
 have o:=fun X=>(OM.refl.app (X:=X)).cells c
 simp only [n73,r73,v,k1,o,e3,j,SB,seval,NC,NJ,NG,NQ,reduceCtorEq,NB,place,NA,ND]
 have ho:Own G1.length r TH 5 e b (l++m):=k2.mut k fun a i=>by have:=(k2.block i).1;omega
 exact t _ e b (by rw [Nb,k.len];omega) ⟨by rw [Nb];exact d.mut k (.inl (by simp)),by rw [Nb,s,Nm],by rw [Nb];exact ho⟩
def Nqf:ACode->ACode
 | .block _ c=>c
 | c=>c
def YX:ACode:=Nqf (UC (Sy (Sy WC)))
def N2a:ACode:=Sy (Sy (Sy WC))
def Ngi:ACode:=Sy YX
def Nnb:ACode:=Sy Ngi
def N8q:ACode:=Sy Nnb
theorem N3n:WC=.seq (UC WC) (.seq (UC (Sy WC)) (.seq (.block 1 (.seq (UC YX) Ngi)) N2a)):=rfl
theorem N19:Ngi=.seq (UC Ngi) Nnb:=rfl
theorem N18:Nnb=.seq (UC Nnb) N8q:=rfl
structure D38 (lim B A T ce cq cr ct cp cL:Nat) (pe q r pt pp pL:Option Addr) (P:List Int) (L:List Leg) (es tw:List Ev) (ks:List Int) (ss:List Stp) (c:Int) (H0 G1:NE) (b4 b5:Nat):Prop where
 hev:Sl H0 encE 7 pe es
 hce:Ws 7 ce es.length
 htw:Sl H0 encE 7 pt tw
 net:NetIn H0 pp pL P L
 h01:Chg [] H0 G1
 rep:NF G1 b4=Vc (Uh pe es.length ce q ks.length cq r ss.length cr c none 0 0)
 nv:NF G1 b5=Vc (Tj pp P.length cp pL L.length cL)
 kp:NF G1 A=Vc ((V7 es.length ks).flatMap MU)
 to:NF G1 T=Vc ((toN es.length ss).flatMap enc3)
 n4:b4≠B
 n5:b5≠B
 nA:A≠B
 nT:T≠B
 hB:H0.length<=B
 lB:lim<=H0.length
 lG:B<G1.length
 ne:es.length<=2000
 nt:tw.length<=2000
 te:UZ es
 tt:UZ tw
 so:∀s∈ss,U9 es.length s
 di:Njj ss
structure FR38 (B A T ct n:Nat) (pt:Option Addr) (nt:Nat) (now:Int) (b4 b5:Nat) (fr:Nat->Value):Prop where
 f2:fr 2=.slice pt nt ct
 f3:fr 3=Vi now
 f4:fr 4=Vp b4
 f5:fr 5=Vp b5
 f9:fr 9=Vp B
 f10:fr 10=.func (.func 73) #[] #[Vp B]
 f11:fr 11=.slice (Sa A) n n
 f12:fr 12=.slice (Sa T) n n
section
variable {lim B A T ce cq cr ct cp cL b4 b5:Nat} {pe q r pt pp pL:Option Addr} {P:List Int} {L:List Leg} {es tw:List Ev} {ks:List Int} {ss:List Stp} {c now:Int} {H0 G1 G:NE} {fr:Nat->Value} {K:List AItem} {Z:Value->NE->Prop} {i cap:Nat} {p:Option Addr} {l:List An}
theorem D38.old (D:D38 lim B A T ce cq cr ct cp cL pe q r pt pp pL P L es tw ks ss c H0 G1 b4 b5) (h:G38 G1 B G l p cap):Chg [] H0 G:=D.h01.trans' h.chg fun j a hl=>by
 have:=D.hB
 rw [Nj] at a
 omega
theorem D38.rest [OB] (D:D38 lim B A T ce cq cr ct cp cL pe q r pt pp pL P L es tw ks ss c H0 G1 b4 b5) (h:G38 G1 B G l p cap) (F:FR38 B A T ct es.length pt tw.length now b4 b5 fr) (f13:fr 13=Vi i) (hi:i<es.length) (s:l.length<=1000000000)
  (m:∀fr' G' g b,G38 G1 B G' (l++R5 es tw i) g b->FR38 B A T ct es.length pt tw.length now b4 b5 fr'->fr' 22=fr 22->fr' 23=fr 23->fr' 24=fr 24->PV E a38 lim K fr' (G'++[]) Z) :
  PV E a38 lim (.code N8q::K) fr G Z:=by
 have d:=D.old h
 have v:=fun X=>(OM.refl.app (X:=X)).cells (h.chg.cells D.rep (by have:=D.n4;simpa using this))
 have k:=d.len
 have o:=D.lB
 have t:=D.ne
 have u:=D.nt
 unfold N8q
 refine NM ?_
 simp only [Nnb,Ngi,YX,Nqf,UC,Sy,WC,n38,r38,F.f4,F.f10,F.f2,f13,v,QS,NI,SB,seval,NC,NJ,NG,NQ,reduceCtorEq,NB,place,NA,ND]
 have n:(R5 es tw i).length<=tw.length:=by unfold R5;rw [Nu];exact Qv ..
 refine Np4 ((d.sl D.hev (fun a _ _ h=>(by cases h))).app _) D.hce ((d.sl D.htw (fun a _ _ h=>(by cases h))).app _) hi (by omega) (by omega) (by simp;omega) D.te D.tt fun G2 x w e f=>?_
 have h2:=h.grow e.pre
 refine NM ?_
 simp only [n38,r38,SB,seval,NC,NJ,NG,NQ,reduceCtorEq,NB,place,NA,ND]
 rw [Nb]
 refine h2.add f (by have:=D.hB;omega) D.lG (by omega) fun G' g b hl j=>?_
 refine NM ?_
 simp only [n38,r38,SB,seval,NC,NJ,NG,NQ,reduceCtorEq,NB,place,NA,ND]
 exact m _ _ _ _ j ⟨(by simp only [F.f2,ne_eq,FB,Nat.reduceEqDiff]),(by simp only [F.f3,ne_eq,FB,Nat.reduceEqDiff]),(by simp only [F.f4,ne_eq,FB,Nat.reduceEqDiff]),(by simp only [F.f5,ne_eq,FB,Nat.reduceEqDiff]),(by simp only [F.f9,ne_eq,FB,Nat.reduceEqDiff]),(by simp only [F.f10,ne_eq,FB,Nat.reduceEqDiff]),(by simp only [F.f11,ne_eq,FB,Nat.reduceEqDiff]),(by simp only [F.f12,ne_eq,FB,Nat.reduceEqDiff])⟩ rfl rfl rfl
noncomputable def V5 (P:List Int) (L:List Leg) (es:List Ev) (ss:List Stp) (i:Nat):List An:=if (gt (toN es.length ss) i).1<(gt (toN es.length ss) i).2.1 then TZ P L es (gt (toN es.length ss) i) else []
def Ndd (es:List Ev) (ks:List Int) (i:Nat):List An:=if gt (V7 es.length ks) i then [] else [⟨1,(i:Int),0,(gt es i).place,0⟩]
theorem D38.mid [OB] (D:D38 lim B A T ce cq cr ct cp cL pe q r pt pp pL P L es tw ks ss c H0 G1 b4 b5) (h:G38 G1 B G l p cap) (F:FR38 B A T ct es.length pt tw.length now b4 b5 fr) (f13:fr 13=Vi i) (hi:i<es.length) (f:l.length+(V5 P L es ss i).length<=1000000000)
  (g:∀fr' G' n d,G38 G1 B G' (l++(V5 P L es ss i++R5 es tw i)) n d->FR38 B A T ct es.length pt tw.length now b4 b5 fr'->fr' 22=fr 22->fr' 23=fr 23->fr' 24=fr 24->PV E a38 lim K fr' (G'++[]) Z) :
  PV E a38 lim (.code Nnb::K) fr G Z:=by
 have t:=D.old h
 have M:=fun X=>(OM.refl.app (X:=X)).cells (h.chg.cells D.rep (by have:=D.n4;simpa using this))
 have J:=fun X=>(OM.refl.app (X:=X)).cells (h.chg.cells D.nv (by have:=D.n5;simpa using this))
 have Q:=h.chg.cells D.to (by have:=D.nT;simpa using this)
 have O:=t.len
 have S:=D.lB
 have U:=D.ne
 have V:=D.nt
 have o:Sl G enc3 3 (Sa T) (toN es.length ss):=Sl.row OY Q
 have e:i<(toN es.length ss).length:=by rw [Nq3];exact hi
 have w:=fun c (k:IntKind) (H1:NE)=>o.idx (c:=c) (k:=k) (H1:=H1) e
 rw [Nq3] at w
 have I:=fun X=>(o.app X).loadCells OY e
 have C:∀X,AM.loadCell (G++X) ((YI (Sa T) 3 i).add 0)=some (Vi (gt (toN es.length ss) i).1):=fun X=>(o.app X).loadCell (j:=0) OY e (by omega)
 have H:∀X,AM.loadCell (G++X) ((YI (Sa T) 3 i).add 1)=some (Vi (gt (toN es.length ss) i).2.1):=fun X=>(o.app X).loadCell (j:=1) OY e (by omega)
 have m:=fun h=>(N2g D.so D.di hi h).1
 rw [N18]
 refine NM ?_
 unfold V5 at g f
 generalize gt (toN es.length ss) i=s at *
 by_cases h1:s.1<s.2.1
 ·rw [Ni h1] at g f
  simp only [Nnb,Ngi,YX,Nqf,UC,Sy,WC,n38,r38,F.f4,F.f5,F.f10,F.f12,f13,M,J,QS,PR,OY,NI,w,I,C,H,N7 h1,SB,seval,NC,NJ,NG,NQ,reduceCtorEq,NB,place,NA,ND]
  refine Ntk ((D.net.sim fun b ro x R=>t.cells R (by simp)).app _) ((t.sl D.hev (fun a _ _ h=>(by cases h))).app _) (D.so _ (m h1)) (by omega) (by simp;omega) fun G2 Y W u v=>?_
  have h2:=h.grow u.pre
  refine NM ?_
  simp only [n38,r38,SB,seval,NC,NJ,NG,NQ,reduceCtorEq,NB,place,NA,ND]
  rw [Nb]
  refine h2.add v (by have:=D.hB;omega) D.lG (by omega) fun G' n d hl N=>?_
  refine NM ?_
  simp only [n38,r38,SB,seval,NC,NJ,NG,NQ,reduceCtorEq,NB,place,NA,ND]
  rw [Nb]
  refine D.rest (now:=now) N ⟨(by simp only [F.f2,ne_eq,FB,Nat.reduceEqDiff]),(by simp only [F.f3,ne_eq,FB,Nat.reduceEqDiff]),(by simp only [F.f4,ne_eq,FB,Nat.reduceEqDiff]),(by simp only [F.f5,ne_eq,FB,Nat.reduceEqDiff]),(by simp only [F.f9,ne_eq,FB,Nat.reduceEqDiff]),(by simp only [F.f10,ne_eq,FB,Nat.reduceEqDiff]),(by simp only [F.f11,ne_eq,FB,Nat.reduceEqDiff]),(by simp only [F.f12,ne_eq,FB,Nat.reduceEqDiff])⟩ f13 hi (by rw [Nm];omega) fun fr' G' n d k1 k2 k3 y z=>?_
  rw [Nn] at k1
  exact g _ _ _ _ k1 k2 (k3.trans rfl) (y.trans rfl) (z.trans rfl)
 ·rw [Nh h1] at g f
  rw [Ok] at g
  simp only [Nnb,Ngi,YX,Nqf,UC,Sy,WC,n38,r38,F.f4,F.f5,F.f10,F.f12,f13,M,J,QS,PR,OY,NI,w,I,C,H,Nr h1,SB,seval,NC,NJ,NG,NQ,reduceCtorEq,NB,place,NA,ND]
  rw [Nb]
  refine D.rest (now:=now) h ⟨(by simp only [F.f2,ne_eq,FB,Nat.reduceEqDiff]),(by simp only [F.f3,ne_eq,FB,Nat.reduceEqDiff]),(by simp only [F.f4,ne_eq,FB,Nat.reduceEqDiff]),(by simp only [F.f5,ne_eq,FB,Nat.reduceEqDiff]),(by simp only [F.f9,ne_eq,FB,Nat.reduceEqDiff]),(by simp only [F.f10,ne_eq,FB,Nat.reduceEqDiff]),(by simp only [F.f11,ne_eq,FB,Nat.reduceEqDiff]),(by simp only [F.f12,ne_eq,FB,Nat.reduceEqDiff])⟩ f13 hi (by simpa using f) fun fr' G' n d k1 k2 k3 y z=>?_
  exact g _ _ _ _ k1 k2 (k3.trans rfl) (y.trans rfl) (z.trans rfl)
theorem D38.first [OB] {e:Nat} (D:D38 lim B A T ce cq cr ct cp cL pe q r pt pp pL P L es tw ks ss c H0 G1 b4 b5) (h:G38 G1 B G l p cap) (F:FR38 B A T ct es.length pt tw.length now b4 b5 fr) (f13:fr 13=Vi i) (f14:fr 14=Vp e) (o:NF G e=Vc (encE (gt es i))) (hi:i<es.length) (J:l.length+(1+(V5 P L es ss i).length)<=1000000000)
  (d:∀fr' G' n a,G38 G1 B G' (l++atN P L es tw ks ss i) n a->FR38 B A T ct es.length pt tw.length now b4 b5 fr'->fr' 22=fr 22->fr' 23=fr 23->fr' 24=fr 24->PV E a38 lim K fr' (G'++[]) Z) :
  PV E a38 lim (.code Ngi::K) fr G Z:=by
 have x:atN P L es tw ks ss i=Ndd es ks i++(V5 P L es ss i++R5 es tw i):=rfl
 rw [x] at d
 have z:=D.old h
 have H:=h.chg.cells D.kp (by have:=D.nA;simpa using this)
 have C:=z.len
 have I:=D.lB
 have M:=D.ne
 have N:=D.nt
 have w:Sl G MU 1 (Sa A) (V7 es.length ks):=Sl.row Zn H
 have f:i<(V7 es.length ks).length:=by rw [Ng4];exact hi
 have s:=fun c (k:IntKind) (H1:NE)=>w.idx (c:=c) (k:=k) (H1:=H1) f
 rw [Ng4] at s
 have v:∀X,AM.loadCell (G++X) (YI (Sa A) 1 i)=some (.bool (gt (V7 es.length ks) i)):=fun X=>by
  have:=(w.app X).loadCell (j:=0) Zn f (by omega)
  rwa [show (YI (Sa A) 1 i).add 0=YI (Sa A) 1 i from by simp only [YI,addrOf,Pa,addr_add,Pw]] at this
 have g:=fun X=>(OM.refl.app (X:=X)).cells o
 rw [N19]
 refine NM ?_
 unfold Ndd at d
 generalize gt (V7 es.length ks) i=b at *
 cases b with
 | true=>
   simp only [Ngi,YX,Nqf,UC,Sy,WC,n38,r38,F.f10,F.f11,f13,f14,g,OC,QV,Rv,Ru,Rt,Rs,Rq,QU,NI,s,v,SB,seval,NC,NJ,NG,NQ,reduceCtorEq,NB,place,NA,ND]
   rw [Ni rfl,Ok] at d
   rw [Nb]
   exact D.mid (now:=now) h ⟨(by simp only [F.f2,ne_eq,FB,Nat.reduceEqDiff]),(by simp only [F.f3,ne_eq,FB,Nat.reduceEqDiff]),(by simp only [F.f4,ne_eq,FB,Nat.reduceEqDiff]),(by simp only [F.f5,ne_eq,FB,Nat.reduceEqDiff]),(by simp only [F.f9,ne_eq,FB,Nat.reduceEqDiff]),(by simp only [F.f10,ne_eq,FB,Nat.reduceEqDiff]),(by simp only [F.f11,ne_eq,FB,Nat.reduceEqDiff]),(by simp only [F.f12,ne_eq,FB,Nat.reduceEqDiff])⟩ f13 hi (by omega) fun fr' G' n a k1 k2 k3 t u=>d _ _ _ _ k1 k2 (k3.trans rfl) (t.trans rfl) (u.trans rfl)
 | false=>
   simp only [Ngi,YX,Nqf,UC,Sy,WC,n38,r38,F.f10,F.f11,f13,f14,g,OC,QV,Rv,Ru,Rt,Rs,Rq,QU,NI,s,v,SB,seval,NC,NJ,NG,NQ,reduceCtorEq,NB,place,NA,ND]
   rw [Nh (by simp)] at d
   refine (h.grow (G2:=G++[Vc (TH ⟨1,(i:Int),0,(gt es i).place,0⟩)]) Chg.refl.app).add (lim:=lim) (m:=[⟨1,(i:Int),0,(gt es i).place,0⟩]) (Sl.row (ro:=false) RN (by rw [NV];rfl)) (by have:=D.hB;omega) D.lG (by simp;omega) fun G' n a hl y=>?_
   refine NM ?_
   simp only [n38,r38,SB,seval,NC,NJ,NG,NQ,reduceCtorEq,NB,place,NA,ND]
   rw [Nb]
   refine D.mid (now:=now) y ⟨(by simp only [F.f2,ne_eq,FB,Nat.reduceEqDiff]),(by simp only [F.f3,ne_eq,FB,Nat.reduceEqDiff]),(by simp only [F.f4,ne_eq,FB,Nat.reduceEqDiff]),(by simp only [F.f5,ne_eq,FB,Nat.reduceEqDiff]),(by simp only [F.f9,ne_eq,FB,Nat.reduceEqDiff]),(by simp only [F.f10,ne_eq,FB,Nat.reduceEqDiff]),(by simp only [F.f11,ne_eq,FB,Nat.reduceEqDiff]),(by simp only [F.f12,ne_eq,FB,Nat.reduceEqDiff])⟩ f13 hi (by rw [Nm,Q8];omega) fun fr' G' n a k1 k2 k3 t u=>?_
   rw [Nn] at k1
   exact d _ _ _ _ k1 k2 (k3.trans rfl) (t.trans rfl) (u.trans rfl)
end
theorem Noz {m:List Int}:∀{l:List Int},l.Nodup->(∀x∈l,x∈m)->l.length<=m.length:=by
 induction m with
 | nil=>intro l _ h;cases l with
   | nil=>simp
   | cons x l=>exact absurd (h x No) O8
 | cons a m ih=>
   intro l hn h
   have h1:=ih (l:=l.erase a) (hn.erase a) fun x b=>by
    have h2:=(hn.mem_erase_iff).1 b
    exact ((Np.1 (h x h2.2)).resolve_left h2.1)
   have c:l.length<=(l.erase a).length+1:=by rw [List.length_erase];split<;>omega
   simp only [Nl];omega
theorem Nww {P:List Int} {L:List Leg} {p q t:Int}:(Yj P L p q t).length<=50:=by
 by_cases h:∃w,Won P L p q t w
 ·obtain ⟨w,b⟩:=h
  rw [Nc5 b]
  obtain ⟨he,v,e,i,a⟩:=b
  obtain ⟨h1,hp,f,g,_⟩:=Me he
  have hn:=VM h1
  have:=Noz (m:=P) (a.way.nodup hn.fine a.few) fun x hx=>by
   rcases Np.1 hx with rfl | hx
   ·exact hp
   ·obtain ⟨y,d,rfl⟩:=List.mem_map.1 hx
    exact hn.dst _ (a.way.mem y d)
  have c:=(Va h1).1
  simp at this
  omega
 ·unfold Yj;rw [dif_neg h];simp
theorem Nk4 {P:List Int} {L:List Leg} {es:List Ev} {s:Stp}:(TZ P L es s).length<=50:=by
 unfold TZ
 simp only
 have hm:(Tp P L es s).length<=50:=by
  unfold Tp;rw [Nu,List.length_dropLast]
  have:=Nww (P:=P) (L:=L) (p:=(gt es s.1.toNat).place) (q:=(gt es s.2.1.toNat).place) (t:=(gt es s.1.toNat).time)
  omega
 repeat' split
 all_goals first | exact hm | simp
theorem YY {P:List Int} {L:List Leg} {es:List Ev} {ss:List Stp} {i:Nat}:(V5 P L es ss i).length<=50:=by
 unfold V5
 split
 ·exact Nk4
 ·simp
theorem N4m {P:List Int} {L:List Leg} {es tw:List Ev} {ks:List Int} {ss:List Stp} {i:Nat}:(atN P L es tw ks ss i).length<=51+tw.length:=by
 have e:atN P L es tw ks ss i=Ndd es ks i++(V5 P L es ss i++R5 es tw i):=rfl
 have h1:(Ndd es ks i).length<=1:=by unfold Ndd;split<;>simp
 have h2:=YY (P:=P) (L:=L) (es:=es) (ss:=ss) (i:=i)
 have a:(R5 es tw i).length<=tw.length:=by unfold R5;rw [Nu];exact Qv ..
 rw [e,Nm,Nm];omega
theorem Ngr {P:List Int} {L:List Leg} {es tw:List Ev} {ks:List Int} {ss:List Stp} {m:Nat}:Nh6 P L es tw ks ss (m+1)=Nh6 P L es tw ks ss m++atN P L es tw ks ss m:=by
 unfold Nh6;rw [Pq,P8,Ow,List.flatMap_nil,Nb]
theorem Nd0 {P:List Int} {L:List Leg} {es tw:List Ev} {ks:List Int} {ss:List Stp}:∀m,(Nh6 P L es tw ks ss m).length<=m*(51+tw.length)
 | 0=>by simp [Nh6]
 | m+1=>by
   have h:=Nd0 (P:=P) (L:=L) (es:=es) (tw:=tw) (ks:=ks) (ss:=ss) m
   have h2:=N4m (P:=P) (L:=L) (es:=es) (tw:=tw) (ks:=ks) (ss:=ss) (i:=m)
   rw [Ngr,Nm,Po];omega
theorem Nt7 [OB] {lim ce cq cr ct cp cL:Nat} {pe q r pt pp pL:Option Addr} {P:List Int} {L:List Leg} {es tw:List Ev} {ks:List Int} {ss:List Stp} {c now:Int} {H:NE} {Q:Value->NE->Prop} (hev:Sl H encE 7 pe es) (hce:Ws 7 ce es.length) (htw:Sl H encE 7 pt tw) (u:NetIn H pp pL P L) (hq:Sl H encI 1 q ks) (hr:Sl H enc3 3 r ss) (hl:lim<=H.length)
  (ne:es.length<=2000) (nt:tw.length<=2000) (te:UZ es) (tt:UZ tw) (so:∀s∈ss,U9 es.length s) (di:Njj ss) (hk:∀k∈ks,0<=k/\k<es.length) (t:ks.length<2 ^ 40) (M:ss.length<2 ^ 40) (v:0<=now/\now<=OA)
  (hQ:∀G p V,Chg [] H G->Own H.length G TH 5 p V (Tv P L es tw ks ss now)->Q (.slice p (Tv P L es tw ks ss now).length V) G) :
  NL E false lim 38 [.agg (Uh pe es.length ce q ks.length cq r ss.length cr c none 0 0).toArray,.agg (Tj pp P.length cp pL L.length cL).toArray,.slice pt tw.length ct,Vi now] H Q:=by
 refine R8 (by decide) e38 rfl ?_
 rw [b38,c38]
 simp only [n38,r38,QS,PR,NI,SB,seval,NC,NJ,NG,NQ,reduceCtorEq,NB,place,NA,ND]
 refine Nnn (lim:=lim) (hq.app _) (hr.app _) (by omega) t M (by simp;omega) hk so fun G1 A T b hA hT kA kT=>?_
 have I:=b.len
 simp at I hA hT
 have hB:=b.cells (NW (X:=[Vc (Uh pe es.length ce q ks.length cq r ss.length cr c none 0 0),Vc (Tj pp P.length cp pL L.length cL),Vc [Vz]]) (j:=2)) (by simp)
 have D:D38 lim (H.length+2) A T ce cq cr ct cp cL pe q r pt pp pL P L es tw ks ss c H G1 H.length (H.length+1):=⟨hev,hce,htw,u,b.pre,b.cells (NV (X:=[Vc (Uh pe es.length ce q ks.length cq r ss.length cr c none 0 0),Vc (Tj pp P.length cp pL L.length cL),Vc [Vz]])) (by simp),b.cells (NW (X:=[Vc (Uh pe es.length ce q ks.length cq r ss.length cr c none 0 0),Vc (Tj pp P.length cp pL L.length cL),Vc [Vz]]) (j:=1)) (by simp),kA,kT,by omega,by omega,by omega,by omega,by omega,hl,by omega,ne,nt,te,tt,so,di⟩
 have xR:=fun X=>(OM.refl.app (X:=X)).cells D.rep
 refine NM ?_
 simp only [n38,r38,xR,TS,SB,seval,NC,NJ,NG,NQ,reduceCtorEq,NB,place,NA,ND]
 have C:G38 G1 (H.length+2) G1 [] none 0:=⟨Chg.refl,hB,.nil⟩
 refine NR (fun j:Nat×Option Addr×Nat=>es.length-j.1) (fun j fr G=>j.1<=es.length/\FR38 (H.length+2) A T ct es.length pt tw.length now H.length (H.length+1) fr/\fr 22=.slice pe es.length ce/\fr 23=Vi es.length/\fr 24=Vi j.1/\G38 G1 (H.length+2) G (Nh6 P L es tw ks ss j.1) j.2.1 j.2.2) (0,none,0)
  ⟨Nz _,⟨rfl,rfl,rfl,rfl,rfl,rfl,rfl,rfl⟩,rfl,rfl,by rfl,C.grow Chg.refl.app⟩ ?_
 rintro ⟨i,p,cap⟩ fr G ⟨hi,F,g,l,e,n⟩ Y
 simp only at hi e n Y
 rw [NS N3n]
 refine NM ?_
 have x:=D.old n
 have Z:=x.len
 by_cases d:i<es.length
 case neg=>
  obtain rfl:i=es.length:=by omega
  have U:=fun X=>(OM.refl.app (X:=X)).cells (n.chg.cells D.rep (by simp))
  simp only [UC,Sy,WC,n38,r38,F.f4,F.f10,F.f9,F.f3,g,l,e,NU,d,U,QS,NI,SB,seval,NC,NJ,NG,NQ,reduceCtorEq,NB,place,NA,ND]
  have m:=Nd0 (P:=P) (L:=L) (es:=es) (tw:=tw) (ks:=ks) (ss:=ss) es.length
  have B:(Nh6 P L es tw ks ss es.length).length<=2000*2051:=Qi m (Nat.mul_le_mul (by omega) (by omega))
  have ab:(VW es ks now).length<=1:=by
   rcases Ny6 (es:=es) (ks:=ks) (now:=now) with h | ⟨k,_,h,_⟩<;>rw [h]<;>simp
  have W:Tv P L es tw ks ss now=Nh6 P L es tw ks ss es.length++VW es ks now:=rfl
  refine N3i ((x.sl hev (fun a _ _ h=>(by cases h))).app _) ((x.sl hq (fun a _ _ h=>(by cases h))).app _) (by omega) t (by simp;omega) hk te v fun G2 px cx y z=>?_
  have h2:=n.grow y.pre
  refine NM ?_
  simp only [n38,r38,SB,seval,NC,NJ,NG,NQ,reduceCtorEq,NB,place,NA,ND]
  rw [Nb]
  refine h2.add (lim:=lim) z (by omega) D.lG (by omega) fun G' p' f aa w=>?_
  have xB:=fun X=>(OM.refl.app (X:=X)).cells w.cell
  refine NM ?_
  simp only [n38,r38,F.f9,xB,SB,seval,NC,NJ,NG,NQ,reduceCtorEq,NB,place,NA,ND]
  rw [<-Nm,<-W]
  rw [<-W] at w
  exact hQ _ _ _ (D.old w).app ((w.own.le (by omega)).app _)
 have sE:=x.sl hev (fun a _ _ h=>(by cases h))
 have K:=fun X=>(sE.app X).loadCells OC d
 have o:=fun c (k:IntKind) (H1:NE)=>sE.idx (c:=c) (k:=k) (H1:=H1) d
 have N:IntKind.i64.wrap ((i:Int)+1)=((i+1:Nat):Int):=OG (by omega)
 have J:lim<=G.length:=by omega
 have m:=Nd0 (P:=P) (L:=L) (es:=es) (tw:=tw) (ks:=ks) (ss:=ss) i
 have ac:=YY (P:=P) (L:=L) (es:=es) (ss:=ss) (i:=i)
 have B:(Nh6 P L es tw ks ss i).length<=2000*2051:=Qi m (Nat.mul_le_mul (by omega) (by omega))
 simp only [UC,Sy,WC,YX,Nqf,n38,r38,g,l,e,NU,d,K,o,J,OC,NI,NH,SB,seval,NC,NJ,NG,NQ,reduceCtorEq,NB,place,NA,ND]
 refine D.first (now:=now) (i:=i) (n.grow (G2:=G++[Vc (encE (gt es i))]) Chg.refl.app) ⟨(by simp only [F.f2,ne_eq,FB,Nat.reduceEqDiff]),(by simp only [F.f3,ne_eq,FB,Nat.reduceEqDiff]),(by simp only [F.f4,ne_eq,FB,Nat.reduceEqDiff]),(by simp only [F.f5,ne_eq,FB,Nat.reduceEqDiff]),(by simp only [F.f9,ne_eq,FB,Nat.reduceEqDiff]),(by simp only [F.f10,ne_eq,FB,Nat.reduceEqDiff]),(by simp only [F.f11,ne_eq,FB,Nat.reduceEqDiff]),(by simp only [F.f12,ne_eq,FB,Nat.reduceEqDiff])⟩ rfl rfl NV d (by omega) fun fr' G' p' f k1 k2 k3 k4 k5=>?_
 rw [<-Ngr] at k1
 have S:fr' 24=Vi i:=k5.trans e
 have O:fr' 22=.slice pe es.length ce:=k3.trans g
 have R:fr' 23=Vi es.length:=k4.trans l
 unfold N2a
 simp only [Sy,WC,n38,r38,S,N,SB,seval,NC,NJ,NG,NQ,reduceCtorEq,NB,place,NA,ND]
 exact Y (i+1,p',f) _ _ ⟨by omega,⟨(by simp only [k2.f2,ne_eq,FB,Nat.reduceEqDiff]),(by simp only [k2.f3,ne_eq,FB,Nat.reduceEqDiff]),(by simp only [k2.f4,ne_eq,FB,Nat.reduceEqDiff]),(by simp only [k2.f5,ne_eq,FB,Nat.reduceEqDiff]),(by simp only [k2.f9,ne_eq,FB,Nat.reduceEqDiff]),(by simp only [k2.f10,ne_eq,FB,Nat.reduceEqDiff]),(by simp only [k2.f11,ne_eq,FB,Nat.reduceEqDiff]),(by simp only [k2.f12,ne_eq,FB,Nat.reduceEqDiff])⟩,O,R,rfl,k1.grow Chg.refl.app⟩ (by simp only;omega)
end Go.Proofs.YtkppjkkkdpcgiaaGreat.Fn


namespace Go.Proofs.YtkppjkkkdpcgiaaGreat.Fn
open Go.AM Go.AM.Sym Go.Scan
theorem Nyb [OB] {lim c:Nat} {p:Option Addr} {K:List Ev} {item:Int} {H:NE} {Q:Value->NE->Prop} (hs:Sl H encE 7 p K) (hn:K.length<4000) (hl:lim<=H.length)
  (U:∀G z,NF G H.length=Vc ((Vf K item).flatMap encE++z)->Chg [] H G->Q (.slice (Sa H.length) (Vf K item).length K.length) (G++[])) :
  NL E false lim 28 [.slice p K.length c,Vi item] H Q:=by
 refine R8 (by decide) e28 rfl ?_
 rw [b28,c28]
 have L:(K.length:Int)*56<=2 ^ 45:=by omega
 have M:(K.length:Int)<2 ^ 62:=by omega
 have N:(0:Int)<=(K.length:Int):=by omega
 simp only [n28,r28,L,M,N,N2,Rg,SB,Nat.reduceLT,NC,NJ,Nat.reduceEqDiff,NG,NQ,reduceCtorEq,NB,place,NA,Nat.reduceAdd,Nat.reduceLeDiff,ND,Int.reduceEq,Int.reduceLT,Int.reduceLE]
 refine NR (fun i=>K.length-i) (fun i fr G=>i<=K.length/\fr 1=Vi item/\fr 5=.slice (Sa H.length) (Vf (K.take i) item).length K.length/\fr 11=.slice p K.length c/\fr 12=Vi K.length/\fr 13=Vi i/\
   (∃z,z.length=(K.length-(Vf (K.take i) item).length)*7/\NF G H.length=Vc ((Vf (K.take i) item).flatMap encE++z))/\Chg [] H G) 0
  ⟨Nz _,rfl,(by simp only [Q0,Vf,List.filter_nil,Ns,FB,Nat.reduceEqDiff]),rfl,rfl,by rfl,⟨(List.range (K.length*7)).map fun j=>[Value.int .i64 0,Vi 0,Vi 0,.int .u8 0,Vi 0,Vi 0,Vi 0].getD (j % 7) undef,by simp [Vf],by rw [NV,Q0];rfl⟩,Chg.refl.app⟩ ?_
 rintro i fr G ⟨hi,q,w,e,f,n,⟨z,I,B⟩,A⟩ J
 rw [NS N53.eq_1]
 refine NM ?_
 have T:=A.len
 have t:=NK B
 by_cases d:i<K.length
 ·have S:=A.sl hs (fun a _ _ h=>(by cases h))
  have u:=fun X=>(S.app X).loadCells OC d
  have l:=fun c (k:IntKind) (H1:NE)=>S.idx (c:=c) (k:=k) (H1:=H1) d
  have v:IntKind.i64.wrap ((i:Int)+1)=((i+1:Nat):Int):=OG (by omega)
  have V:(Vf (K.take i) item).length<=i:=by
   unfold Vf
   refine Qi (Qv ..) ?_
   rw [Oy];omega
  have g:Vf (K.take (i+1)) item=if (item == 0||(gt K i).item == item)=true then Vf (K.take i) item++[gt K i] else Vf (K.take i) item:=by
   unfold Vf
   rw [Of d,List.filter_append,PZ d]
   by_cases h:(item == 0||K[i].item == item)=true
   ·rw [Ni h];simp only [List.filter_cons,h,if_true,List.filter_nil]
   ·rw [Nh h];simp only [List.filter_cons,h,if_false,List.filter_nil,Nb,Nx]
  generalize Y:gt K i=x at *
  generalize Vf (K.take i) item=O at *
  have m:lim<=G.length:=by omega
  have D:(item == 0||x.item == item)=true->∃G3,OT lim none 7 56 false (.slice (Sa H.length) O.length K.length) (.slice (Sa (G.length+1)) 1 1) (G++[Vc (encE x),Vc (encE x)])=some (.slice (Sa H.length) (O.length+1) K.length,G3++[Vc (encE x),Vc (encE x)])/\
    NF G3 H.length=Vc ((Vf (K.take (i+1)) item).flatMap encE++z.drop 7)/\(Vf (K.take (i+1)) item).length=O.length+1/\Chg [] H G3:=fun h=>by
   rw [Ni h] at g
   obtain ⟨G3,e3,r,W⟩:=OP (G:=G) (R:=H.length) t (Vc ((O++[x]).flatMap encE++z.drop 7))
   have o:=Nae (lim:=lim) (R:=H.length) (bytes:=56) (cap:=K.length) (k:=1) (b:=G.length+1) (dest:=none) (H:=G++[Vc (encE x),Vc (encE x)]) (enc:=encE) (old:=O) (x:=x) (ro:=false) (rest:=z) OC (by decide)
    (by rw [NW];rfl) (by rw [NN t];exact B) hl (by omega) I (by omega) (by unfold PN;omega)
   rw [e3] at o
   exact ⟨G3,o,by rw [g];exact r,by rw [g];simp,A.mut W (.inr (Nd _))⟩
  by_cases y:item=0
  ·obtain ⟨G3,e3,r,C,s⟩:=D (by simp [y])
   simp only [n28,r28,q,w,e,f,n,NU,d,l,u,OC,QV,Rv,Ru,Rt,Rs,Rq,QU,NI,NH,v,m,N7 y,e3,SB,Nat.reduceLT,NC,NJ,Nat.reduceEqDiff,NG,NQ,reduceCtorEq,NB,place,NA,Nat.reduceAdd,Nat.reduceLeDiff,ND,Int.reduceEq,Int.reduceLT,Int.reduceLE]
   exact J (i+1) _ _ ⟨by omega,q,(by simp only [C,ne_eq,FB,Nat.reduceEqDiff]),e,f,rfl,⟨z.drop 7,by rw [Pt,I,C];omega,by rw [NN (NK r)];exact r⟩,s.app⟩ (by omega)
  by_cases F:x.item=item
  ·obtain ⟨G3,e3,r,C,s⟩:=D (by simp [F])
   simp only [n28,r28,q,w,e,f,n,NU,d,l,u,OC,QV,Rv,Ru,Rt,Rs,Rq,QU,NI,NH,v,m,Nr y,N7 F,e3,SB,Nat.reduceLT,NC,NJ,Nat.reduceEqDiff,NG,NQ,reduceCtorEq,NB,place,NA,Nat.reduceAdd,Nat.reduceLeDiff,ND,Int.reduceEq,Int.reduceLT,Int.reduceLE]
   exact J (i+1) _ _ ⟨by omega,q,(by simp only [C,ne_eq,FB,Nat.reduceEqDiff]),e,f,rfl,⟨z.drop 7,by rw [Pt,I,C];omega,by rw [NN (NK r)];exact r⟩,s.app⟩ (by omega)
  ·have P:¬(item == 0||x.item == item)=true:=by simp [y,F]
   rw [Nh P] at g
   simp only [n28,r28,q,w,e,f,n,NU,d,l,u,OC,QV,Rv,Ru,Rt,Rs,Rq,QU,NI,NH,v,m,Nr y,Nr F,SB,Nat.reduceLT,NC,NJ,Nat.reduceEqDiff,NG,NQ,reduceCtorEq,NB,place,NA,Nat.reduceAdd,Nat.reduceLeDiff,ND,Int.reduceEq,Int.reduceLT,Int.reduceLE]
   exact J (i+1) _ _ ⟨by omega,q,(by simp only [w,g,FB,Nat.reduceEqDiff]),e,f,rfl,⟨z,by rw [g];exact I,by rw [NN t,g];exact B⟩,A.app⟩ (by omega)
 ·obtain rfl:i=K.length:=by omega
  rw [Oo] at w B
  simp only [n28,r28,q,w,e,f,n,NU,d,SB,Nat.reduceLT,NC,NJ,Nat.reduceEqDiff,NG,NQ,reduceCtorEq,NB,place,NA,Nat.reduceAdd,Nat.reduceLeDiff,ND,Int.reduceEq,Int.reduceLT,Int.reduceLE]
  exact U G z B A
end Go.Proofs.YtkppjkkkdpcgiaaGreat.Fn


namespace Go.Scan
theorem Ngl (S:List Ev):OO (S.map bare)=OO S:=by
 have h1:UL (S.map bare)=UL S:=by unfold UL;rw [List.foldl_map];rfl
 have h2:Ro (S.map bare)=Ro S:=by unfold Ro;rw [h1]
 have a:∀M,Sj M (S.map bare)=Sj M S:=fun M=>by unfold Sj;rw [List.map_map];rfl
 unfold OO
 rw [h2,a]
theorem Ndw {S:List Ev}:QW (S.map bare)↔QW S:=by
 unfold QW
 rw [Nu]
 exact and_congr Iff.rfl ⟨fun h s hs=>(h (bare s) (List.mem_map.2 ⟨s,hs,rfl⟩):Sb (bare s)),fun h s hs=>by
  obtain ⟨x,a,rfl⟩:=List.mem_map.1 hs
  exact h x a⟩
end Go.Scan
namespace Go.Proofs.YtkppjkkkdpcgiaaGreat.Fn
open Go.AM Go.AM.Sym Go.Scan
def effL (n:Nat) (L:List Ev):Value×List (List Value):=if L=[] then (.tuple #[Vz,Vi 0],[]) else (.tuple #[.slice (Sa n) L.length (loose 7),Vi 0],[L.flatMap encE])
def effR (a:Bool) (n:Nat) (S:List Ev):Value×List (List Value):=if QW S then effL n (if a then (OO S).1 else (OO S).2) else (.tuple #[Vz,Vi 2],[])
theorem Nu3 {a:Bool} {n:Nat} {S S':List Ev} (h:S.map bare=S'.map bare):effR a n S=effR a n S':=by
 have h1:OO S=OO S':=by rw [<-Ngl S,<-Ngl S',h]
 have h2:QW S↔QW S':=by rw [<-Ndw,<-Ndw (S:=S'),h]
 unfold effR
 rw [h1]
 by_cases b:QW S
 ·rw [Ni b,Ni (h2.1 b)]
 ·rw [Nh b,Nh fun h=>b (h2.2 h)]
theorem Nu0 {x y:Ev} (h:QL x=QL y):bare x=bare y:=by
 obtain ⟨a,b,c,d,e,f,g⟩:=x
 obtain ⟨a',b',i,j,k,l,m⟩:=y
 simp only [QL,List.cons.injEq,Value.int.injEq,Rf,and_true] at h
 obtain ⟨rfl,rfl,rfl,rfl,rfl,rfl⟩:=h
 rfl
theorem Nhd:∀{S S':List Ev},S.length=S'.length->S.flatMap QL=S'.flatMap QL->S.map bare=S'.map bare
 | [],[],_,_=>rfl
 | [],_::_,h,_=>by cases h
 | _::_,[],h,_=>by cases h
 | x::S,y::S',h,e=>by
   rw [Ow,Ow] at e
   obtain ⟨e1,e2⟩:=List.append_inj e rfl
   rw [Oc,Oc,Nu0 e1,Nhd (by simpa using h) e2]
theorem N2l {H:NE} {p:Option Addr} {S S':List Ev} (hl:S.length=S'.length) (h:Sl H QL 6 p S) (h':Sl H QL 6 p S'):S.map bare=S'.map bare:=by
 cases p with
 | none=>
   have e1:S=[]:=h
   have e2:S'=[]:=h'
   rw [e1,e2]
 | some a=>
   by_cases b:S=[]
   ·subst b
    cases S' with
    | nil=>rfl
    | cons _ _=>cases hl
   have d:S'≠[]:=fun e=>b (List.length_eq_zero_iff.1 (by rw [hl,e];rfl))
   obtain ⟨ro,c,k1,_,k3⟩:=h.2 b
   obtain ⟨i,j,f,_,g⟩:=h'.2 d
   rw [k1] at f;cases f
   exact Nhd hl (k3.symm.trans (by rw [hl];exact g))
open Classical in
noncomputable def effO (g:FuncId) (as:List Value) (H:NE):Option (Value×List (List Value)):=
 if g=36\/g=27 then match as with
  | [.slice p n c]=>if h:∃S:List Ev,S.length=n/\n<2 ^ 63/\Sl H QL 6 p S then some (effR (decide (g=36)) H.length h.choose) else none
  | _=>none
 else none
theorem effO_no (g:FuncId) (as:List Value) (H:NE) (h1:g≠36) (h2:g≠27):effO g as H=none:=by
 unfold effO
 exact Nh (by rintro (h | h);exact h1 h;exact h2 h)
theorem N03 {g:FuncId} (a:g=36\/g=27) {p:Option Addr} {c:Nat} {S:List Ev} {H:NE} (hs:Sl H QL 6 p S) (hn:S.length<2 ^ 63):effO g [.slice p S.length c] H=some (effR (decide (g=36)) H.length S):=by
 have hex:∃S':List Ev,S'.length=S.length/\S.length<2 ^ 63/\Sl H QL 6 p S':=⟨S,rfl,hn,hs⟩
 unfold effO
 rw [Ni a]
 simp only
 rw [Rc hex]
 obtain ⟨k1,_,k3⟩:=hex.choose_spec
 rw [Nu3 (N2l k1 k3 hs)]
theorem effO_some {g:FuncId} {as:List Value} {H:NE} {r} (h:effO g as H=some r):(g=36\/g=27)/\∃p c S,as=[.slice p S.length c]/\S.length<2 ^ 63/\Sl H QL 6 p S/\r=effR (decide (g=36)) H.length S:=by
 unfold effO at h
 split at h
 case isFalse=>cases h
 rename_i a
 refine ⟨a, ?_⟩
 split at h
 ·rename_i p n c
  split at h
  ·rename_i hex
   obtain ⟨k1,k2,k3⟩:=hex.choose_spec
   simp only [Option.some.injEq] at h
   exact ⟨p,c,hex.choose,by rw [k1],by omega,k3,h.symm⟩
  ·cases h
 ·cases h
def EffOk [OB]:Prop:=∀g as H,OB.eff g as H=effO g as H
theorem Np2 [OB] (b:EffOk) {g:FuncId} (a:g=36\/g=27) {lim c:Nat} {p:Option Addr} {S:List Ev} {H:NE} {Q:Value->NE->Prop} (hs:Sl H QL 6 p S) (hn:S.length<2 ^ 63) :
  NL E false lim g [.slice p S.length c] H Q=Q (effR (decide (g=36)) H.length S).1 (H++news (effR (decide (g=36)) H.length S).2):=
 Nws (by rcases a with rfl | rfl<;>simp [E,orc]) (by show OB.eff g _ H=_;rw [b];exact N03 a hs hn)
theorem effR_no {a:Bool} {n:Nat} {S:List Ev} (h:¬QW S):effR a n S=(.tuple #[Vz,Vi 2],[]):=Nh h
theorem Nmi {H:NE} (L:List Ev):∃p c,effL H.length L=(.tuple #[.slice p L.length c,Vi 0],(effL H.length L).2)/\Own H.length (H++news (effL H.length L).2) encE 7 p c L/\Chg [] H (H++news (effL H.length L).2):=by
 unfold effL
 by_cases h:L=[]
 ·rw [Ni h]
  exact ⟨none,0,by rw [h];rfl,.inl ⟨h,rfl,rfl⟩,Chg.refl.app⟩
 ·rw [Nh h]
  exact ⟨_,_,rfl,.inr ⟨H.length,rfl,rfl,NV,Nd _⟩,Chg.refl.app⟩
theorem N48 [OB] (a:EffOk) {lim c:Nat} {p:Option Addr} {S:List Ev} {H:NE} {Q:Value->NE->Prop} (hs:Sl H QL 6 p S) (hS:QW S)
  (b:∀G kp kc,Own H.length G encE 7 kp kc (OO S).1->Chg [] H G->Q (.tuple #[.slice kp (OO S).1.length kc,Vi 0]) (G++[])) :
  NL E false lim 36 [.slice p S.length c] H Q:=by
 rw [Np2 a (.inl rfl) hs (by have:=hS.1;omega)]
 have e:effR (decide ((36:Nat)=36)) H.length S=effL H.length (OO S).1:=Ni hS
 rw [e]
 obtain ⟨f,d,e1,e2,e3⟩:=Nmi (H:=H) (OO S).1
 rw [e1]
 have:=b _ _ _ e2 e3
 rwa [Nb] at this
theorem Nqv [OB] (a:EffOk) {lim c:Nat} {p:Option Addr} {S:List Ev} {H:NE} {Q:Value->NE->Prop} (hs:Sl H QL 6 p S) (hn:S.length<2 ^ 63) (hS:¬QW S) :
  NL E false lim 36 [.slice p S.length c] H Q=Q (.tuple #[Vz,Vi 2]) H:=by
 rw [Np2 a (.inl rfl) hs hn,effR_no hS]
 simp [news]
theorem Nwp [OB] (a:EffOk) {lim c:Nat} {p:Option Addr} {S:List Ev} {H:NE} {Q:Value->NE->Prop} (hs:Sl H QL 6 p S) (hS:QW S)
  (b:∀G kp kc,Own H.length G encE 7 kp kc (OO S).2->Chg [] H G->Q (.tuple #[.slice kp (OO S).2.length kc,Vi 0]) (G++[])) :
  NL E false lim 27 [.slice p S.length c] H Q:=by
 rw [Np2 a (.inr rfl) hs (by have:=hS.1;omega)]
 have e:effR (decide ((27:Nat)=36)) H.length S=effL H.length (OO S).2:=Ni hS
 rw [e]
 obtain ⟨f,d,e1,e2,e3⟩:=Nmi (H:=H) (OO S).2
 rw [e1]
 have:=b _ _ _ e2 e3
 rwa [Nb] at this
end Go.Proofs.YtkppjkkkdpcgiaaGreat.Fn


namespace Go.Proofs.YtkppjkkkdpcgiaaGreat.Fn
open Go.AM Go.AM.Sym Go.Net Go.Scan
def N8w:List Value:=Uh none 0 0 none 0 0 none 0 0 0 none 0 0
theorem Nq7:N8w=[Vz,Vz,Vz,Vi 0,Vz]:=rfl
theorem Nt6 {P:List Int} {L:List Leg} {S:List Ev} {item now:Int} (h:R3 P L=0) (hS:QW S) (h1:1<=item) (h2:item<=999999) (b:0<=now) (c:now<=OA) (h5:Vf (OO S).1 item≠[]) :
  U1 P L S item now=Yl P L (Vf (OO S).1 item):=by
 have a:¬(¬QW S\/item<1\/999999<item\/now<0\/OA<now):=by
  rintro (h | h | h | h | h)
  ·exact h hS
  all_goals omega
 unfold U1
 rw [Nh (by simpa using h),Nh a,Nh h5]
theorem Nm3 {α:Type} {H:NE} {enc:α->List Value} {e R:Nat} {l:List α} {z:List Value} (he:∀x,(enc x).length=e) {ro:Bool} (h:NF H R=.cells ro (l.flatMap enc++z)):Sl H enc e (Sa R) l:=
 ⟨rfl,fun _=>⟨ro,_,h,by rw [Nm,PS he];simp,by rw [Ov,<-PS he,List.take_left]⟩⟩
theorem Njh [OB] (hE:EffOk) {lim c cp cL:Nat} {p pp pL:Option Addr} {P:List Int} {L:List Leg} {S:List Ev} {item now:Int} {H:NE} {Q:Value->NE->Prop} (hN:NetIn H pp pL P L) (hs:Sl H QL 6 p S) (hn:S.length<2 ^ 63) (hl:lim<=H.length)
  (d:∀G,U1 P L S item now≠0->Chg [] H G->Q (.tuple #[.agg N8w.toArray,Vi (U1 P L S item now)]) G)
  (ag:∀G pe ce q cq r cr pl cl (es tw:List Ev) (ks:List Int) (ss:List Stp),es=Vf (OO S).1 item->tw=Vf (OO S).2 item->ks=QZ P L es->ss=R4 P L es ks->U1 P L S item now=0->Chg [] H G->Wn H.length G encE 7 pe es->Ws 7 ce es.length->Wn H.length G encI 1 q ks->Wn H.length G enc3 3 r ss->Wn H.length G TH 5 pl (Tv P L es tw ks ss now)->
   Q (.tuple #[.agg (Uh pe es.length ce q ks.length cq r ss.length cr (SH P L es ks) pl (Tv P L es tw ks ss now).length cl).toArray,Vi 0]) G) :
  NL E false lim 17 [.agg (Tj pp P.length cp pL L.length cL).toArray,.slice p S.length c,Vi item,Vi now] H Q:=by
 refine R8 (by decide) e17 rfl ?_
 rw [b17,c17]
 have hv:=fun X (mp:Bool) (lim:Nat) (Q:Value->NE->Prop)=>Nc7 (mp:=mp) (lim:=lim) (cp:=cp) (cl:=cL) (Q:=Q) (hN.app X)
 rw [Nq7] at d
 by_cases K:R3 P L=0
 case neg=>
  rw [Nt5 K] at d
  simp only [n17,r17,PR,NI,hv,Nr K,NH,hl,SB,seval,NC,NJ,NG,NQ,reduceCtorEq,NB,place,NA,ND]
  exact d _ K Chg.refl.app
 simp only [n17,r17,PR,NI,hv,N7 K,NH,hl,SB,seval,NC,NJ,NG,NQ,reduceCtorEq,NB,place,NA,ND]
 by_cases hS:QW S
 case neg=>
  rw [Ngx K (.inl hS)] at d
  rw [Nqv hE (hs.app _) hn hS]
  simp only [n17,r17,NH,hl,SB,seval,NC,NJ,NG,NQ,reduceCtorEq,NB,place,NA,ND]
  exact d _ (by decide) Chg.refl.app
 refine N48 hE (hs.app _) hS fun G1 kp kc hO m=>?_
 have ax:=m.len
 simp at ax
 have bg:lim<=G1.length:=by omega
 have t:=fun h=>Ngx (P:=P) (L:=L) (S:=S) (item:=item) (now:=now) K (.inr h)
 have k8:=m.cells (NW (X:=[Vc (Tj pp P.length cp pL L.length cL),Vc [Vz,Vz,Vz,Vi 0,Vz]]) (j:=1)) (by simp)
 have x8:=fun X=>(OM.refl.app (X:=X)).cells k8
 obtain ⟨G8,e8,h8,m8⟩:=OP (NK k8) (Vc [Vz,Vz,Vz,Vi 0,Vz])
 have y8:=fun X=>(OM.refl.app (X:=X)).cells h8
 have B:Chg [] H G8:=m.pre.mut m8 (.inr (by omega))
 have i:lim<=H.length+1:=by omega
 refine NM ?_
 unfold OA at t
 by_cases V:item<1
 ·rw [t (.inl V)] at d
  simp only [n17,r17,x8,e8,y8,i,NH,gt_iff_lt,N7 V,SB,seval,NC,NJ,NG,NQ,reduceCtorEq,NB,place,NA,ND]
  exact d _ (by decide) B.app
 by_cases Y:999999<item
 ·rw [t (.inr (.inl Y))] at d
  simp only [n17,r17,x8,e8,y8,i,NH,gt_iff_lt,Nr V,N7 Y,SB,seval,NC,NJ,NG,NQ,reduceCtorEq,NB,place,NA,ND]
  exact d _ (by decide) B.app
 by_cases c3:now<0
 ·rw [t (.inr (.inr (.inl c3)))] at d
  simp only [n17,r17,x8,e8,y8,i,NH,gt_iff_lt,Nr V,Nr Y,N7 c3,SB,seval,NC,NJ,NG,NQ,reduceCtorEq,NB,place,NA,ND]
  exact d _ (by decide) B.app
 by_cases c4:1051898399<now
 ·rw [t (.inr (.inr (.inr c4)))] at d
  simp only [n17,r17,x8,e8,y8,i,NH,gt_iff_lt,Nr V,Nr Y,Nr c3,N7 c4,SB,seval,NC,NJ,NG,NQ,reduceCtorEq,NB,place,NA,ND]
  exact d _ (by decide) B.app
 simp only [n17,r17,x8,e8,y8,i,NH,gt_iff_lt,Nr V,Nr Y,Nr c3,Nr c4,SB,seval,NC,NJ,NG,NQ,reduceCtorEq,NB,place,NA,ND]
 have b6:=Nkb S
 have bq:=hS.1
 have a0:=N20 (S:=S) (item:=item)
 have F:=Na0 (P:=P) (L:=L) (S:=S) (item:=item) (now:=now) K hS (by omega) (by omega) (by omega) (by unfold OA;omega)
 refine Nyb (lim:=lim) ((hO.sl OC).app _) (by omega) (by simp;omega) fun G2 z hz v=>?_
 have hle:=Nt6 (P:=P) (L:=L) (S:=S) (item:=item) (now:=now) K hS (by omega) (by omega) (by omega) (by unfold OA;omega)
 have aj:UZ (Vf (OO S).1 item):=fun e he=>⟨(Nh8 hS (by omega) he).2.1,(Nh8 hS (by omega) he).2.2.1⟩
 obtain ⟨es,N⟩:∃es,es=Vf (OO S).1 item:=⟨_,rfl⟩
 have bw:es.length<=(OO S).1.length:=by rw [N];exact (Nct _ _).length_le
 rw [<-N] at hz F a0 hle aj⊢
 rw [Nb] at hz v⊢
 have sE:Sl G2 encE 7 (Sa G1.length) es:=Nm3 OC hz
 have u:=v.cells k8 (by simp)
 have k:=m.pre.trans v
 have b0:=v.len
 have an:=fun X=>(OM.refl.app (X:=X)).cells u
 obtain ⟨G9,e9,h9,m9⟩:=OP (NK u) (Vc [Vz,Vz,Vz,Vi 0,Vz])
 have y9:=fun X=>(OM.refl.app (X:=X)).cells h9
 have ar:Chg [] H G9:=k.mut m9 (.inr (by omega))
 refine NM ?_
 by_cases Z:es=[]
 ·rw [Ni Z] at F
  rw [F] at d
  subst Z
  simp only [n17,r17,an,e9,y9,i,NH,Ns,show lim<=G2.length by omega,SB,seval,NC,NJ,NG,NQ,reduceCtorEq,NB,place,NA,ND]
  exact d _ (by decide) ar.app
 have bv:0<es.length:=List.length_pos_iff.2 Z
 have az:¬((es.length:Nat):Int)=0:=by omega
 rw [Nh Z] at F
 have k4:=m.cells (NV (X:=[Vc (Tj pp P.length cp pL L.length cL),Vc [Vz,Vz,Vz,Vi 0,Vz]])) (by simp)
 have U:=v.cells k4 (by simp)
 have be:=fun X=>(OM.refl.app (X:=X)).cells U
 simp only [n17,r17,an,be,PR,NI,i,NH,Nr az,show lim<=G2.length by omega,SB,seval,NC,NJ,NG,NQ,reduceCtorEq,NB,place,NA,ND]
 replace hle:=hle Z
 rw [hle] at d ag
 have ae:=hN.sim fun b ro x hb=>k.cells hb (by simp)
 refine N5a (lim:=lim) (ae.app _) (by simp;omega) (sE.app _) (by omega) (fun G3 s f=>?_) (fun G3 q cq r cr s f hq hr=>?_)
 ·have z8:=f.pre.cells u (by simp)
  have b7:=fun X=>(OM.refl.app (X:=X)).cells z8
  have w:=f.cells NV (by simp)
  have y:=fun X=>(OM.refl.app (X:=X)).cells w
  obtain ⟨Ga,ea,o,J⟩:=OP (NK w) (Vc [.slice (Sa G1.length) es.length (OO S).1.length,Vz,Vz,Vi 0,Vz])
  have ao:=J.cells z8 (by have:=NK u;omega)
  have ap:=fun X=>(OM.refl.app (X:=X)).cells ao
  obtain ⟨Gb,eb,hb,mb⟩:=OP (NK ao) (Vc [Vz,Vz,Vz,Vi 0,Vz])
  have zb:=fun X=>(OM.refl.app (X:=X)).cells hb
  refine NM ?_
  simp only [n17,r17,y,ea,ap,eb,zb,i,NH,Nr s,show lim<=G2.length by omega,SB,seval,NC,NJ,NG,NQ,reduceCtorEq,NB,place,NA,ND]
  exact d _ s ((k.trans f.pre).mut J (.inr (by have:=k.len;omega)) |>.mut mb (.inr (by omega))).app
 obtain ⟨ks,O⟩:∃ks,ks=QZ P L es:=⟨_,rfl⟩
 obtain ⟨ss,I⟩:∃ss,ss=R4 P L es ks:=⟨_,rfl⟩
 rw [<-O] at hq hr⊢
 rw [<-I] at hr⊢
 have z8:=f.pre.cells u (by simp)
 have z4:=f.pre.cells U (by simp)
 have w:=f.cells NV (by simp)
 have y:=fun X=>(OM.refl.app (X:=X)).cells w
 obtain ⟨Ga,ea,o,J⟩:=OP (NK w) (Vc [.slice (Sa G1.length) es.length (OO S).1.length,.slice q ks.length cq,.slice r ss.length cr,Vi (SH P L es ks),Vz])
 have ay:=f.len
 simp at ay
 have bo:H.length+2<=G2.length:=by have:=m.len;simp at this;omega
 have M:Chg [] H Ga:=(k.trans f.pre).mut J (.inr (by have:=k.len;omega))
 have t:=M.len
 have a8:=J.cells z8 (by have:=NK u;omega)
 have a4:=J.cells z4 (by have:=NK U;omega)
 have a1:=hq.mut J (by simp)
 have a3:=hr.mut J (by simp)
 have bn:=NK hz
 have a7:=(Chg.refl.mut (A:=[G2.length]) J (.inl (by simp))).sl (f.pre.sl sE (fun a _ _ h=>(by cases h))) (fun a o _=>by cases o;simp;omega)
 refine NM ?_
 simp only [n17,r17,y,ea,i,NH,show lim<=G2.length by omega,SB,seval,NC,NJ,NG,NQ,reduceCtorEq,NB,place,NA,ND]
 refine Nwp hE ((M.sl hs (fun a _ _ h=>(by cases h))).app _) hS fun G4 tp tc hT l=>?_
 have b8:=l.pre.cells a8 (by simp)
 have b4:=l.pre.cells a4 (by simp)
 have b13:=l.pre.cells o (by simp)
 have bc:=fun X=>(OM.refl.app (X:=X)).cells b8
 have bb:=fun X=>(OM.refl.app (X:=X)).cells b4
 have am:=fun X=>(OM.refl.app (X:=X)).cells b13
 have r13:Tz (Vc [.slice (Sa G1.length) es.length (OO S).1.length,.slice q ks.length cq,.slice r ss.length cr,Vi (SH P L es ks),Vz])=true:=by simp [Tz]
 have r4:Tz (Vc (Tj pp P.length cp pL L.length cL))=true:=by simp [Tz,Tj]
 refine NM ?_
 simp only [n17,r17,bc,bb,am,r13,r4,PR,NI,SB,seval,NC,NJ,NG,NQ,reduceCtorEq,NB,place,NA,ND]
 have ak:UZ (Vf (OO S).2 item):=fun e he=>by
  have hm:=((Nrd (show item≠0 by omega)).1 he).1
  have ht:=Ngk hS.2 (.inr hm)
  obtain ⟨s0,a6,e0⟩:=Ndl (.inr hm)
  have h6:=(hS.2 s0 a6).2.2.2.2.2.2
  have e6:e.seen=s0.seen:=by rw [<-e0]
  unfold VE at h6
  unfold OA
  omega
 refine Nyb (lim:=lim) ((hT.sl OC).app _) (by omega) (by simp;have:=l.pre.len;omega) fun G5 z' T g=>?_
 obtain ⟨tw,htw⟩:∃tw,tw=Vf (OO S).2 item:=⟨_,rfl⟩
 have bx:tw.length<=(OO S).2.length:=by rw [htw];exact (Nct _ _).length_le
 rw [<-htw] at T ak⊢
 rw [Nb] at T g⊢
 refine ⟨Nkk fun j hj=>?_, ?_⟩
 ·have aq:OD (List.length G4) [] G4=G4:=rfl
  rw [aq] at hj⊢
  obtain ⟨ro,x,hx⟩:=U3 hj
  rw [Nb,g.other j (NK hx) (by simp)]
 have c8:=g.cells b8 (by simp)
 have bk:=g.cells b4 (by simp)
 have c13:=g.cells b13 (by simp)
 have l4:=l.pre.len
 have l5:=g.len
 have ad:Chg [] H G5:=(M.trans l.pre).trans g
 have ah:=(a1.chg (A:=[]) l.pre (by simp)).chg (A:=[]) g (by simp)
 have ai:=(a3.chg (A:=[]) l.pre (by simp)).chg (A:=[]) g (by simp)
 have al:=g.sl (l.pre.sl a7 (fun a _ _ h=>(by cases h))) (fun a _ _ h=>(by cases h))
 have ba:Sl G5 encE 7 (Sa G4.length) tw:=Nm3 OC T
 have D:=Nac (P:=P) (L:=L) (es:=es)
 rw [<-O] at D
 have R:=Nj2 (P:=P) (L:=L) D
 rw [<-I] at R
 have bz:ks.length<=es.length:=Njd D.2
 have bh:ss.length<=ks.length:=by rw [I];unfold R4;rw [Nu,O7];omega
 refine NM ?_
 simp only [n17,r17,SB,seval,NC,NJ,NG,NQ,reduceCtorEq,NB,place,NA,ND]
 have av:=hN.sim fun b ro x hb=>ad.cells hb (by simp)
 refine Nt7 (lim:=lim) (ct:=(OO S).2.length) (c:=SH P L es ks) (al.app _) (.inr ⟨by omega,by omega⟩) (ba.app _) (av.app _) (ah.1.app _) (ai.1.app _) (by simp;omega) (by omega) (by omega) aj ak R.1 R.2 D.mem (by omega) (by omega) ⟨by omega,by unfold OA;omega⟩ fun G6 pl cl n C=>?_
 have d8:=n.pre.cells c8 (by simp)
 have aa:=n.pre.cells c13 (by simp)
 have ab:=fun X=>(OM.refl.app (X:=X)).cells aa
 have bm:=fun X=>(OM.refl.app (X:=X)).cells d8
 obtain ⟨Ge,ee,he,W⟩:=OP (NK aa) (Vc (Uh (Sa G1.length) es.length (OO S).1.length q ks.length cq r ss.length cr (SH P L es ks) pl (Tv P L es tw ks ss now).length cl))
 have ac:=W.cells d8 (by omega)
 have xe:=fun X=>(OM.refl.app (X:=X)).cells he
 have bd:=fun X=>(OM.refl.app (X:=X)).cells ac
 obtain ⟨Gf,ef,hf,mf⟩:=OP (NK ac) (Vc (Uh (Sa G1.length) es.length (OO S).1.length q ks.length cq r ss.length cr (SH P L es ks) pl (Tv P L es tw ks ss now).length cl))
 have xf:=fun X=>(OM.refl.app (X:=X)).cells hf
 simp only [Uh] at ee xe ef xf
 refine NM ?_
 simp only [n17,r17,ab,ee,xe,bd,ef,xf,i,NH,show lim<=G2.length by omega,SB,seval,NC,NJ,NG,NQ,reduceCtorEq,NB,place,NA,ND]
 have l6:=n.pre.len
 have au:H.length<=G1.length:=by have:=m.pre.len;omega
 have a9:=(((Chg.refl.mut (A:=[G2.length,H.length+1]) W (.inl (by simp))).mut mf (.inl (by simp))).sl (n.pre.sl al (fun a _ _ h=>(by cases h))) (fun a o _=>by cases o;simp;omega)).app []
 have a2:=((((ah.chg (A:=[]) n.pre (by simp)).mut W (by simp)).mut mf (by simp;omega)).le (n':=H.length) (by simp;omega)).app []
 have a5:=((((ai.chg (A:=[]) n.pre (by simp)).mut W (by simp)).mut mf (by simp;omega)).le (n':=H.length) (by simp;omega)).app []
 have bf:=NK c13
 have bu:=NK c8
 have aw:=((C.mut W (fun a o=>by have:=(C.block o).1;simp at this;omega)).mut mf (fun a o=>by have:=(C.block o).1;simp at this;omega)).app []
 refine ag _ _ _ q cq r cr pl cl es tw ks ss N htw O I (s) (((ad.trans n.pre).mut W (.inr (by omega))).mut mf (.inr (by omega))).app ⟨a9,fun a o=>by cases o;exact au⟩ (.inr ⟨by omega,by omega⟩) a2 a5 ⟨aw.sl RN,fun a o=>by have:=(C.block o).1;simp at this;omega⟩
def ZM (L:List Leg):Prop:=(∀l∈L,l.dst=l.frm+1)/\∀a∈L,∀b∈L,a.frm=b.frm->a=b
section
variable {L:List Leg} (hL:ZM L)
include hL
theorem ZM.len:∀{w:List (Leg×Int)} {p t q u:Int},RF L p t w q u->q=p+w.length
 | [],p,t,q,u,h=>by obtain ⟨rfl,_⟩:=h;simp
 | (l,a)::w,p,t,q,u,h=>by
   obtain ⟨h1,h2,b,c,h5⟩:=h
   have d:=hL.1 l h1
   have:=ZM.len h5
   simp only [Nl]
   omega
theorem ZM.first:∀{w w':List (Leg×Int)} {p t b q u c:Int},RF L p t w q u->YT t w->RF L p b w' q c->t<=b->u<=c/\w.map (·.1)=w'.map (·.1)
 | [],w',p,t,b,q,u,c,h,_,h',ht=>by
   have e:=hL.len h'
   obtain ⟨rfl,rfl⟩:=h
   have:w'=[]:=List.length_eq_zero_iff.1 (by omega)
   subst this
   obtain ⟨_,rfl⟩:=h'
   exact ⟨ht,rfl⟩
 | (l,a)::w,[],p,t,b,q,u,c,h,_,h',ht=>by
   have e:=hL.len h
   obtain ⟨rfl,_⟩:=h'
   simp only [Nl] at e
   omega
 | (l,a)::w,(l',a')::w',p,t,b,q,u,c,h,hn,h',ht=>by
   obtain ⟨h1,h2,k,m,h5⟩:=h
   obtain ⟨d,i,f,j,g⟩:=h'
   obtain ⟨n1,n2⟩:=hn
   obtain rfl:l=l':=hL.2 l h1 l' d (by omega)
   have:=(RO n1).2.2 a' f (by omega)
   obtain ⟨k1,k2⟩:=ZM.first h5 n2 g (by omega)
   exact ⟨k1,by rw [Oc,Oc,k2]⟩
theorem ZM.best {w:List (Leg×Int)} {p t q u:Int} (h:RF L p t w q u) (hn:YT t w) (g:u<=t+86400):TN L p t q u/\BestW L p t q u w:=by
 have key:∀j v',Go.Net.Way L j p t q v'->u<=v'/\w.length=j:=fun j v' d=>by
  obtain ⟨w',e,b⟩:=d.isWay
  have k:=hL.first h hn b (Oj _)
  have:=Qg List.length k.2
  rw [Nu,Nu] at this
  exact ⟨k.1,by omega⟩
 refine ⟨.inr ⟨⟨⟨_,h.way⟩,g⟩,fun v ⟨⟨j,d⟩,_⟩=>(key j v d).1⟩,h,fun j v' d _=>by have:=(key j v' d).2;omega,fun w' v' b _ _ c=>?_,hn⟩
 have k:=hL.first h hn b (Oj _)
 have e:Zw w'=Zw w:=by
  unfold Zw
  have:=Qg (List.map fun l:Leg=>l.id) k.2
  rw [List.map_map,List.map_map] at this
  exact this.symm
 rw [e] at c
 exact f _ c
where
 f:∀x:List Int,¬Nlp x x
 | [],h=>by cases h
 | a::x,h=>by rcases h with h | ⟨_,h⟩;omega;exact f x h
theorem ZM.way {P:List Int} {w:List (Leg×Int)} {p t q u:Int} (h:RF L p t w q u) (hn:YT t w) (a:u<=t+86400) (b:0<=u) (he:UD P L p q t=0):Yj P L p q t=w:=
 Nc5 ⟨he,u,b,(hL.best h hn a).1,(hL.best h hn a).2⟩
theorem ZM.arr {P:List Int} {w:List (Leg×Int)} {p t q u:Int} (h:RF L p t w q u) (hn:YT t w) (a:u<=t+86400) (he:UD P L p q t=0):Ncl P L p t q=u:=by
 obtain ⟨d,hp,b,c,_⟩:=Me he
 exact Sv.uniq (Nc1 (VM d) hp b c) (hL.best h hn a).1
end
theorem Nq8 {P:List Int} {L:List Leg} {a b:Ev} {v:Int} (c:a.kind≠4) (e:b.place∈P) (he:UD P L a.place a.place a.time=0) (f:Ncl P L a.place a.time b.place=v) (g:0<=v) (d:v<=b.time):QO P L a b=0:=by
 unfold QO
 rw [Nh c]
 by_cases hp:a.place=b.place
 ·rw [Ni hp]
 rw [Nh hp,Nh (by simpa using e),Nh (by simpa using he),f,Nh (by omega)]
 omega
theorem Ndz {P:List Int} {L:List Leg} {a b:Ev} (c:a.kind≠4) (hp:a.place=b.place):QO P L a b=0:=by
 unfold QO
 rw [Nh c,Ni hp]
section
variable {P:List Int} {L:List Leg} {es:List Ev}
theorem Ni6 {ks:List Int} (h:Nfv es.length ks):0<=SH P L es ks:=by
 have h1:=Njd h.2
 have h2:=ZP (P:=P) (L:=L) (es:=es) (ks:=ks) (ks.length-1)
 unfold SH R4
 omega
def N1p (P:List Int) (L:List Leg) (es:List Ev):Int:=SH P L es (QZ P L es)
theorem Njc:0<=N1p P L es:=Ni6 Nac
def Wj (n:Nat):List Int:=(List.range n).map Int.ofNat
theorem TV {n:Nat}:(Wj n).length=n:=by simp [Wj]
theorem XZ {n i:Nat} (h:i<n):gt (Wj n) i=(i:Int):=by rw [PZ (by simpa [Wj] using h)];simp [Wj]
theorem Nr2 {n:Nat}:Nfv n (Wj n):=⟨fun h=>by rwa [TV] at h,fun i hi=>by
 rw [TV] at hi
 unfold Ncd
 rw [XZ hi]
 refine ⟨by omega,by omega,fun h=>?_⟩
 rw [XZ (by omega)]
 omega⟩
theorem Ngj:∀(l:List (Int×Int×Int)),(∀x∈l,x.2.2=0)->Wv l=0
 | [],_=>rfl
 | x::l,h=>by rw [Wv,h x (by simp),Ngj l fun y a=>h y (by simp [a])];rfl
theorem N1v (h:∀i,i+1<es.length->QO P L (gt es i) (gt es (i+1))=0):SH P L es (Wj es.length)=0:=by
 unfold SH
 rw [TV,Ngj]
 ·omega
 ·intro x a
  unfold R4 at a
  obtain ⟨i,hi,rfl⟩:=List.mem_map.1 a
  have hi:=List.mem_range.1 hi
  rw [TV] at hi
  unfold Uo
  rw [XZ (by omega),XZ (by omega)]
  exact h i (by omega)
theorem Nvi (h:∀i,i+1<es.length->QO P L (gt es i) (gt es (i+1))=0):N1p P L es=0/\(QZ P L es).length=es.length:=by
 have b:=N1v h
 have h1:=Njc (P:=P) (L:=L) (es:=es)
 have h2:=Njd (Nac (P:=P) (L:=L) (es:=es)).2
 rcases N1o (P:=P) (L:=L) (Nr2 (n:=es.length)) with a | ⟨a,hc | ⟨hc,_⟩⟩
 ·rw [b] at a;exact absurd a (by unfold N1p at h1;omega)
 ·rw [TV] at hc;rw [b] at a;exact ⟨a,by omega⟩
 ·rw [TV] at hc;rw [b] at a;exact ⟨a,by omega⟩
end
theorem Mh {P:List Int} {L:List Leg} {es:List Ev} (h:∀i,i+1<es.length->QO P L (gt es i) (gt es (i+1))=0):QZ P L es=Wj es.length/\SH P L es (QZ P L es)=0:=by
 obtain ⟨h1,h2⟩:=Nvi h
 have hk:=Nac (P:=P) (L:=L) (es:=es)
 refine ⟨?_,h1⟩
 refine Pn (by rw [TV,h2]) fun i hi a=>?_
 rw [<-PZ hi,<-PZ a,XZ (by rw [TV] at a;exact a)]
 have mono:∀d i,i+d<(QZ P L es).length->gt (QZ P L es) i+d<=gt (QZ P L es) (i+d):=fun d=>by
  induction d with
  | zero=>intro i _;simp
  | succ d ih=>
    intro i hd
    have k1:=ih i (by omega)
    have k2:gt (QZ P L es) (i+(d+1)-1)<gt (QZ P L es) (i+(d+1)):=(hk.2 (i+(d+1)) hd).2.2 (by omega)
    rw [show i+(d+1)-1=i+d by omega] at k2
    omega
 have b:=Nqj hk.2 i hi
 have c:=mono (es.length-1-i) i (by omega)
 have e:=(hk.2 (i+(es.length-1-i)) (by omega)).2.1
 omega
def k1L:Leg:=⟨1,1,2,600,60,0,1000,127⟩
def k2L:Leg:=⟨2,2,3,700,100,0,1000,127⟩
def PX:List Int:=[1,2,3]
def LX:List Leg:=[k1L,k2L]
theorem N1d:ZM LX:=⟨by decide,by decide⟩
theorem nk1:RY k1L 500=some 600:=nx 0 rfl (by decide) (by decide) (by decide) (by decide) (by decide)
theorem nk2:RY k2L 660=some 700:=nx 0 rfl (by decide) (by decide) (by decide) (by decide) (by decide)
theorem N8s:RF LX 1 500 [(k1L,600),(k2L,700)] 3 800:=by
 obtain ⟨a,_⟩:=RO nk1
 obtain ⟨b,_⟩:=RO nk2
 exact ⟨by simp [LX],rfl,a,by decide,by simp [LX],rfl,b,by decide,rfl,by decide⟩
theorem Nyr:YT 500 [(k1L,600),(k2L,700)]:=⟨nk1,nk2,trivial⟩
theorem Oeq:Ncl PX LX 1 500 3=800:=N1d.arr N8s Nyr (by decide) (by decide)
theorem wX:Yj PX LX 1 3 500=[(k1L,600),(k2L,700)]:=N1d.way N8s Nyr (by decide) (by decide) (by decide)
def Nbo (p t k:Int):Ev:=⟨7,p,p,k,t,t,0⟩
def evX (p t k:Int):Ev:=⟨7,p,p,k,t,t,t⟩
def SA:List Ev:=[Nbo 1 500 2,Nbo 3 800 2]
def SBx:List Ev:=[Nbo 1 500 2,Nbo 3 800 2,Nbo 1 501 2]
def SDx:List Ev:=[Nbo 1 500 2,Nbo 1 505 4,Nbo 1 600 2]
def EA:List Ev:=[evX 1 500 2,evX 3 800 2]
def ED:List Ev:=[evX 1 500 2,evX 1 505 4,evX 1 600 2]
theorem N5g:Vf (OO SA).1 7=EA:=by decide
theorem N9h:Vf (OO SBx).1 7=EA:=by decide
theorem N9g:Vf (OO SDx).1 7=ED:=by decide
theorem N57:Vf (OO SA).2 7=[]:=by decide
theorem N96:Vf (OO SBx).2 7=[evX 1 501 2]:=by decide
theorem N95:Vf (OO SDx).2 7=[]:=by decide
theorem prX:QO PX LX (evX 1 500 2) (evX 3 800 2)=0:=Nq8 (v:=800) (by decide) (by decide) (by decide) Oeq (by decide) (by decide)
theorem Nqg:QZ PX LX EA=[0,1]/\SH PX LX EA [0,1]=0:=by
 obtain ⟨h1,h2⟩:=Mh (P:=PX) (L:=LX) (es:=EA) fun i hi=>by
  have:i=0:=by simp [EA] at hi;omega
  subst this;exact prX
 have e:QZ PX LX EA=[0,1]:=h1.trans rfl
 exact ⟨e,by rw [<-e];exact h2⟩
theorem Nhx:R4 PX LX EA [0,1]=[(0,1,0)]:=by
 show [((0:Int),(1:Int),QO PX LX (evX 1 500 2) (evX 3 800 2))]=_
 rw [prX]
theorem N8f:QZ PX LX ED=[0,1]:=by decide
theorem N2j:R4 PX LX ED [0,1]=[(0,1,0)]:=by decide
def TC:An:=⟨5,1,0,2,0⟩
def Nvw:An:=⟨6,0,0,1,1⟩
def Naf:An:=⟨7,1,0,3,28000⟩
def Nfk:An:=⟨1,2,0,1,0⟩
theorem N8i (tw:List Ev):Tv PX LX EA tw [0,1] [(0,1,0)] 900=R5 EA tw 0++(TC::R5 EA tw 1)/\Tv PX LX EA tw [0,1] [(0,1,0)] 28800=R5 EA tw 0++(TC::R5 EA tw 1)++[Naf]:=by
 have e0:atN PX LX EA tw [0,1] [(0,1,0)] 0=R5 EA tw 0:=rfl
 have e2:TZ PX LX EA (0,1,0)=[TC]:=by
  have:TZ PX LX EA (0,1,0)=Tp PX LX EA (0,1,0):=rfl
  rw [this]
  have:Tp PX LX EA (0,1,0)=(Yj PX LX 1 3 500).dropLast.map (Xm (0,1,0)):=rfl
  rw [this,wX];rfl
 have e1:atN PX LX EA tw [0,1] [(0,1,0)] 1=TZ PX LX EA (0,1,0)++R5 EA tw 1:=rfl
 rw [e2] at e1
 have e3:∀now,Tv PX LX EA tw [0,1] [(0,1,0)] now=atN PX LX EA tw [0,1] [(0,1,0)] 0++(atN PX LX EA tw [0,1] [(0,1,0)] 1++[])++VW EA [0,1] now:=fun now=>rfl
 constructor
 ·rw [e3,e0,e1,show VW EA [0,1] 900=[] from by decide];simp
 ·rw [e3,e0,e1,show VW EA [0,1] 28800=[Naf] from by decide];simp
theorem N66:Tv PX LX EA [] [0,1] [(0,1,0)] 900=[TC]:=(N8i []).1
theorem N65:Tv PX LX EA [evX 1 501 2] [0,1] [(0,1,0)] 900=[Nvw,TC]:=(N8i _).1.trans (by decide)
theorem N64:Tv PX LX EA [] [0,1] [(0,1,0)] 28800=[TC,Naf]:=(N8i []).2
theorem N63:Tv PX LX ED [] [0,1] [(0,1,0)] 900=[Nfk]:=rfl
theorem VO [OB] {mp:Bool} {lim:Nat} {p t k:Int} {H:NE} {Q:Value->NE->Prop}:NL E mp lim 31 [Vi p,Vi t,.int .u8 k] H Q=Q (.agg #[Vi 7,Vi p,Vi p,.int .u8 k,Vi t,Vi t]) H:=by
 refine pc (by decide) e31 rfl rfl ?_
 rw [b31,c31]
 simp only [n31,r31,NH,SB,seval,NC,NJ,NG,NQ,reduceCtorEq,NB,place,NA,ND]
theorem U6 [OB] {lim:Nat} {H:NE} {Q:Value->NE->Prop} (hl:lim<=H.length) (c:∀G a b,OM H G->NetIn G a b PX LX->Q (.agg (Tj a 3 3 b 2 2).toArray) G):NL E false lim 39 [] H Q:=by
 refine R8 (by decide) e39 rfl ?_
 rw [b39,c39]
 simp only [n39,r39,NH,hl,SB,seval,NC,NJ,NG,NQ,reduceCtorEq,NB,place,NA,ND]
 refine c _ (Sa (H.length+1)) (Sa (H.length+2)) OM.refl.app ⟨Sl.row (ro:=false) RJ (by rw [NW];rfl),Sl.row (ro:=false) OH (by rw [NW];rfl),by decide,by decide, ?_⟩
 intro l hl
 simp only [LX,Np,O8,or_false] at hl
 rcases hl with rfl | rfl<;>(unfold By;decide)
theorem Oaj (x y:An):aEq (.agg [.int .u8,.int .i64,.int .i64,.int .i64,.int .i64]) (.agg (TH x).toArray) (.agg (TH y).toArray)=some (decide (x=y)):=by
 obtain ⟨a,b,c,d,e⟩:=x
 obtain ⟨a',b',f,g,h⟩:=y
 simp only [aEq,TH,PL,TB,An.mk.injEq]
 simp
 rfl
theorem Ncz [OB] {mp:Bool} {lim ca n:Nat} {p q:Option Addr} {a b:List An} {H:NE} {Q:Value->NE->Prop} (o:Sl H TH 5 p a) (r:Sl H TH 5 q b) (hn:a.length<2 ^ 62) :
  NL E mp lim 30 [.slice p a.length ca,.slice q b.length n] H Q=Q (.bool (decide (a=b))) H:=by
 refine pc (by decide) e30 rfl rfl ?_
 rw [b30,c30]
 by_cases hl:a.length=b.length
 case neg=>
  have h1:¬(a.length:Int)=(b.length:Int):=by omega
  simp only [n30,r30,Nr h1,SB,seval,NC,NJ,NG,NQ,reduceCtorEq,NB,place,NA,ND]
  congr 1
  rw [eq_comm,decide_eq_false_iff_not]
  rintro rfl
  exact hl rfl
 have h1:(a.length:Int)=(b.length:Int):=by omega
 simp only [n30,r30,N7 h1,SB,seval,NC,NJ,NG,NQ,reduceCtorEq,NB,place,NA,ND]
 refine NR (fun j=>a.length-j) (fun j fr G=>j<=a.length/\fr 0=.slice p a.length ca/\fr 1=.slice q b.length n/\fr 12=Vi a.length/\fr 13=Vi j/\OM H G/\∀i,i<j->gt a i=gt b i) 0 ⟨Nz _,rfl,rfl,rfl,by rfl,OM.refl.app,fun i hi=>by omega⟩ ?_
 intro j fr G ⟨x,f0,f1,f12,f13,g,f⟩ w
 rw [NS N52.eq_1]
 refine NM ?_
 by_cases d:j<a.length
 case neg=>
  obtain rfl:j=a.length:=by omega
  simp only [n30,r30,f0,f1,f12,f13,NU,d,SB,seval,NC,NJ,NG,NQ,reduceCtorEq,NB,place,NA,ND]
  have:a=b:=Pn hl fun i h1 h2=>by rw [<-PZ h1,<-PZ h2];exact f i h1
  rw [Nq this]
 have l:j<b.length:=by omega
 have s:=fun X=>((g.sl o).app X).loadCells RN d
 have t:=fun X=>((g.sl r).app X).loadCells RN l
 have u:=fun c (kk:IntKind) (H1:NE)=>(g.sl o).idx (c:=c) (k:=kk) (H1:=H1) d
 have v:=fun c (kk:IntKind) (H1:NE)=>(g.sl r).idx (c:=c) (k:=kk) (H1:=H1) l
 have m:IntKind.i64.wrap ((j:Int)+1)=((j+1:Nat):Int):=OG (by omega)
 have e:=Oaj (gt a j) (gt b j)
 by_cases he:gt a j=gt b j
 ·rw [Nq he] at e
  simp only [n30,r30,f0,f1,f12,f13,NU,d,s,t,u,v,m,e,SB,seval,NC,NJ,NG,NQ,reduceCtorEq,NB,place,NA,ND]
  exact w (j+1) _ _ ⟨by omega,f0,f1,f12,rfl,g.trans OM.refl.app,fun i hi=>by
   rcases Oh i j with h | h
   ·exact f i h
   ·rw [show i=j by omega];exact he⟩ (by omega)
 ·rw [N8 he] at e
  simp only [n30,r30,f0,f1,f12,f13,NU,d,s,t,u,v,m,e,SB,seval,NC,NJ,NG,NQ,reduceCtorEq,NB,place,NA,ND]
  congr 1
  rw [eq_comm,decide_eq_false_iff_not]
  rintro rfl
  exact he rfl
def Nea:List Value:=[.string ⟨#[]⟩,.string ⟨#[115,116,114,97,121]⟩,.string ⟨#[97,102,116,101,114]⟩,.string ⟨#[106,117,109,112]⟩,.string ⟨#[101,97,114,108,121]⟩,.string ⟨#[109,105,115,115,101,100]⟩,.string ⟨#[100,111,117,98,108,101,100]⟩,.string ⟨#[108,111,115,116]⟩]
theorem Zf:Nea.length=8:=id rfl
theorem Nlf [OB] {mp:Bool} {lim:Nat} {H:NE} {Q:Value->NE->Prop}:NL E mp lim 35 [] H Q=Q (.agg Nea.toArray) H:=by
 refine pc (by decide) e35 rfl rfl ?_
 rw [b35,c35]
 simp only [n35,r35,NH,SB,seval,NC,NJ,NG,NQ,reduceCtorEq,NB,place,NA,ND]
 rfl
def Nbv (n:Nat):Value:=Nea.getD n (.string ⟨#[]⟩)
theorem No1 (n:Nat):flat 4 (Nbv n)=true:=by
 unfold Nbv Nea
 rcases n with _ | _ | _ | _ | _ | _ | _ | _ | n<;>rfl
theorem Nik [OB] {mp:Bool} {lim n:Nat} {H:NE} {Q:Value->NE->Prop} (hn:n<256):NL E mp lim 13 [.int .u8 (n:Int)] H Q=Q (Nbv n) H:=by
 refine pc (by decide) e13 rfl (No1 n) ?_
 rw [b13,c13]
 have c:IntKind.i64.wrap ((n:Nat):Int)=n:=NT (by omega) (by omega)
 by_cases b:8<=(n:Int)
 ·have e:Nbv n=.string ⟨#[]⟩:=by unfold Nbv;rw [Na,Nw (by rw [Zf];omega)];rfl
  simp only [n13,r13,Nlf,NH,c,ge_iff_le,N7 b,Zf,e,SB,seval,NC,NJ,NG,NQ,reduceCtorEq,NB,place,NA,ND]
 ·have e:∀(v:Value),Nea[n]? = some v->v=Nbv n:=fun v d=>by unfold Nbv;rw [Na,d];rfl
  have a:n<Nea.length:=by rw [Zf];omega
  have e2:Nea[n]? = some (Nbv n):=by rw [Nf a];congr 1;exact e _ (Nf a)
  simp only [n13,r13,Nlf,NH,c,ge_iff_le,Nr b,Zf,e2,N7 (show (0:Int)<=n by omega),N7 (show (n:Int)<8 by omega),and_self,if_true,Pd,SB,seval,NC,NJ,NG,NQ,reduceCtorEq,NB,place,NA,ND]
theorem set_self {G:NE} {b:Nat} {x:Blk} (h:NF G b=x) (a:b<G.length):G.set b x=G:=by
 apply Pn (by simp)
 intro j h1 h2
 rw [List.getElem_set]
 split
 ·rename_i e;subst e
  unfold NF at h
  rw [Na,Nf a] at h
  exact h.symm
 ·rfl
def Yh:ACode:=Sy (Sy (Sy (Sy c18)))
theorem N4h:c18=.seq (UC c18) (.seq (UC (Sy c18)) (.seq (UC (Sy (Sy c18))) (.seq (UC (Sy (Sy (Sy c18)))) Yh))):=rfl
def Wp:ACode:=Sy Yh
theorem Nwo:Yh=.seq (UC Yh) Wp:=rfl
def WZ:ACode:=Sy Wp
theorem Nqz:Wp=.seq (UC Wp) WZ:=rfl
def Ye:ACode:=Sy WZ
theorem Nqy:WZ=.seq (UC WZ) Ye:=rfl
def YU:ACode:=Sy Ye
theorem Nqx:Ye=.seq (UC Ye) YU:=rfl
def Nji:ACode:=Sy YU
theorem Nqw:YU=.seq (UC YU) Nji:=rfl
theorem Ocn:U1 PX LX SA 7 900=0:=by decide
theorem Ocm:U1 PX LX SBx 7 900=0:=by decide
theorem Ocl:U1 PX LX SA 7 28800=0:=by decide
theorem Ock:U1 PX LX SDx 7 900=0:=by decide
theorem N9u:U1 PX LX SBx 8 900=6:=by decide
def YR (G:NE) (b:Nat) (A:List An):Prop:=∃pe n ce q nk cq r ns cr c pl cl,NF G b=Vc (Uh pe n ce q nk cq r ns cr c pl A.length cl)/\Sl G TH 5 pl A
theorem YR.ext {G G':NE} {b:Nat} {A:List An} (h:YR G b A) (e:OM G G'):YR G' b A:=by
 obtain ⟨pe,n,ce,q,nk,cq,r,ns,cr,c,pl,cl,h1,h2⟩:=h
 exact ⟨pe,n,ce,q,nk,cq,r,ns,cr,c,pl,cl,e.cells h1,e.sl h2⟩
theorem Ncv [OB] (k:EffOk) {lim c cp cL:Nat} {p pp pL:Option Addr} {S tw es:List Ev} {ks:List Int} {ss:List Stp} {A:List An} {now:Int} {H:NE} {Q:Value->NE->Prop} (l:NetIn H pp pL PX LX) (hs:Sl H QL 6 p S) (hn:S.length<2 ^ 63) (hl:lim<=H.length)
  (f:U1 PX LX S 7 now=0) (h1:Vf (OO S).1 7=es) (h2:Vf (OO S).2 7=tw) (g:QZ PX LX es=ks) (i:R4 PX LX es ks=ss) (h5:Tv PX LX es tw ks ss now=A)
  (m:∀G pe n ce q nk cq r ns cr c pl cl,OM H G->Sl G TH 5 pl A->Q (.tuple #[.agg (Uh pe n ce q nk cq r ns cr c pl A.length cl).toArray,Vi 0]) G) :
  NL E false lim 17 [.agg (Tj pp PX.length cp pL LX.length cL).toArray,.slice p S.length c,Vi 7,Vi now] H Q:=by
 refine Njh k l hs hn hl (fun G h=>absurd f h) fun G pe ce q cq r cr pl cl es' d a b e1 e2 e3 e _ j _ _ _ _ hM=>?_
 obtain rfl:es'=es:=e1.trans h1
 obtain rfl:d=tw:=e2.trans h2
 obtain rfl:a=ks:=e3.trans g
 obtain rfl:b=ss:=e.trans i
 rw [h5] at hM⊢
 exact m G _ _ _ _ _ _ _ _ _ _ _ _ j.ext hM.1
structure A18 (b1 b2 b3:Nat) (G:NE) (fr:Nat->Value):Prop where
 f1:fr 1=.slice (Sa b1) 3 3
 f2:fr 2=Vp b2
 f3:fr 3=Vp b3
 k1:NF G b1=Vc (SBx.flatMap QL)
 k2:NF G b2=Vc (TH TC)
 k3:NF G b3=Vc (TH Nvw)
section
variable {lim b1 b2 b3:Nat} {fr:Nat->Value} {G:NE} {Q:Value->NE->Prop}
theorem chA [OB] (M:EffOk) (h:A18 b1 b2 b3 G fr) (hl:lim<=G.length)
  (N:∀fr' G' x,OM G G'->(∀t,t<14->t≠4->t≠5->fr' t=fr t)->fr' 4=Vp x->fr' 5=Vi 0->YR G' x [TC]->PV E a18 lim [.code Wp] fr' G' Q):PV E a18 lim [.code Yh] fr G Q:=by
 rw [Nwo]
 refine NM ?_
 have v:Sl G QL 6 (Sa b1) SBx:=Sl.row OU h.k1
 obtain ⟨q1,J,S,P,_,_,_⟩:=VN (c:=3) (vlo:=none) (vhi:=some (Vi 2)) (lo:=0) (hi:=2) v (.inr ⟨by decide,by decide⟩) OU (fun cap F=>by rw [Nbf (by decide) (by have:SBx.length=3:=rfl;omega)];rfl) (by decide) (by decide) (by decide)
 simp only [UC,Sy,Yh,c18,n18,r18,h.f1,SB,seval,NC,NJ,NG,NQ,reduceCtorEq,NB,place,NA,ND]
 refine U6 (by simp;omega) fun G1 a b f u=>?_
 have O:=f.len
 simp at O
 have l:NF G1 G.length=.dead:=by obtain ⟨X,rfl⟩:=f;rw [NN (by simp),NV];rfl
 have j:List.set G1 G.length Blk.dead=G1:=set_self l (by omega)
 have z:VS 6 (.slice (Sa b1) 3 3) none (some (Vi 2)) none=some (.slice q1 2 J):=S
 have d:OM G G1:=by obtain ⟨X,rfl⟩:=f;rw [Nn];exact OM.refl.app
 refine NM ?_
 simp only [n18,r18,h.f1,z,j,SB,seval,NC,NJ,NG,NQ,reduceCtorEq,NB,place,NA,ND]
 simp only [Nb,j]
 have w:Sl G1 QL 6 q1 SA:=d.sl P
 refine Ncv M u w (by decide) (by omega) Ocn N5g N57 Nqg.1 Nhx N66 fun G2 pe n ce q nk cq r ns cr c pl cl g L=>?_
 have W:=g.len
 have B:NF G2 G.length=.dead:=by obtain ⟨X,rfl⟩:=g;rw [NN (by omega)];exact l
 have m:NF (G1++[]) G.length=.dead:=by rw [Nb];exact l
 have y:List.set G2 G.length Blk.dead=G2:=set_self B (by omega)
 obtain ⟨U,e3,D,H⟩:=OP (G:=G2) (R:=G.length) (by omega) (Vc [Vz,Vz,Vz,Vi 0,Vz])
 obtain ⟨k,C,K,I⟩:=OP (NK D) (Vc (Uh pe n ce q nk cq r ns cr c pl [TC].length cl))
 have p:Chg [] G k:=(((d.trans g).chg (A:=[])).mut H (.inr (Nd _))).mut I (.inr (Nd _))
 have o:Sl k TH 5 pl [TC]:=L.sim (G:=k) fun b ro x s=>by
  have i:b≠G.length:=fun e=>by rw [e,B] at s;cases s
  exact I.cells (H.cells s i) i
 have T:=fun X=>(OM.refl.app (X:=X)).cells D
 simp only [Nl,Ns,N0,Nat.reduceAdd] at C
 refine NM ?_
 simp only [n18,r18,m,y,e3,T,C,hl,QS,NI,NH,SB,seval,NC,NJ,NG,NQ,reduceCtorEq,NB,place,NA,ND]
 exact N _ _ G.length (p.ext.trans OM.refl.app) (fun t V h1 h2=>by simp only [upd];repeat rw [Nh (by omega)]) rfl rfl ⟨pe,n,ce,q,nk,cq,r,ns,cr,c,pl,cl,by rw [Nb];exact K,o.app _⟩
theorem chB [OB] (j:EffOk) (h:A18 b1 b2 b3 G fr) (hl:lim<=G.length)
  (k:∀fr' G' x,OM G G'->(∀t,t<14->t≠6->t≠7->fr' t=fr t)->fr' 6=Vp x->fr' 7=Vi 0->YR G' x [Nvw,TC]->PV E a18 lim [.code WZ] fr' G' Q):PV E a18 lim [.code Wp] fr G Q:=by
 rw [Nqz]
 refine NM ?_
 have g:Sl G QL 6 (Sa b1) SBx:=Sl.row OU h.k1
 simp only [UC,Sy,Wp,Yh,c18,n18,r18,h.f1,SB,seval,NC,NJ,NG,NQ,reduceCtorEq,NB,place,NA,ND]
 rw [Nb]
 refine U6 (by omega) fun G1 a b d f=>?_
 have m:=d.len
 refine NM ?_
 simp only [n18,r18,h.f1,SB,seval,NC,NJ,NG,NQ,reduceCtorEq,NB,place,NA,ND]
 rw [Nb]
 refine Ncv j (c:=3) f (d.sl g) (by decide) (by omega) Ocm N9h N96 Nqg.1 Nhx N65 fun G2 pe n ce q nk cq r ns cr c pl cl e i=>?_
 have o:=e.len
 refine NM ?_
 simp only [n18,r18,QS,NI,NH,show lim<=G2.length by omega,SB,seval,NC,NJ,NG,NQ,reduceCtorEq,NB,place,NA,ND]
 exact k _ _ G2.length ((d.trans e).trans OM.refl.app) (fun t l h1 h2=>by simp only [upd];repeat rw [Nh (by omega)]) rfl rfl ⟨pe,n,ce,q,nk,cq,r,ns,cr,c,pl,cl,by rw [NV];rfl,i.app _⟩
theorem chC [OB] (M:EffOk) (h:A18 b1 b2 b3 G fr) (hl:lim<=G.length)
  (N:∀fr' G' x,OM G G'->(∀t,t<14->t≠8->t≠9->fr' t=fr t)->fr' 8=Vp x->fr' 9=Vi 0->YR G' x [TC,Naf]->PV E a18 lim [.code Ye] fr' G' Q):PV E a18 lim [.code WZ] fr G Q:=by
 rw [Nqy]
 refine NM ?_
 have v:Sl G QL 6 (Sa b1) SBx:=Sl.row OU h.k1
 obtain ⟨q1,J,S,P,_,_,_⟩:=VN (c:=3) (vlo:=none) (vhi:=some (Vi 2)) (lo:=0) (hi:=2) v (.inr ⟨by decide,by decide⟩) OU (fun cap F=>by rw [Nbf (by decide) (by have:SBx.length=3:=rfl;omega)];rfl) (by decide) (by decide) (by decide)
 simp only [UC,Sy,WZ,Wp,Yh,c18,n18,r18,h.f1,SB,seval,NC,NJ,NG,NQ,reduceCtorEq,NB,place,NA,ND]
 refine U6 (by simp;omega) fun G1 a b f u=>?_
 have O:=f.len
 simp at O
 have l:NF G1 G.length=.dead:=by obtain ⟨X,rfl⟩:=f;rw [NN (by simp),NV];rfl
 have j:List.set G1 G.length Blk.dead=G1:=set_self l (by omega)
 have z:VS 6 (.slice (Sa b1) 3 3) none (some (Vi 2)) none=some (.slice q1 2 J):=S
 have d:OM G G1:=by obtain ⟨X,rfl⟩:=f;rw [Nn];exact OM.refl.app
 refine NM ?_
 simp only [n18,r18,h.f1,z,j,SB,seval,NC,NJ,NG,NQ,reduceCtorEq,NB,place,NA,ND]
 simp only [Nb,j]
 have w:Sl G1 QL 6 q1 SA:=d.sl P
 refine Ncv M u w (by decide) (by omega) Ocl N5g N57 Nqg.1 Nhx N64 fun G2 pe n ce q nk cq r ns cr c pl cl g L=>?_
 have W:=g.len
 have B:NF G2 G.length=.dead:=by obtain ⟨X,rfl⟩:=g;rw [NN (by omega)];exact l
 have m:NF (G1++[]) G.length=.dead:=by rw [Nb];exact l
 have y:List.set G2 G.length Blk.dead=G2:=set_self B (by omega)
 obtain ⟨U,e3,D,H⟩:=OP (G:=G2) (R:=G.length) (by omega) (Vc [Vz,Vz,Vz,Vi 0,Vz])
 obtain ⟨k,C,K,I⟩:=OP (NK D) (Vc (Uh pe n ce q nk cq r ns cr c pl [TC,Naf].length cl))
 have p:Chg [] G k:=(((d.trans g).chg (A:=[])).mut H (.inr (Nd _))).mut I (.inr (Nd _))
 have o:Sl k TH 5 pl [TC,Naf]:=L.sim (G:=k) fun b ro x s=>by
  have i:b≠G.length:=fun e=>by rw [e,B] at s;cases s
  exact I.cells (H.cells s i) i
 have T:=fun X=>(OM.refl.app (X:=X)).cells D
 simp only [Nl,Ns,N0,Nat.reduceAdd] at C
 refine NM ?_
 simp only [n18,r18,m,y,e3,T,C,hl,QS,NI,NH,SB,seval,NC,NJ,NG,NQ,reduceCtorEq,NB,place,NA,ND]
 exact N _ _ G.length (p.ext.trans OM.refl.app) (fun t V h1 h2=>by simp only [upd];repeat rw [Nh (by omega)]) rfl rfl ⟨pe,n,ce,q,nk,cq,r,ns,cr,c,pl,cl,by rw [Nb];exact K,o.app _⟩
theorem chD [OB] (h:EffOk) (hl:lim<=G.length)
  (j:∀fr' G' x,OM G G'->(∀t,t<14->t≠10->t≠11->fr' t=fr t)->fr' 10=Vp x->fr' 11=Vi 0->YR G' x [Nfk]->PV E a18 lim [.code YU] fr' G' Q):PV E a18 lim [.code Ye] fr G Q:=by
 rw [Nqx]
 refine NM ?_
 simp only [UC,Sy,Ye,WZ,Wp,Yh,c18,n18,r18,SB,seval,NC,NJ,NG,NQ,reduceCtorEq,NB,place,NA,ND]
 rw [Nb]
 refine U6 (by omega) fun G1 a b d f=>?_
 have m:=d.len
 refine NM ?_
 simp only [n18,r18,VO,NH,QN,TL,show lim<=G1.length by omega,SB,seval,NC,NJ,NG,NQ,reduceCtorEq,NB,place,NA,ND]
 refine Ncv h (c:=3) (S:=SDx) (f.app _) (Sl.row (ro:=false) OU (by rw [NV];rfl)) (by decide) (by simp;omega) Ock N9g N95 N8f N2j N63 fun G2 pe n ce q nk cq r ns cr c pl cl e g=>?_
 have k:=e.len
 simp at k
 have i:OM G G2:=by obtain ⟨X,rfl⟩:=e;obtain ⟨Y,rfl⟩:=d;rw [Nn,Nn];exact OM.refl.app
 refine NM ?_
 simp only [n18,r18,QS,NI,NH,show lim<=G2.length by omega,SB,seval,NC,NJ,NG,NQ,reduceCtorEq,NB,place,NA,ND]
 exact j _ _ G2.length (i.trans OM.refl.app) (fun t l h1 h2=>by simp only [upd];repeat rw [Nh (by omega)]) rfl rfl ⟨pe,n,ce,q,nk,cq,r,ns,cr,c,pl,cl,by rw [NV];rfl,g.app _⟩
theorem chE [OB] (i:EffOk) (h:A18 b1 b2 b3 G fr) (hl:lim<=G.length)
  (j:∀fr' G',OM G G'->(∀t,t<12->fr' t=fr t)->fr' 13=Vi 6->PV E a18 lim [.code Nji] fr' G' Q):PV E a18 lim [.code YU] fr G Q:=by
 rw [Nqw]
 refine NM ?_
 have f:Sl G QL 6 (Sa b1) SBx:=Sl.row OU h.k1
 simp only [UC,Sy,YU,Ye,WZ,Wp,Yh,c18,n18,r18,h.f1,SB,seval,NC,NJ,NG,NQ,reduceCtorEq,NB,place,NA,ND]
 rw [Nb]
 refine U6 (by omega) fun G1 a b d e=>?_
 have l:=d.len
 refine NM ?_
 simp only [n18,r18,h.f1,SB,seval,NC,NJ,NG,NQ,reduceCtorEq,NB,place,NA,ND]
 rw [Nb]
 refine Njh i (P:=PX) (L:=LX) (S:=SBx) (c:=3) e (d.sl f) (by decide) (by omega) (fun G2 _ g=>?_) (fun _ _ _ _ _ _ _ _ _ _ _ _ _ _ _ _ _ h=>absurd (N9u.symm.trans h) (by decide))
 have m:=g.len
 rw [N9u]
 refine NM ?_
 simp only [n18,r18,Nq7,NH,show lim<=G2.length by omega,SB,seval,NC,NJ,NG,NQ,reduceCtorEq,NB,place,NA,ND]
 exact j _ _ ((d.trans g.ext).trans OM.refl.app) (fun t k=>by simp only [upd];repeat rw [Nh (by omega)]) rfl
theorem A18.next {G':NE} {fr':Nat->Value} (h:A18 b1 b2 b3 G fr) (e:OM G G') (h1:fr' 1=fr 1) (h2:fr' 2=fr 2) (a:fr' 3=fr 3):A18 b1 b2 b3 G' fr':=
 ⟨h1.trans h.f1,h2.trans h.f2,a.trans h.f3,e.cells h.k1,e.cells h.k2,e.cells h.k3⟩
end
theorem Nvn [OB] {b1 b2 b3 b4 s b8 e lim:Nat} {fr:Nat->Value} {G:NE} (h:A18 b1 b2 b3 G fr) (f4:fr 4=Vp b4) (f5:fr 5=Vi 0) (f:fr 6=Vp s) (g:fr 7=Vi 0) (i:fr 8=Vp b8) (f9:fr 9=Vi 0) (f10:fr 10=Vp e) (f11:fr 11=Vi 0) (f13:fr 13=Vi 6)
  (C:YR G b4 [TC]) (D:YR G s [Nvw,TC]) (r8:YR G b8 [TC,Naf]) (q:YR G e [Nfk]):PV E a18 lim [.code Nji] fr G fun v' _=>v'=.bool true:=by
 obtain ⟨_,_,_,_,_,_,_,_,_,_,p4,u,x,F⟩:=C
 obtain ⟨_,_,_,_,_,_,_,_,_,_,p6,v,y,I⟩:=D
 obtain ⟨_,_,_,_,_,_,_,_,_,_,L,w,z,J⟩:=r8
 obtain ⟨_,_,_,_,_,_,_,_,_,_,B,t,p,r⟩:=q
 have k2:NF G b2=Vc [.int .u8 5,Vi 1,Vi 0,Vi 2,Vi 0]:=h.k2
 have k3:NF G b3=Vc [.int .u8 6,Vi 0,Vi 0,Vi 1,Vi 1]:=h.k3
 have j:=fun X=>(OM.refl.app (X:=X)).cells k2
 have k:=fun X=>(OM.refl.app (X:=X)).cells k3
 have l:=fun X=>(OM.refl.app (X:=X)).cells x
 have m:=fun X=>(OM.refl.app (X:=X)).cells y
 have o:=fun X=>(OM.refl.app (X:=X)).cells z
 have d:=fun X=>(OM.refl.app (X:=X)).cells p
 have K:IntKind.i64.wrap 0=0:=by decide
 have n1:∀(mp:Bool) (lim:Nat) (H:NE) (Q:Value->NE->Prop),NL E mp lim 13 [.int .u8 1] H Q=Q (.string ⟨#[115,116,114,97,121]⟩) H:=fun mp lim H Q=>Nik (n:=1) (by decide)
 have c:∀(mp:Bool) (lim:Nat) (H:NE) (Q:Value->NE->Prop),NL E mp lim 13 [.int .u8 0] H Q=Q (.string ⟨#[]⟩) H:=fun mp lim H Q=>Nik (n:=0) (by decide)
 have n8:∀(mp:Bool) (lim:Nat) (H:NE) (Q:Value->NE->Prop),NL E mp lim 13 [.int .u8 8] H Q=Q (.string ⟨#[]⟩) H:=fun mp lim H Q=>Nik (n:=8) (by decide)
 have A:∀(mp:Bool) (lim:Nat) (Q:Value->NE->Prop),NL E mp lim 30 [.slice p4 1 u,.slice (Sa G.length) 1 1] (G++[Vc [.int .u8 5,Vi 1,Vi 0,Vi 2,Vi 0]]) Q=Q (.bool true) (G++[Vc [.int .u8 5,Vi 1,Vi 0,Vi 2,Vi 0]]):=fun mp lim Q=>Ncz (a:=[TC]) (b:=[TC]) (F.app _) (Sl.row (ro:=false) RN (by rw [NV];rfl)) (by decide)
 refine NM ?_
 simp only [UC,Sy,Nji,YU,Ye,WZ,Wp,Yh,c18,n18,r18,f4,f5,f,g,i,f9,f10,f11,f13,h.f2,h.f3,K,Int.add_zero,j,k,l,m,o,d,SV,NI,NH,QN,TL,A,n1,c,n8,SB,seval,NC,NJ,NG,NQ,reduceCtorEq,NB,place,NA,ND]
 refine Eq.mpr (Ncz (a:=[Nvw,TC]) (b:=[Nvw,TC]) (I.app _) (Sl.row (ro:=false) RN (by rw [NW];rfl)) (by decide)) ?_
 rw [Nq rfl]
 refine NM ?_
 simp only [n18,r18,f4,f5,f,g,i,f9,f10,f11,f13,h.f2,h.f3,j,k,l,m,o,d,SV,NI,NH,QN,TL,n1,c,n8,decide_true,beq_self_eq_true,SB,seval,NC,NJ,NG,NQ,reduceCtorEq,NB,place,NA,ND]
 refine Eq.mpr (Ncz (a:=[TC,Naf]) (b:=[TC,Naf]) (J.app _) (Sl.row (ro:=false) RN (by rw [NW];rfl)) (by decide)) ?_
 rw [Nq rfl]
 refine NM ?_
 simp only [n18,r18,f4,f5,f,g,i,f9,f10,f11,f13,h.f2,h.f3,j,k,l,m,o,d,SV,NI,NH,QN,TL,n1,c,n8,decide_true,beq_self_eq_true,SB,seval,NC,NJ,NG,NQ,reduceCtorEq,NB,place,NA,ND]
 refine Eq.mpr (Ncz (a:=[Nfk]) (b:=[Nfk]) (r.app _) (Sl.row (ro:=false) RN (by rw [NW];rfl)) (by decide)) ?_
 rw [Nq rfl]
 refine NM ?_
 simp only [n18,r18,f4,f5,f,g,i,f9,f10,f11,f13,h.f2,h.f3,j,k,l,m,o,d,SV,NI,NH,QN,TL,n1,c,n8,decide_true,beq_self_eq_true,SB,seval,NC,NJ,NG,NQ,reduceCtorEq,NB,place,NA,ND]
theorem Nvo [OB] (g:EffOk) {b1 b2 b3 lim:Nat} {fr:Nat->Value} {G:NE} (r:A18 b1 b2 b3 G fr) (hl:lim<=G.length):PV E a18 lim [.code Yh] fr G fun v' _=>v'=.bool true:=by
 refine chA g r hl fun m H b4 v p f4 f5 D=>?_
 have L:=v.len
 have s:=r.next v (p 1 (by decide) (by decide) (by decide)) (p 2 (by decide) (by decide) (by decide)) (p 3 (by decide) (by decide) (by decide))
 refine chB g s (by omega) fun n I K l k z A F=>?_
 have M:=l.len
 have u:=s.next l (k 1 (by decide) (by decide) (by decide)) (k 2 (by decide) (by decide) (by decide)) (k 3 (by decide) (by decide) (by decide))
 refine chC g u (by omega) fun o J b8 e8 i B f9 r8=>?_
 have N:=e8.len
 have a8:=u.next e8 (i 1 (by decide) (by decide) (by decide)) (i 2 (by decide) (by decide) (by decide)) (i 3 (by decide) (by decide) (by decide))
 refine chD g (by omega) fun f w y d c f10 f11 q=>?_
 have C:=d.len
 have e:=a8.next d (c 1 (by decide) (by decide) (by decide)) (c 2 (by decide) (by decide) (by decide)) (c 3 (by decide) (by decide) (by decide))
 refine chE g e (by omega) fun b x e12 a f13=>?_
 have a12:=e.next e12 (a 1 (by decide)) (a 2 (by decide)) (a 3 (by decide))
 have t:∀t,t<12->(t=4\/t=5->b t=m t)/\(t=6\/t=7->b t=n t)/\(t=8\/t=9->b t=o t)/\(t=10\/t=11->b t=f t):=fun t j=>by
  refine ⟨fun h=>?_,fun h=>?_,fun h=>?_,fun h=>a t j⟩
  ·rw [a t j,c t (by omega) (by omega) (by omega),i t (by omega) (by omega) (by omega),k t (by omega) (by omega) (by omega)]
  ·rw [a t j,c t (by omega) (by omega) (by omega),i t (by omega) (by omega) (by omega)]
  ·rw [a t j,c t (by omega) (by omega) (by omega)]
 exact Nvn a12 (((t 4 (by decide)).1 (.inl rfl)).trans f4) (((t 5 (by decide)).1 (.inr rfl)).trans f5) (((t 6 (by decide)).2.1 (.inl rfl)).trans z) (((t 7 (by decide)).2.1 (.inr rfl)).trans A) (((t 8 (by decide)).2.2.1 (.inl rfl)).trans B) (((t 9 (by decide)).2.2.1 (.inr rfl)).trans f9) (((t 10 (by decide)).2.2.2 (.inl rfl)).trans f10) (((t 11 (by decide)).2.2.2 (.inr rfl)).trans f11) f13 ((((D.ext l).ext e8).ext d).ext e12) (((F.ext e8).ext d).ext e12) ((r8.ext d).ext e12) (q.ext e12)
theorem awake_go [OB] (b:EffOk) (a:OB.on 18=false) {mp:Bool} {lim:Nat} {H:NE} {Q:Value->NE->Prop}:NL E mp lim 18 [] H Q=Q (.bool true) H:=by
 refine Mm (E:=E) (by simp [E,OB.effN,orc,a]) (show E.tr 18=some a18 from e18) rfl rfl (NM ?_)
 rw [b18,N4h]
 simp only [UC,Sy,c18,n18,r18,VO,NH,QN,TL,SB,seval,NC,NJ,NG,NQ,reduceCtorEq,NB,place,NA,ND]
 exact Nvo b (b1:=H.length) (b2:=H.length+1) (b3:=H.length+2) ⟨rfl,rfl,rfl,by rw [NV];rfl,by rw [NW];rfl,by rw [NW];rfl⟩ (by simp)
end Go.Proofs.YtkppjkkkdpcgiaaGreat.Fn


namespace Go.AM
open Go.AM.Sym
section
variable {P:Program} {E:Env} {W:Nat->Prop} {lim:Nat} {σ:PK} {H:NE} {w:World}
theorem Inv.shut (a:Inv (Prg.mk P (Env.pure E)) W lim σ H w):Inv (Prg.mk P (Env.pure E)) (fun k=>w.heap.size<=k) H.length σ H w:=
 ⟨a.blk,a.inj,fun i b L c ho d hL=>by
  have:=(List.getElem?_eq_some_iff.1 c).1
  omega,fun b c=>c,a.dom⟩
theorem Nxd {w':World} (b:Inv (Prg.mk P (Env.pure E)) W lim σ H w) (a:Stp (fun k=>w.heap.size<=k) w w'):Stp W w w'/\∀k,k<w.heap.size->w'.heap[k]? = w.heap[k]?:=by
 have c:∀k,k<w.heap.size->w'.heap[k]? = w.heap[k]?:=fun k hk=>a.block k (by omega)
 refine ⟨⟨a.os,a.tape,a.output,a.size,fun k hk=>c k ?_⟩,c⟩
 rcases Oh k w.heap.size with h | h
 ·exact h
 ·exact absurd (b.fresh k h) hk
theorem Nez (c:EnvOk P E) {g:FuncId} {as:List Value} {b:Value} (f:flat 4 b=true) (h:NL E false H.length g as H fun v _=>v=b) {as':List Value}
  (a:Inv (Prg.mk P (Env.pure E)) W lim σ H w) (d:OJ σ as as'):Calls P g as'.toArray w (Td (Prg.mk P (Env.pure E)) W lim σ H b (H++news []) w):=by
 obtain ⟨n,L,h1,h2⟩:=h
 refine ((MX c n).calls _ _ _ _ _ _ h1 (Nd _) _ _ w as' a.shut d).mono fun e w' hp=>?_
 obtain ⟨r,hr,v',p,rfl,q1,q2,q3,m,o⟩:=hp
 obtain ⟨k,l⟩:=Nxd a q3
 rw [h2.2 r hr] at q1
 rw [show H++news []=H from Nb H]
 exact ⟨v',σ,rfl,q1.flat_self 4 f,a.world q3.size l,k,PK.le_refl _,fun j i=>absurd rfl i⟩
theorem Nu2 (N:EnvOk P E) {g:FuncId} {as:List Value} {n e:Nat} {c:List Value} (hc:∀x∈c,atom x=true) (h:NL E false H.length g as H fun v H'=>∃R,v=.tuple #[.slice (Sa R) n (loose e),Vi 0]/\NF H' R=Vc c/\H.length<=R) {as':List Value}
  (d:Inv (Prg.mk P (Env.pure E)) W lim σ H w) (Q:OJ σ as as'):Calls P g as'.toArray w (Td (Prg.mk P (Env.pure E)) W lim σ H (.tuple #[.slice (Sa H.length) n (loose e),Vi 0]) (H++news [c]) w):=by
 obtain ⟨k,L,h1,h2⟩:=h
 refine ((MX N k).calls _ _ _ _ _ _ h1 (Nd _) _ _ w as' d.shut Q).mono fun en w' hp=>?_
 obtain ⟨r,hr,v',σ',rfl,q1,q2,q3,q4,q5⟩:=hp
 obtain ⟨U,V⟩:=Nxd d q3
 obtain ⟨R,e1,e2,e3⟩:=h2.2 r hr
 rw [e1] at q1
 obtain ⟨f,hL,hB⟩:=q2.blk R _ (RD e2 rfl) rfl
 have p:w.heap.size<=f.blk:=q2.wr R _ f (RD e2 rfl) rfl e3 hL
 have C:Inv (Prg.mk P (Env.pure E)) W lim σ H w':=d.world q3.size V
 have hd:σ H.length=none:=d.dom _ (Nd _)
 have B:=PK.le_put (L:=f) hd
 have t:UB (Prg.mk P (Env.pure E)) (σ.put H.length f) w' f (Vc c):=by
  obtain ⟨cs,el,fz,J,K,M⟩:=hB
  refine ⟨cs,el,fz,J,fun j v D=>?_,M⟩
  obtain ⟨u,k1,k2,k3⟩:=K j v D
  have o:=hc v (Od D)
  rw [k2.eq_of_atom o] at k1 k3
  exact ⟨v,k1,.atom o,k3⟩
 have O:Inv (Prg.mk P (Env.pure E)) W lim (σ.put H.length f) (H++news [c]) w':=by
  refine C.adopt (i:=H.length) (b:=Vc c) (L:=f) ?_ (fun j q=>?_) (fun j q=>?_) hd t rfl (d.fresh _ p) fun j bj Lj S z m y e=>?_
  ·show (H++[Vc c])[H.length]? = _
   simp
  ·show (H++[Vc c])[j]? = _
   rcases Oh j H.length with h | h
   ·rw [N6 h]
   ·rw [Nw (by simp;omega),Nw h]
  ·simp [news] at q;omega
  ·obtain ⟨G,k1,k2⟩:=d.blk j bj z m
   rw [y] at k1;cases k1
   have:=k2.lt m
   omega
 refine ⟨v',σ.put H.length f,rfl, ?_,O,U,B,fun j q=>?_⟩
 ·obtain ⟨ys,rfl,hl⟩:=q1.tuple_left
  obtain ⟨F,s⟩:=hl
  match ys,F,s with
  | ⟨[y0,y1]⟩,F,s=>
    have X:=s 0 _ _ rfl rfl
    have Y:=s 1 _ _ rfl rfl
    rw [Y.int_left]
    refine VRel.tuple_iff.2 (OJ.cons ?_ (OJ.cons (.atom rfl) OJ.nil))
    have hp:(σ.put H.length f) H.length=some f:=PK.put_same
    obtain ⟨_,G,l,A⟩:=X.slice_left
    rw [hL] at l;cases l
    rcases A with ⟨h,_⟩ | ⟨I,he,Z,hn,hr,rfl⟩ | ⟨a,h,rfl,rfl⟩
    ·unfold loose at h;omega
    ·have:I=e:=by unfold loose at he;omega
     subst this
     exact .lslice hp hn hr
    ·exact .eslice hp h
 ·apply N4
  intro T
  refine q ?_
  simp only [PK.put]
  rw [Nh (by omega)]
end
end Go.AM


namespace Go.Proofs.YtkppjkkkdpcgiaaGreat.Fn
open Go.AM Go.AM.Sym Go.Scan Go.Sort
structure Fo where
 (item place scanner kind at' late:Int)
 deriving Inhabited
structure BSt (H:NE) (S:List Ev) (T:List Int) (sp tp:Option Addr) (sc tc:Nat) (G:NE):Prop where
 so:Own H.length G QL 6 sp sc S
 to:Own H.length G encI 1 tp tc T
 ne:∀a b,sp=some a->tp=some b->a.block≠b.block
 old:∀j,j<H.length->NF G j=NF H j
 len:H.length<=G.length
theorem BSt.step {H:NE} {S:List Ev} {T:List Int} {sp tp:Option Addr} {sc tc lim:Nat} {G:NE} (h:BSt H S T sp tp sc tc G) (hl:lim<=H.length) (hS:S.length<1000) (z:T.length<1000) (s:Ev) (t:Int) (x y:Blk) :
  ∃G2,OT lim none 6 48 false (.slice sp S.length sc) (.slice (Sa (G.length+2)) 1 1) (G++[x,y,Vc (QL s)])=some (.slice (Sa (G.length+3)) (S.length+1) (loose 6),G2++[])/\
   ∃l,OT lim none 1 8 false (.slice tp T.length tc) (.slice (Sa G2.length) 1 1) (G2++[Vc [Vi t]])=some (.slice (Sa (G2.length+1)) (T.length+1) (loose 1),l++[])/\
   BSt H (S++[s]) (T++[t]) (Sa (G.length+3)) (Sa (G2.length+1)) (loose 6) (loose 1) (l++[]):=by
 have len:=h.len
 obtain ⟨G2,e2,f,_,c,n,_⟩:=h.so.step (lim':=lim) (bytes:=48) hl OU (by decide) s (by unfold PN;omega) (by omega) len [x,y,Vc (QL s)] (G.length+2) 1 (by rw [NW];rfl)
 simp only [Nl,Ns,N0,Nat.reduceAdd] at e2 f n
 have r:Chg (Nku sp) G (G2++[]):=⟨by simp;omega,fun j i q=>c j i (Ncr q)⟩
 have p:Own H.length (G2++[]) encI 1 tp tc T:=h.to.chg r fun a g v=>by
  obtain ⟨b,m,e⟩:=Ncs v
  exact h.ne b a m g e.symm
 rw [Nb] at f p
 obtain ⟨l,e3,k,_,d,o,_⟩:=p.step (lim':=lim) (bytes:=8) hl RJ (by decide) t (by unfold PN;omega) (by omega) (by omega) [Vc (encI t)] G2.length 1 (by rw [NV];rfl)
 simp only [Nl,Ns,N0,Nat.reduceAdd] at e3 k o
 have u:Chg (Nku tp) G2 (l++[]):=⟨by simp;omega,fun j i q=>d j i (Ncr q)⟩
 have np:∀j,j<H.length->(∀a,sp=some a->j≠a.block)/\(∀a,tp=some a->j≠a.block):=fun j i=>⟨fun a g=>by have:=(h.so.block g).1;omega,fun a g=>by have:=(h.to.block g).1;omega⟩
 refine ⟨G2,e2,l,e3,f.chg u fun a g v=>?_,k,fun a b g m=>?_,fun j i=>?_,by simp;omega⟩
 ·cases g
  obtain ⟨b,m,e⟩:=Ncs v
  have:=(h.to.block m).2
  have w:G.length+3=b.block:=e
  omega
 ·cases g;cases m
  show G.length+3≠G2.length+1
  omega
 ·rw [d j (by omega) (np j i).2]
  have:=c j (by omega) (np j i).1
  rw [Nb] at this
  rw [this];exact h.old j i
end Go.Proofs.YtkppjkkkdpcgiaaGreat.Fn


namespace Go.Proofs.YtkppjkkkdpcgiaaGreat.Fn
open Go.AM Go.AM.Sym Go.Net Go.Scan
structure RL where
 (a b c d e f:Int)
 deriving DecidableEq,Inhabited
theorem Nuj {α:Type} [Inhabited α] {l m:List α} {i:Nat} (h:i<l.length):gt (l++m) i=gt l i:=by
 rw [PZ (by simp;omega),PZ h,P5 h]
theorem Nuk {α:Type} [Inhabited α] {l:List α} {x:α}:gt (l++[x]) l.length=x:=by
 rw [PZ (by simp),Qp (Nd _)]
 simp
theorem Nt9 {P:List Int} {M:List Leg} {l:Leg} (h:Wo P M) (h1:Fine l) (h2:l.id∉M.map (·.id)) (a:l.frm∈P) (b:l.dst∈P):Wo P (M++[l]):=fun i hi=>by
 rw [Nm,Q8] at hi
 rcases Oh i M.length with h5 | h5
 ·have:=h i h5
  unfold lOk at *
  rw [Nuj h5,P7 (by omega)]
  exact this
 ·obtain rfl:i=M.length:=by omega
  unfold lOk
  rw [Nuk,P7 (Nd _),Oo]
  exact ⟨h1,h2,a,b⟩
section
variable {lim n ce cq cr cl B:Nat} {pe q r pl:Option Addr} {ks:List Int} {ss:List Stp} {c:Int} {A:List An} {H:NE} {Q:Value->NE->Prop}
end
end Go.Proofs.YtkppjkkkdpcgiaaGreat.Fn


namespace Go.Scan
section
variable {item:Int}
end
end Go.Scan


namespace Go.Proofs.YtkppjkkkdpcgiaaGreat.Fn
open Go.AM Go.AM.Sym Go.Net Go.Scan
theorem Nmu [OB] (h:OB.on 18=true) {mp:Bool} {lim:Nat} {H:NE} {Q:Value->NE->Prop}:NL E mp lim 18 [] H Q=Q (.bool true) H:=
 Nwq (E:=E) (by simp [E,orc,h]) rfl rfl
structure F7 (p r2 sp:Option Addr) (n m s ca cm sc B:Nat) (item now:Int) (fr:Nat->Value):Prop where
 f0:fr 0=.slice p n ca
 f2:fr 2=.slice r2 m cm
 f4:fr 4=.int .u8 item
 f5:fr 5=.int .u16 now
 f13:fr 13=Vp B
 f14:fr 14=.slice sp s sc
theorem F7.next {p r2 sp:Option Addr} {n m s ca cm sc B:Nat} {item now:Int} {fr fr':Nat->Value} (h:F7 p r2 sp n m s ca cm sc B item now fr) (e:∀t,t<15->fr' t=fr t):F7 p r2 sp n m s ca cm sc B item now fr':=
 ⟨(e 0 (by decide)).trans h.f0,(e 2 (by decide)).trans h.f2,(e 4 (by decide)).trans h.f4,(e 5 (by decide)).trans h.f5,(e 13 (by decide)).trans h.f13,(e 14 (by decide)).trans h.f14⟩
theorem Nrc {t:Int}:∀{M:List Mk} {m:Mk},m.off=0->(∀x∈M,x.off=0)->Xk t m M=0
 | [],m,h,_=>h
 | x::M,m,h,hM=>by
   have a:=hM x (by simp)
   unfold Xk
   split
   ·exact Nrc a fun y b=>hM y (Nk _ b)
   ·split
    ·exact a
    ·rw [h,a];simp
theorem Nxc {S:List Ev} (h:∀s∈S,s.at'=s.seen/\0<=s.at') {s:Ev} (hs:s∈S):V4 (Ro S) s=s.at':=by
 have a:ME (Ro S) s.scanner s.at'=0:=Nrc rfl fun m hm=>by
  obtain ⟨x,b,_,_,e⟩:=Ny4 (O0.1 hm).1
  have:=(h x b).1
  omega
 have:=h s hs
 unfold V4
 rw [a]
 omega
theorem Nkc:∀(l k t:List Ev),(∀x∈l,∀y∈k,RX x≠RX y)->(l.Pairwise fun x y=>RX y≠RX x)->Tg k t l=(k.reverse++l,t.reverse)
 | [],k,t,_,_=>by unfold Tg;rw [Nb]
 | e::l,k,t,h,hp=>by
   obtain ⟨p1,p2⟩:=List.pairwise_cons.1 hp
   have h1:Xn e k=none:=by
    unfold Xn
    rw [List.find?_eq_none]
    intro y hy
    have:=h e (by simp) y hy
    simpa using fun he=>this he.symm
   have h2:WM e k=false:=by unfold WM;rw [h1]
   unfold Tg
   rw [h2,Nh (by decide),Nkc l (e::k) t (fun x a y hy=>?_) p2]
   ·simp
   ·rcases Np.1 hy with rfl | hy
    ·exact p1 x a
    ·exact h x (Nk _ a) y hy
theorem Nt8 {a b:Ev} (h:a.time<b.time):S9 (Tx a) (Tx b)<=0:=by
 unfold Tx S9
 split<;>first | omega | decide | (split<;>omega)
theorem Nnu {S:List Ev} (h:∀s∈S,s.at'=s.seen/\0<=s.at') (ho:S.Pairwise fun x y=>x.at'<y.at') (hs:S.Pairwise fun x y=>RX y≠RX x):OO S=(S.map fun s=>{ s with time:=s.at' },[]):=by
 have e:Sj (Ro S) S=S.map fun s=>{ s with time:=s.at' }:=by
  unfold Sj
  have e1:(S.map fun s=>{ s with time:=V4 (Ro S) s })=S.map fun s=>{ s with time:=s.at' }:=Pc fun s hs=>by rw [Nxc h hs]
  rw [e1]
  refine (XA Zk Ng2 (List.pairwise_map.2 (ho.imp fun {a b} c=>?_)) (.refl _)).symm
  exact Nt8 c
 unfold OO
 rw [e,Nkc (S.map fun s=>{ s with time:=s.at' }) [] [] (fun x _ y d=>(O8 d).elim) (List.pairwise_map.2 hs)]
 rfl
def evK (p t k:Int):Ev:=⟨7,p,p,k,t,t,0⟩
def Ne0 (d t:Int):Int:=if t / 1440*1440+d*5<t then t / 1440+1 else t / 1440
def SL (ds:List Int) (mn:Int):Nat->Int
 | 0=>14400
 | i+1=>Ne0 (gt ds i) (SL ds mn i)*1440+gt ds i*5+(1+mn)
def lgC (ds:List Int) (mn:Int) (i:Nat):Leg:=⟨(i:Int)+1,(i:Int)+1,(i:Int)+2,gt ds i*5,1+mn,0,1,127⟩
def QY (ds:List Int) (mn:Int) (m:Nat):List Leg:=(List.range m).map (lgC ds mn)
def Wx (m:Nat):List Int:=(List.range (m+1)).map fun (i:Nat)=>(i:Int)+1
def scC (ds:List Int) (mn:Int) (m:Nat):List Ev:=(List.range (m+1)).map fun (i:Nat)=>evK ((i:Int)+1) (SL ds mn i) 1
section
variable {ds:List Int} {mn:Int} {m:Nat}
theorem Nee:QY ds mn (m+1)=QY ds mn m++[lgC ds mn m]:=by unfold QY;rw [Pq,O1];rfl
theorem Nxt:Wx (m+1)=Wx m++[(m:Int)+2]:=by
 unfold Wx
 rw [Pq (n:=m+1),O1]
 congr 1
theorem Nxj:scC ds mn (m+1)=scC ds mn m++[evK ((m:Int)+2) (SL ds mn (m+1)) 1]:=by
 unfold scC
 rw [Pq (n:=m+1),O1]
 congr 1
theorem TG:(QY ds mn m).length=m:=by unfold QY;rw [Nu,O7]
theorem WA:(Wx m).length=m+1:=by unfold Wx;rw [Nu,O7]
theorem VA:(scC ds mn m).length=m+1:=by unfold scC;rw [Nu,O7]
theorem M8 {a:Int}:a∈Wx m↔1<=a/\a<=m+1:=by
 unfold Wx
 rw [List.mem_map]
 constructor
 ·rintro ⟨i,hi,rfl⟩
  have:=List.mem_range.1 hi
  omega
 ·intro ⟨h1,h2⟩
  exact ⟨(a-1).toNat,List.mem_range.2 (by omega),by omega⟩
theorem UK {l:Leg}:l∈QY ds mn m↔∃i,i<m/\l=lgC ds mn i:=by
 unfold QY
 rw [List.mem_map]
 constructor
 ·rintro ⟨i,hi,rfl⟩;exact ⟨i,List.mem_range.1 hi,rfl⟩
 ·rintro ⟨i,hi,rfl⟩;exact ⟨i,List.mem_range.2 hi,rfl⟩
theorem N1e:ZM (QY ds mn m):=by
 refine ⟨fun l hl=>?_,fun a c b d e=>?_⟩
 ·obtain ⟨i,_,rfl⟩:=UK.1 hl
  show (i:Int)+2=(i:Int)+1+1
  omega
 ·obtain ⟨i,_,rfl⟩:=UK.1 c
  obtain ⟨j,_,rfl⟩:=UK.1 d
  have:(i:Int)+1=(j:Int)+1:=e
  rw [show i=j by omega]
variable (hd:∀d∈ds,0<=d/\d<=255) (hm:0<=mn/\mn<=255)
include hd hm
theorem Ni5 {i:Nat} (hi:i<ds.length):0<=gt ds i/\gt ds i<=255:=hd _ (R6 hi)
theorem Ndb {i:Nat} (hi:i<ds.length) (a:0<=SL ds mn i):SL ds mn i+1+mn<=SL ds mn (i+1)/\SL ds mn (i+1)<=SL ds mn i+1696:=by
 have:=Ni5 hd hm hi
 have e:SL ds mn (i+1)=Ne0 (gt ds i) (SL ds mn i)*1440+gt ds i*5+(1+mn):=rfl
 rw [e]
 unfold Ne0
 generalize SL ds mn i=t at *
 split<;>omega
theorem TQ:∀{i:Nat},i<=ds.length->14400<=SL ds mn i/\SL ds mn i<=14400+1696*i
 | 0,_=>by unfold SL;omega
 | i+1,h=>by
   have h1:=TQ (i:=i) (by omega)
   have h2:=Ndb hd hm (i:=i) (by omega) (by omega)
   omega
theorem Nj0 {j:Nat}:∀{i:Nat},i<=j->j<=ds.length->SL ds mn i<=SL ds mn j:=by
 induction j with
 | zero=>intro i h _;rw [show i=0 by omega];exact Oj _
 | succ j ih=>
   intro i h a
   have h1:=(TQ hd hm (i:=j) (by omega)).1
   have h2:=Ndb hd hm (i:=j) (by omega) (by omega)
   rcases Oh i (j+1) with h3 | h3
   ·have:=ih (i:=i) (by omega) (by omega);omega
   ·rw [show i=j+1 by omega];exact Oj _
theorem Nxb {i j:Nat} (h:i<j) (a:j<=ds.length):SL ds mn i<SL ds mn j:=by
 have h1:=(TQ hd hm (i:=i) (by omega)).1
 have h2:=Ndb hd hm (i:=i) (by omega) (by omega)
 have b:=Nj0 hd hm (i:=i+1) (j:=j) (by omega) a
 omega
theorem N9n {i:Nat} (hi:i<ds.length) (h5:ds.length<=5):RY (lgC ds mn i) (SL ds mn i)=some (SL ds mn (i+1)-(1+mn)):=by
 have h1:=TQ hd hm (i:=i) (by omega)
 have h2:=Ni5 hd hm hi
 obtain ⟨d,b⟩:∃d:Nat,Ne0 (gt ds i) (SL ds mn i)=d:=⟨(Ne0 (gt ds i) (SL ds mn i)).toNat,by unfold Ne0;split<;>omega⟩
 have e:SL ds mn (i+1)-(1+mn)=1440*(d:Int)+gt ds i*5:=by
  show Ne0 (gt ds i) (SL ds mn i)*1440+gt ds i*5+(1+mn)-(1+mn)=_
  rw [b];omega
 rw [e]
 have a:Ne0 (gt ds i) (SL ds mn i)=if SL ds mn i / 1440*1440+gt ds i*5<SL ds mn i then SL ds mn i / 1440+1 else SL ds mn i / 1440:=rfl
 rw [b] at a
 generalize SL ds mn i=t at *
 refine nx (l:=lgC ds mn i) d rfl ?_ ?_ ?_ ?_ ?_
 ·split at a<;>omega
 ·show 0<=1440*(d:Int)+gt ds i*5-0
  omega
 ·show 1440*(d:Int)+gt ds i*5+(1+mn)<=OA
  unfold OA
  split at a<;>omega
 ·show t<=1440*(d:Int)+gt ds i*5-0
  split at a<;>omega
 ·show 1440*((d:Int)-1)+gt ds i*5-0<t
  split at a<;>omega
end
def Njo (ds:List Int) (mn:Int):Nat->Nat->List (Leg×Int)
 | _,0=>[]
 | i,k+1=>(lgC ds mn i,SL ds mn (i+1)-(1+mn))::Njo ds mn (i+1) k
section
variable {ds:List Int} {mn:Int} {m:Nat} (hd:∀d∈ds,0<=d/\d<=255) (hm:0<=mn/\mn<=255) (h5:ds.length<=5)
include hd hm h5
theorem Nls:∀k,k<=m->m<=ds.length->Wo (Wx m) (QY ds mn k)
 | 0,_,_=>fun i hi=>by rw [TG] at hi;cases hi
 | k+1,hk,hm'=>by
   have h1:=Ni5 hd hm (i:=k) (by omega)
   rw [Nee]
   refine Nt9 (Nls k (by omega) hm') ?_ ?_ (M8.2 ?_) (M8.2 ?_)
   ·unfold Fine lgC
    simp only
    omega
   ·intro h
    obtain ⟨l,hl,e⟩:=List.mem_map.1 h
    obtain ⟨i,hi,rfl⟩:=UK.1 hl
    have:(i:Int)+1=(k:Int)+1:=e
    omega
   ·show 1<=(k:Int)+1/\(k:Int)+1<=m+1
    omega
   ·show 1<=(k:Int)+2/\(k:Int)+2<=m+1
    omega
theorem Nnh (hk:m<=ds.length):R3 (Wx m) (QY ds mn m)=0:=by
 have hp:TW (Wx m):=by
  have:m=0\/m=1\/m=2\/m=3\/m=4\/m=5:=by omega
  rcases this with rfl | rfl | rfl | rfl | rfl | rfl<;>decide
 unfold R3
 rw [Nh (by rw [WA,TG];omega),Nh (by simpa using hp),Nh (by simpa using Nls hd hm h5 m (Nd _) hk)]
theorem Npi (hk:m<=ds.length):∀k i,i+k<=m->RF (QY ds mn m) ((i:Int)+1) (SL ds mn i) (Njo ds mn i k) (((i+k:Nat):Int)+1) (SL ds mn (i+k))/\YT (SL ds mn i) (Njo ds mn i k)
 | 0,i,_=>⟨⟨rfl,rfl⟩,trivial⟩
 | k+1,i,h=>by
   have hn:=N9n hd hm (i:=i) (by omega) h5
   obtain ⟨n1,n2,_⟩:=RO hn
   obtain ⟨a,b⟩:=Npi hk k (i+1) (by omega)
   have e2:SL ds mn (i+1)-(1+mn)+(lgC ds mn i).mins=SL ds mn (i+1):=by
    show SL ds mn (i+1)-(1+mn)+(1+mn)=_
    omega
   have e1:(lgC ds mn i).dst=((i+1:Nat):Int)+1:=by
    show (i:Int)+2=_
    omega
   rw [show i+1+k=i+(k+1) by omega] at a
   exact ⟨⟨UK.2 ⟨i,by omega,rfl⟩,rfl,n1,n2,by rw [e1,e2];exact a⟩,hn,by rw [e2];exact b⟩
theorem N0o (hk:m<=ds.length) {i j:Nat} (hi:i<=m) (a:j<=m):UD (Wx m) (QY ds mn m) ((i:Int)+1) ((j:Int)+1) (SL ds mn i)=0:=by
 have h1:=TQ hd hm (i:=i) (by omega)
 unfold UD
 rw [Nh (by simpa using Nnh hd hm h5 hk),Ni ⟨M8.2 (by omega),M8.2 (by omega),by omega,by unfold OA;omega⟩]
theorem Oer (hk:m<=ds.length) {i k:Nat} (h:i+k<=m):Ncl (Wx m) (QY ds mn m) ((i:Int)+1) (SL ds mn i) (((i+k:Nat):Int)+1)=SL ds mn (i+k):=by
 obtain ⟨a,b⟩:=Npi hd hm h5 hk k i h
 have h1:=TQ hd hm (i:=i) (by omega)
 have h2:=TQ hd hm (i:=i+k) (by omega)
 exact N1e.arr a b (by omega) (N0o hd hm h5 hk (by omega) h)
theorem N5d (hk:m<=ds.length) {i k:Nat} (h:i+k<=m):Yj (Wx m) (QY ds mn m) ((i:Int)+1) (((i+k:Nat):Int)+1) (SL ds mn i)=Njo ds mn i k:=by
 obtain ⟨a,b⟩:=Npi hd hm h5 hk k i h
 have h1:=TQ hd hm (i:=i) (by omega)
 have h2:=TQ hd hm (i:=i+k) (by omega)
 exact N1e.way a b (by omega) (by omega) (N0o hd hm h5 hk (by omega) h)
theorem Nxs (hk:m<=ds.length) {i k:Nat} (h:i+k<=m) {a b:Ev} (f:a.place=(i:Int)+1) (c:a.time=SL ds mn i) (d:a.kind≠4) (g:b.place=((i+k:Nat):Int)+1) (e:SL ds mn (i+k)<=b.time):QO (Wx m) (QY ds mn m) a b=0:=by
 have h2:=TQ hd hm (i:=i+k) (by omega)
 refine Nq8 (v:=SL ds mn (i+k)) d (by rw [g];exact M8.2 (by omega)) (by rw [f,c];exact N0o hd hm h5 hk (by omega) (by omega)) (by rw [f,c,g];exact Oer hd hm h5 hk h) (by omega) e
end
section
variable {P:List Int} {L:List Leg} {es:List Ev} {k:Nat} {now:Int}
noncomputable def MO (P:List Int) (L:List Leg) (es:List Ev) (i:Nat):List An:=if (gt es i).place≠(gt es (i+1)).place then Tp P L es ((i:Int),((i+1:Nat):Int),0) else []
theorem Npr (hn:es.length=k+1) (h:∀i,i<k->QO P L (gt es i) (gt es (i+1))=0):R4 P L es (Wj (k+1))=(List.range k).map fun (i:Nat)=>((i:Int),((i+1:Nat):Int),(0:Int)):=by
 unfold R4
 rw [TV,Pj]
 refine Pc fun i hi=>?_
 have a:=List.mem_range.1 hi
 unfold Uo
 rw [XZ (by omega),XZ (by omega),N2,N2,h i a]
theorem Ng8 (hn:es.length=k+1) (h:∀i,i<k->QO P L (gt es i) (gt es (i+1))=0) (hk:∀i,i<k->(gt es i).kind≠4) (hl:(gt es k).kind=4) :
  Tv P L es [] (Wj (k+1)) (R4 P L es (Wj (k+1))) now=(List.range k).flatMap (MO P L es):=by
 have c:Nfv es.length (Wj (k+1)):=by rw [hn];exact Nr2
 obtain ⟨hs,hd⟩:=Nj2 (P:=P) (L:=L) (es:=es) c
 have e:=Npr hn h
 rw [e] at hs hd⊢
 have a:VW es (Wj (k+1)) now=[]:=by
  have g:(Wj (k+1)).getLast? = some (k:Int):=by
   unfold Wj
   rw [Pq,O1,List.getLast?_append]
   rfl
  unfold VW
  rw [g]
  simp only [N2]
  rw [Ni (.inl hl)]
 have kept:∀i,i<k+1->gt (V7 es.length (Wj (k+1))) i=true:=fun i hi=>by
  rw [Nz7 (fun x n=>c.mem x n) (by omega)]
  exact Nq (List.mem_map.2 ⟨i,List.mem_range.2 hi,rfl⟩)
 have b:∀i,R5 es [] i=[]:=fun i=>rfl
 unfold Tv
 rw [a,Nb,hn,List.range_succ_eq_map,Ow,List.flatMap_map]
 have m:atN P L es [] (Wj (k+1)) ((List.range k).map fun (i:Nat)=>((i:Int),((i+1:Nat):Int),(0:Int))) 0=[]:=by
  unfold atN
  rw [kept 0 (by omega),b,Nw6 hs (by omega) (fun s j=>by obtain ⟨i,_,rfl⟩:=List.mem_map.1 j;show ((i+1:Nat):Int)≠((0:Nat):Int);omega)]
  rfl
 rw [m,Ok]
 unfold List.flatMap
 congr 1
 refine Pc fun i hi=>?_
 have f:=List.mem_range.1 hi
 have d:((i:Int),((i+1:Nat):Int),(0:Int))∈(List.range k).map fun (i:Nat)=>((i:Int),((i+1:Nat):Int),(0:Int)):=List.mem_map.2 ⟨i,hi,rfl⟩
 have l:=Nw7 hs hd d
 simp only [N2] at l
 show atN P L es [] _ _ (i+1)=_
 unfold atN
 rw [kept (i+1) (by omega),b,l]
 simp only [Nb,if_true,Ok]
 rw [Ni (by omega)]
 unfold TZ MO
 simp only [N2]
 rw [Nh (hk i f),Nh (by decide),Nh (by decide)]
end
def Sk (x:Ev):Ev:={ x with time:=x.at' }
theorem Ngs {S:List Ev} (h:∀s∈S,s.at'=s.seen/\0<=s.at') (ho:S.Pairwise fun x y=>x.at'<y.at') (hs:S.Pairwise fun x y=>RX y≠RX x) (c:∀s∈S,s.item=7):Vf (OO S).1 7=S.map Sk/\Vf (OO S).2 7=[]:=by
 rw [Nnu h ho hs]
 refine ⟨?_,rfl⟩
 show (S.map Sk).filter _=S.map Sk
 refine List.filter_eq_self.2 fun a d=>?_
 obtain ⟨s,b,rfl⟩:=List.mem_map.1 d
 have:(Sk s).item=7:=c s b
 simp [this]
def Zx (ds:List Int) (mn:Int) (m:Nat):Ev:=evK ((m:Int)+1) (SL ds mn m+60) 4
def S1C (ds:List Int) (mn:Int) (m:Nat):List Ev:=scC ds mn m++[Zx ds mn m]
def S2C (ds:List Int) (mn:Int) (m:Nat):List Ev:=[evK 1 14400 1,evK ((m:Int)+1) (SL ds mn m) 1,Zx ds mn m]
section
variable {ds:List Int} {mn:Int} {m:Nat} (hd:∀d∈ds,0<=d/\d<=255) (hm:0<=mn/\mn<=255) (h5:ds.length<=5) (hk:m<=ds.length)
include hd hm h5 hk
theorem Nnz {i:Nat} (hi:i<m+1):gt (scC ds mn m) i=evK ((i:Int)+1) (SL ds mn i) 1:=by
 unfold scC
 rw [PZ (by rw [Nu,O7];exact hi),Pu,List.getElem_range]
theorem Nny {s:Ev} (h:s∈scC ds mn m):∃i,i<m+1/\s=evK ((i:Int)+1) (SL ds mn i) 1:=by
 unfold scC at h
 obtain ⟨i,hi,rfl⟩:=List.mem_map.1 h
 exact ⟨i,List.mem_range.1 hi,rfl⟩
theorem Nqt {s:Ev} (h:s∈S1C ds mn m):s.at'=s.seen/\0<=s.at'/\s.at'<=30000/\s.item=7/\Sb s:=by
 have key:∀p t k:Int,1<=p->p<=6->0<=t->t<=30000->1<=k->k<=4->s=evK p t k->s.at'=s.seen/\0<=s.at'/\s.at'<=30000/\s.item=7/\Sb s:=by
  intro p t k h1 h2 a b d f e
  subst e
  refine ⟨rfl,a,b,rfl, ?_⟩
  have c:VE=1051898399:=rfl
  unfold Sb evK
  simp only
  omega
 have g:=TQ hd hm (i:=m) (by omega)
 rcases Ol.1 h with h | h
 ·obtain ⟨i,hi,e⟩:=Nny hd hm h5 hk h
  have:=TQ hd hm (i:=i) (by omega)
  exact key _ _ _ (by omega) (by omega) (by omega) (by omega) (by decide) (by decide) e
 ·rw [Nj] at h
  exact key _ _ _ (by omega) (by omega) (by omega) (by omega) (by decide) (by decide) h
theorem N13:(S1C ds mn m).Pairwise (fun x y=>x.at'<y.at')/\(S1C ds mn m).Pairwise fun x y=>RX y≠RX x:=by
 have e:scC ds mn m=(List.range (m+1)).map fun (i:Nat)=>evK ((i:Int)+1) (SL ds mn i) 1:=rfl
 constructor
 ·refine Qj.2 ⟨?_,List.pairwise_singleton _ _,fun a f b c=>?_⟩
  ·rw [e,List.pairwise_map]
   refine List.Pairwise.imp_of_mem (fun {i j} hi g d=>?_) (List.pairwise_lt_range (n:=m+1))
   have:=List.mem_range.1 g
   exact Nxb hd hm d (by omega)
  ·rw [Nj] at c
   subst c
   obtain ⟨i,hi,rfl⟩:=Nny hd hm h5 hk f
   have:=Nj0 hd hm (i:=i) (j:=m) (by omega) hk
   show SL ds mn i<SL ds mn m+60
   omega
 ·refine Qj.2 ⟨?_,List.pairwise_singleton _ _,fun a f b c=>?_⟩
  ·rw [e,List.pairwise_map]
   refine List.Pairwise.imp_of_mem (fun {i j} hi g d=>?_) (List.pairwise_lt_range (n:=m+1))
   intro h
   have h2:(j:Int)+1=(i:Int)+1:=Qg (·.2.1) h
   omega
  ·rw [Nj] at c
   subst c
   obtain ⟨i,hi,rfl⟩:=Nny hd hm h5 hk f
   intro h
   have h2:(4:Int)=1:=Qg (·.2.2) h
   omega
end
section
variable {ds:List Int} {mn now:Int} {m:Nat} (hd:∀d∈ds,0<=d/\d<=255) (hm:0<=mn/\mn<=255) (h5:ds.length<=5) (hk:m<=ds.length)
include hd hm h5 hk
theorem YO:(S1C ds mn m).length=m+1+1:=by unfold S1C;rw [Nm,VA];rfl
theorem Nfn {i:Nat} (hi:i<m+1):gt ((S1C ds mn m).map Sk) i=Sk (evK ((i:Int)+1) (SL ds mn i) 1):=by
 have hl:=YO hd hm h5 hk
 rw [PZ (by rw [Nu];omega),Pu]
 unfold S1C
 rw [P5 (by rw [VA];exact hi),<-PZ,Nnz hd hm h5 hk hi]
theorem Nqs:gt ((S1C ds mn m).map Sk) (m+1)=Sk (Zx ds mn m):=by
 have hl:=YO hd hm h5 hk
 rw [PZ (by rw [Nu];omega),Pu]
 unfold S1C
 rw [Qp (by rw [VA];omega)]
 simp [VA]
theorem N12:Vf (OO (S1C ds mn m)).1 7=(S1C ds mn m).map Sk/\Vf (OO (S1C ds mn m)).2 7=[]:=
 Ngs (fun s h=>by have:=Nqt hd hm h5 hk h;exact ⟨this.1,this.2.1⟩) (N13 hd hm h5 hk).1 (N13 hd hm h5 hk).2 fun s h=>(Nqt hd hm h5 hk h).2.2.2.1
theorem Nm5:∀i,i<m+1->QO (Wx m) (QY ds mn m) (gt ((S1C ds mn m).map Sk) i) (gt ((S1C ds mn m).map Sk) (i+1))=0:=fun i hi=>by
 rw [Nfn hd hm h5 hk hi]
 rcases Oh i m with h | h
 ·rw [Nfn hd hm h5 hk (show i+1<m+1 by omega)]
  exact Nxs hd hm h5 hk (i:=i) (k:=1) (by omega) rfl rfl (show (1:Int)≠4 by decide) rfl (Oj _)
 ·obtain rfl:i=m:=by omega
  rw [Nqs hd hm h5 hk]
  exact Ndz (show (1:Int)≠4 by decide) rfl
theorem N11:QW (S1C ds mn m):=⟨by rw [YO hd hm h5 hk];omega,fun s h=>(Nqt hd hm h5 hk h).2.2.2.2⟩
theorem N40 (hn:0<=now/\now<=131070):U1 (Wx m) (QY ds mn m) (S1C ds mn m) 7 now=0:=by
 rw [Na0 (Nnh hd hm h5 hk) (N11 hd hm h5 hk) (by decide) (by decide) hn.1 (by unfold OA;omega),(N12 hd hm h5 hk).1]
 have hl:=YO hd hm h5 hk
 rw [Nh (fun h=>by have:=Qg List.length h;rw [Nu,hl] at this;cases this),Nh (by rw [Nu,hl];omega)]
theorem N42:QZ (Wx m) (QY ds mn m) ((S1C ds mn m).map Sk)=Wj (m+1+1)/\SH (Wx m) (QY ds mn m) ((S1C ds mn m).map Sk) (QZ (Wx m) (QY ds mn m) ((S1C ds mn m).map Sk))=0:=by
 have hl:((S1C ds mn m).map Sk).length=m+1+1:=by rw [Nu];exact YO hd hm h5 hk
 have h:=Mh (P:=Wx m) (L:=QY ds mn m) (es:=(S1C ds mn m).map Sk) fun i hi=>Nm5 hd hm h5 hk i (by omega)
 rw [hl] at h
 exact h
theorem N41:Tv (Wx m) (QY ds mn m) ((S1C ds mn m).map Sk) [] (Wj (m+1+1)) (R4 (Wx m) (QY ds mn m) ((S1C ds mn m).map Sk) (Wj (m+1+1))) now=[]:=by
 have hl:((S1C ds mn m).map Sk).length=m+1+1:=by rw [Nu];exact YO hd hm h5 hk
 rw [Ng8 hl (Nm5 hd hm h5 hk) (fun i hi=>by rw [Nfn hd hm h5 hk hi];exact (show (1:Int)≠4 by decide)) (by rw [Nqs hd hm h5 hk];rfl)]
 rw [List.flatMap_eq_nil_iff]
 intro i hi
 have a:=List.mem_range.1 hi
 unfold MO
 rw [Nfn hd hm h5 hk a]
 rcases Oh i m with h | h
 ·rw [Nfn hd hm h5 hk (show i+1<m+1 by omega)]
  split
  ·unfold Tp
   simp only [N2]
   rw [Nfn hd hm h5 hk a,Nfn hd hm h5 hk (show i+1<m+1 by omega)]
   have:=N5d hd hm h5 hk (i:=i) (k:=1) (by omega)
   show (List.map _ (Yj (Wx m) (QY ds mn m) ((i:Int)+1) (((i+1:Nat):Int)+1) (SL ds mn i)).dropLast)=[]
   rw [this]
   rfl
  ·rfl
 ·obtain rfl:i=m:=by omega
  rw [Nqs hd hm h5 hk,Nh (by intro b;exact b rfl)]
end
section
variable {ds:List Int} {mn now:Int} {m:Nat} (hd:∀d∈ds,0<=d/\d<=255) (hm:0<=mn/\mn<=255) (h5:ds.length<=5) (hk:m<=ds.length) (h1:1<=m)
include hd hm h5 hk h1
theorem N10:Vf (OO (S2C ds mn m)).1 7=(S2C ds mn m).map Sk/\Vf (OO (S2C ds mn m)).2 7=[]:=by
 have b:=TQ hd hm (i:=m) hk
 have a:=Nxb hd hm (i:=0) (j:=m) (by omega) hk
 have e0:SL ds mn 0=14400:=rfl
 refine Ngs (fun s h=>?_) ?_ ?_ fun s h=>?_
 ·unfold S2C Zx at h
  simp only [Np,O8,or_false] at h
  rcases h with rfl | rfl | rfl
  ·exact ⟨rfl,show (0:Int)<=14400 by decide⟩
  ·exact ⟨rfl,show 0<=SL ds mn m by omega⟩
  ·exact ⟨rfl,show 0<=SL ds mn m+60 by omega⟩
 ·unfold S2C Zx evK
  simp only [List.pairwise_cons,Np,O8,or_false,forall_eq_or_imp,forall_eq]
  refine ⟨⟨by omega,by omega⟩,by omega,fun _ h=>h.elim,List.Pairwise.nil⟩
 ·unfold S2C Zx evK RX
  simp only [List.pairwise_cons,Np,O8,or_false,forall_eq_or_imp,forall_eq,ne_eq,Prod.mk.injEq]
  refine ⟨⟨by omega,by omega⟩,by omega,fun _ h=>h.elim,List.Pairwise.nil⟩
 ·unfold S2C Zx at h
  simp only [Np,O8,or_false] at h
  rcases h with rfl | rfl | rfl<;>rfl
theorem Nm4:∀i,i<2->QO (Wx m) (QY ds mn m) (gt ((S2C ds mn m).map Sk) i) (gt ((S2C ds mn m).map Sk) (i+1))=0:=fun i hi=>by
 rcases Oh i 1 with h | h
 ·obtain rfl:i=0:=by omega
  exact Nxs hd hm h5 hk (i:=0) (k:=m) (by omega) rfl rfl (show (1:Int)≠4 by decide) (by show (m:Int)+1=((0+m:Nat):Int)+1;omega) (by rw [N0];exact Oj _)
 ·obtain rfl:i=1:=by omega
  exact Ndz (show (1:Int)≠4 by decide) rfl
theorem N1z:QW (S2C ds mn m):=by
 have b:=TQ hd hm (i:=m) hk
 have a:VE=1051898399:=rfl
 refine ⟨show 3<=2000 by decide,fun s h=>?_⟩
 unfold S2C Zx at h
 simp only [Np,O8,or_false] at h
 rcases h with rfl | rfl | rfl<;>(unfold Sb evK;simp only;omega)
theorem N4x (hn:0<=now/\now<=131070):U1 (Wx m) (QY ds mn m) (S2C ds mn m) 7 now=0:=by
 rw [Na0 (Nnh hd hm h5 hk) (N1z hd hm h5 hk h1) (by decide) (by decide) hn.1 (by unfold OA;omega),(N10 hd hm h5 hk h1).1]
 rw [Nh (fun h=>by cases h),Nh (by show ¬40<3;decide)]
theorem N4z:QZ (Wx m) (QY ds mn m) ((S2C ds mn m).map Sk)=Wj 3:=
 (Mh (P:=Wx m) (L:=QY ds mn m) (es:=(S2C ds mn m).map Sk) fun i hi=>Nm4 hd hm h5 hk h1 i (by have:i+1<3:=hi;omega)).1
theorem Njn:∀k i,(Njo ds mn i (k+1)).dropLast.map (Xm ((0:Int),((1:Nat):Int),(0:Int)))=(List.range k).map fun (j:Nat)=>(⟨5,1,0,(i:Int)+j+2,0⟩:An)
 | 0,i=>rfl
 | k+1,i=>by
   have ih:=Njn k (i+1)
   have e:(Njo ds mn i (k+1+1)).dropLast=(lgC ds mn i,SL ds mn (i+1)-(1+mn))::(Njo ds mn (i+1) (k+1)).dropLast:=rfl
   rw [e,Oc,ih,List.range_succ_eq_map,Oc,List.map_map]
   congr 1
   refine Pc fun j _=>?_
   show (⟨5,1,0,((i+1:Nat):Int)+j+2,0⟩:An)=⟨5,1,0,(i:Int)+((j+1:Nat):Int)+2,0⟩
   congr 1
   omega
theorem N4y:Tv (Wx m) (QY ds mn m) ((S2C ds mn m).map Sk) [] (Wj 3) (R4 (Wx m) (QY ds mn m) ((S2C ds mn m).map Sk) (Wj 3)) now=(List.range (m-1)).map fun (j:Nat)=>(⟨5,1,0,(j:Int)+2,0⟩:An):=by
 rw [Ng8 (k:=2) rfl (Nm4 hd hm h5 hk h1) (fun i hi=>by
  rcases Oh i 1 with h | h
  ·obtain rfl:i=0:=by omega
   exact (show (1:Int)≠4 by decide)
  ·obtain rfl:i=1:=by omega
   exact (show (1:Int)≠4 by decide)) rfl]
 have e1:MO (Wx m) (QY ds mn m) ((S2C ds mn m).map Sk) 1=[]:=by
  unfold MO
  exact Nh fun h=>h rfl
 have e0:MO (Wx m) (QY ds mn m) ((S2C ds mn m).map Sk) 0=(List.range (m-1)).map fun (j:Nat)=>(⟨5,1,0,(j:Int)+2,0⟩:An):=by
  unfold MO
  have a:(gt ((S2C ds mn m).map Sk) 0).place≠(gt ((S2C ds mn m).map Sk) (0+1)).place:=show (1:Int)≠(m:Int)+1 by omega
  rw [Ni a]
  have c:=N5d hd hm h5 hk (i:=0) (k:=m) (by omega)
  have b:Yj (Wx m) (QY ds mn m) 1 ((m:Int)+1) 14400=Njo ds mn 0 m:=by rw [N0] at c;exact c
  show (Yj (Wx m) (QY ds mn m) 1 ((m:Int)+1) 14400).dropLast.map (Xm ((0:Int),((1:Nat):Int),(0:Int)))=_
  rw [b]
  obtain ⟨k,rfl⟩:∃k,m=k+1:=⟨m-1,by omega⟩
  rw [Njn hd hm h5 hk h1 k 0,Pj]
  refine Pc fun j _=>?_
  congr 1
  omega
 show MO _ _ _ 0++(MO _ _ _ 1++[])=_
 rw [e0,e1,Nb,Nb]
end
def enc8 (n:Int):List Value:=[.int .u8 n]
theorem Nmg (n:Int):(enc8 n).length=1:=id rfl
def T8a:ACode:=Sy (Sy (Sy (Sy c8)))
theorem N7r:c8=.seq (UC c8) (.seq (UC (Sy c8)) (.seq (UC (Sy (Sy c8))) (.seq (UC (Sy (Sy (Sy c8)))) T8a))):=rfl
def T8b:ACode:=Sy T8a
theorem N4u:T8a=.seq (UC T8a) T8b:=rfl
def T8c:ACode:=Sy (Sy T8b)
theorem N4t:T8b=.seq (UC T8b) (.seq (UC (Sy T8b)) T8c):=rfl
def T8d:ACode:=Sy T8c
theorem N4s:T8c=.seq (UC T8c) T8d:=rfl
def T8e:ACode:=Sy T8d
theorem N4r:T8d=.seq (UC T8d) T8e:=rfl
def T8f:ACode:=Sy T8e
theorem N4q:T8e=.seq (UC T8e) T8f:=rfl
def T8g:ACode:=Sy T8f
theorem N4p:T8f=.seq (UC T8f) T8g:=rfl
def T8h:ACode:=Sy T8g
theorem N4o:T8g=.seq (UC T8g) T8h:=rfl
theorem Nt2 [OB] (o:OB.on 18=true) {lim B n ce cq cr cl k:Nat} {pe q r pl:Option Addr} {nk ns:Nat} {c:Int} {G:NE} {fr:Nat->Value} (hk:k<=10) (i:fr 18=Vp B) (t:NF G B=Vc (Uh pe n ce q nk cq r ns cr c pl k cl)) (w:Sl G TH 5 pl ((List.range k).map fun (j:Nat)=>(⟨5,1,0,(j:Int)+2,0⟩:An))) (hl:lim<=G.length):PV E a8 lim [.code T8h] fr G fun v _=>v=.bool true:=by
 refine NM ?_
 have x:=fun X=>(OM.refl.app (X:=X)).cells t
 simp only [UC,Sy,T8a,T8b,T8c,T8d,T8e,T8f,T8g,T8h,c8,n8,r8,i,x,QS,TS,Ug,Uf,Ue,SV,SB,seval,NC,NJ,NG,NQ,reduceCtorEq,NB,place,NA,ND]
 refine NR (fun j=>k-j) (fun j fr' G'=>j<=k/\fr' 167=.slice pl k cl/\fr' 168=Vi k/\fr' 169=Vi j/\OM G G') 0 ⟨Nz _,rfl,rfl,by rfl,OM.refl.app⟩ ?_
 intro j fr' G' ⟨F,a,b,d,h⟩ z
 rw [NS N9v.eq_1]
 refine NM ?_
 have D:=h.len
 obtain ⟨A,l⟩:∃A,(List.range k).map (fun (j:Nat)=>(⟨5,1,0,(j:Int)+2,0⟩:An))=A:=⟨_,rfl⟩
 have m:A.length=k:=by rw [<-l,Nu,O7]
 rw [l] at w
 by_cases g:j<k
 case neg=>simp only [n8,r8,a,b,d,NU,g,Nmu o,SB,seval,NC,NJ,NG,NQ,reduceCtorEq,NB,place,NA,ND]
 have e:j<A.length:=by omega
 have C:gt A j=⟨5,1,0,(j:Int)+2,0⟩:=by
  rw [PZ e]
  simp only [<-l,Pu,List.getElem_range]
 have u:=fun X=>((h.sl w).app X).loadCells RN e
 have y:=fun c (kk:IntKind) (H1:NE)=>(h.sl w).idx (c:=c) (k:=kk) (H1:=H1) e
 rw [m] at y
 rw [C] at u
 have e1:TH ⟨5,1,0,(j:Int)+2,0⟩=[.int .u8 5,Vi 1,Vi 0,Vi ((j:Int)+2),Vi 0]:=rfl
 have f:=Oaj ⟨5,1,0,(j:Int)+2,0⟩ ⟨5,1,0,(j:Int)+2,0⟩
 rw [Nq rfl,e1] at f
 rw [e1] at u
 have p:IntKind.i64.wrap ((j:Int)+1)=((j+1:Nat):Int):=OG (by omega)
 have s:IntKind.i64.wrap ((j:Int)+2)=(j:Int)+2:=NT (by omega) (by omega)
 simp only [n8,r8,a,b,d,NU,g,u,y,p,s,NH,QN,TL,show lim<=G'.length by omega,f,SB,seval,NC,NJ,NG,NQ,reduceCtorEq,NB,place,NA,ND]
 exact z (j+1) _ _ ⟨by omega,a,b,rfl,h.trans OM.refl.app⟩ (by omega)
def WX {α:Type} (lim:Nat) (G:NE) (enc:α->List Value) (e:Nat) (p:Option Addr) (cap:Nat) (l:List α):Prop:=Own lim G enc e p cap l\/∃R,p=Sa R/\cap=l.length/\NF G R=Vc (l.flatMap enc)/\lim<=R/\l≠[]
section
variable {α:Type} {lim lim' e bytes cap b d k:Nat} {G G':NE} {enc:α->List Value} {p:Option Addr} {l:List α}
theorem WX.same (h:WX lim G enc e p cap l) (c:∀a,p=some a->NF G' a.block=NF G a.block):WX lim G' enc e p cap l:=by
 rcases h with h | ⟨R,rfl,h1,h2,b,d⟩
 ·rcases h with h | ⟨R,rfl,h1,h2,b⟩
  ·exact .inl (.inl h)
  ·exact .inl (.inr ⟨R,rfl,h1,by rw [c _ rfl];exact h2,b⟩)
 ·exact .inr ⟨R,rfl,h1,by rw [c _ rfl];exact h2,b,d⟩
theorem WX.block (h:WX lim G enc e p cap l) {a:Addr} (b:p=some a):lim<=a.block/\a.block<G.length:=by
 rcases h with h | ⟨R,h1,_,h2,c,_⟩
 ·exact h.block b
 ·rw [h1] at b;cases b;exact ⟨c,NK h2⟩
theorem WX.app (h:WX lim G enc e p cap l) (X:NE):WX lim (G++X) enc e p cap l:=h.same fun a b=>NN (h.block b).2
theorem WX.sl (h:WX lim G enc e p cap l) (he:∀x,(enc x).length=e):Sl G enc e p l:=by
 rcases h with h | ⟨R,rfl,_,h2,_,_⟩
 ·exact h.sl he
 ·exact Sl.row he h2
theorem WX.capOk (h:WX lim G enc e p cap l) (hn:l.length<2 ^ 62):Ws e cap l.length:=by
 rcases h with h | ⟨R,_,h1,_,_,_⟩
 ·exact h.capOk
 ·exact .inr ⟨by omega,by omega⟩
theorem WX.appL {dest:Option Nat} {str:Bool} {x:Value} {H:NE} (h:WX lim G enc e p cap l):Wi lim' dest e bytes str (.slice p l.length cap) x H=OT lim' dest e bytes str (.slice p l.length cap) x H:=by
 rcases h with h | ⟨R,rfl,h1,_,_,_⟩
 ·exact h.appL
 ·rw [UY,Ni (.inr h1)]
theorem WX.step (h:WX lim G enc e p cap l) (t:lim'<=lim) (he:∀x,(enc x).length=e) (q:e≠0) (o:(l.length+1)*bytes<=PN) (hn:l.length+1<2 ^ 61) :
  ∃G',G'.length=G.length/\(∀j,j∉opB p->NF G' j=NF G j)/\∀(X:NE) (b k:Nat) (x:α) (dest:Option Nat),NF (G++X) b=Vc (enc x)->OT lim' dest e bytes false (.slice p l.length cap) (.slice (Sa b) 1 k) (G++X)=some (.slice (Sa ((place dest (Vc ((l++[x]).flatMap enc)) (G'++X)).1)) (l.length+1) (loose e),(place dest (Vc ((l++[x]).flatMap enc)) (G'++X)).2):=by
 have h1:∀(X:NE) (b k:Nat) (x:α),NF (G++X) b=Vc (enc x)->firstCells (G++X) e false (.slice (Sa b) 1 k)=some ([x].flatMap enc):=fun X b k x d=>Vk (m:=[x]) (Sl.row (ro:=false) he (by rw [d];simp))
 have h2:∀b k,lenOf (.slice (Sa b) 1 k)=some 1:=fun _ _=>rfl
 rcases h with (⟨rfl,rfl,rfl⟩ | ⟨R,rfl,rfl,f,n⟩) | ⟨R,rfl,rfl,f,n,h5⟩
 ·refine ⟨G,rfl,fun _ _=>rfl,fun X b k x dest d=>?_⟩
  simp only [Ns,N0] at o hn⊢
  simp only [OT,h1 X b k x d,h2,Nat.one_ne_zero,if_false,N0]
  rw [Nh (by omega)]
  simp
 ·have c:=NK f
  have g:∀X,NF (G++X) R=Vc (l.flatMap enc):=fun X=>by rw [NN c];exact f
  have a:∀X,AM.loadCells (G++X) ⟨R,0,none⟩ (l.length*e)=some (l.flatMap enc):=fun X=>by
   simp only [PU,g,N0,PS he,Nd,if_true,Ov]
   rw [Og (by rw [PS he];exact Nd _)]
  refine ⟨G.set R .dead,by simp,fun j r=>QK (by simpa [opB] using r),fun X b k x dest d=>?_⟩
  simp only [OT,h1 X b k x d,h2,a,g,Nat.one_ne_zero,if_false,if_true]
  rw [Nh (by unfold loose;omega)]
  simp [show lim'<=R by omega,P4 _ _ c]
 ·have c:=NK f
  have a:∀X,AM.loadCells (G++X) ⟨R,0,none⟩ (l.length*e)=some (l.flatMap enc):=fun X=>by
   simp only [PU,NN c,f,N0,PS he,Nd,if_true,Ov]
   rw [Og (by rw [PS he];exact Nd _)]
  have i:¬l.length=loose e:=by unfold loose;omega
  have s:0<l.length:=List.length_pos_iff.2 h5
  refine ⟨G,rfl,fun _ _=>rfl,fun X b k x dest d=>?_⟩
  simp only [OT,h1 X b k x d,h2,a,i,Nat.one_ne_zero,if_false]
  rw [Nh (by omega),Ni (by omega),Nh (by omega)]
  simp
end
structure C8 (B7 bp bs cp cs cl:Nat) (pl:Option Addr) (dl:List Int) (mn:Int) (j:Nat) (M:Nat) (G:NE):Prop where
 k7:NF G B7=Vc [.slice (Sa bp) (j+1) cp,.slice pl j cl]
 hp:WX M G encI 1 (Sa bp) cp (Wx j)
 hL:Own M G Rz 8 pl cl (QY dl mn j)
 hs:WX M G QL 6 (Sa bs) cs (scC dl mn j)
 n1:bp≠B7
 n2:bs≠B7
 n3:bp≠bs
 n4:∀a,pl=some a->a.block≠B7/\a.block≠bp/\a.block≠bs
 hM:M<=B7
theorem N9t [OB] {lim B7 M k1 n:Nat} {q1:Option Addr} {dl:List Int} {mn:Int} {H0:NE} {K:List AItem} {Q:Value->NE->Prop} (hn:n<=5) (ap:n=dl.length) (hd:∀d∈dl,0<=d/\d<=255) (hm:0<=mn/\mn<=255) (o:lim<=M) (h0:H0.length<=M) (al:Sl H0 enc8 1 q1 dl)
  {fr:Nat->Value} {G:NE} (f1:fr 1=.int .u8 mn) (f7:fr 7=Vp B7) (I:fr 31=.slice q1 n k1) (f32:fr 32=Vi n) (J:fr 33=Vi ((0:Nat):Int)) (f8:fr 8=Vi 14400)
  {bp bs cp cs:Nat} (f9:fr 9=.slice (Sa bs) 1 cs) (N:Chg [] H0 G) (b:C8 B7 bp bs cp cs 0 none dl mn 0 M G)
  (hR:∀fr' G' bp bs cp cs cl pl,(∀t,t<8->fr' t=fr t)->fr' 8=Vi (SL dl mn n)->fr' 9=.slice (Sa bs) (n+1) cs->Chg [] H0 G'->C8 B7 bp bs cp cs cl pl dl mn n M G'->PV E a8 lim K fr' G' Q) :
  PV E a8 lim (.code (.loop N3m)::.inBlock 0::K) fr G Q:=by
 refine NR (fun s:Nat×(Nat×Nat×Nat)×(Nat×Nat×Option Addr)=>n-s.1) (fun s fr' G'=>s.1<=n/\(∀t,t<8->fr' t=fr t)/\fr' 31=.slice q1 n k1/\fr' 32=Vi n/\fr' 33=Vi s.1/\fr' 8=Vi (SL dl mn s.1)/\fr' 9=.slice (Sa s.2.1.2.1) (s.1+1) s.2.2.1/\Chg [] H0 G'/\C8 B7 s.2.1.1 s.2.1.2.1 s.2.1.2.2 s.2.2.1 s.2.2.2.1 s.2.2.2.2 dl mn s.1 M G')
  (0,(bp,bs,cp),(cs,0,none)) ⟨Nz _,fun _ _=>rfl,I,f32,J,f8,f9,N,b⟩ ?_
 clear b N f9 f8 J I f32 bp bs cp cs
 clear G
 rintro ⟨j,⟨bp,bs,cp⟩,cs,cl,pl⟩ fr' G ⟨hj,keep,q,r,u,L,g9,hC,b⟩ hN
 simp only at hj u L g9 b
 rw [NS N3m.eq_1]
 refine NM ?_
 have a0:=hC.len
 have g1:=(keep 1 (by decide)).trans f1
 have g7:=(keep 7 (by decide)).trans f7
 by_cases B:j<n
 case neg=>
  obtain rfl:j=n:=by omega
  simp only [n8,r8,q,r,u,NU,B,SB,seval,NC,NJ,NG,NQ,reduceCtorEq,NB,place,NA,ND]
  exact hR _ _ bp bs cp cs cl pl (fun t D=>by simp only [upd];repeat (first | rw [Nh (by omega)] | exact keep t D)) L g9 hC.app ⟨(OM.refl.app).cells b.k7,b.hp.app _,b.hL.app _,b.hs.app _,b.n1,b.n2,b.n3,b.n4,b.hM⟩
 have ay:=NK b.k7
 have aq:=b.hp.block rfl
 have au:=b.hs.block rfl
 have am:=Ni5 hd hm (i:=j) (by omega)
 have av:=TQ hd hm (i:=j) (by omega)
 have z:lim<=G.length:=by have:=b.hM;omega
 obtain ⟨dd,h⟩:∃dd,gt dl j=dd:=⟨_,rfl⟩
 obtain ⟨t,U⟩:∃t,SL dl mn j=t:=⟨_,rfl⟩
 have H:SL dl mn (j+1)=Ne0 dd t*1440+dd*5+(1+mn):=by rw [<-h,<-U];rfl
 rw [h] at am
 rw [U] at av L
 have ai:Rz (lgC dl mn j)=[Vi ((j:Int)+1),Vi ((j:Int)+1),Vi ((j:Int)+2),Vi (dd*5),Vi (1+mn),Vi 0,Vi 1,.int .u8 127]:=by rw [<-h];rfl
 have T:=hC.sl al (by simp)
 have ld:∀X,AM.loadCell (G++X) (YI q1 1 j)=some (.int .u8 (gt dl j)):=fun X=>by rw [(T.app X).loadCell0 Nmg (i:=j) (by omega) (by decide)];rfl
 have ix:=fun c (k:IntKind) (H1:NE)=>T.idx (c:=c) (k:=k) (H1:=H1) (i:=j) (by omega)
 rw [h] at ld
 rw [<-ap] at ix
 have w1:IntKind.i64.wrap ((j:Int)+1)=(j:Int)+1:=NT (by omega) (by omega)
 have w2:IntKind.i64.wrap ((j:Int)+2)=(j:Int)+2:=NT (by omega) (by omega)
 have w3:IntKind.i64.wrap dd=dd:=NT (by omega) (by omega)
 have w4:IntKind.i64.wrap (dd*5)=dd*5:=NT (by omega) (by omega)
 have w5:IntKind.i64.wrap mn=mn:=NT (by omega) (by omega)
 have w6:IntKind.i64.wrap (1+mn)=1+mn:=NT (by omega) (by omega)
 have w7:IntKind.i64.wrap (t.tdiv 1440)=t / 1440:=by rw [Ph (by omega)];exact NT (by omega) (by omega)
 have w8:IntKind.i64.wrap (t / 1440*1440)=t / 1440*1440:=NT (by omega) (by omega)
 have w9:IntKind.i64.wrap (t / 1440*1440+dd*5)=t / 1440*1440+dd*5:=NT (by omega) (by omega)
 have Y:IntKind.i64.wrap (t / 1440+1)=t / 1440+1:=NT (by omega) (by omega)
 have Z:IntKind.i64.wrap ((t / 1440+1)*1440)=(t / 1440+1)*1440:=NT (by omega) (by omega)
 have aa:IntKind.i64.wrap ((t / 1440+1)*1440+dd*5)=(t / 1440+1)*1440+dd*5:=NT (by omega) (by omega)
 have ab:IntKind.i64.wrap ((t / 1440+1)*1440+dd*5+(1+mn))=(t / 1440+1)*1440+dd*5+(1+mn):=NT (by omega) (by omega)
 have ac:IntKind.i64.wrap (t / 1440*1440+dd*5+(1+mn))=t / 1440*1440+dd*5+(1+mn):=NT (by omega) (by omega)
 have P:lim<=B7:=by have:=b.hM;omega
 have ad:=fun X=>(OM.refl.app (X:=X)).cells b.k7
 obtain ⟨e,g⟩:∃e,e=[Value.int .i64 ((j:Int)+1),Vi ((j:Int)+1),Vi ((j:Int)+2),Vi (dd*5),Vi (1+mn),Vi 0,Vi 1,.int .u8 127]:=⟨_,rfl⟩
 obtain ⟨G1,v,C,e1⟩:=b.hp.step (lim':=lim) (bytes:=8) o RJ (by decide) (by rw [WA];unfold PN;omega) (by rw [WA];omega)
 have e1:=e1 [Vc e,Vc [Vi ((j:Int)+2)],.dead,.dead,.dead] (G.length+1) 1 ((j:Int)+2) (some (G.length+2)) (by rw [NW];rfl)
 rw [<-b.hp.appL,<-Nxt,WA] at e1
 simp only [place,O9,Nat.reduceAdd] at e1
 rw [g] at e1
 have V:NF G1 B7=_:=(C _ (by simpa [opB] using b.n1.symm)).trans b.k7
 have ae:=fun X=>(OM.refl.app (X:=X)).cells V
 have aj:WX M G1 Rz 8 pl cl (QY dl mn j):=WX.same (.inl b.hL) fun a O=>C _ (by simpa [opB] using (b.n4 a O).2.1)
 obtain ⟨G2,an,q2,e2⟩:=aj.step (lim':=lim) (bytes:=64) o OH (by decide) (by rw [TG];unfold PN;omega) (by rw [TG];omega)
 have e2:=e2 [Vc e,Vc [Vi ((j:Int)+2)],Vc ((Wx (j+1)).flatMap encI),Vc e,.dead] (G.length+3) 1 (lgC dl mn j) (some (G.length+4)) (by rw [<-v,NW,ai,g];rfl)
 rw [<-Nee,TG] at e2
 simp only [place] at e2
 rw [g] at e2
 have S:∀i,i=B7\/i=bp\/i=bs\/G.length<=i->i∉opB pl:=fun i hi hm=>by
  cases hpe:pl with
  | none=>rw [hpe] at hm;cases hm
  | some a=>
    rw [hpe] at hm
    have h1:=b.n4 a hpe
    have h2:=(b.hL.block hpe).2
    simp [opB] at hm
    omega
 have W:NF G2 B7=_:=(q2 _ (S _ (.inl rfl))).trans V
 have ag:=fun X=>(OM.refl.app (X:=X)).cells W
 obtain ⟨G3,e3,x,m3⟩:=OP (NK W) (Vc [.slice (Sa (G.length+2)) (j+2) (loose 1),.slice pl j cl])
 have ah:=fun X=>(OM.refl.app (X:=X)).cells x
 obtain ⟨G4,e4,h4,m4⟩:=OP (NK x) (Vc [.slice (Sa (G.length+2)) (j+2) (loose 1),.slice (Sa (G.length+4)) (j+1) (loose 8)])
 have m:G2.length=G.length:=an.trans v
 have w:G4.length=G.length:=by rw [m4.len,m3.len,m]
 have q4:∀i,i≠B7->i∉opB pl->i≠bp->NF G4 i=NF G i:=fun i h1 h2 x=>by rw [m4.other i h1,m3.other i h1,q2 i h2,C i (by simpa [opB] using x)]
 have ar:WX M G4 QL 6 (Sa bs) cs (scC dl mn j):=b.hs.same fun a O=>by cases O;exact q4 _ b.n2 (S _ (by simp)) b.n3.symm
 obtain ⟨F,ao,q5,p⟩:=ar.step (lim':=lim) (bytes:=48) o OU (by decide) (by rw [VA];unfold PN;omega) (by rw [VA];omega)
 have eN:QL (evK ((j:Int)+2) (SL dl mn (j+1)) 1)=[Vi 7,Vi ((j:Int)+2),Vi ((j:Int)+2),.int .u8 1,Vi (SL dl mn (j+1)),Vi (SL dl mn (j+1))]:=rfl
 have p:=p [Vc e,Vc [Vi ((j:Int)+2)],Vc ((Wx (j+1)).flatMap encI),Vc e,Vc ((QY dl mn (j+1)).flatMap Rz),Vc (QL (evK ((j:Int)+2) (SL dl mn (j+1)) 1))] (G.length+5) 1 (evK ((j:Int)+2) (SL dl mn (j+1)) 1) none (by rw [<-w,NW];rfl)
 rw [<-Nxj,VA,eN,H] at p
 have y:F.length=G.length:=ao.trans w
 simp only [place,Nm,Nl,Ns,N0,O9,Nat.reduceAdd,y,Nn,Ox,Ok] at p
 rw [g] at p
 obtain ⟨X,hX⟩:∃X:NE,[Vc e,Vc [Vi ((j:Int)+2)],Vc ((Wx (j+1)).flatMap encI),Vc e,Vc ((QY dl mn (j+1)).flatMap Rz),Vc (QL (evK ((j:Int)+2) (SL dl mn (j+1)) 1)),Vc ((scC dl mn (j+1)).flatMap QL)]=X:=⟨_,rfl⟩
 have fin:∀f:Nat->Value,(∀t,t<8->f t=fr' t)->f 31=fr' 31->f 32=fr' 32->f 33=Vi ((j:Int)+1)->f 8=Vi (SL dl mn (j+1))->f 9=.slice (Sa (G.length+6)) (j+2) (loose 6)->
   PV E a8 lim (.inLoop N3m::.inBlock 0::K) f (F++X) Q:=by
  intro f a1 a2 a3 a4 a5 a6
  have ax:∀i,i≠B7->i∉opB pl->i≠bp->i≠bs->NF F i=NF G i:=fun i h1 h2 x h4=>(q5 i (by simpa [opB] using h4)).trans (q4 i h1 h2 x)
  have aw:NF F B7=_:=(q5 _ (by simpa [opB] using b.n2.symm)).trans h4
  have ak:∀i,i<M->i≠B7/\i∉opB pl/\i≠bp/\i≠bs:=fun i hi=>by
   have h1:=b.hM
   have h2:=aq.1
   have x:=au.1
   simp only at h2 x
   refine ⟨by omega,fun hm=>?_,by omega,by omega⟩
   cases hpe:pl with
   | none=>rw [hpe] at hm;cases hm
   | some a=>
     rw [hpe] at hm
     have:=(b.hL.block hpe).1
     simp [opB] at hm
     omega
  have A:∀(X:NE) i,NF (F++X) (G.length+i)=X.getD i .dead:=fun X i=>by rw [<-y];exact NW
  have az:M<=G.length:=by have:=b.hM;omega
  refine hN (j+1,(G.length+2,G.length+6,loose 1),loose 6,loose 8,Sa (G.length+4)) _ _ ⟨by show j+1<=n;omega,fun t D=>(a1 t D).trans (keep t D),a2.trans q,a3.trans r,a4,a5,a6,⟨by simp;omega,fun i hi _=>?_⟩,(OM.refl.app).cells aw,.inl (Own.new (R:=G.length+2) (by rw [A,<-hX];rfl) (by omega)),Own.new (R:=G.length+4) (by rw [A,<-hX];rfl) (by omega),.inl (Own.new (R:=G.length+6) (by rw [A,<-hX];rfl) (by omega)),by show G.length+2≠B7;omega,by show G.length+6≠B7;omega,by show G.length+2≠G.length+6;omega,fun a O=>by cases O;simp;omega,b.hM⟩ (by show n-(j+1)<n-j;omega)
  obtain ⟨m1,m2,m3,m4⟩:=ak i (by omega)
  rw [NN (by omega),ax i m1 m2 m3 m4]
  exact hC.other i hi (by simp)
 rw [<-hX,eN,H,g] at fin
 by_cases l:t / 1440*1440+dd*5<t
 ·have ed:Ne0 dd t=t / 1440+1:=Ni l
  rw [ed] at p fin
  simp only [n8,r8,g1,g7,L,g9,q,r,u,NU,B,ld,ix,w1,w2,w3,w4,w5,w6,w7,w8,w9,Y,Z,aa,ab,ac,z,P,NH,NI,Ur v,Ur m,Ur w,ad,ae,ag,e1,e2,e3,ah,e4,VO,N7 l,p,SB,seval,NC,NJ,NG,NQ,reduceCtorEq,NB,place,NA,ND]
  exact fin _ (fun t D=>by simp only [upd];repeat rw [Nh (by omega)]) rfl rfl rfl rfl rfl
 ·have ed:Ne0 dd t=t / 1440:=Nh l
  rw [ed] at p fin
  simp only [n8,r8,g1,g7,L,g9,q,r,u,NU,B,ld,ix,w1,w2,w3,w4,w5,w6,w7,w8,w9,Y,Z,aa,ab,ac,z,P,NH,NI,Ur v,Ur m,Ur w,ad,ae,ag,e1,e2,e3,ah,e4,VO,Nr l,p,SB,seval,NC,NJ,NG,NQ,reduceCtorEq,NB,place,NA,ND]
  exact fin _ (fun t D=>by simp only [upd];repeat rw [Nh (by omega)]) rfl rfl rfl rfl rfl
theorem Nnc [OB] (g:EffOk) {lim c cp cL np nl ns:Nat} {p pp pL:Option Addr} {P:List Int} {L:List Leg} {S:List Ev} {item now:Int} {H:NE} {Q:Value->NE->Prop} (hp:np=P.length) (hL:nl=L.length) (hS:ns=S.length) (i:NetIn H pp pL P L) (hs:Sl H QL 6 p S) (hn:S.length<2 ^ 63) (hl:lim<=H.length) (d:U1 P L S item now=0)
  (a:∀G pe ce q cq r cr pl cl (es tw:List Ev) (ks:List Int) (ss:List Stp),es=Vf (OO S).1 item->tw=Vf (OO S).2 item->ks=QZ P L es->ss=R4 P L es ks->Chg [] H G->Wn H.length G TH 5 pl (Tv P L es tw ks ss now)->
   Q (.tuple #[.agg (Uh pe es.length ce q ks.length cq r ss.length cr (SH P L es ks) pl (Tv P L es tw ks ss now).length cl).toArray,Vi 0]) G) :
  NL E false lim 17 [.agg #[.slice pp np cp,.slice pL nl cL],.slice p ns c,Vi item,Vi now] H Q:=by
 subst hp hL hS
 exact Njh g i hs hn hl (fun G h=>absurd d h) fun G pe ce q cq r cr pl cl es tw ks ss e1 e2 e3 b _ f _ _ _ _ e=>a G pe ce q cq r cr pl cl es tw ks ss e1 e2 e3 b f e
theorem Nog {α:Type} {lim e bytes b k R:Nat} {H:NE} {enc:α->List Value} {l:List α} {x:α} {dest:Option Nat} (he:∀x,(enc x).length=e) (d:e≠0) (c:NF H R=Vc (l.flatMap enc)) (hl:lim<=R) (f:NF H b=Vc (enc x)) (g:(l.length+1)*bytes<=PN) (hn:l.length+1<2 ^ 61) :
  Wi lim dest e bytes false (.slice (Sa R) l.length (loose e)) (.slice (Sa b) 1 k) H=some (.slice (Sa ((place dest (Vc ((l++[x]).flatMap enc)) (H.set R .dead)).1)) (l.length+1) (loose e),(place dest (Vc ((l++[x]).flatMap enc)) (H.set R .dead)).2):=by
 have h1:firstCells H e false (.slice (Sa b) 1 k)=some ([x].flatMap enc):=Vk (m:=[x]) (Sl.row (ro:=false) he (by rw [f];simp))
 have a:AM.loadCells H ⟨R,0,none⟩ (l.length*e)=some (l.flatMap enc):=by
  simp only [PU,c,N0,PS he,Nd,if_true,Ov]
  rw [Og (by rw [PS he];exact Nd _)]
 rw [UY,Ni (.inl rfl)]
 simp only [OT,h1,lenOf,a,c,Nat.one_ne_zero,if_false,if_true]
 rw [Nh (by unfold loose;omega)]
 simp [hl]
theorem N62 [OB] (hE:EffOk) {lim B7 bp bs cp cs cl n M:Nat} {pl:Option Addr} {dl:List Int} {mn now:Int} {fr:Nat->Value} {G:NE} {Q:Value->NE->Prop} (hn:dl.length<=5) (hk:n<=dl.length) (hd:∀d∈dl,0<=d/\d<=255) (hm:0<=mn/\mn<=255) (ab:0<=now/\now<=65535)
  (f2:fr 2=.int .u16 now) (f7:fr 7=Vp B7) (f8:fr 8=Vi (SL dl mn n)) (f9:fr 9=.slice (Sa bs) (n+1) cs) (o:C8 B7 bp bs cp cs cl pl dl mn n M G) (aa:lim<=M)
  (hR:∀fr' G' p,OM G G'->(∀t,t<14->fr' t=fr t)->fr' 14=Vi ((n+1:Nat):Int)->fr' 15=Vp p->NF G' p=Vc (QL (Zx dl mn n))->PV E a8 lim [.code T8e] fr' G' Q):PV E a8 lim [.code T8b] fr G Q:=by
 rw [N4t,N4s,N4r]
 refine NM ?_
 have x7:=fun X=>(OM.refl.app (X:=X)).cells o.k7
 have ac:=NK o.k7
 have N:lim<=G.length:=by have:=o.hM;omega
 have ht:=TQ hd hm (i:=n) hk
 have w1:IntKind.i64.wrap (SL dl mn n+60)=SL dl mn n+60:=NT (by omega) (by omega)
 have w2:IntKind.i64.wrap now=now:=NT (by omega) (by omega)
 have w3:IntKind.i64.wrap (2*now)=2*now:=NT (by omega) (by omega)
 have w4:IntKind.i64.wrap (((n+1:Nat):Int)+1)=((n+2:Nat):Int):=OG (by omega)
 have Y:QL (Zx dl mn n)=[Vi 7,Vi ((n+1:Nat):Int),Vi ((n+1:Nat):Int),.int .u8 4,Vi (SL dl mn n+60),Vi (SL dl mn n+60)]:=rfl
 obtain ⟨en,v⟩:∃en,QL (Zx dl mn n)=en:=⟨_,rfl⟩
 obtain ⟨sc,m⟩:∃sc,scC dl mn n=sc:=⟨_,rfl⟩
 have a:sc.length=n+1:=by rw [<-m];exact VA
 have D:S1C dl mn n=sc++[Zx dl mn n]:=by rw [<-m];rfl
 have w:=o.hs.sl OU
 rw [m] at w
 have y:=Nqm (lim:=lim) (b:=G.length+1) (d:=G.length+2) (bytes:=48) (c:=cs) (H:=G++[Vc en,Vc [],.dead,.dead,.dead,.dead]) (by rw [NW];rfl) (w.app _) (by decide) (by rw [a];unfold PN;omega) (by omega) (fun h=>by rw [h] at a;cases a)
 have s:=Nog (lim:=lim) (bytes:=48) (k:=1) (H:=G++[Vc en,Vc [],Vc (sc.flatMap QL),Vc en,.dead,.dead]) (l:=sc) (x:=Zx dl mn n) (b:=G.length+3) (R:=G.length+2) (dest:=some (G.length+4)) OU (by decide) (by rw [NW];rfl) (by omega) (by rw [NW,v];rfl) (by rw [a];unfold PN;omega) (by omega)
 rw [<-D] at s
 rw [a] at y s
 simp only [place,O9,Nat.reduceAdd] at s
 rw [<-v,Y] at y s
 simp only [UC,Sy,T8a,T8b,T8c,T8d,c8,n8,r8,f2,f7,f8,f9,x7,w1,w2,w3,VO,NH,NI,y,s,N,SB,seval,NC,NJ,NG,NQ,reduceCtorEq,NB,place,NA,ND]
 have f:=N12 hd hm hn hk
 have e:=N42 hd hm hn hk
 have j:=N41 (now:=2*now) hd hm hn hk
 have I:∀l∈QY dl mn n,By l:=fun l hl=>by
  obtain ⟨i,_,rfl⟩:=UK.1 hl
  exact ⟨(by decide:(0:Int)<=127),(by decide:(127:Int)<=255)⟩
 have u:NetIn G (Sa bp) pl (Wx n) (QY dl mn n):=⟨o.hp.sl RJ,o.hL.sl OH,by rw [WA];omega,by rw [TG];omega,I⟩
 refine Nnc hE (lim:=lim) (P:=Wx n) (L:=QY dl mn n) (S:=S1C dl mn n) WA.symm TG.symm (YO hd hm hn hk).symm (u.app _) (Sl.row (ro:=false) OU (by rw [NW];rfl)) (by rw [YO hd hm hn hk];omega) (by simp;omega) (N40 hd hm hn hk (by omega)) fun G2 pe ce q cq r cr T z es tw ks ss e1 e2 e3 W hC hA=>?_
 rw [f.1] at e1
 rw [f.2] at e2
 rw [e1,e.1] at e3
 rw [e1,e3] at W
 have eA:Tv (Wx n) (QY dl mn n) es tw ks ss (2*now)=[]:=by rw [e1,e2,e3,W];exact j
 have eC:SH (Wx n) (QY dl mn n) es ks=0:=by rw [e1,e3,<-e.1];exact e.2
 have eK:ks.length=n+2:=by rw [e3,TV]
 rw [eA,eC,eK,Ns]
 have K:=hC.len
 simp at K
 have g:=hC.ext
 have V:NF G2 (G.length+5)=.dead:=by obtain ⟨X,rfl⟩:=g;rw [NN (by simp),NW];rfl
 have O:NF G2 G.length=Vc (QL (Zx dl mn n)):=by obtain ⟨X,rfl⟩:=g;rw [NN (by simp),NV,Y];rfl
 have U:List.set G2 (G.length+5) Blk.dead=G2:=set_self V (by omega)
 obtain ⟨G3,B,Z,m3⟩:=OP (G:=G2) (R:=G.length+5) (by omega) (Vc [Vz,Vz,Vz,Vi 0,Vz])
 obtain ⟨G4,C,h4,m4⟩:=OP (NK Z) (Vc (Uh pe es.length ce q (n+2) cq r ss.length cr 0 T 0 z))
 have x3:=fun X=>(OM.refl.app (X:=X)).cells Z
 have x4:=fun X=>(OM.refl.app (X:=X)).cells h4
 refine NM ?_
 have A:NF (G2++[]) (G.length+5)=.dead:=by rw [Nb];exact V
 have J:lim<=G.length+5:=by omega
 simp only [UC,Sy,T8a,T8b,T8c,T8d,c8,n8,r8,A,U,B,x3,C,x4,J,QS,TS,Ug,Uf,Ue,SV,NI,NH,w4,SB,seval,NC,NJ,NG,NQ,reduceCtorEq,NB,place,NA,ND]
 have F:=m4.ext (m3.ext (OM.refl.app.trans g) (show G.length<=G.length+5 by omega)) (show G.length<=G.length+5 by omega)
 exact hR _ _ G.length F.app (fun t ht=>by simp only [upd];repeat rw [Nh (by omega)]) rfl rfl ((OM.refl.app).cells (m4.cells (m3.cells O (by omega)) (by omega)))
theorem N61 [OB] (hE:EffOk) (x:OB.on 18=true) {lim B7 p bp bs cp cs cl n M:Nat} {pl:Option Addr} {dl:List Int} {mn now:Int} {fr:Nat->Value} {G:NE} (hn:dl.length<=5) (hk:n<=dl.length) (hd:∀d∈dl,0<=d/\d<=255) (hm:0<=mn/\mn<=255) (ac:0<=now/\now<=65535)
  (f2:fr 2=.int .u16 now) (f7:fr 7=Vp B7) (f9:fr 9=.slice (Sa bs) (n+1) cs) (f14:fr 14=Vi ((n+1:Nat):Int)) (J:fr 15=Vp p) (o:C8 B7 bp bs cp cs cl pl dl mn n M G) (ab:lim<=M) (z:NF G p=Vc (QL (Zx dl mn n))):PV E a8 lim [.code T8e] fr G fun v _=>v=.bool true:=by
 rw [N4q]
 refine NM ?_
 have x7:=fun X=>(OM.refl.app (X:=X)).cells o.k7
 have Y:lim<=G.length:=by have:=NK o.k7;have:=o.hM;omega
 by_cases h0:n=0
 ·subst h0
  simp only [UC,Sy,T8a,T8b,T8c,T8d,T8e,c8,n8,r8,f14,Nmu x,SB,seval,NC,NJ,NG,NQ,reduceCtorEq,NB,place,NA,ND]
 have eE:QL (Zx dl mn n)=[Vi 7,Vi ((n+1:Nat):Int),Vi ((n+1:Nat):Int),.int .u8 4,Vi (SL dl mn n+60),Vi (SL dl mn n+60)]:=rfl
 have ea:QL (gt (scC dl mn n) 0)=[Vi 7,Vi 1,Vi 1,.int .u8 1,Vi 14400,Vi 14400]:=by rw [Nnz hd hm hn hk (by omega)];rfl
 have eb:QL (gt (scC dl mn n) n)=[Vi 7,Vi ((n+1:Nat):Int),Vi ((n+1:Nat):Int),.int .u8 1,Vi (SL dl mn n),Vi (SL dl mn n)]:=by rw [Nnz hd hm hn hk (by omega)];rfl
 have e2:(S2C dl mn n).flatMap QL=[Vi 7,Vi 1,Vi 1,.int .u8 1,Vi 14400,Vi 14400,Vi 7,Vi ((n+1:Nat):Int),Vi ((n+1:Nat):Int),.int .u8 1,Vi (SL dl mn n),Vi (SL dl mn n),Vi 7,Vi ((n+1:Nat):Int),Vi ((n+1:Nat):Int),.int .u8 4,Vi (SL dl mn n+60),Vi (SL dl mn n+60)]:=rfl
 rw [eE] at z
 have aa:=fun X=>(OM.refl.app (X:=X)).cells z
 have e:=o.hs.sl OU
 have y:(scC dl mn n).length=n+1:=VA
 have la:=fun X=>(e.app X).loadCells OU (i:=0) (by omega)
 have lb:=fun X=>(e.app X).loadCells OU (i:=n) (by omega)
 have ia:∀(c:Nat) (kk:IntKind) (H1:NE),Zv 6 (.slice (Sa bs) (scC dl mn n).length c) (.int kk 0) H1=some (.pointer (some (YI (Sa bs) 6 0)),H1):=fun c kk H1=>e.idx (c:=c) (k:=kk) (H1:=H1) (i:=0) (by omega)
 have ib:=fun c (kk:IntKind) (H1:NE)=>e.idx (c:=c) (k:=kk) (H1:=H1) (i:=n) (by omega)
 rw [ea] at la
 rw [eb] at lb
 rw [y] at ia ib
 have w1:IntKind.i64.wrap (((n+1:Nat):Int)-1)=(n:Int):=by rw [NT (by omega) (by omega)];omega
 have w2:IntKind.i64.wrap now=now:=NT (by omega) (by omega)
 have w3:IntKind.i64.wrap (2*now)=2*now:=NT (by omega) (by omega)
 have w4:IntKind.i64.wrap (((n+1:Nat):Int)-2)=((n-1:Nat):Int):=by rw [NT (by omega) (by omega)];omega
 have w:¬(((n+1:Nat):Int)=1):=by omega
 simp only [UC,Sy,T8a,T8b,T8c,T8d,T8e,c8,n8,r8,f14,Nr w,SB,seval,NC,NJ,NG,NQ,reduceCtorEq,NB,place,NA,ND]
 rw [N4p,N4o]
 refine NM ?_
 simp only [UC,Sy,T8a,T8b,T8c,T8d,T8e,T8f,T8g,c8,n8,r8,f2,f7,f9,f14,J,x7,aa,la,lb,ia,ib,w1,w2,w3,NH,NI,Y,SB,seval,NC,NJ,NG,NQ,reduceCtorEq,NB,place,NA,ND]
 have h1:1<=n:=by omega
 have f:=N10 hd hm hn hk h1
 have g:=N4z hd hm hn hk h1
 have h:=N4y (now:=2*now) hd hm hn hk h1
 have T:∀l∈QY dl mn n,By l:=fun l hl=>by
  obtain ⟨i,_,rfl⟩:=UK.1 hl
  exact ⟨(by decide:(0:Int)<=127),(by decide:(127:Int)<=255)⟩
 have u:NetIn G (Sa bp) pl (Wx n) (QY dl mn n):=⟨o.hp.sl RJ,o.hL.sl OH,by rw [WA];omega,by rw [TG];omega,T⟩
 refine Nnc hE (lim:=lim) (P:=Wx n) (L:=QY dl mn n) (S:=S2C dl mn n) WA.symm TG.symm rfl (u.app _) (Sl.row (ro:=false) OU (by rw [NV,e2];rfl)) (by show 3<2 ^ 63;decide) (by simp;omega) (N4x hd hm hn hk h1 (by omega)) fun G2 pe ce q cq r cr m s es tw ks ss q1 q2 q3 q4 hC C=>?_
 rw [f.1] at q1
 rw [f.2] at q2
 rw [q1,g] at q3
 rw [q1,q3] at q4
 have eA:Tv (Wx n) (QY dl mn n) es tw ks ss (2*now)=(List.range (n-1)).map fun (j:Nat)=>(⟨5,1,0,(j:Int)+2,0⟩:An):=by rw [q1,q2,q3,q4];exact h
 rw [eA] at C⊢
 obtain ⟨A,b⟩:∃A,((List.range (n-1)).map fun (j:Nat)=>(⟨5,1,0,(j:Int)+2,0⟩:An))=A:=⟨_,rfl⟩
 have K:A.length=n-1:=by rw [<-b,Nu,O7]
 rw [b] at C
 rw [b,K]
 obtain ⟨V,D⟩:∃V,Uh pe es.length ce q ks.length cq r ss.length cr (SH (Wx n) (QY dl mn n) es ks) m (n-1) s=V:=⟨_,rfl⟩
 have O:V.length=5:=by rw [<-D];rfl
 have N:V[4]? = some (.slice m (n-1) s):=by rw [<-D];rfl
 rw [D]
 have W:=hC.len
 simp at W
 have Q:=hC.ext
 have d2:NF G2 (G.length+1)=.dead:=by obtain ⟨X,rfl⟩:=Q;rw [NN (by simp),NW];rfl
 have Z:List.set G2 (G.length+1) Blk.dead=G2:=set_self d2 (by omega)
 obtain ⟨G3,H,h3,m3⟩:=OP (G:=G2) (R:=G.length+1) (by omega) (Vc [Vz,Vz,Vz,Vi 0,Vz])
 obtain ⟨G4,I,h4,m4⟩:=OP (NK h3) (Vc V)
 have x3:=fun X=>(OM.refl.app (X:=X)).cells h3
 have x4:=fun X=>(OM.refl.app (X:=X)).cells h4
 refine NM ?_
 have F:NF (G2++[]) (G.length+1)=.dead:=by rw [Nb];exact d2
 have U:lim<=G.length+1:=by omega
 simp only [UC,Sy,T8a,T8b,T8c,T8d,T8e,T8f,T8g,c8,n8,r8,f14,F,Z,H,x3,I,x4,U,O,N,NI,NH,w4,SB,seval,NC,NJ,NG,NQ,reduceCtorEq,NB,place,NA,ND]
 have t:Sl G4 TH 5 m A:=Yu C.1 fun a ha w ro c hc=>by
  have:=C.2 a ha
  simp at this
  exact m4.cells (m3.cells hc (by omega)) (by omega)
 rw [<-b] at t
 exact Nt2 x (k:=n-1) (B:=G.length+1) (by omega) rfl ((OM.refl.app).cells (by rw [h4,<-D])) (t.app _) (by have h1:=m3.len;have h2:=m4.len;simp;omega)
theorem AnomalyClean_ok [OB] (q:EffOk) (l:OB.on 18=true) {mp:Bool} {lim p:Nat} {s:Option Addr} {dl:List Int} {mn now:Int} {H:NE} {Q:Value->NE->Prop} (hs:Sl H enc8 1 s dl) (hc:Ws 1 p dl.length) (k:dl.length<2 ^ 63) (hd:∀d∈dl,0<=d/\d<=255) (hm:0<=mn/\mn<=255) (c:0<=now/\now<=65535) :
  NL E mp lim 8 [.slice s dl.length p,.int .u8 mn,.int .u16 now] H Q=Q (.bool true) H:=by
 refine pc (by decide) e8 rfl rfl ?_
 rw [b8,N7r]
 obtain ⟨n,hn⟩:∃n,min dl.length 5=n:=⟨_,rfl⟩
 have f:min (dl.length:Int) 5=(n:Int):=by omega
 obtain ⟨q1,k1,u,t,_,_,_⟩:=VN (vlo:=none) (vhi:=some (Vi n)) (lo:=0) (hi:=n) hs hc Nmg (fun cap r=>by rw [Nbf (by omega) (by omega),N2]) (Nz _) (by omega) k
 rw [Ov] at t
 simp only [Nat.sub_zero] at u
 have m:(dl.take n).length=n:=by rw [Oy];omega
 have e:∀d∈dl.take n,0<=d/\d<=255:=fun d h=>hd d (Rb h)
 generalize dl.take n=ds at *
 simp only [UC,Sy,c8,n8,r8,VO,NH,SB,seval,NC,NJ,NG,NQ,reduceCtorEq,NB,place,NA,ND]
 rw [N4u]
 refine NM ?_
 simp only [UC,Sy,T8a,c8,n8,r8,Nyy,f,u,SB,seval,NC,NJ,NG,NQ,reduceCtorEq,NB,place,NA,ND]
 refine N9t (n:=n) (dl:=ds) (M:=H.length) (B7:=H.length+1) (H0:=H) (mn:=mn) (q1:=q1) (k1:=k1) (bp:=H.length) (bs:=H.length+2) (cp:=1) (cs:=1) (by omega) m.symm e hm (Nd _) (Nd _) t rfl rfl rfl rfl rfl rfl rfl Chg.refl.app ⟨by rw [NW];rfl,.inr ⟨_,rfl,rfl,by rw [NV];rfl,Nd _,by decide⟩,.nil,.inr ⟨_,rfl,rfl,by rw [NW];rfl,by omega,by simp [scC]⟩,by omega,by omega,by omega,(fun a h=>by cases h),by omega⟩ fun fr' G bp bs cp cs cl pl keep w f9 y b=>?_
 refine N62 q (dl:=ds) (n:=n) (mn:=mn) (now:=now) (M:=H.length) (by omega) (by omega) e hm c ((keep 2 (by decide)).trans rfl) ((keep 7 (by decide)).trans rfl) w f9 b (Nd _) fun x G2 v g k2 f14 i o=>?_
 refine N61 q l (dl:=ds) (n:=n) (mn:=mn) (now:=now) (M:=H.length) (by omega) (by omega) e hm c ((k2 2 (by decide)).trans ((keep 2 (by decide)).trans rfl)) ((k2 7 (by decide)).trans ((keep 7 (by decide)).trans rfl)) ((k2 9 (by decide)).trans f9) f14 i ⟨g.cells b.k7,b.hp.same fun a j=>?_,b.hL.chg (A:=[]) g.chg (fun _ _ h=>(by cases h)),b.hs.same fun a j=>?_,b.n1,b.n2,b.n3,b.n4,b.hM⟩ (Nd _) o
 ·obtain ⟨X,rfl⟩:=g
  exact NN (b.hp.block j).2
 ·obtain ⟨X,rfl⟩:=g
  exact NN (b.hs.block j).2
end Go.Proofs.YtkppjkkkdpcgiaaGreat.Fn


