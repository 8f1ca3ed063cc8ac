/-
  Joined texts, 8 of 9. A part of the claim that the last text states.
-/
import Derived.Test.YtkppjkkkdpcgiaaGreatPD7
set_option linter.unusedVariables false
set_option linter.unusedSimpArgs false
set_option linter.defProp false
set_option linter.unusedSectionVars false
set_option maxRecDepth 100000
set_option maxHeartbeats 4000000
namespace Go.Proofs.YtkppjkkkdpcgiaaGreat.Fn
open Go.AM Go.AM.Sym Go.Scan Go.Sort
def Nkx (p:Option Addr):List Nat:=match p with
 | none=>[]
 | some a=>[a.block]
theorem Nc2 {p:Option Addr} {j:Nat} (h:j∈Nkx p):∃a,p=some a/\j=a.block:=by
 cases p with
 | none=>cases h
 | some a=>exact ⟨a,rfl,by simpa [Nkx] using h⟩
theorem Nc1 {p:Option Addr} {j:Nat} (h:j∉Nkx p):∀a,p=some a->j≠a.block:=fun a e h2=>h (by rw [e];simp [Nkx,h2])
structure FSt (H:NE) (EV:List Ev) (B Mp:Nat) (kr tr:List Ev) (es:List ((Int×Int×Int)×Int)) (kp tp:Option Addr) (kc tc:Nat) (G:NE):Prop where
 mp:NH G Mp=.map (Tm kS vI es)
 ev:NH G B=Vc (EV.flatMap encE)
 ko:Own (Mp+1) G encE 7 kp kc kr.reverse
 to:Own (Mp+1) G encE 7 tp tc tr.reverse
 ne:∀a b,kp=some a->tp=some b->a.block≠b.block
 old:∀j,j<H.length->NH G j=NH H j
 len:Mp<G.length
 rel:∀e,Nbl (R7 e) es=(VE e kr).map (·.time)
 sub:∀x∈kr,x∈EV
 kn:kr=[]->kp=none
 tn:tr=[]->tp=none
theorem FSt.twice {H:NE} {EV:List Ev} {B Mp:Nat} {kr tr:List Ev} {es:List ((Int×Int×Int)×Int)} {kp tp:Option Addr} {kc tc:Nat} {G:NE} {lim:Nat} (h:FSt H EV B Mp kr tr es kp tp kc tc G) (hl:lim<=H.length) (n:H.length<=B) (m:B<Mp) (e:Ev) (hn:tr.length<4000) (x y:Blk) :
  ∃G',PE lim none 7 56 false (.slice tp tr.length tc) (.slice (Sa (G.length+2)) 1 1) (G++[x,y,Vc (encE e)])=some (.slice (Sa (G.length+3)) (tr.length+1) (loose 7),G'++[])/\FSt H EV B Mp kr (e::tr) es kp (Sa (G.length+3)) kc (loose 7) (G'++[]):=by
 have len:=h.len
 obtain ⟨G2,e2,d,_,c,g,_⟩:=h.to.step (lim':=lim) (bytes:=56) (by omega) OA (by decide) e (by rw [List.length_reverse];unfold PS;omega) (by rw [List.length_reverse];omega) (by omega) [x,y,Vc (encE e)] (G.length+2) 1 (by rw [NW];rfl)
 rw [List.length_reverse] at e2
 simp only [Nl,Nr,N6,Nat.reduceAdd] at e2 d g
 have nt:∀j,j<=Mp->∀a,tp=some a->j≠a.block:=fun j i a f=>by have:=(h.to.block f).1;omega
 have hc:Chg (Nkx tp) G (G2++[]):=⟨by simp;omega,fun j i l=>c j i (Nc1 l)⟩
 refine ⟨G2,e2,(c _ len (nt _ (Nd _))).trans h.mp,(c _ (by omega) (nt _ (by omega))).trans h.ev,h.ko.chg hc fun a f o=>?_,by rw [List.reverse_cons];exact d,fun a b f k=>?_,fun j i=>(c j (by omega) (nt _ (by omega))).trans (h.old j i),by simp;omega,h.rel,h.sub,h.kn,fun h=>(by cases h)⟩
 ·obtain ⟨b,k,e⟩:=Nc2 o
  exact h.ne a b f k e
 ·cases k
  have:=(h.ko.block f).2
  show a.block≠G.length+3
  omega
theorem Npc {e x:Ev} {kr:List Ev}:VE e (x::kr)=if R7 x=R7 e then some x else VE e kr:=by
 unfold VE
 by_cases h:R7 x=R7 e
 ·rw [List.find?_cons_of_pos (by simpa using h),Ni h]
 ·rw [List.find?_cons_of_neg (by simpa using h),Nh h]
theorem FSt.kept {H:NE} {EV:List Ev} {B Mp:Nat} {kr tr:List Ev} {es:List ((Int×Int×Int)×Int)} {kp tp:Option Addr} {kc tc:Nat} {G:NE} {lim:Nat} (h:FSt H EV B Mp kr tr es kp tp kc tc G) (hl:lim<=H.length) (s:H.length<=B) (r:B<Mp) (e:Ev) (he:e∈EV) (hn:kr.length<4000) (x y:Blk) :
  ∃G1,(∀X:NE,(G++X).set Mp (.map (Tm kS vI (Wv (R7 e) e.time es)))=G1++X)/\∃G',PE lim none 7 56 false (.slice kp kr.length kc) (.slice (Sa (G1.length+2)) 1 1) (G1++[x,y,Vc (encE e)])=some (.slice (Sa (G1.length+3)) (kr.length+1) (loose 7),G'++[])/\
   FSt H EV B Mp (e::kr) tr (Wv (R7 e) e.time es) (Sa (G1.length+3)) tp (loose 7) tc (G'++[])/\G1.length=G.length:=by
 have len:=h.len
 obtain ⟨G1,e1,h1,k⟩:=OP (G:=G) (R:=Mp) len (.map (Tm kS vI (Wv (R7 e) e.time es)))
 have u:=k.len
 have nk:∀j,j<=Mp->∀a,kp=some a->j≠a.block:=fun j g a d=>by have:=(h.ko.block d).1;omega
 have nt:∀j,j<=Mp->∀a,tp=some a->j≠a.block:=fun j g a d=>by have:=(h.to.block d).1;omega
 have n:=h.ko.mut k (fun a d=>(nk Mp (Nd _) a d).symm)
 have o:=h.to.mut k (fun a d=>(nt Mp (Nd _) a d).symm)
 obtain ⟨G2,e2,f,_,c,i,_⟩:=n.step (lim':=lim) (bytes:=56) (by omega) OA (by decide) e (by rw [List.length_reverse];unfold PS;omega) (by rw [List.length_reverse];omega) (by omega) [x,y,Vc (encE e)] (G1.length+2) 1 (by rw [NW];rfl)
 rw [List.length_reverse] at e2
 simp only [Nl,Nr,N6,Nat.reduceAdd] at e2 f i
 have hc:Chg (Nkx kp) G1 (G2++[]):=⟨by simp;omega,fun j g p=>c j g (Nc1 p)⟩
 refine ⟨G1,e1,G2,e2,⟨(c _ (by omega) (nk _ (Nd _))).trans h1,(c _ (by omega) (nk _ (by omega))).trans ((k.other _ (by omega)).trans h.ev),by rw [List.reverse_cons];exact f,o.chg hc fun a d t=>?_,fun a b d m=>?_,fun j g=>(c j (by omega) (nk _ (by omega))).trans ((k.other j (by omega)).trans (h.old j g)),by simp;omega,fun a=>?_,fun z hz=>?_,fun h=>(by cases h),h.tn⟩,u⟩
 ·obtain ⟨b,m,e⟩:=Nc2 t
  exact h.ne b a m d e.symm
 ·cases d
  have:=(h.to.block m).2
  show G1.length+3≠b.block
  omega
 ·rw [Nl7,Npc,h.rel]
  by_cases l:R7 a=R7 e
  ·rw [Ni l,Ni l.symm];rfl
  ·rw [Nh l,Nh fun q=>l q.symm]
 ·rcases Np.mp hz with rfl | hz
  ·exact he
  ·exact h.sub z hz
theorem Ncz [OB] {lim c:Nat} {p:Option Addr} {S:List Ev} {H:NE} {Q:Value->NE->Prop} (hs:Sl H QJ 6 p S) (hS:QN S) (hl:lim<=H.length)
  (hQ:∀G kp kc tp tc,Own H.length G encE 7 kp kc (OM S).1->Own H.length G encE 7 tp tc (OM S).2->(∀a b,kp=some a->tp=some b->a.block≠b.block)->Chg [] H G->((OM S).1=[]->kp=none)->((OM S).2=[]->tp=none)->Q (.tuple #[.slice kp (OM S).1.length kc,.slice tp (OM S).2.length tc]) (G++[])) :
  NL Ef false lim 56 [.slice p S.length c] H Q:=by
 have hn:=hS.1
 refine Ngz (by decide) e56 rfl ?_
 rw [b56,c56]
 simp only [n56,r56,SB,seval,NC,NJ,NF,NP,reduceCtorEq,NB,place,NA,ND]
 rw [Nb]
 refine gather_ok hs hS hl fun G pm cm sm aw hC=>?_
 have az:=Go.Scan.gather_ok hS.2
 generalize hM:R6 S=M at *
 have lM:M.length<=2000:=by rw [<-hM];have:=Npn S;omega
 have bp:=hC.len
 have aq:∀G',(∀j,j<H.length->NH G' j=NH H j)->Sl G' QJ 6 p S:=fun G' ho=>Sl.same hs fun a ha ac=>by
  subst ha;exact ho _ (hs.lt ac)
 have a1:(S.length:Int)*56<=2 ^ 45:=by omega
 have a2:(S.length:Int)<2 ^ 62:=by omega
 have hz:(List.range (S.length*7)).length=S.length*7:=Ps
 have bb:(0:Int)<=(S.length:Int):=by omega
 have ad:∀z:List Value,z.length=S.length*7->ESt H M S p pm G.length 0 (G++[Vc z]):=fun z hz=>by
  have ho:∀j,j<H.length->NH (G++[Vc z]) j=NH H j:=fun j I=>by rw [NN (by omega),hC.other j I (by simp)]
  exact ⟨⟨z,by rw [hz,Nat.sub_zero],by rw [NS];rfl⟩,sm.app _,aq _ ho,ho,by simp⟩
 simp only [n56,r56,a1,a2,Ob,Rh,bb,SB,Nat.reduceLT,NC,NJ,Nat.reduceEqDiff,NF,NP,reduceCtorEq,NB,place,NA,Nat.reduceAdd,Nat.reduceLeDiff,ND,Int.reduceEq,Int.reduceLT,Int.reduceLE]
 refine NR (fun i=>S.length-i) (fun i fr G2=>i<=S.length/\fr 2=Vz/\fr 3=Vz/\fr 4=.slice pm M.length cm/\fr 5=.slice (Sa G.length) i S.length/\fr 19=.slice p S.length c/\fr 20=Vi S.length/\fr 21=Vi i/\ESt H M S p pm G.length i G2) 0
  ⟨Nx _,rfl,rfl,rfl,rfl,rfl,rfl,by rfl,ad _ (by rw [Nv,Ps])⟩ ?_
 ·rintro i fr G2 ⟨hi,g2,g3,g4,g5,V,W,ah,⟨rest,K,D⟩,au,av,U,T⟩ hN
  rw [NT N5i.eq_1]
  refine NK ?_
  by_cases o:i<S.length
  ·have ba:=fun X=>(av.app X).loadCells OT o
   have ao:=fun c (k:IntKind) (H1:NE)=>av.idx (c:=c) (k:=k) (H1:=H1) o
   have bh:IntKind.i64.wrap ((i:Int)+1)=((i+1:Nat):Int):=OG (by omega)
   have hf:Sm (gt S i):=hS.2 _ (Ru o)
   have a3:=fun X (mp:Bool) (lim:Nat) (Q:Value->NE->Prop)=>Np4 (mp:=mp) (lim:=lim) (Q:=Q) (au.app X) aw (by omega) az hf
   have a8:lim<=G2.length:=by omega
   have al:=N3r (M:=M) o
   generalize bq:gt S i=s at *
   generalize bu:Xc M s=t at *
   have bd:QM [Value.int .i64 0,Vi 0,Vi 0,.int .u8 0,Vi 0,Vi 0,Vi 0] 0 (QJ s)=[Vi s.item,Vi s.place,Vi s.scanner,.int .u8 s.kind,Vi s.at',Vi s.seen,Vi 0]:=rfl
   have hev:[Value.int .i64 s.item,Vi s.place,Vi s.scanner,.int .u8 s.kind,Vi s.at',Vi s.seen,Vi t]=encE { s with time:=t }:=rfl
   generalize hex:{ s with time:=t }=e at *
   have L:((Nmi M S).take i).length=i:=by rw [Ok,Xq];omega
   obtain ⟨E,e3,h3,m3⟩:=OP (G:=G2) (R:=G.length) T (Vc ((((Nmi M S).take i)++[e]).flatMap encE++rest.drop 7))
   have O:=Nal (lim:=lim) (R:=G.length) (bytes:=56) (cap:=S.length) (k:=1) (b:=G2.length+1) (dest:=some (G2.length+2)) (H:=G2++[Vc (QJ s),Vc (encE e),.dead]) (enc:=encE) (old:=(Nmi M S).take i) (x:=e) (ro:=false) (rest:=rest) OA (by decide)
    (by rw [NW];rfl) (by rw [NN T];exact D) (by omega) (by rw [L];omega) (by rw [L];exact K) (by omega) (by rw [L];unfold PS;omega)
   rw [L,e3] at O
   simp only [n56,r56,g2,g3,g4,g5,V,W,ah,NV,o,ao,ba,a8,OT,UZ,UY,UX,UW,UV,UU,NI,NG,a3,bh,bd,hev,OA,O,SB,seval,NC,NJ,NF,NP,reduceCtorEq,NB,place,NA,ND]
   have l3:=m3.len
   have J:∀j,j<H.length->NH (E++[Vc (QJ s),Vc (encE e),.dead]) j=NH H j:=fun j I=>by
    rw [NN (by omega),m3.other j (by omega)];exact U j I
   have bk:Sl E QR 3 pm M:=Sl.same au fun a ha ac=>by
    subst ha
    have:=sm.lt ac
    exact m3.other _ (by omega)
   refine hN (i+1) _ _ ⟨by omega,g2,g3,g4,rfl,V,W,rfl,⟨⟨rest.drop 7,by rw [Pi,K];omega, ?_⟩,bk.app _,aq _ J,J,by simp;omega⟩⟩ (by omega)
   rw [NN (by omega),h3,N9 (i:=i) (by rw [Xq];exact o),<-QH,al]
  ·obtain rfl:i=S.length:=by omega
   have bc:rest=[]:=by
    rw [Qs,Qg] at K
    exact List.length_eq_zero_iff.mp K
   rw [bc,Nb,Oc (by rw [Xq];exact Nd _)] at D
   obtain ⟨E,s1,s2,s3⟩:=Nw8 (lim:=lim) (cap:=S.length) D (by omega) (by rw [Xq];omega)
   rw [Xq] at s1
   have am:UF Uh (Nmi M S)=Sw M S:=rfl
   rw [am] at s2
   simp only [n56,r56,g2,g3,g4,g5,V,W,ah,NV,o,s1,SB,seval,NC,NJ,NF,NP,reduceCtorEq,NB,place,NA,ND]
   have a0:OM S=SF [] [] (Sw M S):=by rw [<-hM];rfl
   generalize ai:Sw M S=EV at *
   have aj:EV.length=S.length:=by rw [<-ai,Npu]
   have l3:=s3.len
   have J:∀j,j<H.length->NH E j=NH H j:=fun j I=>by rw [s3.other j (by omega) (by simp;omega)];exact U j I
   have an:∀x∈EV,0<=x.time/\x.time<=1051898399:=fun x hx=>by
    rw [<-ai] at hx
    obtain ⟨z,hz,rfl⟩:=Ml.mp hx
    have ar:=hS.2 z hz
    have:=Nq0 (M:=M) ar
    unfold Sm VZ at ar
    simp only;omega
   have ay:=NM s2
   refine NR (S:=Nat×List Ev×List Ev×List ((Int×Int×Int)×Int)×Option Addr×Option Addr×Nat×Nat) (fun s=>S.length-s.1) (fun s fr F=>s.1<=S.length/\SF s.2.1 s.2.2.1 (EV.drop s.1)=OM S/\s.2.1.length<=s.1/\s.2.2.1.length<=s.1/\
    fr 2=.slice s.2.2.2.2.1 s.2.1.length s.2.2.2.2.2.2.1/\fr 3=.slice s.2.2.2.2.2.1 s.2.2.1.length s.2.2.2.2.2.2.2/\fr 8=.map (some E.length)/\fr 37=.slice (Sa G.length) S.length S.length/\fr 38=Vi S.length/\fr 39=Vi s.1/\
    FSt H EV G.length E.length s.2.1 s.2.2.1 s.2.2.2.1 s.2.2.2.2.1 s.2.2.2.2.2.1 s.2.2.2.2.2.2.1 s.2.2.2.2.2.2.2 F) (0,[],[],[],none,none,0,0)
    ⟨Nx _,by rw [Oy];exact a0.symm,Nd _,Nd _,(by simp only [g2,Nr,FB,Nat.reduceEqDiff]),(by simp only [g3,Nr,FB,Nat.reduceEqDiff]),rfl,rfl,rfl,by rfl,⟨by rw [NS];rfl,by rw [NN ay];exact s2,.inl ⟨rfl,rfl,rfl⟩,.inl ⟨rfl,rfl,rfl⟩,fun a b h=>(by cases h),fun j I=>by rw [NN (by omega)];exact J j I,by simp,fun e=>rfl,fun x hx=>(Pa hx).elim,fun _=>rfl,fun _=>rfl⟩⟩ ?_
   rintro ⟨i,kr,tr,es,kp,tp,kc,tc⟩ bo F ⟨a6,l,a7,be,f2,f3,f8,u,m,w,st⟩ aa
   simp only at a6 l a7 be f2 f3 w st
   rw [NT N5j.eq_1]
   refine NK ?_
   by_cases q:i<S.length
   ·have y:i<EV.length:=by omega
    have P:Sl F encE 7 (Sa G.length) EV:=Sl.row OA st.ev
    have C:=fun X=>(P.app X).loadCells OA y
    have n:∀(c:Nat) (k:IntKind) (H1:NE),Z0 7 (.slice (Sa G.length) S.length c) (.int k (i:Int)) H1=some (.pointer (some (Zt (Sa G.length) 7 i)),H1):=fun c k H1=>by
     rw [<-aj];exact P.idx y
    have ag:IntKind.i64.wrap ((i:Int)+1)=((i+1:Nat):Int):=OG (by omega)
    have ak:gt EV i∈EV:=Ru y
    have a4:EV.drop i=gt EV i::EV.drop (i+1):=by rw [Ov y,QH y]
    rw [a4] at l
    have f:=st.rel (gt EV i)
    generalize hex:gt EV i=e at *
    have hk:Ui (.ints [.i64,.i64,.u8]) (.agg #[Vi e.item,Vi e.place,.int .u8 e.kind])=true:=N9u (k:=R7 e)
    have g:=YK (vv:=vI) N9v (R7 e) es 0
    have ap:kS (R7 e)=.agg #[Vi e.item,Vi e.place,.int .u8 e.kind]:=rfl
    rw [ap] at g
    have d:=Npq (R7 e) es 0
    have Z:∀X,NH (F++X) E.length=.map (Tm kS vI es):=fun X=>by rw [NN st.len];exact st.mp
    have B:lim<=F.length:=by have:=st.len;omega
    have A:lim<=E.length:=by omega
    have N:∀(em:List (Value×Value)),em=Tm kS vI (Wv (R7 e) e.time es)->
      ∃G1,(∀X:NE,(F++X).set E.length (.map em)=G1++X)/\(∀Y,NH (G1++Vc (encE e)::Y) F.length=Vc (encE e))/\∃G',PE lim none 7 56 false (.slice kp kr.length kc) (.slice (Sa (G1.length+2)) 1 1) (G1++[Vc (encE e),Vc [Vi e.item,Vi e.place,.int .u8 e.kind],Vc (encE e)])=some (.slice (Sa (G1.length+3)) (kr.length+1) (loose 7),G'++[])/\
       FSt H EV G.length E.length (e::kr) tr (Wv (R7 e) e.time es) (Sa (G1.length+3)) tp (loose 7) tc (G'++[]):=by
     intro em a5
     subst a5
     obtain ⟨G1,e1,G',e2,bm,l1⟩:=st.kept hl (by omega) (by omega) e ak (by omega) (Vc (encE e)) (Vc [Vi e.item,Vi e.place,.int .u8 e.kind])
     exact ⟨G1,e1,fun Y=>by rw [<-l1];exact NS,G',e2,bm⟩
    obtain ⟨GT,ax,bn⟩:=st.twice hl (by omega) (by omega) e (by omega) (Vc (encE e)) (Vc [Vi e.item,Vi e.place,.int .u8 e.kind])
    cases hc:fk (R7 e) es 0 with
    | none=>
      rw [hc] at g d
      simp only [Oo] at g d
      have r:=Njc (v':=e.time) hc
      have htw:Yn e kr=false:=by
       unfold Yn
       rw [<-d] at f
       cases hq:VE e kr with
       | none=>rfl
       | some z=>rw [hq] at f;cases f
      obtain ⟨G1,e1,R1,G',e2,fin⟩:=N (Tm kS vI es++[(.agg #[Vi e.item,Vi e.place,.int .u8 e.kind],Vi e.time)]) (by rw [<-r];simp only [Tm,Pc,Of,List.map_nil];rfl)
      simp only [n56,r56,f2,f3,f8,u,m,w,NV,q,n,C,B,A,OA,QT,Rq,Rp,Ro,QZ,QY,QS,NI,NG,ag,Z,hk,g,e1,R1,e2,SB,seval,NC,NJ,NF,NP,reduceCtorEq,NB,place,NA,ND]
      exact aa (i+1,e::kr,tr,Wv (R7 e) e.time es,Sa (G1.length+3),tp,loose 7,tc) _ _ ⟨by simp only;omega,by rw [<-l,SF,htw];rfl,by simp only [Nl];omega,by simp only;omega,(by simp only [Nl,FB,Nat.reduceEqDiff]),f3,f8,u,m,rfl,fin⟩ (by simp only;omega)
    | some x=>
      obtain ⟨j,v⟩:=x
      rw [hc] at g d
      simp only [Nu] at g d
      have r:=(Njb (v':=e.time) hc).2.2
      rw [Nat.sub_zero] at r
      rw [<-d] at f
      cases hq:VE e kr with
      | none=>rw [hq] at f;cases f
      | some z=>
      rw [hq] at f
      have bg:v=z.time:=by simpa using f
      have hz:=an z (st.sub z (Nel hq).1)
      have bs:=an e ak
      have bf:vI v=Vi z.time:=by rw [bg];rfl
      rw [bf] at g
      have wd:IntKind.i64.wrap (e.time-z.time)=e.time-z.time:=NU (by omega) (by omega)
      by_cases hd:e.time-z.time<=10
      ·have htw:Yn e kr=true:=Ym.mpr ⟨z,hq,hd⟩
       simp only [n56,r56,f2,f3,f8,u,m,w,NV,q,n,C,B,A,OA,QT,Rq,Rp,Ro,QZ,QY,QS,NI,NG,ag,Z,hk,g,wd,N5 hd,ax,SB,seval,NC,NJ,NF,NP,reduceCtorEq,NB,place,NA,ND]
       exact aa (i+1,kr,e::tr,es,kp,Sa (F.length+3),kc,loose 7) _ _ ⟨by simp only;omega,by rw [<-l,SF,htw];rfl,by simp only;omega,by simp only [Nl];omega,f2,(by simp only [Nl,FB,Nat.reduceEqDiff]),f8,u,m,rfl,bn⟩ (by simp only;omega)
      ·have htw:Yn e kr=false:=by unfold Yn;rw [hq];exact N7 hd
       obtain ⟨G1,e1,R1,G',e2,fin⟩:=N ((Tm kS vI es).set j (.agg #[Vi e.item,Vi e.place,.int .u8 e.kind],Vi e.time)) (by rw [<-r];simp only [Tm,List.map_set];rfl)
       simp only [n56,r56,f2,f3,f8,u,m,w,NV,q,n,C,B,A,OA,QT,Rq,Rp,Ro,QZ,QY,QS,NI,NG,ag,Z,hk,g,wd,Ns hd,e1,R1,e2,SB,seval,NC,NJ,NF,NP,reduceCtorEq,NB,place,NA,ND]
       exact aa (i+1,e::kr,tr,Wv (R7 e) e.time es,Sa (G1.length+3),tp,loose 7,tc) _ _ ⟨by simp only;omega,by rw [<-l,SF,htw];rfl,by simp only [Nl];omega,by simp only;omega,(by simp only [Nl,FB,Nat.reduceEqDiff]),f3,f8,u,m,rfl,fin⟩ (by simp only;omega)
   ·obtain rfl:i=S.length:=by omega
    rw [<-aj,Qk] at l
    have ab:kr.reverse=(OM S).1:=Qn Prod.fst l
    have ae:tr.reverse=(OM S).2:=Qn Prod.snd l
    have ko:=st.ko
    have to:=st.to
    have lk:kr.length=(OM S).1.length:=by rw [<-ab,List.length_reverse]
    have lt:tr.length=(OM S).2.length:=by rw [<-ae,List.length_reverse]
    rw [ab] at ko
    rw [ae] at to
    rw [lk] at f2
    rw [lt] at f3
    simp only [n56,r56,f2,f3,m,w,NV,q,SB,seval,NC,NJ,NF,NP,reduceCtorEq,NB,place,NA,ND]
    refine hQ F kp kc tp tc (ko.le (by omega)) (to.le (by omega)) st.ne ⟨by have:=st.len;omega,fun j I _=>st.old j I⟩ (fun h=>st.kn (List.reverse_eq_nil_iff.1 (ab.trans h))) (fun h=>st.tn (List.reverse_eq_nil_iff.1 (ae.trans h)))
theorem MF [OB] {mp:Bool} {lim c:Nat} {p:Option Addr} {S:List Ev} {H:NE} {Q:Value->NE->Prop} (hs:Sl H QJ 6 p S) (hn:S.length<2 ^ 63) :
  NL Ef mp lim 55 [.slice p S.length c] H Q=Q (.bool (decide (QN S))) H:=NL.eqF (by rw [Nsn hs hn];exact ⟨rfl,rfl⟩)
theorem Order_ok [OB] (a:∀as H,OB.eff 36 as H=none) {lim c:Nat} {p:Option Addr} {S:List Ev} {H:NE} {Q:Value->NE->Prop} (hs:Sl H QJ 6 p S) (hS:QN S) (hl:lim<=H.length)
  (e:∀G kp kc,Own H.length G encE 7 kp kc (OM S).1->Chg [] H G->((OM S).1=[]->kp=none)->Q (.tuple #[.slice kp (OM S).1.length kc,Vi 0]) (G++[])) :
  NL Ef false lim 36 [.slice p S.length c] H Q:=by
 refine Nq2 (by decide) a e36 rfl ?_
 rw [b36,c36]
 have hr:=fun (X:NE) (mp:Bool) (lim:Nat) (Q:Value->NE->Prop)=>MF (mp:=mp) (lim:=lim) (Q:=Q) (c:=c) (hs.app X) (by have:=hS.1;omega)
 simp only [n36,r36,hr,Nq hS,SB,seval,NC,NJ,NF,NP,reduceCtorEq,NB,place,NA,ND]
 rw [Nb]
 refine Ncz hs hS hl fun G kp kc tp tc h1 h2 f b d g=>?_
 simp only [n36,r36,SB,seval,NC,NJ,NF,NP,reduceCtorEq,NB,place,NA,ND]
 exact e G kp kc h1 b d
theorem Order_no [OB] (a:∀as H,OB.eff 36 as H=none) {lim c:Nat} {p:Option Addr} {S:List Ev} {H:NE} {Q:Value->NE->Prop} (hs:Sl H QJ 6 p S) (hn:S.length<2 ^ 63) (hS:¬QN S) :
  NL Ef false lim 36 [.slice p S.length c] H Q=Q (.tuple #[Vz,Vi 2]) H:=by
 refine NL.eq ?_
 refine Nq2 (by decide) a e36 rfl ?_
 rw [b36,c36]
 have hr:=fun (X:NE) (mp:Bool) (lim:Nat) (Q:Value->NE->Prop)=>MF (mp:=mp) (lim:=lim) (Q:=Q) (c:=c) (hs.app X) hn
 simp only [n36,r36,hr,N7 hS,SB,seval,NC,NJ,NF,NP,reduceCtorEq,NB,place,NA,ND]
 exact Nb H
theorem Doubled_ok [OB] (a:∀as H,OB.eff 27 as H=none) {lim c:Nat} {p:Option Addr} {S:List Ev} {H:NE} {Q:Value->NE->Prop} (hs:Sl H QJ 6 p S) (hS:QN S) (hl:lim<=H.length)
  (e:∀G tp tc,Own H.length G encE 7 tp tc (OM S).2->Chg [] H G->((OM S).2=[]->tp=none)->Q (.tuple #[.slice tp (OM S).2.length tc,Vi 0]) (G++[])) :
  NL Ef false lim 27 [.slice p S.length c] H Q:=by
 refine Nq2 (by decide) a e27 rfl ?_
 rw [b27,c27]
 have hr:=fun (X:NE) (mp:Bool) (lim:Nat) (Q:Value->NE->Prop)=>MF (mp:=mp) (lim:=lim) (Q:=Q) (c:=c) (hs.app X) (by have:=hS.1;omega)
 simp only [n27,r27,hr,Nq hS,SB,seval,NC,NJ,NF,NP,reduceCtorEq,NB,place,NA,ND]
 rw [Nb]
 refine Ncz hs hS hl fun G kp kc tp tc h1 h2 f b g d=>?_
 simp only [n27,r27,SB,seval,NC,NJ,NF,NP,reduceCtorEq,NB,place,NA,ND]
 exact e G tp tc h2 b d
theorem Doubled_no [OB] (a:∀as H,OB.eff 27 as H=none) {lim c:Nat} {p:Option Addr} {S:List Ev} {H:NE} {Q:Value->NE->Prop} (hs:Sl H QJ 6 p S) (hn:S.length<2 ^ 63) (hS:¬QN S) :
  NL Ef false lim 27 [.slice p S.length c] H Q=Q (.tuple #[Vz,Vi 2]) H:=by
 refine NL.eq ?_
 refine Nq2 (by decide) a e27 rfl ?_
 rw [b27,c27]
 have hr:=fun (X:NE) (mp:Bool) (lim:Nat) (Q:Value->NE->Prop)=>MF (mp:=mp) (lim:=lim) (Q:=Q) (c:=c) (hs.app X) hn
 simp only [n27,r27,hr,N7 hS,SB,seval,NC,NJ,NF,NP,reduceCtorEq,NB,place,NA,ND]
 exact Nb H
end Go.Proofs.YtkppjkkkdpcgiaaGreat.Fn


namespace Go.Proofs.YtkppjkkkdpcgiaaGreat.Fn
open Go.AM Go.AM.Sym Go.Net Go.Scan
def Uo (a:An):List Value:=[.int .u8 a.kind,Vi a.ev,Vi a.other,Vi a.place,Vi a.mins]
theorem RQ (a:An):(Uo a).length=5:=id rfl
def Nac (b:Bool):List Value:=[.bool b]
theorem Zr (b:Bool):(Nac b).length=1:=id rfl
theorem N0m {x:Stp}:(enc3 x)[0]? = some (Vi x.1):=id rfl
theorem Npy {x:Stp}:(enc3 x)[1]? = some (Vi x.2.1):=id rfl
theorem N7c {x:Stp}:(enc3 x)[2]? = some (Vi x.2.2):=id rfl
def UE (pe:Option Addr) (n ce:Nat) (q:Option Addr) (nk cq:Nat) (r:Option Addr) (ns cr:Nat) (c:Int) (pl:Option Addr) (nl cl:Nat):List Value:=[.slice pe n ce,.slice q nk cq,.slice r ns cr,Vi c,.slice pl nl cl]
section
variable {pe q r pl:Option Addr} {n ce nk cq ns cr nl cl:Nat} {c:Int}
theorem QW:(UE pe n ce q nk cq r ns cr c pl nl cl).length=5:=id rfl
theorem Uu:(UE pe n ce q nk cq r ns cr c pl nl cl)[0]? = some (.slice pe n ce):=id rfl
theorem UM:(UE pe n ce q nk cq r ns cr c pl nl cl)[1]? = some (.slice q nk cq):=id rfl
theorem UL:(UE pe n ce q nk cq r ns cr c pl nl cl)[2]? = some (.slice r ns cr):=id rfl
theorem UK:(UE pe n ce q nk cq r ns cr c pl nl cl)[3]? = some (Vi c):=id rfl
theorem Tv:(UE pe n ce q nk cq r ns cr c pl nl cl)[4]? = some (.slice pl nl cl):=id rfl
end
theorem N5y (n:Nat):(List.range (n*1)).map (fun j=>[Value.bool false].getD (j % 1) undef)=(List.replicate n false).flatMap Nac:=by
 have h1:∀j,[Value.bool false].getD (j % 1) undef=Value.bool false:=fun j=>by rw [Nat.mod_one];rfl
 simp only [h1]
 rw [List.map_const',Ps,O8]
 induction n with
 | zero=>rfl
 | succ n ih=>
   rw [Pe,Pe,Ox,<-ih]
   rfl
def YF (n:Nat) (ks:List Int) (i:Nat):List Bool:=(ks.take i).foldl (fun l k=>l.set k.toNat true) (List.replicate n false)
def toI (n:Nat) (ss:List Stp) (i:Nat):List Stp:=(ss.take i).foldl (fun l s=>l.set s.2.1.toNat s) (List.replicate n (0,0,0))
theorem Nbf {n:Nat} {ks:List Int} {i:Nat}:(YF n ks i).length=n:=by unfold YF;rw [Nbg,Om]
theorem Nh4 {n:Nat} {ks:List Stp} {i:Nat}:(toI n ks i).length=n:=by unfold toI;rw [Nh5,Om]
theorem Nt5 {n:Nat} {ks:List Int}:YF n ks ks.length=Xm n ks:=by unfold YF Xm;rw [Oj]
theorem N1z {n:Nat} {ks:List Stp}:toI n ks ks.length=toN n ks:=by unfold toI toN;rw [Oj]
theorem Npg {n:Nat} {ks:List Int} {i:Nat} (h:i<ks.length):YF n ks (i+1)=(YF n ks i).set (gt ks i).toNat true:=by
 unfold YF
 rw [N9 h,List.foldl_append,QH h];rfl
theorem Nw1 {n:Nat} {ks:List Stp} {i:Nat} (h:i<ks.length):toI n ks (i+1)=(toI n ks i).set (gt ks i).2.1.toNat (gt ks i):=by
 unfold toI
 rw [N9 h,List.foldl_append,QH h];rfl
theorem Nnm [OB] {lim n ce cq cr nl cl:Nat} {pe q r pl:Option Addr} {ks:List Int} {ss:List Stp} {c:Int} {H:NE} {Q:Value->NE->Prop} (U:Sl H encI 1 q ks) (hr:Sl H enc3 3 r ss) (hn:n<2 ^ 30) (T:ks.length<2 ^ 40) (V:ss.length<2 ^ 40) (hl:lim<=H.length)
  (hk:∀k∈ks,0<=k/\k<n) (hs:∀s∈ss,U9 n s)
  (S:∀G A B,Chg [] H G->H.length<=A->H.length<=B->NH G A=Vc ((Xm n ks).flatMap Nac)->NH G B=Vc ((toN n ss).flatMap enc3)->Q (.tuple #[.slice (Sa A) n n,.slice (Sa B) n n]) G) :
  NL E false lim 74 [.agg (UE pe n ce q ks.length cq r ss.length cr c pl nl cl).toArray] H Q:=by
 refine R5 (by decide) e74 rfl ?_
 rw [b74,c74]
 have z1:=N5y n
 have z3:=Nwn n
 have O:=N5 (show 0<=(n:Int)/\(n:Int)*1<=35184372088832/\(n:Int)<4611686018427387904 by omega)
 have P:=N5 (show 0<=(n:Int)/\(n:Int)*24<=35184372088832/\(n:Int)<4611686018427387904 by omega)
 simp only [n74,r74,QW,Uu,UM,UL,UK,Tv,NI,O,P,z1,z3,SB,seval,NC,NJ,NF,NP,reduceCtorEq,NB,place,NA,ND]
 refine NR (fun i=>ks.length-i) (fun i fr G=>i<=ks.length/\fr 1=Vp H.length/\fr 4=.slice (Sa (H.length+1)) n n/\fr 5=.slice (Sa (H.length+2)) n n/\fr 20=.slice q ks.length cq/\fr 21=Vi ks.length/\fr 22=Vi i/\
   Chg [] H G/\NH G H.length=Vc (UE pe n ce q ks.length cq r ss.length cr c pl nl cl)/\NH G (H.length+1)=Vc ((YF n ks i).flatMap Nac)/\NH G (H.length+2)=Vc ((toI n ss 0).flatMap enc3)) 0
  ⟨Nx _,rfl,rfl,rfl,rfl,rfl,by rfl,Chg.refl.app,by rw [NS];rfl,by rw [NW];rfl,by rw [NW];rfl⟩ ?_
 intro i fr G ⟨hi,l,o,t,y,z,J,f,N,u,hB⟩ hN
 rw [NT N49.eq_1]
 refine NK ?_
 have L:=f.len
 by_cases b:i<ks.length
 ·have M:=f.sl U (fun a _ _ h=>(by cases h))
  obtain ⟨m,hm⟩:∃m:Nat,gt ks i=m:=⟨(gt ks i).toNat,by have:=hk _ (Ru b);omega⟩
  have e:m<n:=by have:=hk _ (Ru b);omega
  have g:=Ni4 M b
  rw [hm] at g
  have d:=fun c (k:IntKind) (H1:NE)=>M.idx (c:=c) (k:=k) (H1:=H1) b
  have I:IntKind.i64.wrap ((i:Int)+1)=((i+1:Nat):Int):=OG (by omega)
  have W:Sl G Nac 1 (Sa (H.length+1)) (YF n ks i):=Sl.row Zr u
  have v:=fun c (k:IntKind) (H1:NE)=>W.idx (c:=c) (k:=k) (H1:=H1) (i:=m) (by rw [Nbf];exact e)
  rw [Nbf] at v
  obtain ⟨G2,e2,h2,j⟩:=Nay (lim:=lim) (p:=Sa (H.length+1)) Zr rfl u (by omega) (i:=m) (by rw [Nbf];exact e) true
  simp only [Nac] at e2
  have F:(YF n ks i).set m true=YF n ks (i+1):=by rw [Npg b,hm];rfl
  rw [F] at h2
  simp only [n74,r74,l,o,t,y,z,J,NV,b,d,g,v,e2,I,SB,seval,NC,NJ,NF,NP,reduceCtorEq,NB,place,NA,ND]
  exact hN (i+1) _ _ ⟨by omega,l,o,t,y,z,rfl,(f.mut j (.inr (by omega))).app,by rw [NN (by rw [j.len];exact NM N)];exact j.cells N (by omega),by rw [NN (NM h2)];exact h2,by rw [NN (by rw [j.len];exact NM hB)];exact j.cells hB (by omega)⟩ (by omega)
 obtain rfl:i=ks.length:=by omega
 rw [Nt5] at u
 have Z:=fun X=>(OI.refl.app (X:=X)).cells N
 simp only [n74,r74,l,o,t,y,z,J,NV,b,Z,QW,Uu,UM,UL,UK,Tv,NI,SB,seval,NC,NJ,NF,NP,reduceCtorEq,NB,place,NA,ND]
 refine NR (fun i=>ss.length-i) (fun i fr G=>i<=ss.length/\fr 1=Vp H.length/\fr 4=.slice (Sa (H.length+1)) n n/\fr 5=.slice (Sa (H.length+2)) n n/\fr 32=.slice r ss.length cr/\fr 33=Vi ss.length/\fr 34=Vi i/\
   Chg [] H G/\NH G (H.length+1)=Vc ((Xm n ks).flatMap Nac)/\NH G (H.length+2)=Vc ((toI n ss i).flatMap enc3)) 0
  ⟨Nx _,l,o,t,rfl,rfl,by rfl,f.app,(OI.refl.app).cells u,(OI.refl.app).cells hB⟩ ?_
 intro i fr G ⟨hi,l,o,t,C,D,K,f,u,hB⟩ hN
 rw [NT N5a.eq_1]
 refine NK ?_
 have L:=f.len
 by_cases b:i<ss.length
 ·have M:=f.sl hr (fun a _ _ h=>(by cases h))
  have R:=hs _ (Ru b)
  unfold U9 at R
  obtain ⟨m,hm⟩:∃m:Nat,(gt ss i).2.1=m:=⟨(gt ss i).2.1.toNat,by omega⟩
  have e:m<n:=by omega
  have g:=fun X=>(M.app X).loadCells OY b
  have d:=fun c (k:IntKind) (H1:NE)=>M.idx (c:=c) (k:=k) (H1:=H1) b
  have I:IntKind.i64.wrap ((i:Int)+1)=((i+1:Nat):Int):=OG (by omega)
  have Y:Sl G enc3 3 (Sa (H.length+2)) (toI n ss i):=Sl.row OY hB
  have w:=fun c (k:IntKind) (H1:NE)=>Y.idx (c:=c) (k:=k) (H1:=H1) (i:=m) (by rw [Nh4];exact e)
  rw [Nh4] at w
  obtain ⟨G2,e2,h2,j⟩:=Nay (lim:=lim) (p:=Sa (H.length+2)) OY rfl hB (by omega) (i:=m) (by rw [Nh4];exact e) (gt ss i)
  have F:(toI n ss i).set m (gt ss i)=toI n ss (i+1):=by rw [Nw1 b,hm];rfl
  rw [F] at h2
  have e1:=Npy (x:=gt ss i)
  rw [hm] at e1
  simp only [n74,r74,l,o,t,C,D,K,NV,b,d,g,w,e1,e2,I,OY,NI,NG,show lim<=G.length by omega,SB,seval,NC,NJ,NF,NP,reduceCtorEq,NB,place,NA,ND]
  exact hN (i+1) _ _ ⟨by omega,l,o,t,C,D,rfl,(f.mut j (.inr (by omega))).app,by rw [NN (by rw [j.len];exact NM u)];exact j.cells u (by omega),by rw [NN (NM h2)];exact h2⟩ (by omega)
 obtain rfl:i=ss.length:=by omega
 rw [N1z] at hB
 simp only [n74,r74,l,o,t,C,D,K,NV,b,SB,seval,NC,NJ,NF,NP,reduceCtorEq,NB,place,NA,ND]
 exact S _ _ _ f.app (by omega) (by omega) ((OI.refl.app).cells u) ((OI.refl.app).cells hB)
def atE (es:List Ev) (d:Ev) (i:Nat):Prop:=Nen (gt es i) (V6 (gt es i) (es.drop (i+1))) d
instance (es:List Ev) (d:Ev) (i:Nat):Decidable (atE es d i):=by unfold atE;infer_instance
theorem Npm {ks:List Int} (h:ks≠[]):ks.getLast? = some (gt ks (ks.length-1)):=by
 have hl:0<ks.length:=List.length_pos_iff.2 h
 rw [List.getLast?_eq_getElem?,Nf (by omega),QH (by omega)]
def Vm (es:List Ev):Prop:=∀e∈es,0<=e.time/\e.time<=OC
theorem N25 [OB] {lim ce cq cr nl cl:Nat} {pe q r pl:Option Addr} {es:List Ev} {ks:List Int} {ns:Nat} {c now:Int} {H:NE} {Q:Value->NE->Prop} (he:Sl H encE 7 pe es) (y:Sl H encI 1 q ks) (hn:es.length<2 ^ 30) (A:ks.length<2 ^ 40) (hl:lim<=H.length) (hk:∀k∈ks,0<=k/\k<es.length) (C:Vm es) (u:0<=now/\now<=OC)
  (d:∀G p z,Chg [] H G->Sl G Uo 5 p (Xl es ks now)->Q (.slice p (Xl es ks now).length z) G) :
  NL E false lim 77 [.agg (UE pe es.length ce q ks.length cq r ns cr c pl nl cl).toArray,Vi now] H Q:=by
 refine R5 (by decide) e77 rfl ?_
 rw [b77,c77]
 by_cases w:ks=[]
 ·subst w
  simp only [n77,r77,QW,Uu,UM,UL,UK,Tv,NI,Nr,SB,seval,NC,NJ,NF,NP,reduceCtorEq,NB,place,NA,ND]
  exact d _ none 0 Chg.refl.app rfl
 have B:0<ks.length:=List.length_pos_iff.2 w
 obtain ⟨m,hm⟩:∃m:Nat,gt ks (ks.length-1)=m:=⟨(gt ks (ks.length-1)).toNat,by have:=hk _ (Ru (show ks.length-1<ks.length by omega));omega⟩
 have g:m<es.length:=by have:=hk _ (Ru (show ks.length-1<ks.length by omega));omega
 have t:=Npm w
 rw [hm] at t
 have j:¬((ks.length:Nat):Int)=0:=by omega
 have l:IntKind.i64.wrap ((ks.length:Int)-1)=((ks.length-1:Nat):Int):=by rw [NU (by omega) (by omega)];omega
 have b:=fun X=>Ni4 y (i:=ks.length-1) (by omega) X
 rw [hm] at b
 have a:=fun c (k:IntKind) (H1:NE)=>y.idx (c:=c) (k:=k) (H1:=H1) (i:=ks.length-1) (by omega)
 have f:=fun X=>(he.app X).loadCells OA g
 have e:=fun c (k:IntKind) (H1:NE)=>he.idx (c:=c) (k:=k) (H1:=H1) g
 have x:=C _ (Ru g)
 unfold OC at x u
 have n:IntKind.i64.wrap (now-(gt es m).time)=now-(gt es m).time:=NU (by omega) (by omega)
 have D:((m:Nat):Int).toNat=m:=Ob m
 have o:Xl es ks now=if (gt es m).kind=4\/now-(gt es m).time<=20160 then [] else [⟨7,(m:Int),0,(gt es m).place,now-(gt es m).time⟩]:=by unfold Xl;rw [t];rfl
 by_cases s:(gt es m).kind=4
 ·rw [Ni (.inl s)] at o
  rw [o] at d
  simp only [n77,r77,QW,Uu,UM,UL,UK,Tv,OA,QT,Rq,Rp,Ro,QZ,QY,QS,NI,Ns j,l,b,a,f,e,NG,hl,n,N5 s,SB,seval,NC,NJ,NF,NP,reduceCtorEq,NB,place,NA,ND]
  exact d _ none 0 Chg.refl.app rfl
 by_cases v:now-(gt es m).time<=20160
 ·rw [Ni (.inr v)] at o
  rw [o] at d
  simp only [n77,r77,QW,Uu,UM,UL,UK,Tv,OA,QT,Rq,Rp,Ro,QZ,QY,QS,NI,Ns j,l,b,a,f,e,NG,hl,n,Ns s,N5 v,SB,seval,NC,NJ,NF,NP,reduceCtorEq,NB,place,NA,ND]
  exact d _ none 0 Chg.refl.app rfl
 rw [Nh (by rintro (h | h);exact s h;exact v h)] at o
 rw [o] at d
 simp only [n77,r77,QW,Uu,UM,UL,UK,Tv,OA,QT,Rq,Rp,Ro,QZ,QY,QS,NI,Ns j,l,b,a,f,e,NG,hl,n,Ns s,Ns v,SB,seval,NC,NJ,NF,NP,reduceCtorEq,NB,place,NA,ND]
 exact d _ _ _ Chg.refl.app (Sl.row (ro:=false) RQ (by rw [NW];rfl))
theorem Nm3 [OB] {mp:Bool} {lim B:Nat} {x y:Ev} {o:Bool} {H:NE} {Q:Value->NE->Prop} (hB:NH H B=.cells o (encE x)) :
  NL E mp lim 110 [.agg (encE y).toArray,Vp B] H Q=Q (.bool (decide (ZC y x))) H:=by
 refine pc (by decide) Odk rfl rfl ?_
 rw [Oeq,N75]
 have a:=fun X=>(OI.refl.app (X:=X)).cells hB
 by_cases h1:y.place=x.place
 ·by_cases h2:y.kind=x.kind
  ·simp only [n110,N6a,a,OA,QT,Rq,Rp,Ro,QZ,QY,QS,NI,NG,N5 h1,N5 h2,N5 (show ZC y x from ⟨h1,h2⟩),SB,seval,NC,NJ,NF,NP,reduceCtorEq,NB,place,NA,ND]
  ·simp only [n110,N6a,a,OA,QT,Rq,Rp,Ro,QZ,QY,QS,NI,NG,N5 h1,Ns h2,Ns (fun h:ZC y x=>h2 h.2),SB,seval,NC,NJ,NF,NP,reduceCtorEq,NB,place,NA,ND]
 ·simp only [n110,N6a,a,OA,QT,Rq,Rp,Ro,QZ,QY,QS,NI,NG,Ns h1,Ns (fun h:ZC y x=>h1 h.1),SB,seval,NC,NJ,NF,NP,reduceCtorEq,NB,place,NA,ND]
def N1s:ACode:=Sb (Sb (Sb (Sb (Sb c76))))
theorem N34:c76=.seq (TC c76) (.seq (TC (Sb c76)) (.seq (TC (Sb (Sb c76))) (.seq (TC (Sb (Sb (Sb c76)))) (.seq (TC (Sb (Sb (Sb (Sb c76))))) N1s)))):=rfl
def Nbp (x:Ev) (i:Nat) (lv:Int) (tw:List Ev):List An:=(tw.filter fun y=>Nen x lv y).map (Nux x i)
theorem Nuw {x:Ev} {i j:Nat} {lv:Int} {tw:List Ev} (h:j<tw.length):Nbp x i lv (tw.take (j+1))=if Nen x lv (gt tw j) then Nbp x i lv (tw.take j)++[Nux x i (gt tw j)] else Nbp x i lv (tw.take j):=by
 unfold Nbp
 rw [N9 h,List.filter_append,<-QH h]
 by_cases a:Nen x lv (gt tw j)
 ·rw [Ni a,List.filter_cons_of_pos (by simpa using a),List.filter_nil,Pc];rfl
 ·rw [Nh a,Q8 (by simpa using a),List.filter_nil,Nb]
theorem N0q {x:Ev} {i:Nat} {lv:Int} {tw:List Ev}:(Nbp x i lv tw).length<=tw.length:=by
 unfold Nbp;rw [Nv];exact Qv ..
theorem Nrs [OB] {lim B ct i:Nat} {pt:Option Addr} {x:Ev} {tw:List Ev} {lv:Int} {H G:NE} {fr:Nat->Value} {Q:Value->NE->Prop} (hB:NH G B=Vc (encE x)) (htw:Sl H encE 7 pt tw) (u:Chg [] H G) (V:H.length<=B) (hn:tw.length<2 ^ 30) (hl:lim<=H.length) (ht:Vm tw) (hx:0<=x.time/\x.time<=OC)
  (f1:fr 1=.slice pt tw.length ct) (f2:fr 2=Vi i) (f7:fr 7=Vp B) (f8:fr 8=.func (.func 110) #[] #[Vp B]) (f9:fr 9=Vi lv)
  (W:∀G p F,Chg [] H G->Sl G Uo 5 p (Nbp x i lv tw)->Q (.slice p (Nbp x i lv tw).length F) G) :
  PQ E a76 lim [.code N1s] fr G Q:=by
 unfold N1s
 refine NK ?_
 simp only [TC,Sb,c76,n76,r76,f1,f2,f7,f8,f9,SB,seval,NC,NJ,NF,NP,reduceCtorEq,NB,place,NA,ND]
 refine NR (fun j:Nat×Option Addr×Nat=>tw.length-j.1) (fun j fr G=>j.1<=tw.length/\fr 2=Vi i/\fr 7=Vp B/\fr 8=.func (.func 110) #[] #[Vp B]/\fr 9=Vi lv/\fr 12=.slice j.2.1 (Nbp x i lv (tw.take j.1)).length j.2.2/\fr 37=.slice pt tw.length ct/\fr 38=Vi tw.length/\fr 39=Vi j.1/\
   Chg [] H G/\NH G B=Vc (encE x)/\Own (B+1) G Uo 5 j.2.1 j.2.2 (Nbp x i lv (tw.take j.1))) (0,none,0)
  ⟨Nx _,f2,f7,f8,f9,rfl,rfl,rfl,by rfl,u.app,(OI.refl.app).cells hB,.nil⟩ ?_
 rintro ⟨j,p,F⟩ fr G ⟨Z,q,r,s,t,b,d,e,m,u,hB,o⟩ hN
 simp only at Z b m o hN
 rw [NT N48.eq_1]
 refine NK ?_
 have S:=u.len
 by_cases f:j<tw.length
 case neg=>
  obtain rfl:j=tw.length:=by omega
  rw [Oj] at b o
  simp only [n76,r76,q,r,s,t,b,d,e,m,NV,f,SB,seval,NC,NJ,NF,NP,reduceCtorEq,NB,place,NA,ND]
  exact W _ _ _ u.app ((o.sl RQ).app _)
 have U:=u.sl htw (fun a _ _ h=>(by cases h))
 have z:=fun X=>(U.app X).loadCells OA f
 have l:=fun c (k:IntKind) (H1:NE)=>U.idx (c:=c) (k:=k) (H1:=H1) f
 have A:IntKind.i64.wrap ((j:Int)+1)=((j+1:Nat):Int):=OG (by omega)
 have w:lim<=G.length:=by omega
 have N:=NM hB
 have g:=Nuw (x:=x) (i:=i) (lv:=lv) f
 have R:(Nbp x i lv (tw.take j)).length<=tw.length:=O9 N0q (by rw [Ok];omega)
 have O:=ht _ (Ru f)
 generalize gt tw j=y at *
 have n:=fun X=>(OI.refl.app (X:=X)).cells hB
 have v:=fun X (mp:Bool) (lim:Nat) (Q:Value->NE->Prop)=>Nm3 (mp:=mp) (lim:=lim) (x:=x) (y:=y) (Q:=Q) (n X)
 by_cases D:ZC y x
 case neg=>
  rw [Nh (fun h=>D h.1)] at g
  rw [<-g] at b o
  simp only [n76,r76,q,r,s,t,b,d,e,m,NV,f,z,l,A,w,v,n,OA,QT,Rq,Rp,Ro,QZ,QY,QS,NI,NG,ge_iff_le,N7 D,SB,seval,NC,NJ,NF,NP,reduceCtorEq,NB,place,NA,ND]
  exact hN (j+1,p,F) _ _ ⟨by omega,q,r,s,t,b,d,e,rfl,u.app,(OI.refl.app).cells hB,o.app _⟩ (by simp only;omega)
 by_cases I:x.time<=y.time
 case neg=>
  rw [Nh (fun h=>I h.2.1)] at g
  rw [<-g] at b o
  simp only [n76,r76,q,r,s,t,b,d,e,m,NV,f,z,l,A,w,v,n,OA,QT,Rq,Rp,Ro,QZ,QY,QS,NI,NG,ge_iff_le,Nq D,Ns I,SB,seval,NC,NJ,NF,NP,reduceCtorEq,NB,place,NA,ND]
  exact hN (j+1,p,F) _ _ ⟨by omega,q,r,s,t,b,d,e,rfl,u.app,(OI.refl.app).cells hB,o.app _⟩ (by simp only;omega)
 by_cases L:y.time<lv
 case neg=>
  rw [Nh (fun h=>L h.2.2)] at g
  rw [<-g] at b o
  simp only [n76,r76,q,r,s,t,b,d,e,m,NV,f,z,l,A,w,v,n,OA,QT,Rq,Rp,Ro,QZ,QY,QS,NI,NG,ge_iff_le,Nq D,N5 I,Ns L,SB,seval,NC,NJ,NF,NP,reduceCtorEq,NB,place,NA,ND]
  exact hN (j+1,p,F) _ _ ⟨by omega,q,r,s,t,b,d,e,rfl,u.app,(OI.refl.app).cells hB,o.app _⟩ (by simp only;omega)
 rw [Ni ⟨D,I,L⟩] at g
 unfold OC at hx O
 have P:IntKind.i64.wrap (y.time-x.time)=y.time-x.time:=NU (by omega) (by omega)
 obtain ⟨G2,e2,K,J,C,T,_⟩:=o.step (lim':=lim) (bytes:=40) (by omega) RQ (by decide) (Nux x i y) (by unfold PS;omega) (by omega) (by omega) [Vc (encE y),Vc (Uo (Nux x i y))] (G.length+1) 1 (by rw [NW];rfl)
 have M:Uo (Nux x i y)=[.int .u8 6,Vi i,Vi 0,Vi x.place,Vi (y.time-x.time)]:=rfl
 rw [M] at e2
 simp only [n76,r76,q,r,s,t,b,d,e,m,NV,f,z,l,A,w,v,n,OA,QT,Rq,Rp,Ro,QZ,QY,QS,NI,NG,ge_iff_le,Nq D,N5 I,N5 L,P,e2,SB,seval,NC,NJ,NF,NP,reduceCtorEq,NB,place,NA,ND]
 exact hN (j+1,Sa (G.length+2),loose 5) _ _ ⟨by omega,q,r,s,t,by rw [g,Nm];rfl,d,e,rfl,J [] H (by omega) u,by rw [C B N (fun a Y=>by have:=(o.block Y).1;omega)];exact hB,by rw [g];exact K⟩ (by simp only;omega)
theorem Np1 [OB] {lim ce cq cr nl cl ct nk ns i:Nat} {pe q r pl pt:Option Addr} {es tw:List Ev} {c:Int} {H:NE} {Q:Value->NE->Prop} (he:Sl H encE 7 pe es) (hce:UC 7 ce es.length) (htw:Sl H encE 7 pt tw) (hi:i<es.length) (hn:es.length<2 ^ 30) (F:tw.length<2 ^ 30) (hl:lim<=H.length) (Y:Vm es) (I:Vm tw)
  (A:∀G p U,Chg [] H G->Sl G Uo 5 p (R9 es tw i)->Q (.slice p (R9 es tw i).length U) G) :
  NL E false lim 76 [.agg (UE pe es.length ce q nk cq r ns cr c pl nl cl).toArray,.slice pt tw.length ct,Vi i] H Q:=by
 refine R5 (by decide) e76 rfl ?_
 rw [b76,N34]
 have m:=fun X=>(he.app X).loadCells OA hi
 have e:=fun c (k:IntKind) (H1:NE)=>he.idx (c:=c) (k:=k) (H1:=H1) hi
 have n:IntKind.i64.wrap ((i:Int)+1)=((i+1:Nat):Int):=OG (by omega)
 obtain ⟨q1,k1,Z,P,_,_,_⟩:=Uf (vlo:=some (Vi ((i+1:Nat):Int))) (vhi:=none) (lo:=i+1) (hi:=es.length) he hce OA (fun cap R=>by rw [Njk (by omega) (by omega),Ob]) (by omega) (Nd _) (by omega)
 rw [Oj] at P
 simp only [TC,Sb,c76,n76,r76,QW,Uu,UM,UL,UK,Tv,NI,m,e,n,NG,hl,OA,Z,SB,seval,NC,NJ,NF,NP,reduceCtorEq,NB,place,NA,ND]
 obtain ⟨D,M⟩:∃D,D=es.drop (i+1):=⟨_,rfl⟩
 have N:es.length-(i+1)=D.length:=by rw [M,Pi]
 rw [<-M] at P
 rw [N]
 have V:R9 es tw i=Nbp (gt es i) i (V6 (gt es i) D) tw:=by unfold R9 Nbp;rw [M]
 rw [V] at A
 have J:=Y _ (Ru hi)
 generalize gt es i=x at *
 have W:D.length<2 ^ 30:=by omega
 refine NR (fun j:Nat=>D.length-j) (fun j fr G=>j<=D.length/\fr 1=.slice pt tw.length ct/\fr 2=Vi i/\fr 7=Vp (H.length+1)/\fr 8=.func (.func 110) #[] #[Vp (H.length+1)]/\fr 9=Vi (OC+1)/\fr 25=.slice q1 D.length k1/\fr 26=Vi D.length/\fr 27=Vi j/\
   Chg [] H G/\NH G (H.length+1)=Vc (encE x)/\V6 x D=V6 x (D.drop j)) 0
  ⟨Nx _,rfl,rfl,rfl,rfl,rfl,rfl,rfl,by rfl,Chg.refl.app,by rw [NW];rfl,rfl⟩ ?_
 intro j fr G ⟨hj,s,t,u,v,w,g,l,o,z,hB,b⟩ hN
 rw [NT N47.eq_1]
 refine NK ?_
 have S:=z.len
 by_cases d:j<D.length
 case neg=>
  obtain rfl:j=D.length:=by omega
  rw [Qk] at b
  have f:V6 x D=OC+1:=b
  rw [f] at A
  simp only [n76,r76,s,t,u,v,w,g,l,o,NV,d,SB,seval,NC,NJ,NF,NP,reduceCtorEq,NB,place,NA,ND]
  exact Nrs (lv:=OC+1) ((OI.refl.app).cells hB) htw z.app (by omega) F hl I J s t u v w A
 have T:=z.sl P (fun a _ _ h=>(by cases h))
 have m:=fun X=>(T.app X).loadCells OA d
 have e:=fun c (k:IntKind) (H1:NE)=>T.idx (c:=c) (k:=k) (H1:=H1) d
 have n:IntKind.i64.wrap ((j:Int)+1)=((j+1:Nat):Int):=OG (by omega)
 have C:lim<=G.length:=by omega
 have O:D.drop j=gt D j::D.drop (j+1):=by rw [Ov d,QH d]
 rw [O] at b
 generalize gt D j=y at *
 have L:=fun X=>(OI.refl.app (X:=X)).cells hB
 have B:=fun X (mp:Bool) (lim:Nat) (Q:Value->NE->Prop)=>Nm3 (mp:=mp) (lim:=lim) (x:=x) (y:=y) (Q:=Q) (L X)
 by_cases K:ZC y x
 ·have f:V6 x D=y.time:=b.trans (by unfold V6;rw [Ni K])
  rw [f] at A
  simp only [n76,r76,s,t,u,v,w,g,l,o,NV,d,m,e,n,C,B,OA,QT,Rq,Rp,Ro,QZ,QY,QS,NI,NG,Nq K,SB,seval,NC,NJ,NF,NP,reduceCtorEq,NB,place,NA,ND]
  exact Nrs (lv:=y.time) ((OI.refl.app).cells hB) htw z.app (by omega) F hl I J s t u v rfl A
 ·have f:V6 x D=V6 x (D.drop (j+1)):=b.trans (by conv=>lhs;unfold V6;rw [Nh K])
  simp only [n76,r76,s,t,u,v,w,g,l,o,NV,d,m,e,n,C,B,OA,QT,Rq,Rp,Ro,QZ,QY,QS,NI,NG,N7 K,SB,seval,NC,NJ,NF,NP,reduceCtorEq,NB,place,NA,ND]
  exact hN (j+1) _ _ ⟨by omega,s,t,u,v,w,g,l,rfl,z.app,(OI.refl.app).cells hB,f⟩ (by omega)
theorem Nz3 {L:List Leg} (c:L.Pairwise (fun a b=>a.id≠b.id)) {l:Leg} (hl:l∈L):L.find? (fun x=>x.id=l.id)=some l:=by
 cases h:L.find? (fun x=>x.id=l.id) with
 | none=>exact absurd (List.find?_eq_none.1 h l hl) (by simp)
 | some y=>
   have h1:=List.find?_some h
   have h2:=Rn h
   rw [Nl5 c y h2 l hl (by simpa using h1)]
theorem N3l {α β:Type} [Inhabited α] [Inhabited β] {f:α->β} {l:List α} {i:Nat} (h:i<l.length):gt (l.map f) i=f (gt l i):=by
 rw [QH (by simpa using h),QH h,P8]
theorem Ntt [OB] {lim ce cq cr nl cl cp cL nk ns:Nat} {pe q r pl pp pL:Option Addr} {P:List Int} {L:List Leg} {es:List Ev} {s:Stp} {c:Int} {H:NE} {Q:Value->NE->Prop} (hN:NetIn H pp pL P L) (he:Sl H encE 7 pe es) (hs:U9 es.length s) (hn:es.length<2 ^ 30) (hl:lim<=H.length)
  (i:∀G p c',Chg [] H G->Sl G Uo 5 p (TT P L es s)->Q (.slice p (TT P L es s).length c') G) :
  NL E false lim 109 [.agg (UE pe es.length ce q nk cq r ns cr c pl nl cl).toArray,.agg (SC pp P.length cp pL L.length cL).toArray,.agg (enc3 s).toArray] H Q:=by
 refine R5 (by decide) Odl rfl ?_
 rw [Oer,c109]
 unfold U9 at hs
 obtain ⟨m,hm⟩:∃m:Nat,s.1=m:=⟨s.1.toNat,by omega⟩
 obtain ⟨k,hk⟩:∃k:Nat,s.2.1=k:=⟨s.2.1.toNat,by omega⟩
 have V:m<es.length:=by omega
 have R:k<es.length:=by omega
 have e0:=N0m (x:=s)
 have e1:=Npy (x:=s)
 rw [hm] at e0
 rw [hk] at e1
 have ao:=fun X=>(he.app X).loadCells OA V
 have ap:=fun X=>(he.app X).loadCells OA R
 have am:=fun c (k:IntKind) (H1:NE)=>he.idx (c:=c) (k:=k) (H1:=H1) V
 have an:=fun c (k:IntKind) (H1:NE)=>he.idx (c:=c) (k:=k) (H1:=H1) R
 have d:TT P L es s=(M3 P L (gt es m).place (gt es k).place (gt es m).time).dropLast.map (Y6 s):=by unfold TT;rw [hm,hk,Ob,Ob]
 simp only [n109,Nn4,QW,Uu,UM,UL,UK,Tv,OA,QT,Rq,Rp,Ro,QZ,QY,QS,OY,e0,e1,NI,ao,ap,am,an,NG,hl,OQ,SB,seval,NC,NJ,NF,NP,reduceCtorEq,NB,place,NA,ND]
 generalize gt es m=a at *
 generalize gt es k=b at *
 refine N8k (hN.app _) (by simp;omega) (fun G he e=>?_) (fun G he hA e=>?_) (fun G v w pw cw he e hv hA hB av n=>?_)
 ·rw [Nwp he] at d
  rw [d] at i
  refine NK ?_
  simp only [n109,Nn4,Ns he,SB,seval,NC,NJ,NF,NP,reduceCtorEq,NB,place,NA,ND]
  exact i _ none 0 e.pre.app rfl
 ·rw [Nr3 hA] at d
  rw [d] at i
  refine NK ?_
  simp only [n109,Nn4,SB,seval,NC,NJ,NF,NP,reduceCtorEq,NB,place,NA,ND]
  exact i _ none 0 e.pre.app rfl
 have Z:M3 P L a.place b.place a.time=w:=Ndf ⟨he,v,hv,hA,hB⟩
 rw [Z] at d
 by_cases h0:w=[]
 ·subst h0
  rw [d] at i
  refine NK ?_
  simp only [n109,Nn4,Nr,SB,seval,NC,NJ,NF,NP,reduceCtorEq,NB,place,NA,ND]
  exact i _ none 0 e.pre.app rfl
 have au:0<w.length:=List.length_pos_iff.2 h0
 have ai:¬((w.length:Nat):Int)=0:=by omega
 have Y:IntKind.i64.wrap ((w.length:Int)-1)=((w.length-1:Nat):Int):=by rw [NU (by omega) (by omega)];omega
 have g:=n.capOk
 have W:=n.sl OY
 obtain ⟨q1,k1,x1,s1,_,_,_⟩:=Uf (vlo:=none) (vhi:=some (Vi ((w.length-1:Nat):Int))) (lo:=0) (hi:=w.length-1) W g OY (fun cap g=>by rw [Mq (by omega) (by rw [Nv] at g;omega),Ob]) (Nx _) (by rw [Nv];omega) (by rw [Nv];omega)
 obtain ⟨D,hD⟩:∃D,D=w.dropLast:=⟨_,rfl⟩
 have K:D.length=w.length-1:=by rw [hD,List.length_dropLast]
 rw [Oy,<-List.map_take,<-List.dropLast_eq_take,<-hD] at s1
 rw [Nv,Nat.sub_zero,<-K] at x1
 rw [<-hD] at d
 rw [d] at i
 rw [Nv] at i
 rw [<-K] at Y
 have U:∀x∈D,x.1∈L:=fun x hx=>hB.way.mem x (by rw [hD] at hx;exact List.dropLast_subset _ hx)
 have ae:=Nek (Vn (Mm he).1).2.2.2
 refine NK ?_
 simp only [n109,Nn4,Ns ai,Y,x1,SB,seval,NC,NJ,NF,NP,reduceCtorEq,NB,place,NA,ND]
 have S:=e.len
 simp at S
 have l:=e.cells (NW (X:=[_,Vc (SC pp P.length cp pL L.length cL),Vc (enc3 s),_,_]) (j:=1)) (by simp)
 have o:=e.cells (NW (X:=[_,Vc (SC pp P.length cp pL L.length cL),Vc (enc3 s),_,_]) (j:=2)) (by simp)
 have N:=(hN.app [Vc (UE pe es.length ce q nk cq r ns cr c pl nl cl),Vc (SC pp P.length cp pL L.length cL),Vc (enc3 s),Vc (encE a),Vc (encE b)]).sim fun b ro c h=>e.cells h (by simp)
 obtain ⟨F,ac⟩:∃F,F=G:=⟨_,rfl⟩
 have J:=e.pre
 rw [<-ac] at l o N s1 J S⊢
 clear e n W
 refine NR (fun j:Nat×Option Addr×Nat=>D.length-j.1) (fun j fr G=>j.1<=D.length/\fr 4=Vp (H.length+1)/\fr 5=Vp (H.length+2)/\fr 11=.slice j.2.1 j.1 j.2.2/\fr 52=.slice q1 D.length k1/\fr 53=Vi D.length/\fr 54=Vi j.1/\
   Chg [] F G/\Own F.length G Uo 5 j.2.1 j.2.2 ((D.take j.1).map (Y6 s))) (0,none,0)
  ⟨Nx _,rfl,rfl,rfl,rfl,rfl,by rfl,Chg.refl.app,.nil⟩ ?_
 rintro ⟨j,p,c'⟩ fr G ⟨hj,g4,g5,u,y,z,A,e,n⟩ M
 simp only at hj u A n M
 rw [NT Nzn.eq_1]
 refine NK ?_
 have aq:=e.len
 have O:((D.take j).map (Y6 s)).length=j:=by rw [Nv,Ok];omega
 by_cases f:j<D.length
 case neg=>
  obtain rfl:j=D.length:=by omega
  rw [Oj] at n
  simp only [n109,Nn4,g4,g5,u,y,z,A,NV,f,SB,seval,NC,NJ,NF,NP,reduceCtorEq,NB,place,NA,ND]
  exact i _ _ _ (J.trans e).app ((n.sl RQ).app _)
 have sT:=e.sl s1 (fun a _ _ h=>(by cases h))
 have T:j<(D.map V3).length:=by rw [Nv];exact f
 have C:=fun X=>(sT.app X).loadCells OY T
 have t:=fun c (k:IntKind) (H1:NE)=>sT.idx (c:=c) (k:=k) (H1:=H1) T
 rw [N3l f] at C
 rw [Nv] at t
 have al:IntKind.i64.wrap ((j:Int)+1)=((j+1:Nat):Int):=OG (by omega)
 have ag:lim<=G.length:=by omega
 have ah:=U _ (Ru f)
 have ak:(D.take (j+1)).map (Y6 s)=(D.take j).map (Y6 s)++[Y6 s (gt D j)]:=by
  rw [N9 f,Pc,QH f];rfl
 generalize gt D j=x at *
 have ad:=Nz3 ae ah
 have e3:enc3 (V3 x)=[Vi x.1.id,Vi x.2,Vi (x.2+x.1.mins)]:=rfl
 rw [e3] at C
 have xN:=fun X=>(OI.refl.app (X:=X)).cells (e.cells l (by simp))
 have xS:=fun X=>(OI.refl.app (X:=X)).cells (e.cells o (by simp))
 have B:=fun X (mp:Bool) (lim:Nat) (Q:Value->NE->Prop)=>find_ok (mp:=mp) (lim:=lim) (cp:=cp) (cl:=cL) (a:=x.1.id) (Q:=Q) ((N.sim fun b ro c h=>e.cells h (by simp)).app X)
 rw [ad] at B
 simp only at B
 obtain ⟨G2,e2,aa,I,aj,ar,_⟩:=n.step (lim':=lim) (bytes:=40) (by omega) RQ (by decide) (Y6 s x) (by rw [O];unfold PS;omega) (by omega) (by omega) [Vc [Vi x.1.id,Vi x.2,Vi (x.2+x.1.mins)],Vc (Ry x.1),Vc (Uo (Y6 s x))] (G.length+2) 1 (by rw [NW];rfl)
 have ab:Uo (Y6 s x)=[.int .u8 5,Vi k,Vi m,Vi x.1.dst,Vi 0]:=by rw [<-hk,<-hm];rfl
 rw [O,ab] at e2
 simp only [n109,Nn4,g4,g5,u,y,z,A,NV,f,C,t,al,ag,xN,xS,B,OQ,e0,e1,OY,OH,QE,QD,QC,QB,QA,PZ,PY,PW,NI,NG,e2,SB,seval,NC,NJ,NF,NP,reduceCtorEq,NB,place,NA,ND]
 exact M (j+1,Sa (G.length+3),loose 5) _ _ ⟨by omega,g4,g5,rfl,y,z,rfl,I [] F (Nd _) e,by rw [ak];exact aa⟩ (by simp only;omega)
theorem Ntc [OB] {lim ce cq cr nl cl cp cL nk ns:Nat} {pe q r pl pp pL:Option Addr} {P:List Int} {L:List Leg} {es:List Ev} {s:Stp} {c:Int} {H:NE} {Q:Value->NE->Prop} (hN:NetIn H pp pL P L) (he:Sl H encE 7 pe es) (hs:U9 es.length s) (hn:es.length<2 ^ 30) (hl:lim<=H.length)
  (b:∀G p l,Chg [] H G->Sl G Uo 5 p (Uv P L es s)->Q (.slice p (Uv P L es s).length l) G) :
  NL E false lim 75 [.agg (UE pe es.length ce q nk cq r ns cr c pl nl cl).toArray,.agg (SC pp P.length cp pL L.length cL).toArray,.agg (enc3 s).toArray] H Q:=by
 refine R5 (by decide) e75 rfl ?_
 rw [b75,c75]
 have y:=hs
 unfold U9 at hs
 obtain ⟨m,hm⟩:∃m:Nat,s.1=m:=⟨s.1.toNat,by omega⟩
 obtain ⟨k,hk⟩:∃k:Nat,s.2.1=k:=⟨s.2.1.toNat,by omega⟩
 have v:m<es.length:=by omega
 have t:k<es.length:=by omega
 have e0:=N0m (x:=s)
 have e1:=Npy (x:=s)
 have e2:=N7c (x:=s)
 rw [hm] at e0
 rw [hk] at e1
 have f:∀X,AM.loadCells (H++X) ((Zt pe 7 m).add 0) 6=some (QJ (gt es m)):=fun X=>(he.app X).loadSub OA (j:=0) (n:=6) v (by omega)
 have g:∀X,AM.loadCells (H++X) ((Zt pe 7 k).add 0) 6=some (QJ (gt es k)):=fun X=>(he.app X).loadSub OA (j:=0) (n:=6) t (by omega)
 have d:=fun c (k:IntKind) (H1:NE)=>he.idx (c:=c) (k:=k) (H1:=H1) v
 have e:=fun c (k:IntKind) (H1:NE)=>he.idx (c:=c) (k:=k) (H1:=H1) t
 have a:Uv P L es s=if (gt es m).kind=4 then [⟨2,(k:Int),(m:Int),(gt es k).place,0⟩] else if s.2.2=80 then [⟨3,(k:Int),(m:Int),(gt es k).place,0⟩] else if 0<s.2.2 then [⟨4,(k:Int),(m:Int),(gt es k).place,s.2.2⟩]
   else if (gt es m).place≠(gt es k).place then TT P L es s else []:=by unfold Uv;rw [hm,hk,Ob,Ob]
 have u:=fun X (Q:Value->NE->Prop) (b:∀G p l,Chg [] (H++X) G->Sl G Uo 5 p (TT P L es s)->Q (.slice p (TT P L es s).length l) G)=>Ntt (lim:=lim) (ce:=ce) (cq:=cq) (cr:=cr) (nl:=nl) (cl:=cl) (cp:=cp) (cL:=cL) (nk:=nk) (ns:=ns) (q:=q) (r:=r) (pl:=pl) (c:=c) (hN.app X) (he.app X) y hn (by simp;omega) b
 by_cases h:(gt es m).kind=4
 ·rw [Ni h] at a
  rw [a] at b
  simp only [n75,r75,QW,Uu,UM,UL,UK,Tv,OT,UZ,UY,UX,UW,UV,UU,OY,e0,e1,e2,NI,f,g,d,e,NG,hl,gt_iff_lt,N5 h,SB,seval,NC,NJ,NF,NP,reduceCtorEq,NB,place,NA,ND]
  exact b _ _ _ Chg.refl.app (Sl.row (ro:=false) RQ (by rw [NW];rfl))
 rw [Nh h] at a
 by_cases i:s.2.2=80
 ·rw [Ni i] at a
  rw [a] at b
  simp only [n75,r75,QW,Uu,UM,UL,UK,Tv,OT,UZ,UY,UX,UW,UV,UU,OY,e0,e1,e2,NI,f,g,d,e,NG,hl,gt_iff_lt,Ns h,N5 i,SB,seval,NC,NJ,NF,NP,reduceCtorEq,NB,place,NA,ND]
  exact b _ _ _ Chg.refl.app (Sl.row (ro:=false) RQ (by rw [NW];rfl))
 rw [Nh i] at a
 by_cases o:0<s.2.2
 ·rw [Ni o] at a
  rw [a] at b
  simp only [n75,r75,QW,Uu,UM,UL,UK,Tv,OT,UZ,UY,UX,UW,UV,UU,OY,e0,e1,e2,NI,f,g,d,e,NG,hl,gt_iff_lt,Ns h,Ns i,N5 o,Ns (show ¬H.length=H.length+3 by omega),not_false_eq_true,AM.loadX,SB,seval,NC,NJ,NF,NP,reduceCtorEq,NB,place,NA,ND]
  exact b _ _ _ Chg.refl.app (Sl.row (ro:=false) RQ (by rw [NW];rfl))
 rw [Nh o] at a
 by_cases w:(gt es m).place=(gt es k).place
 ·rw [Nh (by simpa using w)] at a
  rw [a] at b
  simp only [n75,r75,QW,Uu,UM,UL,UK,Tv,OT,UZ,UY,UX,UW,UV,UU,OY,e0,e1,e2,NI,f,g,d,e,NG,hl,gt_iff_lt,Ns h,Ns i,Ns o,N5 w,SB,seval,NC,NJ,NF,NP,reduceCtorEq,NB,place,NA,ND]
  exact b _ none 0 Chg.refl.app rfl
 rw [Ni w] at a
 rw [a] at b
 simp only [n75,r75,QW,Uu,UM,UL,UK,Tv,OT,UZ,UY,UX,UW,UV,UU,OY,e0,e1,e2,NI,f,g,d,e,NG,hl,gt_iff_lt,Ns h,Ns i,Ns o,Ns w,OQ,SB,seval,NC,NJ,NF,NP,reduceCtorEq,NB,place,NA,ND]
 refine u _ _ fun G p l z hS=>?_
 refine NK ?_
 simp only [n75,r75,SB,seval,NC,NJ,NF,NP,reduceCtorEq,NB,place,NA,ND]
 exact b _ p l z.pre.app (hS.app _)
structure G38 (G1:NE) (B:Nat) (G:NE) (l:List An) (p:Option Addr) (cap:Nat):Prop where
 chg:Chg [B] G1 G
 cell:NH G B=Vc [.slice p l.length cap]
 own:Own G1.length G Uo 5 p cap l
theorem G38.grow {G1 G G2:NE} {B cap:Nat} {l:List An} {p:Option Addr} (h:G38 G1 B G l p cap) (hc:Chg [] G G2):G38 G1 B G2 l p cap:=
 ⟨h.chg.trans' hc fun j b=>(by cases b),hc.cells h.cell (by simp),h.own.chg hc (fun a _=>by simp)⟩
theorem G38.add [OB] {lim B cap q:Nat} {p n:Option Addr} {l m:List An} {G1 G:NE} {Q:Value->NE->Prop} (h:G38 G1 B G l p cap) (hs:Sl G Uo 5 n m) (j:lim<=B) (hB:B<G1.length) (hn:l.length+m.length<2 ^ 31)
  (t:∀G' e b,G.length<=G'.length->G38 G1 B G' (l++m) e b->Q (.tuple #[]) G') :
  NL E false lim 73 [.slice n m.length q,Vp B] G Q:=by
 refine R5 (by decide) e73 rfl ?_
 rw [b73,c73]
 have f:=NM h.cell
 have g:=h.chg.len
 obtain ⟨G2,e,b,k1,k2,k3,u,w⟩:=h.own.more (lim':=lim) (bytes:=40) (by omega) RQ (by decide) m (by unfold PS;omega) (by omega) g [] (x:=.slice n m.length q) (str:=false) (WH (hs.app [])) rfl
 have c:NH (G2++[]) B=Vc [.slice p l.length cap]:=by
  rw [u B f (fun a i=>by have:=(h.own.block i).1;omega)];exact h.cell
 rw [Nb] at k2 c
 have d:=k3 [B] G1 (Nd _) h.chg
 rw [Nb] at d
 obtain ⟨r,e3,s,k⟩:=OP (NM c) (Vc [.slice e (l.length+m.length) b])
 have v:=fun X=>(OI.refl.app (X:=X)).cells h.cell
 have o:=fun X=>(OI.refl.app (X:=X)).cells c
 simp only [n73,r73,v,k1,o,e3,j,SB,seval,NC,NJ,NF,NP,reduceCtorEq,NB,place,NA,ND]
 have ho:Own G1.length r Uo 5 e b (l++m):=k2.mut k fun a i=>by have:=(k2.block i).1;omega
 exact t _ e b (by rw [Nb,k.len];omega) ⟨by rw [Nb];exact d.mut k (.inl (by simp)),by rw [Nb,s,Nm],by rw [Nb];exact ho⟩
def Nqd:ACode->ACode
 | .block _ c=>c
 | c=>c
def Zb:ACode:=Nqd (TC (Sb (Sb WB)))
def N1q:ACode:=Sb (Sb (Sb WB))
def Ngq:ACode:=Sb Zb
def Nnc:ACode:=Sb Ngq
def N8o:ACode:=Sb Nnc
theorem N29:WB=.seq (TC WB) (.seq (TC (Sb WB)) (.seq (.block 1 (.seq (TC Zb) Ngq)) N1q)):=rfl
theorem N1p:Ngq=.seq (TC Ngq) Nnc:=rfl
theorem N1o:Nnc=.seq (TC Nnc) N8o:=rfl
structure D38 (lim B A T ce cq cr ct cp cL:Nat) (pe q r pt pp pL:Option Addr) (P:List Int) (L:List Leg) (es tw:List Ev) (ks:List Int) (ss:List Stp) (c:Int) (H0 G1:NE) (b4 b5:Nat):Prop where
 hev:Sl H0 encE 7 pe es
 hce:UC 7 ce es.length
 htw:Sl H0 encE 7 pt tw
 net:NetIn H0 pp pL P L
 h01:Chg [] H0 G1
 rep:NH G1 b4=Vc (UE pe es.length ce q ks.length cq r ss.length cr c none 0 0)
 nv:NH G1 b5=Vc (SC pp P.length cp pL L.length cL)
 kp:NH G1 A=Vc ((Xm es.length ks).flatMap Nac)
 to:NH G1 T=Vc ((toN es.length ss).flatMap enc3)
 n4:b4≠B
 n5:b5≠B
 nA:A≠B
 nT:T≠B
 hB:H0.length<=B
 lB:lim<=H0.length
 lG:B<G1.length
 ne:es.length<=2000
 nt:tw.length<=2000
 te:Vm es
 tt:Vm tw
 so:∀s∈ss,U9 es.length s
 di:Njt ss
structure FR38 (B A T ct n:Nat) (pt:Option Addr) (nt:Nat) (now:Int) (b4 b5:Nat) (fr:Nat->Value):Prop where
 f2:fr 2=.slice pt nt ct
 f3:fr 3=Vi now
 f4:fr 4=Vp b4
 f5:fr 5=Vp b5
 f9:fr 9=Vp B
 f10:fr 10=.func (.func 73) #[] #[Vp B]
 f11:fr 11=.slice (Sa A) n n
 f12:fr 12=.slice (Sa T) n n
section
variable {lim B A T ce cq cr ct cp cL b4 b5:Nat} {pe q r pt pp pL:Option Addr} {P:List Int} {L:List Leg} {es tw:List Ev} {ks:List Int} {ss:List Stp} {c now:Int} {H0 G1 G:NE} {fr:Nat->Value} {K:List AItem} {Z:Value->NE->Prop} {i cap:Nat} {p:Option Addr} {l:List An}
theorem D38.old (D:D38 lim B A T ce cq cr ct cp cL pe q r pt pp pL P L es tw ks ss c H0 G1 b4 b5) (h:G38 G1 B G l p cap):Chg [] H0 G:=D.h01.trans' h.chg fun j a hl=>by
 have:=D.hB
 rw [Nk] at a
 omega
theorem D38.rest [OB] (D:D38 lim B A T ce cq cr ct cp cL pe q r pt pp pL P L es tw ks ss c H0 G1 b4 b5) (h:G38 G1 B G l p cap) (F:FR38 B A T ct es.length pt tw.length now b4 b5 fr) (f13:fr 13=Vi i) (hi:i<es.length) (s:l.length<=1000000000)
  (m:∀fr' G' g b,G38 G1 B G' (l++R9 es tw i) g b->FR38 B A T ct es.length pt tw.length now b4 b5 fr'->fr' 22=fr 22->fr' 23=fr 23->fr' 24=fr 24->PQ E a38 lim K fr' (G'++[]) Z) :
  PQ E a38 lim (.code N8o::K) fr G Z:=by
 have d:=D.old h
 have v:=fun X=>(OI.refl.app (X:=X)).cells (h.chg.cells D.rep (by have:=D.n4;simpa using this))
 have k:=d.len
 have o:=D.lB
 have t:=D.ne
 have u:=D.nt
 unfold N8o
 refine NK ?_
 simp only [Nnc,Ngq,Zb,Nqd,TC,Sb,WB,n38,r38,F.f4,F.f10,F.f2,f13,v,QW,NI,SB,seval,NC,NJ,NF,NP,reduceCtorEq,NB,place,NA,ND]
 have n:(R9 es tw i).length<=tw.length:=by unfold R9;rw [Nv];exact Qv ..
 refine Np1 ((d.sl D.hev (fun a _ _ h=>(by cases h))).app _) D.hce ((d.sl D.htw (fun a _ _ h=>(by cases h))).app _) hi (by omega) (by omega) (by simp;omega) D.te D.tt fun G2 x w e f=>?_
 have h2:=h.grow e.pre
 refine NK ?_
 simp only [n38,r38,SB,seval,NC,NJ,NF,NP,reduceCtorEq,NB,place,NA,ND]
 rw [Nb]
 refine h2.add f (by have:=D.hB;omega) D.lG (by omega) fun G' g b hl j=>?_
 refine NK ?_
 simp only [n38,r38,SB,seval,NC,NJ,NF,NP,reduceCtorEq,NB,place,NA,ND]
 exact m _ _ _ _ j ⟨(by simp only [F.f2,ne_eq,FB,Nat.reduceEqDiff]),(by simp only [F.f3,ne_eq,FB,Nat.reduceEqDiff]),(by simp only [F.f4,ne_eq,FB,Nat.reduceEqDiff]),(by simp only [F.f5,ne_eq,FB,Nat.reduceEqDiff]),(by simp only [F.f9,ne_eq,FB,Nat.reduceEqDiff]),(by simp only [F.f10,ne_eq,FB,Nat.reduceEqDiff]),(by simp only [F.f11,ne_eq,FB,Nat.reduceEqDiff]),(by simp only [F.f12,ne_eq,FB,Nat.reduceEqDiff])⟩ rfl rfl rfl
noncomputable def VA (P:List Int) (L:List Leg) (es:List Ev) (ss:List Stp) (i:Nat):List An:=if (gt (toN es.length ss) i).1<(gt (toN es.length ss) i).2.1 then Uv P L es (gt (toN es.length ss) i) else []
def Ndn (es:List Ev) (ks:List Int) (i:Nat):List An:=if gt (Xm es.length ks) i then [] else [⟨1,(i:Int),0,(gt es i).place,0⟩]
theorem D38.mid [OB] (D:D38 lim B A T ce cq cr ct cp cL pe q r pt pp pL P L es tw ks ss c H0 G1 b4 b5) (h:G38 G1 B G l p cap) (F:FR38 B A T ct es.length pt tw.length now b4 b5 fr) (f13:fr 13=Vi i) (hi:i<es.length) (f:l.length+(VA P L es ss i).length<=1000000000)
  (g:∀fr' G' n d,G38 G1 B G' (l++(VA P L es ss i++R9 es tw i)) n d->FR38 B A T ct es.length pt tw.length now b4 b5 fr'->fr' 22=fr 22->fr' 23=fr 23->fr' 24=fr 24->PQ E a38 lim K fr' (G'++[]) Z) :
  PQ E a38 lim (.code Nnc::K) fr G Z:=by
 have t:=D.old h
 have M:=fun X=>(OI.refl.app (X:=X)).cells (h.chg.cells D.rep (by have:=D.n4;simpa using this))
 have J:=fun X=>(OI.refl.app (X:=X)).cells (h.chg.cells D.nv (by have:=D.n5;simpa using this))
 have Q:=h.chg.cells D.to (by have:=D.nT;simpa using this)
 have O:=t.len
 have S:=D.lB
 have U:=D.ne
 have V:=D.nt
 have o:Sl G enc3 3 (Sa T) (toN es.length ss):=Sl.row OY Q
 have e:i<(toN es.length ss).length:=by rw [Nqz];exact hi
 have w:=fun c (k:IntKind) (H1:NE)=>o.idx (c:=c) (k:=k) (H1:=H1) e
 rw [Nqz] at w
 have I:=fun X=>(o.app X).loadCells OY e
 have C:∀X,AM.loadCell (G++X) ((Zt (Sa T) 3 i).add 0)=some (Vi (gt (toN es.length ss) i).1):=fun X=>(o.app X).loadCell (j:=0) OY e (by omega)
 have H:∀X,AM.loadCell (G++X) ((Zt (Sa T) 3 i).add 1)=some (Vi (gt (toN es.length ss) i).2.1):=fun X=>(o.app X).loadCell (j:=1) OY e (by omega)
 have m:=fun h=>(N1y D.so D.di hi h).1
 rw [N1o]
 refine NK ?_
 unfold VA at g f
 generalize gt (toN es.length ss) i=s at *
 by_cases h1:s.1<s.2.1
 ·rw [Ni h1] at g f
  simp only [Nnc,Ngq,Zb,Nqd,TC,Sb,WB,n38,r38,F.f4,F.f5,F.f10,F.f12,f13,M,J,QW,OQ,OY,NI,w,I,C,H,N5 h1,SB,seval,NC,NJ,NF,NP,reduceCtorEq,NB,place,NA,ND]
  refine Ntc ((D.net.sim fun b ro x R=>t.cells R (by simp)).app _) ((t.sl D.hev (fun a _ _ h=>(by cases h))).app _) (D.so _ (m h1)) (by omega) (by simp;omega) fun G2 Y W u v=>?_
  have h2:=h.grow u.pre
  refine NK ?_
  simp only [n38,r38,SB,seval,NC,NJ,NF,NP,reduceCtorEq,NB,place,NA,ND]
  rw [Nb]
  refine h2.add v (by have:=D.hB;omega) D.lG (by omega) fun G' n d hl N=>?_
  refine NK ?_
  simp only [n38,r38,SB,seval,NC,NJ,NF,NP,reduceCtorEq,NB,place,NA,ND]
  rw [Nb]
  refine D.rest (now:=now) N ⟨(by simp only [F.f2,ne_eq,FB,Nat.reduceEqDiff]),(by simp only [F.f3,ne_eq,FB,Nat.reduceEqDiff]),(by simp only [F.f4,ne_eq,FB,Nat.reduceEqDiff]),(by simp only [F.f5,ne_eq,FB,Nat.reduceEqDiff]),(by simp only [F.f9,ne_eq,FB,Nat.reduceEqDiff]),(by simp only [F.f10,ne_eq,FB,Nat.reduceEqDiff]),(by simp only [F.f11,ne_eq,FB,Nat.reduceEqDiff]),(by simp only [F.f12,ne_eq,FB,Nat.reduceEqDiff])⟩ f13 hi (by rw [Nm];omega) fun fr' G' n d k1 k2 k3 y z=>?_
  rw [Nn] at k1
  exact g _ _ _ _ k1 k2 (k3.trans rfl) (y.trans rfl) (z.trans rfl)
 ·rw [Nh h1] at g f
  rw [Ol] at g
  simp only [Nnc,Ngq,Zb,Nqd,TC,Sb,WB,n38,r38,F.f4,F.f5,F.f10,F.f12,f13,M,J,QW,OQ,OY,NI,w,I,C,H,Ns h1,SB,seval,NC,NJ,NF,NP,reduceCtorEq,NB,place,NA,ND]
  rw [Nb]
  refine D.rest (now:=now) h ⟨(by simp only [F.f2,ne_eq,FB,Nat.reduceEqDiff]),(by simp only [F.f3,ne_eq,FB,Nat.reduceEqDiff]),(by simp only [F.f4,ne_eq,FB,Nat.reduceEqDiff]),(by simp only [F.f5,ne_eq,FB,Nat.reduceEqDiff]),(by simp only [F.f9,ne_eq,FB,Nat.reduceEqDiff]),(by simp only [F.f10,ne_eq,FB,Nat.reduceEqDiff]),(by simp only [F.f11,ne_eq,FB,Nat.reduceEqDiff]),(by simp only [F.f12,ne_eq,FB,Nat.reduceEqDiff])⟩ f13 hi (by simpa using f) fun fr' G' n d k1 k2 k3 y z=>?_
  exact g _ _ _ _ k1 k2 (k3.trans rfl) (y.trans rfl) (z.trans rfl)
theorem D38.first [OB] {e:Nat} (D:D38 lim B A T ce cq cr ct cp cL pe q r pt pp pL P L es tw ks ss c H0 G1 b4 b5) (h:G38 G1 B G l p cap) (F:FR38 B A T ct es.length pt tw.length now b4 b5 fr) (f13:fr 13=Vi i) (f14:fr 14=Vp e) (o:NH G e=Vc (encE (gt es i))) (hi:i<es.length) (J:l.length+(1+(VA P L es ss i).length)<=1000000000)
  (d:∀fr' G' n a,G38 G1 B G' (l++atN P L es tw ks ss i) n a->FR38 B A T ct es.length pt tw.length now b4 b5 fr'->fr' 22=fr 22->fr' 23=fr 23->fr' 24=fr 24->PQ E a38 lim K fr' (G'++[]) Z) :
  PQ E a38 lim (.code Ngq::K) fr G Z:=by
 have x:atN P L es tw ks ss i=Ndn es ks i++(VA P L es ss i++R9 es tw i):=rfl
 rw [x] at d
 have z:=D.old h
 have H:=h.chg.cells D.kp (by have:=D.nA;simpa using this)
 have C:=z.len
 have I:=D.lB
 have M:=D.ne
 have N:=D.nt
 have w:Sl G Nac 1 (Sa A) (Xm es.length ks):=Sl.row Zr H
 have f:i<(Xm es.length ks).length:=by rw [Nhf];exact hi
 have s:=fun c (k:IntKind) (H1:NE)=>w.idx (c:=c) (k:=k) (H1:=H1) f
 rw [Nhf] at s
 have v:∀X,AM.loadCell (G++X) (Zt (Sa A) 1 i)=some (.bool (gt (Xm es.length ks) i)):=fun X=>by
  have:=(w.app X).loadCell (j:=0) Zr f (by omega)
  rwa [show (Zt (Sa A) 1 i).add 0=Zt (Sa A) 1 i from by simp only [Zt,addrOf,O6,addr_add,Pu]] at this
 have g:=fun X=>(OI.refl.app (X:=X)).cells o
 rw [N1p]
 refine NK ?_
 unfold Ndn at d
 generalize gt (Xm es.length ks) i=b at *
 cases b with
 | true=>
   simp only [Ngq,Zb,Nqd,TC,Sb,WB,n38,r38,F.f10,F.f11,f13,f14,g,OA,QT,Rq,Rp,Ro,QZ,QY,QS,NI,s,v,SB,seval,NC,NJ,NF,NP,reduceCtorEq,NB,place,NA,ND]
   rw [Ni rfl,Ol] at d
   rw [Nb]
   exact D.mid (now:=now) h ⟨(by simp only [F.f2,ne_eq,FB,Nat.reduceEqDiff]),(by simp only [F.f3,ne_eq,FB,Nat.reduceEqDiff]),(by simp only [F.f4,ne_eq,FB,Nat.reduceEqDiff]),(by simp only [F.f5,ne_eq,FB,Nat.reduceEqDiff]),(by simp only [F.f9,ne_eq,FB,Nat.reduceEqDiff]),(by simp only [F.f10,ne_eq,FB,Nat.reduceEqDiff]),(by simp only [F.f11,ne_eq,FB,Nat.reduceEqDiff]),(by simp only [F.f12,ne_eq,FB,Nat.reduceEqDiff])⟩ f13 hi (by omega) fun fr' G' n a k1 k2 k3 t u=>d _ _ _ _ k1 k2 (k3.trans rfl) (t.trans rfl) (u.trans rfl)
 | false=>
   simp only [Ngq,Zb,Nqd,TC,Sb,WB,n38,r38,F.f10,F.f11,f13,f14,g,OA,QT,Rq,Rp,Ro,QZ,QY,QS,NI,s,v,SB,seval,NC,NJ,NF,NP,reduceCtorEq,NB,place,NA,ND]
   rw [Nh (by simp)] at d
   refine (h.grow (G2:=G++[Vc (Uo ⟨1,(i:Int),0,(gt es i).place,0⟩)]) Chg.refl.app).add (lim:=lim) (m:=[⟨1,(i:Int),0,(gt es i).place,0⟩]) (Sl.row (ro:=false) RQ (by rw [NS];rfl)) (by have:=D.hB;omega) D.lG (by simp;omega) fun G' n a hl y=>?_
   refine NK ?_
   simp only [n38,r38,SB,seval,NC,NJ,NF,NP,reduceCtorEq,NB,place,NA,ND]
   rw [Nb]
   refine D.mid (now:=now) y ⟨(by simp only [F.f2,ne_eq,FB,Nat.reduceEqDiff]),(by simp only [F.f3,ne_eq,FB,Nat.reduceEqDiff]),(by simp only [F.f4,ne_eq,FB,Nat.reduceEqDiff]),(by simp only [F.f5,ne_eq,FB,Nat.reduceEqDiff]),(by simp only [F.f9,ne_eq,FB,Nat.reduceEqDiff]),(by simp only [F.f10,ne_eq,FB,Nat.reduceEqDiff]),(by simp only [F.f11,ne_eq,FB,Nat.reduceEqDiff]),(by simp only [F.f12,ne_eq,FB,Nat.reduceEqDiff])⟩ f13 hi (by rw [Nm,Qu];omega) fun fr' G' n a k1 k2 k3 t u=>?_
   rw [Nn] at k1
   exact d _ _ _ _ k1 k2 (k3.trans rfl) (t.trans rfl) (u.trans rfl)
end
theorem Nos {m:List Int}:∀{l:List Int},l.Nodup->(∀x∈l,x∈m)->l.length<=m.length:=by
 induction m with
 | nil=>intro l _ h;cases l with
   | nil=>simp
   | cons x l=>exact absurd (h x No) Pa
 | cons a m ih=>
   intro l hn h
   have h1:=ih (l:=l.erase a) (hn.erase a) fun x b=>by
    have h2:=(hn.mem_erase_iff).1 b
    exact ((Np.1 (h x h2.2)).resolve_left h2.1)
   have c:l.length<=(l.erase a).length+1:=by rw [List.length_erase];split<;>omega
   simp only [Nl];omega
theorem Nwo {P:List Int} {L:List Leg} {p q t:Int}:(M3 P L p q t).length<=50:=by
 by_cases h:∃w,Won P L p q t w
 ·obtain ⟨w,b⟩:=h
  rw [Ndf b]
  obtain ⟨he,v,e,hv,a⟩:=b
  obtain ⟨h1,hp,f,g,_⟩:=Mm he
  have hn:=VS h1
  have:=Nos (m:=P) (a.way.nodup hn.fine a.few) fun x hx=>by
   rcases Np.1 hx with rfl | hx
   ·exact hp
   ·obtain ⟨y,d,rfl⟩:=List.mem_map.1 hx
    exact hn.dst _ (a.way.mem y d)
  have c:=(Vn h1).1
  simp at this
  omega
 ·unfold M3;rw [dif_neg h];simp
theorem Nk7 {P:List Int} {L:List Leg} {es:List Ev} {s:Stp}:(Uv P L es s).length<=50:=by
 unfold Uv
 simp only
 have hm:(TT P L es s).length<=50:=by
  unfold TT;rw [Nv,List.length_dropLast]
  have:=Nwo (P:=P) (L:=L) (p:=(gt es s.1.toNat).place) (q:=(gt es s.2.1.toNat).place) (t:=(gt es s.1.toNat).time)
  omega
 repeat' split
 all_goals first | exact hm | simp
theorem Zc {P:List Int} {L:List Leg} {es:List Ev} {ss:List Stp} {i:Nat}:(VA P L es ss i).length<=50:=by
 unfold VA
 split
 ·exact Nk7
 ·simp
theorem N4b {P:List Int} {L:List Leg} {es tw:List Ev} {ks:List Int} {ss:List Stp} {i:Nat}:(atN P L es tw ks ss i).length<=51+tw.length:=by
 have e:atN P L es tw ks ss i=Ndn es ks i++(VA P L es ss i++R9 es tw i):=rfl
 have h1:(Ndn es ks i).length<=1:=by unfold Ndn;split<;>simp
 have h2:=Zc (P:=P) (L:=L) (es:=es) (ss:=ss) (i:=i)
 have a:(R9 es tw i).length<=tw.length:=by unfold R9;rw [Nv];exact Qv ..
 rw [e,Nm,Nm];omega
theorem Ng2 {P:List Int} {L:List Leg} {es tw:List Ev} {ks:List Int} {ss:List Stp} {m:Nat}:Nig P L es tw ks ss (m+1)=Nig P L es tw ks ss m++atN P L es tw ks ss m:=by
 unfold Nig;rw [P3,P7,Ox,List.flatMap_nil,Nb]
theorem Nd8 {P:List Int} {L:List Leg} {es tw:List Ev} {ks:List Int} {ss:List Stp}:∀m,(Nig P L es tw ks ss m).length<=m*(51+tw.length)
 | 0=>by simp [Nig]
 | m+1=>by
   have h:=Nd8 (P:=P) (L:=L) (es:=es) (tw:=tw) (ks:=ks) (ss:=ss) m
   have h2:=N4b (P:=P) (L:=L) (es:=es) (tw:=tw) (ks:=ks) (ss:=ss) (i:=m)
   rw [Ng2,Nm,Pk];omega
theorem Ntx [OB] {lim ce cq cr ct cp cL:Nat} {pe q r pt pp pL:Option Addr} {P:List Int} {L:List Leg} {es tw:List Ev} {ks:List Int} {ss:List Stp} {c now:Int} {H:NE} {Q:Value->NE->Prop} (hev:Sl H encE 7 pe es) (hce:UC 7 ce es.length) (htw:Sl H encE 7 pt tw) (u:NetIn H pp pL P L) (Z:Sl H encI 1 q ks) (hr:Sl H enc3 3 r ss) (hl:lim<=H.length)
  (ne:es.length<=2000) (nt:tw.length<=2000) (te:Vm es) (tt:Vm tw) (so:∀s∈ss,U9 es.length s) (di:Njt ss) (hk:∀k∈ks,0<=k/\k<es.length) (t:ks.length<2 ^ 40) (M:ss.length<2 ^ 40) (v:0<=now/\now<=OC)
  (hQ:∀G p V,Chg [] H G->Own H.length G Uo 5 p V (VD P L es tw ks ss now)->Q (.slice p (VD P L es tw ks ss now).length V) G) :
  NL E false lim 38 [.agg (UE pe es.length ce q ks.length cq r ss.length cr c none 0 0).toArray,.agg (SC pp P.length cp pL L.length cL).toArray,.slice pt tw.length ct,Vi now] H Q:=by
 refine R5 (by decide) e38 rfl ?_
 rw [b38,c38]
 simp only [n38,r38,QW,OQ,NI,SB,seval,NC,NJ,NF,NP,reduceCtorEq,NB,place,NA,ND]
 refine Nnm (lim:=lim) (Z.app _) (hr.app _) (by omega) t M (by simp;omega) hk so fun G1 A T b hA hT kA kT=>?_
 have I:=b.len
 simp at I hA hT
 have hB:=b.cells (NW (X:=[Vc (UE pe es.length ce q ks.length cq r ss.length cr c none 0 0),Vc (SC pp P.length cp pL L.length cL),Vc [Vz]]) (j:=2)) (by simp)
 have D:D38 lim (H.length+2) A T ce cq cr ct cp cL pe q r pt pp pL P L es tw ks ss c H G1 H.length (H.length+1):=⟨hev,hce,htw,u,b.pre,b.cells (NS (X:=[Vc (UE pe es.length ce q ks.length cq r ss.length cr c none 0 0),Vc (SC pp P.length cp pL L.length cL),Vc [Vz]])) (by simp),b.cells (NW (X:=[Vc (UE pe es.length ce q ks.length cq r ss.length cr c none 0 0),Vc (SC pp P.length cp pL L.length cL),Vc [Vz]]) (j:=1)) (by simp),kA,kT,by omega,by omega,by omega,by omega,by omega,hl,by omega,ne,nt,te,tt,so,di⟩
 have xR:=fun X=>(OI.refl.app (X:=X)).cells D.rep
 refine NK ?_
 simp only [n38,r38,xR,Uu,SB,seval,NC,NJ,NF,NP,reduceCtorEq,NB,place,NA,ND]
 have C:G38 G1 (H.length+2) G1 [] none 0:=⟨Chg.refl,hB,.nil⟩
 refine NR (fun j:Nat×Option Addr×Nat=>es.length-j.1) (fun j fr G=>j.1<=es.length/\FR38 (H.length+2) A T ct es.length pt tw.length now H.length (H.length+1) fr/\fr 22=.slice pe es.length ce/\fr 23=Vi es.length/\fr 24=Vi j.1/\G38 G1 (H.length+2) G (Nig P L es tw ks ss j.1) j.2.1 j.2.2) (0,none,0)
  ⟨Nx _,⟨rfl,rfl,rfl,rfl,rfl,rfl,rfl,rfl⟩,rfl,rfl,by rfl,C.grow Chg.refl.app⟩ ?_
 rintro ⟨i,p,cap⟩ fr G ⟨hi,F,g,l,e,n⟩ hN
 simp only at hi e n hN
 rw [NT N29]
 refine NK ?_
 have x:=D.old n
 have Y:=x.len
 by_cases d:i<es.length
 case neg=>
  obtain rfl:i=es.length:=by omega
  have U:=fun X=>(OI.refl.app (X:=X)).cells (n.chg.cells D.rep (by simp))
  simp only [TC,Sb,WB,n38,r38,F.f4,F.f10,F.f9,F.f3,g,l,e,NV,d,U,QW,NI,SB,seval,NC,NJ,NF,NP,reduceCtorEq,NB,place,NA,ND]
  have m:=Nd8 (P:=P) (L:=L) (es:=es) (tw:=tw) (ks:=ks) (ss:=ss) es.length
  have B:(Nig P L es tw ks ss es.length).length<=2000*2051:=O9 m (Nat.mul_le_mul (by omega) (by omega))
  have ab:(Xl es ks now).length<=1:=by
   rcases Nys (es:=es) (ks:=ks) (now:=now) with h | ⟨k,_,h,_⟩<;>rw [h]<;>simp
  have W:VD P L es tw ks ss now=Nig P L es tw ks ss es.length++Xl es ks now:=rfl
  refine N25 ((x.sl hev (fun a _ _ h=>(by cases h))).app _) ((x.sl Z (fun a _ _ h=>(by cases h))).app _) (by omega) t (by simp;omega) hk te v fun G2 px cx y z=>?_
  have h2:=n.grow y.pre
  refine NK ?_
  simp only [n38,r38,SB,seval,NC,NJ,NF,NP,reduceCtorEq,NB,place,NA,ND]
  rw [Nb]
  refine h2.add (lim:=lim) z (by omega) D.lG (by omega) fun G' p' f aa w=>?_
  have xB:=fun X=>(OI.refl.app (X:=X)).cells w.cell
  refine NK ?_
  simp only [n38,r38,F.f9,xB,SB,seval,NC,NJ,NF,NP,reduceCtorEq,NB,place,NA,ND]
  rw [<-Nm,<-W]
  rw [<-W] at w
  exact hQ _ _ _ (D.old w).app ((w.own.le (by omega)).app _)
 have sE:=x.sl hev (fun a _ _ h=>(by cases h))
 have K:=fun X=>(sE.app X).loadCells OA d
 have o:=fun c (k:IntKind) (H1:NE)=>sE.idx (c:=c) (k:=k) (H1:=H1) d
 have N:IntKind.i64.wrap ((i:Int)+1)=((i+1:Nat):Int):=OG (by omega)
 have J:lim<=G.length:=by omega
 have m:=Nd8 (P:=P) (L:=L) (es:=es) (tw:=tw) (ks:=ks) (ss:=ss) i
 have ac:=Zc (P:=P) (L:=L) (es:=es) (ss:=ss) (i:=i)
 have B:(Nig P L es tw ks ss i).length<=2000*2051:=O9 m (Nat.mul_le_mul (by omega) (by omega))
 simp only [TC,Sb,WB,Zb,Nqd,n38,r38,g,l,e,NV,d,K,o,J,OA,NI,NG,SB,seval,NC,NJ,NF,NP,reduceCtorEq,NB,place,NA,ND]
 refine D.first (now:=now) (i:=i) (n.grow (G2:=G++[Vc (encE (gt es i))]) Chg.refl.app) ⟨(by simp only [F.f2,ne_eq,FB,Nat.reduceEqDiff]),(by simp only [F.f3,ne_eq,FB,Nat.reduceEqDiff]),(by simp only [F.f4,ne_eq,FB,Nat.reduceEqDiff]),(by simp only [F.f5,ne_eq,FB,Nat.reduceEqDiff]),(by simp only [F.f9,ne_eq,FB,Nat.reduceEqDiff]),(by simp only [F.f10,ne_eq,FB,Nat.reduceEqDiff]),(by simp only [F.f11,ne_eq,FB,Nat.reduceEqDiff]),(by simp only [F.f12,ne_eq,FB,Nat.reduceEqDiff])⟩ rfl rfl NS d (by omega) fun fr' G' p' f k1 k2 k3 k4 k5=>?_
 rw [<-Ng2] at k1
 have S:fr' 24=Vi i:=k5.trans e
 have O:fr' 22=.slice pe es.length ce:=k3.trans g
 have R:fr' 23=Vi es.length:=k4.trans l
 unfold N1q
 simp only [Sb,WB,n38,r38,S,N,SB,seval,NC,NJ,NF,NP,reduceCtorEq,NB,place,NA,ND]
 exact hN (i+1,p',f) _ _ ⟨by omega,⟨(by simp only [k2.f2,ne_eq,FB,Nat.reduceEqDiff]),(by simp only [k2.f3,ne_eq,FB,Nat.reduceEqDiff]),(by simp only [k2.f4,ne_eq,FB,Nat.reduceEqDiff]),(by simp only [k2.f5,ne_eq,FB,Nat.reduceEqDiff]),(by simp only [k2.f9,ne_eq,FB,Nat.reduceEqDiff]),(by simp only [k2.f10,ne_eq,FB,Nat.reduceEqDiff]),(by simp only [k2.f11,ne_eq,FB,Nat.reduceEqDiff]),(by simp only [k2.f12,ne_eq,FB,Nat.reduceEqDiff])⟩,O,R,rfl,k1.grow Chg.refl.app⟩ (by simp only;omega)
end Go.Proofs.YtkppjkkkdpcgiaaGreat.Fn


namespace Go.Proofs.YtkppjkkkdpcgiaaGreat.Fn
open Go.AM Go.AM.Sym Go.Scan
theorem Nx0 [OB] {lim c:Nat} {p:Option Addr} {K:List Ev} {item:Int} {H:NE} {Q:Value->NE->Prop} (hs:Sl H encE 7 p K) (hn:K.length<4000) (hl:lim<=H.length)
  (T:∀G z,NH G H.length=Vc ((VC K item).flatMap encE++z)->Chg [] H G->Q (.slice (Sa H.length) (VC K item).length K.length) (G++[])) :
  NL E false lim 28 [.slice p K.length c,Vi item] H Q:=by
 refine R5 (by decide) e28 rfl ?_
 rw [b28,c28]
 have J:(K.length:Int)*56<=2 ^ 45:=by omega
 have L:(K.length:Int)<2 ^ 62:=by omega
 have M:(0:Int)<=(K.length:Int):=by omega
 simp only [n28,r28,J,L,M,Ob,Rh,SB,Nat.reduceLT,NC,NJ,Nat.reduceEqDiff,NF,NP,reduceCtorEq,NB,place,NA,Nat.reduceAdd,Nat.reduceLeDiff,ND,Int.reduceEq,Int.reduceLT,Int.reduceLE]
 refine NR (fun i=>K.length-i) (fun i fr G=>i<=K.length/\fr 1=Vi item/\fr 5=.slice (Sa H.length) (VC (K.take i) item).length K.length/\fr 11=.slice p K.length c/\fr 12=Vi K.length/\fr 13=Vi i/\
   (∃z,z.length=(K.length-(VC (K.take i) item).length)*7/\NH G H.length=Vc ((VC (K.take i) item).flatMap encE++z))/\Chg [] H G) 0
  ⟨Nx _,rfl,(by simp only [Q1,VC,List.filter_nil,Nr,FB,Nat.reduceEqDiff]),rfl,rfl,by rfl,⟨(List.range (K.length*7)).map fun j=>[Value.int .i64 0,Vi 0,Vi 0,.int .u8 0,Vi 0,Vi 0,Vi 0].getD (j % 7) undef,by simp [VC],by rw [NS,Q1];rfl⟩,Chg.refl.app⟩ ?_
 rintro i fr G ⟨hi,q,w,e,f,n,⟨z,I,B⟩,A⟩ hN
 rw [NT N5p.eq_1]
 refine NK ?_
 have S:=A.len
 have t:=NM B
 by_cases d:i<K.length
 ·have P:=A.sl hs (fun a _ _ h=>(by cases h))
  have u:=fun X=>(P.app X).loadCells OA d
  have l:=fun c (k:IntKind) (H1:NE)=>P.idx (c:=c) (k:=k) (H1:=H1) d
  have v:IntKind.i64.wrap ((i:Int)+1)=((i+1:Nat):Int):=OG (by omega)
  have U:(VC (K.take i) item).length<=i:=by
   unfold VC
   refine O9 (Qv ..) ?_
   rw [Ok];omega
  have g:VC (K.take (i+1)) item=if (item == 0||(gt K i).item == item)=true then VC (K.take i) item++[gt K i] else VC (K.take i) item:=by
   unfold VC
   rw [N9 d,List.filter_append,QH d]
   by_cases h:(item == 0||K[i].item == item)=true
   ·rw [Ni h];simp only [List.filter_cons,h,if_true,List.filter_nil]
   ·rw [Nh h];simp only [List.filter_cons,h,if_false,List.filter_nil,Nb,Ny]
  generalize W:gt K i=x at *
  generalize VC (K.take i) item=O at *
  have m:lim<=G.length:=by omega
  have D:(item == 0||x.item == item)=true->∃G3,PE lim none 7 56 false (.slice (Sa H.length) O.length K.length) (.slice (Sa (G.length+1)) 1 1) (G++[Vc (encE x),Vc (encE x)])=some (.slice (Sa H.length) (O.length+1) K.length,G3++[Vc (encE x),Vc (encE x)])/\
    NH G3 H.length=Vc ((VC (K.take (i+1)) item).flatMap encE++z.drop 7)/\(VC (K.take (i+1)) item).length=O.length+1/\Chg [] H G3:=fun h=>by
   rw [Ni h] at g
   obtain ⟨G3,e3,r,V⟩:=OP (G:=G) (R:=H.length) t (Vc ((O++[x]).flatMap encE++z.drop 7))
   have o:=Nal (lim:=lim) (R:=H.length) (bytes:=56) (cap:=K.length) (k:=1) (b:=G.length+1) (dest:=none) (H:=G++[Vc (encE x),Vc (encE x)]) (enc:=encE) (old:=O) (x:=x) (ro:=false) (rest:=z) OA (by decide)
    (by rw [NW];rfl) (by rw [NN t];exact B) hl (by omega) I (by omega) (by unfold PS;omega)
   rw [e3] at o
   exact ⟨G3,o,by rw [g];exact r,by rw [g];simp,A.mut V (.inr (Nd _))⟩
  by_cases y:item=0
  ·obtain ⟨G3,e3,r,C,s⟩:=D (by simp [y])
   simp only [n28,r28,q,w,e,f,n,NV,d,l,u,OA,QT,Rq,Rp,Ro,QZ,QY,QS,NI,NG,v,m,N5 y,e3,SB,seval,NC,NJ,NF,NP,reduceCtorEq,NB,place,NA,ND]
   exact hN (i+1) _ _ ⟨by omega,q,(by simp only [C,ne_eq,FB,Nat.reduceEqDiff]),e,f,rfl,⟨z.drop 7,by rw [Pi,I,C];omega,by rw [NN (NM r)];exact r⟩,s.app⟩ (by omega)
  by_cases F:x.item=item
  ·obtain ⟨G3,e3,r,C,s⟩:=D (by simp [F])
   simp only [n28,r28,q,w,e,f,n,NV,d,l,u,OA,QT,Rq,Rp,Ro,QZ,QY,QS,NI,NG,v,m,Ns y,N5 F,e3,SB,seval,NC,NJ,NF,NP,reduceCtorEq,NB,place,NA,ND]
   exact hN (i+1) _ _ ⟨by omega,q,(by simp only [C,ne_eq,FB,Nat.reduceEqDiff]),e,f,rfl,⟨z.drop 7,by rw [Pi,I,C];omega,by rw [NN (NM r)];exact r⟩,s.app⟩ (by omega)
  ·have N:¬(item == 0||x.item == item)=true:=by simp [y,F]
   rw [Nh N] at g
   simp only [n28,r28,q,w,e,f,n,NV,d,l,u,OA,QT,Rq,Rp,Ro,QZ,QY,QS,NI,NG,v,m,Ns y,Ns F,SB,seval,NC,NJ,NF,NP,reduceCtorEq,NB,place,NA,ND]
   exact hN (i+1) _ _ ⟨by omega,q,(by simp only [w,g,FB,Nat.reduceEqDiff]),e,f,rfl,⟨z,by rw [g];exact I,by rw [NN t,g];exact B⟩,A.app⟩ (by omega)
 ·obtain rfl:i=K.length:=by omega
  rw [Oj] at w B
  simp only [n28,r28,q,w,e,f,n,NV,d,SB,seval,NC,NJ,NF,NP,reduceCtorEq,NB,place,NA,ND]
  exact T G z B A
end Go.Proofs.YtkppjkkkdpcgiaaGreat.Fn


namespace Go.Scan
theorem Ngw (S:List Ev):OM (S.map bare)=OM S:=by
 have h1:UQ (S.map bare)=UQ S:=by unfold UQ;rw [List.foldl_map];rfl
 have h2:R6 (S.map bare)=R6 S:=by unfold R6;rw [h1]
 have a:∀M,Sw M (S.map bare)=Sw M S:=fun M=>by unfold Sw;rw [List.map_map];rfl
 unfold OM
 rw [h2,a]
theorem Nd5 {S:List Ev}:QN (S.map bare)↔QN S:=by
 unfold QN
 rw [Nv]
 exact and_congr Iff.rfl ⟨fun h s hs=>(h (bare s) (List.mem_map.2 ⟨s,hs,rfl⟩):Sm (bare s)),fun h s hs=>by
  obtain ⟨x,a,rfl⟩:=List.mem_map.1 hs
  exact h x a⟩
end Go.Scan
namespace Go.Proofs.YtkppjkkkdpcgiaaGreat.Fn
open Go.AM Go.AM.Sym Go.Scan
def effL (n:Nat) (L:List Ev):Value×List (List Value):=if L=[] then (.tuple #[Vz,Vi 0],[]) else (.tuple #[.slice (Sa n) L.length (loose 7),Vi 0],[L.flatMap encE])
def effR (a:Bool) (n:Nat) (S:List Ev):Value×List (List Value):=if QN S then effL n (if a then (OM S).1 else (OM S).2) else (.tuple #[Vz,Vi 2],[])
theorem Nuv {a:Bool} {n:Nat} {S S':List Ev} (h:S.map bare=S'.map bare):effR a n S=effR a n S':=by
 have h1:OM S=OM S':=by rw [<-Ngw S,<-Ngw S',h]
 have h2:QN S↔QN S':=by rw [<-Nd5,<-Nd5 (S:=S'),h]
 unfold effR
 rw [h1]
 by_cases b:QN S
 ·rw [Ni b,Ni (h2.1 b)]
 ·rw [Nh b,Nh fun h=>b (h2.2 h)]
theorem Nur {x y:Ev} (h:QJ x=QJ y):bare x=bare y:=by
 obtain ⟨a,b,c,d,e,f,g⟩:=x
 obtain ⟨a',b',i,j,k,l,m⟩:=y
 simp only [QJ,List.cons.injEq,Value.int.injEq,Rg,and_true] at h
 obtain ⟨rfl,rfl,rfl,rfl,rfl,rfl⟩:=h
 rfl
theorem Nhn:∀{S S':List Ev},S.length=S'.length->S.flatMap QJ=S'.flatMap QJ->S.map bare=S'.map bare
 | [],[],_,_=>rfl
 | [],_::_,h,_=>by cases h
 | _::_,[],h,_=>by cases h
 | x::S,y::S',h,e=>by
   rw [Ox,Ox] at e
   obtain ⟨e1,e2⟩:=List.append_inj e rfl
   rw [Of,Of,Nur e1,Nhn (by simpa using h) e2]
theorem N13 {H:NE} {p:Option Addr} {S S':List Ev} (hl:S.length=S'.length) (h:Sl H QJ 6 p S) (h':Sl H QJ 6 p S'):S.map bare=S'.map bare:=by
 cases p with
 | none=>
   have e1:S=[]:=h
   have e2:S'=[]:=h'
   rw [e1,e2]
 | some a=>
   by_cases b:S=[]
   ·subst b
    cases S' with
    | nil=>rfl
    | cons _ _=>cases hl
   have d:S'≠[]:=fun e=>b (List.length_eq_zero_iff.1 (by rw [hl,e];rfl))
   obtain ⟨ro,c,k1,_,k3⟩:=h.2 b
   obtain ⟨i,j,f,_,g⟩:=h'.2 d
   rw [k1] at f;cases f
   exact Nhn hl (k3.symm.trans (by rw [hl];exact g))
open Classical in
noncomputable def effO (g:FuncId) (as:List Value) (H:NE):Option (Value×List (List Value)):=
 if g=36\/g=27 then match as with
  | [.slice p n c]=>if h:∃S:List Ev,S.length=n/\n<2 ^ 63/\Sl H QJ 6 p S then some (effR (decide (g=36)) H.length h.choose) else none
  | _=>none
 else none
theorem effO_no (g:FuncId) (as:List Value) (H:NE) (h1:g≠36) (h2:g≠27):effO g as H=none:=by
 unfold effO
 exact Nh (by rintro (h | h);exact h1 h;exact h2 h)
theorem N0o {g:FuncId} (a:g=36\/g=27) {p:Option Addr} {c:Nat} {S:List Ev} {H:NE} (hs:Sl H QJ 6 p S) (hn:S.length<2 ^ 63):effO g [.slice p S.length c] H=some (effR (decide (g=36)) H.length S):=by
 have hex:∃S':List Ev,S'.length=S.length/\S.length<2 ^ 63/\Sl H QJ 6 p S':=⟨S,rfl,hn,hs⟩
 unfold effO
 rw [Ni a]
 simp only
 rw [Rd hex]
 obtain ⟨k1,_,k3⟩:=hex.choose_spec
 rw [Nuv (N13 k1 k3 hs)]
theorem effO_some {g:FuncId} {as:List Value} {H:NE} {r} (h:effO g as H=some r):(g=36\/g=27)/\∃p c S,as=[.slice p S.length c]/\S.length<2 ^ 63/\Sl H QJ 6 p S/\r=effR (decide (g=36)) H.length S:=by
 unfold effO at h
 split at h
 case isFalse=>cases h
 rename_i a
 refine ⟨a, ?_⟩
 split at h
 ·rename_i p n c
  split at h
  ·rename_i hex
   obtain ⟨k1,k2,k3⟩:=hex.choose_spec
   simp only [Option.some.injEq] at h
   exact ⟨p,c,hex.choose,by rw [k1],by omega,k3,h.symm⟩
  ·cases h
 ·cases h
def EffOk [OB]:Prop:=∀g as H,OB.eff g as H=effO g as H
theorem Npz [OB] (b:EffOk) {g:FuncId} (a:g=36\/g=27) {lim c:Nat} {p:Option Addr} {S:List Ev} {H:NE} {Q:Value->NE->Prop} (hs:Sl H QJ 6 p S) (hn:S.length<2 ^ 63) :
  NL E false lim g [.slice p S.length c] H Q=Q (effR (decide (g=36)) H.length S).1 (H++news (effR (decide (g=36)) H.length S).2):=
 Nwk (by rcases a with rfl | rfl<;>simp [E,orc]) (by show OB.eff g _ H=_;rw [b];exact N0o a hs hn)
theorem effR_no {a:Bool} {n:Nat} {S:List Ev} (h:¬QN S):effR a n S=(.tuple #[Vz,Vi 2],[]):=Nh h
theorem Nml {H:NE} (L:List Ev):∃p c,effL H.length L=(.tuple #[.slice p L.length c,Vi 0],(effL H.length L).2)/\Own H.length (H++news (effL H.length L).2) encE 7 p c L/\Chg [] H (H++news (effL H.length L).2):=by
 unfold effL
 by_cases h:L=[]
 ·rw [Ni h]
  exact ⟨none,0,by rw [h];rfl,.inl ⟨h,rfl,rfl⟩,Chg.refl.app⟩
 ·rw [Nh h]
  exact ⟨_,_,rfl,.inr ⟨H.length,rfl,rfl,NS,Nd _⟩,Chg.refl.app⟩
theorem N4u [OB] (a:EffOk) {lim c:Nat} {p:Option Addr} {S:List Ev} {H:NE} {Q:Value->NE->Prop} (hs:Sl H QJ 6 p S) (hS:QN S)
  (b:∀G kp kc,Own H.length G encE 7 kp kc (OM S).1->Chg [] H G->Q (.tuple #[.slice kp (OM S).1.length kc,Vi 0]) (G++[])) :
  NL E false lim 36 [.slice p S.length c] H Q:=by
 rw [Npz a (.inl rfl) hs (by have:=hS.1;omega)]
 have e:effR (decide ((36:Nat)=36)) H.length S=effL H.length (OM S).1:=Ni hS
 rw [e]
 obtain ⟨f,d,e1,e2,e3⟩:=Nml (H:=H) (OM S).1
 rw [e1]
 have:=b _ _ _ e2 e3
 rwa [Nb] at this
theorem Nqr [OB] (a:EffOk) {lim c:Nat} {p:Option Addr} {S:List Ev} {H:NE} {Q:Value->NE->Prop} (hs:Sl H QJ 6 p S) (hn:S.length<2 ^ 63) (hS:¬QN S) :
  NL E false lim 36 [.slice p S.length c] H Q=Q (.tuple #[Vz,Vi 2]) H:=by
 rw [Npz a (.inl rfl) hs hn,effR_no hS]
 simp [news]
theorem Nwh [OB] (a:EffOk) {lim c:Nat} {p:Option Addr} {S:List Ev} {H:NE} {Q:Value->NE->Prop} (hs:Sl H QJ 6 p S) (hS:QN S)
  (b:∀G kp kc,Own H.length G encE 7 kp kc (OM S).2->Chg [] H G->Q (.tuple #[.slice kp (OM S).2.length kc,Vi 0]) (G++[])) :
  NL E false lim 27 [.slice p S.length c] H Q:=by
 rw [Npz a (.inr rfl) hs (by have:=hS.1;omega)]
 have e:effR (decide ((27:Nat)=36)) H.length S=effL H.length (OM S).2:=Ni hS
 rw [e]
 obtain ⟨f,d,e1,e2,e3⟩:=Nml (H:=H) (OM S).2
 rw [e1]
 have:=b _ _ _ e2 e3
 rwa [Nb] at this
end Go.Proofs.YtkppjkkkdpcgiaaGreat.Fn


namespace Go.Proofs.YtkppjkkkdpcgiaaGreat.Fn
open Go.AM Go.AM.Sym Go.Net Go.Scan
def N8v:List Value:=UE none 0 0 none 0 0 none 0 0 0 none 0 0
theorem Vg:N8v=[Vz,Vz,Vz,Vi 0,Vz]:=rfl
theorem Ntw {P:List Int} {L:List Leg} {S:List Ev} {item now:Int} (h:Rz P L=0) (hS:QN S) (h1:1<=item) (h2:item<=999999) (c:0<=now) (d:now<=OC) (b:VC (OM S).1 item≠[]) :
  Td P L S item now=Yi P L (VC (OM S).1 item):=by
 have a:¬(¬QN S\/item<1\/999999<item\/now<0\/OC<now):=by
  rintro (h | h | h | h | h)
  ·exact h hS
  all_goals omega
 unfold Td
 rw [Nh (by simpa using h),Nh a,Nh b]
theorem Nm6 {α:Type} {H:NE} {enc:α->List Value} {e R:Nat} {l:List α} {z:List Value} (he:∀x,(enc x).length=e) {ro:Bool} (h:NH H R=.cells ro (l.flatMap enc++z)):Sl H enc e (Sa R) l:=
 ⟨rfl,fun _=>⟨ro,_,h,by rw [Nm,QI he];simp,by rw [Oy,<-QI he,List.take_left]⟩⟩
theorem UB [OB] (hE:EffOk) {lim c cp cL:Nat} {p pp pL:Option Addr} {P:List Int} {L:List Leg} {S:List Ev} {item now:Int} {H:NE} {Q:Value->NE->Prop} (hN:NetIn H pp pL P L) (hs:Sl H QJ 6 p S) (hn:S.length<2 ^ 63) (hl:lim<=H.length)
  (d:∀G,Td P L S item now≠0->Chg [] H G->Q (.tuple #[.agg N8v.toArray,Vi (Td P L S item now)]) G)
  (ag:∀G pe ce q cq r cr pl cl (es tw:List Ev) (ks:List Int) (ss:List Stp),es=VC (OM S).1 item->tw=VC (OM S).2 item->ks=Rx P L es->ss=RV P L es ks->Td P L S item now=0->Chg [] H G->Wx H.length G encE 7 pe es->UC 7 ce es.length->Wx H.length G encI 1 q ks->Wx H.length G enc3 3 r ss->Wx H.length G Uo 5 pl (VD P L es tw ks ss now)->
   Q (.tuple #[.agg (UE pe es.length ce q ks.length cq r ss.length cr (Tp P L es ks) pl (VD P L es tw ks ss now).length cl).toArray,Vi 0]) G) :
  NL E false lim 17 [.agg (SC pp P.length cp pL L.length cL).toArray,.slice p S.length c,Vi item,Vi now] H Q:=by
 refine R5 (by decide) e17 rfl ?_
 rw [b17,c17]
 have hv:=fun X (mp:Bool) (lim:Nat) (Q:Value->NE->Prop)=>Ndh (mp:=mp) (lim:=lim) (cp:=cp) (cl:=cL) (Q:=Q) (hN.app X)
 rw [Vg] at d
 by_cases K:Rz P L=0
 case neg=>
  rw [Ng7 K] at d
  simp only [n17,r17,OQ,NI,hv,Ns K,NG,hl,SB,seval,NC,NJ,NF,NP,reduceCtorEq,NB,place,NA,ND]
  exact d _ K Chg.refl.app
 simp only [n17,r17,OQ,NI,hv,N5 K,NG,hl,SB,seval,NC,NJ,NF,NP,reduceCtorEq,NB,place,NA,ND]
 by_cases hS:QN S
 case neg=>
  rw [UO K (.inl hS)] at d
  rw [Nqr hE (hs.app _) hn hS]
  simp only [n17,r17,NG,hl,SB,seval,NC,NJ,NF,NP,reduceCtorEq,NB,place,NA,ND]
  exact d _ (by decide) Chg.refl.app
 refine N4u hE (hs.app _) hS fun G1 kp kc hO m=>?_
 have ax:=m.len
 simp at ax
 have bh:lim<=G1.length:=by omega
 have t:=fun h=>UO (P:=P) (L:=L) (S:=S) (item:=item) (now:=now) K (.inr h)
 have k8:=m.cells (NW (X:=[Vc (SC pp P.length cp pL L.length cL),Vc [Vz,Vz,Vz,Vi 0,Vz]]) (j:=1)) (by simp)
 have x8:=fun X=>(OI.refl.app (X:=X)).cells k8
 obtain ⟨G8,e8,h8,m8⟩:=OP (NM k8) (Vc [Vz,Vz,Vz,Vi 0,Vz])
 have y8:=fun X=>(OI.refl.app (X:=X)).cells h8
 have B:Chg [] H G8:=m.pre.mut m8 (.inr (by omega))
 have i:lim<=H.length+1:=by omega
 refine NK ?_
 unfold OC at t
 by_cases V:item<1
 ·rw [t (.inl V)] at d
  simp only [n17,r17,x8,e8,y8,i,NG,gt_iff_lt,N5 V,SB,seval,NC,NJ,NF,NP,reduceCtorEq,NB,place,NA,ND]
  exact d _ (by decide) B.app
 by_cases Y:999999<item
 ·rw [t (.inr (.inl Y))] at d
  simp only [n17,r17,x8,e8,y8,i,NG,gt_iff_lt,Ns V,N5 Y,SB,seval,NC,NJ,NF,NP,reduceCtorEq,NB,place,NA,ND]
  exact d _ (by decide) B.app
 by_cases c3:now<0
 ·rw [t (.inr (.inr (.inl c3)))] at d
  simp only [n17,r17,x8,e8,y8,i,NG,gt_iff_lt,Ns V,Ns Y,N5 c3,SB,seval,NC,NJ,NF,NP,reduceCtorEq,NB,place,NA,ND]
  exact d _ (by decide) B.app
 by_cases c4:1051898399<now
 ·rw [t (.inr (.inr (.inr c4)))] at d
  simp only [n17,r17,x8,e8,y8,i,NG,gt_iff_lt,Ns V,Ns Y,Ns c3,N5 c4,SB,seval,NC,NJ,NF,NP,reduceCtorEq,NB,place,NA,ND]
  exact d _ (by decide) B.app
 simp only [n17,r17,x8,e8,y8,i,NG,gt_iff_lt,Ns V,Ns Y,Ns c3,Ns c4,SB,seval,NC,NJ,NF,NP,reduceCtorEq,NB,place,NA,ND]
 have b0:=Nkf S
 have bq:=hS.1
 have a0:=N2m (S:=S) (item:=item)
 have F:=Zn (P:=P) (L:=L) (S:=S) (item:=item) (now:=now) K hS (by omega) (by omega) (by omega) (by unfold OC;omega)
 refine Nx0 (lim:=lim) ((hO.sl OA).app _) (by omega) (by simp;omega) fun G2 z hz v=>?_
 have hle:=Ntw (P:=P) (L:=L) (S:=S) (item:=item) (now:=now) K hS (by omega) (by omega) (by omega) (by unfold OC;omega)
 have aj:Vm (VC (OM S).1 item):=fun e he=>⟨(Nii hS (by omega) he).2.1,(Nii hS (by omega) he).2.2.1⟩
 obtain ⟨es,N⟩:∃es,es=VC (OM S).1 item:=⟨_,rfl⟩
 have bv:es.length<=(OM S).1.length:=by rw [N];exact (Nc3 _ _).length_le
 rw [<-N] at hz F a0 hle aj⊢
 rw [Nb] at hz v⊢
 have sE:Sl G2 encE 7 (Sa G1.length) es:=Nm6 OA hz
 have u:=v.cells k8 (by simp)
 have k:=m.pre.trans v
 have bz:=v.len
 have an:=fun X=>(OI.refl.app (X:=X)).cells u
 obtain ⟨G9,e9,h9,m9⟩:=OP (NM u) (Vc [Vz,Vz,Vz,Vi 0,Vz])
 have y9:=fun X=>(OI.refl.app (X:=X)).cells h9
 have ar:Chg [] H G9:=k.mut m9 (.inr (by omega))
 refine NK ?_
 by_cases Z:es=[]
 ·rw [Ni Z] at F
  rw [F] at d
  subst Z
  simp only [n17,r17,an,e9,y9,i,NG,Nr,show lim<=G2.length by omega,SB,seval,NC,NJ,NF,NP,reduceCtorEq,NB,place,NA,ND]
  exact d _ (by decide) ar.app
 have bu:0<es.length:=List.length_pos_iff.2 Z
 have az:¬((es.length:Nat):Int)=0:=by omega
 rw [Nh Z] at F
 have k4:=m.cells (NS (X:=[Vc (SC pp P.length cp pL L.length cL),Vc [Vz,Vz,Vz,Vi 0,Vz]])) (by simp)
 have U:=v.cells k4 (by simp)
 have bf:=fun X=>(OI.refl.app (X:=X)).cells U
 simp only [n17,r17,an,bf,OQ,NI,i,NG,Ns az,show lim<=G2.length by omega,SB,seval,NC,NJ,NF,NP,reduceCtorEq,NB,place,NA,ND]
 replace hle:=hle Z
 rw [hle] at d ag
 have ae:=hN.sim fun b ro x hb=>k.cells hb (by simp)
 refine N4w (lim:=lim) (ae.app _) (by simp;omega) (sE.app _) (by omega) (fun G3 s f=>?_) (fun G3 q cq r cr s f hq hr=>?_)
 ·have z8:=f.pre.cells u (by simp)
  have b6:=fun X=>(OI.refl.app (X:=X)).cells z8
  have w:=f.cells NS (by simp)
  have y:=fun X=>(OI.refl.app (X:=X)).cells w
  obtain ⟨Ga,ea,o,J⟩:=OP (NM w) (Vc [.slice (Sa G1.length) es.length (OM S).1.length,Vz,Vz,Vi 0,Vz])
  have ao:=J.cells z8 (by have:=NM u;omega)
  have ap:=fun X=>(OI.refl.app (X:=X)).cells ao
  obtain ⟨Gb,eb,hb,mb⟩:=OP (NM ao) (Vc [Vz,Vz,Vz,Vi 0,Vz])
  have zb:=fun X=>(OI.refl.app (X:=X)).cells hb
  refine NK ?_
  simp only [n17,r17,y,ea,ap,eb,zb,i,NG,Ns s,show lim<=G2.length by omega,SB,seval,NC,NJ,NF,NP,reduceCtorEq,NB,place,NA,ND]
  exact d _ s ((k.trans f.pre).mut J (.inr (by have:=k.len;omega)) |>.mut mb (.inr (by omega))).app
 obtain ⟨ks,O⟩:∃ks,ks=Rx P L es:=⟨_,rfl⟩
 obtain ⟨ss,I⟩:∃ss,ss=RV P L es ks:=⟨_,rfl⟩
 rw [<-O] at hq hr⊢
 rw [<-I] at hr⊢
 have z8:=f.pre.cells u (by simp)
 have z4:=f.pre.cells U (by simp)
 have w:=f.cells NS (by simp)
 have y:=fun X=>(OI.refl.app (X:=X)).cells w
 obtain ⟨Ga,ea,o,J⟩:=OP (NM w) (Vc [.slice (Sa G1.length) es.length (OM S).1.length,.slice q ks.length cq,.slice r ss.length cr,Vi (Tp P L es ks),Vz])
 have ay:=f.len
 simp at ay
 have bp:H.length+2<=G2.length:=by have:=m.len;simp at this;omega
 have M:Chg [] H Ga:=(k.trans f.pre).mut J (.inr (by have:=k.len;omega))
 have t:=M.len
 have a8:=J.cells z8 (by have:=NM u;omega)
 have a4:=J.cells z4 (by have:=NM U;omega)
 have a1:=hq.mut J (by simp)
 have a3:=hr.mut J (by simp)
 have bo:=NM hz
 have a7:=(Chg.refl.mut (A:=[G2.length]) J (.inl (by simp))).sl (f.pre.sl sE (fun a _ _ h=>(by cases h))) (fun a o _=>by cases o;simp;omega)
 refine NK ?_
 simp only [n17,r17,y,ea,i,NG,show lim<=G2.length by omega,SB,seval,NC,NJ,NF,NP,reduceCtorEq,NB,place,NA,ND]
 refine Nwh hE ((M.sl hs (fun a _ _ h=>(by cases h))).app _) hS fun G4 tp tc hT l=>?_
 have b8:=l.pre.cells a8 (by simp)
 have b4:=l.pre.cells a4 (by simp)
 have b13:=l.pre.cells o (by simp)
 have bd:=fun X=>(OI.refl.app (X:=X)).cells b8
 have bc:=fun X=>(OI.refl.app (X:=X)).cells b4
 have am:=fun X=>(OI.refl.app (X:=X)).cells b13
 have r13:Tx (Vc [.slice (Sa G1.length) es.length (OM S).1.length,.slice q ks.length cq,.slice r ss.length cr,Vi (Tp P L es ks),Vz])=true:=by simp [Tx]
 have r4:Tx (Vc (SC pp P.length cp pL L.length cL))=true:=by simp [Tx,SC]
 refine NK ?_
 simp only [n17,r17,bd,bc,am,r13,r4,OQ,NI,SB,seval,NC,NJ,NF,NP,reduceCtorEq,NB,place,NA,ND]
 have ak:Vm (VC (OM S).2 item):=fun e he=>by
  have hm:=((MM (show item≠0 by omega)).1 he).1
  have ht:=Ngu hS.2 (.inr hm)
  obtain ⟨s0,a6,e0⟩:=M9 (.inr hm)
  have h6:=(hS.2 s0 a6).2.2.2.2.2.2
  have e6:e.seen=s0.seen:=by rw [<-e0]
  unfold VZ at h6
  unfold OC
  omega
 refine Nx0 (lim:=lim) ((hT.sl OA).app _) (by omega) (by simp;have:=l.pre.len;omega) fun G5 z' T g=>?_
 obtain ⟨tw,htw⟩:∃tw,tw=VC (OM S).2 item:=⟨_,rfl⟩
 have bw:tw.length<=(OM S).2.length:=by rw [htw];exact (Nc3 _ _).length_le
 rw [<-htw] at T ak⊢
 rw [Nb] at T g⊢
 refine ⟨Nkn fun j hj=>?_, ?_⟩
 ·have aq:OD (List.length G4) [] G4=G4:=rfl
  rw [aq] at hj⊢
  obtain ⟨ro,x,hx⟩:=Ux hj
  rw [Nb,g.other j (NM hx) (by simp)]
 have c8:=g.cells b8 (by simp)
 have bm:=g.cells b4 (by simp)
 have c13:=g.cells b13 (by simp)
 have l4:=l.pre.len
 have l5:=g.len
 have ad:Chg [] H G5:=(M.trans l.pre).trans g
 have ah:=(a1.chg (A:=[]) l.pre (by simp)).chg (A:=[]) g (by simp)
 have ai:=(a3.chg (A:=[]) l.pre (by simp)).chg (A:=[]) g (by simp)
 have al:=g.sl (l.pre.sl a7 (fun a _ _ h=>(by cases h))) (fun a _ _ h=>(by cases h))
 have bb:Sl G5 encE 7 (Sa G4.length) tw:=Nm6 OA T
 have D:=Naj (P:=P) (L:=L) (es:=es)
 rw [<-O] at D
 have R:=Nw4 (P:=P) (L:=L) D
 rw [<-I] at R
 have bx:ks.length<=es.length:=Njp D.2
 have bk:ss.length<=ks.length:=by rw [I];unfold RV;rw [Nv,Ps];omega
 refine NK ?_
 simp only [n17,r17,SB,seval,NC,NJ,NF,NP,reduceCtorEq,NB,place,NA,ND]
 have av:=hN.sim fun b ro x hb=>ad.cells hb (by simp)
 refine Ntx (lim:=lim) (ct:=(OM S).2.length) (c:=Tp P L es ks) (al.app _) (.inr ⟨by omega,by omega⟩) (bb.app _) (av.app _) (ah.1.app _) (ai.1.app _) (by simp;omega) (by omega) (by omega) aj ak R.1 R.2 D.mem (by omega) (by omega) ⟨by omega,by unfold OC;omega⟩ fun G6 pl cl n C=>?_
 have d8:=n.pre.cells c8 (by simp)
 have aa:=n.pre.cells c13 (by simp)
 have ab:=fun X=>(OI.refl.app (X:=X)).cells aa
 have bn:=fun X=>(OI.refl.app (X:=X)).cells d8
 obtain ⟨Ge,ee,he,W⟩:=OP (NM aa) (Vc (UE (Sa G1.length) es.length (OM S).1.length q ks.length cq r ss.length cr (Tp P L es ks) pl (VD P L es tw ks ss now).length cl))
 have ac:=W.cells d8 (by omega)
 have xe:=fun X=>(OI.refl.app (X:=X)).cells he
 have be:=fun X=>(OI.refl.app (X:=X)).cells ac
 obtain ⟨Gf,ef,hf,mf⟩:=OP (NM ac) (Vc (UE (Sa G1.length) es.length (OM S).1.length q ks.length cq r ss.length cr (Tp P L es ks) pl (VD P L es tw ks ss now).length cl))
 have xf:=fun X=>(OI.refl.app (X:=X)).cells hf
 simp only [UE] at ee xe ef xf
 refine NK ?_
 simp only [n17,r17,ab,ee,xe,be,ef,xf,i,NG,show lim<=G2.length by omega,SB,seval,NC,NJ,NF,NP,reduceCtorEq,NB,place,NA,ND]
 have l6:=n.pre.len
 have au:H.length<=G1.length:=by have:=m.pre.len;omega
 have ba:=(((Chg.refl.mut (A:=[G2.length,H.length+1]) W (.inl (by simp))).mut mf (.inl (by simp))).sl (n.pre.sl al (fun a _ _ h=>(by cases h))) (fun a o _=>by cases o;simp;omega)).app []
 have a2:=((((ah.chg (A:=[]) n.pre (by simp)).mut W (by simp)).mut mf (by simp;omega)).le (n':=H.length) (by simp;omega)).app []
 have a5:=((((ai.chg (A:=[]) n.pre (by simp)).mut W (by simp)).mut mf (by simp;omega)).le (n':=H.length) (by simp;omega)).app []
 have bg:=NM c13
 have bs:=NM c8
 have aw:=((C.mut W (fun a o=>by have:=(C.block o).1;simp at this;omega)).mut mf (fun a o=>by have:=(C.block o).1;simp at this;omega)).app []
 refine ag _ _ _ q cq r cr pl cl es tw ks ss N htw O I (s) (((ad.trans n.pre).mut W (.inr (by omega))).mut mf (.inr (by omega))).app ⟨ba,fun a o=>by cases o;exact au⟩ (.inr ⟨by omega,by omega⟩) a2 a5 ⟨aw.sl RQ,fun a o=>by have:=(C.block o).1;simp at this;omega⟩
def Nar (L:List Leg):Prop:=(∀l∈L,l.dst=l.frm+1)/\∀a∈L,∀b∈L,a.frm=b.frm->a=b
section
variable {L:List Leg} (hL:Nar L)
include hL
theorem Nar.len:∀{w:List (Leg×Int)} {p t q u:Int},RI L p t w q u->q=p+w.length
 | [],p,t,q,u,h=>by obtain ⟨rfl,_⟩:=h;simp
 | (l,a)::w,p,t,q,u,h=>by
   obtain ⟨h1,h2,c,d,b⟩:=h
   have e:=hL.1 l h1
   have:=Nar.len b
   simp only [Nl]
   omega
theorem Nar.first:∀{w w':List (Leg×Int)} {p t b q u c:Int},RI L p t w q u->ZO t w->RI L p b w' q c->t<=b->u<=c/\w.map (·.1)=w'.map (·.1)
 | [],w',p,t,b,q,u,c,h,_,h',ht=>by
   have e:=hL.len h'
   obtain ⟨rfl,rfl⟩:=h
   have:w'=[]:=List.length_eq_zero_iff.1 (by omega)
   subst this
   obtain ⟨_,rfl⟩:=h'
   exact ⟨ht,rfl⟩
 | (l,a)::w,[],p,t,b,q,u,c,h,_,h',ht=>by
   have e:=hL.len h
   obtain ⟨rfl,_⟩:=h'
   simp only [Nl] at e
   omega
 | (l,a)::w,(l',a')::w',p,t,b,q,u,c,h,hn,h',ht=>by
   obtain ⟨h1,h2,o,r,i⟩:=h
   obtain ⟨d,m,f,n,g⟩:=h'
   obtain ⟨j,k⟩:=hn
   obtain rfl:l=l':=hL.2 l h1 l' d (by omega)
   have:=(RX j).2.2 a' f (by omega)
   obtain ⟨k1,k2⟩:=Nar.first i k g (by omega)
   exact ⟨k1,by rw [Of,Of,k2]⟩
theorem Nar.best {w:List (Leg×Int)} {p t q u:Int} (h:RI L p t w q u) (hn:ZO t w) (g:u<=t+86400):TK L p t q u/\BestW L p t q u w:=by
 have key:∀j v',Go.Net.Way L j p t q v'->u<=v'/\w.length=j:=fun j v' d=>by
  obtain ⟨w',e,b⟩:=d.isWay
  have k:=hL.first h hn b (Oq _)
  have:=Qn List.length k.2
  rw [Nv,Nv] at this
  exact ⟨k.1,by omega⟩
 refine ⟨.inr ⟨⟨⟨_,h.way⟩,g⟩,fun v ⟨⟨j,d⟩,_⟩=>(key j v d).1⟩,h,fun j v' d _=>by have:=(key j v' d).2;omega,fun w' v' b _ _ c=>?_,hn⟩
 have k:=hL.first h hn b (Oq _)
 have e:Z4 w'=Z4 w:=by
  unfold Z4
  have:=Qn (List.map fun l:Leg=>l.id) k.2
  rw [List.map_map,List.map_map] at this
  exact this.symm
 rw [e] at c
 exact f _ c
where
 f:∀x:List Int,¬Nlt x x
 | [],h=>by cases h
 | a::x,h=>by rcases h with h | ⟨_,h⟩;omega;exact f x h
theorem Nar.way {P:List Int} {w:List (Leg×Int)} {p t q u:Int} (h:RI L p t w q u) (hn:ZO t w) (a:u<=t+86400) (b:0<=u) (he:Vv P L p q t=0):M3 P L p q t=w:=
 Ndf ⟨he,u,b,(hL.best h hn a).1,(hL.best h hn a).2⟩
theorem Nar.arr {P:List Int} {w:List (Leg×Int)} {p t q u:Int} (h:RI L p t w q u) (hn:ZO t w) (a:u<=t+86400) (he:Vv P L p q t=0):Nfo P L p t q=u:=by
 obtain ⟨hv,hp,b,c,_⟩:=Mm he
 exact Sz.uniq (Ndb (VS hv) hp b c) (hL.best h hn a).1
end
theorem N2g {P:List Int} {L:List Leg} {a b:Ev} {v:Int} (c:a.kind≠4) (e:b.place∈P) (he:Vv P L a.place a.place a.time=0) (hv:Nfo P L a.place a.time b.place=v) (f:0<=v) (d:v<=b.time):R4 P L a b=0:=by
 unfold R4
 rw [Nh c]
 by_cases hp:a.place=b.place
 ·rw [Ni hp]
 rw [Nh hp,Nh (by simpa using e),Nh (by simpa using he),hv,Nh (by omega)]
 omega
section
variable {P:List Int} {L:List Leg} {es:List Ev}
theorem Njf {ks:List Int} (h:Ngr es.length ks):0<=Tp P L es ks:=by
 have h1:=Njp h.2
 have h2:=ZV (P:=P) (L:=L) (es:=es) (ks:=ks) (ks.length-1)
 unfold Tp RV
 omega
def N09 (P:List Int) (L:List Leg) (es:List Ev):Int:=Tp P L es (Rx P L es)
theorem Njn:0<=N09 P L es:=Njf Naj
def Nm1 (n:Nat):List Int:=(List.range n).map Int.ofNat
theorem Vx {n:Nat}:(Nm1 n).length=n:=by simp [Nm1]
theorem Nan {n i:Nat} (h:i<n):gt (Nm1 n) i=(i:Int):=by rw [QH (by simpa [Nm1] using h)];simp [Nm1]
theorem N4d {n:Nat}:Ngr n (Nm1 n):=⟨fun h=>by rwa [Vx] at h,fun i hi=>by
 rw [Vx] at hi
 unfold Ncn
 rw [Nan hi]
 refine ⟨by omega,by omega,fun h=>?_⟩
 rw [Nan (by omega)]
 omega⟩
theorem Ngs:∀(l:List (Int×Int×Int)),(∀x∈l,x.2.2=0)->Wu l=0
 | [],_=>rfl
 | x::l,h=>by rw [Wu,h x (by simp),Ngs l fun y a=>h y (by simp [a])];rfl
theorem N1g (h:∀i,i+1<es.length->R4 P L (gt es i) (gt es (i+1))=0):Tp P L es (Nm1 es.length)=0:=by
 unfold Tp
 rw [Vx,Ngs]
 ·omega
 ·intro x a
  unfold RV at a
  obtain ⟨i,hi,rfl⟩:=List.mem_map.1 a
  have hi:=List.mem_range.1 hi
  rw [Vx] at hi
  unfold Ur
  rw [Nan (by omega),Nan (by omega)]
  exact h i (by omega)
theorem Nu9 (h:∀i,i+1<es.length->R4 P L (gt es i) (gt es (i+1))=0):N09 P L es=0/\(Rx P L es).length=es.length:=by
 have b:=N1g h
 have h1:=Njn (P:=P) (L:=L) (es:=es)
 have h2:=Njp (Naj (P:=P) (L:=L) (es:=es)).2
 rcases N08 (P:=P) (L:=L) (N4d (n:=es.length)) with a | ⟨a,hc | ⟨hc,_⟩⟩
 ·rw [b] at a;exact absurd a (by unfold N09 at h1;omega)
 ·rw [Vx] at hc;rw [b] at a;exact ⟨a,by omega⟩
 ·rw [Vx] at hc;rw [b] at a;exact ⟨a,by omega⟩
end
theorem Nqe {P:List Int} {L:List Leg} {es:List Ev} (h:∀i,i+1<es.length->R4 P L (gt es i) (gt es (i+1))=0):Rx P L es=Nm1 es.length/\Tp P L es (Rx P L es)=0:=by
 obtain ⟨h1,h2⟩:=Nu9 h
 have hk:=Naj (P:=P) (L:=L) (es:=es)
 refine ⟨?_,h1⟩
 refine Pj (by rw [Vx,h2]) fun i hi a=>?_
 rw [<-QH hi,<-QH a,Nan (by rw [Vx] at a;exact a)]
 have mono:∀d i,i+d<(Rx P L es).length->gt (Rx P L es) i+d<=gt (Rx P L es) (i+d):=fun d=>by
  induction d with
  | zero=>intro i _;simp
  | succ d ih=>
    intro i hd
    have k1:=ih i (by omega)
    have k2:gt (Rx P L es) (i+(d+1)-1)<gt (Rx P L es) (i+(d+1)):=(hk.2 (i+(d+1)) hd).2.2 (by omega)
    rw [show i+(d+1)-1=i+d by omega] at k2
    omega
 have b:=Nqi hk.2 i hi
 have c:=mono (es.length-1-i) i (by omega)
 have e:=(hk.2 (i+(es.length-1-i)) (by omega)).2.1
 omega
def k1L:Leg:=⟨1,1,2,600,60,0,1000,127⟩
def k2L:Leg:=⟨2,2,3,700,100,0,1000,127⟩
def PX:List Int:=[1,2,3]
def LX:List Leg:=[k1L,k2L]
theorem N0y:Nar LX:=⟨by decide,by decide⟩
theorem nk1:RY k1L 500=some 600:=nx 0 rfl (by decide) (by decide) (by decide) (by decide) (by decide)
theorem nk2:RY k2L 660=some 700:=nx 0 rfl (by decide) (by decide) (by decide) (by decide) (by decide)
theorem N8r:RI LX 1 500 [(k1L,600),(k2L,700)] 3 800:=by
 obtain ⟨a,_⟩:=RX nk1
 obtain ⟨b,_⟩:=RX nk2
 exact ⟨by simp [LX],rfl,a,by decide,by simp [LX],rfl,b,by decide,rfl,by decide⟩
theorem Nyg:ZO 500 [(k1L,600),(k2L,700)]:=⟨nk1,nk2,trivial⟩
theorem Oez:Nfo PX LX 1 500 3=800:=N0y.arr N8r Nyg (by decide) (by decide)
theorem wX:M3 PX LX 1 3 500=[(k1L,600),(k2L,700)]:=N0y.way N8r Nyg (by decide) (by decide) (by decide)
def Nbz (p t k:Int):Ev:=⟨7,p,p,k,t,t,0⟩
def evX (p t k:Int):Ev:=⟨7,p,p,k,t,t,t⟩
def SA:List Ev:=[Nbz 1 500 2,Nbz 3 800 2]
def SBx:List Ev:=[Nbz 1 500 2,Nbz 3 800 2,Nbz 1 501 2]
def SDx:List Ev:=[Nbz 1 500 2,Nbz 1 505 4,Nbz 1 600 2]
def EA:List Ev:=[evX 1 500 2,evX 3 800 2]
def ED:List Ev:=[evX 1 500 2,evX 1 505 4,evX 1 600 2]
theorem N41:VC (OM SA).1 7=EA:=by decide
theorem N9g:VC (OM SBx).1 7=EA:=by decide
theorem N9f:VC (OM SDx).1 7=ED:=by decide
theorem N5v:VC (OM SA).2 7=[]:=by decide
theorem N94:VC (OM SBx).2 7=[evX 1 501 2]:=by decide
theorem N93:VC (OM SDx).2 7=[]:=by decide
theorem prX:R4 PX LX (evX 1 500 2) (evX 3 800 2)=0:=N2g (v:=800) (by decide) (by decide) (by decide) Oez (by decide) (by decide)
theorem Nqf:Rx PX LX EA=[0,1]/\Tp PX LX EA [0,1]=0:=by
 obtain ⟨h1,h2⟩:=Nqe (P:=PX) (L:=LX) (es:=EA) fun i hi=>by
  have:i=0:=by simp [EA] at hi;omega
  subst this;exact prX
 have e:Rx PX LX EA=[0,1]:=h1.trans rfl
 exact ⟨e,by rw [<-e];exact h2⟩
theorem Nh7:RV PX LX EA [0,1]=[(0,1,0)]:=by
 show [((0:Int),(1:Int),R4 PX LX (evX 1 500 2) (evX 3 800 2))]=_
 rw [prX]
theorem N8d:Rx PX LX ED=[0,1]:=by decide
theorem N11:RV PX LX ED [0,1]=[(0,1,0)]:=by decide
def TB:An:=⟨5,1,0,2,0⟩
def Nvo:An:=⟨6,0,0,1,1⟩
def Nao:An:=⟨7,1,0,3,28000⟩
def Nft:An:=⟨1,2,0,1,0⟩
theorem N8g (tw:List Ev):VD PX LX EA tw [0,1] [(0,1,0)] 900=R9 EA tw 0++(TB::R9 EA tw 1)/\VD PX LX EA tw [0,1] [(0,1,0)] 28800=R9 EA tw 0++(TB::R9 EA tw 1)++[Nao]:=by
 have e0:atN PX LX EA tw [0,1] [(0,1,0)] 0=R9 EA tw 0:=rfl
 have e2:Uv PX LX EA (0,1,0)=[TB]:=by
  have:Uv PX LX EA (0,1,0)=TT PX LX EA (0,1,0):=rfl
  rw [this]
  have:TT PX LX EA (0,1,0)=(M3 PX LX 1 3 500).dropLast.map (Y6 (0,1,0)):=rfl
  rw [this,wX];rfl
 have e1:atN PX LX EA tw [0,1] [(0,1,0)] 1=Uv PX LX EA (0,1,0)++R9 EA tw 1:=rfl
 rw [e2] at e1
 have e3:∀now,VD PX LX EA tw [0,1] [(0,1,0)] now=atN PX LX EA tw [0,1] [(0,1,0)] 0++(atN PX LX EA tw [0,1] [(0,1,0)] 1++[])++Xl EA [0,1] now:=fun now=>rfl
 constructor
 ·rw [e3,e0,e1,show Xl EA [0,1] 900=[] from by decide];simp
 ·rw [e3,e0,e1,show Xl EA [0,1] 28800=[Nao] from by decide];simp
theorem N6x:VD PX LX EA [] [0,1] [(0,1,0)] 900=[TB]:=(N8g []).1
theorem N6w:VD PX LX EA [evX 1 501 2] [0,1] [(0,1,0)] 900=[Nvo,TB]:=(N8g _).1.trans (by decide)
theorem N6v:VD PX LX EA [] [0,1] [(0,1,0)] 28800=[TB,Nao]:=(N8g []).2
theorem N6u:VD PX LX ED [] [0,1] [(0,1,0)] 900=[Nft]:=rfl
theorem Xe [OB] {mp:Bool} {lim:Nat} {p t k:Int} {H:NE} {Q:Value->NE->Prop}:NL E mp lim 31 [Vi p,Vi t,.int .u8 k] H Q=Q (.agg #[Vi 7,Vi p,Vi p,.int .u8 k,Vi t,Vi t]) H:=by
 refine pc (by decide) e31 rfl rfl ?_
 rw [b31,c31]
 simp only [n31,r31,NG,SB,seval,NC,NJ,NF,NP,reduceCtorEq,NB,place,NA,ND]
theorem U0 [OB] {lim:Nat} {H:NE} {Q:Value->NE->Prop} (hl:lim<=H.length) (c:∀G a b,OI H G->NetIn G a b PX LX->Q (.agg (SC a 3 3 b 2 2).toArray) G):NL E false lim 39 [] H Q:=by
 refine R5 (by decide) e39 rfl ?_
 rw [b39,c39]
 simp only [n39,r39,NG,hl,SB,seval,NC,NJ,NF,NP,reduceCtorEq,NB,place,NA,ND]
 refine c _ (Sa (H.length+1)) (Sa (H.length+2)) OI.refl.app ⟨Sl.row (ro:=false) RP (by rw [NW];rfl),Sl.row (ro:=false) OH (by rw [NW];rfl),by decide,by decide, ?_⟩
 intro l hl
 simp only [LX,Np,Pa,or_false] at hl
 rcases hl with rfl | rfl<;>(unfold By;decide)
theorem Oe1 (x y:An):aEq (.agg [.int .u8,.int .i64,.int .i64,.int .i64,.int .i64]) (.agg (Uo x).toArray) (.agg (Uo y).toArray)=some (decide (x=y)):=by
 obtain ⟨a,b,c,d,e⟩:=x
 obtain ⟨a',b',f,g,h⟩:=y
 simp only [aEq,Uo,PM,TA,An.mk.injEq]
 simp
 rfl
theorem Nc9 [OB] {mp:Bool} {lim ca cb:Nat} {p q:Option Addr} {a b:List An} {H:NE} {Q:Value->NE->Prop} (n:Sl H Uo 5 p a) (o:Sl H Uo 5 q b) (hn:a.length<2 ^ 62) :
  NL E mp lim 30 [.slice p a.length ca,.slice q b.length cb] H Q=Q (.bool (decide (a=b))) H:=by
 refine pc (by decide) e30 rfl rfl ?_
 rw [b30,c30]
 by_cases hl:a.length=b.length
 case neg=>
  have h1:¬(a.length:Int)=(b.length:Int):=by omega
  simp only [n30,r30,Ns h1,SB,seval,NC,NJ,NF,NP,reduceCtorEq,NB,place,NA,ND]
  congr 1
  rw [eq_comm,decide_eq_false_iff_not]
  rintro rfl
  exact hl rfl
 have h1:(a.length:Int)=(b.length:Int):=by omega
 simp only [n30,r30,N5 h1,SB,seval,NC,NJ,NF,NP,reduceCtorEq,NB,place,NA,ND]
 refine NR (fun j=>a.length-j) (fun j fr G=>j<=a.length/\fr 0=.slice p a.length ca/\fr 1=.slice q b.length cb/\fr 12=Vi a.length/\fr 13=Vi j/\OI H G/\∀i,i<j->gt a i=gt b i) 0 ⟨Nx _,rfl,rfl,rfl,by rfl,OI.refl.app,fun i hi=>by omega⟩ ?_
 intro j fr G ⟨v,f0,f1,f12,f13,g,f⟩ hN
 rw [NT N5n.eq_1]
 refine NK ?_
 by_cases d:j<a.length
 case neg=>
  obtain rfl:j=a.length:=by omega
  simp only [n30,r30,f0,f1,f12,f13,NV,d,SB,seval,NC,NJ,NF,NP,reduceCtorEq,NB,place,NA,ND]
  have:a=b:=Pj hl fun i h1 h2=>by rw [<-QH h1,<-QH h2];exact f i h1
  rw [Nq this]
 have l:j<b.length:=by omega
 have r:=fun X=>((g.sl n).app X).loadCells RQ d
 have s:=fun X=>((g.sl o).app X).loadCells RQ l
 have t:=fun c (kk:IntKind) (H1:NE)=>(g.sl n).idx (c:=c) (k:=kk) (H1:=H1) d
 have u:=fun c (kk:IntKind) (H1:NE)=>(g.sl o).idx (c:=c) (k:=kk) (H1:=H1) l
 have m:IntKind.i64.wrap ((j:Int)+1)=((j+1:Nat):Int):=OG (by omega)
 have e:=Oe1 (gt a j) (gt b j)
 by_cases he:gt a j=gt b j
 ·rw [Nq he] at e
  simp only [n30,r30,f0,f1,f12,f13,NV,d,r,s,t,u,m,e,SB,seval,NC,NJ,NF,NP,reduceCtorEq,NB,place,NA,ND]
  exact hN (j+1) _ _ ⟨by omega,f0,f1,f12,rfl,g.trans OI.refl.app,fun i hi=>by
   rcases On i j with h | h
   ·exact f i h
   ·rw [show i=j by omega];exact he⟩ (by omega)
 ·rw [N7 he] at e
  simp only [n30,r30,f0,f1,f12,f13,NV,d,r,s,t,u,m,e,SB,seval,NC,NJ,NF,NP,reduceCtorEq,NB,place,NA,ND]
  congr 1
  rw [eq_comm,decide_eq_false_iff_not]
  rintro rfl
  exact he rfl
def Neh:List Value:=[.string ⟨#[]⟩,.string ⟨#[115,116,114,97,121]⟩,.string ⟨#[97,102,116,101,114]⟩,.string ⟨#[106,117,109,112]⟩,.string ⟨#[101,97,114,108,121]⟩,.string ⟨#[109,105,115,115,101,100]⟩,.string ⟨#[100,111,117,98,108,101,100]⟩,.string ⟨#[108,111,115,116]⟩]
theorem Zj:Neh.length=8:=id rfl
theorem Nli [OB] {mp:Bool} {lim:Nat} {H:NE} {Q:Value->NE->Prop}:NL E mp lim 35 [] H Q=Q (.agg Neh.toArray) H:=by
 refine pc (by decide) e35 rfl rfl ?_
 rw [b35,c35]
 simp only [n35,r35,NG,SB,seval,NC,NJ,NF,NP,reduceCtorEq,NB,place,NA,ND]
 rfl
def Nb6 (n:Nat):Value:=Neh.getD n (.string ⟨#[]⟩)
theorem Noy (n:Nat):flat 4 (Nb6 n)=true:=by
 unfold Nb6 Neh
 rcases n with _ | _ | _ | _ | _ | _ | _ | _ | n<;>rfl
theorem Niv [OB] {mp:Bool} {lim n:Nat} {H:NE} {Q:Value->NE->Prop} (hn:n<256):NL E mp lim 13 [.int .u8 (n:Int)] H Q=Q (Nb6 n) H:=by
 refine pc (by decide) e13 rfl (Noy n) ?_
 rw [b13,c13]
 have c:IntKind.i64.wrap ((n:Nat):Int)=n:=NU (by omega) (by omega)
 by_cases b:8<=(n:Int)
 ·have e:Nb6 n=.string ⟨#[]⟩:=by unfold Nb6;rw [Na,Nw (by rw [Zj];omega)];rfl
  simp only [n13,r13,Nli,NG,c,ge_iff_le,N5 b,Zj,e,SB,seval,NC,NJ,NF,NP,reduceCtorEq,NB,place,NA,ND]
 ·have e:∀(v:Value),Neh[n]? = some v->v=Nb6 n:=fun v hv=>by unfold Nb6;rw [Na,hv];rfl
  have a:n<Neh.length:=by rw [Zj];omega
  have e2:Neh[n]? = some (Nb6 n):=by rw [Nf a];congr 1;exact e _ (Nf a)
  simp only [n13,r13,Nli,NG,c,ge_iff_le,Ns b,Zj,e2,N5 (show (0:Int)<=n by omega),N5 (show (n:Int)<8 by omega),and_self,if_true,O8,SB,seval,NC,NJ,NF,NP,reduceCtorEq,NB,place,NA,ND]
theorem set_self {G:NE} {b:Nat} {x:Blk} (h:NH G b=x) (a:b<G.length):G.set b x=G:=by
 apply Pj (by simp)
 intro j h1 h2
 rw [List.getElem_set]
 split
 ·rename_i e;subst e
  unfold NH at h
  rw [Na,Nf a] at h
  exact h.symm
 ·rfl
def Yf:ACode:=Sb (Sb (Sb (Sb c18)))
theorem N35:c18=.seq (TC c18) (.seq (TC (Sb c18)) (.seq (TC (Sb (Sb c18))) (.seq (TC (Sb (Sb (Sb c18)))) Yf))):=rfl
def Wp:ACode:=Sb Yf
theorem Nwg:Yf=.seq (TC Yf) Wp:=rfl
def WX:ACode:=Sb Wp
theorem Nqv:Wp=.seq (TC Wp) WX:=rfl
def Yc:ACode:=Sb WX
theorem Nqu:WX=.seq (TC WX) Yc:=rfl
def YY:ACode:=Sb Yc
theorem Nqt:Yc=.seq (TC Yc) YY:=rfl
def Njs:ACode:=Sb YY
theorem Nqs:YY=.seq (TC YY) Njs:=rfl
theorem Ocv:Td PX LX SA 7 900=0:=by decide
theorem Ocu:Td PX LX SBx 7 900=0:=by decide
theorem Ocs:Td PX LX SA 7 28800=0:=by decide
theorem Ocr:Td PX LX SDx 7 900=0:=by decide
theorem N9r:Td PX LX SBx 8 900=6:=by decide
def YW (G:NE) (b:Nat) (A:List An):Prop:=∃pe n ce q nk cq r ns cr c pl cl,NH G b=Vc (UE pe n ce q nk cq r ns cr c pl A.length cl)/\Sl G Uo 5 pl A
theorem YW.ext {G G':NE} {b:Nat} {A:List An} (h:YW G b A) (e:OI G G'):YW G' b A:=by
 obtain ⟨pe,n,ce,q,nk,cq,r,ns,cr,c,pl,cl,h1,h2⟩:=h
 exact ⟨pe,n,ce,q,nk,cq,r,ns,cr,c,pl,cl,e.cells h1,e.sl h2⟩
theorem Nc5 [OB] (m:EffOk) {lim c cp cL:Nat} {p pp pL:Option Addr} {S tw es:List Ev} {ks:List Int} {ss:List Stp} {A:List An} {now:Int} {H:NE} {Q:Value->NE->Prop} (hN:NetIn H pp pL PX LX) (hs:Sl H QJ 6 p S) (hn:S.length<2 ^ 63) (hl:lim<=H.length)
  (g:Td PX LX S 7 now=0) (h1:VC (OM S).1 7=es) (h2:VC (OM S).2 7=tw) (i:Rx PX LX es=ks) (j:RV PX LX es ks=ss) (k:VD PX LX es tw ks ss now=A)
  (o:∀G pe n ce q nk cq r ns cr c pl cl,OI H G->Sl G Uo 5 pl A->Q (.tuple #[.agg (UE pe n ce q nk cq r ns cr c pl A.length cl).toArray,Vi 0]) G) :
  NL E false lim 17 [.agg (SC pp PX.length cp pL LX.length cL).toArray,.slice p S.length c,Vi 7,Vi now] H Q:=by
 refine UB m hN hs hn hl (fun G h=>absurd g h) fun G pe ce q cq r cr pl cl es' d a b e1 e2 e3 f _ l _ _ _ _ e=>?_
 obtain rfl:es'=es:=e1.trans h1
 obtain rfl:d=tw:=e2.trans h2
 obtain rfl:a=ks:=e3.trans i
 obtain rfl:b=ss:=f.trans j
 rw [k] at e⊢
 exact o G _ _ _ _ _ _ _ _ _ _ _ _ l.ext e.1
structure A18 (b1 b2 b3:Nat) (G:NE) (fr:Nat->Value):Prop where
 f1:fr 1=.slice (Sa b1) 3 3
 f2:fr 2=Vp b2
 f3:fr 3=Vp b3
 k1:NH G b1=Vc (SBx.flatMap QJ)
 k2:NH G b2=Vc (Uo TB)
 k3:NH G b3=Vc (Uo Nvo)
section
variable {lim b1 b2 b3:Nat} {fr:Nat->Value} {G:NE} {Q:Value->NE->Prop}
theorem chA [OB] (M:EffOk) (h:A18 b1 b2 b3 G fr) (hl:lim<=G.length)
  (N:∀fr' G' x,OI G G'->(∀t,t<14->t≠4->t≠5->fr' t=fr t)->fr' 4=Vp x->fr' 5=Vi 0->YW G' x [TB]->PQ E a18 lim [.code Wp] fr' G' Q):PQ E a18 lim [.code Yf] fr G Q:=by
 rw [Nwg]
 refine NK ?_
 have v:Sl G QJ 6 (Sa b1) SBx:=Sl.row OT h.k1
 obtain ⟨q1,J,S,P,_,_,_⟩:=Uf (c:=3) (vlo:=none) (vhi:=some (Vi 2)) (lo:=0) (hi:=2) v (.inr ⟨by decide,by decide⟩) OT (fun cap F=>by rw [Mq (by decide) (by have:SBx.length=3:=rfl;omega)];rfl) (by decide) (by decide) (by decide)
 simp only [TC,Sb,Yf,c18,n18,r18,h.f1,SB,seval,NC,NJ,NF,NP,reduceCtorEq,NB,place,NA,ND]
 refine U0 (by simp;omega) fun G1 a b f u=>?_
 have O:=f.len
 simp at O
 have l:NH G1 G.length=.dead:=by obtain ⟨X,rfl⟩:=f;rw [NN (by simp),NS];rfl
 have j:List.set G1 G.length Blk.dead=G1:=set_self l (by omega)
 have z:V4 6 (.slice (Sa b1) 3 3) none (some (Vi 2)) none=some (.slice q1 2 J):=S
 have d:OI G G1:=by obtain ⟨X,rfl⟩:=f;rw [Nn];exact OI.refl.app
 refine NK ?_
 simp only [n18,r18,h.f1,z,j,SB,seval,NC,NJ,NF,NP,reduceCtorEq,NB,place,NA,ND]
 simp only [Nb,j]
 have w:Sl G1 QJ 6 q1 SA:=d.sl P
 refine Nc5 M u w (by decide) (by omega) Ocv N41 N5v Nqf.1 Nh7 N6x fun G2 pe n ce q nk cq r ns cr c pl cl g L=>?_
 have W:=g.len
 have B:NH G2 G.length=.dead:=by obtain ⟨X,rfl⟩:=g;rw [NN (by omega)];exact l
 have m:NH (G1++[]) G.length=.dead:=by rw [Nb];exact l
 have y:List.set G2 G.length Blk.dead=G2:=set_self B (by omega)
 obtain ⟨U,e3,D,H⟩:=OP (G:=G2) (R:=G.length) (by omega) (Vc [Vz,Vz,Vz,Vi 0,Vz])
 obtain ⟨k,C,K,I⟩:=OP (NM D) (Vc (UE pe n ce q nk cq r ns cr c pl [TB].length cl))
 have p:Chg [] G k:=(((d.trans g).chg (A:=[])).mut H (.inr (Nd _))).mut I (.inr (Nd _))
 have o:Sl k Uo 5 pl [TB]:=L.sim (G:=k) fun b ro x s=>by
  have i:b≠G.length:=fun e=>by rw [e,B] at s;cases s
  exact I.cells (H.cells s i) i
 have T:=fun X=>(OI.refl.app (X:=X)).cells D
 simp only [Nl,Nr,N6,Nat.reduceAdd] at C
 refine NK ?_
 simp only [n18,r18,m,y,e3,T,C,hl,QW,NI,NG,SB,seval,NC,NJ,NF,NP,reduceCtorEq,NB,place,NA,ND]
 exact N _ _ G.length (p.ext.trans OI.refl.app) (fun t V h1 h2=>by simp only [upd];repeat rw [Nh (by omega)]) rfl rfl ⟨pe,n,ce,q,nk,cq,r,ns,cr,c,pl,cl,by rw [Nb];exact K,o.app _⟩
theorem chB [OB] (j:EffOk) (h:A18 b1 b2 b3 G fr) (hl:lim<=G.length)
  (k:∀fr' G' x,OI G G'->(∀t,t<14->t≠6->t≠7->fr' t=fr t)->fr' 6=Vp x->fr' 7=Vi 0->YW G' x [Nvo,TB]->PQ E a18 lim [.code WX] fr' G' Q):PQ E a18 lim [.code Wp] fr G Q:=by
 rw [Nqv]
 refine NK ?_
 have g:Sl G QJ 6 (Sa b1) SBx:=Sl.row OT h.k1
 simp only [TC,Sb,Wp,Yf,c18,n18,r18,h.f1,SB,seval,NC,NJ,NF,NP,reduceCtorEq,NB,place,NA,ND]
 rw [Nb]
 refine U0 (by omega) fun G1 a b d f=>?_
 have m:=d.len
 refine NK ?_
 simp only [n18,r18,h.f1,SB,seval,NC,NJ,NF,NP,reduceCtorEq,NB,place,NA,ND]
 rw [Nb]
 refine Nc5 j (c:=3) f (d.sl g) (by decide) (by omega) Ocu N9g N94 Nqf.1 Nh7 N6w fun G2 pe n ce q nk cq r ns cr c pl cl e i=>?_
 have o:=e.len
 refine NK ?_
 simp only [n18,r18,QW,NI,NG,show lim<=G2.length by omega,SB,seval,NC,NJ,NF,NP,reduceCtorEq,NB,place,NA,ND]
 exact k _ _ G2.length ((d.trans e).trans OI.refl.app) (fun t l h1 h2=>by simp only [upd];repeat rw [Nh (by omega)]) rfl rfl ⟨pe,n,ce,q,nk,cq,r,ns,cr,c,pl,cl,by rw [NS];rfl,i.app _⟩
theorem chC [OB] (M:EffOk) (h:A18 b1 b2 b3 G fr) (hl:lim<=G.length)
  (N:∀fr' G' x,OI G G'->(∀t,t<14->t≠8->t≠9->fr' t=fr t)->fr' 8=Vp x->fr' 9=Vi 0->YW G' x [TB,Nao]->PQ E a18 lim [.code Yc] fr' G' Q):PQ E a18 lim [.code WX] fr G Q:=by
 rw [Nqu]
 refine NK ?_
 have v:Sl G QJ 6 (Sa b1) SBx:=Sl.row OT h.k1
 obtain ⟨q1,J,S,P,_,_,_⟩:=Uf (c:=3) (vlo:=none) (vhi:=some (Vi 2)) (lo:=0) (hi:=2) v (.inr ⟨by decide,by decide⟩) OT (fun cap F=>by rw [Mq (by decide) (by have:SBx.length=3:=rfl;omega)];rfl) (by decide) (by decide) (by decide)
 simp only [TC,Sb,WX,Wp,Yf,c18,n18,r18,h.f1,SB,seval,NC,NJ,NF,NP,reduceCtorEq,NB,place,NA,ND]
 refine U0 (by simp;omega) fun G1 a b f u=>?_
 have O:=f.len
 simp at O
 have l:NH G1 G.length=.dead:=by obtain ⟨X,rfl⟩:=f;rw [NN (by simp),NS];rfl
 have j:List.set G1 G.length Blk.dead=G1:=set_self l (by omega)
 have z:V4 6 (.slice (Sa b1) 3 3) none (some (Vi 2)) none=some (.slice q1 2 J):=S
 have d:OI G G1:=by obtain ⟨X,rfl⟩:=f;rw [Nn];exact OI.refl.app
 refine NK ?_
 simp only [n18,r18,h.f1,z,j,SB,seval,NC,NJ,NF,NP,reduceCtorEq,NB,place,NA,ND]
 simp only [Nb,j]
 have w:Sl G1 QJ 6 q1 SA:=d.sl P
 refine Nc5 M u w (by decide) (by omega) Ocs N41 N5v Nqf.1 Nh7 N6v fun G2 pe n ce q nk cq r ns cr c pl cl g L=>?_
 have W:=g.len
 have B:NH G2 G.length=.dead:=by obtain ⟨X,rfl⟩:=g;rw [NN (by omega)];exact l
 have m:NH (G1++[]) G.length=.dead:=by rw [Nb];exact l
 have y:List.set G2 G.length Blk.dead=G2:=set_self B (by omega)
 obtain ⟨U,e3,D,H⟩:=OP (G:=G2) (R:=G.length) (by omega) (Vc [Vz,Vz,Vz,Vi 0,Vz])
 obtain ⟨k,C,K,I⟩:=OP (NM D) (Vc (UE pe n ce q nk cq r ns cr c pl [TB,Nao].length cl))
 have p:Chg [] G k:=(((d.trans g).chg (A:=[])).mut H (.inr (Nd _))).mut I (.inr (Nd _))
 have o:Sl k Uo 5 pl [TB,Nao]:=L.sim (G:=k) fun b ro x s=>by
  have i:b≠G.length:=fun e=>by rw [e,B] at s;cases s
  exact I.cells (H.cells s i) i
 have T:=fun X=>(OI.refl.app (X:=X)).cells D
 simp only [Nl,Nr,N6,Nat.reduceAdd] at C
 refine NK ?_
 simp only [n18,r18,m,y,e3,T,C,hl,QW,NI,NG,SB,seval,NC,NJ,NF,NP,reduceCtorEq,NB,place,NA,ND]
 exact N _ _ G.length (p.ext.trans OI.refl.app) (fun t V h1 h2=>by simp only [upd];repeat rw [Nh (by omega)]) rfl rfl ⟨pe,n,ce,q,nk,cq,r,ns,cr,c,pl,cl,by rw [Nb];exact K,o.app _⟩
theorem chD [OB] (h:EffOk) (hl:lim<=G.length)
  (j:∀fr' G' x,OI G G'->(∀t,t<14->t≠10->t≠11->fr' t=fr t)->fr' 10=Vp x->fr' 11=Vi 0->YW G' x [Nft]->PQ E a18 lim [.code YY] fr' G' Q):PQ E a18 lim [.code Yc] fr G Q:=by
 rw [Nqt]
 refine NK ?_
 simp only [TC,Sb,Yc,WX,Wp,Yf,c18,n18,r18,SB,seval,NC,NJ,NF,NP,reduceCtorEq,NB,place,NA,ND]
 rw [Nb]
 refine U0 (by omega) fun G1 a b d f=>?_
 have m:=d.len
 refine NK ?_
 simp only [n18,r18,Xe,NG,QM,TQ,show lim<=G1.length by omega,SB,seval,NC,NJ,NF,NP,reduceCtorEq,NB,place,NA,ND]
 refine Nc5 h (c:=3) (S:=SDx) (f.app _) (Sl.row (ro:=false) OT (by rw [NS];rfl)) (by decide) (by simp;omega) Ocr N9f N93 N8d N11 N6u fun G2 pe n ce q nk cq r ns cr c pl cl e g=>?_
 have k:=e.len
 simp at k
 have i:OI G G2:=by obtain ⟨X,rfl⟩:=e;obtain ⟨Y,rfl⟩:=d;rw [Nn,Nn];exact OI.refl.app
 refine NK ?_
 simp only [n18,r18,QW,NI,NG,show lim<=G2.length by omega,SB,seval,NC,NJ,NF,NP,reduceCtorEq,NB,place,NA,ND]
 exact j _ _ G2.length (i.trans OI.refl.app) (fun t l h1 h2=>by simp only [upd];repeat rw [Nh (by omega)]) rfl rfl ⟨pe,n,ce,q,nk,cq,r,ns,cr,c,pl,cl,by rw [NS];rfl,g.app _⟩
theorem chE [OB] (i:EffOk) (h:A18 b1 b2 b3 G fr) (hl:lim<=G.length)
  (j:∀fr' G',OI G G'->(∀t,t<12->fr' t=fr t)->fr' 13=Vi 6->PQ E a18 lim [.code Njs] fr' G' Q):PQ E a18 lim [.code YY] fr G Q:=by
 rw [Nqs]
 refine NK ?_
 have f:Sl G QJ 6 (Sa b1) SBx:=Sl.row OT h.k1
 simp only [TC,Sb,YY,Yc,WX,Wp,Yf,c18,n18,r18,h.f1,SB,seval,NC,NJ,NF,NP,reduceCtorEq,NB,place,NA,ND]
 rw [Nb]
 refine U0 (by omega) fun G1 a b d e=>?_
 have l:=d.len
 refine NK ?_
 simp only [n18,r18,h.f1,SB,seval,NC,NJ,NF,NP,reduceCtorEq,NB,place,NA,ND]
 rw [Nb]
 refine UB i (P:=PX) (L:=LX) (S:=SBx) (c:=3) e (d.sl f) (by decide) (by omega) (fun G2 _ g=>?_) (fun _ _ _ _ _ _ _ _ _ _ _ _ _ _ _ _ _ h=>absurd (N9r.symm.trans h) (by decide))
 have m:=g.len
 rw [N9r]
 refine NK ?_
 simp only [n18,r18,Vg,NG,show lim<=G2.length by omega,SB,seval,NC,NJ,NF,NP,reduceCtorEq,NB,place,NA,ND]
 exact j _ _ ((d.trans g.ext).trans OI.refl.app) (fun t k=>by simp only [upd];repeat rw [Nh (by omega)]) rfl
theorem A18.next {G':NE} {fr':Nat->Value} (h:A18 b1 b2 b3 G fr) (e:OI G G') (h1:fr' 1=fr 1) (h2:fr' 2=fr 2) (a:fr' 3=fr 3):A18 b1 b2 b3 G' fr':=
 ⟨h1.trans h.f1,h2.trans h.f2,a.trans h.f3,e.cells h.k1,e.cells h.k2,e.cells h.k3⟩
end
theorem Nvf [OB] {b1 b2 b3 b4 q r b10 lim:Nat} {fr:Nat->Value} {G:NE} (h:A18 b1 b2 b3 G fr) (f4:fr 4=Vp b4) (f5:fr 5=Vi 0) (e:fr 6=Vp q) (f7:fr 7=Vi 0) (f8:fr 8=Vp r) (f9:fr 9=Vi 0) (f10:fr 10=Vp b10) (f11:fr 11=Vi 0) (f13:fr 13=Vi 6)
  (B:YW G b4 [TB]) (C:YW G q [Nvo,TB]) (D:YW G r [TB,Nao]) (r10:YW G b10 [Nft]):PQ E a18 lim [.code Njs] fr G fun v' _=>v'=.bool true:=by
 obtain ⟨_,_,_,_,_,_,_,_,_,_,p4,t,w,F⟩:=B
 obtain ⟨_,_,_,_,_,_,_,_,_,_,p6,u,x,I⟩:=C
 obtain ⟨_,_,_,_,_,_,_,_,_,_,L,v,y,J⟩:=D
 obtain ⟨_,_,_,_,_,_,_,_,_,_,A,s,o,p⟩:=r10
 have k2:NH G b2=Vc [.int .u8 5,Vi 1,Vi 0,Vi 2,Vi 0]:=h.k2
 have k3:NH G b3=Vc [.int .u8 6,Vi 0,Vi 0,Vi 1,Vi 1]:=h.k3
 have i:=fun X=>(OI.refl.app (X:=X)).cells k2
 have j:=fun X=>(OI.refl.app (X:=X)).cells k3
 have k:=fun X=>(OI.refl.app (X:=X)).cells w
 have l:=fun X=>(OI.refl.app (X:=X)).cells x
 have m:=fun X=>(OI.refl.app (X:=X)).cells y
 have d:=fun X=>(OI.refl.app (X:=X)).cells o
 have K:IntKind.i64.wrap 0=0:=by decide
 have f:∀(mp:Bool) (lim:Nat) (H:NE) (Q:Value->NE->Prop),NL E mp lim 13 [.int .u8 1] H Q=Q (.string ⟨#[115,116,114,97,121]⟩) H:=fun mp lim H Q=>Niv (n:=1) (by decide)
 have c:∀(mp:Bool) (lim:Nat) (H:NE) (Q:Value->NE->Prop),NL E mp lim 13 [.int .u8 0] H Q=Q (.string ⟨#[]⟩) H:=fun mp lim H Q=>Niv (n:=0) (by decide)
 have g:∀(mp:Bool) (lim:Nat) (H:NE) (Q:Value->NE->Prop),NL E mp lim 13 [.int .u8 8] H Q=Q (.string ⟨#[]⟩) H:=fun mp lim H Q=>Niv (n:=8) (by decide)
 have z:∀(mp:Bool) (lim:Nat) (Q:Value->NE->Prop),NL E mp lim 30 [.slice p4 1 t,.slice (Sa G.length) 1 1] (G++[Vc [.int .u8 5,Vi 1,Vi 0,Vi 2,Vi 0]]) Q=Q (.bool true) (G++[Vc [.int .u8 5,Vi 1,Vi 0,Vi 2,Vi 0]]):=fun mp lim Q=>Nc9 (a:=[TB]) (b:=[TB]) (F.app _) (Sl.row (ro:=false) RQ (by rw [NS];rfl)) (by decide)
 refine NK ?_
 simp only [TC,Sb,Njs,YY,Yc,WX,Wp,Yf,c18,n18,r18,f4,f5,e,f7,f8,f9,f10,f11,f13,h.f2,h.f3,K,Int.add_zero,i,j,k,l,m,d,Tv,NI,NG,QM,TQ,z,f,c,g,SB,seval,NC,NJ,NF,NP,reduceCtorEq,NB,place,NA,ND]
 refine Eq.mpr (Nc9 (a:=[Nvo,TB]) (b:=[Nvo,TB]) (I.app _) (Sl.row (ro:=false) RQ (by rw [NW];rfl)) (by decide)) ?_
 rw [Nq rfl]
 refine NK ?_
 simp only [n18,r18,f4,f5,e,f7,f8,f9,f10,f11,f13,h.f2,h.f3,i,j,k,l,m,d,Tv,NI,NG,QM,TQ,f,c,g,decide_true,beq_self_eq_true,SB,seval,NC,NJ,NF,NP,reduceCtorEq,NB,place,NA,ND]
 refine Eq.mpr (Nc9 (a:=[TB,Nao]) (b:=[TB,Nao]) (J.app _) (Sl.row (ro:=false) RQ (by rw [NW];rfl)) (by decide)) ?_
 rw [Nq rfl]
 refine NK ?_
 simp only [n18,r18,f4,f5,e,f7,f8,f9,f10,f11,f13,h.f2,h.f3,i,j,k,l,m,d,Tv,NI,NG,QM,TQ,f,c,g,decide_true,beq_self_eq_true,SB,seval,NC,NJ,NF,NP,reduceCtorEq,NB,place,NA,ND]
 refine Eq.mpr (Nc9 (a:=[Nft]) (b:=[Nft]) (p.app _) (Sl.row (ro:=false) RQ (by rw [NW];rfl)) (by decide)) ?_
 rw [Nq rfl]
 refine NK ?_
 simp only [n18,r18,f4,f5,e,f7,f8,f9,f10,f11,f13,h.f2,h.f3,i,j,k,l,m,d,Tv,NI,NG,QM,TQ,f,c,g,decide_true,beq_self_eq_true,SB,seval,NC,NJ,NF,NP,reduceCtorEq,NB,place,NA,ND]
theorem Nvg [OB] (e:EffOk) {b1 b2 b3 lim:Nat} {fr:Nat->Value} {G:NE} (p:A18 b1 b2 b3 G fr) (hl:lim<=G.length):PQ E a18 lim [.code Yf] fr G fun v' _=>v'=.bool true:=by
 refine chA e p hl fun l C b4 s o f4 f5 z=>?_
 have J:=s.len
 have q:=p.next s (o 1 (by decide) (by decide) (by decide)) (o 2 (by decide) (by decide) (by decide)) (o 3 (by decide) (by decide) (by decide))
 refine chB e q (by omega) fun m D H k j x f7 A=>?_
 have K:=k.len
 have r:=q.next k (j 1 (by decide) (by decide) (by decide)) (j 2 (by decide) (by decide) (by decide)) (j 3 (by decide) (by decide) (by decide))
 refine chC e r (by omega) fun n F I g f f8 f9 B=>?_
 have L:=g.len
 have w:=r.next g (f 1 (by decide) (by decide) (by decide)) (f 2 (by decide) (by decide) (by decide)) (f 3 (by decide) (by decide) (by decide))
 refine chD e (by omega) fun d u b10 e10 c f10 f11 r10=>?_
 have y:=e10.len
 have a10:=w.next e10 (c 1 (by decide) (by decide) (by decide)) (c 2 (by decide) (by decide) (by decide)) (c 3 (by decide) (by decide) (by decide))
 refine chE e a10 (by omega) fun b v e12 a f13=>?_
 have a12:=a10.next e12 (a 1 (by decide)) (a 2 (by decide)) (a 3 (by decide))
 have t:∀t,t<12->(t=4\/t=5->b t=l t)/\(t=6\/t=7->b t=m t)/\(t=8\/t=9->b t=n t)/\(t=10\/t=11->b t=d t):=fun t i=>by
  refine ⟨fun h=>?_,fun h=>?_,fun h=>?_,fun h=>a t i⟩
  ·rw [a t i,c t (by omega) (by omega) (by omega),f t (by omega) (by omega) (by omega),j t (by omega) (by omega) (by omega)]
  ·rw [a t i,c t (by omega) (by omega) (by omega),f t (by omega) (by omega) (by omega)]
  ·rw [a t i,c t (by omega) (by omega) (by omega)]
 exact Nvf a12 (((t 4 (by decide)).1 (.inl rfl)).trans f4) (((t 5 (by decide)).1 (.inr rfl)).trans f5) (((t 6 (by decide)).2.1 (.inl rfl)).trans x) (((t 7 (by decide)).2.1 (.inr rfl)).trans f7) (((t 8 (by decide)).2.2.1 (.inl rfl)).trans f8) (((t 9 (by decide)).2.2.1 (.inr rfl)).trans f9) (((t 10 (by decide)).2.2.2 (.inl rfl)).trans f10) (((t 11 (by decide)).2.2.2 (.inr rfl)).trans f11) f13 ((((z.ext k).ext g).ext e10).ext e12) (((A.ext g).ext e10).ext e12) ((B.ext e10).ext e12) (r10.ext e12)
theorem awake_go [OB] (b:EffOk) (a:OB.on 18=false) {mp:Bool} {lim:Nat} {H:NE} {Q:Value->NE->Prop}:NL E mp lim 18 [] H Q=Q (.bool true) H:=by
 refine Mw (E:=E) (by simp [E,OB.effN,orc,a]) (show E.tr 18=some a18 from e18) rfl rfl (NK ?_)
 rw [b18,N35]
 simp only [TC,Sb,c18,n18,r18,Xe,NG,QM,TQ,SB,seval,NC,NJ,NF,NP,reduceCtorEq,NB,place,NA,ND]
 exact Nvg b (b1:=H.length) (b2:=H.length+1) (b3:=H.length+2) ⟨rfl,rfl,rfl,by rw [NS];rfl,by rw [NW];rfl,by rw [NW];rfl⟩ (by simp)
end Go.Proofs.YtkppjkkkdpcgiaaGreat.Fn


namespace Go.AM
open Go.AM.Sym
section
variable {P:Program} {E:Env} {W:Nat->Prop} {lim:Nat} {σ:PL} {H:NE} {w:World}
theorem Inv.shut (a:Inv (Prg.mk P (Env.pure E)) W lim σ H w):Inv (Prg.mk P (Env.pure E)) (fun k=>w.heap.size<=k) H.length σ H w:=
 ⟨a.blk,a.inj,fun i b L c ho d hL=>by
  have:=(List.getElem?_eq_some_iff.1 c).1
  omega,fun b c=>c,a.dom⟩
theorem Nw3 {w':World} (b:Inv (Prg.mk P (Env.pure E)) W lim σ H w) (a:Stp (fun k=>w.heap.size<=k) w w'):Stp W w w'/\∀k,k<w.heap.size->w'.heap[k]? = w.heap[k]?:=by
 have c:∀k,k<w.heap.size->w'.heap[k]? = w.heap[k]?:=fun k hk=>a.block k (by omega)
 refine ⟨⟨a.os,a.tape,a.output,a.size,fun k hk=>c k ?_⟩,c⟩
 rcases On k w.heap.size with h | h
 ·exact h
 ·exact absurd (b.fresh k h) hk
theorem Ne7 (c:EnvOk P E) {g:FuncId} {as:List Value} {b:Value} (f:flat 4 b=true) (h:NL E false H.length g as H fun v _=>v=b) {as':List Value}
  (a:Inv (Prg.mk P (Env.pure E)) W lim σ H w) (d:OL σ as as'):Calls P g as'.toArray w (Tf (Prg.mk P (Env.pure E)) W lim σ H b (H++news []) w):=by
 obtain ⟨n,L,h1,h2⟩:=h
 refine ((Naf c n).calls _ _ _ _ _ _ h1 (Nd _) _ _ w as' a.shut d).mono fun e w' hp=>?_
 obtain ⟨r,hr,v',p,rfl,q1,q2,q3,m,o⟩:=hp
 obtain ⟨k,l⟩:=Nw3 a q3
 rw [h2.2 r hr] at q1
 rw [show H++news []=H from Nb H]
 exact ⟨v',σ,rfl,q1.flat_self 4 f,a.world q3.size l,k,PL.le_refl _,fun j i=>absurd rfl i⟩
theorem Nuu (M:EnvOk P E) {g:FuncId} {as:List Value} {n e:Nat} {c:List Value} (hc:∀x∈c,atom x=true) (h:NL E false H.length g as H fun v H'=>∃R,v=.tuple #[.slice (Sa R) n (loose e),Vi 0]/\NH H' R=Vc c/\H.length<=R) {as':List Value}
  (d:Inv (Prg.mk P (Env.pure E)) W lim σ H w) (O:OL σ as as'):Calls P g as'.toArray w (Tf (Prg.mk P (Env.pure E)) W lim σ H (.tuple #[.slice (Sa H.length) n (loose e),Vi 0]) (H++news [c]) w):=by
 obtain ⟨k,L,h1,h2⟩:=h
 refine ((Naf M k).calls _ _ _ _ _ _ h1 (Nd _) _ _ w as' d.shut O).mono fun Z w' hp=>?_
 obtain ⟨r,hr,v',σ',rfl,q1,q2,q3,q4,q5⟩:=hp
 obtain ⟨T,U⟩:=Nw3 d q3
 obtain ⟨R,e1,e2,e3⟩:=h2.2 r hr
 rw [e1] at q1
 obtain ⟨f,hL,hB⟩:=q2.blk R _ (RD e2 rfl) rfl
 have p:w.heap.size<=f.blk:=q2.wr R _ f (RD e2 rfl) rfl e3 hL
 have C:Inv (Prg.mk P (Env.pure E)) W lim σ H w':=d.world q3.size U
 have hd:σ H.length=none:=d.dom _ (Nd _)
 have B:=PL.le_put (L:=f) hd
 have t:UD (Prg.mk P (Env.pure E)) (σ.put H.length f) w' f (Vc c):=by
  obtain ⟨cs,el,fz,I,J,K⟩:=hB
  refine ⟨cs,el,fz,I,fun j v hv=>?_,K⟩
  obtain ⟨u,k1,k2,k3⟩:=J j v hv
  have o:=hc v (Oe hv)
  rw [k2.eq_of_atom o] at k1 k3
  exact ⟨v,k1,.atom o,k3⟩
 have N:Inv (Prg.mk P (Env.pure E)) W lim (σ.put H.length f) (H++news [c]) w':=by
  refine C.adopt (i:=H.length) (b:=Vc c) (L:=f) ?_ (fun j q=>?_) (fun j q=>?_) hd t rfl (d.fresh _ p) fun j bj Lj Q z m y e=>?_
  ·show (H++[Vc c])[H.length]? = _
   simp
  ·show (H++[Vc c])[j]? = _
   rcases On j H.length with h | h
   ·rw [N4 h]
   ·rw [Nw (by simp;omega),Nw h]
  ·simp [news] at q;omega
  ·obtain ⟨F,k1,k2⟩:=d.blk j bj z m
   rw [y] at k1;cases k1
   have:=k2.lt m
   omega
 refine ⟨v',σ.put H.length f,rfl, ?_,N,T,B,fun j q=>?_⟩
 ·obtain ⟨ys,rfl,hl⟩:=q1.tuple_left
  obtain ⟨D,s⟩:=hl
  match ys,D,s with
  | ⟨[y0,y1]⟩,D,s=>
    have V:=s 0 _ _ rfl rfl
    have X:=s 1 _ _ rfl rfl
    rw [X.int_left]
    refine VRel.tuple_iff.2 (OL.cons ?_ (OL.cons (.atom rfl) OL.nil))
    have hp:(σ.put H.length f) H.length=some f:=PL.put_same
    obtain ⟨_,F,l,A⟩:=V.slice_left
    rw [hL] at l;cases l
    rcases A with ⟨h,_⟩ | ⟨G,he,Y,hn,hr,rfl⟩ | ⟨a,h,rfl,rfl⟩
    ·unfold loose at h;omega
    ·have:G=e:=by unfold loose at he;omega
     subst this
     exact .lslice hp hn hr
    ·exact .eslice hp h
 ·apply N2
  intro S
  refine q ?_
  simp only [PL.put]
  rw [Nh (by omega)]
end
end Go.AM


namespace Go.Proofs.YtkppjkkkdpcgiaaGreat.Fn
open Go.AM Go.AM.Sym Go.Scan Go.Sort
structure Fo where
 (item place scanner kind at' late:Int)
 deriving Inhabited
def encF (f:Fo):List Value:=[.int .u8 f.item,.int .u8 f.place,.int .u8 f.scanner,.int .u8 f.kind,.int .u16 f.at',.int .u8 f.late]
theorem Ne6 (f:Fo):(encF f).length=6:=id rfl
theorem N7b {f:Fo}:(encF f)[0]? = some (.int .u8 f.item):=id rfl
theorem N7a {f:Fo}:(encF f)[1]? = some (.int .u8 f.place):=id rfl
theorem N69 {f:Fo}:(encF f)[2]? = some (.int .u8 f.scanner):=id rfl
theorem N68 {f:Fo}:(encF f)[3]? = some (.int .u8 f.kind):=id rfl
theorem N67 {f:Fo}:(encF f)[4]? = some (.int .u16 f.at'):=id rfl
theorem N66 {f:Fo}:(encF f)[5]? = some (.int .u8 f.late):=id rfl
def FoOk (f:Fo):Prop:=(0<=f.item/\f.item<=255)/\(0<=f.place/\f.place<=255)/\(0<=f.scanner/\f.scanner<=255)/\(0<=f.kind/\f.kind<=255)/\(0<=f.at'/\f.at'<=65535)/\(0<=f.late/\f.late<=255)
def Nus (n:Int):List Value:=[.int .i8 n]
theorem N0l (n:Int):(Nus n).length=1:=id rfl
def N1t (C:List Int):Prop:=∀c∈C,-128<=c/\c<=127
def Ncv (C:List Int) (sc:Int):Int:=if sc-1<C.length then gt C (sc-1).toNat else 0
theorem Njo {C:List Int} (h:N1t C) {sc:Int} (h1:1<=sc):-128<=Ncv C sc/\Ncv C sc<=127:=by
 unfold Ncv
 split
 ·exact h _ (Ru (by omega))
 ·omega
def Sn (f:Fo):Int:=14400+f.at' % 5760
def WA (C:List Int) (f:Fo):Ev:=⟨1+f.item % 4,1+f.place % 4,1+f.scanner % 4,1+f.kind % 4,Sn f-Ncv C (1+f.scanner % 4),Sn f+f.late,0⟩
def Vd (C:List Int) (F:List Fo):List Ev:=(F.take 24).map (WA C)
def Nfj (F:List Fo):List Int:=(F.take 24).map Sn
theorem No5 {C:List Int} {f:Fo} (a:N1t C) (b:FoOk f):Sm (WA C f):=by
 have c:=Njo a (sc:=1+f.scanner % 4) (by omega)
 unfold FoOk at b
 unfold Sm WA Sn VZ
 simp only
 generalize Ncv C (1+f.scanner % 4)=q at *
 omega
theorem Njl {C:List Int} {F:List Fo} (a:N1t C) (b:∀f∈F,FoOk f):QN (Vd C F):=by
 refine ⟨by unfold Vd;rw [Nv,Ok];omega,fun s hs=>?_⟩
 unfold Vd at hs
 obtain ⟨f,c,rfl⟩:=List.mem_map.mp hs
 exact No5 a (b f (Qw c))
theorem Nvb [OB] {mp:Bool} {lim cc:Nat} {p:Option Addr} {C:List Int} {sc:Int} {H:NE} {Q:Value->NE->Prop} (hs:Sl H Nus 1 p C) (g:N1t C) (hn:C.length<2 ^ 63) (h1:1<=sc) (h2:sc<=4) :
  NL E mp lim 57 [.slice p C.length cc,Vi sc] H Q=Q (Vi (Ncv C sc)) H:=by
 refine pc (by decide) e57 rfl rfl ?_
 rw [b57,c57]
 have f:IntKind.i64.wrap (sc-1)=((sc-1).toNat:Int):=by rw [NU (by omega) (by omega)];omega
 have b:=Njo g h1
 unfold Ncv at b⊢
 by_cases d:sc-1<(C.length:Int)
 ·rw [Ni d] at b⊢
  have hi:(sc-1).toNat<C.length:=by omega
  have e:=fun X=>(hs.app X).loadCell0 N0l hi (by decide)
  have a:=fun c (k:IntKind) (H1:NE)=>hs.idx (c:=c) (k:=k) (H1:=H1) hi
  have he:(Nus (gt C (sc-1).toNat))[0]? = some (.int .i8 (gt C (sc-1).toNat)):=rfl
  have h:IntKind.i64.wrap (gt C (sc-1).toNat)=gt C (sc-1).toNat:=NU (by omega) (by omega)
  simp only [n57,r57,f,NV,hi,e,a,he,h,SB,seval,NC,NJ,NF,NP,reduceCtorEq,NB,place,NA,ND]
 ·rw [Nh d]
  have hi:¬(sc-1).toNat<C.length:=by omega
  simp only [n57,r57,f,NV,hi,SB,seval,NC,NJ,NF,NP,reduceCtorEq,NB,place,NA,ND]
structure BSt (H:NE) (S:List Ev) (T:List Int) (sp tp:Option Addr) (sc tc:Nat) (G:NE):Prop where
 so:Own H.length G QJ 6 sp sc S
 to:Own H.length G encI 1 tp tc T
 ne:∀a b,sp=some a->tp=some b->a.block≠b.block
 old:∀j,j<H.length->NH G j=NH H j
 len:H.length<=G.length
theorem BSt.step {H:NE} {S:List Ev} {T:List Int} {sp tp:Option Addr} {sc tc lim:Nat} {G:NE} (h:BSt H S T sp tp sc tc G) (hl:lim<=H.length) (hS:S.length<1000) (z:T.length<1000) (s:Ev) (t:Int) (x y:Blk) :
  ∃G2,PE lim none 6 48 false (.slice sp S.length sc) (.slice (Sa (G.length+2)) 1 1) (G++[x,y,Vc (QJ s)])=some (.slice (Sa (G.length+3)) (S.length+1) (loose 6),G2++[])/\
   ∃l,PE lim none 1 8 false (.slice tp T.length tc) (.slice (Sa G2.length) 1 1) (G2++[Vc [Vi t]])=some (.slice (Sa (G2.length+1)) (T.length+1) (loose 1),l++[])/\
   BSt H (S++[s]) (T++[t]) (Sa (G.length+3)) (Sa (G2.length+1)) (loose 6) (loose 1) (l++[]):=by
 have len:=h.len
 obtain ⟨G2,e2,f,_,c,n,_⟩:=h.so.step (lim':=lim) (bytes:=48) hl OT (by decide) s (by unfold PS;omega) (by omega) len [x,y,Vc (QJ s)] (G.length+2) 1 (by rw [NW];rfl)
 simp only [Nl,Nr,N6,Nat.reduceAdd] at e2 f n
 have r:Chg (Nkx sp) G (G2++[]):=⟨by simp;omega,fun j i q=>c j i (Nc1 q)⟩
 have p:Own H.length (G2++[]) encI 1 tp tc T:=h.to.chg r fun a g v=>by
  obtain ⟨b,m,e⟩:=Nc2 v
  exact h.ne b a m g e.symm
 rw [Nb] at f p
 obtain ⟨l,e3,k,_,d,o,_⟩:=p.step (lim':=lim) (bytes:=8) hl RP (by decide) t (by unfold PS;omega) (by omega) (by omega) [Vc (encI t)] G2.length 1 (by rw [NS];rfl)
 simp only [Nl,Nr,N6,Nat.reduceAdd] at e3 k o
 have u:Chg (Nkx tp) G2 (l++[]):=⟨by simp;omega,fun j i q=>d j i (Nc1 q)⟩
 have np:∀j,j<H.length->(∀a,sp=some a->j≠a.block)/\(∀a,tp=some a->j≠a.block):=fun j i=>⟨fun a g=>by have:=(h.so.block g).1;omega,fun a g=>by have:=(h.to.block g).1;omega⟩
 refine ⟨G2,e2,l,e3,f.chg u fun a g v=>?_,k,fun a b g m=>?_,fun j i=>?_,by simp;omega⟩
 ·cases g
  obtain ⟨b,m,e⟩:=Nc2 v
  have:=(h.to.block m).2
  have w:G.length+3=b.block:=e
  omega
 ·cases g;cases m
  show G.length+3≠G2.length+1
  omega
 ·rw [d j (by omega) (np j i).2]
  have:=c j (by omega) (np j i).1
  rw [Nb] at this
  rw [this];exact h.old j i
theorem N1u [OB] {lim c cc:Nat} {p q:Option Addr} {F:List Fo} {C:List Int} {H:NE} {Q:Value->NE->Prop} (hf:Sl H encF 6 p F) (R:UC 6 c F.length) (hs:Sl H Nus 1 q C) (hF:∀f∈F,FoOk f) (hC:N1t C) (ag:F.length<2 ^ 63) (Y:C.length<2 ^ 63) (hl:lim<=H.length)
  (hQ:∀G sp sc tp tc,BSt H (Vd C F) (Nfj F) sp tp sc tc G->Q (.tuple #[.slice sp (Vd C F).length sc,.slice tp (Nfj F).length tc]) (G++[])) :
  NL E false lim 29 [.slice p F.length c,.slice q C.length cc] H Q:=by
 refine R5 (by decide) e29 rfl ?_
 rw [b29,c29]
 have mn:Rw false (Vi F.length) [Vi 24]=some (Vi ((min F.length 24:Nat):Int)):=by
  simp only [Rw,VR]
  grind
 obtain ⟨B,c',e1,A,_,m1,_⟩:=Uf (vlo:=none) (vhi:=some (Vi ((min F.length 24:Nat):Int))) (lo:=0) (hi:=min F.length 24) hf R Ne6 (fun cap ac=>by rw [Mq (by omega) (by omega),Ob]) (Nx _) (Nat.min_le_left _ _) (by omega)
 rw [Nat.sub_zero] at e1
 rw [Oy] at A
 obtain ⟨n,hn⟩:∃n,n=min F.length 24:=⟨_,rfl⟩
 obtain ⟨d,g⟩:∃d,d=F.take n:=⟨_,rfl⟩
 rw [<-hn] at mn e1 A
 rw [<-g] at A
 have t:d.length=n:=by rw [g,Ok];omega
 have v:Vd C F=d.map (WA C):=by
  unfold Vd;rw [g,hn]
  congr 1
  rcases Nat.le_total F.length 24 with h | h
  ·rw [Po h,Oj,Oc h]
  ·rw [Nat.min_eq_right h]
 have w:Nfj F=d.map Sn:=by
  unfold Nfj;rw [g,hn]
  congr 1
  rcases Nat.le_total F.length 24 with h | h
  ·rw [Po h,Oj,Oc h]
  ·rw [Nat.min_eq_right h]
 have L:∀f∈d,FoOk f:=fun f h=>hF f (by rw [g] at h;exact Qw h)
 simp only [n29,r29,mn,e1,SB,seval,NC,NJ,NF,NP,reduceCtorEq,NB,place,NA,ND]
 refine NR (S:=Nat×Option Addr×Option Addr×Nat×Nat) (fun s=>n-s.1) (fun s fr G=>s.1<=n/\fr 1=.slice q C.length cc/\fr 6=.slice s.2.1 s.1 s.2.2.2.1/\fr 7=.slice s.2.2.1 s.1 s.2.2.2.2/\fr 16=.slice B n c'/\fr 17=Vi n/\fr 18=Vi s.1/\
  BSt H ((d.map (WA C)).take s.1) ((d.map Sn).take s.1) s.2.1 s.2.2.1 s.2.2.2.1 s.2.2.2.2 G) (0,none,none,0,0)
  ⟨Nx _,rfl,rfl,rfl,rfl,rfl,by rfl,.inl ⟨rfl,rfl,rfl⟩,.inl ⟨rfl,rfl,rfl⟩,fun a b h=>(by cases h),fun j hj=>NN hj,by simp⟩ ?_
 rintro ⟨i,sp,tp,sc,tc⟩ fr G ⟨hi,I,J,K,m,o,r,st⟩ hN
 simp only at hi J K r st
 rw [NT N5o.eq_1]
 refine NK ?_
 have len:=st.len
 have lS:((d.map (WA C)).take i).length=i:=by rw [Ok,Nv];omega
 have lT:((d.map Sn).take i).length=i:=by rw [Ok,Nv];omega
 by_cases y:i<n
 ·have e:i<d.length:=by omega
  have sF:Sl G encF 6 B d:=Sl.same A fun a O u=>by subst O;exact st.old _ (A.lt u)
  have sC:∀X,Sl (G++X) Nus 1 q C:=fun X=>(Sl.same hs fun a O u=>by subst O;exact st.old _ (hs.lt u)).app X
  have V:=fun X=>(sF.app X).loadCells Ne6 e
  have x:∀(c:Nat) (k:IntKind) (H1:NE),Z0 6 (.slice B n c) (.int k (i:Int)) H1=some (.pointer (some (Zt B 6 i)),H1):=fun c k H1=>by
   rw [<-t];exact sF.idx e
  have Z:IntKind.i64.wrap ((i:Int)+1)=((i+1:Nat):Int):=OG (by omega)
  have T:=L _ (Ru e)
  have M:(d.map (WA C)).take (i+1)=(d.map (WA C)).take i++[WA C (gt d i)]:=by
   rw [N9 (by rw [Nv];exact e),P8,QH e]
  have N:(d.map Sn).take (i+1)=(d.map Sn).take i++[Sn (gt d i)]:=by
   rw [N9 (by rw [Nv];exact e),P8,QH e]
  generalize gt d i=f at *
  have l:=T
  unfold FoOk at l
  obtain ⟨⟨a1,a2⟩,⟨b1,b2⟩,⟨c1,c2⟩,⟨d1,d2⟩,⟨D,ad⟩,⟨f1,f2⟩⟩:=l
  have ab:=Njo hC (sc:=1+f.scanner % 4) (by omega)
  have P:=fun X (mp:Bool) (lim:Nat) (Q:Value->NE->Prop)=>Nvb (mp:=mp) (lim:=lim) (Q:=Q) (cc:=cc) (sC X) hC Y (sc:=1+f.scanner % 4) (by omega) (by omega)
  have ae:WA C f=⟨1+f.item % 4,1+f.place % 4,1+f.scanner % 4,1+f.kind % 4,Sn f-Ncv C (1+f.scanner % 4),Sn f+f.late,0⟩:=rfl
  have W:Sn f=14400+f.at' % 5760:=rfl
  have x1:IntKind.i64.wrap f.at'=f.at':=NU (by omega) (by omega)
  have x2:Int.tmod f.at' 5760=f.at' % 5760:=Int.tmod_eq_emod_of_nonneg D
  have x3:IntKind.i64.wrap (14400+f.at' % 5760)=Sn f:=(NU (by omega) (by omega)).trans W.symm
  have x4:IntKind.i64.wrap f.item=f.item:=NU (by omega) (by omega)
  have x5:Int.tmod f.item 4=f.item % 4:=Int.tmod_eq_emod_of_nonneg a1
  have x6:IntKind.i64.wrap (1+f.item % 4)=1+f.item % 4:=NU (by omega) (by omega)
  have x7:IntKind.i64.wrap f.place=f.place:=NU (by omega) (by omega)
  have x8:Int.tmod f.place 4=f.place % 4:=Int.tmod_eq_emod_of_nonneg b1
  have x9:IntKind.i64.wrap (1+f.place % 4)=1+f.place % 4:=NU (by omega) (by omega)
  have y1:IntKind.i64.wrap f.scanner=f.scanner:=NU (by omega) (by omega)
  have y2:Int.tmod f.scanner 4=f.scanner % 4:=Int.tmod_eq_emod_of_nonneg c1
  have y3:IntKind.i64.wrap (1+f.scanner % 4)=1+f.scanner % 4:=NU (by omega) (by omega)
  have y4:Int.tmod f.kind 4=f.kind % 4:=Int.tmod_eq_emod_of_nonneg d1
  have y5:IntKind.u8.wrap (1+f.kind % 4)=1+f.kind % 4:=by simp only [IntKind.wrap,IntKind.bits,IntKind.signed];simp;omega
  have y6:IntKind.i64.wrap f.late=f.late:=NU (by omega) (by omega)
  have y7:IntKind.i64.wrap (Sn f+f.late)=Sn f+f.late:=NU (by omega) (by omega)
  have y8:IntKind.i64.wrap (Sn f-Ncv C (1+f.scanner % 4))=Sn f-Ncv C (1+f.scanner % 4):=NU (by omega) (by omega)
  obtain ⟨G2,q1,G3,q2,aa⟩:=st.step hl (by omega) (by omega) (WA C f) (Sn f) (Vc (encF f)) (Vc (QJ (WA C f)))
  rw [lS] at q1
  rw [lT] at q2
  have z:[Value.int .i64 (1+f.item % 4),Vi (1+f.place % 4),Vi (1+f.scanner % 4),.int .u8 (1+f.kind % 4),Vi (Sn f-Ncv C (1+f.scanner % 4)),Vi (Sn f+f.late)]=QJ (WA C f):=rfl
  have U:lim<=G.length:=by omega
  generalize Sn f=mt at *
  generalize Ncv C (1+f.scanner % 4)=bn at *
  simp only [n29,r29,I,J,K,m,o,r,NV,y,x,V,U,Ne6,N7b,N7a,N69,N68,N67,N66,OT,UZ,UY,UX,UW,UV,UU,NI,NG,Z,x1,x2,x3,x4,x5,x6,x7,x8,x9,y1,y2,y3,y4,y5,y6,y7,y8,P,z,q1,q2,SB,seval,NC,NJ,NF,NP,reduceCtorEq,NB,place,NA,ND]
  exact hN (i+1,Sa (G.length+3),Sa (G2.length+1),loose 6,loose 1) _ _ ⟨by simp only;omega,I,rfl,rfl,m,o,rfl,by simp only;rw [M,N];exact aa⟩ (by simp only;omega)
 ·obtain rfl:i=n:=by omega
  rw [Oc (by rw [Nv];omega),Oc (by rw [Nv];omega),<-v,<-w] at st
  have l1:(Vd C F).length=i:=by rw [v,Nv,t]
  have l2:(Nfj F).length=i:=by rw [w,Nv,t]
  have:=hQ G sp sc tp tc st
  rw [l1,l2] at this
  simp only [n29,r29,I,J,K,m,o,r,NV,y,SB,seval,NC,NJ,NF,NP,reduceCtorEq,NB,place,NA,ND]
  exact this
end Go.Proofs.YtkppjkkkdpcgiaaGreat.Fn


namespace Go.Proofs.YtkppjkkkdpcgiaaGreat.Fn
open Go.AM Go.AM.Sym Go.Net Go.Scan
structure RL where
 (a b c d e f:Int)
 deriving DecidableEq,Inhabited
def encR (x:RL):List Value:=[.int .u8 x.a,.int .u8 x.b,.int .u8 x.c,.int .u8 x.d,.int .u8 x.e,.int .u8 x.f]
theorem Nmj (x:RL):(encR x).length=6:=id rfl
def ByR (x:RL):Prop:=(0<=x.a/\x.a<=255)/\(0<=x.b/\x.b<=255)/\(0<=x.c/\x.c<=255)/\(0<=x.d/\x.d<=255)/\(0<=x.e/\x.e<=255)/\(0<=x.f/\x.f<=255)
def P5:List Int:=[3,1,5,2,4]
def YC (i:Nat) (x:RL):Leg:=⟨(i:Int)+1,1+x.a.tmod 5,1+x.b.tmod 5,x.c*5,1+x.d,x.e.tmod 60,1000,x.f.tmod 127+1⟩
def WP (a:List RL):Nat->List Leg
 | 0=>[]
 | n+1=>if (YC n (gt a n)).frm≠(YC n (gt a n)).dst then WP a n++[YC n (gt a n)] else WP a n
theorem Y5 (a:List RL):∀n,(WP a n).length<=n
 | 0=>Nd _
 | n+1=>by
   have:=Y5 a n
   rw [WP]
   split
   ·simp;omega
   ·omega
theorem MN {b:List RL} {l:Leg}:∀{n},l∈WP b n->∃i,i<n/\l=YC i (gt b i)/\l.frm≠l.dst
 | 0,h=>by cases h
 | n+1,h=>by
   rw [WP] at h
   split at h
   ·rename_i a
    rcases Oh.1 h with h | h
    ·obtain ⟨i,h1,h2⟩:=MN h;exact ⟨i,by omega,h2⟩
    ·rw [Nk] at h;subst h;exact ⟨n,by omega,rfl,a⟩
   ·obtain ⟨i,h1,h2⟩:=MN h;exact ⟨i,by omega,h2⟩
theorem N23 {a:List RL} {n:Nat} (b:∀x∈a,ByR x) (hn:min a.length 10=n):∀l∈WP a n,By l:=fun l hl=>by
 obtain ⟨i,hi,rfl,_⟩:=MN hl
 have h1:=b _ (Ru (l:=a) (i:=i) (by omega))
 have h2:=h1.2.2.2.2.2
 unfold By YC
 simp only
 have c:=Int.tmod_lt_of_pos (gt a i).f (show (0:Int)<127 by decide)
 have d:=Int.tmod_nonneg (127:Int) h2.1
 omega
theorem N3k {α:Type} [Inhabited α] {l:List α} {n i:Nat} (h:i<n):gt (l.take n) i=gt l i:=by
 unfold gt
 rw [Na,Na,Py,Ni h]
theorem N8p [OB] {lim c:Nat} {p:Option Addr} {g:List RL} {H:NE} {Q:Value->NE->Prop} (hs:Sl H encR 6 p g) (hb:∀x∈g,ByR x) (hl:g.length<2 ^ 63) (hc:UC 6 c g.length) (y:lim<=H.length)
  (hQ:∀G pp pl cl,Chg [] H G->NetIn G pp pl P5 (WP g (min g.length 10))->Q (.agg (SC pp 5 5 pl (WP g (min g.length 10)).length cl).toArray) G) :
  NL E false lim 10 [.slice p g.length c] H Q:=by
 refine R5 (by decide) e10 rfl ?_
 rw [b10,c10]
 obtain ⟨n,hn⟩:∃n,min g.length 10=n:=⟨_,rfl⟩
 rw [hn] at hQ
 have D:min (g.length:Int) 10=(n:Int):=by omega
 obtain ⟨q1,k1,x1,s1,_,_,_⟩:=Uf (vlo:=none) (vhi:=some (Vi n)) (lo:=0) (hi:=n) hs hc Nmj (fun cap ah=>by rw [Mq (by omega) (by omega),Ob]) (Nx _) (by omega) (by omega)
 rw [Oy] at s1
 simp only [Nat.sub_zero] at x1
 have ag:(g.take n).length=n:=by rw [Ok];omega
 simp only [n10,r10,NG,y,Y7,D,x1,SB,seval,NC,NJ,NF,NP,reduceCtorEq,NB,place,NA,ND]
 refine NR (fun s:Nat×Option Addr×Nat=>n-s.1) (fun s fr G=>s.1<=n/\fr 2=Vp H.length/\fr 3=Vp (H.length+2)/\fr 13=.slice q1 n k1/\fr 14=Vi n/\fr 15=Vi s.1/\Chg [] H G/\NH G H.length=Vc [Vz,Vz]/\NH G (H.length+1)=Vc (P5.flatMap encI)/\NH G (H.length+2)=Vc [.slice (Sa (H.length+1)) 5 5,.slice s.2.1 (WP g s.1).length s.2.2]/\Own (H.length+3) G Ry 8 s.2.1 s.2.2 (WP g s.1)) (0,none,0)
  ⟨Nx _,rfl,rfl,rfl,rfl,by rfl,Chg.refl.app,by rw [NS];rfl,by rw [NW];rfl,by rw [NW];rfl,.nil⟩ ?_
 rintro ⟨i,pw,cw⟩ fr G ⟨hi,F,I,h,o,t,K,Y,hP,hB,B⟩ hN
 simp only at hi t hB B
 rw [NT N5r.eq_1]
 refine NK ?_
 have hl:=K.len
 have ai:=NM hB
 have L:=fun X=>(OI.refl.app (X:=X)).cells hB
 by_cases u:i<n
 case neg=>
  obtain rfl:i=n:=by omega
  obtain ⟨G2,e2,h2,m2⟩:=OP (NM Y) (Vc [.slice (Sa (H.length+1)) 5 5,.slice pw (WP g i).length cw])
  have XA:=fun X=>(OI.refl.app (X:=X)).cells Y
  have X2:=fun X=>(OI.refl.app (X:=X)).cells h2
  simp only [n10,r10,F,I,h,o,t,u,L,XA,e2,X2,y,SB,seval,NC,NJ,NF,NP,reduceCtorEq,NB,place,NA,ND]
  have S1:Sl G2 encI 1 (Sa (H.length+1)) P5:=Sl.row (ro:=false) RP (m2.cells hP (by omega))
  have S2:=(B.mut m2 fun a M e=>by have:=(B.block M).1;omega).sl OH
  exact hQ _ (Sa (H.length+1)) pw cw (K.mut m2 (.inr (Nd _))).app ⟨S1.app _,S2.app _,by decide,by have:=Y5 g i;omega,N23 hb hn⟩
 have O:=(K.sl s1 (by simp))
 have P:=fun X=>(O.app X).loadCells Nmj (i:=i) (by omega)
 have ix:=fun c (k:IntKind) (H1:NE)=>O.idx (c:=c) (k:=k) (H1:=H1) (i:=i) (by omega)
 have eg:gt (g.take n) i=gt g i:=N3k u
 rw [eg] at P
 rw [ag] at ix
 simp only [encR] at P
 have q:lim<=G.length:=by omega
 have N:=hb _ (Ru (l:=g) (i:=i) (by omega))
 generalize hx:gt g i=x at P N
 obtain ⟨M,ac,aj,hd,he,hf⟩:=N
 have am:=Int.tmod_lt_of_pos x.a (show (0:Int)<5 by decide)
 have an:=Int.tmod_nonneg (5:Int) M.1
 have ao:=Int.tmod_lt_of_pos x.b (show (0:Int)<5 by decide)
 have ap:=Int.tmod_nonneg (5:Int) ac.1
 have aq:=Int.tmod_lt_of_pos x.f (show (0:Int)<127 by decide)
 have ar:=Int.tmod_nonneg (127:Int) hf.1
 have wa:IntKind.i64.wrap x.a=x.a:=NU (by omega) (by omega)
 have wb:IntKind.i64.wrap x.b=x.b:=NU (by omega) (by omega)
 have wc:IntKind.i64.wrap x.c=x.c:=NU (by omega) (by omega)
 have wd:IntKind.i64.wrap x.d=x.d:=NU (by omega) (by omega)
 have we:IntKind.i64.wrap x.e=x.e:=NU (by omega) (by omega)
 have R:IntKind.i64.wrap (1+x.a.tmod 5)=1+x.a.tmod 5:=NU (by omega) (by omega)
 have S:IntKind.i64.wrap (1+x.b.tmod 5)=1+x.b.tmod 5:=NU (by omega) (by omega)
 have T:IntKind.i64.wrap (x.c*5)=x.c*5:=NU (by omega) (by omega)
 have U:IntKind.i64.wrap (1+x.d)=1+x.d:=NU (by omega) (by omega)
 have wf:IntKind.u8.wrap (x.f.tmod 127+1)=x.f.tmod 127+1:=by
  simp only [IntKind.wrap,IntKind.bits,IntKind.signed,Bool.false_and,Ny,if_false]
  omega
 have wi:IntKind.i64.wrap ((i:Int)+1)=(i:Int)+1:=NU (by omega) (by omega)
 have A:WP g (i+1)=if 1+x.a.tmod 5=1+x.b.tmod 5 then WP g i else WP g i++[YC i x]:=by
  rw [WP,hx,ite_not];rfl
 by_cases v:1+x.a.tmod 5=1+x.b.tmod 5
 ·rw [Ni v] at A
  simp only [n10,r10,F,I,h,o,t,u,P,ix,q,wa,wb,wc,wd,we,R,S,T,U,wf,wi,N5 v,SB,seval,NC,NJ,NF,NP,reduceCtorEq,NB,place,NA,ND]
  exact hN (i+1,pw,cw) _ _ ⟨by show i+1<=n;omega,F,I,h,o,by rfl,K.app,(OI.refl.app).cells Y,(OI.refl.app).cells hP,by simp only [A];exact (OI.refl.app).cells hB,by simp only [A];exact B.app _⟩ (by show n-(i+1)<n-i;omega)
 rw [Nh v] at A
 obtain ⟨G4,W,O4,V,ad⟩:=Own.moreF B (lim':=lim) (bytes:=64) (by omega) OH (by decide) [YC i x] (by simp) (by have:=Y5 g i;unfold PS;simp;omega) (by have:=Y5 g i;simp;omega) [Vc [.int .u8 x.a,.int .u8 x.b,.int .u8 x.c,.int .u8 x.d,.int .u8 x.e,.int .u8 x.f],Vc (Ry (YC i x)),Vc (Ry (YC i x))] (x:=.slice (Sa (G.length+2)) 1 1) (str:=false)
  (WH (m:=[YC i x]) (Sl.row (ro:=false) OH (by rw [NW];rfl))) rfl
 have w:∀j,j∈opB pw->H.length+3<=j:=fun j C=>by
  cases hpe:pw with
  | none=>rw [hpe] at C;cases C
  | some a=>rw [hpe] at C;have:=B.block hpe;simp [opB] at C;omega
 generalize ae:(G++[Vc [.int .u8 x.a,.int .u8 x.b,.int .u8 x.c,.int .u8 x.d,.int .u8 x.e,.int .u8 x.f],Vc (Ry (YC i x)),Vc (Ry (YC i x))]).length=r at W O4 ad
 have al:G.length<=r:=by rw [<-ae];simp
 generalize loose 8=c' at W O4
 simp only [Nl,Nr,N6,Ry,YC] at W
 have J:=V.cells hB fun hm=>by have:=w _ hm;omega
 have aa:=V.cells Y fun hm=>by have:=w _ hm;omega
 have ab:=V.cells hP fun hm=>by have:=w _ hm;omega
 obtain ⟨G5,e5,h5,Z⟩:=OP (NM J) (Vc [.slice (Sa (H.length+1)) 5 5,.slice (Sa r) ((WP g i).length+1) c'])
 have X4:=fun X=>(OI.refl.app (X:=X)).cells J
 have z:lim<=H.length+2:=by omega
 simp only [n10,r10,F,I,h,o,t,u,P,ix,q,wa,wb,wc,wd,we,R,S,T,U,wf,wi,Ns v,L,W,X4,e5,z,SB,seval,NC,NJ,NF,NP,reduceCtorEq,NB,place,NA,ND]
 exact hN (i+1,Sa r,c') _ _ ⟨by show i+1<=n;omega,F,I,h,o,by rfl,((K.trans' V fun j C ak=>by have:=w j C;omega).mut Z (.inr (by omega))).app,(OI.refl.app).cells (Z.cells aa (by omega)),(OI.refl.app).cells (Z.cells ab (by omega)),
  by simp only [A,Nm,Qu];exact (OI.refl.app).cells h5,by simp only [A];exact ((O4.mut Z fun a M e=>by cases M;simp at e;omega).le (by omega)).app _⟩ (by show n-(i+1)<n-i;omega)
theorem Nt9 {α:Type} [Inhabited α] {l m:List α} {i:Nat} (h:i<l.length):gt (l++m) i=gt l i:=by
 rw [QH (by simp;omega),QH h,Qq h]
theorem Nua {α:Type} [Inhabited α] {l:List α} {x:α}:gt (l++[x]) l.length=x:=by
 rw [QH (by simp),Q6 (Nd _)]
 simp
theorem Nty {P:List Int} {M:List Leg} {l:Leg} (h:Wo P M) (h1:Fine l) (h2:l.id∉M.map (·.id)) (a:l.frm∈P) (b:l.dst∈P):Wo P (M++[l]):=fun i hi=>by
 rw [Nm,Qu] at hi
 rcases On i M.length with h5 | h5
 ·have:=h i h5
  unfold lOk at *
  rw [Nt9 h5,P4 (by omega)]
  exact this
 ·obtain rfl:i=M.length:=by omega
  unfold lOk
  rw [Nua,P4 (Nd _),Oj]
  exact ⟨h1,h2,a,b⟩
theorem N5s {a:Int} (h1:1<=a) (h2:a<=5):a∈P5:=by
 have:a=1\/a=2\/a=3\/a=4\/a=5:=by omega
 rcases this with rfl | rfl | rfl | rfl | rfl<;>decide
theorem Nq7 {c:List RL} (g:∀x∈c,ByR x):∀n,n<=c.length->n<=10->Wo P5 (WP c n)
 | 0,_,_=>fun i hi=>by cases hi
 | n+1,hn,h10=>by
   have ih:=Nq7 g n (by omega) (by omega)
   rw [WP]
   split
   ·rename_i k
    obtain ⟨h,d,hc,hd,he,j⟩:=g _ (Ru (l:=c) (i:=n) (by omega))
    have m:=Int.tmod_lt_of_pos (gt c n).a (show (0:Int)<5 by decide)
    have o:=Int.tmod_nonneg (5:Int) h.1
    have p:=Int.tmod_lt_of_pos (gt c n).b (show (0:Int)<5 by decide)
    have q:=Int.tmod_nonneg (5:Int) d.1
    have r:=Int.tmod_lt_of_pos (gt c n).e (show (0:Int)<60 by decide)
    have s:=Int.tmod_nonneg (60:Int) he.1
    have t:=Int.tmod_lt_of_pos (gt c n).f (show (0:Int)<127 by decide)
    have u:=Int.tmod_nonneg (127:Int) j.1
    refine Nty ih ?_ ?_ ?_ ?_
    ·unfold Fine YC at *
     simp only at *
     omega
    ·intro hm
     obtain ⟨l,h1,h2⟩:=List.mem_map.1 hm
     obtain ⟨i,v,rfl,_⟩:=MN h1
     unfold YC at h2
     simp only at h2
     omega
    ·refine N5s ?_ ?_<;>(unfold YC;simp only;omega)
    ·refine N5s ?_ ?_<;>(unfold YC;simp only;omega)
   ·exact ih
theorem N2h:TR P5:=by decide
theorem Nox {a:List RL} (b:∀x∈a,ByR x) {n:Nat} (hn:n<=a.length) (h10:n<=10):Rz P5 (WP a n)=0:=by
 have h1:=Y5 a n
 unfold Rz
 rw [Nh (by have:P5.length=5:=rfl;omega),Nh (by simpa using N2h),Nh (by simpa using Nq7 b n hn h10)]
theorem N2l {S:List Ev} {item:Int} (hi:item≠0):VC (OM S).1 item=[]↔∀s∈S,s.item≠item:=by
 have hp:=Ngv S
 constructor
 ·intro h s hs he
  have h1:bare s∈((OM S).1++(OM S).2).map bare:=hp.mem_iff.2 (List.mem_map_of_mem hs)
  obtain ⟨x,b,c⟩:=List.mem_map.1 h1
  have d:x.item=item:=by have:=Qn Ev.item c;simpa [bare,he] using this
  rcases Oh.1 b with h2 | h2
  ·have:x∈VC (OM S).1 item:=(MM hi).2 ⟨h2,d⟩
   rw [h] at this;exact Pa this
  ·obtain ⟨y,f,a,_⟩:=(Nnt S).2 x h2
   have e:y.item=item:=by have:=Qn Prod.fst a;simp only [R7] at this;omega
   have:y∈VC (OM S).1 item:=(MM hi).2 ⟨f,e⟩
   rw [h] at this;exact Pa this
 ·intro h
  rw [List.eq_nil_iff_forall_not_mem]
  intro x b
  obtain ⟨h1,h2⟩:=(MM hi).1 b
  obtain ⟨s,hs,rfl⟩:=M9 (.inl h1)
  exact h s hs h2
theorem Nqb {C:List Int} {F:List Fo}:(Vd C F).length<=24:=by unfold Vd;rw [Nv,Ok];omega
section
variable {lim n ce cq cr cl B:Nat} {pe q r pl:Option Addr} {ks:List Int} {ss:List Stp} {c:Int} {A:List An} {H:NE} {Q:Value->NE->Prop}
end
end Go.Proofs.YtkppjkkkdpcgiaaGreat.Fn


namespace Go.Scan
section
variable {item:Int}
end
end Go.Scan


namespace Go.Proofs.YtkppjkkkdpcgiaaGreat.Fn
open Go.AM Go.AM.Sym Go.Net Go.Scan
theorem N1b [OB] (h:OB.on 18=true) {mp:Bool} {lim:Nat} {H:NE} {Q:Value->NE->Prop}:NL E mp lim 18 [] H Q=Q (.bool true) H:=
 Nwi (E:=E) (by simp [E,orc,h]) rfl rfl
structure F7 (p r2 sp:Option Addr) (n m s ca cm sc B:Nat) (item now:Int) (fr:Nat->Value):Prop where
 f0:fr 0=.slice p n ca
 f2:fr 2=.slice r2 m cm
 f4:fr 4=.int .u8 item
 f5:fr 5=.int .u16 now
 f13:fr 13=Vp B
 f14:fr 14=.slice sp s sc
theorem F7.next {p r2 sp:Option Addr} {n m s ca cm sc B:Nat} {item now:Int} {fr fr':Nat->Value} (h:F7 p r2 sp n m s ca cm sc B item now fr) (e:∀t,t<15->fr' t=fr t):F7 p r2 sp n m s ca cm sc B item now fr':=
 ⟨(e 0 (by decide)).trans h.f0,(e 2 (by decide)).trans h.f2,(e 4 (by decide)).trans h.f4,(e 5 (by decide)).trans h.f5,(e 13 (by decide)).trans h.f13,(e 14 (by decide)).trans h.f14⟩
theorem N04 {C:List Int} {M:List Fo}:∀x∈Vd C M,(1<=x.scanner/\x.scanner<=4)/\1<=x.item/\x.item<=4:=fun x a=>by
 unfold Vd at a
 obtain ⟨f,_,rfl⟩:=List.mem_map.1 a
 unfold WA
 simp only
 omega
def evK (p t k:Int):Ev:=⟨7,p,p,k,t,t,0⟩
def Sj (n:Nat):List Ev:=(List.range n).map fun (i:Nat)=>evK (1+(i:Int) % 2) (100*(i:Int)) 2
theorem Si {n:Nat}:(Sj n).length=n:=by unfold Sj;rw [Nv,Ps]
theorem Nq9:(VC (OM (Sj 41)).1 7).length=41:=by decide +kernel
theorem Nra:(VC (OM ((Sj 41).drop 1)).1 7).length=40:=by decide +kernel
theorem No4:QN (Sj 41):=by decide +kernel
theorem Nlp:QN ((Sj 41).drop 1):=by decide +kernel
theorem N4a {S:List Ev}:¬QN (S++[evK 1 (-1) 2]):=fun h=>by
 have:=(h.2 (evK 1 (-1) 2) (by simp)).2.2.2.2.1
 exact absurd this.1 (by decide)
def T9a:ACode:=Sb (Sb (Sb (Sb (Sb (Sb (Sb c9))))))
def T9b:ACode:=Sb T9a
theorem N4m:T9a=.seq (TC T9a) T9b:=rfl
def T9c:ACode:=Sb T9b
theorem N4l:T9b=.seq (TC T9b) T9c:=rfl
def T9d:ACode:=Sb T9c
theorem N4k:T9c=.seq (TC T9c) T9d:=rfl
def T9e:ACode:=Sb T9d
theorem N4j:T9d=.seq (TC T9d) T9e:=rfl
def T9f:ACode:=Sb T9e
theorem N4i:T9e=.seq (TC T9e) T9f:=rfl
def T9g:ACode:=Sb T9f
theorem N4h:T9f=.seq (TC T9f) T9g:=rfl
def T9h:ACode:=Sb T9g
theorem N4g:T9g=.seq (TC T9g) T9h:=rfl
def T9i:ACode:=Sb T9h
theorem N4f:T9h=.seq (TC T9h) T9i:=rfl
def T9j:ACode:=Sb T9i
theorem N4e:T9i=.seq (TC T9i) T9j:=rfl
section
variable {lim B7 Bw cS cb cm cp cL:Nat} {pS pb pm pp pL pw:Option Addr} {L:List Leg} {S:List Ev} {n:Int} {G:NE} {fr:Nat->Value} {Q:Value->NE->Prop}
structure A9 (B7 Bw cS cb cm cp cL:Nat) (pS pb pm pp pL pw:Option Addr) (L:List Leg) (S:List Ev) (n:Int) (G:NE) (fr:Nat->Value):Prop where
 f2:fr 2=Vi n
 f7:fr 7=Vp B7
 f8:fr 8=.slice pS S.length cS
 f10:fr 10=.slice pb (S++[evK 1 (-1) 2]).length cb
 f11:fr 11=Vp Bw
 f12:fr 12=.slice pm (Sj 41).length cm
 k7:NH G B7=Vc (SC pp P5.length cp pL L.length cL)
 kw:NH G Bw=Vc (SC pw [1,1].length 2 none ([]:List Leg).length 0)
 hN:NetIn G pp pL P5 L
 hW:NetIn G pw none [1,1] []
 sS:Sl G QJ 6 pS S
 sb:Sl G QJ 6 pb (S++[evK 1 (-1) 2])
 sm:Sl G QJ 6 pm (Sj 41)
 hm:UC 6 cm (Sj 41).length
 hv:Rz P5 L=0
 hS:QN S
 h10:∀s∈S,s.item≠10
theorem A9.next {G':NE} {fr':Nat->Value} (h:A9 B7 Bw cS cb cm cp cL pS pb pm pp pL pw L S n G fr) (e:OI G G') (k:∀t,t<13->fr' t=fr t):A9 B7 Bw cS cb cm cp cL pS pb pm pp pL pw L S n G' fr':=
 ⟨(k 2 (by decide)).trans h.f2,(k 7 (by decide)).trans h.f7,(k 8 (by decide)).trans h.f8,(k 10 (by decide)).trans h.f10,(k 11 (by decide)).trans h.f11,(k 12 (by decide)).trans h.f12,e.cells h.k7,e.cells h.kw,h.hN.sim fun b ro c a=>e.cells a,h.hW.sim fun b ro c a=>e.cells a,e.sl h.sS,e.sl h.sb,e.sl h.sm,h.hm,h.hv,h.hS,h.h10⟩
theorem Ocb [OB] (c:EffOk) (A:A9 B7 Bw cS cb cm cp cL pS pb pm pp pL pw L S n G fr) (hl:lim<=G.length)
  (d:∀fr' G',OI G G'->(∀t,t<60->t≠14->t≠15->fr' t=fr t)->fr' 15=Vi 2->PQ E a9 lim [.code T9b] fr' G' Q):PQ E a9 lim [.code T9a] fr G Q:=by
 rw [N4m]
 refine NK ?_
 have i:=fun X=>(OI.refl.app (X:=X)).cells A.k7
 have g:=fun X=>(OI.refl.app (X:=X)).cells A.kw
 have e:Td P5 L (S++[evK 1 (-1) 2]) 1 1=2:=UO A.hv (.inl N4a)
 have f:=A.hS.1
 simp only [TC,Sb,T9a,c9,n9,r9,A.f7,A.f10,i,OQ,NI,Y7,Y8,SB,seval,NC,NJ,NF,NP,reduceCtorEq,NB,place,NA,ND]
 rw [show S.length+1=(S++[evK 1 (-1) 2]).length by simp]
 refine UB c (lim:=lim) (P:=P5) (L:=L) (S:=S++[evK 1 (-1) 2]) (A.hN.app []) (A.sb.app []) (by simp [Si];try omega) (by simp;omega) (fun G2 j b=>?_) (fun _ _ _ _ _ _ _ _ _ _ _ _ _ _ _ _ _ h=>absurd (e.symm.trans h) (by decide))
 rw [e]
 refine NK ?_
 have a:=b.len
 simp at a
 simp only [n9,r9,Vg,NI,NG,show lim<=G2.length by omega,SB,seval,NC,NJ,NF,NP,reduceCtorEq,NB,place,NA,ND]
 exact d _ _ ((OI.refl.app.trans b.ext).trans OI.refl.app) (fun t h1 h2 k=>by simp only [upd];repeat rw [Nh (by omega)]) rfl
theorem Oca [OB] (c:EffOk) (A:A9 B7 Bw cS cb cm cp cL pS pb pm pp pL pw L S n G fr) (hl:lim<=G.length)
  (d:∀fr' G',OI G G'->(∀t,t<60->t≠16->t≠17->fr' t=fr t)->fr' 17=Vi 2->PQ E a9 lim [.code T9c] fr' G' Q):PQ E a9 lim [.code T9b] fr G Q:=by
 rw [N4l]
 refine NK ?_
 have i:=fun X=>(OI.refl.app (X:=X)).cells A.k7
 have g:=fun X=>(OI.refl.app (X:=X)).cells A.kw
 have e:Td P5 L (S) (min n 0) 1=2:=UO A.hv (.inr (.inl (by omega)))
 have f:=A.hS.1
 simp only [TC,Sb,T9a,T9b,c9,n9,r9,A.f7,A.f8,A.f2,i,OQ,NI,Y7,Y8,SB,seval,NC,NJ,NF,NP,reduceCtorEq,NB,place,NA,ND]
 refine UB c (lim:=lim) (P:=P5) (L:=L) (S:=S) (A.hN.app []) (A.sS.app []) (by simp [Si];try omega) (by simp;omega) (fun G2 j b=>?_) (fun _ _ _ _ _ _ _ _ _ _ _ _ _ _ _ _ _ h=>absurd (e.symm.trans h) (by decide))
 rw [e]
 refine NK ?_
 have a:=b.len
 simp at a
 simp only [n9,r9,Vg,NI,NG,show lim<=G2.length by omega,SB,seval,NC,NJ,NF,NP,reduceCtorEq,NB,place,NA,ND]
 exact d _ _ ((OI.refl.app.trans b.ext).trans OI.refl.app) (fun t h1 h2 k=>by simp only [upd];repeat rw [Nh (by omega)]) rfl
theorem Ob9 [OB] (c:EffOk) (A:A9 B7 Bw cS cb cm cp cL pS pb pm pp pL pw L S n G fr) (hl:lim<=G.length)
  (d:∀fr' G',OI G G'->(∀t,t<60->t≠18->t≠19->fr' t=fr t)->fr' 19=Vi 2->PQ E a9 lim [.code T9d] fr' G' Q):PQ E a9 lim [.code T9c] fr G Q:=by
 rw [N4k]
 refine NK ?_
 have i:=fun X=>(OI.refl.app (X:=X)).cells A.k7
 have g:=fun X=>(OI.refl.app (X:=X)).cells A.kw
 have e:Td P5 L (S) (max n 1000000) 1=2:=UO A.hv (.inr (.inr (.inl (by omega))))
 have f:=A.hS.1
 simp only [TC,Sb,T9a,T9b,T9c,c9,n9,r9,A.f7,A.f8,A.f2,i,OQ,NI,Y7,Y8,SB,seval,NC,NJ,NF,NP,reduceCtorEq,NB,place,NA,ND]
 refine UB c (lim:=lim) (P:=P5) (L:=L) (S:=S) (A.hN.app []) (A.sS.app []) (by simp [Si];try omega) (by simp;omega) (fun G2 j b=>?_) (fun _ _ _ _ _ _ _ _ _ _ _ _ _ _ _ _ _ h=>absurd (e.symm.trans h) (by decide))
 rw [e]
 refine NK ?_
 have a:=b.len
 simp at a
 simp only [n9,r9,Vg,NI,NG,show lim<=G2.length by omega,SB,seval,NC,NJ,NF,NP,reduceCtorEq,NB,place,NA,ND]
 exact d _ _ ((OI.refl.app.trans b.ext).trans OI.refl.app) (fun t h1 h2 k=>by simp only [upd];repeat rw [Nh (by omega)]) rfl
theorem Ob8 [OB] (c:EffOk) (A:A9 B7 Bw cS cb cm cp cL pS pb pm pp pL pw L S n G fr) (hl:lim<=G.length)
  (d:∀fr' G',OI G G'->(∀t,t<60->t≠20->t≠21->fr' t=fr t)->fr' 21=Vi 2->PQ E a9 lim [.code T9e] fr' G' Q):PQ E a9 lim [.code T9d] fr G Q:=by
 rw [N4j]
 refine NK ?_
 have i:=fun X=>(OI.refl.app (X:=X)).cells A.k7
 have g:=fun X=>(OI.refl.app (X:=X)).cells A.kw
 have e:Td P5 L (S) 1 (min n (-1))=2:=UO A.hv (.inr (.inr (.inr (.inl (by omega)))))
 have f:=A.hS.1
 simp only [TC,Sb,T9a,T9b,T9c,T9d,c9,n9,r9,A.f7,A.f8,A.f2,i,OQ,NI,Y7,Y8,SB,seval,NC,NJ,NF,NP,reduceCtorEq,NB,place,NA,ND]
 refine UB c (lim:=lim) (P:=P5) (L:=L) (S:=S) (A.hN.app []) (A.sS.app []) (by simp [Si];try omega) (by simp;omega) (fun G2 j b=>?_) (fun _ _ _ _ _ _ _ _ _ _ _ _ _ _ _ _ _ h=>absurd (e.symm.trans h) (by decide))
 rw [e]
 refine NK ?_
 have a:=b.len
 simp at a
 simp only [n9,r9,Vg,NI,NG,show lim<=G2.length by omega,SB,seval,NC,NJ,NF,NP,reduceCtorEq,NB,place,NA,ND]
 exact d _ _ ((OI.refl.app.trans b.ext).trans OI.refl.app) (fun t h1 h2 k=>by simp only [upd];repeat rw [Nh (by omega)]) rfl
theorem Ob7 [OB] (c:EffOk) (A:A9 B7 Bw cS cb cm cp cL pS pb pm pp pL pw L S n G fr) (hl:lim<=G.length)
  (d:∀fr' G',OI G G'->(∀t,t<60->t≠22->t≠23->fr' t=fr t)->fr' 23=Vi 2->PQ E a9 lim [.code T9f] fr' G' Q):PQ E a9 lim [.code T9e] fr G Q:=by
 rw [N4i]
 refine NK ?_
 have i:=fun X=>(OI.refl.app (X:=X)).cells A.k7
 have g:=fun X=>(OI.refl.app (X:=X)).cells A.kw
 have e:Td P5 L (S) 1 (max n 1051898400)=2:=UO A.hv (.inr (.inr (.inr (.inr (by unfold OC;omega)))))
 have f:=A.hS.1
 simp only [TC,Sb,T9a,T9b,T9c,T9d,T9e,c9,n9,r9,A.f7,A.f8,A.f2,i,OQ,NI,Y7,Y8,SB,seval,NC,NJ,NF,NP,reduceCtorEq,NB,place,NA,ND]
 refine UB c (lim:=lim) (P:=P5) (L:=L) (S:=S) (A.hN.app []) (A.sS.app []) (by simp [Si];try omega) (by simp;omega) (fun G2 j b=>?_) (fun _ _ _ _ _ _ _ _ _ _ _ _ _ _ _ _ _ h=>absurd (e.symm.trans h) (by decide))
 rw [e]
 refine NK ?_
 have a:=b.len
 simp at a
 simp only [n9,r9,Vg,NI,NG,show lim<=G2.length by omega,SB,seval,NC,NJ,NF,NP,reduceCtorEq,NB,place,NA,ND]
 exact d _ _ ((OI.refl.app.trans b.ext).trans OI.refl.app) (fun t h1 h2 k=>by simp only [upd];repeat rw [Nh (by omega)]) rfl
theorem Ob6 [OB] (d:EffOk) (A:A9 B7 Bw cS cb cm cp cL pS pb pm pp pL pw L S n G fr) (hl:lim<=G.length)
  (f:∀fr' G',OI G G'->(∀t,t<60->t≠24->t≠25->fr' t=fr t)->fr' 25=Vi 320->PQ E a9 lim [.code T9g] fr' G' Q):PQ E a9 lim [.code T9f] fr G Q:=by
 rw [N4h]
 refine NK ?_
 have k:=fun X=>(OI.refl.app (X:=X)).cells A.k7
 have b:=fun X=>(OI.refl.app (X:=X)).cells A.kw
 have e:Td [1,1] [] (S++[evK 1 (-1) 2]) 0 0=320:=Ng7 (by decide)
 have g:=A.hS.1
 simp only [TC,Sb,T9a,T9b,T9c,T9d,T9e,T9f,c9,n9,r9,A.f11,A.f10,b,OQ,NI,Y7,Y8,SB,seval,NC,NJ,NF,NP,reduceCtorEq,NB,place,NA,ND]
 rw [show S.length+1=(S++[evK 1 (-1) 2]).length by simp]
 refine UB d (lim:=lim) (P:=[1,1]) (L:=[]) (S:=S++[evK 1 (-1) 2]) (A.hW.app []) (A.sb.app []) (by simp [Si];try omega) (by simp;omega) (fun G2 i c=>?_) (fun _ _ _ _ _ _ _ _ _ _ _ _ _ _ _ _ _ h=>absurd (e.symm.trans h) (by decide))
 rw [e]
 refine NK ?_
 have a:=c.len
 simp at a
 simp only [n9,r9,Vg,NI,NG,show lim<=G2.length by omega,SB,seval,NC,NJ,NF,NP,reduceCtorEq,NB,place,NA,ND]
 exact f _ _ ((OI.refl.app.trans c.ext).trans OI.refl.app) (fun t h1 h2 j=>by simp only [upd];repeat rw [Nh (by omega)]) rfl
theorem Ob5 [OB] (c:EffOk) (A:A9 B7 Bw cS cb cm cp cL pS pb pm pp pL pw L S n G fr) (hl:lim<=G.length)
  (d:∀fr' G',OI G G'->(∀t,t<60->t≠26->t≠27->fr' t=fr t)->fr' 27=Vi 6->PQ E a9 lim [.code T9h] fr' G' Q):PQ E a9 lim [.code T9g] fr G Q:=by
 rw [N4g]
 refine NK ?_
 have i:=fun X=>(OI.refl.app (X:=X)).cells A.k7
 have g:=fun X=>(OI.refl.app (X:=X)).cells A.kw
 have e:Td P5 L (S) 10 1=6:=(by rw [Zn A.hv A.hS (by decide) (by decide) (by decide) (by decide),Ni ((N2l (by decide)).2 A.h10)])
 have f:=A.hS.1
 simp only [TC,Sb,T9a,T9b,T9c,T9d,T9e,T9f,T9g,c9,n9,r9,A.f7,A.f8,i,OQ,NI,Y7,Y8,SB,seval,NC,NJ,NF,NP,reduceCtorEq,NB,place,NA,ND]
 refine UB c (lim:=lim) (P:=P5) (L:=L) (S:=S) (A.hN.app []) (A.sS.app []) (by simp [Si];try omega) (by simp;omega) (fun G2 j b=>?_) (fun _ _ _ _ _ _ _ _ _ _ _ _ _ _ _ _ _ h=>absurd (e.symm.trans h) (by decide))
 rw [e]
 refine NK ?_
 have a:=b.len
 simp at a
 simp only [n9,r9,Vg,NI,NG,show lim<=G2.length by omega,SB,seval,NC,NJ,NF,NP,reduceCtorEq,NB,place,NA,ND]
 exact d _ _ ((OI.refl.app.trans b.ext).trans OI.refl.app) (fun t h1 h2 k=>by simp only [upd];repeat rw [Nh (by omega)]) rfl
theorem Ob4 [OB] (c:EffOk) (A:A9 B7 Bw cS cb cm cp cL pS pb pm pp pL pw L S n G fr) (hl:lim<=G.length)
  (d:∀fr' G',OI G G'->(∀t,t<60->t≠28->t≠29->fr' t=fr t)->fr' 29=Vi 5->PQ E a9 lim [.code T9i] fr' G' Q):PQ E a9 lim [.code T9h] fr G Q:=by
 rw [N4f]
 refine NK ?_
 have i:=fun X=>(OI.refl.app (X:=X)).cells A.k7
 have g:=fun X=>(OI.refl.app (X:=X)).cells A.kw
 have e:Td P5 L (Sj 41) 7 1=5:=(by rw [Zn A.hv No4 (by decide) (by decide) (by decide) (by decide),Nh (fun h=>by have:=Nq9;rw [h] at this;cases this),Ni (by rw [Nq9];decide)])
 have f:=A.hS.1
 simp only [TC,Sb,T9a,T9b,T9c,T9d,T9e,T9f,T9g,T9h,c9,n9,r9,A.f7,A.f12,i,OQ,NI,Y7,Y8,SB,seval,NC,NJ,NF,NP,reduceCtorEq,NB,place,NA,ND]
 refine UB c (lim:=lim) (P:=P5) (L:=L) (S:=Sj 41) (A.hN.app []) (A.sm.app []) (by simp [Si];try omega) (by simp;omega) (fun G2 j b=>?_) (fun _ _ _ _ _ _ _ _ _ _ _ _ _ _ _ _ _ h=>absurd (e.symm.trans h) (by decide))
 rw [e]
 refine NK ?_
 have a:=b.len
 simp at a
 simp only [n9,r9,Vg,NI,NG,show lim<=G2.length by omega,SB,seval,NC,NJ,NF,NP,reduceCtorEq,NB,place,NA,ND]
 exact d _ _ ((OI.refl.app.trans b.ext).trans OI.refl.app) (fun t h1 h2 k=>by simp only [upd];repeat rw [Nh (by omega)]) rfl
theorem Ob3 [OB] (x:EffOk) (A:A9 B7 Bw cS cb cm cp cL pS pb pm pp pL pw L S n G fr) (hl:lim<=G.length)
  (y:∀fr' G',(∀t,t<60->t≠30->t≠31->fr' t=fr t)->fr' 31=Vi 0->PQ E a9 lim [.code T9j] fr' G' Q):PQ E a9 lim [.code T9i] fr G Q:=by
 rw [N4e]
 refine NK ?_
 have C:=fun X=>(OI.refl.app (X:=X)).cells A.k7
 have a:(Sj 41).length=41:=Si
 obtain ⟨q1,u,z,s,_,_,_⟩:=Uf (c:=cm) (vlo:=some (Vi 1)) (vhi:=none) (lo:=1) (hi:=41) A.sm A.hm OT (fun cap p=>by rw [Njk (by decide) (by rw [a];decide),a];rfl) (by decide) (by rw [a];decide) (by rw [a];decide)
 rw [Oc (by rw [a];decide)] at s
 have b:((Sj 41).drop 1).length=40:=by rw [Pi,a]
 have l:V4 6 (.slice pm (Sj 41).length cm) (some (Vi 1)) none none=some (.slice q1 40 u):=z
 have e:Td P5 L ((Sj 41).drop 1) 7 1=0:=by rw [Zn A.hv Nlp (by decide) (by decide) (by decide) (by decide),Nh (fun h=>by have:=Nra;rw [h] at this;cases this),Nh (by rw [Nra];decide)]
 have f12:=A.f12
 simp only [TC,Sb,T9a,T9b,T9c,T9d,T9e,T9f,T9g,T9h,T9i,c9,n9,r9,A.f7,f12,l,C,OQ,NI,SB,seval,NC,NJ,NF,NP,reduceCtorEq,NB,place,NA,ND]
 rw [<-b]
 refine UB x (lim:=lim) (P:=P5) (L:=L) (S:=(Sj 41).drop 1) (A.hN.app _) (s.app _) (by rw [b];decide) (by simp;omega) (fun G2 o g=>absurd e o) (fun G2 pe ce q cq r cr pl cl es tw ks ss _ _ _ _ o g _ _ _ _ _=>?_)
 have j:=g.len
 simp at j
 have i:=g.ext
 have m:NH G2 G.length=.dead:=by obtain ⟨X,rfl⟩:=i;rw [NN (by simp),NS];rfl
 have k:List.set G2 G.length Blk.dead=G2:=set_self m (by omega)
 obtain ⟨D,e3,f,I⟩:=OP (G:=G2) (R:=G.length) (by omega) (Vc [Vz,Vz,Vz,Vi 0,Vz])
 obtain ⟨F,w,H,J⟩:=OP (NM f) (Vc (UE pe es.length ce q ks.length cq r ss.length cr (Tp P5 L es ks) pl (VD P5 L es tw ks ss 1).length cl))
 have B:=fun X=>(OI.refl.app (X:=X)).cells f
 refine NK ?_
 have v:NH (G++[Blk.dead]) G.length=.dead:=by rw [NS];rfl
 have d:NH (G2++[]) G.length=.dead:=by rw [Nb];exact m
 simp only [n9,r9,v,d,k,e3,B,w,hl,QW,NI,NG,SB,seval,NC,NJ,NF,NP,reduceCtorEq,NB,place,NA,ND]
 exact y _ _ (fun t h1 h2 f=>by simp only [upd];repeat rw [Nh (by omega)]) rfl
theorem Ob2 [OB] (f:OB.on 18=true) (a:fr 15=Vi 2) (e17:fr 17=Vi 2) (b:fr 19=Vi 2) (c:fr 21=Vi 2) (d:fr 23=Vi 2) (e:fr 25=Vi 320) (e27:fr 27=Vi 6) (e29:fr 29=Vi 5) (e31:fr 31=Vi 0):PQ E a9 lim [.code T9j] fr G fun v _=>v=.bool true:=by
 refine NK ?_
 simp only [TC,Sb,T9a,T9b,T9c,T9d,T9e,T9f,T9g,T9h,T9i,T9j,c9,n9,r9,a,e17,b,c,d,e,e27,e29,e31,N1b f,SB,seval,NC,NJ,NF,NP,reduceCtorEq,NB,place,NA,ND]
theorem N6t [OB] (b:EffOk) (j:OB.on 18=true) (A:A9 B7 Bw cS cb cm cp cL pS pb pm pp pL pw L S n G fr) (hl:lim<=G.length):PQ E a9 lim [.code T9a] fr G fun v _=>v=.bool true:=by
 refine Ocb b A hl fun fr1 G1 z k1 r1=>?_
 have q:=A.next z fun t h=>k1 t (by omega) (by omega) (by omega)
 have Q:=O9 hl z.len
 refine Oca b q Q fun c G2 B k2 r2=>?_
 have r:=q.next B fun t h=>k2 t (by omega) (by omega) (by omega)
 have R:=O9 Q B.len
 refine Ob9 b r R fun d G3 C k3 r3=>?_
 have s:=r.next C fun t h=>k3 t (by omega) (by omega) (by omega)
 have T:=O9 R C.len
 refine Ob8 b s T fun e G4 D K r4=>?_
 have u:=s.next D fun t h=>K t (by omega) (by omega) (by omega)
 have U:=O9 T D.len
 refine Ob7 b u U fun f G5 F M k=>?_
 have w:=u.next F fun t h=>M t (by omega) (by omega) (by omega)
 have V:=O9 U F.len
 refine Ob6 b w V fun g G6 H N l=>?_
 have x:=w.next H fun t h=>N t (by omega) (by omega) (by omega)
 have W:=O9 V H.len
 refine Ob5 b x W fun i G7 I k7 m=>?_
 have y:=x.next I fun t h=>k7 t (by omega) (by omega) (by omega)
 have X:=O9 W I.len
 refine Ob4 b y X fun aa G8 J O o=>?_
 have A8:=y.next J fun t h=>O t (by omega) (by omega) (by omega)
 have m8:=O9 X J.len
 refine Ob3 b A8 m8 fun a G9 P p=>?_
 have q8:∀t,t<28->a t=i t:=fun t h=>(P t (by omega) (by omega) (by omega)).trans (O t (by omega) (by omega) (by omega))
 have q7:∀t,t<26->a t=g t:=fun t h=>(q8 t (by omega)).trans (k7 t (by omega) (by omega) (by omega))
 have q6:∀t,t<24->a t=f t:=fun t h=>(q7 t (by omega)).trans (N t (by omega) (by omega) (by omega))
 have Z:∀t,t<22->a t=e t:=fun t h=>(q6 t (by omega)).trans (M t (by omega) (by omega) (by omega))
 have Y:∀t,t<20->a t=d t:=fun t h=>(Z t (by omega)).trans (K t (by omega) (by omega) (by omega))
 have q3:∀t,t<18->a t=c t:=fun t h=>(Y t (by omega)).trans (k3 t (by omega) (by omega) (by omega))
 have q2:∀t,t<16->a t=fr1 t:=fun t h=>(q3 t (by omega)).trans (k2 t (by omega) (by omega) (by omega))
 exact Ob2 j ((q2 15 (by decide)).trans r1) ((q3 17 (by decide)).trans r2) ((Y 19 (by decide)).trans r3) ((Z 21 (by decide)).trans r4) ((q6 23 (by decide)).trans k) ((q7 25 (by decide)).trans l) ((q8 27 (by decide)).trans m) ((P 29 (by decide) (by decide) (by decide)).trans o) p
end
def U1:ACode:=Sb c9
theorem Odt:c9=.seq (TC c9) U1:=rfl
def U2:ACode:=Sb U1
theorem Oe7:U1=.seq (TC U1) U2:=rfl
def U3:ACode:=Sb U2
theorem Oe6:U2=.seq (TC U2) U3:=rfl
def U4:ACode:=Sb U3
theorem Oe5:U3=.seq (TC U3) U4:=rfl
def U5:ACode:=Sb U4
theorem Oe4:U4=.seq (TC U4) U5:=rfl
def U6:ACode:=Sb U5
theorem Oe3:U5=.seq (TC U5) U6:=rfl
theorem Oe2:U6=.seq (TC U6) T9a:=rfl
section
variable {lim cS:Nat} {pS:Option Addr} {S:List Ev} {G:NE} {fr:Nat->Value} {Q:Value->NE->Prop}
theorem Odu [OB] (f8:fr 8=.slice pS S.length cS) (sS:Sl G QJ 6 pS S) (hS:S.length<=24) (hl:lim<=G.length)
  (h:∀fr' G' pb cb,OI G G'->(∀t,t<10->fr' t=fr t)->fr' 10=.slice pb (S++[evK 1 (-1) 2]).length cb->Sl G' QJ 6 pb (S++[evK 1 (-1) 2])->PQ E a9 lim [.code U4] fr' G' Q):PQ E a9 lim [.code U3] fr G Q:=by
 rw [Oe5]
 refine NK ?_
 have f:QJ (evK 1 (-1) 2)=[Vi 7,Vi 1,Vi 1,.int .u8 2,Vi (-1),Vi (-1)]:=rfl
 by_cases g:S=[]
 ·subst g
  have c:∀X,PE lim none 6 48 false (.slice (Sa G.length) 0 0) (.slice pS 0 cS) X=some (.slice (Sa G.length) 0 0,X):=fun X=>Nmz (by decide)
  have d:PE lim none 6 48 false (.slice (Sa G.length) 0 0) (.slice (Sa (G.length+1)) 1 1) (G++[Vc [],Vc (QJ (evK 1 (-1) 2))])=_:=
   YS (l:=[evK 1 (-1) 2]) (by rw [NS];rfl) (Sl.row (ro:=false) OT (by rw [NW];rfl)) (by decide) (by unfold PS;decide) (by decide) (by simp)
  rw [f] at d
  simp only [Nm,Nl,Nr,N6,Nat.reduceAdd] at d
  simp only [TC,Sb,U1,U2,U3,c9,n9,r9,f8,c,Xe,d,Nr,SB,seval,NC,NJ,NF,NP,reduceCtorEq,NB,place,NA,ND]
  exact h _ _ _ _ OI.refl.app (fun t k=>by simp only [upd];repeat rw [Nh (by omega)]) rfl (Sl.row (ro:=false) OT (by rw [NW];rfl))
 have c:PE lim none 6 48 false (.slice (Sa G.length) 0 0) (.slice pS S.length cS) (G++[Vc []])=_:=
  YS (l:=S) (by rw [NS];rfl) (sS.app _) (by decide) (by unfold PS;omega) (by omega) g
 simp only [Nm,Nl,Nr,N6,Nn,Ow,Ol] at c
 obtain ⟨G2,e2,a,b,e,i,_⟩:=(show Own G.length (G++[Vc [],Vc (S.flatMap QJ)]) QJ 6 (Sa (G.length+1)) (loose 6) S from Own.new (by rw [NW];rfl) (by omega)).step (lim':=lim) (bytes:=48) hl OT (by decide) (evK 1 (-1) 2) (by unfold PS;omega) (by omega) (by simp) [Vc (QJ (evK 1 (-1) 2))] (G.length+2) 1 (by rw [Nn,NW];rfl)
 rw [f,Nn] at e2
 simp only [Nm,Nl,Nr,N6,Nat.reduceAdd,Ow,Ol,O7] at e2 a
 have j:=b [] G (Nd _) Chg.refl.app
 simp only [TC,Sb,U1,U2,U3,c9,n9,r9,f8,c,Xe,e2,SB,seval,NC,NJ,NF,NP,reduceCtorEq,NB,place,NA,ND]
 exact h _ _ _ _ j.ext (fun t k=>by simp only [upd];repeat rw [Nh (by omega)]) (by rw [Nm];exact rfl) (a.sl OT)
theorem Np3 {j:Nat}:Sj (j+1)=Sj j++[evK (1+(j:Int) % 2) (100*(j:Int)) 2]:=by
 unfold Sj
 rw [P3,Pc]
 rfl
theorem N7g [OB] (hl:lim<=G.length) (f12:fr 12=Vz)
  (r:∀fr' G' pm cm,OI G G'->(∀t,t<12->fr' t=fr t)->fr' 12=.slice pm (Sj 41).length cm->Own G.length G' QJ 6 pm cm (Sj 41)->PQ E a9 lim [.code T9a] fr' G' Q):PQ E a9 lim [.code U6] fr G Q:=by
 rw [Oe2]
 refine NK ?_
 simp only [TC,Sb,U1,U2,U3,U4,U5,U6,c9,n9,r9,SB,seval,NC,NJ,NF,NP,reduceCtorEq,NB,place,NA,ND]
 obtain ⟨e,b⟩:∃e,e=G:=⟨_,rfl⟩
 rw [<-b] at r
 have x:lim<=e.length:=by rw [b];exact hl
 refine NR (fun j:Nat×Option Addr×Nat=>41-j.1) (fun j fr' G=>j.1<=41/\(∀t,t<12->fr' t=fr t)/\fr' 12=.slice j.2.1 j.1 j.2.2/\fr' 47=Vi j.1/\Chg [] e G/\Own e.length G QJ 6 j.2.1 j.2.2 (Sj j.1)) (0,none,0)
  ⟨by decide,(fun t i=>by simp only [upd];repeat rw [Nh (by omega)]),f12,by rfl,by rw [b];exact Chg.refl.app,.nil⟩ ?_
 clear hl b
 rintro ⟨j,q,c⟩ fr' G ⟨w,keep,a,d,k,l⟩ hN
 simp only at w a d l
 rw [NT N9s.eq_1]
 refine NK ?_
 have s:=k.len
 have g:(Sj j).length=j:=Si
 by_cases z:j<41
 case neg=>
  obtain rfl:j=41:=by omega
  simp only [n9,r9,a,d,Ns (show ¬((41:Nat):Int)<41 by decide),SB,seval,NC,NJ,NF,NP,reduceCtorEq,NB,place,NA,ND]
  exact r _ _ q c k.app.ext (fun t i=>by simp only [upd];repeat (first | rw [Nh (by omega)] | exact keep t i)) (by rw [Si];exact a) (l.app _)
 have n:IntKind.i64.wrap ((j:Int)+1)=((j+1:Nat):Int):=OG (by omega)
 have y:lim<=G.length:=by omega
 have o:IntKind.i64.wrap (1+(j:Int).tmod 2)=1+(j:Int) % 2:=by rw [Int.tmod_eq_emod_of_nonneg (by omega),NU (by omega) (by omega)]
 have p:IntKind.i64.wrap (100*(j:Int))=100*(j:Int):=NU (by omega) (by omega)
 have v:QJ (evK (1+(j:Int) % 2) (100*(j:Int)) 2)=[Vi 7,Vi (1+(j:Int) % 2),Vi (1+(j:Int) % 2),.int .u8 2,Vi (100*(j:Int)),Vi (100*(j:Int))]:=rfl
 obtain ⟨G2,e2,h,f,m,u,_⟩:=l.step (lim':=lim) (bytes:=48) (by omega) OT (by decide) (evK (1+(j:Int) % 2) (100*(j:Int)) 2) (by rw [g];unfold PS;omega) (by omega) (by omega) [Vc (QJ (evK (1+(j:Int) % 2) (100*(j:Int)) 2))] G.length 1 (by rw [NS];rfl)
 rw [g,v] at e2
 simp only [n9,r9,a,d,N5 (show (j:Int)<41 by omega),o,p,n,Xe,e2,SB,seval,NC,NJ,NF,NP,reduceCtorEq,NB,place,NA,ND]
 exact hN (j+1,Sa (G.length+1),loose 6) _ _ ⟨by omega,(fun t i=>by simp only [upd];repeat (first | rw [Nh (by omega)] | exact keep t i)),rfl,rfl,f [] e (Nd _) k,by rw [Np3];exact h⟩ (by simp only;omega)
end
theorem AnomalyWrong_ok [OB] (Y:EffOk) (R:OB.on 18=true) {mp:Bool} {lim ca cb:Nat} {p q:Option Addr} {i:List RL} {F:List Fo} {n:Int} {H:NE} {Q:Value->NE->Prop} (hs:Sl H encR 6 p i) (z:∀x∈i,ByR x) (T:i.length<2 ^ 63) (hc:UC 6 ca i.length)
  (Z:Sl H encF 6 q F) (W:∀f∈F,FoOk f) (J:UC 6 cb F.length) (K:F.length<2 ^ 63) (hn:-9223372036854775808<=n/\n<=9223372036854775807) :
  NL E mp lim 9 [.slice p i.length ca,.slice q F.length cb,Vi n] H Q=Q (.bool true) H:=by
 refine pc (by decide) e9 rfl rfl ?_
 rw [b9,Odt,Oe7]
 simp only [TC,Sb,U1,c9,n9,r9,SB,seval,NC,NJ,NF,NP,reduceCtorEq,NB,place,NA,ND]
 rw [Nb]
 have hv:=Nox z (n:=min i.length 10) (Nat.min_le_left _ _) (Nat.min_le_right _ _)
 refine N8p (lim:=H.length) hs z T hc (Nd _) fun G1 pp pL cL l o=>?_
 obtain ⟨L,hL⟩:∃L,WP i (min i.length 10)=L:=⟨_,rfl⟩
 rw [hL] at o hv⊢
 have N:=l.len
 refine NK ?_
 simp only [TC,Sb,U1,c9,n9,r9,OQ,NI,NG,N,SB,seval,NC,NJ,NF,NP,reduceCtorEq,NB,place,NA,ND]
 rw [Oe6]
 refine NK ?_
 simp only [TC,Sb,U1,U2,c9,n9,r9,SB,seval,NC,NJ,NF,NP,reduceCtorEq,NB,place,NA,ND]
 have I:OI H (G1++[Vc (SC pp P5.length 5 pL L.length cL)]):=l.ext.trans OI.refl.app
 refine N1u (C:=[]) (lim:=H.length) (I.sl Z) J (show Sl _ Nus 1 none [] from rfl) W (fun _ h=>by cases h) K (by decide) (by simp;omega) fun G2 sp sc tp tc hB=>?_
 obtain ⟨S,G⟩:∃S,Vd [] F=S:=⟨_,rfl⟩
 have e:=Nqb (C:=[]) (F:=F)
 have u:=Njl (C:=[]) (fun _ h=>by cases h) W
 have r:=N04 (C:=[]) (M:=F)
 rw [G] at hB e u r⊢
 have m:Chg [] (G1++[Vc (SC pp P5.length 5 pL L.length cL)]) G2:=⟨hB.len,fun j hj _=>hB.old j hj⟩
 have k7:NH G2 G1.length=Vc (SC pp P5.length 5 pL L.length cL):=m.cells (by rw [NS];rfl) (by simp)
 have v:OI G1 G2:=OI.refl.app.trans m.ext
 have sS:=hB.so.sl OT
 have aa:=v.len
 refine NK ?_
 simp only [TC,Sb,U1,U2,c9,n9,r9,SB,seval,NC,NJ,NF,NP,reduceCtorEq,NB,place,NA,ND]
 refine Odu (pS:=sp) (cS:=sc) (S:=S) rfl (sS.app _) e (by simp;omega) fun B y pb A w k3 f10 sb=>?_
 rw [Oe4,Oe3]
 refine NK ?_
 have O:=w.len
 simp at O
 simp only [TC,Sb,U1,U2,U3,U4,U5,c9,n9,r9,NG,show H.length<=y.length by omega,SB,seval,NC,NJ,NF,NP,reduceCtorEq,NB,place,NA,ND]
 refine N7g (by simp;omega) rfl fun D V pm cm d U f12 X=>?_
 have P:=d.len
 simp at P
 have g:OI y V:=OI.refl.app.trans d
 have a:OI G2 V:=(OI.refl.app.trans w).trans g
 have kk:∀t,t<10->D t=B t:=fun t h=>(U t (by omega)).trans (by simp only [upd];repeat rw [Nh (by omega)])
 have k:=fun t (h:t<10)=>(kk t h).trans (k3 t h)
 refine N6t Y R (B7:=G1.length) (Bw:=y.length+1) (cS:=sc) (cb:=A) (cm:=cm) (cp:=5) (cL:=cL) (pS:=sp) (pb:=pb) (pm:=pm) (pp:=pp) (pL:=pL) (pw:=Sa y.length) (L:=L) (S:=S) (n:=n)
  ⟨(k 2 (by decide)).trans rfl,(k 7 (by decide)).trans rfl,(k 8 (by decide)).trans rfl,(U 10 (by decide)).trans (by simp only [upd];(repeat rw [Nh (by omega)]);exact f10),(U 11 (by decide)).trans rfl,f12,a.cells k7,d.cells (by rw [NW];rfl),o.sim fun b ro c z=>a.cells (v.cells z),
    ⟨d.sl (Sl.row (ro:=false) RP (by rw [NS];rfl)),rfl,by decide,by decide,fun _ h=>(by cases h)⟩,a.sl sS,g.sl sb,X.sl OT,X.capOk,hv,u,fun s hs=>by have:=(r s hs).2;omega⟩ (by omega)
end Go.Proofs.YtkppjkkkdpcgiaaGreat.Fn


