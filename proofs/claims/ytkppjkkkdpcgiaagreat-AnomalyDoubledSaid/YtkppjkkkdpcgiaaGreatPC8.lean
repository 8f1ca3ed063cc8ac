/-
  Joined texts, 8 of 10. A part of the claim that the last text states.
-/
import Derived.Test.YtkppjkkkdpcgiaaGreatPC7
set_option linter.unusedVariables false
set_option linter.unusedSimpArgs false
set_option linter.defProp false
set_option linter.unusedSectionVars false
set_option maxRecDepth 100000
set_option maxHeartbeats 4000000
namespace Go.Proofs.YtkppjkkkdpcgiaaGreat.Fn
open Go.AM Go.AM.Sym Go.Scan Go.Sort
theorem Ns6 [OB] {lim R:Nat} {H:NE} {Q:Value->NE->Prop}:NK E false lim 123 [.map (some R)] H Q=Q (.func (.func 143) #[] #[Vp H.length]) (H++[Vc [.map (some R)]]):=by
 refine NK.eq ?_
 refine RG (by decide) Oel rfl ?_
 rw [Ofq,N9g]
 simp only [n123,Odp,SB,seval,NC,NJ,NG,NQ,reduceCtorEq,NB,place,NA,ND]
def UY (S:List Ev) (i:Nat):Ess:=(S.take i).foldl SY []
theorem Nib {S:List Ev} {i:Nat} (h:i<S.length):UY S (i+1)=SY (UY S i) (gt S i):=by
 unfold UY
 rw [N4 h,List.foldl_append,PS h];rfl
theorem Nfn (S:List Ev):∀i,(UY S i).length<=i
 | 0=>Nd _
 | i+1=>by
   rcases Ol i S.length with h | h
   ·rw [Nib h]
    have:=Nfn S i
    unfold SY
    split
    ·rw [Nbg];have:=Nep (k:=UC (gt S i)) (v:=mkM (gt S i)) (l:=UY S i);omega
    split
    ·rw [Nbg];have:=Nep (k:=UC (gt S i)) (v:=mkM (gt S i)) (l:=UY S i);omega
    ·omega
   ·have e:UY S (i+1)=UY S i:=by unfold UY;rw [Oi h,Oi (by omega)]
    rw [e];have:=Nfn S i;omega
theorem gather_ok [OB] {lim c:Nat} {p:Option Addr} {S:List Ev} {H:NE} {Q:Value->NE->Prop} (hs:Sl H R3 6 p S) (hS:Rt S) (hl:lim<=H.length)
  (hQ:∀G p' c',Sl G Ru 3 p' (RI S)->Uj 3 c' (RI S).length->Chg [] H G->Q (.slice p' (RI S).length c') (G++[])) :
  NK Ef false lim 93 [.slice p S.length c] H Q:=by
 have hn:=hS.1
 refine Nhj (by decide) e93 rfl ?_
 rw [b93,c93]
 simp only [n93,r93,SB,seval,NC,NJ,NG,NQ,reduceCtorEq,NB,place,NA,ND]
 refine NS (fun i=>S.length-i) (fun i fr G=>i<=S.length/\fr 3=.map (some H.length)/\fr 12=.slice p S.length c/\fr 13=Vi S.length/\fr 14=Vi i/\NI G H.length=.map (TD kM vK (UY S i))/\H.length<G.length/\Sl G R3 6 p S/\∀j,j<H.length->NI G j=NI H j) 0
  ⟨Nw _,rfl,rfl,rfl,by rfl,by rw [NV];rfl,by simp,hs.app _,fun j hj=>NR hj⟩ ?_
 rintro i fr G ⟨hi,n,d,e,m,T,gl,gs,go⟩ I
 rw [NU N6g.eq_1]
 refine NL ?_
 have l:∀X,NI (G++X) H.length=.map (TD kM vK (UY S i)):=fun X=>by rw [NR gl];exact T
 by_cases g:i<S.length
 ·have q:=fun X=>(gs.app X).loadCells OX g
  have h:=fun c (k:IntKind) (H1:NE)=>gs.idx (c:=c) (k:=k) (H1:=H1) g
  have r:IntKind.i64.wrap ((i:Int)+1)=((i+1:Nat):Int):=OE (by omega)
  have hf:Sz (gt S i):=hS.2 _ (QH g)
  have Y:=hf
  unfold Sz VI at Y
  have N:=Nib g
  generalize ag:gt S i=s at *
  have O:IntKind.i64.wrap (Int.tdiv s.seen 1440)=s.seen / 1440:=by
   rw [Ps (by omega)];exact NP (by omega) (by omega)
  have wd:IntKind.i64.wrap (s.seen-s.at')=s.seen-s.at':=NP (by omega) (by omega)
  have o:lim<=G.length:=by omega
  have hk:U0 (.ints [.i64,.i64]) (.agg #[Vi s.scanner,Vi (s.seen / 1440)])=true:=Obd (k:=UC s)
  have f:=YK (vv:=vK) Obe (UC s) (UY S i) 0
  have K:kM (UC s)=.agg #[Vi s.scanner,Vi (s.seen / 1440)]:=rfl
  have ae:vK (mkM s)=.agg #[Vi s.scanner,Vi s.at',Vi (s.seen-s.at')]:=rfl
  rw [K] at f
  have b:=Nqi (UC s) (UY S i) 0
  rw [<-N1e] at b
  have fin:∀(es':Ess) (G1:NE) (X:NE),NI G1 H.length=.map (TD kM vK es')->es'=UY S (i+1)->(∀j,j≠H.length->NI G1 j=NI G j)->G1.length=G.length->
    NI (G1++X) H.length=.map (TD kM vK (UY S (i+1)))/\H.length<(G1++X).length/\Sl (G1++X) R3 6 p S/\∀j,j<H.length->NI (G1++X) j=NI H j:=by
   intro es' G1 X h1 h2 t l1
   subst h2
   refine ⟨by rw [NR (by omega)];exact h1,by simp;omega, ?_,fun j hj=>by rw [NR (by omega),t j (by omega)];exact go j hj⟩
   refine (Sl.same gs fun a ha ab=>?_).app _
   subst ha
   have:=hs.lt ab
   exact t _ (by omega)
  have C:∀es':List (Value×Value),∃G1,(∀X:NE,(G++X).set H.length (.map es')=G1++X)/\NI G1 H.length=.map es'/\Mut G G1 H.length:=fun es'=>OP gl _
  cases hc:fk (UC s) (UY S i) 0 with
  | none=>
    rw [hc] at f b
    simp only [Oq] at f b
    have M:UY S (i+1)=Xi (UC s) (mkM s) (UY S i):=by rw [N];unfold SY;rw [<-b]
    obtain ⟨G1,e1,h1,t⟩:=C (TD kM vK (UY S i)++[(.agg #[Vi s.scanner,Vi (s.seen / 1440)],.agg #[Vi s.scanner,Vi s.at',Vi (s.seen-s.at')])])
    have z:NI G1 H.length=.map (TD kM vK (Wv (UC s) (mkM s) (UY S i))):=by
     rw [h1,<-Nj0 (v':=mkM s) hc];simp only [TD,Ou,N2,List.map_nil];rfl
    simp only [n93,r93,n,d,e,m,NN,g,h,q,o,OX,Ue,Ve,Vd,Vb,Va,UZ,NH,NF,O,wd,r,l,hk,f,e1,hl,SB,seval,NC,NJ,NG,NQ,reduceCtorEq,NB,place,NA,ND]
    obtain ⟨u,v,w,y⟩:=fin _ G1 _ z (by rw [M,Nbg]) t.other t.len
    exact I (i+1) _ _ ⟨by omega,n,d,e,rfl,u,v,w,y⟩ (by omega)
  | some x=>
    obtain ⟨j,old⟩:=x
    rw [hc] at f b
    simp only [Nu] at f b
    have ad:vK old=.agg #[Vi old.scanner,Vi old.at',Vi old.off]:=rfl
    rw [ad] at f
    have A:UY S (i+1)=if Tf (mkM s) old then Xi (UC s) (mkM s) (UY S i) else UY S i:=by rw [N];unfold SY;rw [<-b]
    obtain ⟨G1,e1,h1,t⟩:=C ((TD kM vK (UY S i)).set j (.agg #[Vi s.scanner,Vi (s.seen / 1440)],.agg #[Vi s.scanner,Vi s.at',Vi (s.seen-s.at')]))
    have z:NI G1 H.length=.map (TD kM vK (Wv (UC s) (mkM s) (UY S i))):=by
     rw [h1,<-(Njz (v':=mkM s) hc).2.2];simp only [TD,List.map_set,Nat.sub_zero];rfl
    by_cases D:s.seen-s.at'<old.off
    ·simp only [n93,r93,n,d,e,m,NN,g,h,q,o,OX,Ue,Ve,Vd,Vb,Va,UZ,NH,NF,O,wd,r,l,hk,f,e1,hl,N5 D,SB,seval,NC,NJ,NG,NQ,reduceCtorEq,NB,place,NA,ND]
     obtain ⟨u,v,w,y⟩:=fin _ G1 _ z (by rw [A,Ni (.inl D),Nbg]) t.other t.len
     exact I (i+1) _ _ ⟨by omega,n,d,e,rfl,u,v,w,y⟩ (by omega)
    by_cases P:s.seen-s.at'=old.off
    ·by_cases U:s.at'<old.at'
     ·simp only [n93,r93,n,d,e,m,NN,g,h,q,o,OX,Ue,Ve,Vd,Vb,Va,UZ,NH,NF,O,wd,r,l,hk,f,e1,hl,No D,N5 P,N5 U,SB,seval,NC,NJ,NG,NQ,reduceCtorEq,NB,place,NA,ND]
      obtain ⟨u,v,w,y⟩:=fin _ G1 _ z (by rw [A,Ni (.inr ⟨P,U⟩),Nbg]) t.other t.len
      exact I (i+1) _ _ ⟨by omega,n,d,e,rfl,u,v,w,y⟩ (by omega)
     ·simp only [n93,r93,n,d,e,m,NN,g,h,q,o,OX,Ue,Ve,Vd,Vb,Va,UZ,NH,NF,O,wd,r,l,hk,f,e1,hl,No D,N5 P,No U,SB,seval,NC,NJ,NG,NQ,reduceCtorEq,NB,place,NA,ND]
      obtain ⟨u,v,w,y⟩:=fin _ G _ T (by rw [A,Ng (by unfold Tf mkM;simp only;omega)]) (fun _ _=>rfl) rfl
      exact I (i+1) _ _ ⟨by omega,n,d,e,rfl,u,v,w,y⟩ (by omega)
    ·simp only [n93,r93,n,d,e,m,NN,g,h,q,o,OX,Ue,Ve,Vd,Vb,Va,UZ,NH,NF,O,wd,r,l,hk,f,e1,hl,No D,No P,SB,seval,NC,NJ,NG,NQ,reduceCtorEq,NB,place,NA,ND]
     obtain ⟨u,v,w,y⟩:=fin _ G _ T (by rw [A,Ng (by unfold Tf mkM;simp only;omega)]) (fun _ _=>rfl) rfl
     exact I (i+1) _ _ ⟨by omega,n,d,e,rfl,u,v,w,y⟩ (by omega)
 ·obtain rfl:i=S.length:=by omega
  have J:UY S S.length=UW S:=by unfold UY UW;rw [Oh]
  rw [J] at T l
  have hv:=fun (X:NE) (Q:Value->NE->Prop)=>NK.eqF' (Q:=Q) (show NK E false lim 123 [.map (some H.length)] (G++X) (fun v' H1=>v'=_/\H1=_) by rw [Ns6];exact ⟨rfl,rfl⟩)
  simp only [n93,r93,n,d,e,m,NN,g,hv,SB,seval,NC,NJ,NG,NQ,reduceCtorEq,NB,place,NA,ND]
  have aa:=Nfn S S.length
  rw [J] at aa
  refine Ntj (es:=UW S) (R:=H.length) (by simp;omega) (by rw [NV];rfl) (l _) (by omega) fun G1 p1 D hO hC=>?_
  have hL:(UN Tm ((UW S).map (·.2))).length=(UW S).length:=by rw [(TK Tm _).length_eq,Nv]
  have B:∀j,j<H.length->NI G1 j=NI H j:=fun j hj=>by
   rw [hC.other j (by simp;omega) (by simp),NR (by omega)];exact go j hj
  have L:=hC.len
  simp only [Nn,Nl,Ns] at L
  rcases hO with ⟨h0,rfl,rfl⟩ | ⟨R,rfl,rfl,hR,V⟩
  ·have Z:RI S=[]:=by unfold RI;rw [h0];rfl
   have hz:(UW S).length=0:=by rw [<-hL,h0];rfl
   rw [hz]
   have W:=fun X (Q:Value->NE->Prop)=>NK.eqF (Q:=Q) (show NK E false lim 126 [Vz,.func (.func 127) #[] #[]] (G1++X) (fun v' H1=>v'=Vz/\H1=G1++X) by rw [Nni];exact ⟨rfl,rfl⟩)
   simp only [n93,r93,W,SB,seval,NC,NJ,NG,NQ,reduceCtorEq,NB,place,NA,ND]
   have:=hQ G1 none 0 (by rw [Z];rfl) (by rw [Z];exact .inr ⟨Nd _,by decide⟩) ⟨by omega,fun j hj _=>B j hj⟩
   rw [Z] at this
   exact this
  ·rw [<-hL]
   simp only [n93,r93,SB,seval,NC,NJ,NG,NQ,reduceCtorEq,NB,place,NA,ND]
   simp only [Nn,Nl,Ns] at V
   refine NK.weak (E':=E) ?_
   rw [Nb]
   refine Nq1 hR (by omega) (by omega) fun G2 ac F=>?_
   refine NL ?_
   simp only [n93,r93,SB,seval,NC,NJ,NG,NQ,reduceCtorEq,NB,place,NA,ND]
   refine hQ G2 _ _ ac (.inl rfl) ⟨by have:=F.len;omega,fun j hj _=>?_⟩
   rw [F.other j (by omega) (by simp;omega)]
   exact B j hj
theorem Nau {α:Type} {lim R e bytes cap k b:Nat} {dest:Option Nat} {H:NE} {enc:α->List Value} {old:List α} {x:α} {ro:Bool} {rest:List Value} (he:∀x,(enc x).length=e) (h:e≠0) (j:NI H b=.cells ro (enc x)) (a:NI H R=Vc (old.flatMap enc++rest)) (hl:lim<=R)
  (hc:old.length+1<=cap) (hr:rest.length=(cap-old.length)*e) (f:cap<2 ^ 61) (m:(old.length+1)*bytes<=QG) :
  PQ lim dest e bytes false (.slice (Sa R) old.length cap) (.slice (Sa b) 1 k) H=some (.slice (Sa R) (old.length+1) cap,H.set R (Vc ((old++[x]).flatMap enc++rest.drop e))):=by
 have g:=NM a
 have d:AM.loadCells H ⟨b,0,none⟩ (1*e)=some (enc x):=by
  rw [Rz,j]
  simp only [Oc,O0,Nat.one_mul]
  rw [Ni (by rw [he];exact Nd _),<-he x,Oh]
 have i:e<=rest.length:=by rw [hr];exact Nat.le_mul_of_pos_left e (by omega)
 have l:AM.loadCells H ⟨R,0,none⟩ (old.length*e)=some (old.flatMap enc):=by
  rw [Rz,a]
  simp only [Oc,O0]
  rw [Ni (by rw [Nn,QT he];omega),<-QT he,List.take_left]
 have c:AM.storeAt lim H (Addr.add ⟨R,0,none⟩ (old.length*e)) (enc x)=some (H.set R (Vc ((old++[x]).flatMap enc++rest.drop e))):=by
  simp only [addr_add,Vr,a,Oc]
  rw [Ni ⟨hl,by rw [Nn,QT he,he];omega⟩]
  have:=Nef (enc x) (old.flatMap enc) (rest.take e) (rest.drop e) (by rw [he,Om];omega)
  rw [Nq,Qc,QT he] at this
  rw [this,P2,Oy,Ro,Nb]
 simp only [PQ,firstCells,lenOf,d,l,c,if_false,Nz,Nat.one_ne_zero]
 rw [Ng (by omega),Ng (by unfold loose;omega),Ni (by omega),Ni (by omega)]
def Nnd (M:List Mk) (S:List Ev):List Ev:=S.map fun s=>{ s with time:=Xc M s }
theorem Xr {M:List Mk} {S:List Ev}:(Nnd M S).length=S.length:=Nv ..
theorem N45 {M:List Mk} {S:List Ev} {i:Nat} (h:i<S.length):gt (Nnd M S) i={ gt S i with time:=Xc M (gt S i) }:=by
 rw [PS (by rw [Xr];exact h),PS h]
 unfold Nnd
 rw [P6]
structure ESt (H:NE) (M:List Mk) (S:List Ev) (p pm:Option Addr) (B i:Nat) (G:NE):Prop where
 row:∃rest,rest.length=(S.length-i)*7/\NI G B=Vc (((Nnd M S).take i).flatMap encE++rest)
 sm:Sl G Ru 3 pm M
 ss:Sl G R3 6 p S
 old:∀j,j<H.length->NI G j=NI H j
 len:B<G.length
def Nlk (p:Option Addr):List Nat:=match p with
 | none=>[]
 | some a=>[a.block]
theorem Ndh {p:Option Addr} {j:Nat} (h:j∈Nlk p):∃a,p=some a/\j=a.block:=by
 cases p with
 | none=>cases h
 | some a=>exact ⟨a,rfl,by simpa [Nlk] using h⟩
theorem Ndg {p:Option Addr} {j:Nat} (h:j∉Nlk p):∀a,p=some a->j≠a.block:=fun a e h2=>h (by rw [e];simp [Nlk,h2])
structure FSt (H:NE) (EV:List Ev) (B Mp:Nat) (kr tr:List Ev) (es:List ((Int×Int×Int)×Int)) (kp tp:Option Addr) (kc tc:Nat) (G:NE):Prop where
 mp:NI G Mp=.map (TD kS vI es)
 ev:NI G B=Vc (EV.flatMap encE)
 ko:Own (Mp+1) G encE 7 kp kc kr.reverse
 to:Own (Mp+1) G encE 7 tp tc tr.reverse
 ne:∀a b,kp=some a->tp=some b->a.block≠b.block
 old:∀j,j<H.length->NI G j=NI H j
 len:Mp<G.length
 rel:∀e,Nbv (RF e) es=(VB e kr).map (·.time)
 sub:∀x∈kr,x∈EV
 kn:kr=[]->kp=none
 tn:tr=[]->tp=none
theorem FSt.twice {H:NE} {EV:List Ev} {B Mp:Nat} {kr tr:List Ev} {es:List ((Int×Int×Int)×Int)} {kp tp:Option Addr} {kc tc:Nat} {G:NE} {lim:Nat} (h:FSt H EV B Mp kr tr es kp tp kc tc G) (hl:lim<=H.length) (l:H.length<=B) (k:B<Mp) (e:Ev) (hn:tr.length<4000) (x y:Blk) :
  ∃G',PQ lim none 7 56 false (.slice tp tr.length tc) (.slice (Sa (G.length+2)) 1 1) (G++[x,y,Vc (encE e)])=some (.slice (Sa (G.length+3)) (tr.length+1) (loose 7),G'++[])/\FSt H EV B Mp kr (e::tr) es kp (Sa (G.length+3)) kc (loose 7) (G'++[]):=by
 have len:=h.len
 obtain ⟨G2,e2,d,_,c,g,_⟩:=h.to.step (lim':=lim) (bytes:=56) (by omega) NW (by decide) e (by rw [List.length_reverse];unfold QG;omega) (by rw [List.length_reverse];omega) (by omega) [x,y,Vc (encE e)] (G.length+2) 1 (by rw [OC];rfl)
 rw [List.length_reverse] at e2
 simp only [Nl,Ns,Oc,Nat.reduceAdd] at e2 d g
 have nt:∀j,j<=Mp->∀a,tp=some a->j≠a.block:=fun j hj a f=>by have:=(h.to.block f).1;omega
 have hc:Chg (Nlk tp) G (G2++[]):=⟨by simp;omega,fun j hj hA=>c j hj (Ndg hA)⟩
 refine ⟨G2,e2,(c _ len (nt _ (Nd _))).trans h.mp,(c _ (by omega) (nt _ (by omega))).trans h.ev,h.ko.chg hc fun a f m=>?_,by rw [List.reverse_cons];exact d,fun a b f i=>?_,fun j hj=>(c j (by omega) (nt _ (by omega))).trans (h.old j hj),by simp;omega,h.rel,h.sub,h.kn,fun h=>(by cases h)⟩
 ·obtain ⟨b,i,e⟩:=Ndh m
  exact h.ne a b f i e
 ·cases i
  have:=(h.ko.block f).2
  show a.block≠G.length+3
  omega
theorem Np5 {e x:Ev} {kr:List Ev}:VB e (x::kr)=if RF x=RF e then some x else VB e kr:=by
 unfold VB
 by_cases h:RF x=RF e
 ·rw [List.find?_cons_of_pos (by simpa using h),Ni h]
 ·rw [List.find?_cons_of_neg (by simpa using h),Ng h]
theorem FSt.kept {H:NE} {EV:List Ev} {B Mp:Nat} {kr tr:List Ev} {es:List ((Int×Int×Int)×Int)} {kp tp:Option Addr} {kc tc:Nat} {G:NE} {lim:Nat} (h:FSt H EV B Mp kr tr es kp tp kc tc G) (hl:lim<=H.length) (p:H.length<=B) (o:B<Mp) (e:Ev) (he:e∈EV) (hn:kr.length<4000) (x y:Blk) :
  ∃G1,(∀X:NE,(G++X).set Mp (.map (TD kS vI (Wv (RF e) e.time es)))=G1++X)/\∃G',PQ lim none 7 56 false (.slice kp kr.length kc) (.slice (Sa (G1.length+2)) 1 1) (G1++[x,y,Vc (encE e)])=some (.slice (Sa (G1.length+3)) (kr.length+1) (loose 7),G'++[])/\
   FSt H EV B Mp (e::kr) tr (Wv (RF e) e.time es) (Sa (G1.length+3)) tp (loose 7) tc (G'++[])/\G1.length=G.length:=by
 have len:=h.len
 obtain ⟨G1,e1,h1,i⟩:=OP (G:=G) (R:=Mp) len (.map (TD kS vI (Wv (RF e) e.time es)))
 have s:=i.len
 have nk:∀j,j<=Mp->∀a,kp=some a->j≠a.block:=fun j hj a d=>by have:=(h.ko.block d).1;omega
 have nt:∀j,j<=Mp->∀a,tp=some a->j≠a.block:=fun j hj a d=>by have:=(h.to.block d).1;omega
 have m:=h.ko.mut i (fun a d=>(nk Mp (Nd _) a d).symm)
 have n:=h.to.mut i (fun a d=>(nt Mp (Nd _) a d).symm)
 obtain ⟨G2,e2,f,_,c,g,_⟩:=m.step (lim':=lim) (bytes:=56) (by omega) NW (by decide) e (by rw [List.length_reverse];unfold QG;omega) (by rw [List.length_reverse];omega) (by omega) [x,y,Vc (encE e)] (G1.length+2) 1 (by rw [OC];rfl)
 rw [List.length_reverse] at e2
 simp only [Nl,Ns,Oc,Nat.reduceAdd] at e2 f g
 have hc:Chg (Nlk kp) G1 (G2++[]):=⟨by simp;omega,fun j hj hA=>c j hj (Ndg hA)⟩
 refine ⟨G1,e1,G2,e2,⟨(c _ (by omega) (nk _ (Nd _))).trans h1,(c _ (by omega) (nk _ (by omega))).trans ((i.other _ (by omega)).trans h.ev),by rw [List.reverse_cons];exact f,n.chg hc fun a d r=>?_,fun a b d l=>?_,fun j hj=>(c j (by omega) (nk _ (by omega))).trans ((i.other j (by omega)).trans (h.old j hj)),by simp;omega,fun a=>?_,fun z hz=>?_,fun h=>(by cases h),h.tn⟩,s⟩
 ·obtain ⟨b,l,e⟩:=Ndh r
  exact h.ne b a l d e.symm
 ·cases d
  have:=(h.to.block l).2
  show G1.length+3≠b.block
  omega
 ·rw [Nmz,Np5,h.rel]
  by_cases k:RF a=RF e
  ·rw [Ni k,Ni k.symm];rfl
  ·rw [Ng k,Ng fun q=>k q.symm]
 ·rcases Nr.mp hz with rfl | hz
  ·exact he
  ·exact h.sub z hz
theorem Ndd [OB] {lim c:Nat} {p:Option Addr} {S:List Ev} {H:NE} {Q:Value->NE->Prop} (hs:Sl H R3 6 p S) (hS:Rt S) (hl:lim<=H.length)
  (hQ:∀G kp kc tp tc,Own H.length G encE 7 kp kc (OJ S).1->Own H.length G encE 7 tp tc (OJ S).2->(∀a b,kp=some a->tp=some b->a.block≠b.block)->Chg [] H G->((OJ S).1=[]->kp=none)->((OJ S).2=[]->tp=none)->Q (.tuple #[.slice kp (OJ S).1.length kc,.slice tp (OJ S).2.length tc]) (G++[])) :
  NK Ef false lim 56 [.slice p S.length c] H Q:=by
 have hn:=hS.1
 refine Nhj (by decide) e56 rfl ?_
 rw [b56,c56]
 simp only [n56,r56,SB,seval,NC,NJ,NG,NQ,reduceCtorEq,NB,place,NA,ND]
 rw [Nb]
 refine gather_ok hs hS hl fun G pm cm sm av hC=>?_
 have ay:=Go.Scan.gather_ok hS.2
 generalize hM:RI S=M at *
 have lM:M.length<=2000:=by rw [<-hM];have:=Nqf S;omega
 have bo:=hC.len
 have ap:∀G',(∀j,j<H.length->NI G' j=NI H j)->Sl G' R3 6 p S:=fun G' ho=>Sl.same hs fun a ha ab=>by
  subst ha;exact ho _ (hs.lt ab)
 have a0:(S.length:Int)*56<=2 ^ 45:=by omega
 have a1:(S.length:Int)<2 ^ 62:=by omega
 have hz:(List.range (S.length*7)).length=S.length*7:=Pr
 have ba:(0:Int)<=(S.length:Int):=by omega
 have ac:∀z:List Value,z.length=S.length*7->ESt H M S p pm G.length 0 (G++[Vc z]):=fun z hz=>by
  have ho:∀j,j<H.length->NI (G++[Vc z]) j=NI H j:=fun j hj=>by rw [NR (by omega),hC.other j hj (by simp)]
  exact ⟨⟨z,by rw [hz,Nat.sub_zero],by rw [NV];rfl⟩,sm.app _,ap _ ho,ho,by simp⟩
 simp only [n56,r56,a0,a1,Oa,Rk,ba,SB,Nat.reduceLT,NC,NJ,Nat.reduceEqDiff,NG,NQ,reduceCtorEq,NB,place,NA,Nat.reduceAdd,Nat.reduceLeDiff,ND,Int.reduceEq,Int.reduceLT,Int.reduceLE]
 refine NS (fun i=>S.length-i) (fun i fr G2=>i<=S.length/\fr 2=Vz/\fr 3=Vz/\fr 4=.slice pm M.length cm/\fr 5=.slice (Sa G.length) i S.length/\fr 19=.slice p S.length c/\fr 20=Vi S.length/\fr 21=Vi i/\ESt H M S p pm G.length i G2) 0
  ⟨Nw _,rfl,rfl,rfl,rfl,rfl,rfl,by rfl,ac _ (by rw [Nv,Pr])⟩ ?_
 ·rintro i fr G2 ⟨hi,g2,g3,g4,g5,U,V,ag,⟨rest,J,D⟩,ar,au,T,P⟩ hN
  rw [NU N6s.eq_1]
  refine NL ?_
  by_cases o:i<S.length
  ·have a9:=fun X=>(au.app X).loadCells OX o
   have an:=fun c (k:IntKind) (H1:NE)=>au.idx (c:=c) (k:=k) (H1:=H1) o
   have bg:IntKind.i64.wrap ((i:Int)+1)=((i+1:Nat):Int):=OE (by omega)
   have hf:Sz (gt S i):=hS.2 _ (QH o)
   have a2:=fun X (mp:Bool) (lim:Nat) (Q:Value->NE->Prop)=>Nqy (mp:=mp) (lim:=lim) (Q:=Q) (ar.app X) av (by omega) ay hf
   have a8:lim<=G2.length:=by omega
   have ak:=N45 (M:=M) o
   generalize bp:gt S i=s at *
   generalize bs:Xc M s=t at *
   have bc:QW [Value.int .i64 0,Vi 0,Vi 0,.int .u8 0,Vi 0,Vi 0,Vi 0] 0 (R3 s)=[Vi s.item,Vi s.place,Vi s.scanner,.int .u8 s.kind,Vi s.at',Vi s.seen,Vi 0]:=rfl
   have hev:[Value.int .i64 s.item,Vi s.place,Vi s.scanner,.int .u8 s.kind,Vi s.at',Vi s.seen,Vi t]=encE { s with time:=t }:=rfl
   generalize hex:{ s with time:=t }=e at *
   have K:((Nnd M S).take i).length=i:=by rw [Om,Xr];omega
   obtain ⟨E,e3,h3,m3⟩:=OP (G:=G2) (R:=G.length) P (Vc ((((Nnd M S).take i)++[e]).flatMap encE++rest.drop 7))
   have N:=Nau (lim:=lim) (R:=G.length) (bytes:=56) (cap:=S.length) (k:=1) (b:=G2.length+1) (dest:=some (G2.length+2)) (H:=G2++[Vc (R3 s),Vc (encE e),.dead]) (enc:=encE) (old:=(Nnd M S).take i) (x:=e) (ro:=false) (rest:=rest) NW (by decide)
    (by rw [OC];rfl) (by rw [NR P];exact D) (by omega) (by rw [K];omega) (by rw [K];exact J) (by omega) (by rw [K];unfold QG;omega)
   rw [K,e3] at N
   simp only [n56,r56,g2,g3,g4,g5,U,V,ag,NN,o,an,a9,a8,OX,Ue,Ve,Vd,Vb,Va,UZ,NH,NF,a2,bg,bc,hev,NW,N,SB,seval,NC,NJ,NG,NQ,reduceCtorEq,NB,place,NA,ND]
   have l3:=m3.len
   have I:∀j,j<H.length->NI (E++[Vc (R3 s),Vc (encE e),.dead]) j=NI H j:=fun j hj=>by
    rw [NR (by omega),m3.other j (by omega)];exact T j hj
   have bh:Sl E Ru 3 pm M:=Sl.same ar fun a ha ab=>by
    subst ha
    have:=sm.lt ab
    exact m3.other _ (by omega)
   refine hN (i+1) _ _ ⟨by omega,g2,g3,g4,rfl,U,V,rfl,⟨⟨rest.drop 7,by rw [Pk,J];omega, ?_⟩,bh.app _,ap _ I,I,by simp;omega⟩⟩ (by omega)
   rw [NR (by omega),h3,N4 (i:=i) (by rw [Xr];exact o),<-PS,ak]
  ·obtain rfl:i=S.length:=by omega
   have bb:rest=[]:=by
    rw [Qt,Qg] at J
    exact List.length_eq_zero_iff.mp J
   rw [bb,Nb,Oi (by rw [Xr];exact Nd _)] at D
   obtain ⟨E,s1,s2,s3⟩:=Nye (lim:=lim) (cap:=S.length) D (by omega) (by rw [Xr];omega)
   rw [Xr] at s1
   have al:UN Uz (Nnd M S)=SK M S:=rfl
   rw [al] at s2
   simp only [n56,r56,g2,g3,g4,g5,U,V,ag,NN,o,s1,SB,seval,NC,NJ,NG,NQ,reduceCtorEq,NB,place,NA,ND]
   have az:OJ S=SX [] [] (SK M S):=by rw [<-hM];rfl
   generalize ah:SK M S=EV at *
   have ai:EV.length=S.length:=by rw [<-ah,Nqm]
   have l3:=s3.len
   have I:∀j,j<H.length->NI E j=NI H j:=fun j hj=>by rw [s3.other j (by omega) (by simp;omega)];exact T j hj
   have am:∀x∈EV,0<=x.time/\x.time<=1051898399:=fun x hx=>by
    rw [<-ah] at hx
    obtain ⟨z,hz,rfl⟩:=Mt.mp hx
    have aq:=hS.2 z hz
    have:=Nru (M:=M) aq
    unfold Sz VI at aq
    simp only;omega
   have ax:=NM s2
   refine NS (S:=Nat×List Ev×List Ev×List ((Int×Int×Int)×Int)×Option Addr×Option Addr×Nat×Nat) (fun s=>S.length-s.1) (fun s fr F=>s.1<=S.length/\SX s.2.1 s.2.2.1 (EV.drop s.1)=OJ S/\s.2.1.length<=s.1/\s.2.2.1.length<=s.1/\
    fr 2=.slice s.2.2.2.2.1 s.2.1.length s.2.2.2.2.2.2.1/\fr 3=.slice s.2.2.2.2.2.1 s.2.2.1.length s.2.2.2.2.2.2.2/\fr 8=.map (some E.length)/\fr 37=.slice (Sa G.length) S.length S.length/\fr 38=Vi S.length/\fr 39=Vi s.1/\
    FSt H EV G.length E.length s.2.1 s.2.2.1 s.2.2.2.1 s.2.2.2.2.1 s.2.2.2.2.2.1 s.2.2.2.2.2.2.1 s.2.2.2.2.2.2.2 F) (0,[],[],[],none,none,0,0)
    ⟨Nw _,by rw [O0];exact az.symm,Nd _,Nd _,(by simp only [g2,Ns,FB,Nat.reduceEqDiff]),(by simp only [g3,Ns,FB,Nat.reduceEqDiff]),rfl,rfl,rfl,by rfl,⟨by rw [NV];rfl,by rw [NR ax];exact s2,.inl ⟨rfl,rfl,rfl⟩,.inl ⟨rfl,rfl,rfl⟩,fun a b h=>(by cases h),fun j hj=>by rw [NR (by omega)];exact I j hj,by simp,fun e=>rfl,fun x hx=>(Oe hx).elim,fun _=>rfl,fun _=>rfl⟩⟩ ?_
   rintro ⟨i,kr,tr,es,kp,tp,kc,tc⟩ bn F ⟨a5,l,a7,bd,f2,f3,f8,u,m,w,st⟩ Z
   simp only at a5 l a7 bd f2 f3 w st
   rw [NU N6t.eq_1]
   refine NL ?_
   by_cases q:i<S.length
   ·have y:i<EV.length:=by omega
    have O:Sl F encE 7 (Sa G.length) EV:=Sl.row NW st.ev
    have C:=fun X=>(O.app X).loadCells NW y
    have n:∀(c:Nat) (k:IntKind) (H1:NE),Z6 7 (.slice (Sa G.length) S.length c) (.int k (i:Int)) H1=some (.pointer (some (Zv (Sa G.length) 7 i)),H1):=fun c k H1=>by
     rw [<-ai];exact O.idx y
    have ae:IntKind.i64.wrap ((i:Int)+1)=((i+1:Nat):Int):=OE (by omega)
    have aj:gt EV i∈EV:=QH y
    have a3:EV.drop i=gt EV i::EV.drop (i+1):=by rw [Ox y,PS y]
    rw [a3] at l
    have f:=st.rel (gt EV i)
    generalize hex:gt EV i=e at *
    have hk:U0 (.ints [.i64,.i64,.u8]) (.agg #[Vi e.item,Vi e.place,.int .u8 e.kind])=true:=Obb (k:=RF e)
    have g:=YK (vv:=vI) Obc (RF e) es 0
    have ao:kS (RF e)=.agg #[Vi e.item,Vi e.place,.int .u8 e.kind]:=rfl
    rw [ao] at g
    have d:=Nqi (RF e) es 0
    have W:∀X,NI (F++X) E.length=.map (TD kS vI es):=fun X=>by rw [NR st.len];exact st.mp
    have B:lim<=F.length:=by have:=st.len;omega
    have A:lim<=E.length:=by omega
    have L:∀(em:List (Value×Value)),em=TD kS vI (Wv (RF e) e.time es)->
      ∃G1,(∀X:NE,(F++X).set E.length (.map em)=G1++X)/\(∀Y,NI (G1++Vc (encE e)::Y) F.length=Vc (encE e))/\∃G',PQ lim none 7 56 false (.slice kp kr.length kc) (.slice (Sa (G1.length+2)) 1 1) (G1++[Vc (encE e),Vc [Vi e.item,Vi e.place,.int .u8 e.kind],Vc (encE e)])=some (.slice (Sa (G1.length+3)) (kr.length+1) (loose 7),G'++[])/\
       FSt H EV G.length E.length (e::kr) tr (Wv (RF e) e.time es) (Sa (G1.length+3)) tp (loose 7) tc (G'++[]):=by
     intro em a4
     subst a4
     obtain ⟨G1,e1,G',e2,bk,l1⟩:=st.kept hl (by omega) (by omega) e aj (by omega) (Vc (encE e)) (Vc [Vi e.item,Vi e.place,.int .u8 e.kind])
     exact ⟨G1,e1,fun Y=>by rw [<-l1];exact NV,G',e2,bk⟩
    obtain ⟨GT,aw,bm⟩:=st.twice hl (by omega) (by omega) e (by omega) (Vc (encE e)) (Vc [Vi e.item,Vi e.place,.int .u8 e.kind])
    cases hc:fk (RF e) es 0 with
    | none=>
      rw [hc] at g d
      simp only [Oq] at g d
      have r:=Nj0 (v':=e.time) hc
      have htw:Yr e kr=false:=by
       unfold Yr
       rw [<-d] at f
       cases hq:VB e kr with
       | none=>rfl
       | some z=>rw [hq] at f;cases f
      obtain ⟨G1,e1,R1,G',e2,fin⟩:=L (TD kS vI es++[(.agg #[Vi e.item,Vi e.place,.int .u8 e.kind],Vi e.time)]) (by rw [<-r];simp only [TD,Ou,N2,List.map_nil];rfl)
      simp only [n56,r56,f2,f3,f8,u,m,w,NN,q,n,C,B,A,NW,PY,QD,QC,QB,QA,PZ,PW,NH,NF,ae,W,hk,g,e1,R1,e2,SB,seval,NC,NJ,NG,NQ,reduceCtorEq,NB,place,NA,ND]
      exact Z (i+1,e::kr,tr,Wv (RF e) e.time es,Sa (G1.length+3),tp,loose 7,tc) _ _ ⟨by simp only;omega,by rw [<-l,SX,htw];rfl,by simp only [Nl];omega,by simp only;omega,(by simp only [Nl,FB,Nat.reduceEqDiff]),f3,f8,u,m,rfl,fin⟩ (by simp only;omega)
    | some x=>
      obtain ⟨j,v⟩:=x
      rw [hc] at g d
      simp only [Nu] at g d
      have r:=(Njz (v':=e.time) hc).2.2
      rw [Nat.sub_zero] at r
      rw [<-d] at f
      cases hq:VB e kr with
      | none=>rw [hq] at f;cases f
      | some z=>
      rw [hq] at f
      have bf:v=z.time:=by simpa using f
      have hz:=am z (st.sub z (Ne7 hq).1)
      have bq:=am e aj
      have be:vI v=Vi z.time:=by rw [bf];rfl
      rw [be] at g
      have wd:IntKind.i64.wrap (e.time-z.time)=e.time-z.time:=NP (by omega) (by omega)
      by_cases hd:e.time-z.time<=10
      ·have htw:Yr e kr=true:=Yo.mpr ⟨z,hq,hd⟩
       simp only [n56,r56,f2,f3,f8,u,m,w,NN,q,n,C,B,A,NW,PY,QD,QC,QB,QA,PZ,PW,NH,NF,ae,W,hk,g,wd,N5 hd,aw,SB,seval,NC,NJ,NG,NQ,reduceCtorEq,NB,place,NA,ND]
       exact Z (i+1,kr,e::tr,es,kp,Sa (F.length+3),kc,loose 7) _ _ ⟨by simp only;omega,by rw [<-l,SX,htw];rfl,by simp only;omega,by simp only [Nl];omega,f2,(by simp only [Nl,FB,Nat.reduceEqDiff]),f8,u,m,rfl,bm⟩ (by simp only;omega)
      ·have htw:Yr e kr=false:=by unfold Yr;rw [hq];exact N1 hd
       obtain ⟨G1,e1,R1,G',e2,fin⟩:=L ((TD kS vI es).set j (.agg #[Vi e.item,Vi e.place,.int .u8 e.kind],Vi e.time)) (by rw [<-r];simp only [TD,List.map_set];rfl)
       simp only [n56,r56,f2,f3,f8,u,m,w,NN,q,n,C,B,A,NW,PY,QD,QC,QB,QA,PZ,PW,NH,NF,ae,W,hk,g,wd,No hd,e1,R1,e2,SB,seval,NC,NJ,NG,NQ,reduceCtorEq,NB,place,NA,ND]
       exact Z (i+1,e::kr,tr,Wv (RF e) e.time es,Sa (G1.length+3),tp,loose 7,tc) _ _ ⟨by simp only;omega,by rw [<-l,SX,htw];rfl,by simp only [Nl];omega,by simp only;omega,(by simp only [Nl,FB,Nat.reduceEqDiff]),f3,f8,u,m,rfl,fin⟩ (by simp only;omega)
   ·obtain rfl:i=S.length:=by omega
    rw [<-ai,Qn] at l
    have aa:kr.reverse=(OJ S).1:=Qo Prod.fst l
    have ad:tr.reverse=(OJ S).2:=Qo Prod.snd l
    have ko:=st.ko
    have to:=st.to
    have lk:kr.length=(OJ S).1.length:=by rw [<-aa,List.length_reverse]
    have lt:tr.length=(OJ S).2.length:=by rw [<-ad,List.length_reverse]
    rw [aa] at ko
    rw [ad] at to
    rw [lk] at f2
    rw [lt] at f3
    simp only [n56,r56,f2,f3,m,w,NN,q,SB,seval,NC,NJ,NG,NQ,reduceCtorEq,NB,place,NA,ND]
    refine hQ F kp kc tp tc (ko.le (by omega)) (to.le (by omega)) st.ne ⟨by have:=st.len;omega,fun j hj _=>st.old j hj⟩ (fun h=>st.kn (List.reverse_eq_nil_iff.1 (aa.trans h))) (fun h=>st.tn (List.reverse_eq_nil_iff.1 (ad.trans h)))
theorem MN [OB] {mp:Bool} {lim c:Nat} {p:Option Addr} {S:List Ev} {H:NE} {Q:Value->NE->Prop} (hs:Sl H R3 6 p S) (hn:S.length<2 ^ 63) :
  NK Ef mp lim 55 [.slice p S.length c] H Q=Q (.bool (decide (Rt S))) H:=NK.eqF (by rw [Nto hs hn];exact ⟨rfl,rfl⟩)
theorem Order_ok [OB] (a:∀as H,OB.eff 36 as H=none) {lim c:Nat} {p:Option Addr} {S:List Ev} {H:NE} {Q:Value->NE->Prop} (hs:Sl H R3 6 p S) (hS:Rt S) (hl:lim<=H.length)
  (e:∀G kp kc,Own H.length G encE 7 kp kc (OJ S).1->Chg [] H G->((OJ S).1=[]->kp=none)->Q (.tuple #[.slice kp (OJ S).1.length kc,Vi 0]) (G++[])) :
  NK Ef false lim 36 [.slice p S.length c] H Q:=by
 refine Nry (by decide) a e36 rfl ?_
 rw [b36,c36]
 have hr:=fun (X:NE) (mp:Bool) (lim:Nat) (Q:Value->NE->Prop)=>MN (mp:=mp) (lim:=lim) (Q:=Q) (c:=c) (hs.app X) (by have:=hS.1;omega)
 simp only [n36,r36,hr,Np hS,SB,seval,NC,NJ,NG,NQ,reduceCtorEq,NB,place,NA,ND]
 rw [Nb]
 refine Ndd hs hS hl fun G kp kc tp tc h1 h2 f b d g=>?_
 simp only [n36,r36,SB,seval,NC,NJ,NG,NQ,reduceCtorEq,NB,place,NA,ND]
 exact e G kp kc h1 b d
theorem Order_no [OB] (a:∀as H,OB.eff 36 as H=none) {lim c:Nat} {p:Option Addr} {S:List Ev} {H:NE} {Q:Value->NE->Prop} (hs:Sl H R3 6 p S) (hn:S.length<2 ^ 63) (hS:¬Rt S) :
  NK Ef false lim 36 [.slice p S.length c] H Q=Q (.tuple #[Vz,Vi 2]) H:=by
 refine NK.eq ?_
 refine Nry (by decide) a e36 rfl ?_
 rw [b36,c36]
 have hr:=fun (X:NE) (mp:Bool) (lim:Nat) (Q:Value->NE->Prop)=>MN (mp:=mp) (lim:=lim) (Q:=Q) (c:=c) (hs.app X) hn
 simp only [n36,r36,hr,N1 hS,SB,seval,NC,NJ,NG,NQ,reduceCtorEq,NB,place,NA,ND]
 exact Nb H
theorem Doubled_ok [OB] (a:∀as H,OB.eff 27 as H=none) {lim c:Nat} {p:Option Addr} {S:List Ev} {H:NE} {Q:Value->NE->Prop} (hs:Sl H R3 6 p S) (hS:Rt S) (hl:lim<=H.length)
  (e:∀G tp tc,Own H.length G encE 7 tp tc (OJ S).2->Chg [] H G->((OJ S).2=[]->tp=none)->Q (.tuple #[.slice tp (OJ S).2.length tc,Vi 0]) (G++[])) :
  NK Ef false lim 27 [.slice p S.length c] H Q:=by
 refine Nry (by decide) a e27 rfl ?_
 rw [b27,c27]
 have hr:=fun (X:NE) (mp:Bool) (lim:Nat) (Q:Value->NE->Prop)=>MN (mp:=mp) (lim:=lim) (Q:=Q) (c:=c) (hs.app X) (by have:=hS.1;omega)
 simp only [n27,r27,hr,Np hS,SB,seval,NC,NJ,NG,NQ,reduceCtorEq,NB,place,NA,ND]
 rw [Nb]
 refine Ndd hs hS hl fun G kp kc tp tc h1 h2 f b g d=>?_
 simp only [n27,r27,SB,seval,NC,NJ,NG,NQ,reduceCtorEq,NB,place,NA,ND]
 exact e G tp tc h2 b d
theorem Doubled_no [OB] (a:∀as H,OB.eff 27 as H=none) {lim c:Nat} {p:Option Addr} {S:List Ev} {H:NE} {Q:Value->NE->Prop} (hs:Sl H R3 6 p S) (hn:S.length<2 ^ 63) (hS:¬Rt S) :
  NK Ef false lim 27 [.slice p S.length c] H Q=Q (.tuple #[Vz,Vi 2]) H:=by
 refine NK.eq ?_
 refine Nry (by decide) a e27 rfl ?_
 rw [b27,c27]
 have hr:=fun (X:NE) (mp:Bool) (lim:Nat) (Q:Value->NE->Prop)=>MN (mp:=mp) (lim:=lim) (Q:=Q) (c:=c) (hs.app X) hn
 simp only [n27,r27,hr,N1 hS,SB,seval,NC,NJ,NG,NQ,reduceCtorEq,NB,place,NA,ND]
 exact Nb H
end Go.Proofs.YtkppjkkkdpcgiaaGreat.Fn


namespace Go.Proofs.YtkppjkkkdpcgiaaGreat.Fn
open Go.AM Go.AM.Sym Go.Net Go.Scan
def Tp (a:An):List Value:=[.int .u8 a.kind,Vi a.ev,Vi a.other,Vi a.place,Vi a.mins]
theorem QI (a:An):(Tp a).length=5:=id rfl
theorem Nqr {a:An}:(Tp a)[0]? = some (.int .u8 a.kind):=id rfl
theorem Nfq {a:An}:(Tp a)[1]? = some (Vi a.ev):=id rfl
theorem N8r {a:An}:(Tp a)[2]? = some (Vi a.other):=id rfl
theorem YO {a:An}:(Tp a)[4]? = some (Vi a.mins):=id rfl
def Nak (b:Bool):List Value:=[.bool b]
theorem Zu (b:Bool):(Nak b).length=1:=id rfl
theorem Nqs {x:Stp}:(enc3 x)[0]? = some (Vi x.1):=id rfl
theorem Nj2 {x:Stp}:(enc3 x)[1]? = some (Vi x.2.1):=id rfl
theorem N1z {x:Stp}:(enc3 x)[2]? = some (Vi x.2.2):=id rfl
def TH (pe:Option Addr) (n ce:Nat) (q:Option Addr) (nk cq:Nat) (r:Option Addr) (ns cr:Nat) (c:Int) (pl:Option Addr) (nl cl:Nat):List Value:=[.slice pe n ce,.slice q nk cq,.slice r ns cr,Vi c,.slice pl nl cl]
section
variable {pe q r pl:Option Addr} {n ce nk cq ns cr nl cl:Nat} {c:Int}
theorem PD:(TH pe n ce q nk cq r ns cr c pl nl cl).length=5:=id rfl
theorem RN:(TH pe n ce q nk cq r ns cr c pl nl cl)[0]? = some (.slice pe n ce):=id rfl
theorem RV:(TH pe n ce q nk cq r ns cr c pl nl cl)[1]? = some (.slice q nk cq):=id rfl
theorem RU:(TH pe n ce q nk cq r ns cr c pl nl cl)[2]? = some (.slice r ns cr):=id rfl
theorem RS:(TH pe n ce q nk cq r ns cr c pl nl cl)[3]? = some (Vi c):=id rfl
theorem RD:(TH pe n ce q nk cq r ns cr c pl nl cl)[4]? = some (.slice pl nl cl):=id rfl
end
theorem N7d (n:Nat):(List.range (n*1)).map (fun j=>[Value.bool false].getD (j % 1) undef)=(List.replicate n false).flatMap Nak:=by
 have h1:∀j,[Value.bool false].getD (j % 1) undef=Value.bool false:=fun j=>by rw [Nat.mod_one];rfl
 simp only [h1]
 rw [List.map_const',Pr,Pe]
 induction n with
 | zero=>rfl
 | succ n ih=>
   rw [Ph,Ph,Oy,<-ih]
   rfl
def YF (n:Nat) (ks:List Int) (i:Nat):List Bool:=(ks.take i).foldl (fun l k=>l.set k.toNat true) (List.replicate n false)
def toI (n:Nat) (ss:List Stp) (i:Nat):List Stp:=(ss.take i).foldl (fun l s=>l.set s.2.1.toNat s) (List.replicate n (0,0,0))
theorem Nbp {n:Nat} {ks:List Int} {i:Nat}:(YF n ks i).length=n:=by unfold YF;rw [Nbq,On]
theorem Nit {n:Nat} {ks:List Stp} {i:Nat}:(toI n ks i).length=n:=by unfold toI;rw [Niu,On]
theorem Nvb {n:Nat} {ks:List Int}:YF n ks ks.length=TZ n ks:=by unfold YF TZ;rw [Oh]
theorem N3c {n:Nat} {ks:List Stp}:toI n ks ks.length=VV n ks:=by unfold toI VV;rw [Oh]
theorem Np9 {n:Nat} {ks:List Int} {i:Nat} (h:i<ks.length):YF n ks (i+1)=(YF n ks i).set (gt ks i).toNat true:=by
 unfold YF
 rw [N4 h,List.foldl_append,PS h];rfl
theorem Nx7 {n:Nat} {ks:List Stp} {i:Nat} (h:i<ks.length):toI n ks (i+1)=(toI n ks i).set (gt ks i).2.1.toNat (gt ks i):=by
 unfold toI
 rw [N4 h,List.foldl_append,PS h];rfl
theorem Noe [OB] {lim n ce cq cr nl cl:Nat} {pe q r pl:Option Addr} {ks:List Int} {ss:List Stp} {c:Int} {H:NE} {Q:Value->NE->Prop} (U:Sl H encI 1 q ks) (hr:Sl H enc3 3 r ss) (hn:n<2 ^ 30) (T:ks.length<2 ^ 40) (V:ss.length<2 ^ 40) (hl:lim<=H.length)
  (hk:∀k∈ks,0<=k/\k<n) (hs:∀s∈ss,Tg n s)
  (S:∀G A B,Chg [] H G->H.length<=A->H.length<=B->NI G A=Vc ((TZ n ks).flatMap Nak)->NI G B=Vc ((VV n ss).flatMap enc3)->Q (.tuple #[.slice (Sa A) n n,.slice (Sa B) n n]) G) :
  NK E false lim 74 [.agg (TH pe n ce q ks.length cq r ss.length cr c pl nl cl).toArray] H Q:=by
 refine RG (by decide) e74 rfl ?_
 rw [b74,c74]
 have Z:=N7d n
 have z3:=Nxs n
 have O:=N5 (show 0<=(n:Int)/\(n:Int)*1<=35184372088832/\(n:Int)<4611686018427387904 by omega)
 have P:=N5 (show 0<=(n:Int)/\(n:Int)*24<=35184372088832/\(n:Int)<4611686018427387904 by omega)
 simp only [n74,r74,PD,RN,RV,RU,RS,RD,NH,O,P,Z,z3,SB,seval,NC,NJ,NG,NQ,reduceCtorEq,NB,place,NA,ND]
 refine NS (fun i=>ks.length-i) (fun i fr G=>i<=ks.length/\fr 1=Vp H.length/\fr 4=.slice (Sa (H.length+1)) n n/\fr 5=.slice (Sa (H.length+2)) n n/\fr 20=.slice q ks.length cq/\fr 21=Vi ks.length/\fr 22=Vi i/\
   Chg [] H G/\NI G H.length=Vc (TH pe n ce q ks.length cq r ss.length cr c pl nl cl)/\NI G (H.length+1)=Vc ((YF n ks i).flatMap Nak)/\NI G (H.length+2)=Vc ((toI n ss 0).flatMap enc3)) 0
  ⟨Nw _,rfl,rfl,rfl,rfl,rfl,by rfl,Chg.refl.app,by rw [NV];rfl,by rw [OC];rfl,by rw [OC];rfl⟩ ?_
 intro i fr G ⟨hi,l,o,t,w,y,I,f,N,hA,hB⟩ M
 rw [NU N6j.eq_1]
 refine NL ?_
 have K:=f.len
 by_cases b:i<ks.length
 ·have sK:=f.sl U (fun a _ _ h=>(by cases h))
  obtain ⟨m,L⟩:∃m:Nat,gt ks i=m:=⟨(gt ks i).toNat,by have:=hk _ (QH b);omega⟩
  have e:m<n:=by have:=hk _ (QH b);omega
  have g:=Zp sK b
  rw [L] at g
  have d:=fun c (k:IntKind) (H1:NE)=>sK.idx (c:=c) (k:=k) (H1:=H1) b
  have F:IntKind.i64.wrap ((i:Int)+1)=((i+1:Nat):Int):=OE (by omega)
  have sA:Sl G Nak 1 (Sa (H.length+1)) (YF n ks i):=Sl.row Zu hA
  have u:=fun c (k:IntKind) (H1:NE)=>sA.idx (c:=c) (k:=k) (H1:=H1) (i:=m) (by rw [Nbp];exact e)
  rw [Nbp] at u
  obtain ⟨G2,e2,h2,j⟩:=Na6 (lim:=lim) (p:=Sa (H.length+1)) Zu rfl hA (by omega) (i:=m) (by rw [Nbp];exact e) true
  simp only [Nak] at e2
  have D:(YF n ks i).set m true=YF n ks (i+1):=by rw [Np9 b,L];rfl
  rw [D] at h2
  simp only [n74,r74,l,o,t,w,y,I,NN,b,d,g,u,e2,F,SB,seval,NC,NJ,NG,NQ,reduceCtorEq,NB,place,NA,ND]
  exact M (i+1) _ _ ⟨by omega,l,o,t,w,y,rfl,(f.mut j (.inr (by omega))).app,by rw [NR (by rw [j.len];exact NM N)];exact j.cells N (by omega),by rw [NR (NM h2)];exact h2,by rw [NR (by rw [j.len];exact NM hB)];exact j.cells hB (by omega)⟩ (by omega)
 obtain rfl:i=ks.length:=by omega
 rw [Nvb] at hA
 have Y:=fun X=>(OH.refl.app (X:=X)).cells N
 simp only [n74,r74,l,o,t,w,y,I,NN,b,Y,PD,RN,RV,RU,RS,RD,NH,SB,seval,NC,NJ,NG,NQ,reduceCtorEq,NB,place,NA,ND]
 refine NS (fun i=>ss.length-i) (fun i fr G=>i<=ss.length/\fr 1=Vp H.length/\fr 4=.slice (Sa (H.length+1)) n n/\fr 5=.slice (Sa (H.length+2)) n n/\fr 32=.slice r ss.length cr/\fr 33=Vi ss.length/\fr 34=Vi i/\
   Chg [] H G/\NI G (H.length+1)=Vc ((TZ n ks).flatMap Nak)/\NI G (H.length+2)=Vc ((toI n ss i).flatMap enc3)) 0
  ⟨Nw _,l,o,t,rfl,rfl,by rfl,f.app,(OH.refl.app).cells hA,(OH.refl.app).cells hB⟩ ?_
 intro i fr G ⟨hi,l,o,t,z,C,J,f,hA,hB⟩ M
 rw [NU N6k.eq_1]
 refine NL ?_
 have K:=f.len
 by_cases b:i<ss.length
 ·have sK:=f.sl hr (fun a _ _ h=>(by cases h))
  have R:=hs _ (QH b)
  unfold Tg at R
  obtain ⟨m,L⟩:∃m:Nat,(gt ss i).2.1=m:=⟨(gt ss i).2.1.toNat,by omega⟩
  have e:m<n:=by omega
  have g:=fun X=>(sK.app X).loadCells OQ b
  have d:=fun c (k:IntKind) (H1:NE)=>sK.idx (c:=c) (k:=k) (H1:=H1) b
  have F:IntKind.i64.wrap ((i:Int)+1)=((i+1:Nat):Int):=OE (by omega)
  have W:Sl G enc3 3 (Sa (H.length+2)) (toI n ss i):=Sl.row OQ hB
  have v:=fun c (k:IntKind) (H1:NE)=>W.idx (c:=c) (k:=k) (H1:=H1) (i:=m) (by rw [Nit];exact e)
  rw [Nit] at v
  obtain ⟨G2,e2,h2,j⟩:=Na6 (lim:=lim) (p:=Sa (H.length+2)) OQ rfl hB (by omega) (i:=m) (by rw [Nit];exact e) (gt ss i)
  have D:(toI n ss i).set m (gt ss i)=toI n ss (i+1):=by rw [Nx7 b,L];rfl
  rw [D] at h2
  have e1:=Nj2 (x:=gt ss i)
  rw [L] at e1
  simp only [n74,r74,l,o,t,z,C,J,NN,b,d,g,v,e1,e2,F,OQ,NH,NF,show lim<=G.length by omega,SB,seval,NC,NJ,NG,NQ,reduceCtorEq,NB,place,NA,ND]
  exact M (i+1) _ _ ⟨by omega,l,o,t,z,C,rfl,(f.mut j (.inr (by omega))).app,by rw [NR (by rw [j.len];exact NM hA)];exact j.cells hA (by omega),by rw [NR (NM h2)];exact h2⟩ (by omega)
 obtain rfl:i=ss.length:=by omega
 rw [N3c] at hB
 simp only [n74,r74,l,o,t,z,C,J,NN,b,SB,seval,NC,NJ,NG,NQ,reduceCtorEq,NB,place,NA,ND]
 exact S _ _ _ f.app (by omega) (by omega) ((OH.refl.app).cells hA) ((OH.refl.app).cells hB)
theorem Nmh {x:Ev} {c:Int} (hc:c<=NY):∀{l:List Ev},(∀y∈l,UB y x->c<y.time)->c<TB x l
 | [],_=>by unfold TB;omega
 | y::l,h=>by
   unfold TB
   split
   ·rename_i a;exact h y Nm a
   ·exact Nmh hc fun z b=>h z (Nk _ b)
theorem Nmg {x y:Ev}:∀{l:List Ev},M6 l->y∈l->UB y x->TB x l<=y.time
 | [],_,h,_=>(Oe h).elim
 | z::l,hr,h,hy=>by
   obtain ⟨b,r2⟩:=List.pairwise_cons.1 hr
   unfold TB
   split
   ·rcases Nr.1 h with rfl | h
    ·omega
    ·exact b _ h
   ·rename_i a
    rcases Nr.1 h with rfl | h
    ·exact absurd hy a
    ·exact Nmg r2 h hy
def atE (es:List Ev) (d:Ev) (i:Nat):Prop:=Ncp (gt es i) (TB (gt es i) (es.drop (i+1))) d
instance (es:List Ev) (d:Ev) (i:Nat):Decidable (atE es d i):=by unfold atE;infer_instance
def N27 (es:List Ev):Prop:=es.Pairwise fun x y=>UB y x->y.time-x.time > 10
theorem Nmx {es:List Ev} {i j:Nat} (h:i<j) (hj:j<es.length):gt es j∈es.drop (i+1):=by
 rw [PS hj,List.mem_iff_getElem]
 exact ⟨j-(i+1),by rw [Pk];omega,by rw [Ra];congr 1;omega⟩
theorem Nl9 {es:List Ev} {i:Nat} {y:Ev} (h:y∈es.drop (i+1)):∃j,i<j/\j<es.length/\gt es j=y:=by
 obtain ⟨k,hk,rfl⟩:=List.mem_iff_getElem.1 h
 rw [Pk] at hk
 refine ⟨i+1+k,by omega,by omega, ?_⟩
 rw [PS (by omega),Ra]
theorem N5q {es:List Ev} (hr:M6 es) (n:N27 es) {d y:Ev} (o:y∈es) (hl:UB d y) (h1:y.time<=d.time) (h2:d.time-y.time<=10) (m:d.time<=NY) :
  ∃k,k<es.length/\gt es k=y/\∀i,i<es.length->(atE es d i↔i=k):=by
 obtain ⟨k,hk,rfl⟩:=List.mem_iff_getElem.1 o
 have c:gt es k=es[k]:=PS hk
 have apart:∀{i j:Nat},i<j->j<es.length->UB (gt es j) (gt es i)->(gt es j).time-(gt es i).time > 10:=fun {i j} e hj h=>by
  rw [PS hj,PS (show i<es.length by omega)] at h⊢
  exact Pd.1 n i j (by omega) hj e h
 refine ⟨k,hk,c,fun i hi=>⟨fun h=>?_,fun h=>?_⟩⟩
 ·obtain ⟨q,r,s⟩:=h
  have b:UB (gt es k) (gt es i):=by rw [c];unfold UB at *;omega
  have a:UB (gt es i) (gt es k):=by unfold UB at *;omega
  rcases Nat.lt_trichotomy i k with hik | hik | hik
  ·have:=Nmg (x:=gt es i) (hr.sublist (List.drop_sublist (i+1) es)) (Nmx hik hk) b
   rw [c] at this
   omega
  ·exact hik
  ·have:=apart hik hi a
   rw [c] at this
   omega
 ·subst h
  rw [<-c] at hl h1 h2
  refine ⟨hl,h1,Nmh m fun z p l=>?_⟩
  obtain ⟨j,f,g,rfl⟩:=Nl9 p
  have:=apart f g l
  omega
theorem N3e {n k:Nat} (hk:k<n) {p:Nat->Prop} [DecidablePred p] (h:∀i,i<n->(p i↔i=k)):((List.range n).map fun i=>if p i then 1 else 0).sum=1:=by
 induction n with
 | zero=>omega
 | succ n ih=>
   rw [Pa,Ou,List.sum_append]
   simp only [N2,List.map_nil,List.sum_cons,List.sum_nil,O9]
   by_cases e:k=n
   ·subst e
    rw [Ni ((h k (by omega)).2 rfl)]
    have:((List.range k).map fun i=>if p i then 1 else 0)=(List.range k).map fun _=>0:=O8 fun i hi=>by
     have:=List.mem_range.1 hi
     exact Ng fun hp=>by have:=(h i (by omega)).1 hp;omega
    rw [this]
    have a:∀m:Nat,((List.range m).map fun _=>0).sum=0:=fun m=>by
     induction m with
     | zero=>rfl
     | succ m ih=>rw [Pa,Ou,List.sum_append,ih];rfl
    rw [a]
   ·rw [ih (by omega) fun i hi=>h i (by omega),Ng fun hp=>e ((h n (by omega)).1 hp).symm]
theorem Nss (es:List Ev):∀T:List Ev,(∀d∈T,∃k,k<es.length/\∀i,i<es.length->(atE es d i↔i=k))->((List.range es.length).map fun i=>(PO es T i).length).sum=T.length
 | [],_=>by
   have c:∀m:Nat,((List.range m).map fun _=>0).sum=0:=fun m=>by
    induction m with
    | zero=>rfl
    | succ m ih=>rw [Pa,Ou,List.sum_append,ih];rfl
   exact c _
 | d::T,h=>by
   obtain ⟨k,hk,h1⟩:=h d Nm
   have h2:=Nss es T fun x b=>h x (Nk _ b)
   have e:(fun i=>(PO es (d::T) i).length)=fun i=>(if atE es d i then 1 else 0)+(PO es T i).length:=funext fun i=>by
    unfold PO
    by_cases hp:atE es d i
    ·rw [Rb (by simpa [atE] using hp),Ni hp,N2,Nl];omega
    ·rw [Qw (by simpa [atE] using hp),Ng hp];omega
   rw [e]
   have hs:∀(f g:Nat->Nat) (l:List Nat),(l.map fun i=>f i+g i).sum=(l.map f).sum+(l.map g).sum:=fun f g l=>by
    induction l with
    | nil=>rfl
    | cons a l ih=>simp only [N2,List.sum_cons,ih];omega
   rw [hs,h2,N3e hk h1,Nl];omega
theorem Nt2 {S:List Ev} {item:Int} (hi:item≠0):N27 (Uq (OJ S).1 item):=by
 have h:=(Me S).1.sublist (Zj (OJ S).1 item)
 refine List.Pairwise.imp_of_mem (fun {x y} a b h hl=>?_) h
 have e1:=((VH hi).1 a).2
 have e2:=((VH hi).1 b).2
 obtain ⟨c,d⟩:=hl
 exact h (by unfold RF;rw [e1,e2,c,d])
theorem Nyu {S:List Ev} (hS:Rt S) {item:Int} (hi:item≠0) {d:Ev} (hd:d∈Uq (OJ S).2 item) :
  ∃k,k<(Uq (OJ S).1 item).length/\(∀i,i<(Uq (OJ S).1 item).length->(atE (Uq (OJ S).1 item) d i↔i=k))/\d.time-(gt (Uq (OJ S).1 item) k).time<=10:=by
 obtain ⟨h1,h2⟩:=(VH hi).1 hd
 obtain ⟨y,j,hs,l,b⟩:=(Me S).2 d h1
 unfold RF at hs
 simp only [Prod.mk.injEq] at hs
 have ht:=(Na8 hS.2 (.inr h1)).2
 obtain ⟨s,a,e⟩:=Yw (.inr h1)
 have h:=(hS.2 s a).2.2.2.2.2.2
 have e6:d.seen=s.seen:=by rw [<-e]
 unfold VI at h
 obtain ⟨k,c,f,g⟩:=N5q (es:=Uq (OJ S).1 item) (Ner S item) (Nt2 hi) ((VH hi).2 ⟨j,by omega⟩) ⟨hs.2.1,hs.2.2⟩ (by omega) b (by unfold NY;omega)
 exact ⟨k,c,g,by rw [f];exact b⟩
theorem Mq {ks:List Int} (h:ks≠[]):ks.getLast? = some (gt ks (ks.length-1)):=by
 have hl:0<ks.length:=List.length_pos_iff.2 h
 rw [List.getLast?_eq_getElem?,Nf (by omega),PS (by omega)]
def UJ (es:List Ev):Prop:=∀e∈es,0<=e.time/\e.time<=NY
theorem N4i [OB] {lim ce cq cr nl cl:Nat} {pe q r pl:Option Addr} {es:List Ev} {ks:List Int} {ns:Nat} {c now:Int} {H:NE} {Q:Value->NE->Prop} (he:Sl H encE 7 pe es) (y:Sl H encI 1 q ks) (hn:es.length<2 ^ 30) (A:ks.length<2 ^ 40) (hl:lim<=H.length) (hk:∀k∈ks,0<=k/\k<es.length) (ht:UJ es) (u:0<=now/\now<=NY)
  (d:∀G p z,Chg [] H G->Sl G Tp 5 p (SS es ks now)->Q (.slice p (SS es ks now).length z) G) :
  NK E false lim 77 [.agg (TH pe es.length ce q ks.length cq r ns cr c pl nl cl).toArray,Vi now] H Q:=by
 refine RG (by decide) e77 rfl ?_
 rw [b77,c77]
 by_cases h0:ks=[]
 ·subst h0
  simp only [n77,r77,PD,RN,RV,RU,RS,RD,NH,Ns,SB,seval,NC,NJ,NG,NQ,reduceCtorEq,NB,place,NA,ND]
  exact d _ none 0 Chg.refl.app rfl
 have B:0<ks.length:=List.length_pos_iff.2 h0
 obtain ⟨m,x⟩:∃m:Nat,gt ks (ks.length-1)=m:=⟨(gt ks (ks.length-1)).toNat,by have:=hk _ (QH (show ks.length-1<ks.length by omega));omega⟩
 have g:m<es.length:=by have:=hk _ (QH (show ks.length-1<ks.length by omega));omega
 have t:=Mq h0
 rw [x] at t
 have j:¬((ks.length:Nat):Int)=0:=by omega
 have l:IntKind.i64.wrap ((ks.length:Int)-1)=((ks.length-1:Nat):Int):=by rw [NP (by omega) (by omega)];omega
 have b:=fun X=>Zp y (i:=ks.length-1) (by omega) X
 rw [x] at b
 have a:=fun c (k:IntKind) (H1:NE)=>y.idx (c:=c) (k:=k) (H1:=H1) (i:=ks.length-1) (by omega)
 have f:=fun X=>(he.app X).loadCells NW g
 have e:=fun c (k:IntKind) (H1:NE)=>he.idx (c:=c) (k:=k) (H1:=H1) g
 have w:=ht _ (QH g)
 unfold NY at w u
 have n:IntKind.i64.wrap (now-(gt es m).time)=now-(gt es m).time:=NP (by omega) (by omega)
 have C:((m:Nat):Int).toNat=m:=Oa m
 have o:SS es ks now=if (gt es m).kind=4\/now-(gt es m).time<=20160 then [] else [⟨7,(m:Int),0,(gt es m).place,now-(gt es m).time⟩]:=by unfold SS;rw [t];rfl
 by_cases s:(gt es m).kind=4
 ·rw [Ni (.inl s)] at o
  rw [o] at d
  simp only [n77,r77,PD,RN,RV,RU,RS,RD,NW,PY,QD,QC,QB,QA,PZ,PW,NH,No j,l,b,a,f,e,NF,hl,n,N5 s,SB,seval,NC,NJ,NG,NQ,reduceCtorEq,NB,place,NA,ND]
  exact d _ none 0 Chg.refl.app rfl
 by_cases v:now-(gt es m).time<=20160
 ·rw [Ni (.inr v)] at o
  rw [o] at d
  simp only [n77,r77,PD,RN,RV,RU,RS,RD,NW,PY,QD,QC,QB,QA,PZ,PW,NH,No j,l,b,a,f,e,NF,hl,n,No s,N5 v,SB,seval,NC,NJ,NG,NQ,reduceCtorEq,NB,place,NA,ND]
  exact d _ none 0 Chg.refl.app rfl
 rw [Ng (by rintro (h | h);exact s h;exact v h)] at o
 rw [o] at d
 simp only [n77,r77,PD,RN,RV,RU,RS,RD,NW,PY,QD,QC,QB,QA,PZ,PW,NH,No j,l,b,a,f,e,NF,hl,n,No s,No v,SB,seval,NC,NJ,NG,NQ,reduceCtorEq,NB,place,NA,ND]
 exact d _ _ _ Chg.refl.app (Sl.row (ro:=false) QI (by rw [OC];rfl))
theorem Nnx [OB] {mp:Bool} {lim B:Nat} {x y:Ev} {o:Bool} {H:NE} {Q:Value->NE->Prop} (hB:NI H B=.cells o (encE x)) :
  NK E mp lim 110 [.agg (encE y).toArray,Vp B] H Q=Q (.bool (decide (UB y x))) H:=by
 refine pc (by decide) Oep rfl rfl ?_
 rw [Ofu,N9k]
 have a:=fun X=>(OH.refl.app (X:=X)).cells hB
 by_cases h1:y.place=x.place
 ·by_cases h2:y.kind=x.kind
  ·simp only [n110,N7p,a,NW,PY,QD,QC,QB,QA,PZ,PW,NH,NF,N5 h1,N5 h2,N5 (show UB y x from ⟨h1,h2⟩),SB,seval,NC,NJ,NG,NQ,reduceCtorEq,NB,place,NA,ND]
  ·simp only [n110,N7p,a,NW,PY,QD,QC,QB,QA,PZ,PW,NH,NF,N5 h1,No h2,No (fun h:UB y x=>h2 h.2),SB,seval,NC,NJ,NG,NQ,reduceCtorEq,NB,place,NA,ND]
 ·simp only [n110,N7p,a,NW,PY,QD,QC,QB,QA,PZ,PW,NH,NF,No h1,No (fun h:UB y x=>h1 h.1),SB,seval,NC,NJ,NG,NQ,reduceCtorEq,NB,place,NA,ND]
def N25:ACode:=RH (RH (RH (RH (RH c76))))
theorem N5j:c76=.seq (TI c76) (.seq (TI (RH c76)) (.seq (TI (RH (RH c76))) (.seq (TI (RH (RH (RH c76)))) (.seq (TI (RH (RH (RH (RH c76))))) N25)))):=rfl
def Nbz (x:Ev) (i:Nat) (lv:Int) (tw:List Ev):List An:=(tw.filter fun y=>Ncp x lv y).map (Nqx x i)
theorem Nv1 {x:Ev} {i j:Nat} {lv:Int} {tw:List Ev} (h:j<tw.length):Nbz x i lv (tw.take (j+1))=if Ncp x lv (gt tw j) then Nbz x i lv (tw.take j)++[Nqx x i (gt tw j)] else Nbz x i lv (tw.take j):=by
 unfold Nbz
 rw [N4 h,List.filter_append,<-PS h]
 by_cases a:Ncp x lv (gt tw j)
 ·rw [Ni a,Rb (by simpa using a),List.filter_nil,Ou];rfl
 ·rw [Ng a,Qw (by simpa using a),List.filter_nil,Nb]
theorem N14 {x:Ev} {i:Nat} {lv:Int} {tw:List Ev}:(Nbz x i lv tw).length<=tw.length:=by
 unfold Nbz;rw [Nv];exact Qz ..
theorem Nst [OB] {lim B ct i:Nat} {pt:Option Addr} {x:Ev} {tw:List Ev} {lv:Int} {H G:NE} {fr:Nat->Value} {Q:Value->NE->Prop} (hB:NI G B=Vc (encE x)) (htw:Sl H encE 7 pt tw) (u:Chg [] H G) (Z:H.length<=B) (hn:tw.length<2 ^ 30) (hl:lim<=H.length) (ht:UJ tw) (hx:0<=x.time/\x.time<=NY)
  (f1:fr 1=.slice pt tw.length ct) (f2:fr 2=Vi i) (S:fr 7=Vp B) (T:fr 8=.func (.func 110) #[] #[Vp B]) (f9:fr 9=Vi lv)
  (hQ:∀G p F,Chg [] H G->Sl G Tp 5 p (Nbz x i lv tw)->Q (.slice p (Nbz x i lv tw).length F) G) :
  PV E a76 lim [.code N25] fr G Q:=by
 unfold N25
 refine NL ?_
 simp only [TI,RH,c76,n76,r76,f1,f2,S,T,f9,SB,seval,NC,NJ,NG,NQ,reduceCtorEq,NB,place,NA,ND]
 refine NS (fun j:Nat×Option Addr×Nat=>tw.length-j.1) (fun j fr G=>j.1<=tw.length/\fr 2=Vi i/\fr 7=Vp B/\fr 8=.func (.func 110) #[] #[Vp B]/\fr 9=Vi lv/\fr 12=.slice j.2.1 (Nbz x i lv (tw.take j.1)).length j.2.2/\fr 37=.slice pt tw.length ct/\fr 38=Vi tw.length/\fr 39=Vi j.1/\
   Chg [] H G/\NI G B=Vc (encE x)/\Own (B+1) G Tp 5 j.2.1 j.2.2 (Nbz x i lv (tw.take j.1))) (0,none,0)
  ⟨Nw _,f2,S,T,f9,rfl,rfl,rfl,by rfl,u.app,(OH.refl.app).cells hB,.nil⟩ ?_
 rintro ⟨j,p,F⟩ fr G ⟨hj,q,r,s,t,b,d,e,m,u,hB,o⟩ K
 simp only at hj b m o K
 rw [NU N6i.eq_1]
 refine NL ?_
 have V:=u.len
 by_cases f:j<tw.length
 case neg=>
  obtain rfl:j=tw.length:=by omega
  rw [Oh] at b o
  simp only [n76,r76,q,r,s,t,b,d,e,m,NN,f,SB,seval,NC,NJ,NG,NQ,reduceCtorEq,NB,place,NA,ND]
  exact hQ _ _ _ u.app ((o.sl QI).app _)
 have Y:=u.sl htw (fun a _ _ h=>(by cases h))
 have z:=fun X=>(Y.app X).loadCells NW f
 have l:=fun c (k:IntKind) (H1:NE)=>Y.idx (c:=c) (k:=k) (H1:=H1) f
 have A:IntKind.i64.wrap ((j:Int)+1)=((j+1:Nat):Int):=OE (by omega)
 have w:lim<=G.length:=by omega
 have O:=NM hB
 have g:=Nv1 (x:=x) (i:=i) (lv:=lv) f
 have U:(Nbz x i lv (tw.take j)).length<=tw.length:=Qh N14 (by rw [Om];omega)
 have P:=ht _ (QH f)
 generalize gt tw j=y at *
 have n:=fun X=>(OH.refl.app (X:=X)).cells hB
 have v:=fun X (mp:Bool) (lim:Nat) (Q:Value->NE->Prop)=>Nnx (mp:=mp) (lim:=lim) (x:=x) (y:=y) (Q:=Q) (n X)
 by_cases D:UB y x
 case neg=>
  rw [Ng (fun h=>D h.1)] at g
  rw [<-g] at b o
  simp only [n76,r76,q,r,s,t,b,d,e,m,NN,f,z,l,A,w,v,n,NW,PY,QD,QC,QB,QA,PZ,PW,NH,NF,ge_iff_le,N1 D,SB,seval,NC,NJ,NG,NQ,reduceCtorEq,NB,place,NA,ND]
  exact K (j+1,p,F) _ _ ⟨by omega,q,r,s,t,b,d,e,rfl,u.app,(OH.refl.app).cells hB,o.app _⟩ (by simp only;omega)
 by_cases I:x.time<=y.time
 case neg=>
  rw [Ng (fun h=>I h.2.1)] at g
  rw [<-g] at b o
  simp only [n76,r76,q,r,s,t,b,d,e,m,NN,f,z,l,A,w,v,n,NW,PY,QD,QC,QB,QA,PZ,PW,NH,NF,ge_iff_le,Np D,No I,SB,seval,NC,NJ,NG,NQ,reduceCtorEq,NB,place,NA,ND]
  exact K (j+1,p,F) _ _ ⟨by omega,q,r,s,t,b,d,e,rfl,u.app,(OH.refl.app).cells hB,o.app _⟩ (by simp only;omega)
 by_cases M:y.time<lv
 case neg=>
  rw [Ng (fun h=>M h.2.2)] at g
  rw [<-g] at b o
  simp only [n76,r76,q,r,s,t,b,d,e,m,NN,f,z,l,A,w,v,n,NW,PY,QD,QC,QB,QA,PZ,PW,NH,NF,ge_iff_le,Np D,N5 I,No M,SB,seval,NC,NJ,NG,NQ,reduceCtorEq,NB,place,NA,ND]
  exact K (j+1,p,F) _ _ ⟨by omega,q,r,s,t,b,d,e,rfl,u.app,(OH.refl.app).cells hB,o.app _⟩ (by simp only;omega)
 rw [Ni ⟨D,I,M⟩] at g
 unfold NY at hx P
 have R:IntKind.i64.wrap (y.time-x.time)=y.time-x.time:=NP (by omega) (by omega)
 obtain ⟨G2,e2,L,J,C,W,_⟩:=o.step (lim':=lim) (bytes:=40) (by omega) QI (by decide) (Nqx x i y) (by unfold QG;omega) (by omega) (by omega) [Vc (encE y),Vc (Tp (Nqx x i y))] (G.length+1) 1 (by rw [OC];rfl)
 have N:Tp (Nqx x i y)=[.int .u8 6,Vi i,Vi 0,Vi x.place,Vi (y.time-x.time)]:=rfl
 rw [N] at e2
 simp only [n76,r76,q,r,s,t,b,d,e,m,NN,f,z,l,A,w,v,n,NW,PY,QD,QC,QB,QA,PZ,PW,NH,NF,ge_iff_le,Np D,N5 I,N5 M,R,e2,SB,seval,NC,NJ,NG,NQ,reduceCtorEq,NB,place,NA,ND]
 exact K (j+1,Sa (G.length+2),loose 5) _ _ ⟨by omega,q,r,s,t,by rw [g,Nn];rfl,d,e,rfl,J [] H (by omega) u,by rw [C B O (fun a ha=>by have:=(o.block ha).1;omega)];exact hB,by rw [g];exact L⟩ (by simp only;omega)
theorem Nqv [OB] {lim ce cq cr nl cl ct nk ns i:Nat} {pe q r pl pt:Option Addr} {es tw:List Ev} {c:Int} {H:NE} {Q:Value->NE->Prop} (he:Sl H encE 7 pe es) (hce:Uj 7 ce es.length) (htw:Sl H encE 7 pt tw) (hi:i<es.length) (hn:es.length<2 ^ 30) (F:tw.length<2 ^ 30) (hl:lim<=H.length) (ht:UJ es) (I:UJ tw)
  (A:∀G p U,Chg [] H G->Sl G Tp 5 p (PO es tw i)->Q (.slice p (PO es tw i).length U) G) :
  NK E false lim 76 [.agg (TH pe es.length ce q nk cq r ns cr c pl nl cl).toArray,.slice pt tw.length ct,Vi i] H Q:=by
 refine RG (by decide) e76 rfl ?_
 rw [b76,N5j]
 have m:=fun X=>(he.app X).loadCells NW hi
 have e:=fun c (k:IntKind) (H1:NE)=>he.idx (c:=c) (k:=k) (H1:=H1) hi
 have n:IntKind.i64.wrap ((i:Int)+1)=((i+1:Nat):Int):=OE (by omega)
 obtain ⟨q1,k1,Z,P,_,_,_⟩:=UR (vlo:=some (Vi ((i+1:Nat):Int))) (vhi:=none) (lo:=i+1) (hi:=es.length) he hce NW (fun cap R=>by rw [Nq6 (by omega) (by omega),Oa]) (by omega) (Nd _) (by omega)
 rw [Oh] at P
 simp only [TI,RH,c76,n76,r76,PD,RN,RV,RU,RS,RD,NH,m,e,n,NF,hl,NW,Z,SB,seval,NC,NJ,NG,NQ,reduceCtorEq,NB,place,NA,ND]
 obtain ⟨D,M⟩:∃D,D=es.drop (i+1):=⟨_,rfl⟩
 have N:es.length-(i+1)=D.length:=by rw [M,Pk]
 rw [<-M] at P
 rw [N]
 have V:PO es tw i=Nbz (gt es i) i (TB (gt es i) D) tw:=by unfold PO Nbz;rw [M]
 rw [V] at A
 have J:=ht _ (QH hi)
 generalize gt es i=x at *
 have W:D.length<2 ^ 30:=by omega
 refine NS (fun j:Nat=>D.length-j) (fun j fr G=>j<=D.length/\fr 1=.slice pt tw.length ct/\fr 2=Vi i/\fr 7=Vp (H.length+1)/\fr 8=.func (.func 110) #[] #[Vp (H.length+1)]/\fr 9=Vi (NY+1)/\fr 25=.slice q1 D.length k1/\fr 26=Vi D.length/\fr 27=Vi j/\
   Chg [] H G/\NI G (H.length+1)=Vc (encE x)/\TB x D=TB x (D.drop j)) 0
  ⟨Nw _,rfl,rfl,rfl,rfl,rfl,rfl,rfl,by rfl,Chg.refl.app,by rw [OC];rfl,rfl⟩ ?_
 intro j fr G ⟨hj,s,t,u,v,w,g,l,o,z,hB,b⟩ Y
 rw [NU N6h.eq_1]
 refine NL ?_
 have S:=z.len
 by_cases d:j<D.length
 case neg=>
  obtain rfl:j=D.length:=by omega
  rw [Qn] at b
  have f:TB x D=NY+1:=b
  rw [f] at A
  simp only [n76,r76,s,t,u,v,w,g,l,o,NN,d,SB,seval,NC,NJ,NG,NQ,reduceCtorEq,NB,place,NA,ND]
  exact Nst (lv:=NY+1) ((OH.refl.app).cells hB) htw z.app (by omega) F hl I J s t u v w A
 have T:=z.sl P (fun a _ _ h=>(by cases h))
 have m:=fun X=>(T.app X).loadCells NW d
 have e:=fun c (k:IntKind) (H1:NE)=>T.idx (c:=c) (k:=k) (H1:=H1) d
 have n:IntKind.i64.wrap ((j:Int)+1)=((j+1:Nat):Int):=OE (by omega)
 have C:lim<=G.length:=by omega
 have O:D.drop j=gt D j::D.drop (j+1):=by rw [Ox d,PS d]
 rw [O] at b
 generalize gt D j=y at *
 have L:=fun X=>(OH.refl.app (X:=X)).cells hB
 have B:=fun X (mp:Bool) (lim:Nat) (Q:Value->NE->Prop)=>Nnx (mp:=mp) (lim:=lim) (x:=x) (y:=y) (Q:=Q) (L X)
 by_cases K:UB y x
 ·have f:TB x D=y.time:=b.trans (by unfold TB;rw [Ni K])
  rw [f] at A
  simp only [n76,r76,s,t,u,v,w,g,l,o,NN,d,m,e,n,C,B,NW,PY,QD,QC,QB,QA,PZ,PW,NH,NF,Np K,SB,seval,NC,NJ,NG,NQ,reduceCtorEq,NB,place,NA,ND]
  exact Nst (lv:=y.time) ((OH.refl.app).cells hB) htw z.app (by omega) F hl I J s t u v rfl A
 ·have f:TB x D=TB x (D.drop (j+1)):=b.trans (by conv=>lhs;unfold TB;rw [Ng K])
  simp only [n76,r76,s,t,u,v,w,g,l,o,NN,d,m,e,n,C,B,NW,PY,QD,QC,QB,QA,PZ,PW,NH,NF,N1 K,SB,seval,NC,NJ,NG,NQ,reduceCtorEq,NB,place,NA,ND]
  exact Y (j+1) _ _ ⟨by omega,s,t,u,v,w,g,l,rfl,z.app,(OH.refl.app).cells hB,f⟩ (by omega)
theorem N1g {L:List Leg} (c:L.Pairwise (fun a b=>a.id≠b.id)) {l:Leg} (hl:l∈L):L.find? (fun x=>x.id=l.id)=some l:=by
 cases h:L.find? (fun x=>x.id=l.id) with
 | none=>exact absurd (List.find?_eq_none.1 h l hl) (by simp)
 | some y=>
   have h1:=List.find?_some h
   have h2:=Rr h
   rw [Nmw c y h2 l hl (by simpa using h1)]
theorem N4z {α β:Type} [Inhabited α] [Inhabited β] {f:α->β} {l:List α} {i:Nat} (h:i<l.length):gt (l.map f) i=f (gt l i):=by
 rw [PS (by simpa using h),PS h,P6]
theorem Nux [OB] {lim ce cq cr nl cl cp cL nk ns:Nat} {pe q r pl pp pL:Option Addr} {P:List Int} {L:List Leg} {es:List Ev} {s:Stp} {c:Int} {H:NE} {Q:Value->NE->Prop} (hN:NetIn H pp pL P L) (he:Sl H encE 7 pe es) (hs:Tg es.length s) (hn:es.length<2 ^ 30) (hl:lim<=H.length)
  (i:∀G p c',Chg [] H G->Sl G Tp 5 p (TF P L es s)->Q (.slice p (TF P L es s).length c') G) :
  NK E false lim 109 [.agg (TH pe es.length ce q nk cq r ns cr c pl nl cl).toArray,.agg (Tv pp P.length cp pL L.length cL).toArray,.agg (enc3 s).toArray] H Q:=by
 refine RG (by decide) Oeq rfl ?_
 rw [Ofv,c109]
 unfold Tg at hs
 obtain ⟨m,hm⟩:∃m:Nat,s.1=m:=⟨s.1.toNat,by omega⟩
 obtain ⟨k,hk⟩:∃k:Nat,s.2.1=k:=⟨s.2.1.toNat,by omega⟩
 have V:m<es.length:=by omega
 have R:k<es.length:=by omega
 have e0:=Nqs (x:=s)
 have e1:=Nj2 (x:=s)
 rw [hm] at e0
 rw [hk] at e1
 have ao:=fun X=>(he.app X).loadCells NW V
 have ap:=fun X=>(he.app X).loadCells NW R
 have am:=fun c (k:IntKind) (H1:NE)=>he.idx (c:=c) (k:=k) (H1:=H1) V
 have an:=fun c (k:IntKind) (H1:NE)=>he.idx (c:=c) (k:=k) (H1:=H1) R
 have d:TF P L es s=(ZV P L (gt es m).place (gt es k).place (gt es m).time).dropLast.map (Xl s):=by unfold TF;rw [hm,hk,Oa,Oa]
 simp only [n109,Noy,PD,RN,RV,RU,RS,RD,NW,PY,QD,QC,QB,QA,PZ,PW,OQ,e0,e1,NH,ao,ap,am,an,NF,hl,PT,SB,seval,NC,NJ,NG,NQ,reduceCtorEq,NB,place,NA,ND]
 generalize gt es m=a at *
 generalize gt es k=b at *
 refine N90 (hN.app _) (by simp;omega) (fun G he e=>?_) (fun G he hA e=>?_) (fun G v w pw cw he e hv hA hB av n=>?_)
 ·rw [Nxu he] at d
  rw [d] at i
  refine NL ?_
  simp only [n109,Noy,No he,SB,seval,NC,NJ,NG,NQ,reduceCtorEq,NB,place,NA,ND]
  exact i _ none 0 e.pre.app rfl
 ·rw [Ns4 hA] at d
  rw [d] at i
  refine NL ?_
  simp only [n109,Noy,SB,seval,NC,NJ,NG,NQ,reduceCtorEq,NB,place,NA,ND]
  exact i _ none 0 e.pre.app rfl
 have Z:ZV P L a.place b.place a.time=w:=Ndv ⟨he,v,hv,hA,hB⟩
 rw [Z] at d
 by_cases h0:w=[]
 ·subst h0
  rw [d] at i
  refine NL ?_
  simp only [n109,Noy,Ns,SB,seval,NC,NJ,NG,NQ,reduceCtorEq,NB,place,NA,ND]
  exact i _ none 0 e.pre.app rfl
 have au:0<w.length:=List.length_pos_iff.2 h0
 have ai:¬((w.length:Nat):Int)=0:=by omega
 have Y:IntKind.i64.wrap ((w.length:Int)-1)=((w.length-1:Nat):Int):=by rw [NP (by omega) (by omega)];omega
 have g:=n.capOk
 have W:=n.sl OQ
 obtain ⟨q1,k1,x1,s1,_,_,_⟩:=UR (vlo:=none) (vhi:=some (Vi ((w.length-1:Nat):Int))) (lo:=0) (hi:=w.length-1) W g OQ (fun cap g=>by rw [Mx (by omega) (by rw [Nv] at g;omega),Oa]) (Nw _) (by rw [Nv];omega) (by rw [Nv];omega)
 obtain ⟨D,hD⟩:∃D,D=w.dropLast:=⟨_,rfl⟩
 have K:D.length=w.length-1:=by rw [hD,List.length_dropLast]
 rw [O0,<-List.map_take,<-List.dropLast_eq_take,<-hD] at s1
 rw [Nv,Nat.sub_zero,<-K] at x1
 rw [<-hD] at d
 rw [d] at i
 rw [Nv] at i
 rw [<-K] at Y
 have U:∀x∈D,x.1∈L:=fun x hx=>hB.way.mem x (by rw [hD] at hx;exact List.dropLast_subset _ hx)
 have ae:=Ne6 (Vo (Mv he).1).2.2.2
 refine NL ?_
 simp only [n109,Noy,No ai,Y,x1,SB,seval,NC,NJ,NG,NQ,reduceCtorEq,NB,place,NA,ND]
 have S:=e.len
 simp at S
 have l:=e.cells (OC (X:=[_,Vc (Tv pp P.length cp pL L.length cL),Vc (enc3 s),_,_]) (j:=1)) (by simp)
 have o:=e.cells (OC (X:=[_,Vc (Tv pp P.length cp pL L.length cL),Vc (enc3 s),_,_]) (j:=2)) (by simp)
 have N:=(hN.app [Vc (TH pe es.length ce q nk cq r ns cr c pl nl cl),Vc (Tv pp P.length cp pL L.length cL),Vc (enc3 s),Vc (encE a),Vc (encE b)]).sim fun b ro c h=>e.cells h (by simp)
 obtain ⟨F,ac⟩:∃F,F=G:=⟨_,rfl⟩
 have J:=e.pre
 rw [<-ac] at l o N s1 J S⊢
 clear e n W
 refine NS (fun j:Nat×Option Addr×Nat=>D.length-j.1) (fun j fr G=>j.1<=D.length/\fr 4=Vp (H.length+1)/\fr 5=Vp (H.length+2)/\fr 11=.slice j.2.1 j.1 j.2.2/\fr 52=.slice q1 D.length k1/\fr 53=Vi D.length/\fr 54=Vi j.1/\
   Chg [] F G/\Own F.length G Tp 5 j.2.1 j.2.2 ((D.take j.1).map (Xl s))) (0,none,0)
  ⟨Nw _,rfl,rfl,rfl,rfl,rfl,by rfl,Chg.refl.app,.nil⟩ ?_
 rintro ⟨j,p,c'⟩ fr G ⟨hj,g4,g5,u,y,z,A,e,n⟩ M
 simp only at hj u A n M
 rw [NU N0y.eq_1]
 refine NL ?_
 have aq:=e.len
 have O:((D.take j).map (Xl s)).length=j:=by rw [Nv,Om];omega
 by_cases f:j<D.length
 case neg=>
  obtain rfl:j=D.length:=by omega
  rw [Oh] at n
  simp only [n109,Noy,g4,g5,u,y,z,A,NN,f,SB,seval,NC,NJ,NG,NQ,reduceCtorEq,NB,place,NA,ND]
  exact i _ _ _ (J.trans e).app ((n.sl QI).app _)
 have sT:=e.sl s1 (fun a _ _ h=>(by cases h))
 have T:j<(D.map V4).length:=by rw [Nv];exact f
 have C:=fun X=>(sT.app X).loadCells OQ T
 have t:=fun c (k:IntKind) (H1:NE)=>sT.idx (c:=c) (k:=k) (H1:=H1) T
 rw [N4z f] at C
 rw [Nv] at t
 have al:IntKind.i64.wrap ((j:Int)+1)=((j+1:Nat):Int):=OE (by omega)
 have ag:lim<=G.length:=by omega
 have ah:=U _ (QH f)
 have ak:(D.take (j+1)).map (Xl s)=(D.take j).map (Xl s)++[Xl s (gt D j)]:=by
  rw [N4 f,Ou,PS f];rfl
 generalize gt D j=x at *
 have ad:=N1g ae ah
 have e3:enc3 (V4 x)=[Vi x.1.id,Vi x.2,Vi (x.2+x.1.mins)]:=rfl
 rw [e3] at C
 have xN:=fun X=>(OH.refl.app (X:=X)).cells (e.cells l (by simp))
 have xS:=fun X=>(OH.refl.app (X:=X)).cells (e.cells o (by simp))
 have B:=fun X (mp:Bool) (lim:Nat) (Q:Value->NE->Prop)=>find_ok (mp:=mp) (lim:=lim) (cp:=cp) (cl:=cL) (a:=x.1.id) (Q:=Q) ((N.sim fun b ro c h=>e.cells h (by simp)).app X)
 rw [ad] at B
 simp only at B
 obtain ⟨G2,e2,aa,I,aj,ar,_⟩:=n.step (lim':=lim) (bytes:=40) (by omega) QI (by decide) (Xl s x) (by rw [O];unfold QG;omega) (by omega) (by omega) [Vc [Vi x.1.id,Vi x.2,Vi (x.2+x.1.mins)],Vc (RA x.1),Vc (Tp (Xl s x))] (G.length+2) 1 (by rw [OC];rfl)
 have ab:Tp (Xl s x)=[.int .u8 5,Vi k,Vi m,Vi x.1.dst,Vi 0]:=by rw [<-hk,<-hm];rfl
 rw [O,ab] at e2
 simp only [n109,Noy,g4,g5,u,y,z,A,NN,f,C,t,al,ag,xN,xS,B,PT,e0,e1,OQ,OI,QQ,QP,QO,QN,QM,QL,QK,QJ,NH,NF,e2,SB,seval,NC,NJ,NG,NQ,reduceCtorEq,NB,place,NA,ND]
 exact M (j+1,Sa (G.length+3),loose 5) _ _ ⟨by omega,g4,g5,rfl,y,z,rfl,I [] F (Nd _) e,by rw [ak];exact aa⟩ (by simp only;omega)
theorem Nuf [OB] {lim ce cq cr nl cl cp cL nk ns:Nat} {pe q r pl pp pL:Option Addr} {P:List Int} {L:List Leg} {es:List Ev} {s:Stp} {c:Int} {H:NE} {Q:Value->NE->Prop} (B:NetIn H pp pL P L) (he:Sl H encE 7 pe es) (hs:Tg es.length s) (hn:es.length<2 ^ 30) (hl:lim<=H.length)
  (b:∀G p l,Chg [] H G->Sl G Tp 5 p (Sy P L es s)->Q (.slice p (Sy P L es s).length l) G) :
  NK E false lim 75 [.agg (TH pe es.length ce q nk cq r ns cr c pl nl cl).toArray,.agg (Tv pp P.length cp pL L.length cL).toArray,.agg (enc3 s).toArray] H Q:=by
 refine RG (by decide) e75 rfl ?_
 rw [b75,c75]
 have y:=hs
 unfold Tg at hs
 obtain ⟨m,z⟩:∃m:Nat,s.1=m:=⟨s.1.toNat,by omega⟩
 obtain ⟨k,hk⟩:∃k:Nat,s.2.1=k:=⟨s.2.1.toNat,by omega⟩
 have v:m<es.length:=by omega
 have t:k<es.length:=by omega
 have e0:=Nqs (x:=s)
 have e1:=Nj2 (x:=s)
 have e2:=N1z (x:=s)
 rw [z] at e0
 rw [hk] at e1
 have f:∀X,AM.loadCells (H++X) ((Zv pe 7 m).add 0) 6=some (R3 (gt es m)):=fun X=>(he.app X).loadSub NW (j:=0) (n:=6) v (by omega)
 have g:∀X,AM.loadCells (H++X) ((Zv pe 7 k).add 0) 6=some (R3 (gt es k)):=fun X=>(he.app X).loadSub NW (j:=0) (n:=6) t (by omega)
 have d:=fun c (k:IntKind) (H1:NE)=>he.idx (c:=c) (k:=k) (H1:=H1) v
 have e:=fun c (k:IntKind) (H1:NE)=>he.idx (c:=c) (k:=k) (H1:=H1) t
 have a:Sy P L es s=if (gt es m).kind=4 then [⟨2,(k:Int),(m:Int),(gt es k).place,0⟩] else if s.2.2=80 then [⟨3,(k:Int),(m:Int),(gt es k).place,0⟩] else if 0<s.2.2 then [⟨4,(k:Int),(m:Int),(gt es k).place,s.2.2⟩]
   else if (gt es m).place≠(gt es k).place then TF P L es s else []:=by unfold Sy;rw [z,hk,Oa,Oa]
 have u:=fun X (Q:Value->NE->Prop) (b:∀G p l,Chg [] (H++X) G->Sl G Tp 5 p (TF P L es s)->Q (.slice p (TF P L es s).length l) G)=>Nux (lim:=lim) (ce:=ce) (cq:=cq) (cr:=cr) (nl:=nl) (cl:=cl) (cp:=cp) (cL:=cL) (nk:=nk) (ns:=ns) (q:=q) (r:=r) (pl:=pl) (c:=c) (B.app X) (he.app X) y hn (by simp;omega) b
 by_cases h:(gt es m).kind=4
 ·rw [Ni h] at a
  rw [a] at b
  simp only [n75,r75,PD,RN,RV,RU,RS,RD,OX,Ue,Ve,Vd,Vb,Va,UZ,OQ,e0,e1,e2,NH,f,g,d,e,NF,hl,gt_iff_lt,N5 h,SB,seval,NC,NJ,NG,NQ,reduceCtorEq,NB,place,NA,ND]
  exact b _ _ _ Chg.refl.app (Sl.row (ro:=false) QI (by rw [OC];rfl))
 rw [Ng h] at a
 by_cases i:s.2.2=80
 ·rw [Ni i] at a
  rw [a] at b
  simp only [n75,r75,PD,RN,RV,RU,RS,RD,OX,Ue,Ve,Vd,Vb,Va,UZ,OQ,e0,e1,e2,NH,f,g,d,e,NF,hl,gt_iff_lt,No h,N5 i,SB,seval,NC,NJ,NG,NQ,reduceCtorEq,NB,place,NA,ND]
  exact b _ _ _ Chg.refl.app (Sl.row (ro:=false) QI (by rw [OC];rfl))
 rw [Ng i] at a
 by_cases o:0<s.2.2
 ·rw [Ni o] at a
  rw [a] at b
  simp only [n75,r75,PD,RN,RV,RU,RS,RD,OX,Ue,Ve,Vd,Vb,Va,UZ,OQ,e0,e1,e2,NH,f,g,d,e,NF,hl,gt_iff_lt,No h,No i,N5 o,No (show ¬H.length=H.length+3 by omega),not_false_eq_true,AM.loadX,SB,seval,NC,NJ,NG,NQ,reduceCtorEq,NB,place,NA,ND]
  exact b _ _ _ Chg.refl.app (Sl.row (ro:=false) QI (by rw [OC];rfl))
 rw [Ng o] at a
 by_cases w:(gt es m).place=(gt es k).place
 ·rw [Ng (by simpa using w)] at a
  rw [a] at b
  simp only [n75,r75,PD,RN,RV,RU,RS,RD,OX,Ue,Ve,Vd,Vb,Va,UZ,OQ,e0,e1,e2,NH,f,g,d,e,NF,hl,gt_iff_lt,No h,No i,No o,N5 w,SB,seval,NC,NJ,NG,NQ,reduceCtorEq,NB,place,NA,ND]
  exact b _ none 0 Chg.refl.app rfl
 rw [Ni w] at a
 rw [a] at b
 simp only [n75,r75,PD,RN,RV,RU,RS,RD,OX,Ue,Ve,Vd,Vb,Va,UZ,OQ,e0,e1,e2,NH,f,g,d,e,NF,hl,gt_iff_lt,No h,No i,No o,No w,PT,SB,seval,NC,NJ,NG,NQ,reduceCtorEq,NB,place,NA,ND]
 refine u _ _ fun G p l A hS=>?_
 refine NL ?_
 simp only [n75,r75,SB,seval,NC,NJ,NG,NQ,reduceCtorEq,NB,place,NA,ND]
 exact b _ p l A.pre.app (hS.app _)
structure G38 (G1:NE) (B:Nat) (G:NE) (l:List An) (p:Option Addr) (cap:Nat):Prop where
 chg:Chg [B] G1 G
 cell:NI G B=Vc [.slice p l.length cap]
 own:Own G1.length G Tp 5 p cap l
theorem G38.grow {G1 G G2:NE} {B cap:Nat} {l:List An} {p:Option Addr} (h:G38 G1 B G l p cap) (hc:Chg [] G G2):G38 G1 B G2 l p cap:=
 ⟨h.chg.trans' hc fun j hj=>(by cases hj),hc.cells h.cell (by simp),h.own.chg hc (fun a _=>by simp)⟩
theorem G38.add [OB] {lim B cap q:Nat} {p n:Option Addr} {l m:List An} {G1 G:NE} {Q:Value->NE->Prop} (h:G38 G1 B G l p cap) (hs:Sl G Tp 5 n m) (j:lim<=B) (hB:B<G1.length) (hn:l.length+m.length<2 ^ 31)
  (t:∀G' e b,G.length<=G'.length->G38 G1 B G' (l++m) e b->Q (.tuple #[]) G') :
  NK E false lim 73 [.slice n m.length q,Vp B] G Q:=by
 refine RG (by decide) e73 rfl ?_
 rw [b73,c73]
 have f:=NM h.cell
 have g:=h.chg.len
 obtain ⟨G2,e,b,k1,k2,k3,u,w⟩:=h.own.more (lim':=lim) (bytes:=40) (by omega) QI (by decide) m (by unfold QG;omega) (by omega) g [] (x:=.slice n m.length q) (str:=false) (WG (hs.app [])) rfl
 have c:NI (G2++[]) B=Vc [.slice p l.length cap]:=by
  rw [u B f (fun a i=>by have:=(h.own.block i).1;omega)];exact h.cell
 rw [Nb] at k2 c
 have d:=k3 [B] G1 (Nd _) h.chg
 rw [Nb] at d
 obtain ⟨r,e3,s,k⟩:=OP (NM c) (Vc [.slice e (l.length+m.length) b])
 have v:=fun X=>(OH.refl.app (X:=X)).cells h.cell
 have o:=fun X=>(OH.refl.app (X:=X)).cells c
 simp only [n73,r73,v,k1,o,e3,j,SB,seval,NC,NJ,NG,NQ,reduceCtorEq,NB,place,NA,ND]
 have ho:Own G1.length r Tp 5 e b (l++m):=k2.mut k fun a i=>by have:=(k2.block i).1;omega
 exact t _ e b (by rw [Nb,k.len];omega) ⟨by rw [Nb];exact d.mut k (.inl (by simp)),by rw [Nb,s,Nn],by rw [Nb];exact ho⟩
def Nc8:ACode->ACode
 | .block _ c=>c
 | c=>c
def Zc:ACode:=Nc8 (TI (RH (RH W9)))
def N23:ACode:=RH (RH (RH W9))
def Nhc:ACode:=RH Zc
def Nn3:ACode:=RH Nhc
def N95:ACode:=RH Nn3
theorem N4o:W9=.seq (TI W9) (.seq (TI (RH W9)) (.seq (.block 1 (.seq (TI Zc) Nhc)) N23)):=rfl
theorem N21:Nhc=.seq (TI Nhc) Nn3:=rfl
theorem N20:Nn3=.seq (TI Nn3) N95:=rfl
structure D38 (lim B A T ce cq cr ct cp cL:Nat) (pe q r pt pp pL:Option Addr) (P:List Int) (L:List Leg) (es tw:List Ev) (ks:List Int) (ss:List Stp) (c:Int) (H0 G1:NE) (b4 b5:Nat):Prop where
 hev:Sl H0 encE 7 pe es
 hce:Uj 7 ce es.length
 htw:Sl H0 encE 7 pt tw
 net:NetIn H0 pp pL P L
 h01:Chg [] H0 G1
 rep:NI G1 b4=Vc (TH pe es.length ce q ks.length cq r ss.length cr c none 0 0)
 nv:NI G1 b5=Vc (Tv pp P.length cp pL L.length cL)
 kp:NI G1 A=Vc ((TZ es.length ks).flatMap Nak)
 to:NI G1 T=Vc ((VV es.length ss).flatMap enc3)
 n4:b4≠B
 n5:b5≠B
 nA:A≠B
 nT:T≠B
 hB:H0.length<=B
 lB:lim<=H0.length
 lG:B<G1.length
 ne:es.length<=2000
 nt:tw.length<=2000
 te:UJ es
 tt:UJ tw
 so:∀s∈ss,Tg es.length s
 di:Ngq ss
structure FR38 (B A T ct n:Nat) (pt:Option Addr) (nt:Nat) (now:Int) (b4 b5:Nat) (fr:Nat->Value):Prop where
 f2:fr 2=.slice pt nt ct
 f3:fr 3=Vi now
 f4:fr 4=Vp b4
 f5:fr 5=Vp b5
 f9:fr 9=Vp B
 f10:fr 10=.func (.func 73) #[] #[Vp B]
 f11:fr 11=.slice (Sa A) n n
 f12:fr 12=.slice (Sa T) n n
section
variable {lim B A T ce cq cr ct cp cL b4 b5:Nat} {pe q r pt pp pL:Option Addr} {P:List Int} {L:List Leg} {es tw:List Ev} {ks:List Int} {ss:List Stp} {c now:Int} {H0 G1 G:NE} {fr:Nat->Value} {K:List AItem} {Z:Value->NE->Prop} {i cap:Nat} {p:Option Addr} {l:List An}
theorem D38.old (D:D38 lim B A T ce cq cr ct cp cL pe q r pt pp pL P L es tw ks ss c H0 G1 b4 b5) (h:G38 G1 B G l p cap):Chg [] H0 G:=D.h01.trans' h.chg fun j hj hl=>by
 have:=D.hB
 rw [Nj] at hj
 omega
theorem D38.rest [OB] (D:D38 lim B A T ce cq cr ct cp cL pe q r pt pp pL P L es tw ks ss c H0 G1 b4 b5) (h:G38 G1 B G l p cap) (F:FR38 B A T ct es.length pt tw.length now b4 b5 fr) (f13:fr 13=Vi i) (hi:i<es.length) (s:l.length<=1000000000)
  (m:∀fr' G' g b,G38 G1 B G' (l++PO es tw i) g b->FR38 B A T ct es.length pt tw.length now b4 b5 fr'->fr' 22=fr 22->fr' 23=fr 23->fr' 24=fr 24->PV E a38 lim K fr' (G'++[]) Z) :
  PV E a38 lim (.code N95::K) fr G Z:=by
 have d:=D.old h
 have v:=fun X=>(OH.refl.app (X:=X)).cells (h.chg.cells D.rep (by have:=D.n4;simpa using this))
 have k:=d.len
 have o:=D.lB
 have t:=D.ne
 have u:=D.nt
 unfold N95
 refine NL ?_
 simp only [Nn3,Nhc,Zc,Nc8,TI,RH,W9,n38,r38,F.f4,F.f10,F.f2,f13,v,PD,NH,SB,seval,NC,NJ,NG,NQ,reduceCtorEq,NB,place,NA,ND]
 have n:(PO es tw i).length<=tw.length:=by unfold PO;rw [Nv];exact Qz ..
 refine Nqv ((d.sl D.hev (fun a _ _ h=>(by cases h))).app _) D.hce ((d.sl D.htw (fun a _ _ h=>(by cases h))).app _) hi (by omega) (by omega) (by simp;omega) D.te D.tt fun G2 x w e f=>?_
 have h2:=h.grow e.pre
 refine NL ?_
 simp only [n38,r38,SB,seval,NC,NJ,NG,NQ,reduceCtorEq,NB,place,NA,ND]
 rw [Nb]
 refine h2.add f (by have:=D.hB;omega) D.lG (by omega) fun G' g b hl j=>?_
 refine NL ?_
 simp only [n38,r38,SB,seval,NC,NJ,NG,NQ,reduceCtorEq,NB,place,NA,ND]
 exact m _ _ _ _ j ⟨(by simp only [F.f2,ne_eq,FB,Nat.reduceEqDiff]),(by simp only [F.f3,ne_eq,FB,Nat.reduceEqDiff]),(by simp only [F.f4,ne_eq,FB,Nat.reduceEqDiff]),(by simp only [F.f5,ne_eq,FB,Nat.reduceEqDiff]),(by simp only [F.f9,ne_eq,FB,Nat.reduceEqDiff]),(by simp only [F.f10,ne_eq,FB,Nat.reduceEqDiff]),(by simp only [F.f11,ne_eq,FB,Nat.reduceEqDiff]),(by simp only [F.f12,ne_eq,FB,Nat.reduceEqDiff])⟩ rfl rfl rfl
noncomputable def V9 (P:List Int) (L:List Leg) (es:List Ev) (ss:List Stp) (i:Nat):List An:=if (gt (VV es.length ss) i).1<(gt (VV es.length ss) i).2.1 then Sy P L es (gt (VV es.length ss) i) else []
def Nd3 (es:List Ev) (ks:List Int) (i:Nat):List An:=if gt (TZ es.length ks) i then [] else [⟨1,(i:Int),0,(gt es i).place,0⟩]
theorem D38.mid [OB] (D:D38 lim B A T ce cq cr ct cp cL pe q r pt pp pL P L es tw ks ss c H0 G1 b4 b5) (h:G38 G1 B G l p cap) (F:FR38 B A T ct es.length pt tw.length now b4 b5 fr) (f13:fr 13=Vi i) (hi:i<es.length) (f:l.length+(V9 P L es ss i).length<=1000000000)
  (g:∀fr' G' n d,G38 G1 B G' (l++(V9 P L es ss i++PO es tw i)) n d->FR38 B A T ct es.length pt tw.length now b4 b5 fr'->fr' 22=fr 22->fr' 23=fr 23->fr' 24=fr 24->PV E a38 lim K fr' (G'++[]) Z) :
  PV E a38 lim (.code Nn3::K) fr G Z:=by
 have t:=D.old h
 have M:=fun X=>(OH.refl.app (X:=X)).cells (h.chg.cells D.rep (by have:=D.n4;simpa using this))
 have J:=fun X=>(OH.refl.app (X:=X)).cells (h.chg.cells D.nv (by have:=D.n5;simpa using this))
 have hT:=h.chg.cells D.to (by have:=D.nT;simpa using this)
 have O:=t.len
 have R:=D.lB
 have S:=D.ne
 have U:=D.nt
 have o:Sl G enc3 3 (Sa T) (VV es.length ss):=Sl.row OQ hT
 have e:i<(VV es.length ss).length:=by rw [Nis];exact hi
 have w:=fun c (k:IntKind) (H1:NE)=>o.idx (c:=c) (k:=k) (H1:=H1) e
 rw [Nis] at w
 have I:=fun X=>(o.app X).loadCells OQ e
 have C:∀X,AM.loadCell (G++X) ((Zv (Sa T) 3 i).add 0)=some (Vi (gt (VV es.length ss) i).1):=fun X=>(o.app X).loadCell (j:=0) OQ e (by omega)
 have H:∀X,AM.loadCell (G++X) ((Zv (Sa T) 3 i).add 1)=some (Vi (gt (VV es.length ss) i).2.1):=fun X=>(o.app X).loadCell (j:=1) OQ e (by omega)
 have m:=fun h=>(Nrt D.so D.di hi h).1
 rw [N20]
 refine NL ?_
 unfold V9 at g f
 generalize gt (VV es.length ss) i=s at *
 by_cases h1:s.1<s.2.1
 ·rw [Ni h1] at g f
  simp only [Nn3,Nhc,Zc,Nc8,TI,RH,W9,n38,r38,F.f4,F.f5,F.f10,F.f12,f13,M,J,PD,PT,OQ,NH,w,I,C,H,N5 h1,SB,seval,NC,NJ,NG,NQ,reduceCtorEq,NB,place,NA,ND]
  refine Nuf ((D.net.sim fun b ro x Q=>t.cells Q (by simp)).app _) ((t.sl D.hev (fun a _ _ h=>(by cases h))).app _) (D.so _ (m h1)) (by omega) (by simp;omega) fun G2 W V u v=>?_
  have h2:=h.grow u.pre
  refine NL ?_
  simp only [n38,r38,SB,seval,NC,NJ,NG,NQ,reduceCtorEq,NB,place,NA,ND]
  rw [Nb]
  refine h2.add v (by have:=D.hB;omega) D.lG (by omega) fun G' n d hl N=>?_
  refine NL ?_
  simp only [n38,r38,SB,seval,NC,NJ,NG,NQ,reduceCtorEq,NB,place,NA,ND]
  rw [Nb]
  refine D.rest (now:=now) N ⟨(by simp only [F.f2,ne_eq,FB,Nat.reduceEqDiff]),(by simp only [F.f3,ne_eq,FB,Nat.reduceEqDiff]),(by simp only [F.f4,ne_eq,FB,Nat.reduceEqDiff]),(by simp only [F.f5,ne_eq,FB,Nat.reduceEqDiff]),(by simp only [F.f9,ne_eq,FB,Nat.reduceEqDiff]),(by simp only [F.f10,ne_eq,FB,Nat.reduceEqDiff]),(by simp only [F.f11,ne_eq,FB,Nat.reduceEqDiff]),(by simp only [F.f12,ne_eq,FB,Nat.reduceEqDiff])⟩ f13 hi (by rw [Nn];omega) fun fr' G' n d k1 k2 k3 y z=>?_
  rw [Nq] at k1
  exact g _ _ _ _ k1 k2 (k3.trans rfl) (y.trans rfl) (z.trans rfl)
 ·rw [Ng h1] at g f
  rw [Ov] at g
  simp only [Nn3,Nhc,Zc,Nc8,TI,RH,W9,n38,r38,F.f4,F.f5,F.f10,F.f12,f13,M,J,PD,PT,OQ,NH,w,I,C,H,No h1,SB,seval,NC,NJ,NG,NQ,reduceCtorEq,NB,place,NA,ND]
  rw [Nb]
  refine D.rest (now:=now) h ⟨(by simp only [F.f2,ne_eq,FB,Nat.reduceEqDiff]),(by simp only [F.f3,ne_eq,FB,Nat.reduceEqDiff]),(by simp only [F.f4,ne_eq,FB,Nat.reduceEqDiff]),(by simp only [F.f5,ne_eq,FB,Nat.reduceEqDiff]),(by simp only [F.f9,ne_eq,FB,Nat.reduceEqDiff]),(by simp only [F.f10,ne_eq,FB,Nat.reduceEqDiff]),(by simp only [F.f11,ne_eq,FB,Nat.reduceEqDiff]),(by simp only [F.f12,ne_eq,FB,Nat.reduceEqDiff])⟩ f13 hi (by simpa using f) fun fr' G' n d k1 k2 k3 y z=>?_
  exact g _ _ _ _ k1 k2 (k3.trans rfl) (y.trans rfl) (z.trans rfl)
theorem D38.first [OB] {e:Nat} (D:D38 lim B A T ce cq cr ct cp cL pe q r pt pp pL P L es tw ks ss c H0 G1 b4 b5) (h:G38 G1 B G l p cap) (F:FR38 B A T ct es.length pt tw.length now b4 b5 fr) (f13:fr 13=Vi i) (f14:fr 14=Vp e) (o:NI G e=Vc (encE (gt es i))) (hi:i<es.length) (H:l.length+(1+(V9 P L es ss i).length)<=1000000000)
  (d:∀fr' G' n a,G38 G1 B G' (l++atN P L es tw ks ss i) n a->FR38 B A T ct es.length pt tw.length now b4 b5 fr'->fr' 22=fr 22->fr' 23=fr 23->fr' 24=fr 24->PV E a38 lim K fr' (G'++[]) Z) :
  PV E a38 lim (.code Nhc::K) fr G Z:=by
 have w:atN P L es tw ks ss i=Nd3 es ks i++(V9 P L es ss i++PO es tw i):=rfl
 rw [w] at d
 have y:=D.old h
 have hK:=h.chg.cells D.kp (by have:=D.nA;simpa using this)
 have z:=y.len
 have C:=D.lB
 have I:=D.ne
 have J:=D.nt
 have sK:Sl G Nak 1 (Sa A) (TZ es.length ks):=Sl.row Zu hK
 have f:i<(TZ es.length ks).length:=by rw [Nh1];exact hi
 have s:=fun c (k:IntKind) (H1:NE)=>sK.idx (c:=c) (k:=k) (H1:=H1) f
 rw [Nh1] at s
 have v:∀X,AM.loadCell (G++X) (Zv (Sa A) 1 i)=some (.bool (gt (TZ es.length ks) i)):=fun X=>by
  have:=(sK.app X).loadCell (j:=0) Zu f (by omega)
  rwa [show (Zv (Sa A) 1 i).add 0=Zv (Sa A) 1 i from by simp only [Zv,addrOf,Pc,addr_add,O9]] at this
 have g:=fun X=>(OH.refl.app (X:=X)).cells o
 rw [N21]
 refine NL ?_
 unfold Nd3 at d
 generalize gt (TZ es.length ks) i=b at *
 cases b with
 | true=>
   simp only [Nhc,Zc,Nc8,TI,RH,W9,n38,r38,F.f10,F.f11,f13,f14,g,NW,PY,QD,QC,QB,QA,PZ,PW,NH,s,v,SB,seval,NC,NJ,NG,NQ,reduceCtorEq,NB,place,NA,ND]
   rw [Ni rfl,Ov] at d
   rw [Nb]
   exact D.mid (now:=now) h ⟨(by simp only [F.f2,ne_eq,FB,Nat.reduceEqDiff]),(by simp only [F.f3,ne_eq,FB,Nat.reduceEqDiff]),(by simp only [F.f4,ne_eq,FB,Nat.reduceEqDiff]),(by simp only [F.f5,ne_eq,FB,Nat.reduceEqDiff]),(by simp only [F.f9,ne_eq,FB,Nat.reduceEqDiff]),(by simp only [F.f10,ne_eq,FB,Nat.reduceEqDiff]),(by simp only [F.f11,ne_eq,FB,Nat.reduceEqDiff]),(by simp only [F.f12,ne_eq,FB,Nat.reduceEqDiff])⟩ f13 hi (by omega) fun fr' G' n a k1 k2 k3 t u=>d _ _ _ _ k1 k2 (k3.trans rfl) (t.trans rfl) (u.trans rfl)
 | false=>
   simp only [Nhc,Zc,Nc8,TI,RH,W9,n38,r38,F.f10,F.f11,f13,f14,g,NW,PY,QD,QC,QB,QA,PZ,PW,NH,s,v,SB,seval,NC,NJ,NG,NQ,reduceCtorEq,NB,place,NA,ND]
   rw [Ng (by simp)] at d
   refine (h.grow (G2:=G++[Vc (Tp ⟨1,(i:Int),0,(gt es i).place,0⟩)]) Chg.refl.app).add (lim:=lim) (m:=[⟨1,(i:Int),0,(gt es i).place,0⟩]) (Sl.row (ro:=false) QI (by rw [NV];rfl)) (by have:=D.hB;omega) D.lG (by simp;omega) fun G' n a hl x=>?_
   refine NL ?_
   simp only [n38,r38,SB,seval,NC,NJ,NG,NQ,reduceCtorEq,NB,place,NA,ND]
   rw [Nb]
   refine D.mid (now:=now) x ⟨(by simp only [F.f2,ne_eq,FB,Nat.reduceEqDiff]),(by simp only [F.f3,ne_eq,FB,Nat.reduceEqDiff]),(by simp only [F.f4,ne_eq,FB,Nat.reduceEqDiff]),(by simp only [F.f5,ne_eq,FB,Nat.reduceEqDiff]),(by simp only [F.f9,ne_eq,FB,Nat.reduceEqDiff]),(by simp only [F.f10,ne_eq,FB,Nat.reduceEqDiff]),(by simp only [F.f11,ne_eq,FB,Nat.reduceEqDiff]),(by simp only [F.f12,ne_eq,FB,Nat.reduceEqDiff])⟩ f13 hi (by rw [Nn,Qy];omega) fun fr' G' n a k1 k2 k3 t u=>?_
   rw [Nq] at k1
   exact d _ _ _ _ k1 k2 (k3.trans rfl) (t.trans rfl) (u.trans rfl)
end
theorem Npn {m:List Int}:∀{l:List Int},l.Nodup->(∀x∈l,x∈m)->l.length<=m.length:=by
 induction m with
 | nil=>intro l _ h;cases l with
   | nil=>simp
   | cons x l=>exact absurd (h x Nm) Oe
 | cons a m ih=>
   intro l hn h
   have h1:=ih (l:=l.erase a) (hn.erase a) fun x b=>by
    have h2:=(hn.mem_erase_iff).1 b
    exact ((Nr.1 (h x h2.2)).resolve_left h2.1)
   have c:l.length<=(l.erase a).length+1:=by rw [List.length_erase];split<;>omega
   simp only [Nl];omega
theorem Nxt {P:List Int} {L:List Leg} {p q t:Int}:(ZV P L p q t).length<=50:=by
 by_cases h:∃w,Won P L p q t w
 ·obtain ⟨w,b⟩:=h
  rw [Ndv b]
  obtain ⟨he,v,h0,f,a⟩:=b
  obtain ⟨h1,hp,e,ht,_⟩:=Mv he
  have hn:=VR h1
  have:=Npn (m:=P) (a.way.nodup hn.fine a.few) fun x hx=>by
   rcases Nr.1 hx with rfl | hx
   ·exact hp
   ·obtain ⟨y,d,rfl⟩:=List.mem_map.1 hx
    exact hn.dst _ (a.way.mem y d)
  have c:=(Vo h1).1
  simp at this
  omega
 ·unfold ZV;rw [dif_neg h];simp
theorem Nlu {P:List Int} {L:List Leg} {es:List Ev} {s:Stp}:(Sy P L es s).length<=50:=by
 unfold Sy
 simp only
 have a:(TF P L es s).length<=50:=by
  unfold TF;rw [Nv,List.length_dropLast]
  have:=Nxt (P:=P) (L:=L) (p:=(gt es s.1.toNat).place) (q:=(gt es s.2.1.toNat).place) (t:=(gt es s.1.toNat).time)
  omega
 repeat' split
 all_goals first | exact a | simp
theorem Zd {P:List Int} {L:List Leg} {es:List Ev} {ss:List Stp} {i:Nat}:(V9 P L es ss i).length<=50:=by
 unfold V9
 split
 ·exact Nlu
 ·simp
theorem N5r {P:List Int} {L:List Leg} {es tw:List Ev} {ks:List Int} {ss:List Stp} {i:Nat}:(atN P L es tw ks ss i).length<=51+tw.length:=by
 have e:atN P L es tw ks ss i=Nd3 es ks i++(V9 P L es ss i++PO es tw i):=rfl
 have h1:(Nd3 es ks i).length<=1:=by unfold Nd3;split<;>simp
 have h2:=Zd (P:=P) (L:=L) (es:=es) (ss:=ss) (i:=i)
 have a:(PO es tw i).length<=tw.length:=by unfold PO;rw [Nv];exact Qz ..
 rw [e,Nn,Nn];omega
theorem Nhm {P:List Int} {L:List Leg} {es tw:List Ev} {ks:List Int} {ss:List Stp} {m:Nat}:Xj P L es tw ks ss (m+1)=Xj P L es tw ks ss m++atN P L es tw ks ss m:=by
 unfold Xj;rw [Pa,P2,Oy,Ro,Nb]
theorem MR {P:List Int} {L:List Leg} {es tw:List Ev} {ks:List Int} {ss:List Stp}:∀m,(Xj P L es tw ks ss m).length<=m*(51+tw.length)
 | 0=>by simp [Xj]
 | m+1=>by
   have h:=MR (P:=P) (L:=L) (es:=es) (tw:=tw) (ks:=ks) (ss:=ss) m
   have h2:=N5r (P:=P) (L:=L) (es:=es) (tw:=tw) (ks:=ks) (ss:=ss) (i:=m)
   rw [Nhm,Nn,Pq];omega
theorem Nu3 [OB] {lim ce cq cr ct cp cL:Nat} {pe q r pt pp pL:Option Addr} {P:List Int} {L:List Leg} {es tw:List Ev} {ks:List Int} {ss:List Stp} {c now:Int} {H:NE} {Q:Value->NE->Prop} (hev:Sl H encE 7 pe es) (hce:Uj 7 ce es.length) (htw:Sl H encE 7 pt tw) (u:NetIn H pp pL P L) (hq:Sl H encI 1 q ks) (hr:Sl H enc3 3 r ss) (hl:lim<=H.length)
  (ne:es.length<=2000) (nt:tw.length<=2000) (te:UJ es) (tt:UJ tw) (so:∀s∈ss,Tg es.length s) (di:Ngq ss) (hk:∀k∈ks,0<=k/\k<es.length) (t:ks.length<2 ^ 40) (M:ss.length<2 ^ 40) (v:0<=now/\now<=NY)
  (hQ:∀G p V,Chg [] H G->Own H.length G Tp 5 p V (SG P L es tw ks ss now)->Q (.slice p (SG P L es tw ks ss now).length V) G) :
  NK E false lim 38 [.agg (TH pe es.length ce q ks.length cq r ss.length cr c none 0 0).toArray,.agg (Tv pp P.length cp pL L.length cL).toArray,.slice pt tw.length ct,Vi now] H Q:=by
 refine RG (by decide) e38 rfl ?_
 rw [b38,c38]
 simp only [n38,r38,PD,PT,NH,SB,seval,NC,NJ,NG,NQ,reduceCtorEq,NB,place,NA,ND]
 refine Noe (lim:=lim) (hq.app _) (hr.app _) (by omega) t M (by simp;omega) hk so fun G1 A T b hA hT kA kT=>?_
 have I:=b.len
 simp at I hA hT
 have hB:=b.cells (OC (X:=[Vc (TH pe es.length ce q ks.length cq r ss.length cr c none 0 0),Vc (Tv pp P.length cp pL L.length cL),Vc [Vz]]) (j:=2)) (by simp)
 have D:D38 lim (H.length+2) A T ce cq cr ct cp cL pe q r pt pp pL P L es tw ks ss c H G1 H.length (H.length+1):=⟨hev,hce,htw,u,b.pre,b.cells (NV (X:=[Vc (TH pe es.length ce q ks.length cq r ss.length cr c none 0 0),Vc (Tv pp P.length cp pL L.length cL),Vc [Vz]])) (by simp),b.cells (OC (X:=[Vc (TH pe es.length ce q ks.length cq r ss.length cr c none 0 0),Vc (Tv pp P.length cp pL L.length cL),Vc [Vz]]) (j:=1)) (by simp),kA,kT,by omega,by omega,by omega,by omega,by omega,hl,by omega,ne,nt,te,tt,so,di⟩
 have xR:=fun X=>(OH.refl.app (X:=X)).cells D.rep
 refine NL ?_
 simp only [n38,r38,xR,RN,SB,seval,NC,NJ,NG,NQ,reduceCtorEq,NB,place,NA,ND]
 have C:G38 G1 (H.length+2) G1 [] none 0:=⟨Chg.refl,hB,.nil⟩
 refine NS (fun j:Nat×Option Addr×Nat=>es.length-j.1) (fun j fr G=>j.1<=es.length/\FR38 (H.length+2) A T ct es.length pt tw.length now H.length (H.length+1) fr/\fr 22=.slice pe es.length ce/\fr 23=Vi es.length/\fr 24=Vi j.1/\G38 G1 (H.length+2) G (Xj P L es tw ks ss j.1) j.2.1 j.2.2) (0,none,0)
  ⟨Nw _,⟨rfl,rfl,rfl,rfl,rfl,rfl,rfl,rfl⟩,rfl,rfl,by rfl,C.grow Chg.refl.app⟩ ?_
 rintro ⟨i,p,cap⟩ fr G ⟨hi,F,g,l,e,n⟩ Y
 simp only at hi e n Y
 rw [NU N4o]
 refine NL ?_
 have x:=D.old n
 have Z:=x.len
 by_cases d:i<es.length
 case neg=>
  obtain rfl:i=es.length:=by omega
  have U:=fun X=>(OH.refl.app (X:=X)).cells (n.chg.cells D.rep (by simp))
  simp only [TI,RH,W9,n38,r38,F.f4,F.f10,F.f9,F.f3,g,l,e,NN,d,U,PD,NH,SB,seval,NC,NJ,NG,NQ,reduceCtorEq,NB,place,NA,ND]
  have m:=MR (P:=P) (L:=L) (es:=es) (tw:=tw) (ks:=ks) (ss:=ss) es.length
  have B:(Xj P L es tw ks ss es.length).length<=2000*2051:=Qh m (Nat.mul_le_mul (by omega) (by omega))
  have ab:(SS es ks now).length<=1:=by
   rcases Xn (es:=es) (ks:=ks) (now:=now) with h | ⟨k,_,h,_⟩<;>rw [h]<;>simp
  have W:SG P L es tw ks ss now=Xj P L es tw ks ss es.length++SS es ks now:=rfl
  refine N4i ((x.sl hev (fun a _ _ h=>(by cases h))).app _) ((x.sl hq (fun a _ _ h=>(by cases h))).app _) (by omega) t (by simp;omega) hk te v fun G2 px cx y z=>?_
  have h2:=n.grow y.pre
  refine NL ?_
  simp only [n38,r38,SB,seval,NC,NJ,NG,NQ,reduceCtorEq,NB,place,NA,ND]
  rw [Nb]
  refine h2.add (lim:=lim) z (by omega) D.lG (by omega) fun G' p' f aa w=>?_
  have xB:=fun X=>(OH.refl.app (X:=X)).cells w.cell
  refine NL ?_
  simp only [n38,r38,F.f9,xB,SB,seval,NC,NJ,NG,NQ,reduceCtorEq,NB,place,NA,ND]
  rw [<-Nn,<-W]
  rw [<-W] at w
  exact hQ _ _ _ (D.old w).app ((w.own.le (by omega)).app _)
 have sE:=x.sl hev (fun a _ _ h=>(by cases h))
 have K:=fun X=>(sE.app X).loadCells NW d
 have o:=fun c (k:IntKind) (H1:NE)=>sE.idx (c:=c) (k:=k) (H1:=H1) d
 have N:IntKind.i64.wrap ((i:Int)+1)=((i+1:Nat):Int):=OE (by omega)
 have J:lim<=G.length:=by omega
 have m:=MR (P:=P) (L:=L) (es:=es) (tw:=tw) (ks:=ks) (ss:=ss) i
 have ac:=Zd (P:=P) (L:=L) (es:=es) (ss:=ss) (i:=i)
 have B:(Xj P L es tw ks ss i).length<=2000*2051:=Qh m (Nat.mul_le_mul (by omega) (by omega))
 simp only [TI,RH,W9,Zc,Nc8,n38,r38,g,l,e,NN,d,K,o,J,NW,NH,NF,SB,seval,NC,NJ,NG,NQ,reduceCtorEq,NB,place,NA,ND]
 refine D.first (now:=now) (i:=i) (n.grow (G2:=G++[Vc (encE (gt es i))]) Chg.refl.app) ⟨(by simp only [F.f2,ne_eq,FB,Nat.reduceEqDiff]),(by simp only [F.f3,ne_eq,FB,Nat.reduceEqDiff]),(by simp only [F.f4,ne_eq,FB,Nat.reduceEqDiff]),(by simp only [F.f5,ne_eq,FB,Nat.reduceEqDiff]),(by simp only [F.f9,ne_eq,FB,Nat.reduceEqDiff]),(by simp only [F.f10,ne_eq,FB,Nat.reduceEqDiff]),(by simp only [F.f11,ne_eq,FB,Nat.reduceEqDiff]),(by simp only [F.f12,ne_eq,FB,Nat.reduceEqDiff])⟩ rfl rfl NV d (by omega) fun fr' G' p' f k1 k2 k3 k4 k5=>?_
 rw [<-Nhm] at k1
 have S:fr' 24=Vi i:=k5.trans e
 have O:fr' 22=.slice pe es.length ce:=k3.trans g
 have R:fr' 23=Vi es.length:=k4.trans l
 unfold N23
 simp only [RH,W9,n38,r38,S,N,SB,seval,NC,NJ,NG,NQ,reduceCtorEq,NB,place,NA,ND]
 exact Y (i+1,p',f) _ _ ⟨by omega,⟨(by simp only [k2.f2,ne_eq,FB,Nat.reduceEqDiff]),(by simp only [k2.f3,ne_eq,FB,Nat.reduceEqDiff]),(by simp only [k2.f4,ne_eq,FB,Nat.reduceEqDiff]),(by simp only [k2.f5,ne_eq,FB,Nat.reduceEqDiff]),(by simp only [k2.f9,ne_eq,FB,Nat.reduceEqDiff]),(by simp only [k2.f10,ne_eq,FB,Nat.reduceEqDiff]),(by simp only [k2.f11,ne_eq,FB,Nat.reduceEqDiff]),(by simp only [k2.f12,ne_eq,FB,Nat.reduceEqDiff])⟩,O,R,rfl,k1.grow Chg.refl.app⟩ (by simp only;omega)
end Go.Proofs.YtkppjkkkdpcgiaaGreat.Fn


namespace Go.Proofs.YtkppjkkkdpcgiaaGreat.Fn
open Go.AM Go.AM.Sym Go.Scan
theorem Npg [OB] {lim c:Nat} {p:Option Addr} {K:List Ev} {item:Int} {H:NE} {Q:Value->NE->Prop} (hs:Sl H encE 7 p K) (hn:K.length<4000) (hl:lim<=H.length)
  (T:∀G z,NI G H.length=Vc ((Uq K item).flatMap encE++z)->Chg [] H G->Q (.slice (Sa H.length) (Uq K item).length K.length) (G++[])) :
  NK E false lim 28 [.slice p K.length c,Vi item] H Q:=by
 refine RG (by decide) e28 rfl ?_
 rw [b28,c28]
 have L:(K.length:Int)*56<=2 ^ 45:=by omega
 have M:(K.length:Int)<2 ^ 62:=by omega
 have N:(0:Int)<=(K.length:Int):=by omega
 simp only [n28,r28,L,M,N,Oa,Rk,SB,Nat.reduceLT,NC,NJ,Nat.reduceEqDiff,NG,NQ,reduceCtorEq,NB,place,NA,Nat.reduceAdd,Nat.reduceLeDiff,ND,Int.reduceEq,Int.reduceLT,Int.reduceLE]
 refine NS (fun i=>K.length-i) (fun i fr G=>i<=K.length/\fr 1=Vi item/\fr 5=.slice (Sa H.length) (Uq (K.take i) item).length K.length/\fr 11=.slice p K.length c/\fr 12=Vi K.length/\fr 13=Vi i/\
   (∃z,z.length=(K.length-(Uq (K.take i) item).length)*7/\NI G H.length=Vc ((Uq (K.take i) item).flatMap encE++z))/\Chg [] H G) 0
  ⟨Nw _,rfl,(by simp only [Q4,Uq,List.filter_nil,Ns,FB,Nat.reduceEqDiff]),rfl,rfl,by rfl,⟨(List.range (K.length*7)).map fun j=>[Value.int .i64 0,Vi 0,Vi 0,.int .u8 0,Vi 0,Vi 0,Vi 0].getD (j % 7) undef,by simp [Uq],by rw [NV,Q4];rfl⟩,Chg.refl.app⟩ ?_
 rintro i fr G ⟨hi,q,w,e,f,n,⟨z,I,B⟩,A⟩ J
 rw [NU N62.eq_1]
 refine NL ?_
 have S:=A.len
 have t:=NM B
 by_cases d:i<K.length
 ·have sK:=A.sl hs (fun a _ _ h=>(by cases h))
  have u:=fun X=>(sK.app X).loadCells NW d
  have l:=fun c (k:IntKind) (H1:NE)=>sK.idx (c:=c) (k:=k) (H1:=H1) d
  have v:IntKind.i64.wrap ((i:Int)+1)=((i+1:Nat):Int):=OE (by omega)
  have U:(Uq (K.take i) item).length<=i:=by
   unfold Uq
   refine Qh (Qz ..) ?_
   rw [Om];omega
  have g:Uq (K.take (i+1)) item=if (item == 0||(gt K i).item == item)=true then Uq (K.take i) item++[gt K i] else Uq (K.take i) item:=by
   unfold Uq
   rw [N4 d,List.filter_append,PS d]
   by_cases h:(item == 0||K[i].item == item)=true
   ·rw [Ni h];simp only [List.filter_cons,h,if_true,List.filter_nil]
   ·rw [Ng h];simp only [List.filter_cons,h,if_false,List.filter_nil,Nb,Nz]
  generalize W:gt K i=x at *
  generalize Uq (K.take i) item=O at *
  have m:lim<=G.length:=by omega
  have D:(item == 0||x.item == item)=true->∃G3,PQ lim none 7 56 false (.slice (Sa H.length) O.length K.length) (.slice (Sa (G.length+1)) 1 1) (G++[Vc (encE x),Vc (encE x)])=some (.slice (Sa H.length) (O.length+1) K.length,G3++[Vc (encE x),Vc (encE x)])/\
    NI G3 H.length=Vc ((Uq (K.take (i+1)) item).flatMap encE++z.drop 7)/\(Uq (K.take (i+1)) item).length=O.length+1/\Chg [] H G3:=fun h=>by
   rw [Ni h] at g
   obtain ⟨G3,e3,r,V⟩:=OP (G:=G) (R:=H.length) t (Vc ((O++[x]).flatMap encE++z.drop 7))
   have o:=Nau (lim:=lim) (R:=H.length) (bytes:=56) (cap:=K.length) (k:=1) (b:=G.length+1) (dest:=none) (H:=G++[Vc (encE x),Vc (encE x)]) (enc:=encE) (old:=O) (x:=x) (ro:=false) (rest:=z) NW (by decide)
    (by rw [OC];rfl) (by rw [NR t];exact B) hl (by omega) I (by omega) (by unfold QG;omega)
   rw [e3] at o
   exact ⟨G3,o,by rw [g];exact r,by rw [g];simp,A.mut V (.inr (Nd _))⟩
  by_cases y:item=0
  ·obtain ⟨G3,e3,r,C,s⟩:=D (by simp [y])
   simp only [n28,r28,q,w,e,f,n,NN,d,l,u,NW,PY,QD,QC,QB,QA,PZ,PW,NH,NF,v,m,N5 y,e3,SB,seval,NC,NJ,NG,NQ,reduceCtorEq,NB,place,NA,ND]
   exact J (i+1) _ _ ⟨by omega,q,(by simp only [C,ne_eq,FB,Nat.reduceEqDiff]),e,f,rfl,⟨z.drop 7,by rw [Pk,I,C];omega,by rw [NR (NM r)];exact r⟩,s.app⟩ (by omega)
  by_cases F:x.item=item
  ·obtain ⟨G3,e3,r,C,s⟩:=D (by simp [F])
   simp only [n28,r28,q,w,e,f,n,NN,d,l,u,NW,PY,QD,QC,QB,QA,PZ,PW,NH,NF,v,m,No y,N5 F,e3,SB,seval,NC,NJ,NG,NQ,reduceCtorEq,NB,place,NA,ND]
   exact J (i+1) _ _ ⟨by omega,q,(by simp only [C,ne_eq,FB,Nat.reduceEqDiff]),e,f,rfl,⟨z.drop 7,by rw [Pk,I,C];omega,by rw [NR (NM r)];exact r⟩,s.app⟩ (by omega)
  ·have P:¬(item == 0||x.item == item)=true:=by simp [y,F]
   rw [Ng P] at g
   simp only [n28,r28,q,w,e,f,n,NN,d,l,u,NW,PY,QD,QC,QB,QA,PZ,PW,NH,NF,v,m,No y,No F,SB,seval,NC,NJ,NG,NQ,reduceCtorEq,NB,place,NA,ND]
   exact J (i+1) _ _ ⟨by omega,q,(by simp only [w,g,FB,Nat.reduceEqDiff]),e,f,rfl,⟨z,by rw [g];exact I,by rw [NR t,g];exact B⟩,A.app⟩ (by omega)
 ·obtain rfl:i=K.length:=by omega
  rw [Oh] at w B
  simp only [n28,r28,q,w,e,f,n,NN,d,SB,seval,NC,NJ,NG,NQ,reduceCtorEq,NB,place,NA,ND]
  exact T G z B A
end Go.Proofs.YtkppjkkkdpcgiaaGreat.Fn


namespace Go.Scan
theorem Nhf (S:List Ev):OJ (S.map bare)=OJ S:=by
 have h1:UW (S.map bare)=UW S:=by unfold UW;rw [List.foldl_map];rfl
 have h2:RI (S.map bare)=RI S:=by unfold RI;rw [h1]
 have a:∀M,SK M (S.map bare)=SK M S:=fun M=>by unfold SK;rw [List.map_map];rfl
 unfold OJ
 rw [h2,a]
theorem Nem {S:List Ev}:Rt (S.map bare)↔Rt S:=by
 unfold Rt
 rw [Nv]
 exact and_congr Iff.rfl ⟨fun h s hs=>(h (bare s) (List.mem_map.2 ⟨s,hs,rfl⟩):Sz (bare s)),fun h s hs=>by
  obtain ⟨x,a,rfl⟩:=List.mem_map.1 hs
  exact h x a⟩
end Go.Scan
namespace Go.Proofs.YtkppjkkkdpcgiaaGreat.Fn
open Go.AM Go.AM.Sym Go.Scan
def effL (n:Nat) (L:List Ev):Value×List (List Value):=if L=[] then (.tuple #[Vz,Vi 0],[]) else (.tuple #[.slice (Sa n) L.length (loose 7),Vi 0],[L.flatMap encE])
def effR (a:Bool) (n:Nat) (S:List Ev):Value×List (List Value):=if Rt S then effL n (if a then (OJ S).1 else (OJ S).2) else (.tuple #[Vz,Vi 2],[])
theorem Nv0 {a:Bool} {n:Nat} {S S':List Ev} (h:S.map bare=S'.map bare):effR a n S=effR a n S':=by
 have h1:OJ S=OJ S':=by rw [<-Nhf S,<-Nhf S',h]
 have h2:Rt S↔Rt S':=by rw [<-Nem,<-Nem (S:=S'),h]
 unfold effR
 rw [h1]
 by_cases b:Rt S
 ·rw [Ni b,Ni (h2.1 b)]
 ·rw [Ng b,Ng fun h=>b (h2.2 h)]
theorem Nvx {x y:Ev} (h:R3 x=R3 y):bare x=bare y:=by
 obtain ⟨a,b,c,d,e,f,g⟩:=x
 obtain ⟨a',b',i,j,k,l,m⟩:=y
 simp only [R3,List.cons.injEq,Value.int.injEq,Rj,and_true] at h
 obtain ⟨rfl,rfl,rfl,rfl,rfl,rfl⟩:=h
 rfl
theorem Nh9:∀{S S':List Ev},S.length=S'.length->S.flatMap R3=S'.flatMap R3->S.map bare=S'.map bare
 | [],[],_,_=>rfl
 | [],_::_,h,_=>by cases h
 | _::_,[],h,_=>by cases h
 | x::S,y::S',h,e=>by
   rw [Oy,Oy] at e
   obtain ⟨e1,e2⟩:=List.append_inj e rfl
   rw [N2,N2,Nvx e1,Nh9 (by simpa using h) e2]
theorem N3i {H:NE} {p:Option Addr} {S S':List Ev} (hl:S.length=S'.length) (h:Sl H R3 6 p S) (h':Sl H R3 6 p S'):S.map bare=S'.map bare:=by
 cases p with
 | none=>
   have e1:S=[]:=h
   have e2:S'=[]:=h'
   rw [e1,e2]
 | some a=>
   by_cases h0:S=[]
   ·subst h0
    cases S' with
    | nil=>rfl
    | cons _ _=>cases hl
   have b:S'≠[]:=fun e=>h0 (List.length_eq_zero_iff.1 (by rw [hl,e];rfl))
   obtain ⟨ro,c,k1,_,k3⟩:=h.2 h0
   obtain ⟨g,i,d,_,f⟩:=h'.2 b
   rw [k1] at d;cases d
   exact Nh9 hl (k3.symm.trans (by rw [hl];exact f))
open Classical in
noncomputable def effO (g:FuncId) (as:List Value) (H:NE):Option (Value×List (List Value)):=
 if g=36\/g=27 then match as with
  | [.slice p n c]=>if h:∃S:List Ev,S.length=n/\n<2 ^ 63/\Sl H R3 6 p S then some (effR (decide (g=36)) H.length h.choose) else none
  | _=>none
 else none
theorem effO_no (g:FuncId) (as:List Value) (H:NE) (h1:g≠36) (h2:g≠27):effO g as H=none:=by
 unfold effO
 exact Ng (by rintro (h | h);exact h1 h;exact h2 h)
theorem N11 {g:FuncId} (a:g=36\/g=27) {p:Option Addr} {c:Nat} {S:List Ev} {H:NE} (hs:Sl H R3 6 p S) (hn:S.length<2 ^ 63):effO g [.slice p S.length c] H=some (effR (decide (g=36)) H.length S):=by
 have hex:∃S':List Ev,S'.length=S.length/\S.length<2 ^ 63/\Sl H R3 6 p S':=⟨S,rfl,hn,hs⟩
 unfold effO
 rw [Ni a]
 simp only
 rw [Rf hex]
 obtain ⟨k1,_,k3⟩:=hex.choose_spec
 rw [Nv0 (N3i k1 k3 hs)]
theorem effO_some {g:FuncId} {as:List Value} {H:NE} {r} (h:effO g as H=some r):(g=36\/g=27)/\∃p c S,as=[.slice p S.length c]/\S.length<2 ^ 63/\Sl H R3 6 p S/\r=effR (decide (g=36)) H.length S:=by
 unfold effO at h
 split at h
 case isFalse=>cases h
 rename_i a
 refine ⟨a, ?_⟩
 split at h
 ·rename_i p n c
  split at h
  ·rename_i hex
   obtain ⟨k1,k2,k3⟩:=hex.choose_spec
   simp only [Option.some.injEq] at h
   exact ⟨p,c,hex.choose,by rw [k1],by omega,k3,h.symm⟩
  ·cases h
 ·cases h
def EffOk [OB]:Prop:=∀g as H,OB.eff g as H=effO g as H
theorem Nqt [OB] (b:EffOk) {g:FuncId} (a:g=36\/g=27) {lim c:Nat} {p:Option Addr} {S:List Ev} {H:NE} {Q:Value->NE->Prop} (hs:Sl H R3 6 p S) (hn:S.length<2 ^ 63) :
  NK E false lim g [.slice p S.length c] H Q=Q (effR (decide (g=36)) H.length S).1 (H++news (effR (decide (g=36)) H.length S).2):=
 Nxp (by rcases a with rfl | rfl<;>simp [E,orc]) (by show OB.eff g _ H=_;rw [b];exact N11 a hs hn)
theorem effR_no {a:Bool} {n:Nat} {S:List Ev} (h:¬Rt S):effR a n S=(.tuple #[Vz,Vi 2],[]):=Ng h
theorem Nng {H:NE} (L:List Ev):∃p c,effL H.length L=(.tuple #[.slice p L.length c,Vi 0],(effL H.length L).2)/\Own H.length (H++news (effL H.length L).2) encE 7 p c L/\Chg [] H (H++news (effL H.length L).2):=by
 unfold effL
 by_cases h:L=[]
 ·rw [Ni h]
  exact ⟨none,0,by rw [h];rfl,.inl ⟨h,rfl,rfl⟩,Chg.refl.app⟩
 ·rw [Ng h]
  exact ⟨_,_,rfl,.inr ⟨H.length,rfl,rfl,NV,Nd _⟩,Chg.refl.app⟩
theorem N52 [OB] (a:EffOk) {lim c:Nat} {p:Option Addr} {S:List Ev} {H:NE} {Q:Value->NE->Prop} (hs:Sl H R3 6 p S) (hS:Rt S)
  (b:∀G kp kc,Own H.length G encE 7 kp kc (OJ S).1->Chg [] H G->Q (.tuple #[.slice kp (OJ S).1.length kc,Vi 0]) (G++[])) :
  NK E false lim 36 [.slice p S.length c] H Q:=by
 rw [Nqt a (.inl rfl) hs (by have:=hS.1;omega)]
 have e:effR (decide ((36:Nat)=36)) H.length S=effL H.length (OJ S).1:=Ni hS
 rw [e]
 obtain ⟨f,d,e1,e2,e3⟩:=Nng (H:=H) (OJ S).1
 rw [e1]
 have:=b _ _ _ e2 e3
 rwa [Nb] at this
theorem Nrl [OB] (a:EffOk) {lim c:Nat} {p:Option Addr} {S:List Ev} {H:NE} {Q:Value->NE->Prop} (hs:Sl H R3 6 p S) (hn:S.length<2 ^ 63) (hS:¬Rt S) :
  NK E false lim 36 [.slice p S.length c] H Q=Q (.tuple #[Vz,Vi 2]) H:=by
 rw [Nqt a (.inl rfl) hs hn,effR_no hS]
 simp [news]
theorem Nio [OB] (a:EffOk) {lim c:Nat} {p:Option Addr} {S:List Ev} {H:NE} {Q:Value->NE->Prop} (hs:Sl H R3 6 p S) (hS:Rt S)
  (b:∀G kp kc,Own H.length G encE 7 kp kc (OJ S).2->Chg [] H G->Q (.tuple #[.slice kp (OJ S).2.length kc,Vi 0]) (G++[])) :
  NK E false lim 27 [.slice p S.length c] H Q:=by
 rw [Nqt a (.inr rfl) hs (by have:=hS.1;omega)]
 have e:effR (decide ((27:Nat)=36)) H.length S=effL H.length (OJ S).2:=Ni hS
 rw [e]
 obtain ⟨f,d,e1,e2,e3⟩:=Nng (H:=H) (OJ S).2
 rw [e1]
 have:=b _ _ _ e2 e3
 rwa [Nb] at this
end Go.Proofs.YtkppjkkkdpcgiaaGreat.Fn


namespace Go.Proofs.YtkppjkkkdpcgiaaGreat.Fn
open Go.AM Go.AM.Sym Go.Net Go.Scan
def Ni1:List Value:=TH none 0 0 none 0 0 none 0 0 0 none 0 0
theorem Nde:Ni1=[Vz,Vz,Vz,Vi 0,Vz]:=rfl
theorem Nu2 {P:List Int} {L:List Leg} {S:List Ev} {item now:Int} (h:R7 P L=0) (hS:Rt S) (h1:1<=item) (h2:item<=999999) (c:0<=now) (d:now<=NY) (b:Uq (OJ S).1 item≠[]) :
  UA P L S item now=WS P L (Uq (OJ S).1 item):=by
 have a:¬(¬Rt S\/item<1\/999999<item\/now<0\/NY<now):=by
  rintro (h | h | h | h | h)
  ·exact h hS
  all_goals omega
 unfold UA
 rw [Ng (by simpa using h),Ng a,Ng b]
theorem Ngg {α:Type} {H:NE} {enc:α->List Value} {e R:Nat} {l:List α} {z:List Value} (he:∀x,(enc x).length=e) {ro:Bool} (h:NI H R=.cells ro (l.flatMap enc++z)):Sl H enc e (Sa R) l:=
 ⟨rfl,fun _=>⟨ro,_,h,by rw [Nn,QT he];simp,by rw [O0,<-QT he,List.take_left]⟩⟩
theorem Nkf [OB] (hE:EffOk) {lim c cp cL:Nat} {p pp pL:Option Addr} {P:List Int} {L:List Leg} {S:List Ev} {item now:Int} {H:NE} {Q:Value->NE->Prop} (hN:NetIn H pp pL P L) (hs:Sl H R3 6 p S) (hn:S.length<2 ^ 63) (hl:lim<=H.length)
  (d:∀G,UA P L S item now≠0->Chg [] H G->Q (.tuple #[.agg Ni1.toArray,Vi (UA P L S item now)]) G)
  (ae:∀G pe ce q cq r cr pl cl (es tw:List Ev) (ks:List Int) (ss:List Stp),es=Uq (OJ S).1 item->tw=Uq (OJ S).2 item->ks=R6 P L es->ss=QX P L es ks->UA P L S item now=0->Chg [] H G->Wo H.length G encE 7 pe es->Uj 7 ce es.length->Wo H.length G encI 1 q ks->Wo H.length G enc3 3 r ss->Wo H.length G Tp 5 pl (SG P L es tw ks ss now)->
   Q (.tuple #[.agg (TH pe es.length ce q ks.length cq r ss.length cr (Te P L es ks) pl (SG P L es tw ks ss now).length cl).toArray,Vi 0]) G) :
  NK E false lim 17 [.agg (Tv pp P.length cp pL L.length cL).toArray,.slice p S.length c,Vi item,Vi now] H Q:=by
 refine RG (by decide) e17 rfl ?_
 rw [b17,c17]
 have hv:=fun X (mp:Bool) (lim:Nat) (Q:Value->NE->Prop)=>Ndx (mp:=mp) (lim:=lim) (cp:=cp) (cl:=cL) (Q:=Q) (hN.app X)
 rw [Nde] at d
 by_cases h0:R7 P L=0
 case neg=>
  rw [Nu1 h0] at d
  simp only [n17,r17,PT,NH,hv,No h0,NF,hl,SB,seval,NC,NJ,NG,NQ,reduceCtorEq,NB,place,NA,ND]
  exact d _ h0 Chg.refl.app
 simp only [n17,r17,PT,NH,hv,N5 h0,NF,hl,SB,seval,NC,NJ,NG,NQ,reduceCtorEq,NB,place,NA,ND]
 by_cases hS:Rt S
 case neg=>
  rw [Nhs h0 (.inl hS)] at d
  rw [Nrl hE (hs.app _) hn hS]
  simp only [n17,r17,NF,hl,SB,seval,NC,NJ,NG,NQ,reduceCtorEq,NB,place,NA,ND]
  exact d _ (by decide) Chg.refl.app
 refine N52 hE (hs.app _) hS fun G1 kp kc hO m=>?_
 have aw:=m.len
 simp at aw
 have bg:lim<=G1.length:=by omega
 have t:=fun h=>Nhs (P:=P) (L:=L) (S:=S) (item:=item) (now:=now) h0 (.inr h)
 have k8:=m.cells (OC (X:=[Vc (Tv pp P.length cp pL L.length cL),Vc [Vz,Vz,Vz,Vi 0,Vz]]) (j:=1)) (by simp)
 have x8:=fun X=>(OH.refl.app (X:=X)).cells k8
 obtain ⟨G8,e8,h8,m8⟩:=OP (NM k8) (Vc [Vz,Vz,Vz,Vi 0,Vz])
 have y8:=fun X=>(OH.refl.app (X:=X)).cells h8
 have B:Chg [] H G8:=m.pre.mut m8 (.inr (by omega))
 have i:lim<=H.length+1:=by omega
 refine NL ?_
 unfold NY at t
 by_cases U:item<1
 ·rw [t (.inl U)] at d
  simp only [n17,r17,x8,e8,y8,i,NF,gt_iff_lt,N5 U,SB,seval,NC,NJ,NG,NQ,reduceCtorEq,NB,place,NA,ND]
  exact d _ (by decide) B.app
 by_cases W:999999<item
 ·rw [t (.inr (.inl W))] at d
  simp only [n17,r17,x8,e8,y8,i,NF,gt_iff_lt,No U,N5 W,SB,seval,NC,NJ,NG,NQ,reduceCtorEq,NB,place,NA,ND]
  exact d _ (by decide) B.app
 by_cases c3:now<0
 ·rw [t (.inr (.inr (.inl c3)))] at d
  simp only [n17,r17,x8,e8,y8,i,NF,gt_iff_lt,No U,No W,N5 c3,SB,seval,NC,NJ,NG,NQ,reduceCtorEq,NB,place,NA,ND]
  exact d _ (by decide) B.app
 by_cases c4:1051898399<now
 ·rw [t (.inr (.inr (.inr c4)))] at d
  simp only [n17,r17,x8,e8,y8,i,NF,gt_iff_lt,No U,No W,No c3,N5 c4,SB,seval,NC,NJ,NG,NQ,reduceCtorEq,NB,place,NA,ND]
  exact d _ (by decide) B.app
 simp only [n17,r17,x8,e8,y8,i,NF,gt_iff_lt,No U,No W,No c3,No c4,SB,seval,NC,NJ,NG,NQ,reduceCtorEq,NB,place,NA,ND]
 have bz:=MJ S
 have bp:=hS.1
 have az:=Nr1 (S:=S) (item:=item)
 have F:=Nhr (P:=P) (L:=L) (S:=S) (item:=item) (now:=now) h0 hS (by omega) (by omega) (by omega) (by unfold NY;omega)
 refine Npg (lim:=lim) ((hO.sl NW).app _) (by omega) (by simp;omega) fun G2 z hz v=>?_
 have hle:=Nu2 (P:=P) (L:=L) (S:=S) (item:=item) (now:=now) h0 hS (by omega) (by omega) (by omega) (by unfold NY;omega)
 have ai:UJ (Uq (OJ S).1 item):=fun e he=>⟨(Nes hS (by omega) he).2.1,(Nes hS (by omega) he).2.2.1⟩
 obtain ⟨es,M⟩:∃es,es=Uq (OJ S).1 item:=⟨_,rfl⟩
 have bu:es.length<=(OJ S).1.length:=by rw [M];exact (Zj _ _).length_le
 rw [<-M] at hz F az hle ai⊢
 rw [Nb] at hz v⊢
 have sE:Sl G2 encE 7 (Sa G1.length) es:=Ngg NW hz
 have u:=v.cells k8 (by simp)
 have k:=m.pre.trans v
 have bx:=v.len
 have am:=fun X=>(OH.refl.app (X:=X)).cells u
 obtain ⟨G9,e9,h9,m9⟩:=OP (NM u) (Vc [Vz,Vz,Vz,Vi 0,Vz])
 have y9:=fun X=>(OH.refl.app (X:=X)).cells h9
 have aq:Chg [] H G9:=k.mut m9 (.inr (by omega))
 refine NL ?_
 by_cases Y:es=[]
 ·rw [Ni Y] at F
  rw [F] at d
  subst Y
  simp only [n17,r17,am,e9,y9,i,NF,Ns,show lim<=G2.length by omega,SB,seval,NC,NJ,NG,NQ,reduceCtorEq,NB,place,NA,ND]
  exact d _ (by decide) aq.app
 have bs:0<es.length:=List.length_pos_iff.2 Y
 have ay:¬((es.length:Nat):Int)=0:=by omega
 rw [Ng Y] at F
 have k4:=m.cells (NV (X:=[Vc (Tv pp P.length cp pL L.length cL),Vc [Vz,Vz,Vz,Vi 0,Vz]])) (by simp)
 have T:=v.cells k4 (by simp)
 have be:=fun X=>(OH.refl.app (X:=X)).cells T
 simp only [n17,r17,am,be,PT,NH,i,NF,No ay,show lim<=G2.length by omega,SB,seval,NC,NJ,NG,NQ,reduceCtorEq,NB,place,NA,ND]
 replace hle:=hle Y
 rw [hle] at d ae
 have ad:=hN.sim fun b ro x hb=>k.cells hb (by simp)
 refine N54 (lim:=lim) (ad.app _) (by simp;omega) (sE.app _) (by omega) (fun G3 s f=>?_) (fun G3 q cq r cr s f hq hr=>?_)
 ·have z8:=f.pre.cells u (by simp)
  have b0:=fun X=>(OH.refl.app (X:=X)).cells z8
  have w:=f.cells NV (by simp)
  have y:=fun X=>(OH.refl.app (X:=X)).cells w
  obtain ⟨Ga,ea,o,J⟩:=OP (NM w) (Vc [.slice (Sa G1.length) es.length (OJ S).1.length,Vz,Vz,Vi 0,Vz])
  have an:=J.cells z8 (by have:=NM u;omega)
  have ao:=fun X=>(OH.refl.app (X:=X)).cells an
  obtain ⟨Gb,eb,hb,mb⟩:=OP (NM an) (Vc [Vz,Vz,Vz,Vi 0,Vz])
  have zb:=fun X=>(OH.refl.app (X:=X)).cells hb
  refine NL ?_
  simp only [n17,r17,y,ea,ao,eb,zb,i,NF,No s,show lim<=G2.length by omega,SB,seval,NC,NJ,NG,NQ,reduceCtorEq,NB,place,NA,ND]
  exact d _ s ((k.trans f.pre).mut J (.inr (by have:=k.len;omega)) |>.mut mb (.inr (by omega))).app
 obtain ⟨ks,N⟩:∃ks,ks=R6 P L es:=⟨_,rfl⟩
 obtain ⟨ss,I⟩:∃ss,ss=QX P L es ks:=⟨_,rfl⟩
 rw [<-N] at hq hr⊢
 rw [<-I] at hr⊢
 have z8:=f.pre.cells u (by simp)
 have z4:=f.pre.cells T (by simp)
 have w:=f.cells NV (by simp)
 have y:=fun X=>(OH.refl.app (X:=X)).cells w
 obtain ⟨Ga,ea,o,J⟩:=OP (NM w) (Vc [.slice (Sa G1.length) es.length (OJ S).1.length,.slice q ks.length cq,.slice r ss.length cr,Vi (Te P L es ks),Vz])
 have ax:=f.len
 simp at ax
 have bo:H.length+2<=G2.length:=by have:=m.len;simp at this;omega
 have K:Chg [] H Ga:=(k.trans f.pre).mut J (.inr (by have:=k.len;omega))
 have t:=K.len
 have a8:=J.cells z8 (by have:=NM u;omega)
 have a4:=J.cells z4 (by have:=NM T;omega)
 have a0:=hq.mut J (by simp)
 have a2:=hr.mut J (by simp)
 have bn:=NM hz
 have a7:=(Chg.refl.mut (A:=[G2.length]) J (.inl (by simp))).sl (f.pre.sl sE (fun a _ _ h=>(by cases h))) (fun a o _=>by cases o;simp;omega)
 refine NL ?_
 simp only [n17,r17,y,ea,i,NF,show lim<=G2.length by omega,SB,seval,NC,NJ,NG,NQ,reduceCtorEq,NB,place,NA,ND]
 refine Nio hE ((K.sl hs (fun a _ _ h=>(by cases h))).app _) hS fun G4 tp tc hT l=>?_
 have b8:=l.pre.cells a8 (by simp)
 have b4:=l.pre.cells a4 (by simp)
 have b13:=l.pre.cells o (by simp)
 have bc:=fun X=>(OH.refl.app (X:=X)).cells b8
 have bb:=fun X=>(OH.refl.app (X:=X)).cells b4
 have al:=fun X=>(OH.refl.app (X:=X)).cells b13
 have r13:TM (Vc [.slice (Sa G1.length) es.length (OJ S).1.length,.slice q ks.length cq,.slice r ss.length cr,Vi (Te P L es ks),Vz])=true:=by simp [TM]
 have r4:TM (Vc (Tv pp P.length cp pL L.length cL))=true:=by simp [TM,Tv]
 refine NL ?_
 simp only [n17,r17,bc,bb,al,r13,r4,PT,NH,SB,seval,NC,NJ,NG,NQ,reduceCtorEq,NB,place,NA,ND]
 have aj:UJ (Uq (OJ S).2 item):=fun e he=>by
  have hm:=((VH (show item≠0 by omega)).1 he).1
  have ht:=Na8 hS.2 (.inr hm)
  obtain ⟨s0,a5,e0⟩:=Yw (.inr hm)
  have h6:=(hS.2 s0 a5).2.2.2.2.2.2
  have e6:e.seen=s0.seen:=by rw [<-e0]
  unfold VI at h6
  unfold NY
  omega
 refine Npg (lim:=lim) ((hT.sl NW).app _) (by omega) (by simp;have:=l.pre.len;omega) fun G5 z' R g=>?_
 obtain ⟨tw,htw⟩:∃tw,tw=Uq (OJ S).2 item:=⟨_,rfl⟩
 have bv:tw.length<=(OJ S).2.length:=by rw [htw];exact (Zj _ _).length_le
 rw [<-htw] at R aj⊢
 rw [Nb] at R g⊢
 refine ⟨Nla fun j hj=>?_, ?_⟩
 ·have ap:OD (List.length G4) [] G4=G4:=rfl
  rw [ap] at hj⊢
  obtain ⟨ro,x,hx⟩:=UD hj
  rw [Nb,g.other j (NM hx) (by simp)]
 have c8:=g.cells b8 (by simp)
 have bk:=g.cells b4 (by simp)
 have c13:=g.cells b13 (by simp)
 have l4:=l.pre.len
 have l5:=g.len
 have ac:Chg [] H G5:=(K.trans l.pre).trans g
 have ag:=(a0.chg (A:=[]) l.pre (by simp)).chg (A:=[]) g (by simp)
 have ah:=(a2.chg (A:=[]) l.pre (by simp)).chg (A:=[]) g (by simp)
 have ak:=g.sl (l.pre.sl a7 (fun a _ _ h=>(by cases h))) (fun a _ _ h=>(by cases h))
 have ba:Sl G5 encE 7 (Sa G4.length) tw:=Ngg NW R
 have D:=Xx (P:=P) (L:=L) (es:=es)
 rw [<-N] at D
 have O:=Nd4 (P:=P) (L:=L) D
 rw [<-I] at O
 have bw:ks.length<=es.length:=Zy D.2
 have bh:ss.length<=ks.length:=by rw [I];unfold QX;rw [Nv,Pr];omega
 refine NL ?_
 simp only [n17,r17,SB,seval,NC,NJ,NG,NQ,reduceCtorEq,NB,place,NA,ND]
 have au:=hN.sim fun b ro x hb=>ac.cells hb (by simp)
 refine Nu3 (lim:=lim) (ct:=(OJ S).2.length) (c:=Te P L es ks) (ak.app _) (.inr ⟨by omega,by omega⟩) (ba.app _) (au.app _) (ag.1.app _) (ah.1.app _) (by simp;omega) (by omega) (by omega) ai aj O.1 O.2 D.mem (by omega) (by omega) ⟨by omega,by unfold NY;omega⟩ fun G6 pl cl n C=>?_
 have d8:=n.pre.cells c8 (by simp)
 have Z:=n.pre.cells c13 (by simp)
 have aa:=fun X=>(OH.refl.app (X:=X)).cells Z
 have bm:=fun X=>(OH.refl.app (X:=X)).cells d8
 obtain ⟨Ge,ee,he,V⟩:=OP (NM Z) (Vc (TH (Sa G1.length) es.length (OJ S).1.length q ks.length cq r ss.length cr (Te P L es ks) pl (SG P L es tw ks ss now).length cl))
 have ab:=V.cells d8 (by omega)
 have xe:=fun X=>(OH.refl.app (X:=X)).cells he
 have bd:=fun X=>(OH.refl.app (X:=X)).cells ab
 obtain ⟨Gf,ef,hf,mf⟩:=OP (NM ab) (Vc (TH (Sa G1.length) es.length (OJ S).1.length q ks.length cq r ss.length cr (Te P L es ks) pl (SG P L es tw ks ss now).length cl))
 have xf:=fun X=>(OH.refl.app (X:=X)).cells hf
 simp only [TH] at ee xe ef xf
 refine NL ?_
 simp only [n17,r17,aa,ee,xe,bd,ef,xf,i,NF,show lim<=G2.length by omega,SB,seval,NC,NJ,NG,NQ,reduceCtorEq,NB,place,NA,ND]
 have l6:=n.pre.len
 have ar:H.length<=G1.length:=by have:=m.pre.len;omega
 have a9:=(((Chg.refl.mut (A:=[G2.length,H.length+1]) V (.inl (by simp))).mut mf (.inl (by simp))).sl (n.pre.sl ak (fun a _ _ h=>(by cases h))) (fun a o _=>by cases o;simp;omega)).app []
 have a1:=((((ag.chg (A:=[]) n.pre (by simp)).mut V (by simp)).mut mf (by simp;omega)).le (n':=H.length) (by simp;omega)).app []
 have a3:=((((ah.chg (A:=[]) n.pre (by simp)).mut V (by simp)).mut mf (by simp;omega)).le (n':=H.length) (by simp;omega)).app []
 have bf:=NM c13
 have bq:=NM c8
 have av:=((C.mut V (fun a o=>by have:=(C.block o).1;simp at this;omega)).mut mf (fun a o=>by have:=(C.block o).1;simp at this;omega)).app []
 refine ae _ _ _ q cq r cr pl cl es tw ks ss M htw N I (s) (((ac.trans n.pre).mut V (.inr (by omega))).mut mf (.inr (by omega))).app ⟨a9,fun a o=>by cases o;exact ar⟩ (.inr ⟨by omega,by omega⟩) a1 a3 ⟨av.sl QI,fun a o=>by have:=(C.block o).1;simp at this;omega⟩
def Na0 (L:List Leg):Prop:=(∀l∈L,l.dst=l.frm+1)/\∀a∈L,∀b∈L,a.frm=b.frm->a=b
section
variable {L:List Leg} (hL:Na0 L)
include hL
theorem Na0.len:∀{w:List (Leg×Int)} {p t q u:Int},Sb L p t w q u->q=p+w.length
 | [],p,t,q,u,h=>by obtain ⟨rfl,_⟩:=h;simp
 | (l,a)::w,p,t,q,u,h=>by
   obtain ⟨h1,h2,c,d,b⟩:=h
   have e:=hL.1 l h1
   have:=Na0.len b
   simp only [Nl]
   omega
theorem Na0.first:∀{w w':List (Leg×Int)} {p t b q u c:Int},Sb L p t w q u->ZQ t w->Sb L p b w' q c->t<=b->u<=c/\w.map (·.1)=w'.map (·.1)
 | [],w',p,t,b,q,u,c,h,_,h',ht=>by
   have e:=hL.len h'
   obtain ⟨rfl,rfl⟩:=h
   have:w'=[]:=List.length_eq_zero_iff.1 (by omega)
   subst this
   obtain ⟨_,rfl⟩:=h'
   exact ⟨ht,rfl⟩
 | (l,a)::w,[],p,t,b,q,u,c,h,_,h',ht=>by
   have e:=hL.len h
   obtain ⟨rfl,_⟩:=h'
   simp only [Nl] at e
   omega
 | (l,a)::w,(l',a')::w',p,t,b,q,u,c,h,hn,h',ht=>by
   obtain ⟨h1,h2,o,r,i⟩:=h
   obtain ⟨d,m,f,n,g⟩:=h'
   obtain ⟨j,k⟩:=hn
   obtain rfl:l=l':=hL.2 l h1 l' d (by omega)
   have:=(Sk j).2.2 a' f (by omega)
   obtain ⟨k1,k2⟩:=Na0.first i k g (by omega)
   exact ⟨k1,by rw [N2,N2,k2]⟩
theorem Na0.best {w:List (Leg×Int)} {p t q u:Int} (h:Sb L p t w q u) (hn:ZQ t w) (g:u<=t+86400):Ub L p t q u/\BestW L p t q u w:=by
 have key:∀j v',Go.Net.Way L j p t q v'->u<=v'/\w.length=j:=fun j v' d=>by
  obtain ⟨w',e,b⟩:=d.isWay
  have k:=hL.first h hn b (Oo _)
  have:=Qo List.length k.2
  rw [Nv,Nv] at this
  exact ⟨k.1,by omega⟩
 refine ⟨.inr ⟨⟨⟨_,h.way⟩,g⟩,fun v ⟨⟨j,d⟩,_⟩=>(key j v d).1⟩,h,fun j v' d _=>by have:=(key j v' d).2;omega,fun w' v' b _ _ c=>?_,hn⟩
 have k:=hL.first h hn b (Oo _)
 have e:Z7 w'=Z7 w:=by
  unfold Z7
  have:=Qo (List.map fun l:Leg=>l.id) k.2
  rw [List.map_map,List.map_map] at this
  exact this.symm
 rw [e] at c
 exact f _ c
where
 f:∀x:List Int,¬Nmi x x
 | [],h=>by cases h
 | a::x,h=>by rcases h with h | ⟨_,h⟩;omega;exact f x h
theorem Na0.way {P:List Int} {w:List (Leg×Int)} {p t q u:Int} (h:Sb L p t w q u) (hn:ZQ t w) (a:u<=t+86400) (h0:0<=u) (he:Vw P L p q t=0):ZV P L p q t=w:=
 Ndv ⟨he,u,h0,(hL.best h hn a).1,(hL.best h hn a).2⟩
theorem Na0.arr {P:List Int} {w:List (Leg×Int)} {p t q u:Int} (h:Sb L p t w q u) (hn:ZQ t w) (a:u<=t+86400) (he:Vw P L p q t=0):Nf8 P L p t q=u:=by
 obtain ⟨c,hp,b,ht,_⟩:=Mv he
 exact SN.uniq (Ndr (VR c) hp b ht) (hL.best h hn a).1
end
theorem N3v {P:List Int} {L:List Leg} {a b:Ev} {v:Int} (c:a.kind≠4) (e:b.place∈P) (he:Vw P L a.place a.place a.time=0) (f:Nf8 P L a.place a.time b.place=v) (h0:0<=v) (d:v<=b.time):Rv P L a b=0:=by
 unfold Rv
 rw [Ng c]
 by_cases hp:a.place=b.place
 ·rw [Ni hp]
 rw [Ng hp,Ng (by simpa using e),Ng (by simpa using he),f,Ng (by omega)]
 omega
section
variable {P:List Int} {L:List Leg} {es:List Ev}
theorem Nj5 {ks:List Int} (h:YY es.length ks):0<=Te P L es ks:=by
 have h1:=Zy h.2
 have h2:=ZY (P:=P) (L:=L) (es:=es) (ks:=ks) (ks.length-1)
 unfold Te QX
 omega
def N2m (P:List Int) (L:List Leg) (es:List Ev):Int:=Te P L es (R6 P L es)
theorem Nkb:0<=N2m P L es:=Nj5 Xx
def Nnw (n:Nat):List Int:=(List.range n).map Int.ofNat
theorem Vy {n:Nat}:(Nnw n).length=n:=by simp [Nnw]
theorem Naw {n i:Nat} (h:i<n):gt (Nnw n) i=(i:Int):=by rw [PS (by simpa [Nnw] using h)];simp [Nnw]
theorem N5t {n:Nat}:YY n (Nnw n):=⟨fun h=>by rwa [Vy] at h,fun i hi=>by
 rw [Vy] at hi
 unfold Ncz
 rw [Naw hi]
 refine ⟨by omega,by omega,fun h=>?_⟩
 rw [Naw (by omega)]
 omega⟩
theorem Nhd:∀(l:List (Int×Int×Int)),(∀x∈l,x.2.2=0)->UM l=0
 | [],_=>rfl
 | x::l,h=>by rw [UM,h x (by simp),Nhd l fun y a=>h y (by simp [a])];rfl
theorem N2s (h:∀i,i+1<es.length->Rv P L (gt es i) (gt es (i+1))=0):Te P L es (Nnw es.length)=0:=by
 unfold Te
 rw [Vy,Nhd]
 ·omega
 ·intro x a
  unfold QX at a
  obtain ⟨i,hi,rfl⟩:=List.mem_map.1 a
  have hi:=List.mem_range.1 hi
  rw [Vy] at hi
  unfold U7
  rw [Naw (by omega),Naw (by omega)]
  exact h i (by omega)
theorem Nwe (h:∀i,i+1<es.length->Rv P L (gt es i) (gt es (i+1))=0):N2m P L es=0/\(R6 P L es).length=es.length:=by
 have h0:=N2s h
 have h1:=Nkb (P:=P) (L:=L) (es:=es)
 have h2:=Zy (Xx (P:=P) (L:=L) (es:=es)).2
 rcases N2l (P:=P) (L:=L) (N5t (n:=es.length)) with a | ⟨a,hc | ⟨hc,_⟩⟩
 ·rw [h0] at a;exact absurd a (by unfold N2m at h1;omega)
 ·rw [Vy] at hc;rw [h0] at a;exact ⟨a,by omega⟩
 ·rw [Vy] at hc;rw [h0] at a;exact ⟨a,by omega⟩
end
theorem Nq8 {P:List Int} {L:List Leg} {es:List Ev} (h:∀i,i+1<es.length->Rv P L (gt es i) (gt es (i+1))=0):R6 P L es=Nnw es.length/\Te P L es (R6 P L es)=0:=by
 obtain ⟨h1,h2⟩:=Nwe h
 have hk:=Xx (P:=P) (L:=L) (es:=es)
 refine ⟨?_,h1⟩
 refine Pn (by rw [Vy,h2]) fun i hi a=>?_
 rw [<-PS hi,<-PS a,Naw (by rw [Vy] at a;exact a)]
 have mono:∀d i,i+d<(R6 P L es).length->gt (R6 P L es) i+d<=gt (R6 P L es) (i+d):=fun d=>by
  induction d with
  | zero=>intro i _;simp
  | succ d ih=>
    intro i hd
    have k1:=ih i (by omega)
    have k2:gt (R6 P L es) (i+(d+1)-1)<gt (R6 P L es) (i+(d+1)):=(hk.2 (i+(d+1)) hd).2.2 (by omega)
    rw [show i+(d+1)-1=i+d by omega] at k2
    omega
 have b:=Nrc hk.2 i hi
 have c:=mono (es.length-1-i) i (by omega)
 have e:=(hk.2 (i+(es.length-1-i)) (by omega)).2.1
 omega
def k1L:Leg:=⟨1,1,2,600,60,0,1000,127⟩
def k2L:Leg:=⟨2,2,3,700,100,0,1000,127⟩
def PX:List Int:=[1,2,3]
def LX:List Leg:=[k1L,k2L]
theorem N2c:Na0 LX:=⟨by decide,by decide⟩
theorem nk1:Sm k1L 500=some 600:=nx 0 rfl (by decide) (by decide) (by decide) (by decide) (by decide)
theorem nk2:Sm k2L 660=some 700:=nx 0 rfl (by decide) (by decide) (by decide) (by decide) (by decide)
theorem N98:Sb LX 1 500 [(k1L,600),(k2L,700)] 3 800:=by
 obtain ⟨a,_⟩:=Sk nk1
 obtain ⟨b,_⟩:=Sk nk2
 exact ⟨by simp [LX],rfl,a,by decide,by simp [LX],rfl,b,by decide,rfl,by decide⟩
theorem Nzn:ZQ 500 [(k1L,600),(k2L,700)]:=⟨nk1,nk2,trivial⟩
theorem Of3:Nf8 PX LX 1 500 3=800:=N2c.arr N98 Nzn (by decide) (by decide)
theorem wX:ZV PX LX 1 3 500=[(k1L,600),(k2L,700)]:=N2c.way N98 Nzn (by decide) (by decide) (by decide)
def Nb9 (p t k:Int):Ev:=⟨7,p,p,k,t,t,0⟩
def evX (p t k:Int):Ev:=⟨7,p,p,k,t,t,t⟩
def SA:List Ev:=[Nb9 1 500 2,Nb9 3 800 2]
def SBx:List Ev:=[Nb9 1 500 2,Nb9 3 800 2,Nb9 1 501 2]
def SDx:List Ev:=[Nb9 1 500 2,Nb9 1 505 4,Nb9 1 600 2]
def EA:List Ev:=[evX 1 500 2,evX 3 800 2]
def ED:List Ev:=[evX 1 500 2,evX 1 505 4,evX 1 600 2]
theorem N6a:Uq (OJ SA).1 7=EA:=by decide
theorem Oay:Uq (OJ SBx).1 7=EA:=by decide
theorem Oax:Uq (OJ SDx).1 7=ED:=by decide
theorem N69:Uq (OJ SA).2 7=[]:=by decide
theorem Obm:Uq (OJ SBx).2 7=[evX 1 501 2]:=by decide
theorem Obl:Uq (OJ SDx).2 7=[]:=by decide
theorem prX:Rv PX LX (evX 1 500 2) (evX 3 800 2)=0:=N3v (v:=800) (by decide) (by decide) (by decide) Of3 (by decide) (by decide)
theorem Nq9:R6 PX LX EA=[0,1]/\Te PX LX EA [0,1]=0:=by
 obtain ⟨h1,h2⟩:=Nq8 (P:=PX) (L:=LX) (es:=EA) fun i hi=>by
  have:i=0:=by simp [EA] at hi;omega
  subst this;exact prX
 have e:R6 PX LX EA=[0,1]:=h1.trans rfl
 exact ⟨e,by rw [<-e];exact h2⟩
theorem Niw:QX PX LX EA [0,1]=[(0,1,0)]:=by
 show [((0:Int),(1:Int),Rv PX LX (evX 1 500 2) (evX 3 800 2))]=_
 rw [prX]
theorem N9s:R6 PX LX ED=[0,1]:=by decide
theorem N3g:QX PX LX ED [0,1]=[(0,1,0)]:=by decide
def TR:An:=⟨5,1,0,2,0⟩
def Nwu:An:=⟨6,0,0,1,1⟩
def Nax:An:=⟨7,1,0,3,28000⟩
def Ngd:An:=⟨1,2,0,1,0⟩
theorem N9w (tw:List Ev):SG PX LX EA tw [0,1] [(0,1,0)] 900=PO EA tw 0++(TR::PO EA tw 1)/\SG PX LX EA tw [0,1] [(0,1,0)] 28800=PO EA tw 0++(TR::PO EA tw 1)++[Nax]:=by
 have e0:atN PX LX EA tw [0,1] [(0,1,0)] 0=PO EA tw 0:=rfl
 have e2:Sy PX LX EA (0,1,0)=[TR]:=by
  have:Sy PX LX EA (0,1,0)=TF PX LX EA (0,1,0):=rfl
  rw [this]
  have:TF PX LX EA (0,1,0)=(ZV PX LX 1 3 500).dropLast.map (Xl (0,1,0)):=rfl
  rw [this,wX];rfl
 have e1:atN PX LX EA tw [0,1] [(0,1,0)] 1=Sy PX LX EA (0,1,0)++PO EA tw 1:=rfl
 rw [e2] at e1
 have e3:∀now,SG PX LX EA tw [0,1] [(0,1,0)] now=atN PX LX EA tw [0,1] [(0,1,0)] 0++(atN PX LX EA tw [0,1] [(0,1,0)] 1++[])++SS EA [0,1] now:=fun now=>rfl
 constructor
 ·rw [e3,e0,e1,show SS EA [0,1] 900=[] from by decide];simp
 ·rw [e3,e0,e1,show SS EA [0,1] 28800=[Nax] from by decide];simp
theorem N8c:SG PX LX EA [] [0,1] [(0,1,0)] 900=[TR]:=(N9w []).1
theorem N8b:SG PX LX EA [evX 1 501 2] [0,1] [(0,1,0)] 900=[Nwu,TR]:=(N9w _).1.trans (by decide)
theorem N8a:SG PX LX EA [] [0,1] [(0,1,0)] 28800=[TR,Nax]:=(N9w []).2
theorem N79:SG PX LX ED [] [0,1] [(0,1,0)] 900=[Ngd]:=rfl
theorem Nhi [OB] {mp:Bool} {lim:Nat} {p t k:Int} {H:NE} {Q:Value->NE->Prop}:NK E mp lim 31 [Vi p,Vi t,.int .u8 k] H Q=Q (.agg #[Vi 7,Vi p,Vi p,.int .u8 k,Vi t,Vi t]) H:=by
 refine pc (by decide) e31 rfl rfl ?_
 rw [b31,c31]
 simp only [n31,r31,NF,SB,seval,NC,NJ,NG,NQ,reduceCtorEq,NB,place,NA,ND]
theorem UG [OB] {lim:Nat} {H:NE} {Q:Value->NE->Prop} (hl:lim<=H.length) (c:∀G a b,OH H G->NetIn G a b PX LX->Q (.agg (Tv a 3 3 b 2 2).toArray) G):NK E false lim 39 [] H Q:=by
 refine RG (by decide) e39 rfl ?_
 rw [b39,c39]
 simp only [n39,r39,NF,hl,SB,seval,NC,NJ,NG,NQ,reduceCtorEq,NB,place,NA,ND]
 refine c _ (Sa (H.length+1)) (Sa (H.length+2)) OH.refl.app ⟨Sl.row (ro:=false) Sn (by rw [OC];rfl),Sl.row (ro:=false) OI (by rw [OC];rfl),by decide,by decide, ?_⟩
 intro l hl
 simp only [LX,Nr,Oe,or_false] at hl
 rcases hl with rfl | rfl<;>(unfold By;decide)
theorem Of5 (x y:An):aEq (.agg [.int .u8,.int .i64,.int .i64,.int .i64,.int .i64]) (.agg (Tp x).toArray) (.agg (Tp y).toArray)=some (decide (x=y)):=by
 obtain ⟨a,b,c,d,e⟩:=x
 obtain ⟨a',b',f,g,h⟩:=y
 simp only [aEq,Tp,PL,TQ,An.mk.injEq]
 simp
 rfl
theorem Ndo [OB] {mp:Bool} {lim ca n:Nat} {p q:Option Addr} {a b:List An} {H:NE} {Q:Value->NE->Prop} (o:Sl H Tp 5 p a) (r:Sl H Tp 5 q b) (hn:a.length<2 ^ 62) :
  NK E mp lim 30 [.slice p a.length ca,.slice q b.length n] H Q=Q (.bool (decide (a=b))) H:=by
 refine pc (by decide) e30 rfl rfl ?_
 rw [b30,c30]
 by_cases hl:a.length=b.length
 case neg=>
  have h1:¬(a.length:Int)=(b.length:Int):=by omega
  simp only [n30,r30,No h1,SB,seval,NC,NJ,NG,NQ,reduceCtorEq,NB,place,NA,ND]
  congr 1
  rw [eq_comm,decide_eq_false_iff_not]
  rintro rfl
  exact hl rfl
 have h1:(a.length:Int)=(b.length:Int):=by omega
 simp only [n30,r30,N5 h1,SB,seval,NC,NJ,NG,NQ,reduceCtorEq,NB,place,NA,ND]
 refine NS (fun j=>a.length-j) (fun j fr G=>j<=a.length/\fr 0=.slice p a.length ca/\fr 1=.slice q b.length n/\fr 12=Vi a.length/\fr 13=Vi j/\OH H G/\∀i,i<j->gt a i=gt b i) 0 ⟨Nw _,rfl,rfl,rfl,by rfl,OH.refl.app,fun i hi=>by omega⟩ ?_
 intro j fr G ⟨hj,f0,f1,f12,f13,g,f⟩ w
 rw [NU N60.eq_1]
 refine NL ?_
 by_cases d:j<a.length
 case neg=>
  obtain rfl:j=a.length:=by omega
  simp only [n30,r30,f0,f1,f12,f13,NN,d,SB,seval,NC,NJ,NG,NQ,reduceCtorEq,NB,place,NA,ND]
  have:a=b:=Pn hl fun i h1 h2=>by rw [<-PS h1,<-PS h2];exact f i h1
  rw [Np this]
 have l:j<b.length:=by omega
 have s:=fun X=>((g.sl o).app X).loadCells QI d
 have t:=fun X=>((g.sl r).app X).loadCells QI l
 have u:=fun c (kk:IntKind) (H1:NE)=>(g.sl o).idx (c:=c) (k:=kk) (H1:=H1) d
 have v:=fun c (kk:IntKind) (H1:NE)=>(g.sl r).idx (c:=c) (k:=kk) (H1:=H1) l
 have m:IntKind.i64.wrap ((j:Int)+1)=((j+1:Nat):Int):=OE (by omega)
 have e:=Of5 (gt a j) (gt b j)
 by_cases he:gt a j=gt b j
 ·rw [Np he] at e
  simp only [n30,r30,f0,f1,f12,f13,NN,d,s,t,u,v,m,e,SB,seval,NC,NJ,NG,NQ,reduceCtorEq,NB,place,NA,ND]
  exact w (j+1) _ _ ⟨by omega,f0,f1,f12,rfl,g.trans OH.refl.app,fun i hi=>by
   rcases Ol i j with h | h
   ·exact f i h
   ·rw [show i=j by omega];exact he⟩ (by omega)
 ·rw [N1 he] at e
  simp only [n30,r30,f0,f1,f12,f13,NN,d,s,t,u,v,m,e,SB,seval,NC,NJ,NG,NQ,reduceCtorEq,NB,place,NA,ND]
  congr 1
  rw [eq_comm,decide_eq_false_iff_not]
  rintro rfl
  exact he rfl
def Ne2:List Value:=[.string ⟨#[]⟩,.string ⟨#[115,116,114,97,121]⟩,.string ⟨#[97,102,116,101,114]⟩,.string ⟨#[106,117,109,112]⟩,.string ⟨#[101,97,114,108,121]⟩,.string ⟨#[109,105,115,115,101,100]⟩,.string ⟨#[100,111,117,98,108,101,100]⟩,.string ⟨#[108,111,115,116]⟩]
theorem Zl:Ne2.length=8:=id rfl
theorem Nl5 [OB] {mp:Bool} {lim:Nat} {H:NE} {Q:Value->NE->Prop}:NK E mp lim 35 [] H Q=Q (.agg Ne2.toArray) H:=by
 refine pc (by decide) e35 rfl rfl ?_
 rw [b35,c35]
 simp only [n35,r35,NF,SB,seval,NC,NJ,NG,NQ,reduceCtorEq,NB,place,NA,ND]
 rfl
def Nch (n:Nat):Value:=Ne2.getD n (.string ⟨#[]⟩)
theorem Npq (n:Nat):flat 4 (Nch n)=true:=by
 unfold Nch Ne2
 rcases n with _ | _ | _ | _ | _ | _ | _ | _ | n<;>rfl
theorem Nji [OB] {mp:Bool} {lim n:Nat} {H:NE} {Q:Value->NE->Prop} (hn:n<256):NK E mp lim 13 [.int .u8 (n:Int)] H Q=Q (Nch n) H:=by
 refine pc (by decide) e13 rfl (Npq n) ?_
 rw [b13,c13]
 have c:IntKind.i64.wrap ((n:Nat):Int)=n:=NP (by omega) (by omega)
 by_cases b:8<=(n:Int)
 ·have e:Nch n=.string ⟨#[]⟩:=by unfold Nch;rw [Na,Nx (by rw [Zl];omega)];rfl
  simp only [n13,r13,Nl5,NF,c,ge_iff_le,N5 b,Zl,e,SB,seval,NC,NJ,NG,NQ,reduceCtorEq,NB,place,NA,ND]
 ·have e:∀(v:Value),Ne2[n]? = some v->v=Nch n:=fun v d=>by unfold Nch;rw [Na,d];rfl
  have a:n<Ne2.length:=by rw [Zl];omega
  have e2:Ne2[n]? = some (Nch n):=by rw [Nf a];congr 1;exact e _ (Nf a)
  simp only [n13,r13,Nl5,NF,c,ge_iff_le,No b,Zl,e2,N5 (show (0:Int)<=n by omega),N5 (show (n:Int)<8 by omega),and_self,if_true,Pe,SB,seval,NC,NJ,NG,NQ,reduceCtorEq,NB,place,NA,ND]
theorem set_self {G:NE} {b:Nat} {x:Blk} (h:NI G b=x) (a:b<G.length):G.set b x=G:=by
 apply Pn (by simp)
 intro j h1 h2
 rw [List.getElem_set]
 split
 ·rename_i e;subst e
  unfold NI at h
  rw [Na,Nf a] at h
  exact h.symm
 ·rfl
def Yk:ACode:=RH (RH (RH (RH c18)))
theorem N5l:c18=.seq (TI c18) (.seq (TI (RH c18)) (.seq (TI (RH (RH c18))) (.seq (TI (RH (RH (RH c18)))) Yk))):=rfl
def Wq:ACode:=RH Yk
theorem Nxm:Yk=.seq (TI Yk) Wq:=rfl
def WX:ACode:=RH Wq
theorem Nrp:Wq=.seq (TI Wq) WX:=rfl
def Yg:ACode:=RH WX
theorem Nro:WX=.seq (TI WX) Yg:=rfl
def YZ:ACode:=RH Yg
theorem Nrn:Yg=.seq (TI Yg) YZ:=rfl
def Nkg:ACode:=RH YZ
theorem Nrm:YZ=.seq (TI YZ) Nkg:=rfl
theorem Od0:UA PX LX SA 7 900=0:=by decide
theorem Odz:UA PX LX SBx 7 900=0:=by decide
theorem Ody:UA PX LX SA 7 28800=0:=by decide
theorem Odx:UA PX LX SDx 7 900=0:=by decide
theorem Oa9:UA PX LX SBx 8 900=6:=by decide
def YW (G:NE) (b:Nat) (A:List An):Prop:=∃pe n ce q nk cq r ns cr c pl cl,NI G b=Vc (TH pe n ce q nk cq r ns cr c pl A.length cl)/\Sl G Tp 5 pl A
theorem YW.ext {G G':NE} {b:Nat} {A:List An} (h:YW G b A) (e:OH G G'):YW G' b A:=by
 obtain ⟨pe,n,ce,q,nk,cq,r,ns,cr,c,pl,cl,h1,h2⟩:=h
 exact ⟨pe,n,ce,q,nk,cq,r,ns,cr,c,pl,cl,e.cells h1,e.sl h2⟩
theorem Ndk [OB] (l:EffOk) {lim c cp cL:Nat} {p pp pL:Option Addr} {S tw es:List Ev} {ks:List Int} {ss:List Stp} {A:List An} {now:Int} {H:NE} {Q:Value->NE->Prop} (m:NetIn H pp pL PX LX) (hs:Sl H R3 6 p S) (hn:S.length<2 ^ 63) (hl:lim<=H.length)
  (h0:UA PX LX S 7 now=0) (h1:Uq (OJ S).1 7=es) (h2:Uq (OJ S).2 7=tw) (g:R6 PX LX es=ks) (i:QX PX LX es ks=ss) (j:SG PX LX es tw ks ss now=A)
  (o:∀G pe n ce q nk cq r ns cr c pl cl,OH H G->Sl G Tp 5 pl A->Q (.tuple #[.agg (TH pe n ce q nk cq r ns cr c pl A.length cl).toArray,Vi 0]) G) :
  NK E false lim 17 [.agg (Tv pp PX.length cp pL LX.length cL).toArray,.slice p S.length c,Vi 7,Vi now] H Q:=by
 refine Nkf l m hs hn hl (fun G h=>absurd h0 h) fun G pe ce q cq r cr pl cl es' d a b e1 e2 e3 f _ k _ _ _ _ e=>?_
 obtain rfl:es'=es:=e1.trans h1
 obtain rfl:d=tw:=e2.trans h2
 obtain rfl:a=ks:=e3.trans g
 obtain rfl:b=ss:=f.trans i
 rw [j] at e⊢
 exact o G _ _ _ _ _ _ _ _ _ _ _ _ k.ext e.1
structure A18 (b1 b2 b3:Nat) (G:NE) (fr:Nat->Value):Prop where
 f1:fr 1=.slice (Sa b1) 3 3
 f2:fr 2=Vp b2
 f3:fr 3=Vp b3
 k1:NI G b1=Vc (SBx.flatMap R3)
 k2:NI G b2=Vc (Tp TR)
 k3:NI G b3=Vc (Tp Nwu)
section
variable {lim b1 b2 b3:Nat} {fr:Nat->Value} {G:NE} {Q:Value->NE->Prop}
theorem chA [OB] (L:EffOk) (h:A18 b1 b2 b3 G fr) (hl:lim<=G.length)
  (M:∀fr' G' x,OH G G'->(∀t,t<14->t≠4->t≠5->fr' t=fr t)->fr' 4=Vp x->fr' 5=Vi 0->YW G' x [TR]->PV E a18 lim [.code Wq] fr' G' Q):PV E a18 lim [.code Yk] fr G Q:=by
 rw [Nxm]
 refine NL ?_
 have v:Sl G R3 6 (Sa b1) SBx:=Sl.row OX h.k1
 obtain ⟨q1,J,P,O,_,_,_⟩:=UR (c:=3) (vlo:=none) (vhi:=some (Vi 2)) (lo:=0) (hi:=2) v (.inr ⟨by decide,by decide⟩) OX (fun cap F=>by rw [Mx (by decide) (by have:SBx.length=3:=rfl;omega)];rfl) (by decide) (by decide) (by decide)
 simp only [TI,RH,Yk,c18,n18,r18,h.f1,SB,seval,NC,NJ,NG,NQ,reduceCtorEq,NB,place,NA,ND]
 refine UG (by simp;omega) fun G1 a b f u=>?_
 have N:=f.len
 simp at N
 have l:NI G1 G.length=.dead:=by obtain ⟨X,rfl⟩:=f;rw [NR (by simp),NV];rfl
 have j:List.set G1 G.length Blk.dead=G1:=set_self l (by omega)
 have z:VW 6 (.slice (Sa b1) 3 3) none (some (Vi 2)) none=some (.slice q1 2 J):=P
 have d:OH G G1:=by obtain ⟨X,rfl⟩:=f;rw [Nq];exact OH.refl.app
 refine NL ?_
 simp only [n18,r18,h.f1,z,j,SB,seval,NC,NJ,NG,NQ,reduceCtorEq,NB,place,NA,ND]
 simp only [Nb,j]
 have w:Sl G1 R3 6 q1 SA:=d.sl O
 refine Ndk L u w (by decide) (by omega) Od0 N6a N69 Nq9.1 Niw N8c fun G2 pe n ce q nk cq r ns cr c pl cl g hA=>?_
 have U:=g.len
 have B:NI G2 G.length=.dead:=by obtain ⟨X,rfl⟩:=g;rw [NR (by omega)];exact l
 have m:NI (G1++[]) G.length=.dead:=by rw [Nb];exact l
 have y:List.set G2 G.length Blk.dead=G2:=set_self B (by omega)
 obtain ⟨T,e3,D,H⟩:=OP (G:=G2) (R:=G.length) (by omega) (Vc [Vz,Vz,Vz,Vi 0,Vz])
 obtain ⟨k,C,K,I⟩:=OP (NM D) (Vc (TH pe n ce q nk cq r ns cr c pl [TR].length cl))
 have p:Chg [] G k:=(((d.trans g).chg (A:=[])).mut H (.inr (Nd _))).mut I (.inr (Nd _))
 have o:Sl k Tp 5 pl [TR]:=hA.sim (G:=k) fun b ro x s=>by
  have i:b≠G.length:=fun e=>by rw [e,B] at s;cases s
  exact I.cells (H.cells s i) i
 have S:=fun X=>(OH.refl.app (X:=X)).cells D
 simp only [Nl,Ns,Oc,Nat.reduceAdd] at C
 refine NL ?_
 simp only [n18,r18,m,y,e3,S,C,hl,PD,NH,NF,SB,seval,NC,NJ,NG,NQ,reduceCtorEq,NB,place,NA,ND]
 exact M _ _ G.length (p.ext.trans OH.refl.app) (fun t ht h1 h2=>by simp only [upd];repeat rw [Ng (by omega)]) rfl rfl ⟨pe,n,ce,q,nk,cq,r,ns,cr,c,pl,cl,by rw [Nb];exact K,o.app _⟩
theorem chB [OB] (i:EffOk) (h:A18 b1 b2 b3 G fr) (hl:lim<=G.length)
  (j:∀fr' G' x,OH G G'->(∀t,t<14->t≠6->t≠7->fr' t=fr t)->fr' 6=Vp x->fr' 7=Vi 0->YW G' x [Nwu,TR]->PV E a18 lim [.code WX] fr' G' Q):PV E a18 lim [.code Wq] fr G Q:=by
 rw [Nrp]
 refine NL ?_
 have g:Sl G R3 6 (Sa b1) SBx:=Sl.row OX h.k1
 simp only [TI,RH,Wq,Yk,c18,n18,r18,h.f1,SB,seval,NC,NJ,NG,NQ,reduceCtorEq,NB,place,NA,ND]
 rw [Nb]
 refine UG (by omega) fun G1 a b d f=>?_
 have k:=d.len
 refine NL ?_
 simp only [n18,r18,h.f1,SB,seval,NC,NJ,NG,NQ,reduceCtorEq,NB,place,NA,ND]
 rw [Nb]
 refine Ndk i (c:=3) f (d.sl g) (by decide) (by omega) Odz Oay Obm Nq9.1 Niw N8b fun G2 pe n ce q nk cq r ns cr c pl cl e hA=>?_
 have l:=e.len
 refine NL ?_
 simp only [n18,r18,PD,NH,NF,show lim<=G2.length by omega,SB,seval,NC,NJ,NG,NQ,reduceCtorEq,NB,place,NA,ND]
 exact j _ _ G2.length ((d.trans e).trans OH.refl.app) (fun t ht h1 h2=>by simp only [upd];repeat rw [Ng (by omega)]) rfl rfl ⟨pe,n,ce,q,nk,cq,r,ns,cr,c,pl,cl,by rw [NV];rfl,hA.app _⟩
theorem chC [OB] (L:EffOk) (h:A18 b1 b2 b3 G fr) (hl:lim<=G.length)
  (M:∀fr' G' x,OH G G'->(∀t,t<14->t≠8->t≠9->fr' t=fr t)->fr' 8=Vp x->fr' 9=Vi 0->YW G' x [TR,Nax]->PV E a18 lim [.code Yg] fr' G' Q):PV E a18 lim [.code WX] fr G Q:=by
 rw [Nro]
 refine NL ?_
 have v:Sl G R3 6 (Sa b1) SBx:=Sl.row OX h.k1
 obtain ⟨q1,J,P,O,_,_,_⟩:=UR (c:=3) (vlo:=none) (vhi:=some (Vi 2)) (lo:=0) (hi:=2) v (.inr ⟨by decide,by decide⟩) OX (fun cap F=>by rw [Mx (by decide) (by have:SBx.length=3:=rfl;omega)];rfl) (by decide) (by decide) (by decide)
 simp only [TI,RH,WX,Wq,Yk,c18,n18,r18,h.f1,SB,seval,NC,NJ,NG,NQ,reduceCtorEq,NB,place,NA,ND]
 refine UG (by simp;omega) fun G1 a b f u=>?_
 have N:=f.len
 simp at N
 have l:NI G1 G.length=.dead:=by obtain ⟨X,rfl⟩:=f;rw [NR (by simp),NV];rfl
 have j:List.set G1 G.length Blk.dead=G1:=set_self l (by omega)
 have z:VW 6 (.slice (Sa b1) 3 3) none (some (Vi 2)) none=some (.slice q1 2 J):=P
 have d:OH G G1:=by obtain ⟨X,rfl⟩:=f;rw [Nq];exact OH.refl.app
 refine NL ?_
 simp only [n18,r18,h.f1,z,j,SB,seval,NC,NJ,NG,NQ,reduceCtorEq,NB,place,NA,ND]
 simp only [Nb,j]
 have w:Sl G1 R3 6 q1 SA:=d.sl O
 refine Ndk L u w (by decide) (by omega) Ody N6a N69 Nq9.1 Niw N8a fun G2 pe n ce q nk cq r ns cr c pl cl g hA=>?_
 have U:=g.len
 have B:NI G2 G.length=.dead:=by obtain ⟨X,rfl⟩:=g;rw [NR (by omega)];exact l
 have m:NI (G1++[]) G.length=.dead:=by rw [Nb];exact l
 have y:List.set G2 G.length Blk.dead=G2:=set_self B (by omega)
 obtain ⟨T,e3,D,H⟩:=OP (G:=G2) (R:=G.length) (by omega) (Vc [Vz,Vz,Vz,Vi 0,Vz])
 obtain ⟨k,C,K,I⟩:=OP (NM D) (Vc (TH pe n ce q nk cq r ns cr c pl [TR,Nax].length cl))
 have p:Chg [] G k:=(((d.trans g).chg (A:=[])).mut H (.inr (Nd _))).mut I (.inr (Nd _))
 have o:Sl k Tp 5 pl [TR,Nax]:=hA.sim (G:=k) fun b ro x s=>by
  have i:b≠G.length:=fun e=>by rw [e,B] at s;cases s
  exact I.cells (H.cells s i) i
 have S:=fun X=>(OH.refl.app (X:=X)).cells D
 simp only [Nl,Ns,Oc,Nat.reduceAdd] at C
 refine NL ?_
 simp only [n18,r18,m,y,e3,S,C,hl,PD,NH,NF,SB,seval,NC,NJ,NG,NQ,reduceCtorEq,NB,place,NA,ND]
 exact M _ _ G.length (p.ext.trans OH.refl.app) (fun t ht h1 h2=>by simp only [upd];repeat rw [Ng (by omega)]) rfl rfl ⟨pe,n,ce,q,nk,cq,r,ns,cr,c,pl,cl,by rw [Nb];exact K,o.app _⟩
theorem chD [OB] (g:EffOk) (hl:lim<=G.length)
  (i:∀fr' G' x,OH G G'->(∀t,t<14->t≠10->t≠11->fr' t=fr t)->fr' 10=Vp x->fr' 11=Vi 0->YW G' x [Ngd]->PV E a18 lim [.code YZ] fr' G' Q):PV E a18 lim [.code Yg] fr G Q:=by
 rw [Nrn]
 refine NL ?_
 simp only [TI,RH,Yg,WX,Wq,Yk,c18,n18,r18,SB,seval,NC,NJ,NG,NQ,reduceCtorEq,NB,place,NA,ND]
 rw [Nb]
 refine UG (by omega) fun G1 a b d f=>?_
 have k:=d.len
 refine NL ?_
 simp only [n18,r18,Nhi,NF,QW,Uh,show lim<=G1.length by omega,SB,seval,NC,NJ,NG,NQ,reduceCtorEq,NB,place,NA,ND]
 refine Ndk g (c:=3) (S:=SDx) (f.app _) (Sl.row (ro:=false) OX (by rw [NV];rfl)) (by decide) (by simp;omega) Odx Oax Obl N9s N3g N79 fun G2 pe n ce q nk cq r ns cr c pl cl e hA=>?_
 have j:=e.len
 simp at j
 have h:OH G G2:=by obtain ⟨X,rfl⟩:=e;obtain ⟨Y,rfl⟩:=d;rw [Nq,Nq];exact OH.refl.app
 refine NL ?_
 simp only [n18,r18,PD,NH,NF,show lim<=G2.length by omega,SB,seval,NC,NJ,NG,NQ,reduceCtorEq,NB,place,NA,ND]
 exact i _ _ G2.length (h.trans OH.refl.app) (fun t ht h1 h2=>by simp only [upd];repeat rw [Ng (by omega)]) rfl rfl ⟨pe,n,ce,q,nk,cq,r,ns,cr,c,pl,cl,by rw [NV];rfl,hA.app _⟩
theorem chE [OB] (i:EffOk) (h:A18 b1 b2 b3 G fr) (hl:lim<=G.length)
  (j:∀fr' G',OH G G'->(∀t,t<12->fr' t=fr t)->fr' 13=Vi 6->PV E a18 lim [.code Nkg] fr' G' Q):PV E a18 lim [.code YZ] fr G Q:=by
 rw [Nrm]
 refine NL ?_
 have f:Sl G R3 6 (Sa b1) SBx:=Sl.row OX h.k1
 simp only [TI,RH,YZ,Yg,WX,Wq,Yk,c18,n18,r18,h.f1,SB,seval,NC,NJ,NG,NQ,reduceCtorEq,NB,place,NA,ND]
 rw [Nb]
 refine UG (by omega) fun G1 a b d e=>?_
 have k:=d.len
 refine NL ?_
 simp only [n18,r18,h.f1,SB,seval,NC,NJ,NG,NQ,reduceCtorEq,NB,place,NA,ND]
 rw [Nb]
 refine Nkf i (P:=PX) (L:=LX) (S:=SBx) (c:=3) e (d.sl f) (by decide) (by omega) (fun G2 _ g=>?_) (fun _ _ _ _ _ _ _ _ _ _ _ _ _ _ _ _ _ h=>absurd (Oa9.symm.trans h) (by decide))
 have l:=g.len
 rw [Oa9]
 refine NL ?_
 simp only [n18,r18,Nde,NF,show lim<=G2.length by omega,SB,seval,NC,NJ,NG,NQ,reduceCtorEq,NB,place,NA,ND]
 exact j _ _ ((d.trans g.ext).trans OH.refl.app) (fun t ht=>by simp only [upd];repeat rw [Ng (by omega)]) rfl
theorem A18.next {G':NE} {fr':Nat->Value} (h:A18 b1 b2 b3 G fr) (e:OH G G') (h1:fr' 1=fr 1) (h2:fr' 2=fr 2) (a:fr' 3=fr 3):A18 b1 b2 b3 G' fr':=
 ⟨h1.trans h.f1,h2.trans h.f2,a.trans h.f3,e.cells h.k1,e.cells h.k2,e.cells h.k3⟩
end
theorem Nwk [OB] {b1 b2 b3 b4 b6 s b10 lim:Nat} {fr:Nat->Value} {G:NE} (h:A18 b1 b2 b3 G fr) (f4:fr 4=Vp b4) (f5:fr 5=Vi 0) (e:fr 6=Vp b6) (f:fr 7=Vi 0) (g:fr 8=Vp s) (f9:fr 9=Vi 0) (f10:fr 10=Vp b10) (f11:fr 11=Vi 0) (f13:fr 13=Vi 6)
  (C:YW G b4 [TR]) (r6:YW G b6 [Nwu,TR]) (D:YW G s [TR,Nax]) (r10:YW G b10 [Ngd]):PV E a18 lim [.code Nkg] fr G fun v' _=>v'=.bool true:=by
 obtain ⟨_,_,_,_,_,_,_,_,_,_,p4,u,x,F⟩:=C
 obtain ⟨_,_,_,_,_,_,_,_,_,_,p6,v,y,I⟩:=r6
 obtain ⟨_,_,_,_,_,_,_,_,_,_,L,w,z,J⟩:=D
 obtain ⟨_,_,_,_,_,_,_,_,_,_,B,t,q,r⟩:=r10
 have k2:NI G b2=Vc [.int .u8 5,Vi 1,Vi 0,Vi 2,Vi 0]:=h.k2
 have k3:NI G b3=Vc [.int .u8 6,Vi 0,Vi 0,Vi 1,Vi 1]:=h.k3
 have k:=fun X=>(OH.refl.app (X:=X)).cells k2
 have l:=fun X=>(OH.refl.app (X:=X)).cells k3
 have m:=fun X=>(OH.refl.app (X:=X)).cells x
 have o:=fun X=>(OH.refl.app (X:=X)).cells y
 have p:=fun X=>(OH.refl.app (X:=X)).cells z
 have d:=fun X=>(OH.refl.app (X:=X)).cells q
 have K:IntKind.i64.wrap 0=0:=by decide
 have i:∀(mp:Bool) (lim:Nat) (H:NE) (Q:Value->NE->Prop),NK E mp lim 13 [.int .u8 1] H Q=Q (.string ⟨#[115,116,114,97,121]⟩) H:=fun mp lim H Q=>Nji (n:=1) (by decide)
 have c:∀(mp:Bool) (lim:Nat) (H:NE) (Q:Value->NE->Prop),NK E mp lim 13 [.int .u8 0] H Q=Q (.string ⟨#[]⟩) H:=fun mp lim H Q=>Nji (n:=0) (by decide)
 have j:∀(mp:Bool) (lim:Nat) (H:NE) (Q:Value->NE->Prop),NK E mp lim 13 [.int .u8 8] H Q=Q (.string ⟨#[]⟩) H:=fun mp lim H Q=>Nji (n:=8) (by decide)
 have A:∀(mp:Bool) (lim:Nat) (Q:Value->NE->Prop),NK E mp lim 30 [.slice p4 1 u,.slice (Sa G.length) 1 1] (G++[Vc [.int .u8 5,Vi 1,Vi 0,Vi 2,Vi 0]]) Q=Q (.bool true) (G++[Vc [.int .u8 5,Vi 1,Vi 0,Vi 2,Vi 0]]):=fun mp lim Q=>Ndo (a:=[TR]) (b:=[TR]) (F.app _) (Sl.row (ro:=false) QI (by rw [NV];rfl)) (by decide)
 refine NL ?_
 simp only [TI,RH,Nkg,YZ,Yg,WX,Wq,Yk,c18,n18,r18,f4,f5,e,f,g,f9,f10,f11,f13,h.f2,h.f3,K,Rh,k,l,m,o,p,d,RD,NH,NF,QW,Uh,A,i,c,j,SB,seval,NC,NJ,NG,NQ,reduceCtorEq,NB,place,NA,ND]
 refine Eq.mpr (Ndo (a:=[Nwu,TR]) (b:=[Nwu,TR]) (I.app _) (Sl.row (ro:=false) QI (by rw [OC];rfl)) (by decide)) ?_
 rw [Np rfl]
 refine NL ?_
 simp only [n18,r18,f4,f5,e,f,g,f9,f10,f11,f13,h.f2,h.f3,k,l,m,o,p,d,RD,NH,NF,QW,Uh,i,c,j,decide_true,beq_self_eq_true,SB,seval,NC,NJ,NG,NQ,reduceCtorEq,NB,place,NA,ND]
 refine Eq.mpr (Ndo (a:=[TR,Nax]) (b:=[TR,Nax]) (J.app _) (Sl.row (ro:=false) QI (by rw [OC];rfl)) (by decide)) ?_
 rw [Np rfl]
 refine NL ?_
 simp only [n18,r18,f4,f5,e,f,g,f9,f10,f11,f13,h.f2,h.f3,k,l,m,o,p,d,RD,NH,NF,QW,Uh,i,c,j,decide_true,beq_self_eq_true,SB,seval,NC,NJ,NG,NQ,reduceCtorEq,NB,place,NA,ND]
 refine Eq.mpr (Ndo (a:=[Ngd]) (b:=[Ngd]) (r.app _) (Sl.row (ro:=false) QI (by rw [OC];rfl)) (by decide)) ?_
 rw [Np rfl]
 refine NL ?_
 simp only [n18,r18,f4,f5,e,f,g,f9,f10,f11,f13,h.f2,h.f3,k,l,m,o,p,d,RD,NH,NF,QW,Uh,i,c,j,decide_true,beq_self_eq_true,SB,seval,NC,NJ,NG,NQ,reduceCtorEq,NB,place,NA,ND]
theorem Nwl [OB] (e:EffOk) {b1 b2 b3 lim:Nat} {fr:Nat->Value} {G:NE} (n:A18 b1 b2 b3 G fr) (hl:lim<=G.length):PV E a18 lim [.code Yk] fr G fun v' _=>v'=.bool true:=by
 refine chA e n hl fun j A b4 p m f4 f5 y=>?_
 have F:=p.len
 have o:=n.next p (m 1 (by decide) (by decide) (by decide)) (m 2 (by decide) (by decide) (by decide)) (m 3 (by decide) (by decide) (by decide))
 refine chB e o (by omega) fun k B b6 e6 i u v r6=>?_
 have H:=e6.len
 have a6:=o.next e6 (i 1 (by decide) (by decide) (by decide)) (i 2 (by decide) (by decide) (by decide)) (i 3 (by decide) (by decide) (by decide))
 refine chC e a6 (by omega) fun l C D g f w f9 z=>?_
 have I:=g.len
 have s:=a6.next g (f 1 (by decide) (by decide) (by decide)) (f 2 (by decide) (by decide) (by decide)) (f 3 (by decide) (by decide) (by decide))
 refine chD e (by omega) fun d q b10 e10 c f10 f11 r10=>?_
 have x:=e10.len
 have a10:=s.next e10 (c 1 (by decide) (by decide) (by decide)) (c 2 (by decide) (by decide) (by decide)) (c 3 (by decide) (by decide) (by decide))
 refine chE e a10 (by omega) fun b r e12 a f13=>?_
 have a12:=a10.next e12 (a 1 (by decide)) (a 2 (by decide)) (a 3 (by decide))
 have t:∀t,t<12->(t=4\/t=5->b t=j t)/\(t=6\/t=7->b t=k t)/\(t=8\/t=9->b t=l t)/\(t=10\/t=11->b t=d t):=fun t ht=>by
  refine ⟨fun h=>?_,fun h=>?_,fun h=>?_,fun h=>a t ht⟩
  ·rw [a t ht,c t (by omega) (by omega) (by omega),f t (by omega) (by omega) (by omega),i t (by omega) (by omega) (by omega)]
  ·rw [a t ht,c t (by omega) (by omega) (by omega),f t (by omega) (by omega) (by omega)]
  ·rw [a t ht,c t (by omega) (by omega) (by omega)]
 exact Nwk a12 (((t 4 (by decide)).1 (.inl rfl)).trans f4) (((t 5 (by decide)).1 (.inr rfl)).trans f5) (((t 6 (by decide)).2.1 (.inl rfl)).trans u) (((t 7 (by decide)).2.1 (.inr rfl)).trans v) (((t 8 (by decide)).2.2.1 (.inl rfl)).trans w) (((t 9 (by decide)).2.2.1 (.inr rfl)).trans f9) (((t 10 (by decide)).2.2.2 (.inl rfl)).trans f10) (((t 11 (by decide)).2.2.2 (.inr rfl)).trans f11) f13 ((((y.ext e6).ext g).ext e10).ext e12) (((r6.ext g).ext e10).ext e12) ((z.ext e10).ext e12) (r10.ext e12)
theorem awake_go [OB] (b:EffOk) (a:OB.on 18=false) {mp:Bool} {lim:Nat} {H:NE} {Q:Value->NE->Prop}:NK E mp lim 18 [] H Q=Q (.bool true) H:=by
 refine M8 (E:=E) (by simp [E,OB.effN,orc,a]) (show E.tr 18=some a18 from e18) rfl rfl (NL ?_)
 rw [b18,N5l]
 simp only [TI,RH,c18,n18,r18,Nhi,NF,QW,Uh,SB,seval,NC,NJ,NG,NQ,reduceCtorEq,NB,place,NA,ND]
 exact Nwl b (b1:=H.length) (b2:=H.length+1) (b3:=H.length+2) ⟨rfl,rfl,rfl,by rw [NV];rfl,by rw [OC];rfl,by rw [OC];rfl⟩ (by simp)
end Go.Proofs.YtkppjkkkdpcgiaaGreat.Fn


namespace Go.AM
open Go.AM.Sym
section
variable {P:Program} {E:Env} {W:Nat->Prop} {lim:Nat} {σ:PK} {H:NE} {w:World}
theorem Inv.shut (a:Inv (Prg.mk P (Env.pure E)) W lim σ H w):Inv (Prg.mk P (Env.pure E)) (fun k=>w.heap.size<=k) H.length σ H w:=
 ⟨a.blk,a.inj,fun i b L c ho d hL=>by
  have:=(List.getElem?_eq_some_iff.1 c).1
  omega,fun b c=>c,a.dom⟩
theorem Nx9 {w':World} (b:Inv (Prg.mk P (Env.pure E)) W lim σ H w) (a:Stp (fun k=>w.heap.size<=k) w w'):Stp W w w'/\∀k,k<w.heap.size->w'.heap[k]? = w.heap[k]?:=by
 have c:∀k,k<w.heap.size->w'.heap[k]? = w.heap[k]?:=fun k hk=>a.block k (by omega)
 refine ⟨⟨a.os,a.tape,a.output,a.size,fun k hk=>c k ?_⟩,c⟩
 rcases Ol k w.heap.size with h | h
 ·exact h
 ·exact absurd (b.fresh k h) hk
theorem Nfr (c:EnvOk P E) {g:FuncId} {as:List Value} {b:Value} (f:flat 4 b=true) (h:NK E false H.length g as H fun v _=>v=b) {as':List Value}
  (a:Inv (Prg.mk P (Env.pure E)) W lim σ H w) (d:OM σ as as'):Calls P g as'.toArray w (Tx (Prg.mk P (Env.pure E)) W lim σ H b (H++news []) w):=by
 obtain ⟨n,L,h1,h2⟩:=h
 refine ((Nan c n).calls _ _ _ _ _ _ h1 (Nd _) _ _ w as' a.shut d).mono fun e w' hp=>?_
 obtain ⟨r,hr,v',o,rfl,q1,q2,q3,l,m⟩:=hp
 obtain ⟨i,k⟩:=Nx9 a q3
 rw [h2.2 r hr] at q1
 rw [show H++news []=H from Nb H]
 exact ⟨v',σ,rfl,q1.flat_self 4 f,a.world q3.size k,i,PK.le_refl _,fun j hj=>absurd rfl hj⟩
theorem Nvz (M:EnvOk P E) {g:FuncId} {as:List Value} {n e:Nat} {c:List Value} (hc:∀x∈c,atom x=true) (h:NK E false H.length g as H fun v H'=>∃R,v=.tuple #[.slice (Sa R) n (loose e),Vi 0]/\NI H' R=Vc c/\H.length<=R) {as':List Value}
  (d:Inv (Prg.mk P (Env.pure E)) W lim σ H w) (O:OM σ as as'):Calls P g as'.toArray w (Tx (Prg.mk P (Env.pure E)) W lim σ H (.tuple #[.slice (Sa H.length) n (loose e),Vi 0]) (H++news [c]) w):=by
 obtain ⟨k,L,h1,h2⟩:=h
 refine ((Nan M k).calls _ _ _ _ _ _ h1 (Nd _) _ _ w as' d.shut O).mono fun Z w' hp=>?_
 obtain ⟨r,hr,v',σ',rfl,q1,q2,q3,q4,q5⟩:=hp
 obtain ⟨T,U⟩:=Nx9 d q3
 obtain ⟨R,e1,e2,e3⟩:=h2.2 r hr
 rw [e1] at q1
 obtain ⟨f,hL,hB⟩:=q2.blk R _ (RQ e2 rfl) rfl
 have p:w.heap.size<=f.blk:=q2.wr R _ f (RQ e2 rfl) rfl e3 hL
 have B:Inv (Prg.mk P (Env.pure E)) W lim σ H w':=d.world q3.size U
 have hd:σ H.length=none:=d.dom _ (Nd _)
 have A:=PK.le_put (L:=f) hd
 have s:UL (Prg.mk P (Env.pure E)) (σ.put H.length f) w' f (Vc c):=by
  obtain ⟨cs,el,fz,I,J,K⟩:=hB
  refine ⟨cs,el,fz,I,fun j v C=>?_,K⟩
  obtain ⟨u,k1,k2,k3⟩:=J j v C
  have o:=hc v (Og C)
  rw [k2.eq_of_atom o] at k1 k3
  exact ⟨v,k1,.atom o,k3⟩
 have N:Inv (Prg.mk P (Env.pure E)) W lim (σ.put H.length f) (H++news [c]) w':=by
  refine B.adopt (i:=H.length) (b:=Vc c) (L:=f) ?_ (fun j hj=>?_) (fun j hj=>?_) hd s rfl (d.fresh _ p) fun j bj Lj Q y m t e=>?_
  ·show (H++[Vc c])[H.length]? = _
   simp
  ·show (H++[Vc c])[j]? = _
   rcases Ol j H.length with h | h
   ·rw [N9 h]
   ·rw [Nx (by simp;omega),Nx h]
  ·simp [news] at hj;omega
  ·obtain ⟨F,k1,k2⟩:=d.blk j bj y m
   rw [t] at k1;cases k1
   have:=k2.lt m
   omega
 refine ⟨v',σ.put H.length f,rfl, ?_,N,T,A,fun j hj=>?_⟩
 ·obtain ⟨ys,rfl,hl⟩:=q1.tuple_left
  obtain ⟨D,q⟩:=hl
  match ys,D,q with
  | ⟨[y0,y1]⟩,D,q=>
    have V:=q 0 _ _ rfl rfl
    have X:=q 1 _ _ rfl rfl
    rw [X.int_left]
    refine VRel.tuple_iff.2 (OM.cons ?_ (OM.cons (.atom rfl) OM.nil))
    have hp:(σ.put H.length f) H.length=some f:=PK.put_same
    obtain ⟨_,F,l,z⟩:=V.slice_left
    rw [hL] at l;cases l
    rcases z with ⟨h,_⟩ | ⟨G,he,Y,hn,hr,rfl⟩ | ⟨a,h,rfl,rfl⟩
    ·unfold loose at h;omega
    ·have:G=e:=by unfold loose at he;omega
     subst this
     exact .lslice hp hn hr
    ·exact .eslice hp h
 ·apply Ny
  intro S
  refine hj ?_
  simp only [PK.put]
  rw [Ng (by omega)]
end
end Go.AM


namespace Go.Proofs.YtkppjkkkdpcgiaaGreat.Fn
open Go.AM Go.AM.Sym Go.Scan Go.Sort
structure Fo where
 (item place scanner kind at' late:Int)
 deriving Inhabited
def encF (f:Fo):List Value:=[.int .u8 f.item,.int .u8 f.place,.int .u8 f.scanner,.int .u8 f.kind,.int .u16 f.at',.int .u8 f.late]
theorem Nfp (f:Fo):(encF f).length=6:=id rfl
theorem N8q {f:Fo}:(encF f)[0]? = some (.int .u8 f.item):=id rfl
theorem N8p {f:Fo}:(encF f)[1]? = some (.int .u8 f.place):=id rfl
theorem N8o {f:Fo}:(encF f)[2]? = some (.int .u8 f.scanner):=id rfl
theorem N8n {f:Fo}:(encF f)[3]? = some (.int .u8 f.kind):=id rfl
theorem N8m {f:Fo}:(encF f)[4]? = some (.int .u16 f.at'):=id rfl
theorem N8l {f:Fo}:(encF f)[5]? = some (.int .u8 f.late):=id rfl
def FoOk (f:Fo):Prop:=(0<=f.item/\f.item<=255)/\(0<=f.place/\f.place<=255)/\(0<=f.scanner/\f.scanner<=255)/\(0<=f.kind/\f.kind<=255)/\(0<=f.at'/\f.at'<=65535)/\(0<=f.late/\f.late<=255)
def encB (n:Int):List Value:=[.int .i8 n]
theorem N1y (n:Int):(encB n).length=1:=id rfl
def ClOk (C:List Int):Prop:=∀c∈C,-128<=c/\c<=127
def Nc9 (C:List Int) (sc:Int):Int:=if sc-1<C.length then gt C (sc-1).toNat else 0
theorem Nkc {C:List Int} (h:ClOk C) {sc:Int} (h1:1<=sc):-128<=Nc9 C sc/\Nc9 C sc<=127:=by
 unfold Nc9
 split
 ·exact h _ (QH (by omega))
 ·omega
def S9 (f:Fo):Int:=14400+f.at' % 5760
def Xm (C:List Int) (f:Fo):Ev:=⟨1+f.item % 4,1+f.place % 4,1+f.scanner % 4,1+f.kind % 4,S9 f-Nc9 C (1+f.scanner % 4),S9 f+f.late,0⟩
def SC (C:List Int) (F:List Fo):List Ev:=(F.take 24).map (Xm C)
def Nf3 (F:List Fo):List Int:=(F.take 24).map S9
theorem Npw {C:List Int} {f:Fo} (a:ClOk C) (b:FoOk f):Sz (Xm C f):=by
 have c:=Nkc a (sc:=1+f.scanner % 4) (by omega)
 unfold FoOk at b
 unfold Sz Xm S9 VI
 simp only
 generalize Nc9 C (1+f.scanner % 4)=q at *
 omega
theorem XY {C:List Int} {F:List Fo} (a:ClOk C) (b:∀f∈F,FoOk f):Rt (SC C F):=by
 refine ⟨by unfold SC;rw [Nv,Om];omega,fun s hs=>?_⟩
 unfold SC at hs
 obtain ⟨f,c,rfl⟩:=List.mem_map.mp hs
 exact Npw a (b f (Q0 c))
theorem Nwg [OB] {mp:Bool} {lim cc:Nat} {p:Option Addr} {C:List Int} {sc:Int} {H:NE} {Q:Value->NE->Prop} (hs:Sl H encB 1 p C) (g:ClOk C) (hn:C.length<2 ^ 63) (h1:1<=sc) (h2:sc<=4) :
  NK E mp lim 57 [.slice p C.length cc,Vi sc] H Q=Q (Vi (Nc9 C sc)) H:=by
 refine pc (by decide) e57 rfl rfl ?_
 rw [b57,c57]
 have f:IntKind.i64.wrap (sc-1)=((sc-1).toNat:Int):=by rw [NP (by omega) (by omega)];omega
 have b:=Nkc g h1
 unfold Nc9 at b⊢
 by_cases d:sc-1<(C.length:Int)
 ·rw [Ni d] at b⊢
  have hi:(sc-1).toNat<C.length:=by omega
  have e:=fun X=>(hs.app X).loadCell0 N1y hi (by decide)
  have a:=fun c (k:IntKind) (H1:NE)=>hs.idx (c:=c) (k:=k) (H1:=H1) hi
  have he:(encB (gt C (sc-1).toNat))[0]? = some (.int .i8 (gt C (sc-1).toNat)):=rfl
  have h:IntKind.i64.wrap (gt C (sc-1).toNat)=gt C (sc-1).toNat:=NP (by omega) (by omega)
  simp only [n57,r57,f,NN,hi,e,a,he,h,SB,seval,NC,NJ,NG,NQ,reduceCtorEq,NB,place,NA,ND]
 ·rw [Ng d]
  have hi:¬(sc-1).toNat<C.length:=by omega
  simp only [n57,r57,f,NN,hi,SB,seval,NC,NJ,NG,NQ,reduceCtorEq,NB,place,NA,ND]
structure BSt (H:NE) (S:List Ev) (T:List Int) (sp tp:Option Addr) (sc tc:Nat) (G:NE):Prop where
 so:Own H.length G R3 6 sp sc S
 to:Own H.length G encI 1 tp tc T
 ne:∀a b,sp=some a->tp=some b->a.block≠b.block
 old:∀j,j<H.length->NI G j=NI H j
 len:H.length<=G.length
theorem BSt.step {H:NE} {S:List Ev} {T:List Int} {sp tp:Option Addr} {sc tc lim:Nat} {G:NE} (h:BSt H S T sp tp sc tc G) (hl:lim<=H.length) (hS:S.length<1000) (hT:T.length<1000) (s:Ev) (t:Int) (x y:Blk) :
  ∃G2,PQ lim none 6 48 false (.slice sp S.length sc) (.slice (Sa (G.length+2)) 1 1) (G++[x,y,Vc (R3 s)])=some (.slice (Sa (G.length+3)) (S.length+1) (loose 6),G2++[])/\
   ∃k,PQ lim none 1 8 false (.slice tp T.length tc) (.slice (Sa G2.length) 1 1) (G2++[Vc [Vi t]])=some (.slice (Sa (G2.length+1)) (T.length+1) (loose 1),k++[])/\
   BSt H (S++[s]) (T++[t]) (Sa (G.length+3)) (Sa (G2.length+1)) (loose 6) (loose 1) (k++[]):=by
 have len:=h.len
 obtain ⟨G2,e2,f,_,c,m,_⟩:=h.so.step (lim':=lim) (bytes:=48) hl OX (by decide) s (by unfold QG;omega) (by omega) len [x,y,Vc (R3 s)] (G.length+2) 1 (by rw [OC];rfl)
 simp only [Nl,Ns,Oc,Nat.reduceAdd] at e2 f m
 have p:Chg (Nlk sp) G (G2++[]):=⟨by simp;omega,fun j hj hA=>c j hj (Ndg hA)⟩
 have o:Own H.length (G2++[]) encI 1 tp tc T:=h.to.chg p fun a g r=>by
  obtain ⟨b,l,e⟩:=Ndh r
  exact h.ne b a l g e.symm
 rw [Nb] at f o
 obtain ⟨k,e3,i,_,d,n,_⟩:=o.step (lim':=lim) (bytes:=8) hl Sn (by decide) t (by unfold QG;omega) (by omega) (by omega) [Vc (encI t)] G2.length 1 (by rw [NV];rfl)
 simp only [Nl,Ns,Oc,Nat.reduceAdd] at e3 i n
 have q:Chg (Nlk tp) G2 (k++[]):=⟨by simp;omega,fun j hj hA=>d j hj (Ndg hA)⟩
 have np:∀j,j<H.length->(∀a,sp=some a->j≠a.block)/\(∀a,tp=some a->j≠a.block):=fun j hj=>⟨fun a g=>by have:=(h.so.block g).1;omega,fun a g=>by have:=(h.to.block g).1;omega⟩
 refine ⟨G2,e2,k,e3,f.chg q fun a g r=>?_,i,fun a b g l=>?_,fun j hj=>?_,by simp;omega⟩
 ·cases g
  obtain ⟨b,l,e⟩:=Ndh r
  have:=(h.to.block l).2
  have u:G.length+3=b.block:=e
  omega
 ·cases g;cases l
  show G.length+3≠G2.length+1
  omega
 ·rw [d j (by omega) (np j hj).2]
  have:=c j (by omega) (np j hj).1
  rw [Nb] at this
  rw [this];exact h.old j hj
theorem N26 [OB] {lim c cc:Nat} {p q:Option Addr} {F:List Fo} {C:List Int} {H:NE} {Q:Value->NE->Prop} (hf:Sl H encF 6 p F) (R:Uj 6 c F.length) (hs:Sl H encB 1 q C) (hF:∀f∈F,FoOk f) (hC:ClOk C) (ag:F.length<2 ^ 63) (Y:C.length<2 ^ 63) (hl:lim<=H.length)
  (hQ:∀G sp sc tp tc,BSt H (SC C F) (Nf3 F) sp tp sc tc G->Q (.tuple #[.slice sp (SC C F).length sc,.slice tp (Nf3 F).length tc]) (G++[])) :
  NK E false lim 29 [.slice p F.length c,.slice q C.length cc] H Q:=by
 refine RG (by decide) e29 rfl ?_
 rw [b29,c29]
 have mn:R9 false (Vi F.length) [Vi 24]=some (Vi ((min F.length 24:Nat):Int)):=by
  simp only [R9,VQ]
  grind
 obtain ⟨B,c',e1,A,_,m1,_⟩:=UR (vlo:=none) (vhi:=some (Vi ((min F.length 24:Nat):Int))) (lo:=0) (hi:=min F.length 24) hf R Nfp (fun cap ac=>by rw [Mx (by omega) (by omega),Oa]) (Nw _) (Nat.min_le_left _ _) (by omega)
 rw [Nat.sub_zero] at e1
 rw [O0] at A
 obtain ⟨n,hn⟩:∃n,n=min F.length 24:=⟨_,rfl⟩
 obtain ⟨d,g⟩:∃d,d=F.take n:=⟨_,rfl⟩
 rw [<-hn] at mn e1 A
 rw [<-g] at A
 have t:d.length=n:=by rw [g,Om];omega
 have v:SC C F=d.map (Xm C):=by
  unfold SC;rw [g,hn]
  congr 1
  rcases Nat.le_total F.length 24 with h | h
  ·rw [Pt h,Oh,Oi h]
  ·rw [Nat.min_eq_right h]
 have w:Nf3 F=d.map S9:=by
  unfold Nf3;rw [g,hn]
  congr 1
  rcases Nat.le_total F.length 24 with h | h
  ·rw [Pt h,Oh,Oi h]
  ·rw [Nat.min_eq_right h]
 have L:∀f∈d,FoOk f:=fun f h=>hF f (by rw [g] at h;exact Q0 h)
 simp only [n29,r29,mn,e1,SB,seval,NC,NJ,NG,NQ,reduceCtorEq,NB,place,NA,ND]
 refine NS (S:=Nat×Option Addr×Option Addr×Nat×Nat) (fun s=>n-s.1) (fun s fr G=>s.1<=n/\fr 1=.slice q C.length cc/\fr 6=.slice s.2.1 s.1 s.2.2.2.1/\fr 7=.slice s.2.2.1 s.1 s.2.2.2.2/\fr 16=.slice B n c'/\fr 17=Vi n/\fr 18=Vi s.1/\
  BSt H ((d.map (Xm C)).take s.1) ((d.map S9).take s.1) s.2.1 s.2.2.1 s.2.2.2.1 s.2.2.2.2 G) (0,none,none,0,0)
  ⟨Nw _,rfl,rfl,rfl,rfl,rfl,by rfl,.inl ⟨rfl,rfl,rfl⟩,.inl ⟨rfl,rfl,rfl⟩,fun a b h=>(by cases h),fun j hj=>NR hj,by simp⟩ ?_
 rintro ⟨i,sp,tp,sc,tc⟩ fr G ⟨hi,I,J,K,m,o,r,st⟩ hN
 simp only at hi J K r st
 rw [NU N61.eq_1]
 refine NL ?_
 have len:=st.len
 have lS:((d.map (Xm C)).take i).length=i:=by rw [Om,Nv];omega
 have lT:((d.map S9).take i).length=i:=by rw [Om,Nv];omega
 by_cases y:i<n
 ·have e:i<d.length:=by omega
  have sF:Sl G encF 6 B d:=Sl.same A fun a O u=>by subst O;exact st.old _ (A.lt u)
  have sC:∀X,Sl (G++X) encB 1 q C:=fun X=>(Sl.same hs fun a O u=>by subst O;exact st.old _ (hs.lt u)).app X
  have V:=fun X=>(sF.app X).loadCells Nfp e
  have x:∀(c:Nat) (k:IntKind) (H1:NE),Z6 6 (.slice B n c) (.int k (i:Int)) H1=some (.pointer (some (Zv B 6 i)),H1):=fun c k H1=>by
   rw [<-t];exact sF.idx e
  have Z:IntKind.i64.wrap ((i:Int)+1)=((i+1:Nat):Int):=OE (by omega)
  have T:=L _ (QH e)
  have M:(d.map (Xm C)).take (i+1)=(d.map (Xm C)).take i++[Xm C (gt d i)]:=by
   rw [N4 (by rw [Nv];exact e),P6,PS e]
  have N:(d.map S9).take (i+1)=(d.map S9).take i++[S9 (gt d i)]:=by
   rw [N4 (by rw [Nv];exact e),P6,PS e]
  generalize gt d i=f at *
  have l:=T
  unfold FoOk at l
  obtain ⟨⟨a1,a2⟩,⟨b1,b2⟩,⟨c1,c2⟩,⟨d1,d2⟩,⟨D,ad⟩,⟨f1,f2⟩⟩:=l
  have ab:=Nkc hC (sc:=1+f.scanner % 4) (by omega)
  have P:=fun X (mp:Bool) (lim:Nat) (Q:Value->NE->Prop)=>Nwg (mp:=mp) (lim:=lim) (Q:=Q) (cc:=cc) (sC X) hC Y (sc:=1+f.scanner % 4) (by omega) (by omega)
  have ae:Xm C f=⟨1+f.item % 4,1+f.place % 4,1+f.scanner % 4,1+f.kind % 4,S9 f-Nc9 C (1+f.scanner % 4),S9 f+f.late,0⟩:=rfl
  have W:S9 f=14400+f.at' % 5760:=rfl
  have x1:IntKind.i64.wrap f.at'=f.at':=NP (by omega) (by omega)
  have x2:Int.tmod f.at' 5760=f.at' % 5760:=Int.tmod_eq_emod_of_nonneg D
  have x3:IntKind.i64.wrap (14400+f.at' % 5760)=S9 f:=(NP (by omega) (by omega)).trans W.symm
  have x4:IntKind.i64.wrap f.item=f.item:=NP (by omega) (by omega)
  have x5:Int.tmod f.item 4=f.item % 4:=Int.tmod_eq_emod_of_nonneg a1
  have x6:IntKind.i64.wrap (1+f.item % 4)=1+f.item % 4:=NP (by omega) (by omega)
  have x7:IntKind.i64.wrap f.place=f.place:=NP (by omega) (by omega)
  have x8:Int.tmod f.place 4=f.place % 4:=Int.tmod_eq_emod_of_nonneg b1
  have x9:IntKind.i64.wrap (1+f.place % 4)=1+f.place % 4:=NP (by omega) (by omega)
  have y1:IntKind.i64.wrap f.scanner=f.scanner:=NP (by omega) (by omega)
  have y2:Int.tmod f.scanner 4=f.scanner % 4:=Int.tmod_eq_emod_of_nonneg c1
  have y3:IntKind.i64.wrap (1+f.scanner % 4)=1+f.scanner % 4:=NP (by omega) (by omega)
  have y4:Int.tmod f.kind 4=f.kind % 4:=Int.tmod_eq_emod_of_nonneg d1
  have y5:IntKind.u8.wrap (1+f.kind % 4)=1+f.kind % 4:=by simp only [IntKind.wrap,IntKind.bits,IntKind.signed];simp;omega
  have y6:IntKind.i64.wrap f.late=f.late:=NP (by omega) (by omega)
  have y7:IntKind.i64.wrap (S9 f+f.late)=S9 f+f.late:=NP (by omega) (by omega)
  have y8:IntKind.i64.wrap (S9 f-Nc9 C (1+f.scanner % 4))=S9 f-Nc9 C (1+f.scanner % 4):=NP (by omega) (by omega)
  obtain ⟨G2,q1,G3,q2,aa⟩:=st.step hl (by omega) (by omega) (Xm C f) (S9 f) (Vc (encF f)) (Vc (R3 (Xm C f)))
  rw [lS] at q1
  rw [lT] at q2
  have z:[Value.int .i64 (1+f.item % 4),Vi (1+f.place % 4),Vi (1+f.scanner % 4),.int .u8 (1+f.kind % 4),Vi (S9 f-Nc9 C (1+f.scanner % 4)),Vi (S9 f+f.late)]=R3 (Xm C f):=rfl
  have U:lim<=G.length:=by omega
  generalize S9 f=mt at *
  generalize Nc9 C (1+f.scanner % 4)=bn at *
  simp only [n29,r29,I,J,K,m,o,r,NN,y,x,V,U,Nfp,N8q,N8p,N8o,N8n,N8m,N8l,OX,Ue,Ve,Vd,Vb,Va,UZ,NH,NF,Z,x1,x2,x3,x4,x5,x6,x7,x8,x9,y1,y2,y3,y4,y5,y6,y7,y8,P,z,q1,q2,SB,seval,NC,NJ,NG,NQ,reduceCtorEq,NB,place,NA,ND]
  exact hN (i+1,Sa (G.length+3),Sa (G2.length+1),loose 6,loose 1) _ _ ⟨by simp only;omega,I,rfl,rfl,m,o,rfl,by simp only;rw [M,N];exact aa⟩ (by simp only;omega)
 ·obtain rfl:i=n:=by omega
  rw [Oi (by rw [Nv];omega),Oi (by rw [Nv];omega),<-v,<-w] at st
  have l1:(SC C F).length=i:=by rw [v,Nv,t]
  have l2:(Nf3 F).length=i:=by rw [w,Nv,t]
  have:=hQ G sp sc tp tc st
  rw [l1,l2] at this
  simp only [n29,r29,I,J,K,m,o,r,NN,y,SB,seval,NC,NJ,NG,NQ,reduceCtorEq,NB,place,NA,ND]
  exact this
end Go.Proofs.YtkppjkkkdpcgiaaGreat.Fn


namespace Go.Proofs.YtkppjkkkdpcgiaaGreat.Fn
open Go.AM Go.AM.Sym Go.Net Go.Scan
structure RL where
 (a b c d e f:Int)
 deriving DecidableEq,Inhabited
def encR (x:RL):List Value:=[.int .u8 x.a,.int .u8 x.b,.int .u8 x.c,.int .u8 x.d,.int .u8 x.e,.int .u8 x.f]
theorem Nne (x:RL):(encR x).length=6:=id rfl
def ByR (x:RL):Prop:=(0<=x.a/\x.a<=255)/\(0<=x.b/\x.b<=255)/\(0<=x.c/\x.c<=255)/\(0<=x.d/\x.d<=255)/\(0<=x.e/\x.e<=255)/\(0<=x.f/\x.f<=255)
def P5:List Int:=[3,1,5,2,4]
def YC (i:Nat) (x:RL):Leg:=⟨(i:Int)+1,1+x.a.tmod 5,1+x.b.tmod 5,x.c*5,1+x.d,x.e.tmod 60,1000,x.f.tmod 127+1⟩
def U9 (a:List RL):Nat->List Leg
 | 0=>[]
 | n+1=>if (YC n (gt a n)).frm≠(YC n (gt a n)).dst then U9 a n++[YC n (gt a n)] else U9 a n
theorem Y8 (a:List RL):∀n,(U9 a n).length<=n
 | 0=>Nd _
 | n+1=>by
   have:=Y8 a n
   rw [U9]
   split
   ·simp;omega
   ·omega
theorem MW {b:List RL} {l:Leg}:∀{n},l∈U9 b n->∃i,i<n/\l=YC i (gt b i)/\l.frm≠l.dst
 | 0,h=>by cases h
 | n+1,h=>by
   rw [U9] at h
   split at h
   ·rename_i a
    rcases Od.1 h with h | h
    ·obtain ⟨i,h1,h2⟩:=MW h;exact ⟨i,by omega,h2⟩
    ·rw [Nj] at h;subst h;exact ⟨n,by omega,rfl,a⟩
   ·obtain ⟨i,h1,h2⟩:=MW h;exact ⟨i,by omega,h2⟩
theorem N4g {a:List RL} {n:Nat} (b:∀x∈a,ByR x) (hn:min a.length 10=n):∀l∈U9 a n,By l:=fun l hl=>by
 obtain ⟨i,hi,rfl,_⟩:=MW hl
 have h1:=b _ (QH (l:=a) (i:=i) (by omega))
 have h2:=h1.2.2.2.2.2
 unfold By YC
 simp only
 have c:=Int.tmod_lt_of_pos (gt a i).f (show (0:Int)<127 by decide)
 have d:=Int.tmod_nonneg (127:Int) h2.1
 omega
theorem N4y {α:Type} [Inhabited α] {l:List α} {n i:Nat} (h:i<n):gt (l.take n) i=gt l i:=by
 unfold gt
 rw [Na,Na,P3,Ni h]
theorem N96 [OB] {lim c:Nat} {p:Option Addr} {g:List RL} {H:NE} {Q:Value->NE->Prop} (hs:Sl H encR 6 p g) (hb:∀x∈g,ByR x) (hl:g.length<2 ^ 63) (hc:Uj 6 c g.length) (y:lim<=H.length)
  (hQ:∀G pp pl cl,Chg [] H G->NetIn G pp pl P5 (U9 g (min g.length 10))->Q (.agg (Tv pp 5 5 pl (U9 g (min g.length 10)).length cl).toArray) G) :
  NK E false lim 10 [.slice p g.length c] H Q:=by
 refine RG (by decide) e10 rfl ?_
 rw [b10,c10]
 obtain ⟨n,hn⟩:∃n,min g.length 10=n:=⟨_,rfl⟩
 rw [hn] at hQ
 have C:min (g.length:Int) 10=(n:Int):=by omega
 obtain ⟨q1,k1,x1,s1,_,_,_⟩:=UR (vlo:=none) (vhi:=some (Vi n)) (lo:=0) (hi:=n) hs hc Nne (fun cap ah=>by rw [Mx (by omega) (by omega),Oa]) (Nw _) (by omega) (by omega)
 rw [O0] at s1
 simp only [Nat.sub_zero] at x1
 have ag:(g.take n).length=n:=by rw [Om];omega
 simp only [n10,r10,NF,y,Nzv,C,x1,SB,seval,NC,NJ,NG,NQ,reduceCtorEq,NB,place,NA,ND]
 refine NS (fun s:Nat×Option Addr×Nat=>n-s.1) (fun s fr G=>s.1<=n/\fr 2=Vp H.length/\fr 3=Vp (H.length+2)/\fr 13=.slice q1 n k1/\fr 14=Vi n/\fr 15=Vi s.1/\Chg [] H G/\NI G H.length=Vc [Vz,Vz]/\NI G (H.length+1)=Vc (P5.flatMap encI)/\NI G (H.length+2)=Vc [.slice (Sa (H.length+1)) 5 5,.slice s.2.1 (U9 g s.1).length s.2.2]/\Own (H.length+3) G RA 8 s.2.1 s.2.2 (U9 g s.1)) (0,none,0)
  ⟨Nw _,rfl,rfl,rfl,rfl,by rfl,Chg.refl.app,by rw [NV];rfl,by rw [OC];rfl,by rw [OC];rfl,.nil⟩ ?_
 rintro ⟨i,R,cw⟩ fr G ⟨hi,D,F,h,o,t,J,hA,hP,hB,B⟩ hN
 simp only at hi t hB B
 rw [NU N65.eq_1]
 refine NL ?_
 have hl:=J.len
 have ai:=NM hB
 have K:=fun X=>(OH.refl.app (X:=X)).cells hB
 by_cases u:i<n
 case neg=>
  obtain rfl:i=n:=by omega
  obtain ⟨G2,e2,h2,m2⟩:=OP (NM hA) (Vc [.slice (Sa (H.length+1)) 5 5,.slice R (U9 g i).length cw])
  have XA:=fun X=>(OH.refl.app (X:=X)).cells hA
  have X2:=fun X=>(OH.refl.app (X:=X)).cells h2
  simp only [n10,r10,D,F,h,o,t,u,K,XA,e2,X2,y,SB,seval,NC,NJ,NG,NQ,reduceCtorEq,NB,place,NA,ND]
  have S1:Sl G2 encI 1 (Sa (H.length+1)) P5:=Sl.row (ro:=false) Sn (m2.cells hP (by omega))
  have S2:=(B.mut m2 fun a L e=>by have:=(B.block L).1;omega).sl OI
  exact hQ _ (Sa (H.length+1)) R cw (J.mut m2 (.inr (Nd _))).app ⟨S1.app _,S2.app _,by decide,by have:=Y8 g i;omega,N4g hb hn⟩
 have O:=(J.sl s1 (by simp))
 have P:=fun X=>(O.app X).loadCells Nne (i:=i) (by omega)
 have ix:=fun c (k:IntKind) (H1:NE)=>O.idx (c:=c) (k:=k) (H1:=H1) (i:=i) (by omega)
 have eg:gt (g.take n) i=gt g i:=N4y u
 rw [eg] at P
 rw [ag] at ix
 simp only [encR] at P
 have q:lim<=G.length:=by omega
 have M:=hb _ (QH (l:=g) (i:=i) (by omega))
 generalize hx:gt g i=x at P M
 obtain ⟨L,ac,aj,hd,he,hf⟩:=M
 have am:=Int.tmod_lt_of_pos x.a (show (0:Int)<5 by decide)
 have an:=Int.tmod_nonneg (5:Int) L.1
 have ao:=Int.tmod_lt_of_pos x.b (show (0:Int)<5 by decide)
 have ap:=Int.tmod_nonneg (5:Int) ac.1
 have aq:=Int.tmod_lt_of_pos x.f (show (0:Int)<127 by decide)
 have ar:=Int.tmod_nonneg (127:Int) hf.1
 have wa:IntKind.i64.wrap x.a=x.a:=NP (by omega) (by omega)
 have wb:IntKind.i64.wrap x.b=x.b:=NP (by omega) (by omega)
 have wc:IntKind.i64.wrap x.c=x.c:=NP (by omega) (by omega)
 have wd:IntKind.i64.wrap x.d=x.d:=NP (by omega) (by omega)
 have we:IntKind.i64.wrap x.e=x.e:=NP (by omega) (by omega)
 have S:IntKind.i64.wrap (1+x.a.tmod 5)=1+x.a.tmod 5:=NP (by omega) (by omega)
 have T:IntKind.i64.wrap (1+x.b.tmod 5)=1+x.b.tmod 5:=NP (by omega) (by omega)
 have U:IntKind.i64.wrap (x.c*5)=x.c*5:=NP (by omega) (by omega)
 have V:IntKind.i64.wrap (1+x.d)=1+x.d:=NP (by omega) (by omega)
 have wf:IntKind.u8.wrap (x.f.tmod 127+1)=x.f.tmod 127+1:=by
  simp only [IntKind.wrap,IntKind.bits,IntKind.signed,Bool.false_and,Nz,if_false]
  omega
 have wi:IntKind.i64.wrap ((i:Int)+1)=(i:Int)+1:=NP (by omega) (by omega)
 have A:U9 g (i+1)=if 1+x.a.tmod 5=1+x.b.tmod 5 then U9 g i else U9 g i++[YC i x]:=by
  rw [U9,hx,ite_not];rfl
 by_cases v:1+x.a.tmod 5=1+x.b.tmod 5
 ·rw [Ni v] at A
  simp only [n10,r10,D,F,h,o,t,u,P,ix,q,wa,wb,wc,wd,we,S,T,U,V,wf,wi,N5 v,SB,seval,NC,NJ,NG,NQ,reduceCtorEq,NB,place,NA,ND]
  exact hN (i+1,R,cw) _ _ ⟨by show i+1<=n;omega,D,F,h,o,by rfl,J.app,(OH.refl.app).cells hA,(OH.refl.app).cells hP,by simp only [A];exact (OH.refl.app).cells hB,by simp only [A];exact B.app _⟩ (by show n-(i+1)<n-i;omega)
 rw [Ng v] at A
 obtain ⟨G4,Y,O4,W,ad⟩:=Own.moreF B (lim':=lim) (bytes:=64) (by omega) OI (by decide) [YC i x] (by simp) (by have:=Y8 g i;unfold QG;simp;omega) (by have:=Y8 g i;simp;omega) [Vc [.int .u8 x.a,.int .u8 x.b,.int .u8 x.c,.int .u8 x.d,.int .u8 x.e,.int .u8 x.f],Vc (RA (YC i x)),Vc (RA (YC i x))] (x:=.slice (Sa (G.length+2)) 1 1) (str:=false)
  (WG (m:=[YC i x]) (Sl.row (ro:=false) OI (by rw [OC];rfl))) rfl
 have w:∀j,j∈opB R->H.length+3<=j:=fun j hj=>by
  cases hpe:R with
  | none=>rw [hpe] at hj;cases hj
  | some a=>rw [hpe] at hj;have:=B.block hpe;simp [opB] at hj;omega
 generalize ae:(G++[Vc [.int .u8 x.a,.int .u8 x.b,.int .u8 x.c,.int .u8 x.d,.int .u8 x.e,.int .u8 x.f],Vc (RA (YC i x)),Vc (RA (YC i x))]).length=r at Y O4 ad
 have al:G.length<=r:=by rw [<-ae];simp
 generalize loose 8=c' at Y O4
 simp only [Nl,Ns,Oc,RA,YC] at Y
 have I:=W.cells hB fun N=>by have:=w _ N;omega
 have aa:=W.cells hA fun N=>by have:=w _ N;omega
 have ab:=W.cells hP fun N=>by have:=w _ N;omega
 obtain ⟨G5,e5,h5,Z⟩:=OP (NM I) (Vc [.slice (Sa (H.length+1)) 5 5,.slice (Sa r) ((U9 g i).length+1) c'])
 have X4:=fun X=>(OH.refl.app (X:=X)).cells I
 have z:lim<=H.length+2:=by omega
 simp only [n10,r10,D,F,h,o,t,u,P,ix,q,wa,wb,wc,wd,we,S,T,U,V,wf,wi,No v,K,Y,X4,e5,z,SB,seval,NC,NJ,NG,NQ,reduceCtorEq,NB,place,NA,ND]
 exact hN (i+1,Sa r,c') _ _ ⟨by show i+1<=n;omega,D,F,h,o,by rfl,((J.trans' W fun j hj ak=>by have:=w j hj;omega).mut Z (.inr (by omega))).app,(OH.refl.app).cells (Z.cells aa (by omega)),(OH.refl.app).cells (Z.cells ab (by omega)),
  by simp only [A,Nn,Qy];exact (OH.refl.app).cells h5,by simp only [A];exact ((O4.mut Z fun a L e=>by cases L;simp at e;omega).le (by omega)).app _⟩ (by show n-(i+1)<n-i;omega)
theorem Nvf {α:Type} [Inhabited α] {l m:List α} {i:Nat} (h:i<l.length):gt (l++m) i=gt l i:=by
 rw [PS (by simp;omega),PS h,Qr h]
theorem Nvg {α:Type} [Inhabited α] {l:List α} {x:α}:gt (l++[x]) l.length=x:=by
 rw [PS (by simp),Q8 (Nd _)]
 simp
theorem Nu4 {P:List Int} {M:List Leg} {l:Leg} (h:Wp P M) (h1:Fine l) (h2:l.id∉M.map (·.id)) (a:l.frm∈P) (b:l.dst∈P):Wp P (M++[l]):=fun i hi=>by
 rw [Nn,Qy] at hi
 rcases Ol i M.length with h5 | h5
 ·have:=h i h5
  unfold lOk at *
  rw [Nvf h5,P9 (by omega)]
  exact this
 ·obtain rfl:i=M.length:=by omega
  unfold lOk
  rw [Nvg,P9 (Nd _),Oh]
  exact ⟨h1,h2,a,b⟩
theorem N66 {a:Int} (h1:1<=a) (h2:a<=5):a∈P5:=by
 have:a=1\/a=2\/a=3\/a=4\/a=5:=by omega
 rcases this with rfl | rfl | rfl | rfl | rfl<;>decide
theorem Nr6 {c:List RL} (g:∀x∈c,ByR x):∀n,n<=c.length->n<=10->Wp P5 (U9 c n)
 | 0,_,_=>fun i hi=>by cases hi
 | n+1,hn,h10=>by
   have ih:=Nr6 g n (by omega) (by omega)
   rw [U9]
   split
   ·rename_i m
    obtain ⟨h,d,hc,hd,he,j⟩:=g _ (QH (l:=c) (i:=n) (by omega))
    have o:=Int.tmod_lt_of_pos (gt c n).a (show (0:Int)<5 by decide)
    have p:=Int.tmod_nonneg (5:Int) h.1
    have q:=Int.tmod_lt_of_pos (gt c n).b (show (0:Int)<5 by decide)
    have r:=Int.tmod_nonneg (5:Int) d.1
    have s:=Int.tmod_lt_of_pos (gt c n).e (show (0:Int)<60 by decide)
    have t:=Int.tmod_nonneg (60:Int) he.1
    have u:=Int.tmod_lt_of_pos (gt c n).f (show (0:Int)<127 by decide)
    have v:=Int.tmod_nonneg (127:Int) j.1
    refine Nu4 ih ?_ ?_ ?_ ?_
    ·unfold Fine YC at *
     simp only at *
     omega
    ·intro k
     obtain ⟨l,h1,h2⟩:=List.mem_map.1 k
     obtain ⟨i,w,rfl,_⟩:=MW h1
     unfold YC at h2
     simp only at h2
     omega
    ·refine N66 ?_ ?_<;>(unfold YC;simp only;omega)
    ·refine N66 ?_ ?_<;>(unfold YC;simp only;omega)
   ·exact ih
theorem N3w:Ui P5:=by decide
theorem Npp {a:List RL} (c:∀x∈a,ByR x) {n:Nat} (hn:n<=a.length) (b:n<=10):R7 P5 (U9 a n)=0:=by
 have h1:=Y8 a n
 unfold R7
 rw [Ng (by have:P5.length=5:=rfl;omega),Ng (by simpa using N3w),Ng (by simpa using Nr6 c n hn b)]
theorem Nr0 {S:List Ev} {item:Int} (hi:item≠0):Uq (OJ S).1 item=[]↔∀s∈S,s.item≠item:=by
 have hp:=Nhe S
 constructor
 ·intro h s hs he
  have h1:bare s∈((OJ S).1++(OJ S).2).map bare:=hp.mem_iff.2 (List.mem_map_of_mem hs)
  obtain ⟨x,b,c⟩:=List.mem_map.1 h1
  have d:x.item=item:=by have:=Qo Ev.item c;simpa [bare,he] using this
  rcases Od.1 b with h2 | h2
  ·have:x∈Uq (OJ S).1 item:=(VH hi).2 ⟨h2,d⟩
   rw [h] at this;exact Oe this
  ·obtain ⟨y,f,a,_⟩:=(Me S).2 x h2
   have e:y.item=item:=by have:=Qo Prod.fst a;simp only [RF] at this;omega
   have:y∈Uq (OJ S).1 item:=(VH hi).2 ⟨f,e⟩
   rw [h] at this;exact Oe this
 ·intro h
  rw [List.eq_nil_iff_forall_not_mem]
  intro x b
  obtain ⟨h1,h2⟩:=(VH hi).1 b
  obtain ⟨s,hs,rfl⟩:=Yw (.inl h1)
  exact h s hs h2
theorem M0 {C:List Int} {F:List Fo}:(SC C F).length<=24:=by unfold SC;rw [Nv,Om];omega
theorem Npx {a:List RL} {C:List Int} {F:List Fo} {item now:Int} (e:∀x∈a,ByR x) (c:ClOk C) (d:∀f∈F,FoOk f) (h1:1<=item) (h2:item<=999999) (b:0<=now) (g:now<=131070) :
  UA P5 (U9 a (min a.length 10)) (SC C F) item now=if Uq (OJ (SC C F)).1 item=[] then 6 else 0:=by
 have:=M0 (C:=C) (F:=F)
 have h:=Nr1 (S:=SC C F) (item:=item)
 rw [Nhr (Npp e (Nat.min_le_left _ _) (Nat.min_le_right _ _)) (XY c d) h1 h2 b (by unfold NY;omega)]
 rw [Ng (show ¬40<(Uq (OJ (SC C F)).1 item).length by omega)]
section
variable {lim n ce cq cr cl B:Nat} {pe q r pl:Option Addr} {ks:List Int} {ss:List Stp} {c:Int} {A:List An} {H:NE} {Q:Value->NE->Prop}
theorem Nvm [OB] {mp:Bool} (z:Sl H encI 1 q ks) (hr:Sl H enc3 3 r ss) (hA:Sl H Tp 5 pl A) (hn:n<2 ^ 30) (hk:∀k∈ks,0<=k/\k<n) (hs:∀s∈ss,Tg n s) (C:∀a∈A,(0<=a.ev/\a.ev<n)/\0<=a.other/\a.other<n)
  (h0:ks≠[]) (I:ks.length<2 ^ 62) (J:ss.length<2 ^ 62) (K:A.length<2 ^ 62):NK E mp lim 54 [.agg (TH pe n ce q ks.length cq r ss.length cr c pl A.length cl).toArray] H Q=Q (.bool true) H:=by
 refine pc (by decide) e54 rfl rfl ?_
 rw [b54,c54]
 have hp:(0:Int)<(ks.length:Int):=by have:=List.length_pos_iff.2 h0;omega
 obtain ⟨B,hB⟩:∃B,B=H.length:=⟨_,rfl⟩
 have y:NI (H++[Vc (TH pe n ce q ks.length cq r ss.length cr c pl A.length cl)]) B=Vc (TH pe n ce q ks.length cq r ss.length cr c pl A.length cl):=by rw [hB,NV];rfl
 simp only [n54,r54,PD,RN,RV,RU,RS,RD,NH,NF,SB,seval,NC,NJ,NG,NQ,reduceCtorEq,NB,place,NA,ND]
 refine NS (fun j=>ks.length-j) (fun j fr G=>j<=ks.length/\fr 1=Vp B/\fr 11=.slice q ks.length cq/\fr 12=Vi ks.length/\fr 13=Vi j/\OH H G/\NI G B=Vc (TH pe n ce q ks.length cq r ss.length cr c pl A.length cl)) 0 ⟨Nw _,by rw [hB];rfl,rfl,rfl,by rfl,OH.refl.app,y⟩ ?_
 intro j fr G ⟨hj,f1,f11,f12,f13,d,g⟩ p
 rw [NU N6u.eq_1]
 refine NL ?_
 have e:=fun X=>(OH.refl.app (X:=X)).cells g
 by_cases b:j<ks.length
 ·have u:=fun X=>Zp (d.sl z) b X
  have v:=fun c (kk:IntKind) (H1:NE)=>(d.sl z).idx (c:=c) (k:=kk) (H1:=H1) b
  have f:IntKind.i64.wrap ((j:Int)+1)=((j+1:Nat):Int):=OE (by omega)
  have F:=hk _ (QH b)
  simp only [n54,r54,f1,f11,f12,f13,NN,b,u,v,f,e,PD,RN,RV,RU,RS,RD,NH,NF,ge_iff_le,No (show ¬gt ks j<0 by omega),No (show ¬(n:Int)<=gt ks j by omega),SB,seval,NC,NJ,NG,NQ,reduceCtorEq,NB,place,NA,ND]
  exact p (j+1) _ _ ⟨by omega,f1,f11,f12,rfl,d.trans OH.refl.app,by rw [Nb];exact g⟩ (by omega)
 simp only [n54,r54,f1,f11,f12,f13,NN,b,e,PD,RN,RV,RU,RS,RD,NH,SB,seval,NC,NJ,NG,NQ,reduceCtorEq,NB,place,NA,ND]
 refine NS (fun j=>ss.length-j) (fun j fr G=>j<=ss.length/\fr 1=Vp B/\fr 29=.slice r ss.length cr/\fr 30=Vi ss.length/\fr 31=Vi j/\OH H G/\NI G B=Vc (TH pe n ce q ks.length cq r ss.length cr c pl A.length cl)) 0 ⟨Nw _,f1,rfl,rfl,by rfl,d.trans OH.refl.app,by rw [Nb];exact g⟩ ?_
 clear p f1 f11 f12 f13 d g e b hj
 clear j fr G
 intro j fr G ⟨hj,f1,h,i,l,d,g⟩ p
 rw [NU N6v.eq_1]
 refine NL ?_
 have e:=fun X=>(OH.refl.app (X:=X)).cells g
 by_cases b:j<ss.length
 ·have u:=fun X=>((d.sl hr).app X).loadCells OQ b
  have v:=fun c (kk:IntKind) (H1:NE)=>(d.sl hr).idx (c:=c) (k:=kk) (H1:=H1) b
  have f:IntKind.i64.wrap ((j:Int)+1)=((j+1:Nat):Int):=OE (by omega)
  have x:=hs _ (QH b)
  unfold Tg at x
  have w:=d.len
  simp only [n54,r54,f1,h,i,l,NN,b,u,v,f,e,PD,RN,RV,RU,RS,RD,OQ,Nqs,Nj2,N1z,NH,NF,ge_iff_le,w,No (show ¬(gt ss j).1<0 by omega),No (show ¬(gt ss j).2.1<=(gt ss j).1 by omega),No (show ¬(n:Int)<=(gt ss j).2.1 by omega),SB,seval,NC,NJ,NG,NQ,reduceCtorEq,NB,place,NA,ND]
  exact p (j+1) _ _ ⟨by omega,f1,h,i,rfl,d.trans OH.refl.app,e _⟩ (by omega)
 simp only [n54,r54,f1,h,i,l,NN,b,e,PD,RN,RV,RU,RS,RD,NH,SB,seval,NC,NJ,NG,NQ,reduceCtorEq,NB,place,NA,ND]
 refine NS (fun j=>A.length-j) (fun j fr G=>j<=A.length/\fr 1=Vp B/\fr 55=.slice pl A.length cl/\fr 56=Vi A.length/\fr 57=Vi j/\OH H G/\NI G B=Vc (TH pe n ce q ks.length cq r ss.length cr c pl A.length cl)) 0 ⟨Nw _,f1,rfl,rfl,by rfl,d.trans OH.refl.app,by rw [Nb];exact g⟩ ?_
 clear p f1 h i l d g e b hj
 clear j fr G
 intro j fr G ⟨hj,f1,m,o,t,d,g⟩ p
 rw [NU N6w.eq_1]
 refine NL ?_
 have e:=fun X=>(OH.refl.app (X:=X)).cells g
 by_cases b:j<A.length
 ·have u:=fun X=>((d.sl hA).app X).loadCells QI b
  have v:=fun c (kk:IntKind) (H1:NE)=>(d.sl hA).idx (c:=c) (k:=kk) (H1:=H1) b
  have f:IntKind.i64.wrap ((j:Int)+1)=((j+1:Nat):Int):=OE (by omega)
  have D:=C _ (QH b)
  have w:=d.len
  simp only [n54,r54,f1,m,o,t,NN,b,u,v,f,e,PD,RN,RV,RU,RS,RD,QI,Nfq,N8r,NH,NF,ge_iff_le,w,No (show ¬(gt A j).ev<0 by omega),No (show ¬(n:Int)<=(gt A j).ev by omega),No (show ¬(gt A j).other<0 by omega),No (show ¬(n:Int)<=(gt A j).other by omega),SB,seval,NC,NJ,NG,NQ,reduceCtorEq,NB,place,NA,ND]
  exact p (j+1) _ _ ⟨by omega,f1,m,o,rfl,d.trans OH.refl.app,e _⟩ (by omega)
 simp only [n54,r54,f1,m,o,t,NN,b,e,PD,RN,RV,RU,RS,RD,NH,hp,SB,seval,NC,NJ,NG,NQ,reduceCtorEq,NB,place,NA,ND]
end
theorem Njr {P:List Int} {L:List Leg} {es:List Ev} {ks:List Int} {ss:List Stp} {now:Int} {A:List An} (h:ListOk P L es ks ss now A) (hk:∀k∈ks,0<=k/\k<es.length) (h0:es≠[]):∀a∈A,(0<=a.ev/\a.ev<es.length)/\0<=a.other/\a.other<es.length:=fun a b=>by
 have hp:0<es.length:=List.length_pos_iff.2 h0
 rcases h.all a b with ⟨i,hi,h1⟩ | ⟨_,h1,h2,_⟩
 ·exact ⟨by rw [h1.ev];omega,h1.oth⟩
 ·exact ⟨hk _ (List.mem_of_getLast? h2),by omega,by omega⟩
def N91:ACode:=RH (RH (RH (RH c26)))
theorem N5k:c26=.seq (TI c26) (.seq (TI (RH c26)) (.seq (TI (RH (RH c26))) (.seq (TI (RH (RH (RH c26)))) N91))):=rfl
theorem Nen:Ni1.length=5:=id rfl
theorem N99 [OB] {b:Bool} {lim B C sc:Nat} {sp:Option Addr} {S:List Ev} {IT e:Int} {V:List Value} {G:NE} {fr:Nat->Value} {Q:Value->NE->Prop} (f10:fr 10=Vp B) (f14:fr 14=.slice sp S.length sc) (t:fr 16=Vi IT) (u:fr 17=Vp C) (w:fr 18=Vi e)
  (M:NI G B=Vc Ni1) (N:NI G C=Vc V) (U:V.length=5) (hs:Sl G R3 6 sp S) (ab:S.length<=24) (hl:lim<=B) (ac:lim<=G.length) (aa:B≠C)
  (he:(b=true/\e=0/\(∃s∈S,s.item=IT)/\(∀(mp:Bool) (lim:Nat) (G':NE) (Q:Value->NE->Prop),OH G G'->NK E mp lim 54 [.agg V.toArray] G' Q=Q (.bool true) G'))\/b=false/\e=6/\∀s∈S,s.item≠IT)
  (T:∀G',Chg [B] G G'->Q (.tuple #[.agg V.toArray,.slice sp S.length sc,.bool b,.bool true]) G'):PV E a26 lim [.code N91] fr G Q:=by
 refine NL ?_
 simp only [RH,N91,c26,n26,r26,f14,SB,seval,NC,NJ,NG,NQ,reduceCtorEq,NB,place,NA,ND]
 refine NS (fun j=>S.length-j) (fun j fr' G'=>j<=S.length/\fr' 10=fr 10/\fr' 14=fr 14/\fr' 16=fr 16/\fr' 17=fr 17/\fr' 18=fr 18/\fr' 19=.bool ((S.take j).any fun s=>decide (s.item=IT))/\fr' 43=.slice sp S.length sc/\fr' 44=Vi S.length/\fr' 45=Vi j/\OH G G') 0 ⟨Nw _,rfl,rfl,rfl,rfl,rfl,rfl,rfl,rfl,by rfl,OH.refl.app⟩ ?_
 intro j fr' G' ⟨hj,i,l,h,m,n,a,f,g,p,r⟩ J
 rw [f10] at i
 rw [f14] at l
 rw [t] at h
 rw [u] at m
 rw [w] at n
 rw [NU N63.eq_1]
 refine NL ?_
 have ad:=r.len
 by_cases d:j<S.length
 ·have O:=fun X=>((r.sl hs).app X).loadCells OX d
  have P:=fun c (kk:IntKind) (H1:NE)=>(r.sl hs).idx (c:=c) (k:=kk) (H1:=H1) d
  have z:IntKind.i64.wrap ((j:Int)+1)=((j+1:Nat):Int):=OE (by omega)
  have y:((S.take (j+1)).any fun s=>decide (s.item=IT))=(((S.take j).any fun s=>decide (s.item=IT))||decide ((gt S j).item=IT)):=by
   rw [N4 d,List.any_append,PS d]
   simp
  obtain ⟨o,ho⟩:∃o,((S.take j).any fun s=>decide (s.item=IT))=o:=⟨_,rfl⟩
  rw [ho] at y a
  have hF:∀v:Value,v=.bool ((S.take (j+1)).any fun s=>decide (s.item=IT))->True:=fun _ _=>trivial
  cases o
  ·by_cases hi:(gt S j).item=IT
   ·rw [Np hi,Bool.or_true] at y
    simp only [n26,r26,f,g,p,a,h,NN,d,O,P,z,OX,Ue,NH,NF,show lim<=G'.length by omega,N5 hi,SB,seval,NC,NJ,NG,NQ,reduceCtorEq,NB,place,NA,ND]
    exact J (j+1) _ _ ⟨by omega,(by simp only [i,f10,FB,Nat.reduceEqDiff]),(by simp only [l,f14,FB,Nat.reduceEqDiff]),(by simp only [h,t,FB,Nat.reduceEqDiff]),(by simp only [m,u,FB,Nat.reduceEqDiff]),(by simp only [n,w,FB,Nat.reduceEqDiff]),by rw [y];rfl,f,g,rfl,r.trans OH.refl.app⟩ (by omega)
   ·rw [N1 hi,Bool.or_false] at y
    simp only [n26,r26,f,g,p,a,h,NN,d,O,P,z,OX,Ue,NH,NF,show lim<=G'.length by omega,No hi,SB,seval,NC,NJ,NG,NQ,reduceCtorEq,NB,place,NA,ND]
    exact J (j+1) _ _ ⟨by omega,(by simp only [i,f10,FB,Nat.reduceEqDiff]),(by simp only [l,f14,FB,Nat.reduceEqDiff]),(by simp only [h,t,FB,Nat.reduceEqDiff]),(by simp only [m,u,FB,Nat.reduceEqDiff]),(by simp only [n,w,FB,Nat.reduceEqDiff]),by rw [y];rfl,f,g,rfl,r.trans OH.refl.app⟩ (by omega)
  ·rw [Bool.true_or] at y
   simp only [n26,r26,f,g,p,a,h,NN,d,O,P,z,OX,Ue,NH,NF,show lim<=G'.length by omega,SB,seval,NC,NJ,NG,NQ,reduceCtorEq,NB,place,NA,ND]
   exact J (j+1) _ _ ⟨by omega,(by simp only [i,f10,FB,Nat.reduceEqDiff]),(by simp only [l,f14,FB,Nat.reduceEqDiff]),(by simp only [h,t,FB,Nat.reduceEqDiff]),(by simp only [m,u,FB,Nat.reduceEqDiff]),(by simp only [n,w,FB,Nat.reduceEqDiff]),by rw [y];rfl,f,g,rfl,r.trans OH.refl.app⟩ (by omega)
 obtain rfl:j=S.length:=by omega
 rw [Oh] at a
 have x:=r.cells M
 have F:=r.cells N
 have H:=fun X=>(OH.refl.app (X:=X)).cells x
 have I:=fun X=>(OH.refl.app (X:=X)).cells F
 obtain ⟨Z,e3,h3,m3⟩:=OP (NM x) (Vc V)
 have W:=fun X=>(OH.refl.app (X:=X)).cells h3
 have R:Chg [B] G Z:=(r.chg (A:=[B])).mut m3 (.inl (by simp))
 rcases he with ⟨rfl,rfl,hex,K⟩ | ⟨rfl,rfl,L⟩
 ·have q:(S.any fun s=>decide (s.item=IT))=true:=by
   obtain ⟨s,h1,h2⟩:=hex
   exact List.any_eq_true.2 ⟨s,h1,by simpa using h2⟩
  rw [q] at a
  have D:=fun mp lim Y Q=>K mp lim (G'++Y) Q (r.trans OH.refl.app)
  simp only [n26,r26,f,g,p,a,i,l,m,n,NN,d,H,Nen,I,W,e3,U,hl,NH,NF,D,SB,seval,NC,NJ,NG,NQ,reduceCtorEq,NB,place,NA,ND]
  exact T _ R.app
 ·have q:(S.any fun s=>decide (s.item=IT))=false:=by
   rw [List.any_eq_false]
   exact fun s h1=>by simpa using L s h1
  rw [q] at a
  simp only [n26,r26,f,g,p,a,i,l,m,n,NN,d,H,Nen,I,W,e3,U,hl,NH,NF,SB,seval,NC,NJ,NG,NQ,reduceCtorEq,NB,place,NA,ND]
  exact T _ R.app
theorem Nht {P:List Int} {L:List Leg} {es tw:List Ev} {ks:List Int} {ss:List Stp} {now:Int} (h1:es.length<=40) (h2:tw.length<=40):(SG P L es tw ks ss now).length<=4000:=by
 have e:SG P L es tw ks ss now=Xj P L es tw ks ss es.length++SS es ks now:=rfl
 have a:=MR (P:=P) (L:=L) (es:=es) (tw:=tw) (ks:=ks) (ss:=ss) es.length
 have b:es.length*(51+tw.length)<=40*(51+tw.length):=O1 _ h1
 have c:(SS es ks now).length<=1:=by
  rcases Xn (es:=es) (ks:=ks) (now:=now) with h | ⟨k,_,h,_⟩<;>rw [h]<;>simp
 rw [e,Nn]
 omega
theorem Nx4 (S:List Ev) (item:Int):(Uq (OJ S).2 item).length<=S.length:=by
 have h1:=(Zj (OJ S).2 item).length_le
 have h2:=MJ S
 omega
theorem Nu0 [OB] (hE:EffOk) {lim ca cb cc:Nat} {p q r:Option Addr} {g:List RL} {F:List Fo} {C:List Int} {item now:Int} {H:NE} {Q:Value->NE->Prop} (hs:Sl H encR 6 p g) (hb:∀x∈g,ByR x) (am:g.length<2 ^ 63) (hc:Uj 6 ca g.length)
  (hf:Sl H encF 6 q F) (hF:∀f∈F,FoOk f) (ag:Uj 6 cb F.length) (ai:F.length<2 ^ 63) (hC:ClOk C) (an:Sl H encB 1 r C) (ah:C.length<2 ^ 63) (aj:0<=item/\item<=255) (au:0<=now/\now<=65535) (hl:lim<=H.length)
  (w:∀G sp sc,OH H G->Q (.tuple #[.agg Ni1.toArray,.slice sp (SC C F).length sc,.bool false,.bool true]) G)
  (W:∀G sp sc pe ce q cq r cr pl cl (es tw:List Ev) (ks:List Int) (ss:List Stp),es=Uq (OJ (SC C F)).1 (1+item % 4)->tw=Uq (OJ (SC C F)).2 (1+item % 4)->ks=R6 P5 (U9 g (min g.length 10)) es->ss=QX P5 (U9 g (min g.length 10)) es ks->es≠[]->WS P5 (U9 g (min g.length 10)) es=0->OH H G->
   Sl G R3 6 sp (SC C F)->Sl G encE 7 pe es->Uj 7 ce es.length->Sl G encI 1 q ks->Sl G enc3 3 r ss->Sl G Tp 5 pl (SG P5 (U9 g (min g.length 10)) es tw ks ss (now*2))->
   Q (.tuple #[.agg (TH pe es.length ce q ks.length cq r ss.length cr (Te P5 (U9 g (min g.length 10)) es ks) pl (SG P5 (U9 g (min g.length 10)) es tw ks ss (now*2)).length cl).toArray,.slice sp (SC C F).length sc,.bool true,.bool true]) G) :
  NK E false lim 26 [.slice p g.length ca,.slice q F.length cb,.slice r C.length cc,.int .u8 item,.int .u16 now] H Q:=by
 refine RG (by decide) e26 rfl ?_
 rw [b26,N5k]
 obtain ⟨IT,J⟩:∃IT,1+item % 4=IT:=⟨_,rfl⟩
 have ao:1<=IT:=by omega
 have ap:IT<=4:=by omega
 have w2:IntKind.i64.wrap (1+item.tmod 4)=IT:=by rw [Int.tmod_eq_emod_of_nonneg aj.1,J,NP (by omega) (by omega)]
 have w3:IntKind.i64.wrap item=item:=NP (by omega) (by omega)
 have w4:IntKind.i64.wrap now=now:=NP (by omega) (by omega)
 have w5:IntKind.i64.wrap (now*2)=now*2:=NP (by omega) (by omega)
 obtain ⟨S,hS⟩:∃S,SC C F=S:=⟨_,rfl⟩
 have ad:=XY hC hF
 have ae:=M0 (C:=C) (F:=F)
 have t:=Npx hb hC hF (item:=IT) (now:=now*2) (by omega) (by omega) (by omega) (by omega)
 obtain ⟨L,hL⟩:∃L,U9 g (min g.length 10)=L:=⟨_,rfl⟩
 rw [hS,J,hL] at W
 rw [hS] at w ad ae t
 rw [hL] at t
 simp only [TI,RH,c26,n26,r26,NF,SB,seval,NC,NJ,NG,NQ,reduceCtorEq,NB,place,NA,ND]
 refine N26 (lim:=lim) (hf.app _) ag (an.app _) hF hC ai ah (by simp;omega) fun G1 sp sc tp tc hB=>?_
 rw [hS] at hB⊢
 have m:OH (H++[Vc Ni1]) G1:=(show Chg [] _ _ from ⟨hB.len,fun j hj _=>hB.old j hj⟩).ext
 have ak:=m.len
 simp at ak
 refine NL ?_
 simp only [TI,RH,c26,n26,r26,w2,w3,SB,seval,NC,NJ,NG,NQ,reduceCtorEq,NB,place,NA,ND]
 refine N96 (lim:=lim) ((m.sl (hs.app _)).app _) hb am hc (by simp;omega) fun G2 pp pL cL n hN=>?_
 rw [hL] at hN⊢
 have al:=n.len
 simp at al
 have aa:=n.cells ((OH.refl.app (X:=[])).cells (m.cells (b:=H.length) (ro:=false) (c:=Ni1) (by rw [NV];rfl))) (by simp)
 have R:OH H G2:=(OH.refl.app.trans m).trans (OH.refl.app.trans n.ext)
 have v:=n.sl ((hB.so.sl OX).app []) (fun a _ _ h=>(by cases h))
 refine NL ?_
 simp only [TI,RH,c26,n26,r26,w4,w5,SB,seval,NC,NJ,NG,NQ,reduceCtorEq,NB,place,NA,ND]
 have z:=fun h=>(N4j (P:=P5) (L:=L) (S:=S) (item:=IT) (now:=now*2) h)
 refine Nkf hE (hN.app _) (v.app _) (by omega) (by simp;omega) (fun I h0 d=>?_) (fun I pe ce q' cq r' cr pl cl es tw ks ss e1 e2 e3 e4 h0 d ac ab M N O=>?_)
 ·have hn:Uq (OJ S).1 IT=[]:=Ny fun h=>by rw [t,Ng h] at h0;exact h0 rfl
  rw [t,Ni hn]
  refine NL ?_
  have D:=d.len
  simp at D
  have kk:=d.cells ((OH.refl.app (X:=[])).cells aa) (by simp)
  simp only [TI,RH,c26,n26,r26,Nde,NH,NF,show lim<=I.length by omega,SB,seval,NC,NJ,NG,NQ,reduceCtorEq,NB,place,NA,ND]
  refine N99 (b:=false) (B:=H.length) (C:=I.length) (S:=S) (V:=Ni1) rfl rfl rfl rfl rfl ((OH.refl.app (X:=[Vc Ni1])).cells kk) (by rw [NV];rfl) Nen ((d.sl (v.app _) (fun a _ _ h=>(by cases h))).app _) (by omega) hl (by simp;omega) (by omega) (.inr ⟨rfl,rfl,(Nr0 (by omega)).1 hn⟩) fun G' k=>w G' _ _ ?_
  exact (((R.trans (OH.refl.app.trans d.ext)).app.chg (A:=[])).trans' k (fun j hj hh=>by simp at hj;omega)).ext
 have u:es≠[]:=by rw [e1];exact (z h0).2.2.2.2.2.2.1
 have y:WS P5 L es=0:=by rw [e1];exact (z h0).2.2.2.2.2.2.2
 refine NL ?_
 have D:=d.len
 simp at D
 have kk:=d.cells ((OH.refl.app (X:=[])).cells aa) (by simp)
 have i:=Xx (P:=P5) (L:=L) (es:=es)
 rw [<-e3] at i
 have aq:es.length<=40:=(Nqn y).2.1
 have ar:ks.length<=es.length:=Zy i.2
 have U:ks≠[]:=fun h=>by have:=i.1 (by rw [h];rfl);exact u (List.length_eq_zero_iff.1 this)
 have Y:=Nd4 (P:=P5) (L:=L) i
 have K:=Nsa (P:=P5) (L:=L) (tw:=tw) (now:=now*2) i
 rw [<-e4] at Y K
 have Z:∀a,sp=some a->H.length+1<=a.block:=fun a T=>by
  have:=(hB.so.block T).1
  simp only [Nn,Nl,Ns] at this
  omega
 simp only [TI,RH,c26,n26,r26,PD,NH,NF,show lim<=I.length by omega,SB,seval,NC,NJ,NG,NQ,reduceCtorEq,NB,place,NA,ND]
 refine N99 (b:=true) (B:=H.length) (C:=I.length) (S:=S) (IT:=IT) (e:=0) rfl rfl rfl rfl rfl (OH.refl.app.cells kk) (by rw [NV];rfl) PD ((d.sl (v.app _) (fun a _ _ h=>(by cases h))).app _) (by omega) hl (by simp;omega) (by omega) (.inl ⟨rfl,rfl, ?_, ?_⟩) fun G' k=>?_
 ·apply Ny
  intro h
  apply u
  rw [e1]
  exact (Nr0 (by omega)).2 fun s hs hi=>h ⟨s,hs,hi⟩
 ·intro mp lim G' Q hX
  exact Nvm (hX.sl (M.1.app _)) (hX.sl (N.1.app _)) (hX.sl (O.1.app _)) (by omega) i.mem Y.1 (Njr K i.mem u) U (by omega) (by rw [e4];unfold QX;rw [Nv,Pr];omega) (by have h1:=Nx4 S IT;rw [<-e2] at h1;have:=Nht (P:=P5) (L:=L) (es:=es) (tw:=tw) (ks:=ks) (ss:=ss) (now:=now*2) (by omega) (by omega);omega)
 have o:∀{α:Type} {enc:α->List Value} {e:Nat} {q:Option Addr} {l:List α},Wo (G2++[]).length I enc e q l->Sl G' enc e q l:=fun h=>k.sl (h.1.app _) fun a T _ hj=>by
  have:=h.2 a T
  simp only [Nj] at hj
  simp only [Nn,Ns] at this
  omega
 exact W G' _ _ _ _ _ _ _ _ _ _ es tw ks ss e1 e2 e3 e4 u y (((R.trans (OH.refl.app.trans d.ext)).app.chg (A:=[])).trans' k (fun j hj hh=>by simp at hj;omega)).ext (k.sl ((d.sl (v.app _) (fun a _ _ h=>(by cases h))).app _) fun a T _ hj=>by have:=Z a T;simp at hj;omega) (o ac) ab (o M) (o N) (o O)
end Go.Proofs.YtkppjkkkdpcgiaaGreat.Fn


namespace Go.Scan
section
variable {item:Int}
end
end Go.Scan


namespace Go.Proofs.YtkppjkkkdpcgiaaGreat.Fn
open Go.AM Go.AM.Sym Go.Net Go.Scan
theorem Nar [OB] (h:OB.on 18=true) {mp:Bool} {lim:Nat} {H:NE} {Q:Value->NE->Prop}:NK E mp lim 18 [] H Q=Q (.bool true) H:=
 Nxn (E:=E) (by simp [E,orc,h]) rfl rfl
structure F7 (p r2 sp:Option Addr) (n m s ca cm sc B:Nat) (item now:Int) (fr:Nat->Value):Prop where
 f0:fr 0=.slice p n ca
 f2:fr 2=.slice r2 m cm
 f4:fr 4=.int .u8 item
 f5:fr 5=.int .u16 now
 f13:fr 13=Vp B
 f14:fr 14=.slice sp s sc
theorem F7.next {p r2 sp:Option Addr} {n m s ca cm sc B:Nat} {item now:Int} {fr fr':Nat->Value} (h:F7 p r2 sp n m s ca cm sc B item now fr) (e:∀t,t<15->fr' t=fr t):F7 p r2 sp n m s ca cm sc B item now fr':=
 ⟨(e 0 (by decide)).trans h.f0,(e 2 (by decide)).trans h.f2,(e 4 (by decide)).trans h.f4,(e 5 (by decide)).trans h.f5,(e 13 (by decide)).trans h.f13,(e 14 (by decide)).trans h.f14⟩
section
variable {n j:Nat} {A:List An}
variable (hj:j<A.length)
include hj
end
theorem ListOk.cA {P:List Int} {L:List Leg} {es:List Ev} {ks:List Int} {ss:List Stp} {now:Int} {A:List An} (h:ListOk P L es ks ss now A):∀a∈A,0<=Fn.cA a/\Fn.cA a<=80:=fun a b=>by
 unfold Fn.cA
 rcases h.all a b with ⟨i,hi,h1⟩ | ⟨h1,_⟩
 ·split
  ·omega
  split
  ·omega
  split
  ·have:=h1.mins (by assumption);omega
  ·omega
 ·rw [Ng (by omega),Ng (by omega),Ng (by omega)];omega
def Cnt (ks:List Int) (i m:Nat):Prop:=m<=ks.length/\(∀x,x<m->gt ks x<i)/\∀x,m<=x->x<ks.length->(i:Int)<=gt ks x
theorem Nsn {n:Nat} {ks:List Int} (hk:YY n ks):∀j i,i<j->j<ks.length->gt ks i<gt ks j:=fun j=>by
 induction j with
 | zero=>intro i h;omega
 | succ j ih=>
   intro i h hj
   have h1:gt ks j<gt ks (j+1):=(hk.2 (j+1) hj).2.2 (by omega)
   rcases Ol i j with h2 | h2
   ·have:=ih i h2 (by omega);omega
   ·rw [show i=j by omega];exact h1
theorem Cnt.zero {n:Nat} {ks:List Int} (hk:YY n ks):Cnt ks 0 0:=⟨Nw _,fun x h=>by omega,fun x _ h=>by have:=(hk.2 x h).1;omega⟩
theorem Cnt.mem {n i m:Nat} {ks:List Int} (hk:YY n ks) (h:Cnt ks i m) (hi:(i:Int)∈ks):m<ks.length/\gt ks m=i/\Cnt ks (i+1) (m+1):=by
 obtain ⟨x,a,e⟩:=List.mem_iff_getElem.1 hi
 rw [<-PS a] at e
 have d:m<=x:=Nat.le_of_not_lt fun c=>by have:=h.2.1 x c;omega
 have b:x=m:=by
  rcases Ol m x with h1 | h1
  ·have:=Nsn hk x m h1 a
   have:=h.2.2 m (Nd _) (by omega)
   omega
  ·omega
 subst b
 refine ⟨a,e,by omega,fun y f=>?_,fun y h1 h2=>?_⟩
 ·rcases Ol y x with h3 | h3
  ·have:=h.2.1 y h3;omega
  ·rw [show y=x by omega];omega
 ·have:=Nsn hk y x (by omega) h2;omega
theorem Cnt.not {i m:Nat} {ks:List Int} (h:Cnt ks i m) (hi:¬(i:Int)∈ks):Cnt ks (i+1) m:=by
 refine ⟨h.1,fun x a=>by have:=h.2.1 x a;omega,fun x h1 h2=>?_⟩
 have b:=h.2.2 x h1 h2
 have c:gt ks x≠i:=fun e=>hi (e▸QH h2)
 omega
theorem Cnt.all {n m:Nat} {ks:List Int} (hk:YY n ks) (h:Cnt ks n m):m=ks.length:=by
 rcases Ol m ks.length with h1 | h1
 ·have:=h.2.2 m (Nd _) h1
  have:=(hk.2 m h1).2.1
  omega
 ·have:=h.1;omega
section
variable {lim B n ce cq cr cl:Nat} {pe q r pl:Option Addr} {ks:List Int} {ss:List Stp} {es:List Ev} {c:Int} {A:List An} {P:List Int} {L:List Leg} {now:Int} {H0:NE} {Q:Value->NE->Prop}
structure R5 (B ce cq cr cl:Nat) (pe q r pl:Option Addr) (P:List Int) (L:List Leg) (es:List Ev) (ks:List Int) (ss:List Stp) (now:Int) (A:List An) (H0:NE):Prop where
 k:NI H0 B=Vc (TH pe es.length ce q ks.length cq r ss.length cr (Te P L es ks) pl A.length cl)
 sE:Sl H0 encE 7 pe es
 sK:Sl H0 encI 1 q ks
 sS:Sl H0 enc3 3 r ss
 sA:Sl H0 Tp 5 pl A
 hK:YY es.length ks
 hS:ss=QX P L es ks
 hA:ListOk P L es ks ss now A
 h0:es≠[]
 hn:es.length<=40
 hl:A.length<=4000
end
def nK (k:Int) (l:List An):Nat:=l.countP fun a=>decide (a.kind=k)
theorem Njk {k:Int} {l m:List An}:nK k (l++m)=nK k l+nK k m:=List.countP_append
theorem Ndi {k:Int} {l:List An} (h:∀a∈l,a.kind≠k):nK k l=0:=by
 unfold nK
 rw [List.countP_eq_zero]
 exact fun a b=>by simpa using h a b
theorem Nzs {k:Int} {l:List An} (h:∀a∈l,a.kind=k):nK k l=l.length:=by
 unfold nK
 rw [List.countP_eq_length]
 exact fun a b=>by simpa using h a b
theorem N6d {k:Int} {l:List An}:nK k l<=l.length:=List.countP_le_length
theorem Nr7 {k:Int} {A:List An} {j:Nat} (hj:j<A.length):nK k (A.take (j+1))=nK k (A.take j)+if (gt A j).kind=k then 1 else 0:=by
 rw [N4 hj,Njk,PS hj]
 congr 1
 unfold nK
 rw [List.countP_singleton]
 simp
section
variable {P:List Int} {L:List Leg} {es tw:List Ev} {ks:List Int} {ss:List Stp} {now:Int}
theorem Ncf {s:Stp}:∀a∈Sy P L es s,a.kind≠6/\a.kind≠7:=fun a b=>by
 unfold Sy at b
 simp only at b
 split at b
 ·rw [Nj] at b;subst b;exact ⟨(by decide:(2:Int)≠6),(by decide:(2:Int)≠7)⟩
 split at b
 ·rw [Nj] at b;subst b;exact ⟨(by decide:(3:Int)≠6),(by decide:(3:Int)≠7)⟩
 split at b
 ·rw [Nj] at b;subst b;exact ⟨(by decide:(4:Int)≠6),(by decide:(4:Int)≠7)⟩
 split at b
 ·unfold TF at b
  obtain ⟨x,_,rfl⟩:=List.mem_map.1 b
  exact ⟨(by decide:(5:Int)≠6),(by decide:(5:Int)≠7)⟩
 ·exact (Oe b).elim
theorem Nwm {k:Int} (hk:k=6\/k=7) {i:Nat}:nK k (atN P L es tw ks ss i)=nK k (PO es tw i):=by
 unfold atN
 rw [Njk,Njk]
 have c:∀{x y z:Nat},x=0->y=0->x+(y+z)=z:=fun h1 h2=>by omega
 refine c (Ndi fun a b=>?_) (Ndi fun a b=>?_)
 ·split at b
  ·exact (Oe b).elim
  ·rw [Nj] at b;subst b
   show (1:Int)≠k
   omega
 ·split at b
  ·have:=Ncf a b;omega
  ·exact (Oe b).elim
theorem Ne4 {k:Int} (hk:k=6\/k=7):nK k (SG P L es tw ks ss now)=((List.range es.length).map fun i=>nK k (PO es tw i)).sum+nK k (SS es ks now):=by
 unfold SG
 rw [Njk]
 congr 1
 unfold nK
 rw [List.countP_flatMap]
 congr 1
 refine O8 fun i _=>?_
 exact Nwm hk
theorem Nz4 (h:∀d∈tw,∃k,k<es.length/\∀i,i<es.length->(atE es d i↔i=k)):nK 6 (SG P L es tw ks ss now)=tw.length:=by
 rw [Ne4 (.inl rfl),Ndi (l:=SS es ks now),O9]
 ·rw [<-Nss es tw h]
  congr 1
  refine O8 fun i _=>?_
  exact Nzs fun a b=>(Nj4.1 a b).2.1
 ·intro a b
  rcases Xn (es:=es) (ks:=ks) (now:=now) with h | ⟨k,_,h,_⟩
  ·rw [h] at b;exact (Oe b).elim
  ·rw [h,Nj] at b;subst b;exact (by decide:(7:Int)≠6)
theorem Np3:nK 7 (SG P L es tw ks ss now)=(SS es ks now).length:=by
 rw [Ne4 (.inr rfl)]
 have c:∀m:Nat,((List.range m).map fun _=>0).sum=0:=fun m=>by
  induction m with
  | zero=>rfl
  | succ m ih=>rw [Pa,Ou,List.sum_append,ih];rfl
 have e:((List.range es.length).map fun i=>nK 7 (PO es tw i))=(List.range es.length).map fun _=>0:=O8 fun i _=>Ndi fun a b=>by
  have:=(Nj4.1 a b).2.1
  omega
 rw [e,c,Oc]
 refine Nzs fun a b=>?_
 rcases Xn (es:=es) (ks:=ks) (now:=now) with h | ⟨k,_,h,_⟩
 ·rw [h] at b;exact (Oe b).elim
 ·rw [h,Nj] at b;subst b;rfl
theorem N7j (h:∀d∈tw,∃k,k<es.length/\(∀i,i<es.length->(atE es d i↔i=k))/\d.time-(gt es k).time<=10) {a:An} (j:a∈SG P L es tw ks ss now) (e:a.kind=6) :
  (0<=a.mins/\a.mins<=10)/\∃d∈tw,d.time=(gt es a.ev.toNat).time+a.mins/\d.place=(gt es a.ev.toNat).place/\d.kind=(gt es a.ev.toNat).kind:=by
 unfold SG at j
 rcases Od.1 j with h1 | h1
 ·obtain ⟨i,hi,h2⟩:=List.mem_flatMap.1 h1
  have g:=List.mem_range.1 hi
  unfold atN at h2
  rcases Od.1 h2 with h3 | h3
  ·split at h3
   ·exact (Oe h3).elim
   ·rw [Nj] at h3;subst h3;exact absurd e (show ¬(1:Int)=6 by decide)
  rcases Od.1 h3 with h4 | h4
  ·split at h4
   ·exact absurd e (Ncf a h4).1
   ·exact (Oe h4).elim
  unfold PO at h4
  obtain ⟨d,hd,rfl⟩:=List.mem_map.1 h4
  obtain ⟨b,f⟩:=O5.1 hd
  have c:Ncp (gt es i) (TB (gt es i) (es.drop (i+1))) d:=by simpa using f
  obtain ⟨k,hk,l,ht⟩:=h d b
  obtain rfl:=(l i g).1 c
  obtain ⟨⟨m,n⟩,o,p⟩:=c
  unfold Nqx
  simp only [Oa]
  exact ⟨⟨by omega,ht⟩,d,b,by omega,m,n⟩
 ·rcases Xn (es:=es) (ks:=ks) (now:=now) with h | ⟨k,_,h,_⟩
  ·rw [h] at h1;exact (Oe h1).elim
  ·rw [h,Nj] at h1;subst h1;exact absurd e (show ¬(7:Int)=6 by decide)
theorem Nz2 {k:Int} (h:ks.getLast? = some k):(SS es ks now).length=if (gt es k.toNat).kind≠4/\20160<now-(gt es k.toNat).time then 1 else 0:=by
 unfold SS
 rw [h]
 simp only
 split
 ·rename_i h1;rw [Ng (by omega)];rfl
 ·rename_i h1;rw [Ni (by omega)];rfl
end
end Go.Proofs.YtkppjkkkdpcgiaaGreat.Fn


