/-
  Joined texts, 8 of 10. A part of the claim that the last text states.
-/
import Derived.Test.YtkppjkkkdpcgiaaGreatPB7
set_option linter.unusedVariables false
set_option linter.unusedSimpArgs false
set_option linter.defProp false
set_option linter.unusedSectionVars false
set_option maxRecDepth 100000
set_option maxHeartbeats 4000000
namespace Go.Proofs.YtkppjkkkdpcgiaaGreat.Fn
open Go.AM Go.AM.Sym Go.Scan Go.Sort
theorem Ns7 [OB] {lim R:Nat} {H:NE} {Q:Value->NE->Prop}:NK E false lim 123 [.map (some R)] H Q=Q (.func (.func 143) #[] #[Vp H.length]) (H++[Vc [.map (some R)]]):=by
 refine NK.eq ?_
 refine RJ (by decide) Oel rfl ?_
 rw [Ofq,N9e]
 simp only [n123,Odp,SB,seval,NC,NJ,NG,NQ,reduceCtorEq,NB,place,NA,ND]
def Vb (S:List Ev) (i:Nat):Ess:=(S.take i).foldl Ta []
theorem Nh7 {S:List Ev} {i:Nat} (h:i<S.length):Vb S (i+1)=Ta (Vb S i) (gt S i):=by
 unfold Vb
 rw [N0 h,List.foldl_append,PO h];rfl
theorem Nfk (S:List Ev):∀i,(Vb S i).length<=i
 | 0=>Nd _
 | i+1=>by
   rcases Ok i S.length with h | h
   ·rw [Nh7 h]
    have:=Nfk S i
    unfold Ta
    split
    ·rw [Nbh];have:=Nem (k:=UF (gt S i)) (v:=mkM (gt S i)) (l:=Vb S i);omega
    split
    ·rw [Nbh];have:=Nem (k:=UF (gt S i)) (v:=mkM (gt S i)) (l:=Vb S i);omega
    ·omega
   ·have e:Vb S (i+1)=Vb S i:=by unfold Vb;rw [Oh h,Oh (by omega)]
    rw [e];have:=Nfk S i;omega
theorem gather_ok [OB] {lim c:Nat} {p:Option Addr} {S:List Ev} {H:NE} {Q:Value->NE->Prop} (hs:Sl H R3 6 p S) (hS:QZ S) (hl:lim<=H.length)
  (hQ:∀G p' c',Sl G QU 3 p' (RN S)->Un 3 c' (RN S).length->Chg [] H G->Q (.slice p' (RN S).length c') (G++[])) :
  NK Ef false lim 93 [.slice p S.length c] H Q:=by
 have hn:=hS.1
 refine Nhf (by decide) e93 rfl ?_
 rw [b93,c93]
 simp only [n93,r93,SB,seval,NC,NJ,NG,NQ,reduceCtorEq,NB,place,NA,ND]
 refine NP (fun i=>S.length-i) (fun i fr G=>i<=S.length/\fr 3=.map (some H.length)/\fr 12=.slice p S.length c/\fr 13=Vi S.length/\fr 14=Vi i/\NH G H.length=.map (TD kM vK (Vb S i))/\H.length<G.length/\Sl G R3 6 p S/\∀j,j<H.length->NH G j=NH H j) 0
  ⟨Nv _,rfl,rfl,rfl,by rfl,by rw [NV];rfl,by simp,hs.app _,fun j hj=>NR hj⟩ ?_
 rintro i fr G ⟨hi,n,d,e,m,T,gl,gs,go⟩ I
 rw [NT N6h.eq_1]
 refine NL ?_
 have l:∀X,NH (G++X) H.length=.map (TD kM vK (Vb S i)):=fun X=>by rw [NR gl];exact T
 by_cases g:i<S.length
 ·have q:=fun X=>(gs.app X).loadCells OY g
  have h:=fun c (k:IntKind) (H1:NE)=>gs.idx (c:=c) (k:=k) (H1:=H1) g
  have r:IntKind.i64.wrap ((i:Int)+1)=((i+1:Nat):Int):=OA (by omega)
  have hf:Sz (gt S i):=hS.2 _ (PZ g)
  have Y:=hf
  unfold Sz Wl at Y
  have N:=Nh7 g
  generalize ag:gt S i=s at *
  have O:IntKind.i64.wrap (Int.tdiv s.seen 1440)=s.seen / 1440:=by
   rw [Pr (by omega)];exact NU (by omega) (by omega)
  have wd:IntKind.i64.wrap (s.seen-s.at')=s.seen-s.at':=NU (by omega) (by omega)
  have o:lim<=G.length:=by omega
  have hk:U4 (.ints [.i64,.i64]) (.agg #[Vi s.scanner,Vi (s.seen / 1440)])=true:=Obd (k:=UF s)
  have f:=YS (vv:=vK) Obe (UF s) (Vb S i) 0
  have K:kM (UF s)=.agg #[Vi s.scanner,Vi (s.seen / 1440)]:=rfl
  have ae:vK (mkM s)=.agg #[Vi s.scanner,Vi s.at',Vi (s.seen-s.at')]:=rfl
  rw [K] at f
  have b:=Nqj (UF s) (Vb S i) 0
  rw [<-N1i] at b
  have fin:∀(es':Ess) (G1:NE) (X:NE),NH G1 H.length=.map (TD kM vK es')->es'=Vb S (i+1)->(∀j,j≠H.length->NH G1 j=NH G j)->G1.length=G.length->
    NH (G1++X) H.length=.map (TD kM vK (Vb S (i+1)))/\H.length<(G1++X).length/\Sl (G1++X) R3 6 p S/\∀j,j<H.length->NH (G1++X) j=NH H j:=by
   intro es' G1 X h1 h2 t l1
   subst h2
   refine ⟨by rw [NR (by omega)];exact h1,by simp;omega, ?_,fun j hj=>by rw [NR (by omega),t j (by omega)];exact go j hj⟩
   refine (Sl.same gs fun a ha ab=>?_).app _
   subst ha
   have:=hs.lt ab
   exact t _ (by omega)
  have C:∀es':List (Value×Value),∃G1,(∀X:NE,(G++X).set H.length (.map es')=G1++X)/\NH G1 H.length=.map es'/\Mut G G1 H.length:=fun es'=>OQ gl _
  cases hc:fk (UF s) (Vb S i) 0 with
  | none=>
    rw [hc] at f b
    simp only [Oo] at f b
    have M:Vb S (i+1)=Xo (UF s) (mkM s) (Vb S i):=by rw [N];unfold Ta;rw [<-b]
    obtain ⟨G1,e1,h1,t⟩:=C (TD kM vK (Vb S i)++[(.agg #[Vi s.scanner,Vi (s.seen / 1440)],.agg #[Vi s.scanner,Vi s.at',Vi (s.seen-s.at')])])
    have z:NH G1 H.length=.map (TD kM vK (WA (UF s) (mkM s) (Vb S i))):=by
     rw [h1,<-Nju (v':=mkM s) hc];simp only [TD,O6,N4,List.map_nil];rfl
    simp only [n93,r93,n,d,e,m,NN,g,h,q,o,OY,Uh,Vh,Vg,Vf,Ve,Vd,NI,NF,O,wd,r,l,hk,f,e1,hl,SB,seval,NC,NJ,NG,NQ,reduceCtorEq,NB,place,NA,ND]
    obtain ⟨u,v,w,y⟩:=fin _ G1 _ z (by rw [M,Nbh]) t.other t.len
    exact I (i+1) _ _ ⟨by omega,n,d,e,rfl,u,v,w,y⟩ (by omega)
  | some x=>
    obtain ⟨j,old⟩:=x
    rw [hc] at f b
    simp only [Nw] at f b
    have ad:vK old=.agg #[Vi old.scanner,Vi old.at',Vi old.off]:=rfl
    rw [ad] at f
    have A:Vb S (i+1)=if Tf (mkM s) old then Xo (UF s) (mkM s) (Vb S i) else Vb S i:=by rw [N];unfold Ta;rw [<-b]
    obtain ⟨G1,e1,h1,t⟩:=C ((TD kM vK (Vb S i)).set j (.agg #[Vi s.scanner,Vi (s.seen / 1440)],.agg #[Vi s.scanner,Vi s.at',Vi (s.seen-s.at')]))
    have z:NH G1 H.length=.map (TD kM vK (WA (UF s) (mkM s) (Vb S i))):=by
     rw [h1,<-(Njt (v':=mkM s) hc).2.2];simp only [TD,List.map_set,Nat.sub_zero];rfl
    by_cases D:s.seen-s.at'<old.off
    ·simp only [n93,r93,n,d,e,m,NN,g,h,q,o,OY,Uh,Vh,Vg,Vf,Ve,Vd,NI,NF,O,wd,r,l,hk,f,e1,hl,N6 D,SB,seval,NC,NJ,NG,NQ,reduceCtorEq,NB,place,NA,ND]
     obtain ⟨u,v,w,y⟩:=fin _ G1 _ z (by rw [A,Ni (.inl D),Nbh]) t.other t.len
     exact I (i+1) _ _ ⟨by omega,n,d,e,rfl,u,v,w,y⟩ (by omega)
    by_cases P:s.seen-s.at'=old.off
    ·by_cases U:s.at'<old.at'
     ·simp only [n93,r93,n,d,e,m,NN,g,h,q,o,OY,Uh,Vh,Vg,Vf,Ve,Vd,NI,NF,O,wd,r,l,hk,f,e1,hl,Nm D,N6 P,N6 U,SB,seval,NC,NJ,NG,NQ,reduceCtorEq,NB,place,NA,ND]
      obtain ⟨u,v,w,y⟩:=fin _ G1 _ z (by rw [A,Ni (.inr ⟨P,U⟩),Nbh]) t.other t.len
      exact I (i+1) _ _ ⟨by omega,n,d,e,rfl,u,v,w,y⟩ (by omega)
     ·simp only [n93,r93,n,d,e,m,NN,g,h,q,o,OY,Uh,Vh,Vg,Vf,Ve,Vd,NI,NF,O,wd,r,l,hk,f,e1,hl,Nm D,N6 P,Nm U,SB,seval,NC,NJ,NG,NQ,reduceCtorEq,NB,place,NA,ND]
      obtain ⟨u,v,w,y⟩:=fin _ G _ T (by rw [A,Ng (by unfold Tf mkM;simp only;omega)]) (fun _ _=>rfl) rfl
      exact I (i+1) _ _ ⟨by omega,n,d,e,rfl,u,v,w,y⟩ (by omega)
    ·simp only [n93,r93,n,d,e,m,NN,g,h,q,o,OY,Uh,Vh,Vg,Vf,Ve,Vd,NI,NF,O,wd,r,l,hk,f,e1,hl,Nm D,Nm P,SB,seval,NC,NJ,NG,NQ,reduceCtorEq,NB,place,NA,ND]
     obtain ⟨u,v,w,y⟩:=fin _ G _ T (by rw [A,Ng (by unfold Tf mkM;simp only;omega)]) (fun _ _=>rfl) rfl
     exact I (i+1) _ _ ⟨by omega,n,d,e,rfl,u,v,w,y⟩ (by omega)
 ·obtain rfl:i=S.length:=by omega
  have J:Vb S S.length=UZ S:=by unfold Vb UZ;rw [Og]
  rw [J] at T l
  have hv:=fun (X:NE) (Q:Value->NE->Prop)=>NK.eqF' (Q:=Q) (show NK E false lim 123 [.map (some H.length)] (G++X) (fun v' H1=>v'=_/\H1=_) by rw [Ns7];exact ⟨rfl,rfl⟩)
  simp only [n93,r93,n,d,e,m,NN,g,hv,SB,seval,NC,NJ,NG,NQ,reduceCtorEq,NB,place,NA,ND]
  have aa:=Nfk S S.length
  rw [J] at aa
  refine Ntm (es:=UZ S) (R:=H.length) (by simp;omega) (by rw [NV];rfl) (l _) (by omega) fun G1 p1 D hO hC=>?_
  have hL:(UQ Tn ((UZ S).map (·.2))).length=(UZ S).length:=by rw [(TJ Tn _).length_eq,Ns]
  have B:∀j,j<H.length->NH G1 j=NH H j:=fun j hj=>by
   rw [hC.other j (by simp;omega) (by simp),NR (by omega)];exact go j hj
  have L:=hC.len
  simp only [No,Nl,Nu] at L
  rcases hO with ⟨h0,rfl,rfl⟩ | ⟨R,rfl,rfl,hR,V⟩
  ·have Z:RN S=[]:=by unfold RN;rw [h0];rfl
   have hz:(UZ S).length=0:=by rw [<-hL,h0];rfl
   rw [hz]
   have W:=fun X (Q:Value->NE->Prop)=>NK.eqF (Q:=Q) (show NK E false lim 126 [Vz,.func (.func 127) #[] #[]] (G1++X) (fun v' H1=>v'=Vz/\H1=G1++X) by rw [Nna];exact ⟨rfl,rfl⟩)
   simp only [n93,r93,W,SB,seval,NC,NJ,NG,NQ,reduceCtorEq,NB,place,NA,ND]
   have:=hQ G1 none 0 (by rw [Z];rfl) (by rw [Z];exact .inr ⟨Nd _,by decide⟩) ⟨by omega,fun j hj _=>B j hj⟩
   rw [Z] at this
   exact this
  ·rw [<-hL]
   simp only [n93,r93,SB,seval,NC,NJ,NG,NQ,reduceCtorEq,NB,place,NA,ND]
   simp only [No,Nl,Nu] at V
   refine NK.weak (E':=E) ?_
   rw [Nb]
   refine Nq1 hR (by omega) (by omega) fun G2 ac F=>?_
   refine NL ?_
   simp only [n93,r93,SB,seval,NC,NJ,NG,NQ,reduceCtorEq,NB,place,NA,ND]
   refine hQ G2 _ _ ac (.inl rfl) ⟨by have:=F.len;omega,fun j hj _=>?_⟩
   rw [F.other j (by omega) (by simp;omega)]
   exact B j hj
theorem Nax {α:Type} {lim R e bytes cap k b:Nat} {dest:Option Nat} {H:NE} {enc:α->List Value} {old:List α} {x:α} {ro:Bool} {rest:List Value} (he:∀x,(enc x).length=e) (h:e≠0) (j:NH H b=.cells ro (enc x)) (a:NH H R=Vc (old.flatMap enc++rest)) (hl:lim<=R)
  (hc:old.length+1<=cap) (hr:rest.length=(cap-old.length)*e) (f:cap<2 ^ 61) (m:(old.length+1)*bytes<=PY) :
  PQ lim dest e bytes false (.slice (Sa R) old.length cap) (.slice (Sa b) 1 k) H=some (.slice (Sa R) (old.length+1) cap,H.set R (Vc ((old++[x]).flatMap enc++rest.drop e))):=by
 have g:=NM a
 have d:AM.loadCells H ⟨b,0,none⟩ (1*e)=some (enc x):=by
  rw [Rz,j]
  simp only [Oc,Oy,Nat.one_mul]
  rw [Ni (by rw [he];exact Nd _),<-he x,Og]
 have i:e<=rest.length:=by rw [hr];exact Nat.le_mul_of_pos_left e (by omega)
 have l:AM.loadCells H ⟨R,0,none⟩ (old.length*e)=some (old.flatMap enc):=by
  rw [Rz,a]
  simp only [Oc,Oy]
  rw [Ni (by rw [No,QM he];omega),<-QM he,List.take_left]
 have c:AM.storeAt lim H (Addr.add ⟨R,0,none⟩ (old.length*e)) (enc x)=some (H.set R (Vc ((old++[x]).flatMap enc++rest.drop e))):=by
  simp only [addr_add,Vv,a,Oc]
  rw [Ni ⟨hl,by rw [No,QM he,he];omega⟩]
  have:=Nec (enc x) (old.flatMap enc) (rest.take e) (rest.drop e) (by rw [he,Ol];omega)
  rw [Np,Qc,QM he] at this
  rw [this,P3,Oq,Rm,Nb]
 simp only [PQ,firstCells,lenOf,d,l,c,if_false,Nz,Nat.one_ne_zero]
 rw [Ng (by omega),Ng (by unfold loose;omega),Ni (by omega),Ni (by omega)]
def Nm3 (M:List Mk) (S:List Ev):List Ev:=S.map fun s=>{ s with time:=Xh M s }
theorem Xx {M:List Mk} {S:List Ev}:(Nm3 M S).length=S.length:=Ns ..
theorem N48 {M:List Mk} {S:List Ev} {i:Nat} (h:i<S.length):gt (Nm3 M S) i={ gt S i with time:=Xh M (gt S i) }:=by
 rw [PO (by rw [Xx];exact h),PO h]
 unfold Nm3
 rw [Py]
structure ESt (H:NE) (M:List Mk) (S:List Ev) (p pm:Option Addr) (B i:Nat) (G:NE):Prop where
 row:∃rest,rest.length=(S.length-i)*7/\NH G B=Vc (((Nm3 M S).take i).flatMap encE++rest)
 sm:Sl G QU 3 pm M
 ss:Sl G R3 6 p S
 old:∀j,j<H.length->NH G j=NH H j
 len:B<G.length
def Nlg (p:Option Addr):List Nat:=match p with
 | none=>[]
 | some a=>[a.block]
theorem Nde {p:Option Addr} {j:Nat} (h:j∈Nlg p):∃a,p=some a/\j=a.block:=by
 cases p with
 | none=>cases h
 | some a=>exact ⟨a,rfl,by simpa [Nlg] using h⟩
theorem Ndd {p:Option Addr} {j:Nat} (h:j∉Nlg p):∀a,p=some a->j≠a.block:=fun a e h2=>h (by rw [e];simp [Nlg,h2])
structure FSt (H:NE) (EV:List Ev) (B Mp:Nat) (kr tr:List Ev) (es:List ((Int×Int×Int)×Int)) (kp tp:Option Addr) (kc tc:Nat) (G:NE):Prop where
 mp:NH G Mp=.map (TD kS vI es)
 ev:NH G B=Vc (EV.flatMap encE)
 ko:Own (Mp+1) G encE 7 kp kc kr.reverse
 to:Own (Mp+1) G encE 7 tp tc tr.reverse
 ne:∀a b,kp=some a->tp=some b->a.block≠b.block
 old:∀j,j<H.length->NH G j=NH H j
 len:Mp<G.length
 rel:∀e,Nbw (RO e) es=(VG e kr).map (·.time)
 sub:∀x∈kr,x∈EV
 kn:kr=[]->kp=none
 tn:tr=[]->tp=none
theorem FSt.twice {H:NE} {EV:List Ev} {B Mp:Nat} {kr tr:List Ev} {es:List ((Int×Int×Int)×Int)} {kp tp:Option Addr} {kc tc:Nat} {G:NE} {lim:Nat} (h:FSt H EV B Mp kr tr es kp tp kc tc G) (hl:lim<=H.length) (l:H.length<=B) (k:B<Mp) (e:Ev) (hn:tr.length<4000) (x y:Blk) :
  ∃G',PQ lim none 7 56 false (.slice tp tr.length tc) (.slice (Sa (G.length+2)) 1 1) (G++[x,y,Vc (encE e)])=some (.slice (Sa (G.length+3)) (tr.length+1) (loose 7),G'++[])/\FSt H EV B Mp kr (e::tr) es kp (Sa (G.length+3)) kc (loose 7) (G'++[]):=by
 have len:=h.len
 obtain ⟨G2,e2,d,_,c,g,_⟩:=h.to.step (lim':=lim) (bytes:=56) (by omega) NZ (by decide) e (by rw [List.length_reverse];unfold PY;omega) (by rw [List.length_reverse];omega) (by omega) [x,y,Vc (encE e)] (G.length+2) 1 (by rw [OC];rfl)
 rw [List.length_reverse] at e2
 simp only [Nl,Nu,Oc,Nat.reduceAdd] at e2 d g
 have nt:∀j,j<=Mp->∀a,tp=some a->j≠a.block:=fun j hj a f=>by have:=(h.to.block f).1;omega
 have hc:Chg (Nlg tp) G (G2++[]):=⟨by simp;omega,fun j hj hA=>c j hj (Ndd hA)⟩
 refine ⟨G2,e2,(c _ len (nt _ (Nd _))).trans h.mp,(c _ (by omega) (nt _ (by omega))).trans h.ev,h.ko.chg hc fun a f m=>?_,by rw [List.reverse_cons];exact d,fun a b f i=>?_,fun j hj=>(c j (by omega) (nt _ (by omega))).trans (h.old j hj),by simp;omega,h.rel,h.sub,h.kn,fun h=>(by cases h)⟩
 ·obtain ⟨b,i,e⟩:=Nde m
  exact h.ne a b f i e
 ·cases i
  have:=(h.ko.block f).2
  show a.block≠G.length+3
  omega
theorem Np4 {e x:Ev} {kr:List Ev}:VG e (x::kr)=if RO x=RO e then some x else VG e kr:=by
 unfold VG
 by_cases h:RO x=RO e
 ·rw [List.find?_cons_of_pos (by simpa using h),Ni h]
 ·rw [List.find?_cons_of_neg (by simpa using h),Ng h]
theorem FSt.kept {H:NE} {EV:List Ev} {B Mp:Nat} {kr tr:List Ev} {es:List ((Int×Int×Int)×Int)} {kp tp:Option Addr} {kc tc:Nat} {G:NE} {lim:Nat} (h:FSt H EV B Mp kr tr es kp tp kc tc G) (hl:lim<=H.length) (p:H.length<=B) (o:B<Mp) (e:Ev) (he:e∈EV) (hn:kr.length<4000) (x y:Blk) :
  ∃G1,(∀X:NE,(G++X).set Mp (.map (TD kS vI (WA (RO e) e.time es)))=G1++X)/\∃G',PQ lim none 7 56 false (.slice kp kr.length kc) (.slice (Sa (G1.length+2)) 1 1) (G1++[x,y,Vc (encE e)])=some (.slice (Sa (G1.length+3)) (kr.length+1) (loose 7),G'++[])/\
   FSt H EV B Mp (e::kr) tr (WA (RO e) e.time es) (Sa (G1.length+3)) tp (loose 7) tc (G'++[])/\G1.length=G.length:=by
 have len:=h.len
 obtain ⟨G1,e1,h1,i⟩:=OQ (G:=G) (R:=Mp) len (.map (TD kS vI (WA (RO e) e.time es)))
 have s:=i.len
 have nk:∀j,j<=Mp->∀a,kp=some a->j≠a.block:=fun j hj a d=>by have:=(h.ko.block d).1;omega
 have nt:∀j,j<=Mp->∀a,tp=some a->j≠a.block:=fun j hj a d=>by have:=(h.to.block d).1;omega
 have m:=h.ko.mut i (fun a d=>(nk Mp (Nd _) a d).symm)
 have n:=h.to.mut i (fun a d=>(nt Mp (Nd _) a d).symm)
 obtain ⟨G2,e2,f,_,c,g,_⟩:=m.step (lim':=lim) (bytes:=56) (by omega) NZ (by decide) e (by rw [List.length_reverse];unfold PY;omega) (by rw [List.length_reverse];omega) (by omega) [x,y,Vc (encE e)] (G1.length+2) 1 (by rw [OC];rfl)
 rw [List.length_reverse] at e2
 simp only [Nl,Nu,Oc,Nat.reduceAdd] at e2 f g
 have hc:Chg (Nlg kp) G1 (G2++[]):=⟨by simp;omega,fun j hj hA=>c j hj (Ndd hA)⟩
 refine ⟨G1,e1,G2,e2,⟨(c _ (by omega) (nk _ (Nd _))).trans h1,(c _ (by omega) (nk _ (by omega))).trans ((i.other _ (by omega)).trans h.ev),by rw [List.reverse_cons];exact f,n.chg hc fun a d r=>?_,fun a b d l=>?_,fun j hj=>(c j (by omega) (nk _ (by omega))).trans ((i.other j (by omega)).trans (h.old j hj)),by simp;omega,fun a=>?_,fun z hz=>?_,fun h=>(by cases h),h.tn⟩,s⟩
 ·obtain ⟨b,l,e⟩:=Nde r
  exact h.ne b a l d e.symm
 ·cases d
  have:=(h.to.block l).2
  show G1.length+3≠b.block
  omega
 ·rw [Nmr,Np4,h.rel]
  by_cases k:RO a=RO e
  ·rw [Ni k,Ni k.symm];rfl
  ·rw [Ng k,Ng fun q=>k q.symm]
 ·rcases Nr.mp hz with rfl | hz
  ·exact he
  ·exact h.sub z hz
theorem Nda [OB] {lim c:Nat} {p:Option Addr} {S:List Ev} {H:NE} {Q:Value->NE->Prop} (hs:Sl H R3 6 p S) (hS:QZ S) (hl:lim<=H.length)
  (hQ:∀G kp kc tp tc,Own H.length G encE 7 kp kc (OL S).1->Own H.length G encE 7 tp tc (OL S).2->(∀a b,kp=some a->tp=some b->a.block≠b.block)->Chg [] H G->((OL S).1=[]->kp=none)->((OL S).2=[]->tp=none)->Q (.tuple #[.slice kp (OL S).1.length kc,.slice tp (OL S).2.length tc]) (G++[])) :
  NK Ef false lim 56 [.slice p S.length c] H Q:=by
 have hn:=hS.1
 refine Nhf (by decide) e56 rfl ?_
 rw [b56,c56]
 simp only [n56,r56,SB,seval,NC,NJ,NG,NQ,reduceCtorEq,NB,place,NA,ND]
 rw [Nb]
 refine gather_ok hs hS hl fun G pm cm sm av hC=>?_
 have ay:=Go.Scan.gather_ok hS.2
 generalize hM:RN S=M at *
 have lM:M.length<=2000:=by rw [<-hM];have:=Nqg S;omega
 have bo:=hC.len
 have ap:∀G',(∀j,j<H.length->NH G' j=NH H j)->Sl G' R3 6 p S:=fun G' ho=>Sl.same hs fun a ha ab=>by
  subst ha;exact ho _ (hs.lt ab)
 have a0:(S.length:Int)*56<=2 ^ 45:=by omega
 have a1:(S.length:Int)<2 ^ 62:=by omega
 have hz:(List.range (S.length*7)).length=S.length*7:=O1
 have ba:(0:Int)<=(S.length:Int):=by omega
 have ac:∀z:List Value,z.length=S.length*7->ESt H M S p pm G.length 0 (G++[Vc z]):=fun z hz=>by
  have ho:∀j,j<H.length->NH (G++[Vc z]) j=NH H j:=fun j hj=>by rw [NR (by omega),hC.other j hj (by simp)]
  exact ⟨⟨z,by rw [hz,Nat.sub_zero],by rw [NV];rfl⟩,sm.app _,ap _ ho,ho,by simp⟩
 simp only [n56,r56,a0,a1,Ob,Ri,ba,SB,Nat.reduceLT,NC,NJ,Nat.reduceEqDiff,NG,NQ,reduceCtorEq,NB,place,NA,Nat.reduceAdd,Nat.reduceLeDiff,ND,Int.reduceEq,Int.reduceLT,Int.reduceLE]
 refine NP (fun i=>S.length-i) (fun i fr G2=>i<=S.length/\fr 2=Vz/\fr 3=Vz/\fr 4=.slice pm M.length cm/\fr 5=.slice (Sa G.length) i S.length/\fr 19=.slice p S.length c/\fr 20=Vi S.length/\fr 21=Vi i/\ESt H M S p pm G.length i G2) 0
  ⟨Nv _,rfl,rfl,rfl,rfl,rfl,rfl,by rfl,ac _ (by rw [Ns,O1])⟩ ?_
 ·rintro i fr G2 ⟨hi,g2,g3,g4,g5,U,V,ag,⟨rest,J,D⟩,ar,au,T,P⟩ hN
  rw [NT N6t.eq_1]
  refine NL ?_
  by_cases o:i<S.length
  ·have a9:=fun X=>(au.app X).loadCells OY o
   have an:=fun c (k:IntKind) (H1:NE)=>au.idx (c:=c) (k:=k) (H1:=H1) o
   have bg:IntKind.i64.wrap ((i:Int)+1)=((i+1:Nat):Int):=OA (by omega)
   have hf:Sz (gt S i):=hS.2 _ (PZ o)
   have a2:=fun X (mp:Bool) (lim:Nat) (Q:Value->NE->Prop)=>Nqy (mp:=mp) (lim:=lim) (Q:=Q) (ar.app X) av (by omega) ay hf
   have a8:lim<=G2.length:=by omega
   have ak:=N48 (M:=M) o
   generalize bp:gt S i=s at *
   generalize bs:Xh M s=t at *
   have bc:QP [Value.int .i64 0,Vi 0,Vi 0,.int .u8 0,Vi 0,Vi 0,Vi 0] 0 (R3 s)=[Vi s.item,Vi s.place,Vi s.scanner,.int .u8 s.kind,Vi s.at',Vi s.seen,Vi 0]:=rfl
   have hev:[Value.int .i64 s.item,Vi s.place,Vi s.scanner,.int .u8 s.kind,Vi s.at',Vi s.seen,Vi t]=encE { s with time:=t }:=rfl
   generalize hex:{ s with time:=t }=e at *
   have K:((Nm3 M S).take i).length=i:=by rw [Ol,Xx];omega
   obtain ⟨E,e3,h3,m3⟩:=OQ (G:=G2) (R:=G.length) P (Vc ((((Nm3 M S).take i)++[e]).flatMap encE++rest.drop 7))
   have N:=Nax (lim:=lim) (R:=G.length) (bytes:=56) (cap:=S.length) (k:=1) (b:=G2.length+1) (dest:=some (G2.length+2)) (H:=G2++[Vc (R3 s),Vc (encE e),.dead]) (enc:=encE) (old:=(Nm3 M S).take i) (x:=e) (ro:=false) (rest:=rest) NZ (by decide)
    (by rw [OC];rfl) (by rw [NR P];exact D) (by omega) (by rw [K];omega) (by rw [K];exact J) (by omega) (by rw [K];unfold PY;omega)
   rw [K,e3] at N
   simp only [n56,r56,g2,g3,g4,g5,U,V,ag,NN,o,an,a9,a8,OY,Uh,Vh,Vg,Vf,Ve,Vd,NI,NF,a2,bg,bc,hev,NZ,N,SB,seval,NC,NJ,NG,NQ,reduceCtorEq,NB,place,NA,ND]
   have l3:=m3.len
   have I:∀j,j<H.length->NH (E++[Vc (R3 s),Vc (encE e),.dead]) j=NH H j:=fun j hj=>by
    rw [NR (by omega),m3.other j (by omega)];exact T j hj
   have bh:Sl E QU 3 pm M:=Sl.same ar fun a ha ab=>by
    subst ha
    have:=sm.lt ab
    exact m3.other _ (by omega)
   refine hN (i+1) _ _ ⟨by omega,g2,g3,g4,rfl,U,V,rfl,⟨⟨rest.drop 7,by rw [Pw,J];omega, ?_⟩,bh.app _,ap _ I,I,by simp;omega⟩⟩ (by omega)
   rw [NR (by omega),h3,N0 (i:=i) (by rw [Xx];exact o),<-PO,ak]
  ·obtain rfl:i=S.length:=by omega
   have bb:rest=[]:=by
    rw [Qv,Qg] at J
    exact List.length_eq_zero_iff.mp J
   rw [bb,Nb,Oh (by rw [Xx];exact Nd _)] at D
   obtain ⟨E,s1,s2,s3⟩:=Nym (lim:=lim) (cap:=S.length) D (by omega) (by rw [Xx];omega)
   rw [Xx] at s1
   have al:UQ U3 (Nm3 M S)=SH M S:=rfl
   rw [al] at s2
   simp only [n56,r56,g2,g3,g4,g5,U,V,ag,NN,o,s1,SB,seval,NC,NJ,NG,NQ,reduceCtorEq,NB,place,NA,ND]
   have az:OL S=SY [] [] (SH M S):=by rw [<-hM];rfl
   generalize ah:SH M S=EV at *
   have ai:EV.length=S.length:=by rw [<-ah,Nqn]
   have l3:=s3.len
   have I:∀j,j<H.length->NH E j=NH H j:=fun j hj=>by rw [s3.other j (by omega) (by simp;omega)];exact T j hj
   have am:∀x∈EV,0<=x.time/\x.time<=1051898399:=fun x hx=>by
    rw [<-ah] at hx
    obtain ⟨z,hz,rfl⟩:=Mx.mp hx
    have aq:=hS.2 z hz
    have:=Nru (M:=M) aq
    unfold Sz Wl at aq
    simp only;omega
   have ax:=NM s2
   refine NP (S:=Nat×List Ev×List Ev×List ((Int×Int×Int)×Int)×Option Addr×Option Addr×Nat×Nat) (fun s=>S.length-s.1) (fun s fr F=>s.1<=S.length/\SY s.2.1 s.2.2.1 (EV.drop s.1)=OL S/\s.2.1.length<=s.1/\s.2.2.1.length<=s.1/\
    fr 2=.slice s.2.2.2.2.1 s.2.1.length s.2.2.2.2.2.2.1/\fr 3=.slice s.2.2.2.2.2.1 s.2.2.1.length s.2.2.2.2.2.2.2/\fr 8=.map (some E.length)/\fr 37=.slice (Sa G.length) S.length S.length/\fr 38=Vi S.length/\fr 39=Vi s.1/\
    FSt H EV G.length E.length s.2.1 s.2.2.1 s.2.2.2.1 s.2.2.2.2.1 s.2.2.2.2.2.1 s.2.2.2.2.2.2.1 s.2.2.2.2.2.2.2 F) (0,[],[],[],none,none,0,0)
    ⟨Nv _,by rw [Oy];exact az.symm,Nd _,Nd _,(by simp only [g2,Nu,FB,Nat.reduceEqDiff]),(by simp only [g3,Nu,FB,Nat.reduceEqDiff]),rfl,rfl,rfl,by rfl,⟨by rw [NV];rfl,by rw [NR ax];exact s2,.inl ⟨rfl,rfl,rfl⟩,.inl ⟨rfl,rfl,rfl⟩,fun a b h=>(by cases h),fun j hj=>by rw [NR (by omega)];exact I j hj,by simp,fun e=>rfl,fun x hx=>(Ox hx).elim,fun _=>rfl,fun _=>rfl⟩⟩ ?_
   rintro ⟨i,kr,tr,es,kp,tp,kc,tc⟩ bn F ⟨a6,l,a7,bd,f2,f3,f8,u,m,w,st⟩ Z
   simp only at a6 l a7 bd f2 f3 w st
   rw [NT N6u.eq_1]
   refine NL ?_
   by_cases q:i<S.length
   ·have y:i<EV.length:=by omega
    have O:Sl F encE 7 (Sa G.length) EV:=Sl.row NZ st.ev
    have C:=fun X=>(O.app X).loadCells NZ y
    have n:∀(c:Nat) (k:IntKind) (H1:NE),ZA 7 (.slice (Sa G.length) S.length c) (.int k (i:Int)) H1=some (.pointer (some (Xy (Sa G.length) 7 i)),H1):=fun c k H1=>by
     rw [<-ai];exact O.idx y
    have ae:IntKind.i64.wrap ((i:Int)+1)=((i+1:Nat):Int):=OA (by omega)
    have aj:gt EV i∈EV:=PZ y
    have a3:EV.drop i=gt EV i::EV.drop (i+1):=by rw [Ow y,PO y]
    rw [a3] at l
    have f:=st.rel (gt EV i)
    generalize hex:gt EV i=e at *
    have hk:U4 (.ints [.i64,.i64,.u8]) (.agg #[Vi e.item,Vi e.place,.int .u8 e.kind])=true:=Obb (k:=RO e)
    have g:=YS (vv:=vI) Obc (RO e) es 0
    have ao:kS (RO e)=.agg #[Vi e.item,Vi e.place,.int .u8 e.kind]:=rfl
    rw [ao] at g
    have d:=Nqj (RO e) es 0
    have W:∀X,NH (F++X) E.length=.map (TD kS vI es):=fun X=>by rw [NR st.len];exact st.mp
    have B:lim<=F.length:=by have:=st.len;omega
    have A:lim<=E.length:=by omega
    have L:∀(em:List (Value×Value)),em=TD kS vI (WA (RO e) e.time es)->
      ∃G1,(∀X:NE,(F++X).set E.length (.map em)=G1++X)/\(∀Y,NH (G1++Vc (encE e)::Y) F.length=Vc (encE e))/\∃G',PQ lim none 7 56 false (.slice kp kr.length kc) (.slice (Sa (G1.length+2)) 1 1) (G1++[Vc (encE e),Vc [Vi e.item,Vi e.place,.int .u8 e.kind],Vc (encE e)])=some (.slice (Sa (G1.length+3)) (kr.length+1) (loose 7),G'++[])/\
       FSt H EV G.length E.length (e::kr) tr (WA (RO e) e.time es) (Sa (G1.length+3)) tp (loose 7) tc (G'++[]):=by
     intro em a4
     subst a4
     obtain ⟨G1,e1,G',e2,bk,l1⟩:=st.kept hl (by omega) (by omega) e aj (by omega) (Vc (encE e)) (Vc [Vi e.item,Vi e.place,.int .u8 e.kind])
     exact ⟨G1,e1,fun Y=>by rw [<-l1];exact NV,G',e2,bk⟩
    obtain ⟨GT,aw,bm⟩:=st.twice hl (by omega) (by omega) e (by omega) (Vc (encE e)) (Vc [Vi e.item,Vi e.place,.int .u8 e.kind])
    cases hc:fk (RO e) es 0 with
    | none=>
      rw [hc] at g d
      simp only [Oo] at g d
      have r:=Nju (v':=e.time) hc
      have htw:Yx e kr=false:=by
       unfold Yx
       rw [<-d] at f
       cases hq:VG e kr with
       | none=>rfl
       | some z=>rw [hq] at f;cases f
      obtain ⟨G1,e1,R1,G',e2,fin⟩:=L (TD kS vI es++[(.agg #[Vi e.item,Vi e.place,.int .u8 e.kind],Vi e.time)]) (by rw [<-r];simp only [TD,O6,N4,List.map_nil];rfl)
      simp only [n56,r56,f2,f3,f8,u,m,w,NN,q,n,C,B,A,NZ,QY,Ry,Rx,Rw,Rv,Ru,QX,NI,NF,ae,W,hk,g,e1,R1,e2,SB,seval,NC,NJ,NG,NQ,reduceCtorEq,NB,place,NA,ND]
      exact Z (i+1,e::kr,tr,WA (RO e) e.time es,Sa (G1.length+3),tp,loose 7,tc) _ _ ⟨by simp only;omega,by rw [<-l,SY,htw];rfl,by simp only [Nl];omega,by simp only;omega,(by simp only [Nl,FB,Nat.reduceEqDiff]),f3,f8,u,m,rfl,fin⟩ (by simp only;omega)
    | some x=>
      obtain ⟨j,v⟩:=x
      rw [hc] at g d
      simp only [Nw] at g d
      have r:=(Njt (v':=e.time) hc).2.2
      rw [Nat.sub_zero] at r
      rw [<-d] at f
      cases hq:VG e kr with
      | none=>rw [hq] at f;cases f
      | some z=>
      rw [hq] at f
      have bf:v=z.time:=by simpa using f
      have hz:=am z (st.sub z (Ne3 hq).1)
      have bq:=am e aj
      have be:vI v=Vi z.time:=by rw [bf];rfl
      rw [be] at g
      have wd:IntKind.i64.wrap (e.time-z.time)=e.time-z.time:=NU (by omega) (by omega)
      by_cases hd:e.time-z.time<=10
      ·have htw:Yx e kr=true:=Yw.mpr ⟨z,hq,hd⟩
       simp only [n56,r56,f2,f3,f8,u,m,w,NN,q,n,C,B,A,NZ,QY,Ry,Rx,Rw,Rv,Ru,QX,NI,NF,ae,W,hk,g,wd,N6 hd,aw,SB,seval,NC,NJ,NG,NQ,reduceCtorEq,NB,place,NA,ND]
       exact Z (i+1,kr,e::tr,es,kp,Sa (F.length+3),kc,loose 7) _ _ ⟨by simp only;omega,by rw [<-l,SY,htw];rfl,by simp only;omega,by simp only [Nl];omega,f2,(by simp only [Nl,FB,Nat.reduceEqDiff]),f8,u,m,rfl,bm⟩ (by simp only;omega)
      ·have htw:Yx e kr=false:=by unfold Yx;rw [hq];exact N3 hd
       obtain ⟨G1,e1,R1,G',e2,fin⟩:=L ((TD kS vI es).set j (.agg #[Vi e.item,Vi e.place,.int .u8 e.kind],Vi e.time)) (by rw [<-r];simp only [TD,List.map_set];rfl)
       simp only [n56,r56,f2,f3,f8,u,m,w,NN,q,n,C,B,A,NZ,QY,Ry,Rx,Rw,Rv,Ru,QX,NI,NF,ae,W,hk,g,wd,Nm hd,e1,R1,e2,SB,seval,NC,NJ,NG,NQ,reduceCtorEq,NB,place,NA,ND]
       exact Z (i+1,e::kr,tr,WA (RO e) e.time es,Sa (G1.length+3),tp,loose 7,tc) _ _ ⟨by simp only;omega,by rw [<-l,SY,htw];rfl,by simp only [Nl];omega,by simp only;omega,(by simp only [Nl,FB,Nat.reduceEqDiff]),f3,f8,u,m,rfl,fin⟩ (by simp only;omega)
   ·obtain rfl:i=S.length:=by omega
    rw [<-ai,Qp] at l
    have aa:kr.reverse=(OL S).1:=Qq Prod.fst l
    have ad:tr.reverse=(OL S).2:=Qq Prod.snd l
    have ko:=st.ko
    have to:=st.to
    have lk:kr.length=(OL S).1.length:=by rw [<-aa,List.length_reverse]
    have lt:tr.length=(OL S).2.length:=by rw [<-ad,List.length_reverse]
    rw [aa] at ko
    rw [ad] at to
    rw [lk] at f2
    rw [lt] at f3
    simp only [n56,r56,f2,f3,m,w,NN,q,SB,seval,NC,NJ,NG,NQ,reduceCtorEq,NB,place,NA,ND]
    refine hQ F kp kc tp tc (ko.le (by omega)) (to.le (by omega)) st.ne ⟨by have:=st.len;omega,fun j hj _=>st.old j hj⟩ (fun h=>st.kn (List.reverse_eq_nil_iff.1 (aa.trans h))) (fun h=>st.tn (List.reverse_eq_nil_iff.1 (ad.trans h)))
theorem MO [OB] {mp:Bool} {lim c:Nat} {p:Option Addr} {S:List Ev} {H:NE} {Q:Value->NE->Prop} (hs:Sl H R3 6 p S) (hn:S.length<2 ^ 63) :
  NK Ef mp lim 55 [.slice p S.length c] H Q=Q (.bool (decide (QZ S))) H:=NK.eqF (by rw [Ntr hs hn];exact ⟨rfl,rfl⟩)
theorem Order_ok [OB] (a:∀as H,OB.eff 36 as H=none) {lim c:Nat} {p:Option Addr} {S:List Ev} {H:NE} {Q:Value->NE->Prop} (hs:Sl H R3 6 p S) (hS:QZ S) (hl:lim<=H.length)
  (e:∀G kp kc,Own H.length G encE 7 kp kc (OL S).1->Chg [] H G->((OL S).1=[]->kp=none)->Q (.tuple #[.slice kp (OL S).1.length kc,Vi 0]) (G++[])) :
  NK Ef false lim 36 [.slice p S.length c] H Q:=by
 refine Nrz (by decide) a e36 rfl ?_
 rw [b36,c36]
 have hr:=fun (X:NE) (mp:Bool) (lim:Nat) (Q:Value->NE->Prop)=>MO (mp:=mp) (lim:=lim) (Q:=Q) (c:=c) (hs.app X) (by have:=hS.1;omega)
 simp only [n36,r36,hr,Nq hS,SB,seval,NC,NJ,NG,NQ,reduceCtorEq,NB,place,NA,ND]
 rw [Nb]
 refine Nda hs hS hl fun G kp kc tp tc h1 h2 f b d g=>?_
 simp only [n36,r36,SB,seval,NC,NJ,NG,NQ,reduceCtorEq,NB,place,NA,ND]
 exact e G kp kc h1 b d
theorem Order_no [OB] (a:∀as H,OB.eff 36 as H=none) {lim c:Nat} {p:Option Addr} {S:List Ev} {H:NE} {Q:Value->NE->Prop} (hs:Sl H R3 6 p S) (hn:S.length<2 ^ 63) (hS:¬QZ S) :
  NK Ef false lim 36 [.slice p S.length c] H Q=Q (.tuple #[Vz,Vi 2]) H:=by
 refine NK.eq ?_
 refine Nrz (by decide) a e36 rfl ?_
 rw [b36,c36]
 have hr:=fun (X:NE) (mp:Bool) (lim:Nat) (Q:Value->NE->Prop)=>MO (mp:=mp) (lim:=lim) (Q:=Q) (c:=c) (hs.app X) hn
 simp only [n36,r36,hr,N3 hS,SB,seval,NC,NJ,NG,NQ,reduceCtorEq,NB,place,NA,ND]
 exact Nb H
theorem Doubled_ok [OB] (a:∀as H,OB.eff 27 as H=none) {lim c:Nat} {p:Option Addr} {S:List Ev} {H:NE} {Q:Value->NE->Prop} (hs:Sl H R3 6 p S) (hS:QZ S) (hl:lim<=H.length)
  (e:∀G tp tc,Own H.length G encE 7 tp tc (OL S).2->Chg [] H G->((OL S).2=[]->tp=none)->Q (.tuple #[.slice tp (OL S).2.length tc,Vi 0]) (G++[])) :
  NK Ef false lim 27 [.slice p S.length c] H Q:=by
 refine Nrz (by decide) a e27 rfl ?_
 rw [b27,c27]
 have hr:=fun (X:NE) (mp:Bool) (lim:Nat) (Q:Value->NE->Prop)=>MO (mp:=mp) (lim:=lim) (Q:=Q) (c:=c) (hs.app X) (by have:=hS.1;omega)
 simp only [n27,r27,hr,Nq hS,SB,seval,NC,NJ,NG,NQ,reduceCtorEq,NB,place,NA,ND]
 rw [Nb]
 refine Nda hs hS hl fun G kp kc tp tc h1 h2 f b g d=>?_
 simp only [n27,r27,SB,seval,NC,NJ,NG,NQ,reduceCtorEq,NB,place,NA,ND]
 exact e G tp tc h2 b d
theorem Doubled_no [OB] (a:∀as H,OB.eff 27 as H=none) {lim c:Nat} {p:Option Addr} {S:List Ev} {H:NE} {Q:Value->NE->Prop} (hs:Sl H R3 6 p S) (hn:S.length<2 ^ 63) (hS:¬QZ S) :
  NK Ef false lim 27 [.slice p S.length c] H Q=Q (.tuple #[Vz,Vi 2]) H:=by
 refine NK.eq ?_
 refine Nrz (by decide) a e27 rfl ?_
 rw [b27,c27]
 have hr:=fun (X:NE) (mp:Bool) (lim:Nat) (Q:Value->NE->Prop)=>MO (mp:=mp) (lim:=lim) (Q:=Q) (c:=c) (hs.app X) hn
 simp only [n27,r27,hr,N3 hS,SB,seval,NC,NJ,NG,NQ,reduceCtorEq,NB,place,NA,ND]
 exact Nb H
end Go.Proofs.YtkppjkkkdpcgiaaGreat.Fn


namespace Go.Proofs.YtkppjkkkdpcgiaaGreat.Fn
open Go.AM Go.AM.Sym Go.Net Go.Scan
def Ti (a:An):List Value:=[.int .u8 a.kind,Vi a.ev,Vi a.other,Vi a.place,Vi a.mins]
theorem QV (a:An):(Ti a).length=5:=id rfl
theorem Nqs {a:An}:(Ti a)[0]? = some (.int .u8 a.kind):=id rfl
theorem Njw {a:An}:(Ti a)[1]? = some (Vi a.ev):=id rfl
theorem N8p {a:An}:(Ti a)[2]? = some (Vi a.other):=id rfl
def Ul (b:Bool):List Value:=[.bool b]
theorem TV (b:Bool):(Ul b).length=1:=id rfl
theorem Nqt {x:Stp}:(enc3 x)[0]? = some (Vi x.1):=id rfl
theorem Njx {x:Stp}:(enc3 x)[1]? = some (Vi x.2.1):=id rfl
theorem N13 {x:Stp}:(enc3 x)[2]? = some (Vi x.2.2):=id rfl
def TG (pe:Option Addr) (n ce:Nat) (q:Option Addr) (nk cq:Nat) (r:Option Addr) (ns cr:Nat) (c:Int) (pl:Option Addr) (nl cl:Nat):List Value:=[.slice pe n ce,.slice q nk cq,.slice r ns cr,Vi c,.slice pl nl cl]
section
variable {pe q r pl:Option Addr} {n ce nk cq ns cr nl cl:Nat} {c:Int}
theorem OP:(TG pe n ce q nk cq r ns cr c pl nl cl).length=5:=id rfl
theorem R6:(TG pe n ce q nk cq r ns cr c pl nl cl)[0]? = some (.slice pe n ce):=id rfl
theorem RD:(TG pe n ce q nk cq r ns cr c pl nl cl)[1]? = some (.slice q nk cq):=id rfl
theorem RB:(TG pe n ce q nk cq r ns cr c pl nl cl)[2]? = some (.slice r ns cr):=id rfl
theorem RA:(TG pe n ce q nk cq r ns cr c pl nl cl)[3]? = some (Vi c):=id rfl
theorem QT:(TG pe n ce q nk cq r ns cr c pl nl cl)[4]? = some (.slice pl nl cl):=id rfl
end
theorem Nxw (n:Nat):(List.range (n*1)).map (fun j=>[Value.bool false].getD (j % 1) undef)=(List.replicate n false).flatMap Ul:=by
 have h1:∀j,[Value.bool false].getD (j % 1) undef=Value.bool false:=fun j=>by rw [Nat.mod_one];rfl
 simp only [h1]
 rw [List.map_const',O1,Pe]
 induction n with
 | zero=>rfl
 | succ n ih=>
   rw [O9,O9,Oq,<-ih]
   rfl
def YN (n:Nat) (ks:List Int) (i:Nat):List Bool:=(ks.take i).foldl (fun l k=>l.set k.toNat true) (List.replicate n false)
def toI (n:Nat) (ss:List Stp) (i:Nat):List Stp:=(ss.take i).foldl (fun l s=>l.set s.2.1.toNat s) (List.replicate n (0,0,0))
theorem Nbq {n:Nat} {ks:List Int} {i:Nat}:(YN n ks i).length=n:=by unfold YN;rw [Nbr,Om]
theorem Nio {n:Nat} {ks:List Stp} {i:Nat}:(toI n ks i).length=n:=by unfold toI;rw [Nip,Om]
theorem Nvd {n:Nat} {ks:List Int}:YN n ks ks.length=Ub n ks:=by unfold YN Ub;rw [Og]
theorem N3f {n:Nat} {ks:List Stp}:toI n ks ks.length=VZ n ks:=by unfold toI VZ;rw [Og]
theorem Np9 {n:Nat} {ks:List Int} {i:Nat} (h:i<ks.length):YN n ks (i+1)=(YN n ks i).set (gt ks i).toNat true:=by
 unfold YN
 rw [N0 h,List.foldl_append,PO h];rfl
theorem Nyd {n:Nat} {ks:List Stp} {i:Nat} (h:i<ks.length):toI n ks (i+1)=(toI n ks i).set (gt ks i).2.1.toNat (gt ks i):=by
 unfold toI
 rw [N0 h,List.foldl_append,PO h];rfl
theorem Noa [OB] {lim n ce cq cr nl cl:Nat} {pe q r pl:Option Addr} {ks:List Int} {ss:List Stp} {c:Int} {H:NE} {Q:Value->NE->Prop} (U:Sl H encI 1 q ks) (hr:Sl H enc3 3 r ss) (hn:n<2 ^ 30) (T:ks.length<2 ^ 40) (V:ss.length<2 ^ 40) (hl:lim<=H.length)
  (hk:∀k∈ks,0<=k/\k<n) (hs:∀s∈ss,SK n s)
  (S:∀G A B,Chg [] H G->H.length<=A->H.length<=B->NH G A=Vc ((Ub n ks).flatMap Ul)->NH G B=Vc ((VZ n ss).flatMap enc3)->Q (.tuple #[.slice (Sa A) n n,.slice (Sa B) n n]) G) :
  NK E false lim 74 [.agg (TG pe n ce q ks.length cq r ss.length cr c pl nl cl).toArray] H Q:=by
 refine RJ (by decide) e74 rfl ?_
 rw [b74,c74]
 have Z:=Nxw n
 have z3:=Nxx n
 have O:=N6 (show 0<=(n:Int)/\(n:Int)*1<=35184372088832/\(n:Int)<4611686018427387904 by omega)
 have P:=N6 (show 0<=(n:Int)/\(n:Int)*24<=35184372088832/\(n:Int)<4611686018427387904 by omega)
 simp only [n74,r74,OP,R6,RD,RB,RA,QT,NI,O,P,Z,z3,SB,seval,NC,NJ,NG,NQ,reduceCtorEq,NB,place,NA,ND]
 refine NP (fun i=>ks.length-i) (fun i fr G=>i<=ks.length/\fr 1=Vp H.length/\fr 4=.slice (Sa (H.length+1)) n n/\fr 5=.slice (Sa (H.length+2)) n n/\fr 20=.slice q ks.length cq/\fr 21=Vi ks.length/\fr 22=Vi i/\
   Chg [] H G/\NH G H.length=Vc (TG pe n ce q ks.length cq r ss.length cr c pl nl cl)/\NH G (H.length+1)=Vc ((YN n ks i).flatMap Ul)/\NH G (H.length+2)=Vc ((toI n ss 0).flatMap enc3)) 0
  ⟨Nv _,rfl,rfl,rfl,rfl,rfl,by rfl,Chg.refl.app,by rw [NV];rfl,by rw [OC];rfl,by rw [OC];rfl⟩ ?_
 intro i fr G ⟨hi,l,o,t,w,y,I,f,N,hA,hB⟩ M
 rw [NT N6k.eq_1]
 refine NL ?_
 have K:=f.len
 by_cases b:i<ks.length
 ·have sK:=f.sl U (fun a _ _ h=>(by cases h))
  obtain ⟨m,L⟩:∃m:Nat,gt ks i=m:=⟨(gt ks i).toNat,by have:=hk _ (PZ b);omega⟩
  have e:m<n:=by have:=hk _ (PZ b);omega
  have g:=Nad sK b
  rw [L] at g
  have d:=fun c (k:IntKind) (H1:NE)=>sK.idx (c:=c) (k:=k) (H1:=H1) b
  have F:IntKind.i64.wrap ((i:Int)+1)=((i+1:Nat):Int):=OA (by omega)
  have sA:Sl G Ul 1 (Sa (H.length+1)) (YN n ks i):=Sl.row TV hA
  have u:=fun c (k:IntKind) (H1:NE)=>sA.idx (c:=c) (k:=k) (H1:=H1) (i:=m) (by rw [Nbq];exact e)
  rw [Nbq] at u
  obtain ⟨G2,e2,h2,j⟩:=Xj (lim:=lim) (p:=Sa (H.length+1)) TV rfl hA (by omega) (i:=m) (by rw [Nbq];exact e) true
  simp only [Ul] at e2
  have D:(YN n ks i).set m true=YN n ks (i+1):=by rw [Np9 b,L];rfl
  rw [D] at h2
  simp only [n74,r74,l,o,t,w,y,I,NN,b,d,g,u,e2,F,SB,seval,NC,NJ,NG,NQ,reduceCtorEq,NB,place,NA,ND]
  exact M (i+1) _ _ ⟨by omega,l,o,t,w,y,rfl,(f.mut j (.inr (by omega))).app,by rw [NR (by rw [j.len];exact NM N)];exact j.cells N (by omega),by rw [NR (NM h2)];exact h2,by rw [NR (by rw [j.len];exact NM hB)];exact j.cells hB (by omega)⟩ (by omega)
 obtain rfl:i=ks.length:=by omega
 rw [Nvd] at hA
 have Y:=fun X=>(OH.refl.app (X:=X)).cells N
 simp only [n74,r74,l,o,t,w,y,I,NN,b,Y,OP,R6,RD,RB,RA,QT,NI,SB,seval,NC,NJ,NG,NQ,reduceCtorEq,NB,place,NA,ND]
 refine NP (fun i=>ss.length-i) (fun i fr G=>i<=ss.length/\fr 1=Vp H.length/\fr 4=.slice (Sa (H.length+1)) n n/\fr 5=.slice (Sa (H.length+2)) n n/\fr 32=.slice r ss.length cr/\fr 33=Vi ss.length/\fr 34=Vi i/\
   Chg [] H G/\NH G (H.length+1)=Vc ((Ub n ks).flatMap Ul)/\NH G (H.length+2)=Vc ((toI n ss i).flatMap enc3)) 0
  ⟨Nv _,l,o,t,rfl,rfl,by rfl,f.app,(OH.refl.app).cells hA,(OH.refl.app).cells hB⟩ ?_
 intro i fr G ⟨hi,l,o,t,z,C,J,f,hA,hB⟩ M
 rw [NT N6l.eq_1]
 refine NL ?_
 have K:=f.len
 by_cases b:i<ss.length
 ·have sK:=f.sl hr (fun a _ _ h=>(by cases h))
  have R:=hs _ (PZ b)
  unfold SK at R
  obtain ⟨m,L⟩:∃m:Nat,(gt ss i).2.1=m:=⟨(gt ss i).2.1.toNat,by omega⟩
  have e:m<n:=by omega
  have g:=fun X=>(sK.app X).loadCells OT b
  have d:=fun c (k:IntKind) (H1:NE)=>sK.idx (c:=c) (k:=k) (H1:=H1) b
  have F:IntKind.i64.wrap ((i:Int)+1)=((i+1:Nat):Int):=OA (by omega)
  have W:Sl G enc3 3 (Sa (H.length+2)) (toI n ss i):=Sl.row OT hB
  have v:=fun c (k:IntKind) (H1:NE)=>W.idx (c:=c) (k:=k) (H1:=H1) (i:=m) (by rw [Nio];exact e)
  rw [Nio] at v
  obtain ⟨G2,e2,h2,j⟩:=Xj (lim:=lim) (p:=Sa (H.length+2)) OT rfl hB (by omega) (i:=m) (by rw [Nio];exact e) (gt ss i)
  have D:(toI n ss i).set m (gt ss i)=toI n ss (i+1):=by rw [Nyd b,L];rfl
  rw [D] at h2
  have e1:=Njx (x:=gt ss i)
  rw [L] at e1
  simp only [n74,r74,l,o,t,z,C,J,NN,b,d,g,v,e1,e2,F,OT,NI,NF,show lim<=G.length by omega,SB,seval,NC,NJ,NG,NQ,reduceCtorEq,NB,place,NA,ND]
  exact M (i+1) _ _ ⟨by omega,l,o,t,z,C,rfl,(f.mut j (.inr (by omega))).app,by rw [NR (by rw [j.len];exact NM hA)];exact j.cells hA (by omega),by rw [NR (NM h2)];exact h2⟩ (by omega)
 obtain rfl:i=ss.length:=by omega
 rw [N3f] at hB
 simp only [n74,r74,l,o,t,z,C,J,NN,b,SB,seval,NC,NJ,NG,NQ,reduceCtorEq,NB,place,NA,ND]
 exact S _ _ _ f.app (by omega) (by omega) ((OH.refl.app).cells hA) ((OH.refl.app).cells hB)
def atE (es:List Ev) (d:Ev) (i:Nat):Prop:=Ne5 (gt es i) (VA (gt es i) (es.drop (i+1))) d
instance (es:List Ev) (d:Ev) (i:Nat):Decidable (atE es d i):=by unfold atE;infer_instance
theorem Nqf {ks:List Int} (h:ks≠[]):ks.getLast? = some (gt ks (ks.length-1)):=by
 have hl:0<ks.length:=List.length_pos_iff.2 h
 rw [List.getLast?_eq_getElem?,Nf (by omega),PO (by omega)]
def Vs (es:List Ev):Prop:=∀e∈es,0<=e.time/\e.time<=OD
theorem N4m [OB] {lim ce cq cr nl cl:Nat} {pe q r pl:Option Addr} {es:List Ev} {ks:List Int} {ns:Nat} {c now:Int} {H:NE} {Q:Value->NE->Prop} (he:Sl H encE 7 pe es) (y:Sl H encI 1 q ks) (hn:es.length<2 ^ 30) (A:ks.length<2 ^ 40) (hl:lim<=H.length) (hk:∀k∈ks,0<=k/\k<es.length) (C:Vs es) (u:0<=now/\now<=OD)
  (d:∀G p z,Chg [] H G->Sl G Ti 5 p (U2 es ks now)->Q (.slice p (U2 es ks now).length z) G) :
  NK E false lim 77 [.agg (TG pe es.length ce q ks.length cq r ns cr c pl nl cl).toArray,Vi now] H Q:=by
 refine RJ (by decide) e77 rfl ?_
 rw [b77,c77]
 by_cases h0:ks=[]
 ·subst h0
  simp only [n77,r77,OP,R6,RD,RB,RA,QT,NI,Nu,SB,seval,NC,NJ,NG,NQ,reduceCtorEq,NB,place,NA,ND]
  exact d _ none 0 Chg.refl.app rfl
 have B:0<ks.length:=List.length_pos_iff.2 h0
 obtain ⟨m,x⟩:∃m:Nat,gt ks (ks.length-1)=m:=⟨(gt ks (ks.length-1)).toNat,by have:=hk _ (PZ (show ks.length-1<ks.length by omega));omega⟩
 have g:m<es.length:=by have:=hk _ (PZ (show ks.length-1<ks.length by omega));omega
 have t:=Nqf h0
 rw [x] at t
 have j:¬((ks.length:Nat):Int)=0:=by omega
 have l:IntKind.i64.wrap ((ks.length:Int)-1)=((ks.length-1:Nat):Int):=by rw [NU (by omega) (by omega)];omega
 have b:=fun X=>Nad y (i:=ks.length-1) (by omega) X
 rw [x] at b
 have a:=fun c (k:IntKind) (H1:NE)=>y.idx (c:=c) (k:=k) (H1:=H1) (i:=ks.length-1) (by omega)
 have f:=fun X=>(he.app X).loadCells NZ g
 have e:=fun c (k:IntKind) (H1:NE)=>he.idx (c:=c) (k:=k) (H1:=H1) g
 have w:=C _ (PZ g)
 unfold OD at w u
 have n:IntKind.i64.wrap (now-(gt es m).time)=now-(gt es m).time:=NU (by omega) (by omega)
 have D:((m:Nat):Int).toNat=m:=Ob m
 have o:U2 es ks now=if (gt es m).kind=4\/now-(gt es m).time<=20160 then [] else [⟨7,(m:Int),0,(gt es m).place,now-(gt es m).time⟩]:=by unfold U2;rw [t];rfl
 by_cases s:(gt es m).kind=4
 ·rw [Ni (.inl s)] at o
  rw [o] at d
  simp only [n77,r77,OP,R6,RD,RB,RA,QT,NZ,QY,Ry,Rx,Rw,Rv,Ru,QX,NI,Nm j,l,b,a,f,e,NF,hl,n,N6 s,SB,seval,NC,NJ,NG,NQ,reduceCtorEq,NB,place,NA,ND]
  exact d _ none 0 Chg.refl.app rfl
 by_cases v:now-(gt es m).time<=20160
 ·rw [Ni (.inr v)] at o
  rw [o] at d
  simp only [n77,r77,OP,R6,RD,RB,RA,QT,NZ,QY,Ry,Rx,Rw,Rv,Ru,QX,NI,Nm j,l,b,a,f,e,NF,hl,n,Nm s,N6 v,SB,seval,NC,NJ,NG,NQ,reduceCtorEq,NB,place,NA,ND]
  exact d _ none 0 Chg.refl.app rfl
 rw [Ng (by rintro (h | h);exact s h;exact v h)] at o
 rw [o] at d
 simp only [n77,r77,OP,R6,RD,RB,RA,QT,NZ,QY,Ry,Rx,Rw,Rv,Ru,QX,NI,Nm j,l,b,a,f,e,NF,hl,n,Nm s,Nm v,SB,seval,NC,NJ,NG,NQ,reduceCtorEq,NB,place,NA,ND]
 exact d _ _ _ Chg.refl.app (Sl.row (ro:=false) QV (by rw [OC];rfl))
theorem Nnq [OB] {mp:Bool} {lim B:Nat} {x y:Ev} {o:Bool} {H:NE} {Q:Value->NE->Prop} (hB:NH H B=.cells o (encE x)) :
  NK E mp lim 110 [.agg (encE y).toArray,Vp B] H Q=Q (.bool (decide (ZL y x))) H:=by
 refine pc (by decide) Oep rfl rfl ?_
 rw [Ofu,N9i]
 have a:=fun X=>(OH.refl.app (X:=X)).cells hB
 by_cases h1:y.place=x.place
 ·by_cases h2:y.kind=x.kind
  ·simp only [n110,N7n,a,NZ,QY,Ry,Rx,Rw,Rv,Ru,QX,NI,NF,N6 h1,N6 h2,N6 (show ZL y x from ⟨h1,h2⟩),SB,seval,NC,NJ,NG,NQ,reduceCtorEq,NB,place,NA,ND]
  ·simp only [n110,N7n,a,NZ,QY,Ry,Rx,Rw,Rv,Ru,QX,NI,NF,N6 h1,Nm h2,Nm (fun h:ZL y x=>h2 h.2),SB,seval,NC,NJ,NG,NQ,reduceCtorEq,NB,place,NA,ND]
 ·simp only [n110,N7n,a,NZ,QY,Ry,Rx,Rw,Rv,Ru,QX,NI,NF,Nm h1,Nm (fun h:ZL y x=>h1 h.1),SB,seval,NC,NJ,NG,NQ,reduceCtorEq,NB,place,NA,ND]
def N29:ACode:=RP (RP (RP (RP (RP c76))))
theorem N5m:c76=.seq (TH c76) (.seq (TH (RP c76)) (.seq (TH (RP (RP c76))) (.seq (TH (RP (RP (RP c76)))) (.seq (TH (RP (RP (RP (RP c76))))) N29)))):=rfl
def Nb0 (x:Ev) (i:Nat) (lv:Int) (tw:List Ev):List An:=(tw.filter fun y=>Ne5 x lv y).map (Nv4 x i)
theorem Nv3 {x:Ev} {i j:Nat} {lv:Int} {tw:List Ev} (h:j<tw.length):Nb0 x i lv (tw.take (j+1))=if Ne5 x lv (gt tw j) then Nb0 x i lv (tw.take j)++[Nv4 x i (gt tw j)] else Nb0 x i lv (tw.take j):=by
 unfold Nb0
 rw [N0 h,List.filter_append,<-PO h]
 by_cases a:Ne5 x lv (gt tw j)
 ·rw [Ni a,List.filter_cons_of_pos (by simpa using a),List.filter_nil,O6];rfl
 ·rw [Ng a,Rb (by simpa using a),List.filter_nil,Nb]
theorem N17 {x:Ev} {i:Nat} {lv:Int} {tw:List Ev}:(Nb0 x i lv tw).length<=tw.length:=by
 unfold Nb0;rw [Ns];exact Q0 ..
theorem Nsu [OB] {lim B ct i:Nat} {pt:Option Addr} {x:Ev} {tw:List Ev} {lv:Int} {H G:NE} {fr:Nat->Value} {Q:Value->NE->Prop} (hB:NH G B=Vc (encE x)) (htw:Sl H encE 7 pt tw) (u:Chg [] H G) (Z:H.length<=B) (hn:tw.length<2 ^ 30) (hl:lim<=H.length) (ht:Vs tw) (hx:0<=x.time/\x.time<=OD)
  (f1:fr 1=.slice pt tw.length ct) (f2:fr 2=Vi i) (S:fr 7=Vp B) (T:fr 8=.func (.func 110) #[] #[Vp B]) (f9:fr 9=Vi lv)
  (hQ:∀G p F,Chg [] H G->Sl G Ti 5 p (Nb0 x i lv tw)->Q (.slice p (Nb0 x i lv tw).length F) G) :
  PU E a76 lim [.code N29] fr G Q:=by
 unfold N29
 refine NL ?_
 simp only [TH,RP,c76,n76,r76,f1,f2,S,T,f9,SB,seval,NC,NJ,NG,NQ,reduceCtorEq,NB,place,NA,ND]
 refine NP (fun j:Nat×Option Addr×Nat=>tw.length-j.1) (fun j fr G=>j.1<=tw.length/\fr 2=Vi i/\fr 7=Vp B/\fr 8=.func (.func 110) #[] #[Vp B]/\fr 9=Vi lv/\fr 12=.slice j.2.1 (Nb0 x i lv (tw.take j.1)).length j.2.2/\fr 37=.slice pt tw.length ct/\fr 38=Vi tw.length/\fr 39=Vi j.1/\
   Chg [] H G/\NH G B=Vc (encE x)/\Own (B+1) G Ti 5 j.2.1 j.2.2 (Nb0 x i lv (tw.take j.1))) (0,none,0)
  ⟨Nv _,f2,S,T,f9,rfl,rfl,rfl,by rfl,u.app,(OH.refl.app).cells hB,.nil⟩ ?_
 rintro ⟨j,p,F⟩ fr G ⟨hj,q,r,s,t,b,d,e,m,u,hB,o⟩ K
 simp only at hj b m o K
 rw [NT N6j.eq_1]
 refine NL ?_
 have V:=u.len
 by_cases f:j<tw.length
 case neg=>
  obtain rfl:j=tw.length:=by omega
  rw [Og] at b o
  simp only [n76,r76,q,r,s,t,b,d,e,m,NN,f,SB,seval,NC,NJ,NG,NQ,reduceCtorEq,NB,place,NA,ND]
  exact hQ _ _ _ u.app ((o.sl QV).app _)
 have Y:=u.sl htw (fun a _ _ h=>(by cases h))
 have z:=fun X=>(Y.app X).loadCells NZ f
 have l:=fun c (k:IntKind) (H1:NE)=>Y.idx (c:=c) (k:=k) (H1:=H1) f
 have A:IntKind.i64.wrap ((j:Int)+1)=((j+1:Nat):Int):=OA (by omega)
 have w:lim<=G.length:=by omega
 have O:=NM hB
 have g:=Nv3 (x:=x) (i:=i) (lv:=lv) f
 have U:(Nb0 x i lv (tw.take j)).length<=tw.length:=Qh N17 (by rw [Ol];omega)
 have P:=ht _ (PZ f)
 generalize gt tw j=y at *
 have n:=fun X=>(OH.refl.app (X:=X)).cells hB
 have v:=fun X (mp:Bool) (lim:Nat) (Q:Value->NE->Prop)=>Nnq (mp:=mp) (lim:=lim) (x:=x) (y:=y) (Q:=Q) (n X)
 by_cases D:ZL y x
 case neg=>
  rw [Ng (fun h=>D h.1)] at g
  rw [<-g] at b o
  simp only [n76,r76,q,r,s,t,b,d,e,m,NN,f,z,l,A,w,v,n,NZ,QY,Ry,Rx,Rw,Rv,Ru,QX,NI,NF,ge_iff_le,N3 D,SB,seval,NC,NJ,NG,NQ,reduceCtorEq,NB,place,NA,ND]
  exact K (j+1,p,F) _ _ ⟨by omega,q,r,s,t,b,d,e,rfl,u.app,(OH.refl.app).cells hB,o.app _⟩ (by simp only;omega)
 by_cases I:x.time<=y.time
 case neg=>
  rw [Ng (fun h=>I h.2.1)] at g
  rw [<-g] at b o
  simp only [n76,r76,q,r,s,t,b,d,e,m,NN,f,z,l,A,w,v,n,NZ,QY,Ry,Rx,Rw,Rv,Ru,QX,NI,NF,ge_iff_le,Nq D,Nm I,SB,seval,NC,NJ,NG,NQ,reduceCtorEq,NB,place,NA,ND]
  exact K (j+1,p,F) _ _ ⟨by omega,q,r,s,t,b,d,e,rfl,u.app,(OH.refl.app).cells hB,o.app _⟩ (by simp only;omega)
 by_cases M:y.time<lv
 case neg=>
  rw [Ng (fun h=>M h.2.2)] at g
  rw [<-g] at b o
  simp only [n76,r76,q,r,s,t,b,d,e,m,NN,f,z,l,A,w,v,n,NZ,QY,Ry,Rx,Rw,Rv,Ru,QX,NI,NF,ge_iff_le,Nq D,N6 I,Nm M,SB,seval,NC,NJ,NG,NQ,reduceCtorEq,NB,place,NA,ND]
  exact K (j+1,p,F) _ _ ⟨by omega,q,r,s,t,b,d,e,rfl,u.app,(OH.refl.app).cells hB,o.app _⟩ (by simp only;omega)
 rw [Ni ⟨D,I,M⟩] at g
 unfold OD at hx P
 have R:IntKind.i64.wrap (y.time-x.time)=y.time-x.time:=NU (by omega) (by omega)
 obtain ⟨G2,e2,L,J,C,W,_⟩:=o.step (lim':=lim) (bytes:=40) (by omega) QV (by decide) (Nv4 x i y) (by unfold PY;omega) (by omega) (by omega) [Vc (encE y),Vc (Ti (Nv4 x i y))] (G.length+1) 1 (by rw [OC];rfl)
 have N:Ti (Nv4 x i y)=[.int .u8 6,Vi i,Vi 0,Vi x.place,Vi (y.time-x.time)]:=rfl
 rw [N] at e2
 simp only [n76,r76,q,r,s,t,b,d,e,m,NN,f,z,l,A,w,v,n,NZ,QY,Ry,Rx,Rw,Rv,Ru,QX,NI,NF,ge_iff_le,Nq D,N6 I,N6 M,R,e2,SB,seval,NC,NJ,NG,NQ,reduceCtorEq,NB,place,NA,ND]
 exact K (j+1,Sa (G.length+2),loose 5) _ _ ⟨by omega,q,r,s,t,by rw [g,No];rfl,d,e,rfl,J [] H (by omega) u,by rw [C B O (fun a ha=>by have:=(o.block ha).1;omega)];exact hB,by rw [g];exact L⟩ (by simp only;omega)
theorem Nqw [OB] {lim ce cq cr nl cl ct nk ns i:Nat} {pe q r pl pt:Option Addr} {es tw:List Ev} {c:Int} {H:NE} {Q:Value->NE->Prop} (he:Sl H encE 7 pe es) (hce:Un 7 ce es.length) (htw:Sl H encE 7 pt tw) (hi:i<es.length) (hn:es.length<2 ^ 30) (F:tw.length<2 ^ 30) (hl:lim<=H.length) (Z:Vs es) (I:Vs tw)
  (A:∀G p U,Chg [] H G->Sl G Ti 5 p (QK es tw i)->Q (.slice p (QK es tw i).length U) G) :
  NK E false lim 76 [.agg (TG pe es.length ce q nk cq r ns cr c pl nl cl).toArray,.slice pt tw.length ct,Vi i] H Q:=by
 refine RJ (by decide) e76 rfl ?_
 rw [b76,N5m]
 have m:=fun X=>(he.app X).loadCells NZ hi
 have e:=fun c (k:IntKind) (H1:NE)=>he.idx (c:=c) (k:=k) (H1:=H1) hi
 have n:IntKind.i64.wrap ((i:Int)+1)=((i+1:Nat):Int):=OA (by omega)
 obtain ⟨q1,k1,x1,P,_,_,_⟩:=UV (vlo:=some (Vi ((i+1:Nat):Int))) (vhi:=none) (lo:=i+1) (hi:=es.length) he hce NZ (fun cap R=>by rw [Nq6 (by omega) (by omega),Ob]) (by omega) (Nd _) (by omega)
 rw [Og] at P
 simp only [TH,RP,c76,n76,r76,OP,R6,RD,RB,RA,QT,NI,m,e,n,NF,hl,NZ,x1,SB,seval,NC,NJ,NG,NQ,reduceCtorEq,NB,place,NA,ND]
 obtain ⟨D,M⟩:∃D,D=es.drop (i+1):=⟨_,rfl⟩
 have N:es.length-(i+1)=D.length:=by rw [M,Pw]
 rw [<-M] at P
 rw [N]
 have V:QK es tw i=Nb0 (gt es i) i (VA (gt es i) D) tw:=by unfold QK Nb0;rw [M]
 rw [V] at A
 have J:=Z _ (PZ hi)
 generalize gt es i=x at *
 have W:D.length<2 ^ 30:=by omega
 refine NP (fun j:Nat=>D.length-j) (fun j fr G=>j<=D.length/\fr 1=.slice pt tw.length ct/\fr 2=Vi i/\fr 7=Vp (H.length+1)/\fr 8=.func (.func 110) #[] #[Vp (H.length+1)]/\fr 9=Vi (OD+1)/\fr 25=.slice q1 D.length k1/\fr 26=Vi D.length/\fr 27=Vi j/\
   Chg [] H G/\NH G (H.length+1)=Vc (encE x)/\VA x D=VA x (D.drop j)) 0
  ⟨Nv _,rfl,rfl,rfl,rfl,rfl,rfl,rfl,by rfl,Chg.refl.app,by rw [OC];rfl,rfl⟩ ?_
 intro j fr G ⟨hj,s,t,u,v,w,g,l,o,z,hB,b⟩ Y
 rw [NT N6i.eq_1]
 refine NL ?_
 have S:=z.len
 by_cases d:j<D.length
 case neg=>
  obtain rfl:j=D.length:=by omega
  rw [Qp] at b
  have f:VA x D=OD+1:=b
  rw [f] at A
  simp only [n76,r76,s,t,u,v,w,g,l,o,NN,d,SB,seval,NC,NJ,NG,NQ,reduceCtorEq,NB,place,NA,ND]
  exact Nsu (lv:=OD+1) ((OH.refl.app).cells hB) htw z.app (by omega) F hl I J s t u v w A
 have T:=z.sl P (fun a _ _ h=>(by cases h))
 have m:=fun X=>(T.app X).loadCells NZ d
 have e:=fun c (k:IntKind) (H1:NE)=>T.idx (c:=c) (k:=k) (H1:=H1) d
 have n:IntKind.i64.wrap ((j:Int)+1)=((j+1:Nat):Int):=OA (by omega)
 have C:lim<=G.length:=by omega
 have O:D.drop j=gt D j::D.drop (j+1):=by rw [Ow d,PO d]
 rw [O] at b
 generalize gt D j=y at *
 have L:=fun X=>(OH.refl.app (X:=X)).cells hB
 have B:=fun X (mp:Bool) (lim:Nat) (Q:Value->NE->Prop)=>Nnq (mp:=mp) (lim:=lim) (x:=x) (y:=y) (Q:=Q) (L X)
 by_cases K:ZL y x
 ·have f:VA x D=y.time:=b.trans (by unfold VA;rw [Ni K])
  rw [f] at A
  simp only [n76,r76,s,t,u,v,w,g,l,o,NN,d,m,e,n,C,B,NZ,QY,Ry,Rx,Rw,Rv,Ru,QX,NI,NF,Nq K,SB,seval,NC,NJ,NG,NQ,reduceCtorEq,NB,place,NA,ND]
  exact Nsu (lv:=y.time) ((OH.refl.app).cells hB) htw z.app (by omega) F hl I J s t u v rfl A
 ·have f:VA x D=VA x (D.drop (j+1)):=b.trans (by conv=>lhs;unfold VA;rw [Ng K])
  simp only [n76,r76,s,t,u,v,w,g,l,o,NN,d,m,e,n,C,B,NZ,QY,Ry,Rx,Rw,Rv,Ru,QX,NI,NF,N3 K,SB,seval,NC,NJ,NG,NQ,reduceCtorEq,NB,place,NA,ND]
  exact Y (j+1) _ _ ⟨by omega,s,t,u,v,w,g,l,rfl,z.app,(OH.refl.app).cells hB,f⟩ (by omega)
theorem N1k {L:List Leg} (c:L.Pairwise (fun a b=>a.id≠b.id)) {l:Leg} (hl:l∈L):L.find? (fun x=>x.id=l.id)=some l:=by
 cases h:L.find? (fun x=>x.id=l.id) with
 | none=>exact absurd (List.find?_eq_none.1 h l hl) (by simp)
 | some y=>
   have h1:=List.find?_some h
   have h2:=Rp h
   rw [Nmp c y h2 l hl (by simpa using h1)]
theorem N42 {α β:Type} [Inhabited α] [Inhabited β] {f:α->β} {l:List α} {i:Nat} (h:i<l.length):gt (l.map f) i=f (gt l i):=by
 rw [PO (by simpa using h),PO h,Py]
theorem Nuz [OB] {lim ce cq cr nl cl cp cL nk ns:Nat} {pe q r pl pp pL:Option Addr} {P:List Int} {L:List Leg} {es:List Ev} {s:Stp} {c:Int} {H:NE} {Q:Value->NE->Prop} (hN:NetIn H pp pL P L) (he:Sl H encE 7 pe es) (hs:SK es.length s) (hn:es.length<2 ^ 30) (hl:lim<=H.length)
  (i:∀G p c',Chg [] H G->Sl G Ti 5 p (TU P L es s)->Q (.slice p (TU P L es s).length c') G) :
  NK E false lim 109 [.agg (TG pe es.length ce q nk cq r ns cr c pl nl cl).toArray,.agg (Tw pp P.length cp pL L.length cL).toArray,.agg (enc3 s).toArray] H Q:=by
 refine RJ (by decide) Oeq rfl ?_
 rw [Ofv,c109]
 unfold SK at hs
 obtain ⟨m,hm⟩:∃m:Nat,s.1=m:=⟨s.1.toNat,by omega⟩
 obtain ⟨k,hk⟩:∃k:Nat,s.2.1=k:=⟨s.2.1.toNat,by omega⟩
 have V:m<es.length:=by omega
 have R:k<es.length:=by omega
 have e0:=Nqt (x:=s)
 have e1:=Njx (x:=s)
 rw [hm] at e0
 rw [hk] at e1
 have ao:=fun X=>(he.app X).loadCells NZ V
 have ap:=fun X=>(he.app X).loadCells NZ R
 have am:=fun c (k:IntKind) (H1:NE)=>he.idx (c:=c) (k:=k) (H1:=H1) V
 have an:=fun c (k:IntKind) (H1:NE)=>he.idx (c:=c) (k:=k) (H1:=H1) R
 have d:TU P L es s=(Mc P L (gt es m).place (gt es k).place (gt es m).time).dropLast.map (Xr s):=by unfold TU;rw [hm,hk,Ob,Ob]
 simp only [n109,Nou,OP,R6,RD,RB,RA,QT,NZ,QY,Ry,Rx,Rw,Rv,Ru,QX,OT,e0,e1,NI,ao,ap,am,an,NF,hl,PS,SB,seval,NC,NJ,NG,NQ,reduceCtorEq,NB,place,NA,ND]
 generalize gt es m=a at *
 generalize gt es k=b at *
 refine N9y (hN.app _) (by simp;omega) (fun G he e=>?_) (fun G he hA e=>?_) (fun G v w pw cw he e hv hA hB av n=>?_)
 ·rw [Nxz he] at d
  rw [d] at i
  refine NL ?_
  simp only [n109,Nou,Nm he,SB,seval,NC,NJ,NG,NQ,reduceCtorEq,NB,place,NA,ND]
  exact i _ none 0 e.pre.app rfl
 ·rw [Ns5 hA] at d
  rw [d] at i
  refine NL ?_
  simp only [n109,Nou,SB,seval,NC,NJ,NG,NQ,reduceCtorEq,NB,place,NA,ND]
  exact i _ none 0 e.pre.app rfl
 have Z:Mc P L a.place b.place a.time=w:=Ndr ⟨he,v,hv,hA,hB⟩
 rw [Z] at d
 by_cases h0:w=[]
 ·subst h0
  rw [d] at i
  refine NL ?_
  simp only [n109,Nou,Nu,SB,seval,NC,NJ,NG,NQ,reduceCtorEq,NB,place,NA,ND]
  exact i _ none 0 e.pre.app rfl
 have au:0<w.length:=List.length_pos_iff.2 h0
 have ai:¬((w.length:Nat):Int)=0:=by omega
 have Y:IntKind.i64.wrap ((w.length:Int)-1)=((w.length-1:Nat):Int):=by rw [NU (by omega) (by omega)];omega
 have g:=n.capOk
 have W:=n.sl OT
 obtain ⟨q1,k1,x1,s1,_,_,_⟩:=UV (vlo:=none) (vhi:=some (Vi ((w.length-1:Nat):Int))) (lo:=0) (hi:=w.length-1) W g OT (fun cap g=>by rw [M4 (by omega) (by rw [Ns] at g;omega),Ob]) (Nv _) (by rw [Ns];omega) (by rw [Ns];omega)
 obtain ⟨D,hD⟩:∃D,D=w.dropLast:=⟨_,rfl⟩
 have K:D.length=w.length-1:=by rw [hD,List.length_dropLast]
 rw [Oy,<-List.map_take,<-List.dropLast_eq_take,<-hD] at s1
 rw [Ns,Nat.sub_zero,<-K] at x1
 rw [<-hD] at d
 rw [d] at i
 rw [Ns] at i
 rw [<-K] at Y
 have U:∀x∈D,x.1∈L:=fun x hx=>hB.way.mem x (by rw [hD] at hx;exact List.dropLast_subset _ hx)
 have ae:=Ne2 (Vt (M0 he).1).2.2.2
 refine NL ?_
 simp only [n109,Nou,Nm ai,Y,x1,SB,seval,NC,NJ,NG,NQ,reduceCtorEq,NB,place,NA,ND]
 have S:=e.len
 simp at S
 have l:=e.cells (OC (X:=[_,Vc (Tw pp P.length cp pL L.length cL),Vc (enc3 s),_,_]) (j:=1)) (by simp)
 have o:=e.cells (OC (X:=[_,Vc (Tw pp P.length cp pL L.length cL),Vc (enc3 s),_,_]) (j:=2)) (by simp)
 have N:=(hN.app [Vc (TG pe es.length ce q nk cq r ns cr c pl nl cl),Vc (Tw pp P.length cp pL L.length cL),Vc (enc3 s),Vc (encE a),Vc (encE b)]).sim fun b ro c h=>e.cells h (by simp)
 obtain ⟨F,ac⟩:∃F,F=G:=⟨_,rfl⟩
 have J:=e.pre
 rw [<-ac] at l o N s1 J S⊢
 clear e n W
 refine NP (fun j:Nat×Option Addr×Nat=>D.length-j.1) (fun j fr G=>j.1<=D.length/\fr 4=Vp (H.length+1)/\fr 5=Vp (H.length+2)/\fr 11=.slice j.2.1 j.1 j.2.2/\fr 52=.slice q1 D.length k1/\fr 53=Vi D.length/\fr 54=Vi j.1/\
   Chg [] F G/\Own F.length G Ti 5 j.2.1 j.2.2 ((D.take j.1).map (Xr s))) (0,none,0)
  ⟨Nv _,rfl,rfl,rfl,rfl,rfl,by rfl,Chg.refl.app,.nil⟩ ?_
 rintro ⟨j,p,c'⟩ fr G ⟨hj,g4,g5,u,y,z,A,e,n⟩ M
 simp only at hj u A n M
 rw [NT N03.eq_1]
 refine NL ?_
 have aq:=e.len
 have O:((D.take j).map (Xr s)).length=j:=by rw [Ns,Ol];omega
 by_cases f:j<D.length
 case neg=>
  obtain rfl:j=D.length:=by omega
  rw [Og] at n
  simp only [n109,Nou,g4,g5,u,y,z,A,NN,f,SB,seval,NC,NJ,NG,NQ,reduceCtorEq,NB,place,NA,ND]
  exact i _ _ _ (J.trans e).app ((n.sl QV).app _)
 have sT:=e.sl s1 (fun a _ _ h=>(by cases h))
 have T:j<(D.map V8).length:=by rw [Ns];exact f
 have C:=fun X=>(sT.app X).loadCells OT T
 have t:=fun c (k:IntKind) (H1:NE)=>sT.idx (c:=c) (k:=k) (H1:=H1) T
 rw [N42 f] at C
 rw [Ns] at t
 have al:IntKind.i64.wrap ((j:Int)+1)=((j+1:Nat):Int):=OA (by omega)
 have ag:lim<=G.length:=by omega
 have ah:=U _ (PZ f)
 have ak:(D.take (j+1)).map (Xr s)=(D.take j).map (Xr s)++[Xr s (gt D j)]:=by
  rw [N0 f,O6,PO f];rfl
 generalize gt D j=x at *
 have ad:=N1k ae ah
 have e3:enc3 (V8 x)=[Vi x.1.id,Vi x.2,Vi (x.2+x.1.mins)]:=rfl
 rw [e3] at C
 have xN:=fun X=>(OH.refl.app (X:=X)).cells (e.cells l (by simp))
 have xS:=fun X=>(OH.refl.app (X:=X)).cells (e.cells o (by simp))
 have B:=fun X (mp:Bool) (lim:Nat) (Q:Value->NE->Prop)=>find_ok (mp:=mp) (lim:=lim) (cp:=cp) (cl:=cL) (a:=x.1.id) (Q:=Q) ((N.sim fun b ro c h=>e.cells h (by simp)).app X)
 rw [ad] at B
 simp only at B
 obtain ⟨G2,e2,aa,I,aj,ar,_⟩:=n.step (lim':=lim) (bytes:=40) (by omega) QV (by decide) (Xr s x) (by rw [O];unfold PY;omega) (by omega) (by omega) [Vc [Vi x.1.id,Vi x.2,Vi (x.2+x.1.mins)],Vc (RG x.1),Vc (Ti (Xr s x))] (G.length+2) 1 (by rw [OC];rfl)
 have ab:Ti (Xr s x)=[.int .u8 5,Vi k,Vi m,Vi x.1.dst,Vi 0]:=by rw [<-hk,<-hm];rfl
 rw [O,ab] at e2
 simp only [n109,Nou,g4,g5,u,y,z,A,NN,f,C,t,al,ag,xN,xS,B,PS,e0,e1,OT,OI,QH,QG,QF,QE,QD,QC,QB,QA,NI,NF,e2,SB,seval,NC,NJ,NG,NQ,reduceCtorEq,NB,place,NA,ND]
 exact M (j+1,Sa (G.length+3),loose 5) _ _ ⟨by omega,g4,g5,rfl,y,z,rfl,I [] F (Nd _) e,by rw [ak];exact aa⟩ (by simp only;omega)
theorem Nuh [OB] {lim ce cq cr nl cl cp cL nk ns:Nat} {pe q r pl pp pL:Option Addr} {P:List Int} {L:List Leg} {es:List Ev} {s:Stp} {c:Int} {H:NE} {Q:Value->NE->Prop} (B:NetIn H pp pL P L) (he:Sl H encE 7 pe es) (hs:SK es.length s) (hn:es.length<2 ^ 30) (hl:lim<=H.length)
  (b:∀G p l,Chg [] H G->Sl G Ti 5 p (SS P L es s)->Q (.slice p (SS P L es s).length l) G) :
  NK E false lim 75 [.agg (TG pe es.length ce q nk cq r ns cr c pl nl cl).toArray,.agg (Tw pp P.length cp pL L.length cL).toArray,.agg (enc3 s).toArray] H Q:=by
 refine RJ (by decide) e75 rfl ?_
 rw [b75,c75]
 have y:=hs
 unfold SK at hs
 obtain ⟨m,z⟩:∃m:Nat,s.1=m:=⟨s.1.toNat,by omega⟩
 obtain ⟨k,hk⟩:∃k:Nat,s.2.1=k:=⟨s.2.1.toNat,by omega⟩
 have v:m<es.length:=by omega
 have t:k<es.length:=by omega
 have e0:=Nqt (x:=s)
 have e1:=Njx (x:=s)
 have e2:=N13 (x:=s)
 rw [z] at e0
 rw [hk] at e1
 have f:∀X,AM.loadCells (H++X) ((Xy pe 7 m).add 0) 6=some (R3 (gt es m)):=fun X=>(he.app X).loadSub NZ (j:=0) (n:=6) v (by omega)
 have g:∀X,AM.loadCells (H++X) ((Xy pe 7 k).add 0) 6=some (R3 (gt es k)):=fun X=>(he.app X).loadSub NZ (j:=0) (n:=6) t (by omega)
 have d:=fun c (k:IntKind) (H1:NE)=>he.idx (c:=c) (k:=k) (H1:=H1) v
 have e:=fun c (k:IntKind) (H1:NE)=>he.idx (c:=c) (k:=k) (H1:=H1) t
 have a:SS P L es s=if (gt es m).kind=4 then [⟨2,(k:Int),(m:Int),(gt es k).place,0⟩] else if s.2.2=80 then [⟨3,(k:Int),(m:Int),(gt es k).place,0⟩] else if 0<s.2.2 then [⟨4,(k:Int),(m:Int),(gt es k).place,s.2.2⟩]
   else if (gt es m).place≠(gt es k).place then TU P L es s else []:=by unfold SS;rw [z,hk,Ob,Ob]
 have u:=fun X (Q:Value->NE->Prop) (b:∀G p l,Chg [] (H++X) G->Sl G Ti 5 p (TU P L es s)->Q (.slice p (TU P L es s).length l) G)=>Nuz (lim:=lim) (ce:=ce) (cq:=cq) (cr:=cr) (nl:=nl) (cl:=cl) (cp:=cp) (cL:=cL) (nk:=nk) (ns:=ns) (q:=q) (r:=r) (pl:=pl) (c:=c) (B.app X) (he.app X) y hn (by simp;omega) b
 by_cases h:(gt es m).kind=4
 ·rw [Ni h] at a
  rw [a] at b
  simp only [n75,r75,OP,R6,RD,RB,RA,QT,OY,Uh,Vh,Vg,Vf,Ve,Vd,OT,e0,e1,e2,NI,f,g,d,e,NF,hl,gt_iff_lt,N6 h,SB,seval,NC,NJ,NG,NQ,reduceCtorEq,NB,place,NA,ND]
  exact b _ _ _ Chg.refl.app (Sl.row (ro:=false) QV (by rw [OC];rfl))
 rw [Ng h] at a
 by_cases i:s.2.2=80
 ·rw [Ni i] at a
  rw [a] at b
  simp only [n75,r75,OP,R6,RD,RB,RA,QT,OY,Uh,Vh,Vg,Vf,Ve,Vd,OT,e0,e1,e2,NI,f,g,d,e,NF,hl,gt_iff_lt,Nm h,N6 i,SB,seval,NC,NJ,NG,NQ,reduceCtorEq,NB,place,NA,ND]
  exact b _ _ _ Chg.refl.app (Sl.row (ro:=false) QV (by rw [OC];rfl))
 rw [Ng i] at a
 by_cases o:0<s.2.2
 ·rw [Ni o] at a
  rw [a] at b
  simp only [n75,r75,OP,R6,RD,RB,RA,QT,OY,Uh,Vh,Vg,Vf,Ve,Vd,OT,e0,e1,e2,NI,f,g,d,e,NF,hl,gt_iff_lt,Nm h,Nm i,N6 o,Nm (show ¬H.length=H.length+3 by omega),not_false_eq_true,AM.loadX,SB,seval,NC,NJ,NG,NQ,reduceCtorEq,NB,place,NA,ND]
  exact b _ _ _ Chg.refl.app (Sl.row (ro:=false) QV (by rw [OC];rfl))
 rw [Ng o] at a
 by_cases w:(gt es m).place=(gt es k).place
 ·rw [Ng (by simpa using w)] at a
  rw [a] at b
  simp only [n75,r75,OP,R6,RD,RB,RA,QT,OY,Uh,Vh,Vg,Vf,Ve,Vd,OT,e0,e1,e2,NI,f,g,d,e,NF,hl,gt_iff_lt,Nm h,Nm i,Nm o,N6 w,SB,seval,NC,NJ,NG,NQ,reduceCtorEq,NB,place,NA,ND]
  exact b _ none 0 Chg.refl.app rfl
 rw [Ni w] at a
 rw [a] at b
 simp only [n75,r75,OP,R6,RD,RB,RA,QT,OY,Uh,Vh,Vg,Vf,Ve,Vd,OT,e0,e1,e2,NI,f,g,d,e,NF,hl,gt_iff_lt,Nm h,Nm i,Nm o,Nm w,PS,SB,seval,NC,NJ,NG,NQ,reduceCtorEq,NB,place,NA,ND]
 refine u _ _ fun G p l A hS=>?_
 refine NL ?_
 simp only [n75,r75,SB,seval,NC,NJ,NG,NQ,reduceCtorEq,NB,place,NA,ND]
 exact b _ p l A.pre.app (hS.app _)
structure G38 (G1:NE) (B:Nat) (G:NE) (l:List An) (p:Option Addr) (cap:Nat):Prop where
 chg:Chg [B] G1 G
 cell:NH G B=Vc [.slice p l.length cap]
 own:Own G1.length G Ti 5 p cap l
theorem G38.grow {G1 G G2:NE} {B cap:Nat} {l:List An} {p:Option Addr} (h:G38 G1 B G l p cap) (hc:Chg [] G G2):G38 G1 B G2 l p cap:=
 ⟨h.chg.trans' hc fun j hj=>(by cases hj),hc.cells h.cell (by simp),h.own.chg hc (fun a _=>by simp)⟩
theorem G38.add [OB] {lim B cap q:Nat} {p n:Option Addr} {l m:List An} {G1 G:NE} {Q:Value->NE->Prop} (h:G38 G1 B G l p cap) (hs:Sl G Ti 5 n m) (j:lim<=B) (hB:B<G1.length) (hn:l.length+m.length<2 ^ 31)
  (t:∀G' e b,G.length<=G'.length->G38 G1 B G' (l++m) e b->Q (.tuple #[]) G') :
  NK E false lim 73 [.slice n m.length q,Vp B] G Q:=by
 refine RJ (by decide) e73 rfl ?_
 rw [b73,c73]
 have f:=NM h.cell
 have g:=h.chg.len
 obtain ⟨G2,e,b,k1,k2,k3,u,w⟩:=h.own.more (lim':=lim) (bytes:=40) (by omega) QV (by decide) m (by unfold PY;omega) (by omega) g [] (x:=.slice n m.length q) (str:=false) (WL (hs.app [])) rfl
 have c:NH (G2++[]) B=Vc [.slice p l.length cap]:=by
  rw [u B f (fun a i=>by have:=(h.own.block i).1;omega)];exact h.cell
 rw [Nb] at k2 c
 have d:=k3 [B] G1 (Nd _) h.chg
 rw [Nb] at d
 obtain ⟨r,e3,s,k⟩:=OQ (NM c) (Vc [.slice e (l.length+m.length) b])
 have v:=fun X=>(OH.refl.app (X:=X)).cells h.cell
 have o:=fun X=>(OH.refl.app (X:=X)).cells c
 simp only [n73,r73,v,k1,o,e3,j,SB,seval,NC,NJ,NG,NQ,reduceCtorEq,NB,place,NA,ND]
 have ho:Own G1.length r Ti 5 e b (l++m):=k2.mut k fun a i=>by have:=(k2.block i).1;omega
 exact t _ e b (by rw [Nb,k.len];omega) ⟨by rw [Nb];exact d.mut k (.inl (by simp)),by rw [Nb,s,No],by rw [Nb];exact ho⟩
def ZC:ACode->ACode
 | .block _ c=>c
 | c=>c
def Zj:ACode:=ZC (TH (RP (RP WH)))
def N27:ACode:=RP (RP (RP WH))
def Ng7:ACode:=RP Zj
def Nny:ACode:=RP Ng7
def N93:ACode:=RP Nny
theorem N4r:WH=.seq (TH WH) (.seq (TH (RP WH)) (.seq (.block 1 (.seq (TH Zj) Ng7)) N27)):=rfl
theorem N24:Ng7=.seq (TH Ng7) Nny:=rfl
theorem N23:Nny=.seq (TH Nny) N93:=rfl
structure D38 (lim B A T ce cq cr ct cp cL:Nat) (pe q r pt pp pL:Option Addr) (P:List Int) (L:List Leg) (es tw:List Ev) (ks:List Int) (ss:List Stp) (c:Int) (H0 G1:NE) (b4 b5:Nat):Prop where
 hev:Sl H0 encE 7 pe es
 hce:Un 7 ce es.length
 htw:Sl H0 encE 7 pt tw
 net:NetIn H0 pp pL P L
 h01:Chg [] H0 G1
 rep:NH G1 b4=Vc (TG pe es.length ce q ks.length cq r ss.length cr c none 0 0)
 nv:NH G1 b5=Vc (Tw pp P.length cp pL L.length cL)
 kp:NH G1 A=Vc ((Ub es.length ks).flatMap Ul)
 to:NH G1 T=Vc ((VZ es.length ss).flatMap enc3)
 n4:b4≠B
 n5:b5≠B
 nA:A≠B
 nT:T≠B
 hB:H0.length<=B
 lB:lim<=H0.length
 lG:B<G1.length
 ne:es.length<=2000
 nt:tw.length<=2000
 te:Vs es
 tt:Vs tw
 so:∀s∈ss,SK es.length s
 di:Ngm ss
structure FR38 (B A T ct n:Nat) (pt:Option Addr) (nt:Nat) (now:Int) (b4 b5:Nat) (fr:Nat->Value):Prop where
 f2:fr 2=.slice pt nt ct
 f3:fr 3=Vi now
 f4:fr 4=Vp b4
 f5:fr 5=Vp b5
 f9:fr 9=Vp B
 f10:fr 10=.func (.func 73) #[] #[Vp B]
 f11:fr 11=.slice (Sa A) n n
 f12:fr 12=.slice (Sa T) n n
section
variable {lim B A T ce cq cr ct cp cL b4 b5:Nat} {pe q r pt pp pL:Option Addr} {P:List Int} {L:List Leg} {es tw:List Ev} {ks:List Int} {ss:List Stp} {c now:Int} {H0 G1 G:NE} {fr:Nat->Value} {K:List AItem} {Z:Value->NE->Prop} {i cap:Nat} {p:Option Addr} {l:List An}
theorem D38.old (D:D38 lim B A T ce cq cr ct cp cL pe q r pt pp pL P L es tw ks ss c H0 G1 b4 b5) (h:G38 G1 B G l p cap):Chg [] H0 G:=D.h01.trans' h.chg fun j hj hl=>by
 have:=D.hB
 rw [Nk] at hj
 omega
theorem D38.rest [OB] (D:D38 lim B A T ce cq cr ct cp cL pe q r pt pp pL P L es tw ks ss c H0 G1 b4 b5) (h:G38 G1 B G l p cap) (F:FR38 B A T ct es.length pt tw.length now b4 b5 fr) (f13:fr 13=Vi i) (hi:i<es.length) (s:l.length<=1000000000)
  (m:∀fr' G' g b,G38 G1 B G' (l++QK es tw i) g b->FR38 B A T ct es.length pt tw.length now b4 b5 fr'->fr' 22=fr 22->fr' 23=fr 23->fr' 24=fr 24->PU E a38 lim K fr' (G'++[]) Z) :
  PU E a38 lim (.code N93::K) fr G Z:=by
 have d:=D.old h
 have v:=fun X=>(OH.refl.app (X:=X)).cells (h.chg.cells D.rep (by have:=D.n4;simpa using this))
 have k:=d.len
 have o:=D.lB
 have t:=D.ne
 have u:=D.nt
 unfold N93
 refine NL ?_
 simp only [Nny,Ng7,Zj,ZC,TH,RP,WH,n38,r38,F.f4,F.f10,F.f2,f13,v,OP,NI,SB,seval,NC,NJ,NG,NQ,reduceCtorEq,NB,place,NA,ND]
 have n:(QK es tw i).length<=tw.length:=by unfold QK;rw [Ns];exact Q0 ..
 refine Nqw ((d.sl D.hev (fun a _ _ h=>(by cases h))).app _) D.hce ((d.sl D.htw (fun a _ _ h=>(by cases h))).app _) hi (by omega) (by omega) (by simp;omega) D.te D.tt fun G2 x w e f=>?_
 have h2:=h.grow e.pre
 refine NL ?_
 simp only [n38,r38,SB,seval,NC,NJ,NG,NQ,reduceCtorEq,NB,place,NA,ND]
 rw [Nb]
 refine h2.add f (by have:=D.hB;omega) D.lG (by omega) fun G' g b hl j=>?_
 refine NL ?_
 simp only [n38,r38,SB,seval,NC,NJ,NG,NQ,reduceCtorEq,NB,place,NA,ND]
 exact m _ _ _ _ j ⟨(by simp only [F.f2,ne_eq,FB,Nat.reduceEqDiff]),(by simp only [F.f3,ne_eq,FB,Nat.reduceEqDiff]),(by simp only [F.f4,ne_eq,FB,Nat.reduceEqDiff]),(by simp only [F.f5,ne_eq,FB,Nat.reduceEqDiff]),(by simp only [F.f9,ne_eq,FB,Nat.reduceEqDiff]),(by simp only [F.f10,ne_eq,FB,Nat.reduceEqDiff]),(by simp only [F.f11,ne_eq,FB,Nat.reduceEqDiff]),(by simp only [F.f12,ne_eq,FB,Nat.reduceEqDiff])⟩ rfl rfl rfl
noncomputable def VE (P:List Int) (L:List Leg) (es:List Ev) (ss:List Stp) (i:Nat):List An:=if (gt (VZ es.length ss) i).1<(gt (VZ es.length ss) i).2.1 then SS P L es (gt (VZ es.length ss) i) else []
def Nd0 (es:List Ev) (ks:List Int) (i:Nat):List An:=if gt (Ub es.length ks) i then [] else [⟨1,(i:Int),0,(gt es i).place,0⟩]
theorem D38.mid [OB] (D:D38 lim B A T ce cq cr ct cp cL pe q r pt pp pL P L es tw ks ss c H0 G1 b4 b5) (h:G38 G1 B G l p cap) (F:FR38 B A T ct es.length pt tw.length now b4 b5 fr) (f13:fr 13=Vi i) (hi:i<es.length) (f:l.length+(VE P L es ss i).length<=1000000000)
  (g:∀fr' G' n d,G38 G1 B G' (l++(VE P L es ss i++QK es tw i)) n d->FR38 B A T ct es.length pt tw.length now b4 b5 fr'->fr' 22=fr 22->fr' 23=fr 23->fr' 24=fr 24->PU E a38 lim K fr' (G'++[]) Z) :
  PU E a38 lim (.code Nny::K) fr G Z:=by
 have t:=D.old h
 have M:=fun X=>(OH.refl.app (X:=X)).cells (h.chg.cells D.rep (by have:=D.n4;simpa using this))
 have J:=fun X=>(OH.refl.app (X:=X)).cells (h.chg.cells D.nv (by have:=D.n5;simpa using this))
 have Q:=h.chg.cells D.to (by have:=D.nT;simpa using this)
 have O:=t.len
 have S:=D.lB
 have U:=D.ne
 have V:=D.nt
 have o:Sl G enc3 3 (Sa T) (VZ es.length ss):=Sl.row OT Q
 have e:i<(VZ es.length ss).length:=by rw [Nin];exact hi
 have w:=fun c (k:IntKind) (H1:NE)=>o.idx (c:=c) (k:=k) (H1:=H1) e
 rw [Nin] at w
 have I:=fun X=>(o.app X).loadCells OT e
 have C:∀X,AM.loadCell (G++X) ((Xy (Sa T) 3 i).add 0)=some (Vi (gt (VZ es.length ss) i).1):=fun X=>(o.app X).loadCell (j:=0) OT e (by omega)
 have H:∀X,AM.loadCell (G++X) ((Xy (Sa T) 3 i).add 1)=some (Vi (gt (VZ es.length ss) i).2.1):=fun X=>(o.app X).loadCell (j:=1) OT e (by omega)
 have m:=fun h=>(Nrt D.so D.di hi h).1
 rw [N23]
 refine NL ?_
 unfold VE at g f
 generalize gt (VZ es.length ss) i=s at *
 by_cases h1:s.1<s.2.1
 ·rw [Ni h1] at g f
  simp only [Nny,Ng7,Zj,ZC,TH,RP,WH,n38,r38,F.f4,F.f5,F.f10,F.f12,f13,M,J,OP,PS,OT,NI,w,I,C,H,N6 h1,SB,seval,NC,NJ,NG,NQ,reduceCtorEq,NB,place,NA,ND]
  refine Nuh ((D.net.sim fun b ro x R=>t.cells R (by simp)).app _) ((t.sl D.hev (fun a _ _ h=>(by cases h))).app _) (D.so _ (m h1)) (by omega) (by simp;omega) fun G2 Y W u v=>?_
  have h2:=h.grow u.pre
  refine NL ?_
  simp only [n38,r38,SB,seval,NC,NJ,NG,NQ,reduceCtorEq,NB,place,NA,ND]
  rw [Nb]
  refine h2.add v (by have:=D.hB;omega) D.lG (by omega) fun G' n d hl N=>?_
  refine NL ?_
  simp only [n38,r38,SB,seval,NC,NJ,NG,NQ,reduceCtorEq,NB,place,NA,ND]
  rw [Nb]
  refine D.rest (now:=now) N ⟨(by simp only [F.f2,ne_eq,FB,Nat.reduceEqDiff]),(by simp only [F.f3,ne_eq,FB,Nat.reduceEqDiff]),(by simp only [F.f4,ne_eq,FB,Nat.reduceEqDiff]),(by simp only [F.f5,ne_eq,FB,Nat.reduceEqDiff]),(by simp only [F.f9,ne_eq,FB,Nat.reduceEqDiff]),(by simp only [F.f10,ne_eq,FB,Nat.reduceEqDiff]),(by simp only [F.f11,ne_eq,FB,Nat.reduceEqDiff]),(by simp only [F.f12,ne_eq,FB,Nat.reduceEqDiff])⟩ f13 hi (by rw [No];omega) fun fr' G' n d k1 k2 k3 y z=>?_
  rw [Np] at k1
  exact g _ _ _ _ k1 k2 (k3.trans rfl) (y.trans rfl) (z.trans rfl)
 ·rw [Ng h1] at g f
  rw [Ou] at g
  simp only [Nny,Ng7,Zj,ZC,TH,RP,WH,n38,r38,F.f4,F.f5,F.f10,F.f12,f13,M,J,OP,PS,OT,NI,w,I,C,H,Nm h1,SB,seval,NC,NJ,NG,NQ,reduceCtorEq,NB,place,NA,ND]
  rw [Nb]
  refine D.rest (now:=now) h ⟨(by simp only [F.f2,ne_eq,FB,Nat.reduceEqDiff]),(by simp only [F.f3,ne_eq,FB,Nat.reduceEqDiff]),(by simp only [F.f4,ne_eq,FB,Nat.reduceEqDiff]),(by simp only [F.f5,ne_eq,FB,Nat.reduceEqDiff]),(by simp only [F.f9,ne_eq,FB,Nat.reduceEqDiff]),(by simp only [F.f10,ne_eq,FB,Nat.reduceEqDiff]),(by simp only [F.f11,ne_eq,FB,Nat.reduceEqDiff]),(by simp only [F.f12,ne_eq,FB,Nat.reduceEqDiff])⟩ f13 hi (by simpa using f) fun fr' G' n d k1 k2 k3 y z=>?_
  exact g _ _ _ _ k1 k2 (k3.trans rfl) (y.trans rfl) (z.trans rfl)
theorem D38.first [OB] {e:Nat} (D:D38 lim B A T ce cq cr ct cp cL pe q r pt pp pL P L es tw ks ss c H0 G1 b4 b5) (h:G38 G1 B G l p cap) (F:FR38 B A T ct es.length pt tw.length now b4 b5 fr) (f13:fr 13=Vi i) (f14:fr 14=Vp e) (o:NH G e=Vc (encE (gt es i))) (hi:i<es.length) (H:l.length+(1+(VE P L es ss i).length)<=1000000000)
  (d:∀fr' G' n a,G38 G1 B G' (l++atN P L es tw ks ss i) n a->FR38 B A T ct es.length pt tw.length now b4 b5 fr'->fr' 22=fr 22->fr' 23=fr 23->fr' 24=fr 24->PU E a38 lim K fr' (G'++[]) Z) :
  PU E a38 lim (.code Ng7::K) fr G Z:=by
 have w:atN P L es tw ks ss i=Nd0 es ks i++(VE P L es ss i++QK es tw i):=rfl
 rw [w] at d
 have y:=D.old h
 have hK:=h.chg.cells D.kp (by have:=D.nA;simpa using this)
 have z:=y.len
 have C:=D.lB
 have I:=D.ne
 have J:=D.nt
 have sK:Sl G Ul 1 (Sa A) (Ub es.length ks):=Sl.row TV hK
 have f:i<(Ub es.length ks).length:=by rw [Nhx];exact hi
 have s:=fun c (k:IntKind) (H1:NE)=>sK.idx (c:=c) (k:=k) (H1:=H1) f
 rw [Nhx] at s
 have v:∀X,AM.loadCell (G++X) (Xy (Sa A) 1 i)=some (.bool (gt (Ub es.length ks) i)):=fun X=>by
  have:=(sK.app X).loadCell (j:=0) TV f (by omega)
  rwa [show (Xy (Sa A) 1 i).add 0=Xy (Sa A) 1 i from by simp only [Xy,addrOf,Pd,addr_add,Pq]] at this
 have g:=fun X=>(OH.refl.app (X:=X)).cells o
 rw [N24]
 refine NL ?_
 unfold Nd0 at d
 generalize gt (Ub es.length ks) i=b at *
 cases b with
 | true=>
   simp only [Ng7,Zj,ZC,TH,RP,WH,n38,r38,F.f10,F.f11,f13,f14,g,NZ,QY,Ry,Rx,Rw,Rv,Ru,QX,NI,s,v,SB,seval,NC,NJ,NG,NQ,reduceCtorEq,NB,place,NA,ND]
   rw [Ni rfl,Ou] at d
   rw [Nb]
   exact D.mid (now:=now) h ⟨(by simp only [F.f2,ne_eq,FB,Nat.reduceEqDiff]),(by simp only [F.f3,ne_eq,FB,Nat.reduceEqDiff]),(by simp only [F.f4,ne_eq,FB,Nat.reduceEqDiff]),(by simp only [F.f5,ne_eq,FB,Nat.reduceEqDiff]),(by simp only [F.f9,ne_eq,FB,Nat.reduceEqDiff]),(by simp only [F.f10,ne_eq,FB,Nat.reduceEqDiff]),(by simp only [F.f11,ne_eq,FB,Nat.reduceEqDiff]),(by simp only [F.f12,ne_eq,FB,Nat.reduceEqDiff])⟩ f13 hi (by omega) fun fr' G' n a k1 k2 k3 t u=>d _ _ _ _ k1 k2 (k3.trans rfl) (t.trans rfl) (u.trans rfl)
 | false=>
   simp only [Ng7,Zj,ZC,TH,RP,WH,n38,r38,F.f10,F.f11,f13,f14,g,NZ,QY,Ry,Rx,Rw,Rv,Ru,QX,NI,s,v,SB,seval,NC,NJ,NG,NQ,reduceCtorEq,NB,place,NA,ND]
   rw [Ng (by simp)] at d
   refine (h.grow (G2:=G++[Vc (Ti ⟨1,(i:Int),0,(gt es i).place,0⟩)]) Chg.refl.app).add (lim:=lim) (m:=[⟨1,(i:Int),0,(gt es i).place,0⟩]) (Sl.row (ro:=false) QV (by rw [NV];rfl)) (by have:=D.hB;omega) D.lG (by simp;omega) fun G' n a hl x=>?_
   refine NL ?_
   simp only [n38,r38,SB,seval,NC,NJ,NG,NQ,reduceCtorEq,NB,place,NA,ND]
   rw [Nb]
   refine D.mid (now:=now) x ⟨(by simp only [F.f2,ne_eq,FB,Nat.reduceEqDiff]),(by simp only [F.f3,ne_eq,FB,Nat.reduceEqDiff]),(by simp only [F.f4,ne_eq,FB,Nat.reduceEqDiff]),(by simp only [F.f5,ne_eq,FB,Nat.reduceEqDiff]),(by simp only [F.f9,ne_eq,FB,Nat.reduceEqDiff]),(by simp only [F.f10,ne_eq,FB,Nat.reduceEqDiff]),(by simp only [F.f11,ne_eq,FB,Nat.reduceEqDiff]),(by simp only [F.f12,ne_eq,FB,Nat.reduceEqDiff])⟩ f13 hi (by rw [No,Qz];omega) fun fr' G' n a k1 k2 k3 t u=>?_
   rw [Np] at k1
   exact d _ _ _ _ k1 k2 (k3.trans rfl) (t.trans rfl) (u.trans rfl)
end
theorem Npn {m:List Int}:∀{l:List Int},l.Nodup->(∀x∈l,x∈m)->l.length<=m.length:=by
 induction m with
 | nil=>intro l _ h;cases l with
   | nil=>simp
   | cons x l=>exact absurd (h x Nn) Ox
 | cons a m ih=>
   intro l hn h
   have h1:=ih (l:=l.erase a) (hn.erase a) fun x b=>by
    have h2:=(hn.mem_erase_iff).1 b
    exact ((Nr.1 (h x h2.2)).resolve_left h2.1)
   have c:l.length<=(l.erase a).length+1:=by rw [List.length_erase];split<;>omega
   simp only [Nl];omega
theorem Nxy {P:List Int} {L:List Leg} {p q t:Int}:(Mc P L p q t).length<=50:=by
 by_cases h:∃w,Won P L p q t w
 ·obtain ⟨w,b⟩:=h
  rw [Ndr b]
  obtain ⟨he,v,h0,g,a⟩:=b
  obtain ⟨h1,hp,e,f,_⟩:=M0 he
  have hn:=VU h1
  have:=Npn (m:=P) (a.way.nodup hn.fine a.few) fun x hx=>by
   rcases Nr.1 hx with rfl | hx
   ·exact hp
   ·obtain ⟨y,d,rfl⟩:=List.mem_map.1 hx
    exact hn.dst _ (a.way.mem y d)
  have c:=(Vt h1).1
  simp at this
  omega
 ·unfold Mc;rw [dif_neg h];simp
theorem Nlq {P:List Int} {L:List Leg} {es:List Ev} {s:Stp}:(SS P L es s).length<=50:=by
 unfold SS
 simp only
 have a:(TU P L es s).length<=50:=by
  unfold TU;rw [Ns,List.length_dropLast]
  have:=Nxy (P:=P) (L:=L) (p:=(gt es s.1.toNat).place) (q:=(gt es s.2.1.toNat).place) (t:=(gt es s.1.toNat).time)
  omega
 repeat' split
 all_goals first | exact a | simp
theorem Zl {P:List Int} {L:List Leg} {es:List Ev} {ss:List Stp} {i:Nat}:(VE P L es ss i).length<=50:=by
 unfold VE
 split
 ·exact Nlq
 ·simp
theorem N5t {P:List Int} {L:List Leg} {es tw:List Ev} {ks:List Int} {ss:List Stp} {i:Nat}:(atN P L es tw ks ss i).length<=51+tw.length:=by
 have e:atN P L es tw ks ss i=Nd0 es ks i++(VE P L es ss i++QK es tw i):=rfl
 have h1:(Nd0 es ks i).length<=1:=by unfold Nd0;split<;>simp
 have h2:=Zl (P:=P) (L:=L) (es:=es) (ss:=ss) (i:=i)
 have a:(QK es tw i).length<=tw.length:=by unfold QK;rw [Ns];exact Q0 ..
 rw [e,No,No];omega
theorem Nhi {P:List Int} {L:List Leg} {es tw:List Ev} {ks:List Int} {ss:List Stp} {m:Nat}:Xp P L es tw ks ss (m+1)=Xp P L es tw ks ss m++atN P L es tw ks ss m:=by
 unfold Xp;rw [Pt,P3,Oq,Rm,Nb]
theorem MS {P:List Int} {L:List Leg} {es tw:List Ev} {ks:List Int} {ss:List Stp}:∀m,(Xp P L es tw ks ss m).length<=m*(51+tw.length)
 | 0=>by simp [Xp]
 | m+1=>by
   have h:=MS (P:=P) (L:=L) (es:=es) (tw:=tw) (ks:=ks) (ss:=ss) m
   have h2:=N5t (P:=P) (L:=L) (es:=es) (tw:=tw) (ks:=ks) (ss:=ss) (i:=m)
   rw [Nhi,No,Po];omega
theorem Nu5 [OB] {lim ce cq cr ct cp cL:Nat} {pe q r pt pp pL:Option Addr} {P:List Int} {L:List Leg} {es tw:List Ev} {ks:List Int} {ss:List Stp} {c now:Int} {H:NE} {Q:Value->NE->Prop} (hev:Sl H encE 7 pe es) (hce:Un 7 ce es.length) (htw:Sl H encE 7 pt tw) (u:NetIn H pp pL P L) (hq:Sl H encI 1 q ks) (hr:Sl H enc3 3 r ss) (hl:lim<=H.length)
  (ne:es.length<=2000) (nt:tw.length<=2000) (te:Vs es) (tt:Vs tw) (so:∀s∈ss,SK es.length s) (di:Ngm ss) (hk:∀k∈ks,0<=k/\k<es.length) (t:ks.length<2 ^ 40) (M:ss.length<2 ^ 40) (v:0<=now/\now<=OD)
  (hQ:∀G p V,Chg [] H G->Own H.length G Ti 5 p V (Ua P L es tw ks ss now)->Q (.slice p (Ua P L es tw ks ss now).length V) G) :
  NK E false lim 38 [.agg (TG pe es.length ce q ks.length cq r ss.length cr c none 0 0).toArray,.agg (Tw pp P.length cp pL L.length cL).toArray,.slice pt tw.length ct,Vi now] H Q:=by
 refine RJ (by decide) e38 rfl ?_
 rw [b38,c38]
 simp only [n38,r38,OP,PS,NI,SB,seval,NC,NJ,NG,NQ,reduceCtorEq,NB,place,NA,ND]
 refine Noa (lim:=lim) (hq.app _) (hr.app _) (by omega) t M (by simp;omega) hk so fun G1 A T b hA hT kA kT=>?_
 have I:=b.len
 simp at I hA hT
 have hB:=b.cells (OC (X:=[Vc (TG pe es.length ce q ks.length cq r ss.length cr c none 0 0),Vc (Tw pp P.length cp pL L.length cL),Vc [Vz]]) (j:=2)) (by simp)
 have D:D38 lim (H.length+2) A T ce cq cr ct cp cL pe q r pt pp pL P L es tw ks ss c H G1 H.length (H.length+1):=⟨hev,hce,htw,u,b.pre,b.cells (NV (X:=[Vc (TG pe es.length ce q ks.length cq r ss.length cr c none 0 0),Vc (Tw pp P.length cp pL L.length cL),Vc [Vz]])) (by simp),b.cells (OC (X:=[Vc (TG pe es.length ce q ks.length cq r ss.length cr c none 0 0),Vc (Tw pp P.length cp pL L.length cL),Vc [Vz]]) (j:=1)) (by simp),kA,kT,by omega,by omega,by omega,by omega,by omega,hl,by omega,ne,nt,te,tt,so,di⟩
 have xR:=fun X=>(OH.refl.app (X:=X)).cells D.rep
 refine NL ?_
 simp only [n38,r38,xR,R6,SB,seval,NC,NJ,NG,NQ,reduceCtorEq,NB,place,NA,ND]
 have C:G38 G1 (H.length+2) G1 [] none 0:=⟨Chg.refl,hB,.nil⟩
 refine NP (fun j:Nat×Option Addr×Nat=>es.length-j.1) (fun j fr G=>j.1<=es.length/\FR38 (H.length+2) A T ct es.length pt tw.length now H.length (H.length+1) fr/\fr 22=.slice pe es.length ce/\fr 23=Vi es.length/\fr 24=Vi j.1/\G38 G1 (H.length+2) G (Xp P L es tw ks ss j.1) j.2.1 j.2.2) (0,none,0)
  ⟨Nv _,⟨rfl,rfl,rfl,rfl,rfl,rfl,rfl,rfl⟩,rfl,rfl,by rfl,C.grow Chg.refl.app⟩ ?_
 rintro ⟨i,p,cap⟩ fr G ⟨hi,F,g,l,e,n⟩ Y
 simp only at hi e n Y
 rw [NT N4r]
 refine NL ?_
 have x:=D.old n
 have Z:=x.len
 by_cases d:i<es.length
 case neg=>
  obtain rfl:i=es.length:=by omega
  have U:=fun X=>(OH.refl.app (X:=X)).cells (n.chg.cells D.rep (by simp))
  simp only [TH,RP,WH,n38,r38,F.f4,F.f10,F.f9,F.f3,g,l,e,NN,d,U,OP,NI,SB,seval,NC,NJ,NG,NQ,reduceCtorEq,NB,place,NA,ND]
  have m:=MS (P:=P) (L:=L) (es:=es) (tw:=tw) (ks:=ks) (ss:=ss) es.length
  have B:(Xp P L es tw ks ss es.length).length<=2000*2051:=Qh m (Nat.mul_le_mul (by omega) (by omega))
  have ab:(U2 es ks now).length<=1:=by
   rcases Ne0 (es:=es) (ks:=ks) (now:=now) with h | ⟨k,_,h,_⟩<;>rw [h]<;>simp
  have W:Ua P L es tw ks ss now=Xp P L es tw ks ss es.length++U2 es ks now:=rfl
  refine N4m ((x.sl hev (fun a _ _ h=>(by cases h))).app _) ((x.sl hq (fun a _ _ h=>(by cases h))).app _) (by omega) t (by simp;omega) hk te v fun G2 px cx y z=>?_
  have h2:=n.grow y.pre
  refine NL ?_
  simp only [n38,r38,SB,seval,NC,NJ,NG,NQ,reduceCtorEq,NB,place,NA,ND]
  rw [Nb]
  refine h2.add (lim:=lim) z (by omega) D.lG (by omega) fun G' p' f aa w=>?_
  have xB:=fun X=>(OH.refl.app (X:=X)).cells w.cell
  refine NL ?_
  simp only [n38,r38,F.f9,xB,SB,seval,NC,NJ,NG,NQ,reduceCtorEq,NB,place,NA,ND]
  rw [<-No,<-W]
  rw [<-W] at w
  exact hQ _ _ _ (D.old w).app ((w.own.le (by omega)).app _)
 have sE:=x.sl hev (fun a _ _ h=>(by cases h))
 have K:=fun X=>(sE.app X).loadCells NZ d
 have o:=fun c (k:IntKind) (H1:NE)=>sE.idx (c:=c) (k:=k) (H1:=H1) d
 have N:IntKind.i64.wrap ((i:Int)+1)=((i+1:Nat):Int):=OA (by omega)
 have J:lim<=G.length:=by omega
 have m:=MS (P:=P) (L:=L) (es:=es) (tw:=tw) (ks:=ks) (ss:=ss) i
 have ac:=Zl (P:=P) (L:=L) (es:=es) (ss:=ss) (i:=i)
 have B:(Xp P L es tw ks ss i).length<=2000*2051:=Qh m (Nat.mul_le_mul (by omega) (by omega))
 simp only [TH,RP,WH,Zj,ZC,n38,r38,g,l,e,NN,d,K,o,J,NZ,NI,NF,SB,seval,NC,NJ,NG,NQ,reduceCtorEq,NB,place,NA,ND]
 refine D.first (now:=now) (i:=i) (n.grow (G2:=G++[Vc (encE (gt es i))]) Chg.refl.app) ⟨(by simp only [F.f2,ne_eq,FB,Nat.reduceEqDiff]),(by simp only [F.f3,ne_eq,FB,Nat.reduceEqDiff]),(by simp only [F.f4,ne_eq,FB,Nat.reduceEqDiff]),(by simp only [F.f5,ne_eq,FB,Nat.reduceEqDiff]),(by simp only [F.f9,ne_eq,FB,Nat.reduceEqDiff]),(by simp only [F.f10,ne_eq,FB,Nat.reduceEqDiff]),(by simp only [F.f11,ne_eq,FB,Nat.reduceEqDiff]),(by simp only [F.f12,ne_eq,FB,Nat.reduceEqDiff])⟩ rfl rfl NV d (by omega) fun fr' G' p' f k1 k2 k3 k4 k5=>?_
 rw [<-Nhi] at k1
 have S:fr' 24=Vi i:=k5.trans e
 have O:fr' 22=.slice pe es.length ce:=k3.trans g
 have R:fr' 23=Vi es.length:=k4.trans l
 unfold N27
 simp only [RP,WH,n38,r38,S,N,SB,seval,NC,NJ,NG,NQ,reduceCtorEq,NB,place,NA,ND]
 exact Y (i+1,p',f) _ _ ⟨by omega,⟨(by simp only [k2.f2,ne_eq,FB,Nat.reduceEqDiff]),(by simp only [k2.f3,ne_eq,FB,Nat.reduceEqDiff]),(by simp only [k2.f4,ne_eq,FB,Nat.reduceEqDiff]),(by simp only [k2.f5,ne_eq,FB,Nat.reduceEqDiff]),(by simp only [k2.f9,ne_eq,FB,Nat.reduceEqDiff]),(by simp only [k2.f10,ne_eq,FB,Nat.reduceEqDiff]),(by simp only [k2.f11,ne_eq,FB,Nat.reduceEqDiff]),(by simp only [k2.f12,ne_eq,FB,Nat.reduceEqDiff])⟩,O,R,rfl,k1.grow Chg.refl.app⟩ (by simp only;omega)
end Go.Proofs.YtkppjkkkdpcgiaaGreat.Fn


namespace Go.Proofs.YtkppjkkkdpcgiaaGreat.Fn
open Go.AM Go.AM.Sym Go.Scan
theorem Nzf [OB] {lim c:Nat} {p:Option Addr} {K:List Ev} {item:Int} {H:NE} {Q:Value->NE->Prop} (hs:Sl H encE 7 p K) (hn:K.length<4000) (hl:lim<=H.length)
  (T:∀G z,NH G H.length=Vc ((UR K item).flatMap encE++z)->Chg [] H G->Q (.slice (Sa H.length) (UR K item).length K.length) (G++[])) :
  NK E false lim 28 [.slice p K.length c,Vi item] H Q:=by
 refine RJ (by decide) e28 rfl ?_
 rw [b28,c28]
 have L:(K.length:Int)*56<=2 ^ 45:=by omega
 have M:(K.length:Int)<2 ^ 62:=by omega
 have N:(0:Int)<=(K.length:Int):=by omega
 simp only [n28,r28,L,M,N,Ob,Ri,SB,Nat.reduceLT,NC,NJ,Nat.reduceEqDiff,NG,NQ,reduceCtorEq,NB,place,NA,Nat.reduceAdd,Nat.reduceLeDiff,ND,Int.reduceEq,Int.reduceLT,Int.reduceLE]
 refine NP (fun i=>K.length-i) (fun i fr G=>i<=K.length/\fr 1=Vi item/\fr 5=.slice (Sa H.length) (UR (K.take i) item).length K.length/\fr 11=.slice p K.length c/\fr 12=Vi K.length/\fr 13=Vi i/\
   (∃z,z.length=(K.length-(UR (K.take i) item).length)*7/\NH G H.length=Vc ((UR (K.take i) item).flatMap encE++z))/\Chg [] H G) 0
  ⟨Nv _,rfl,(by simp only [Qi,UR,List.filter_nil,Nu,FB,Nat.reduceEqDiff]),rfl,rfl,by rfl,⟨(List.range (K.length*7)).map fun j=>[Value.int .i64 0,Vi 0,Vi 0,.int .u8 0,Vi 0,Vi 0,Vi 0].getD (j % 7) undef,by simp [UR],by rw [NV,Qi];rfl⟩,Chg.refl.app⟩ ?_
 rintro i fr G ⟨hi,q,w,e,f,n,⟨z,I,B⟩,A⟩ J
 rw [NT N63.eq_1]
 refine NL ?_
 have S:=A.len
 have t:=NM B
 by_cases d:i<K.length
 ·have sK:=A.sl hs (fun a _ _ h=>(by cases h))
  have u:=fun X=>(sK.app X).loadCells NZ d
  have l:=fun c (k:IntKind) (H1:NE)=>sK.idx (c:=c) (k:=k) (H1:=H1) d
  have v:IntKind.i64.wrap ((i:Int)+1)=((i+1:Nat):Int):=OA (by omega)
  have U:(UR (K.take i) item).length<=i:=by
   unfold UR
   refine Qh (Q0 ..) ?_
   rw [Ol];omega
  have g:UR (K.take (i+1)) item=if (item == 0||(gt K i).item == item)=true then UR (K.take i) item++[gt K i] else UR (K.take i) item:=by
   unfold UR
   rw [N0 d,List.filter_append,PO d]
   by_cases h:(item == 0||K[i].item == item)=true
   ·rw [Ni h];simp only [List.filter_cons,h,if_true,List.filter_nil]
   ·rw [Ng h];simp only [List.filter_cons,h,if_false,List.filter_nil,Nb,Nz]
  generalize W:gt K i=x at *
  generalize UR (K.take i) item=O at *
  have m:lim<=G.length:=by omega
  have D:(item == 0||x.item == item)=true->∃G3,PQ lim none 7 56 false (.slice (Sa H.length) O.length K.length) (.slice (Sa (G.length+1)) 1 1) (G++[Vc (encE x),Vc (encE x)])=some (.slice (Sa H.length) (O.length+1) K.length,G3++[Vc (encE x),Vc (encE x)])/\
    NH G3 H.length=Vc ((UR (K.take (i+1)) item).flatMap encE++z.drop 7)/\(UR (K.take (i+1)) item).length=O.length+1/\Chg [] H G3:=fun h=>by
   rw [Ni h] at g
   obtain ⟨G3,e3,r,V⟩:=OQ (G:=G) (R:=H.length) t (Vc ((O++[x]).flatMap encE++z.drop 7))
   have o:=Nax (lim:=lim) (R:=H.length) (bytes:=56) (cap:=K.length) (k:=1) (b:=G.length+1) (dest:=none) (H:=G++[Vc (encE x),Vc (encE x)]) (enc:=encE) (old:=O) (x:=x) (ro:=false) (rest:=z) NZ (by decide)
    (by rw [OC];rfl) (by rw [NR t];exact B) hl (by omega) I (by omega) (by unfold PY;omega)
   rw [e3] at o
   exact ⟨G3,o,by rw [g];exact r,by rw [g];simp,A.mut V (.inr (Nd _))⟩
  by_cases y:item=0
  ·obtain ⟨G3,e3,r,C,s⟩:=D (by simp [y])
   simp only [n28,r28,q,w,e,f,n,NN,d,l,u,NZ,QY,Ry,Rx,Rw,Rv,Ru,QX,NI,NF,v,m,N6 y,e3,SB,seval,NC,NJ,NG,NQ,reduceCtorEq,NB,place,NA,ND]
   exact J (i+1) _ _ ⟨by omega,q,(by simp only [C,ne_eq,FB,Nat.reduceEqDiff]),e,f,rfl,⟨z.drop 7,by rw [Pw,I,C];omega,by rw [NR (NM r)];exact r⟩,s.app⟩ (by omega)
  by_cases F:x.item=item
  ·obtain ⟨G3,e3,r,C,s⟩:=D (by simp [F])
   simp only [n28,r28,q,w,e,f,n,NN,d,l,u,NZ,QY,Ry,Rx,Rw,Rv,Ru,QX,NI,NF,v,m,Nm y,N6 F,e3,SB,seval,NC,NJ,NG,NQ,reduceCtorEq,NB,place,NA,ND]
   exact J (i+1) _ _ ⟨by omega,q,(by simp only [C,ne_eq,FB,Nat.reduceEqDiff]),e,f,rfl,⟨z.drop 7,by rw [Pw,I,C];omega,by rw [NR (NM r)];exact r⟩,s.app⟩ (by omega)
  ·have P:¬(item == 0||x.item == item)=true:=by simp [y,F]
   rw [Ng P] at g
   simp only [n28,r28,q,w,e,f,n,NN,d,l,u,NZ,QY,Ry,Rx,Rw,Rv,Ru,QX,NI,NF,v,m,Nm y,Nm F,SB,seval,NC,NJ,NG,NQ,reduceCtorEq,NB,place,NA,ND]
   exact J (i+1) _ _ ⟨by omega,q,(by simp only [w,g,FB,Nat.reduceEqDiff]),e,f,rfl,⟨z,by rw [g];exact I,by rw [NR t,g];exact B⟩,A.app⟩ (by omega)
 ·obtain rfl:i=K.length:=by omega
  rw [Og] at w B
  simp only [n28,r28,q,w,e,f,n,NN,d,SB,seval,NC,NJ,NG,NQ,reduceCtorEq,NB,place,NA,ND]
  exact T G z B A
end Go.Proofs.YtkppjkkkdpcgiaaGreat.Fn


namespace Go.Scan
theorem Nhb (S:List Ev):OL (S.map bare)=OL S:=by
 have h1:UZ (S.map bare)=UZ S:=by unfold UZ;rw [List.foldl_map];rfl
 have h2:RN (S.map bare)=RN S:=by unfold RN;rw [h1]
 have a:∀M,SH M (S.map bare)=SH M S:=fun M=>by unfold SH;rw [List.map_map];rfl
 unfold OL
 rw [h2,a]
theorem Nej {S:List Ev}:QZ (S.map bare)↔QZ S:=by
 unfold QZ
 rw [Ns]
 exact and_congr Iff.rfl ⟨fun h s hs=>(h (bare s) (List.mem_map.2 ⟨s,hs,rfl⟩):Sz (bare s)),fun h s hs=>by
  obtain ⟨x,a,rfl⟩:=List.mem_map.1 hs
  exact h x a⟩
end Go.Scan
namespace Go.Proofs.YtkppjkkkdpcgiaaGreat.Fn
open Go.AM Go.AM.Sym Go.Scan
def effL (n:Nat) (L:List Ev):Value×List (List Value):=if L=[] then (.tuple #[Vz,Vi 0],[]) else (.tuple #[.slice (Sa n) L.length (loose 7),Vi 0],[L.flatMap encE])
def effR (a:Bool) (n:Nat) (S:List Ev):Value×List (List Value):=if QZ S then effL n (if a then (OL S).1 else (OL S).2) else (.tuple #[Vz,Vi 2],[])
theorem Nv2 {a:Bool} {n:Nat} {S S':List Ev} (h:S.map bare=S'.map bare):effR a n S=effR a n S':=by
 have h1:OL S=OL S':=by rw [<-Nhb S,<-Nhb S',h]
 have h2:QZ S↔QZ S':=by rw [<-Nej,<-Nej (S:=S'),h]
 unfold effR
 rw [h1]
 by_cases b:QZ S
 ·rw [Ni b,Ni (h2.1 b)]
 ·rw [Ng b,Ng fun h=>b (h2.2 h)]
theorem Nvz {x y:Ev} (h:R3 x=R3 y):bare x=bare y:=by
 obtain ⟨a,b,c,d,e,f,g⟩:=x
 obtain ⟨a',b',i,j,k,l,m⟩:=y
 simp only [R3,List.cons.injEq,Value.int.injEq,Rh,and_true] at h
 obtain ⟨rfl,rfl,rfl,rfl,rfl,rfl⟩:=h
 rfl
theorem Nh5:∀{S S':List Ev},S.length=S'.length->S.flatMap R3=S'.flatMap R3->S.map bare=S'.map bare
 | [],[],_,_=>rfl
 | [],_::_,h,_=>by cases h
 | _::_,[],h,_=>by cases h
 | x::S,y::S',h,e=>by
   rw [Oq,Oq] at e
   obtain ⟨e1,e2⟩:=List.append_inj e rfl
   rw [N4,N4,Nvz e1,Nh5 (by simpa using h) e2]
theorem N3l {H:NE} {p:Option Addr} {S S':List Ev} (hl:S.length=S'.length) (h:Sl H R3 6 p S) (h':Sl H R3 6 p S'):S.map bare=S'.map bare:=by
 cases p with
 | none=>
   have e1:S=[]:=h
   have e2:S'=[]:=h'
   rw [e1,e2]
 | some a=>
   by_cases h0:S=[]
   ·subst h0
    cases S' with
    | nil=>rfl
    | cons _ _=>cases hl
   have b:S'≠[]:=fun e=>h0 (List.length_eq_zero_iff.1 (by rw [hl,e];rfl))
   obtain ⟨ro,c,k1,_,k3⟩:=h.2 h0
   obtain ⟨g,i,d,_,f⟩:=h'.2 b
   rw [k1] at d;cases d
   exact Nh5 hl (k3.symm.trans (by rw [hl];exact f))
open Classical in
noncomputable def effO (g:FuncId) (as:List Value) (H:NE):Option (Value×List (List Value)):=
 if g=36\/g=27 then match as with
  | [.slice p n c]=>if h:∃S:List Ev,S.length=n/\n<2 ^ 63/\Sl H R3 6 p S then some (effR (decide (g=36)) H.length h.choose) else none
  | _=>none
 else none
theorem effO_no (g:FuncId) (as:List Value) (H:NE) (h1:g≠36) (h2:g≠27):effO g as H=none:=by
 unfold effO
 exact Ng (by rintro (h | h);exact h1 h;exact h2 h)
theorem N15 {g:FuncId} (a:g=36\/g=27) {p:Option Addr} {c:Nat} {S:List Ev} {H:NE} (hs:Sl H R3 6 p S) (hn:S.length<2 ^ 63):effO g [.slice p S.length c] H=some (effR (decide (g=36)) H.length S):=by
 have hex:∃S':List Ev,S'.length=S.length/\S.length<2 ^ 63/\Sl H R3 6 p S':=⟨S,rfl,hn,hs⟩
 unfold effO
 rw [Ni a]
 simp only
 rw [Re hex]
 obtain ⟨k1,_,k3⟩:=hex.choose_spec
 rw [Nv2 (N3l k1 k3 hs)]
theorem effO_some {g:FuncId} {as:List Value} {H:NE} {r} (h:effO g as H=some r):(g=36\/g=27)/\∃p c S,as=[.slice p S.length c]/\S.length<2 ^ 63/\Sl H R3 6 p S/\r=effR (decide (g=36)) H.length S:=by
 unfold effO at h
 split at h
 case isFalse=>cases h
 rename_i a
 refine ⟨a, ?_⟩
 split at h
 ·rename_i p n c
  split at h
  ·rename_i hex
   obtain ⟨k1,k2,k3⟩:=hex.choose_spec
   simp only [Option.some.injEq] at h
   exact ⟨p,c,hex.choose,by rw [k1],by omega,k3,h.symm⟩
  ·cases h
 ·cases h
def EffOk [OB]:Prop:=∀g as H,OB.eff g as H=effO g as H
theorem Nqu [OB] (b:EffOk) {g:FuncId} (a:g=36\/g=27) {lim c:Nat} {p:Option Addr} {S:List Ev} {H:NE} {Q:Value->NE->Prop} (hs:Sl H R3 6 p S) (hn:S.length<2 ^ 63) :
  NK E false lim g [.slice p S.length c] H Q=Q (effR (decide (g=36)) H.length S).1 (H++news (effR (decide (g=36)) H.length S).2):=
 Nxs (by rcases a with rfl | rfl<;>simp [E,orc]) (by show OB.eff g _ H=_;rw [b];exact N15 a hs hn)
theorem effR_no {a:Bool} {n:Nat} {S:List Ev} (h:¬QZ S):effR a n S=(.tuple #[Vz,Vi 2],[]):=Ng h
theorem Nm6 {H:NE} (L:List Ev):∃p c,effL H.length L=(.tuple #[.slice p L.length c,Vi 0],(effL H.length L).2)/\Own H.length (H++news (effL H.length L).2) encE 7 p c L/\Chg [] H (H++news (effL H.length L).2):=by
 unfold effL
 by_cases h:L=[]
 ·rw [Ni h]
  exact ⟨none,0,by rw [h];rfl,.inl ⟨h,rfl,rfl⟩,Chg.refl.app⟩
 ·rw [Ng h]
  exact ⟨_,_,rfl,.inr ⟨H.length,rfl,rfl,NV,Nd _⟩,Chg.refl.app⟩
theorem N55 [OB] (a:EffOk) {lim c:Nat} {p:Option Addr} {S:List Ev} {H:NE} {Q:Value->NE->Prop} (hs:Sl H R3 6 p S) (hS:QZ S)
  (b:∀G kp kc,Own H.length G encE 7 kp kc (OL S).1->Chg [] H G->Q (.tuple #[.slice kp (OL S).1.length kc,Vi 0]) (G++[])) :
  NK E false lim 36 [.slice p S.length c] H Q:=by
 rw [Nqu a (.inl rfl) hs (by have:=hS.1;omega)]
 have e:effR (decide ((36:Nat)=36)) H.length S=effL H.length (OL S).1:=Ni hS
 rw [e]
 obtain ⟨f,d,e1,e2,e3⟩:=Nm6 (H:=H) (OL S).1
 rw [e1]
 have:=b _ _ _ e2 e3
 rwa [Nb] at this
theorem Nrl [OB] (a:EffOk) {lim c:Nat} {p:Option Addr} {S:List Ev} {H:NE} {Q:Value->NE->Prop} (hs:Sl H R3 6 p S) (hn:S.length<2 ^ 63) (hS:¬QZ S) :
  NK E false lim 36 [.slice p S.length c] H Q=Q (.tuple #[Vz,Vi 2]) H:=by
 rw [Nqu a (.inl rfl) hs hn,effR_no hS]
 simp [news]
theorem Nxp [OB] (a:EffOk) {lim c:Nat} {p:Option Addr} {S:List Ev} {H:NE} {Q:Value->NE->Prop} (hs:Sl H R3 6 p S) (hS:QZ S)
  (b:∀G kp kc,Own H.length G encE 7 kp kc (OL S).2->Chg [] H G->Q (.tuple #[.slice kp (OL S).2.length kc,Vi 0]) (G++[])) :
  NK E false lim 27 [.slice p S.length c] H Q:=by
 rw [Nqu a (.inr rfl) hs (by have:=hS.1;omega)]
 have e:effR (decide ((27:Nat)=36)) H.length S=effL H.length (OL S).2:=Ni hS
 rw [e]
 obtain ⟨f,d,e1,e2,e3⟩:=Nm6 (H:=H) (OL S).2
 rw [e1]
 have:=b _ _ _ e2 e3
 rwa [Nb] at this
end Go.Proofs.YtkppjkkkdpcgiaaGreat.Fn


namespace Go.Proofs.YtkppjkkkdpcgiaaGreat.Fn
open Go.AM Go.AM.Sym Go.Net Go.Scan
def Niw:List Value:=TG none 0 0 none 0 0 none 0 0 0 none 0 0
theorem Ndb:Niw=[Vz,Vz,Vz,Vi 0,Vz]:=rfl
theorem Nu4 {P:List Int} {L:List Leg} {S:List Ev} {item now:Int} (h:R8 P L=0) (hS:QZ S) (h1:1<=item) (h2:item<=999999) (c:0<=now) (d:now<=OD) (b:UR (OL S).1 item≠[]) :
  UE P L S item now=WX P L (UR (OL S).1 item):=by
 have a:¬(¬QZ S\/item<1\/999999<item\/now<0\/OD<now):=by
  rintro (h | h | h | h | h)
  ·exact h hS
  all_goals omega
 unfold UE
 rw [Ng (by simpa using h),Ng a,Ng b]
theorem Nnu {α:Type} {H:NE} {enc:α->List Value} {e R:Nat} {l:List α} {z:List Value} (he:∀x,(enc x).length=e) {ro:Bool} (h:NH H R=.cells ro (l.flatMap enc++z)):Sl H enc e (Sa R) l:=
 ⟨rfl,fun _=>⟨ro,_,h,by rw [No,QM he];simp,by rw [Oy,<-QM he,List.take_left]⟩⟩
theorem Nj9 [OB] (hE:EffOk) {lim c cp cL:Nat} {p pp pL:Option Addr} {P:List Int} {L:List Leg} {S:List Ev} {item now:Int} {H:NE} {Q:Value->NE->Prop} (hN:NetIn H pp pL P L) (hs:Sl H R3 6 p S) (hn:S.length<2 ^ 63) (hl:lim<=H.length)
  (d:∀G,UE P L S item now≠0->Chg [] H G->Q (.tuple #[.agg Niw.toArray,Vi (UE P L S item now)]) G)
  (ae:∀G pe ce q cq r cr pl cl (es tw:List Ev) (ks:List Int) (ss:List Stp),es=UR (OL S).1 item->tw=UR (OL S).2 item->ks=R7 P L es->ss=QL P L es ks->UE P L S item now=0->Chg [] H G->Ww H.length G encE 7 pe es->Un 7 ce es.length->Ww H.length G encI 1 q ks->Ww H.length G enc3 3 r ss->Ww H.length G Ti 5 pl (Ua P L es tw ks ss now)->
   Q (.tuple #[.agg (TG pe es.length ce q ks.length cq r ss.length cr (Sy P L es ks) pl (Ua P L es tw ks ss now).length cl).toArray,Vi 0]) G) :
  NK E false lim 17 [.agg (Tw pp P.length cp pL L.length cL).toArray,.slice p S.length c,Vi item,Vi now] H Q:=by
 refine RJ (by decide) e17 rfl ?_
 rw [b17,c17]
 have hv:=fun X (mp:Bool) (lim:Nat) (Q:Value->NE->Prop)=>Ndt (mp:=mp) (lim:=lim) (cp:=cp) (cl:=cL) (Q:=Q) (hN.app X)
 rw [Ndb] at d
 by_cases h0:R8 P L=0
 case neg=>
  rw [Nu3 h0] at d
  simp only [n17,r17,PS,NI,hv,Nm h0,NF,hl,SB,seval,NC,NJ,NG,NQ,reduceCtorEq,NB,place,NA,ND]
  exact d _ h0 Chg.refl.app
 simp only [n17,r17,PS,NI,hv,N6 h0,NF,hl,SB,seval,NC,NJ,NG,NQ,reduceCtorEq,NB,place,NA,ND]
 by_cases hS:QZ S
 case neg=>
  rw [Nho h0 (.inl hS)] at d
  rw [Nrl hE (hs.app _) hn hS]
  simp only [n17,r17,NF,hl,SB,seval,NC,NJ,NG,NQ,reduceCtorEq,NB,place,NA,ND]
  exact d _ (by decide) Chg.refl.app
 refine N55 hE (hs.app _) hS fun G1 kp kc hO m=>?_
 have aw:=m.len
 simp at aw
 have bg:lim<=G1.length:=by omega
 have t:=fun h=>Nho (P:=P) (L:=L) (S:=S) (item:=item) (now:=now) h0 (.inr h)
 have k8:=m.cells (OC (X:=[Vc (Tw pp P.length cp pL L.length cL),Vc [Vz,Vz,Vz,Vi 0,Vz]]) (j:=1)) (by simp)
 have x8:=fun X=>(OH.refl.app (X:=X)).cells k8
 obtain ⟨G8,e8,h8,m8⟩:=OQ (NM k8) (Vc [Vz,Vz,Vz,Vi 0,Vz])
 have y8:=fun X=>(OH.refl.app (X:=X)).cells h8
 have B:Chg [] H G8:=m.pre.mut m8 (.inr (by omega))
 have i:lim<=H.length+1:=by omega
 refine NL ?_
 unfold OD at t
 by_cases U:item<1
 ·rw [t (.inl U)] at d
  simp only [n17,r17,x8,e8,y8,i,NF,gt_iff_lt,N6 U,SB,seval,NC,NJ,NG,NQ,reduceCtorEq,NB,place,NA,ND]
  exact d _ (by decide) B.app
 by_cases W:999999<item
 ·rw [t (.inr (.inl W))] at d
  simp only [n17,r17,x8,e8,y8,i,NF,gt_iff_lt,Nm U,N6 W,SB,seval,NC,NJ,NG,NQ,reduceCtorEq,NB,place,NA,ND]
  exact d _ (by decide) B.app
 by_cases c3:now<0
 ·rw [t (.inr (.inr (.inl c3)))] at d
  simp only [n17,r17,x8,e8,y8,i,NF,gt_iff_lt,Nm U,Nm W,N6 c3,SB,seval,NC,NJ,NG,NQ,reduceCtorEq,NB,place,NA,ND]
  exact d _ (by decide) B.app
 by_cases c4:1051898399<now
 ·rw [t (.inr (.inr (.inr c4)))] at d
  simp only [n17,r17,x8,e8,y8,i,NF,gt_iff_lt,Nm U,Nm W,Nm c3,N6 c4,SB,seval,NC,NJ,NG,NQ,reduceCtorEq,NB,place,NA,ND]
  exact d _ (by decide) B.app
 simp only [n17,r17,x8,e8,y8,i,NF,gt_iff_lt,Nm U,Nm W,Nm c3,Nm c4,SB,seval,NC,NJ,NG,NQ,reduceCtorEq,NB,place,NA,ND]
 have bz:=Nd8 S
 have bp:=hS.1
 have az:=Nr2 (S:=S) (item:=item)
 have F:=Nhn (P:=P) (L:=L) (S:=S) (item:=item) (now:=now) h0 hS (by omega) (by omega) (by omega) (by unfold OD;omega)
 refine Nzf (lim:=lim) ((hO.sl NZ).app _) (by omega) (by simp;omega) fun G2 z hz v=>?_
 have hle:=Nu4 (P:=P) (L:=L) (S:=S) (item:=item) (now:=now) h0 hS (by omega) (by omega) (by omega) (by unfold OD;omega)
 have ai:Vs (UR (OL S).1 item):=fun e he=>⟨(Ni2 hS (by omega) he).2.1,(Ni2 hS (by omega) he).2.2.1⟩
 obtain ⟨es,M⟩:∃es,es=UR (OL S).1 item:=⟨_,rfl⟩
 have bu:es.length<=(OL S).1.length:=by rw [M];exact (MX _ _).length_le
 rw [<-M] at hz F az hle ai⊢
 rw [Nb] at hz v⊢
 have sE:Sl G2 encE 7 (Sa G1.length) es:=Nnu NZ hz
 have u:=v.cells k8 (by simp)
 have k:=m.pre.trans v
 have bx:=v.len
 have am:=fun X=>(OH.refl.app (X:=X)).cells u
 obtain ⟨G9,e9,h9,m9⟩:=OQ (NM u) (Vc [Vz,Vz,Vz,Vi 0,Vz])
 have y9:=fun X=>(OH.refl.app (X:=X)).cells h9
 have aq:Chg [] H G9:=k.mut m9 (.inr (by omega))
 refine NL ?_
 by_cases Y:es=[]
 ·rw [Ni Y] at F
  rw [F] at d
  subst Y
  simp only [n17,r17,am,e9,y9,i,NF,Nu,show lim<=G2.length by omega,SB,seval,NC,NJ,NG,NQ,reduceCtorEq,NB,place,NA,ND]
  exact d _ (by decide) aq.app
 have bs:0<es.length:=List.length_pos_iff.2 Y
 have ay:¬((es.length:Nat):Int)=0:=by omega
 rw [Ng Y] at F
 have k4:=m.cells (NV (X:=[Vc (Tw pp P.length cp pL L.length cL),Vc [Vz,Vz,Vz,Vi 0,Vz]])) (by simp)
 have T:=v.cells k4 (by simp)
 have be:=fun X=>(OH.refl.app (X:=X)).cells T
 simp only [n17,r17,am,be,PS,NI,i,NF,Nm ay,show lim<=G2.length by omega,SB,seval,NC,NJ,NG,NQ,reduceCtorEq,NB,place,NA,ND]
 replace hle:=hle Y
 rw [hle] at d ae
 have ad:=hN.sim fun b ro x hb=>k.cells hb (by simp)
 refine N57 (lim:=lim) (ad.app _) (by simp;omega) (sE.app _) (by omega) (fun G3 s f=>?_) (fun G3 q cq r cr s f hq hr=>?_)
 ·have z8:=f.pre.cells u (by simp)
  have b0:=fun X=>(OH.refl.app (X:=X)).cells z8
  have w:=f.cells NV (by simp)
  have y:=fun X=>(OH.refl.app (X:=X)).cells w
  obtain ⟨Ga,ea,o,J⟩:=OQ (NM w) (Vc [.slice (Sa G1.length) es.length (OL S).1.length,Vz,Vz,Vi 0,Vz])
  have an:=J.cells z8 (by have:=NM u;omega)
  have ao:=fun X=>(OH.refl.app (X:=X)).cells an
  obtain ⟨Gb,eb,hb,mb⟩:=OQ (NM an) (Vc [Vz,Vz,Vz,Vi 0,Vz])
  have zb:=fun X=>(OH.refl.app (X:=X)).cells hb
  refine NL ?_
  simp only [n17,r17,y,ea,ao,eb,zb,i,NF,Nm s,show lim<=G2.length by omega,SB,seval,NC,NJ,NG,NQ,reduceCtorEq,NB,place,NA,ND]
  exact d _ s ((k.trans f.pre).mut J (.inr (by have:=k.len;omega)) |>.mut mb (.inr (by omega))).app
 obtain ⟨ks,N⟩:∃ks,ks=R7 P L es:=⟨_,rfl⟩
 obtain ⟨ss,I⟩:∃ss,ss=QL P L es ks:=⟨_,rfl⟩
 rw [<-N] at hq hr⊢
 rw [<-I] at hr⊢
 have z8:=f.pre.cells u (by simp)
 have z4:=f.pre.cells T (by simp)
 have w:=f.cells NV (by simp)
 have y:=fun X=>(OH.refl.app (X:=X)).cells w
 obtain ⟨Ga,ea,o,J⟩:=OQ (NM w) (Vc [.slice (Sa G1.length) es.length (OL S).1.length,.slice q ks.length cq,.slice r ss.length cr,Vi (Sy P L es ks),Vz])
 have ax:=f.len
 simp at ax
 have bo:H.length+2<=G2.length:=by have:=m.len;simp at this;omega
 have K:Chg [] H Ga:=(k.trans f.pre).mut J (.inr (by have:=k.len;omega))
 have t:=K.len
 have a8:=J.cells z8 (by have:=NM u;omega)
 have a4:=J.cells z4 (by have:=NM T;omega)
 have a0:=hq.mut J (by simp)
 have a2:=hr.mut J (by simp)
 have bn:=NM hz
 have a7:=(Chg.refl.mut (A:=[G2.length]) J (.inl (by simp))).sl (f.pre.sl sE (fun a _ _ h=>(by cases h))) (fun a o _=>by cases o;simp;omega)
 refine NL ?_
 simp only [n17,r17,y,ea,i,NF,show lim<=G2.length by omega,SB,seval,NC,NJ,NG,NQ,reduceCtorEq,NB,place,NA,ND]
 refine Nxp hE ((K.sl hs (fun a _ _ h=>(by cases h))).app _) hS fun G4 tp tc hT l=>?_
 have b8:=l.pre.cells a8 (by simp)
 have b4:=l.pre.cells a4 (by simp)
 have b13:=l.pre.cells o (by simp)
 have bc:=fun X=>(OH.refl.app (X:=X)).cells b8
 have bb:=fun X=>(OH.refl.app (X:=X)).cells b4
 have al:=fun X=>(OH.refl.app (X:=X)).cells b13
 have r13:TL (Vc [.slice (Sa G1.length) es.length (OL S).1.length,.slice q ks.length cq,.slice r ss.length cr,Vi (Sy P L es ks),Vz])=true:=by simp [TL]
 have r4:TL (Vc (Tw pp P.length cp pL L.length cL))=true:=by simp [TL,Tw]
 refine NL ?_
 simp only [n17,r17,bc,bb,al,r13,r4,PS,NI,SB,seval,NC,NJ,NG,NQ,reduceCtorEq,NB,place,NA,ND]
 have aj:Vs (UR (OL S).2 item):=fun e he=>by
  have hm:=((MZ (show item≠0 by omega)).1 he).1
  have ht:=Ng9 hS.2 (.inr hm)
  obtain ⟨s0,a6,e0⟩:=MK (.inr hm)
  have h6:=(hS.2 s0 a6).2.2.2.2.2.2
  have e6:e.seen=s0.seen:=by rw [<-e0]
  unfold Wl at h6
  unfold OD
  omega
 refine Nzf (lim:=lim) ((hT.sl NZ).app _) (by omega) (by simp;have:=l.pre.len;omega) fun G5 z' R g=>?_
 obtain ⟨tw,htw⟩:∃tw,tw=UR (OL S).2 item:=⟨_,rfl⟩
 have bv:tw.length<=(OL S).2.length:=by rw [htw];exact (MX _ _).length_le
 rw [<-htw] at R aj⊢
 rw [Nb] at R g⊢
 refine ⟨Nk6 fun j hj=>?_, ?_⟩
 ·have ap:OE (List.length G4) [] G4=G4:=rfl
  rw [ap] at hj⊢
  obtain ⟨ro,x,hx⟩:=UG hj
  rw [Nb,g.other j (NM hx) (by simp)]
 have c8:=g.cells b8 (by simp)
 have bk:=g.cells b4 (by simp)
 have c13:=g.cells b13 (by simp)
 have l4:=l.pre.len
 have l5:=g.len
 have ac:Chg [] H G5:=(K.trans l.pre).trans g
 have ag:=(a0.chg (A:=[]) l.pre (by simp)).chg (A:=[]) g (by simp)
 have ah:=(a2.chg (A:=[]) l.pre (by simp)).chg (A:=[]) g (by simp)
 have ak:=g.sl (l.pre.sl a7 (fun a _ _ h=>(by cases h))) (fun a _ _ h=>(by cases h))
 have ba:Sl G5 encE 7 (Sa G4.length) tw:=Nnu NZ R
 have D:=X9 (P:=P) (L:=L) (es:=es)
 rw [<-N] at D
 have O:=Y1 (P:=P) (L:=L) D
 rw [<-I] at O
 have bw:ks.length<=es.length:=Z5 D.2
 have bh:ss.length<=ks.length:=by rw [I];unfold QL;rw [Ns,O1];omega
 refine NL ?_
 simp only [n17,r17,SB,seval,NC,NJ,NG,NQ,reduceCtorEq,NB,place,NA,ND]
 have au:=hN.sim fun b ro x hb=>ac.cells hb (by simp)
 refine Nu5 (lim:=lim) (ct:=(OL S).2.length) (c:=Sy P L es ks) (ak.app _) (.inr ⟨by omega,by omega⟩) (ba.app _) (au.app _) (ag.1.app _) (ah.1.app _) (by simp;omega) (by omega) (by omega) ai aj O.1 O.2 D.mem (by omega) (by omega) ⟨by omega,by unfold OD;omega⟩ fun G6 pl cl n C=>?_
 have d8:=n.pre.cells c8 (by simp)
 have Z:=n.pre.cells c13 (by simp)
 have aa:=fun X=>(OH.refl.app (X:=X)).cells Z
 have bm:=fun X=>(OH.refl.app (X:=X)).cells d8
 obtain ⟨Ge,ee,he,V⟩:=OQ (NM Z) (Vc (TG (Sa G1.length) es.length (OL S).1.length q ks.length cq r ss.length cr (Sy P L es ks) pl (Ua P L es tw ks ss now).length cl))
 have ab:=V.cells d8 (by omega)
 have xe:=fun X=>(OH.refl.app (X:=X)).cells he
 have bd:=fun X=>(OH.refl.app (X:=X)).cells ab
 obtain ⟨Gf,ef,hf,mf⟩:=OQ (NM ab) (Vc (TG (Sa G1.length) es.length (OL S).1.length q ks.length cq r ss.length cr (Sy P L es ks) pl (Ua P L es tw ks ss now).length cl))
 have xf:=fun X=>(OH.refl.app (X:=X)).cells hf
 simp only [TG] at ee xe ef xf
 refine NL ?_
 simp only [n17,r17,aa,ee,xe,bd,ef,xf,i,NF,show lim<=G2.length by omega,SB,seval,NC,NJ,NG,NQ,reduceCtorEq,NB,place,NA,ND]
 have l6:=n.pre.len
 have ar:H.length<=G1.length:=by have:=m.pre.len;omega
 have a9:=(((Chg.refl.mut (A:=[G2.length,H.length+1]) V (.inl (by simp))).mut mf (.inl (by simp))).sl (n.pre.sl ak (fun a _ _ h=>(by cases h))) (fun a o _=>by cases o;simp;omega)).app []
 have a1:=((((ag.chg (A:=[]) n.pre (by simp)).mut V (by simp)).mut mf (by simp;omega)).le (n':=H.length) (by simp;omega)).app []
 have a3:=((((ah.chg (A:=[]) n.pre (by simp)).mut V (by simp)).mut mf (by simp;omega)).le (n':=H.length) (by simp;omega)).app []
 have bf:=NM c13
 have bq:=NM c8
 have av:=((C.mut V (fun a o=>by have:=(C.block o).1;simp at this;omega)).mut mf (fun a o=>by have:=(C.block o).1;simp at this;omega)).app []
 refine ae _ _ _ q cq r cr pl cl es tw ks ss M htw N I (s) (((ac.trans n.pre).mut V (.inr (by omega))).mut mf (.inr (by omega))).app ⟨a9,fun a o=>by cases o;exact ar⟩ (.inr ⟨by omega,by omega⟩) a1 a3 ⟨av.sl QV,fun a o=>by have:=(C.block o).1;simp at this;omega⟩
def Na3 (L:List Leg):Prop:=(∀l∈L,l.dst=l.frm+1)/\∀a∈L,∀b∈L,a.frm=b.frm->a=b
section
variable {L:List Leg} (hL:Na3 L)
include hL
theorem Na3.len:∀{w:List (Leg×Int)} {p t q u:Int},Sb L p t w q u->q=p+w.length
 | [],p,t,q,u,h=>by obtain ⟨rfl,_⟩:=h;simp
 | (l,a)::w,p,t,q,u,h=>by
   obtain ⟨h1,h2,c,d,b⟩:=h
   have e:=hL.1 l h1
   have:=Na3.len b
   simp only [Nl]
   omega
theorem Na3.first:∀{w w':List (Leg×Int)} {p t b q u c:Int},Sb L p t w q u->ZX t w->Sb L p b w' q c->t<=b->u<=c/\w.map (·.1)=w'.map (·.1)
 | [],w',p,t,b,q,u,c,h,_,h',ht=>by
   have e:=hL.len h'
   obtain ⟨rfl,rfl⟩:=h
   have:w'=[]:=List.length_eq_zero_iff.1 (by omega)
   subst this
   obtain ⟨_,rfl⟩:=h'
   exact ⟨ht,rfl⟩
 | (l,a)::w,[],p,t,b,q,u,c,h,_,h',ht=>by
   have e:=hL.len h
   obtain ⟨rfl,_⟩:=h'
   simp only [Nl] at e
   omega
 | (l,a)::w,(l',a')::w',p,t,b,q,u,c,h,hn,h',ht=>by
   obtain ⟨h1,h2,o,r,i⟩:=h
   obtain ⟨d,m,f,n,g⟩:=h'
   obtain ⟨j,k⟩:=hn
   obtain rfl:l=l':=hL.2 l h1 l' d (by omega)
   have:=(Sk j).2.2 a' f (by omega)
   obtain ⟨k1,k2⟩:=Na3.first i k g (by omega)
   exact ⟨k1,by rw [N4,N4,k2]⟩
theorem Na3.best {w:List (Leg×Int)} {p t q u:Int} (h:Sb L p t w q u) (hn:ZX t w) (g:u<=t+86400):Ud L p t q u/\BestW L p t q u w:=by
 have key:∀j v',Go.Net.Way L j p t q v'->u<=v'/\w.length=j:=fun j v' d=>by
  obtain ⟨w',e,b⟩:=d.isWay
  have k:=hL.first h hn b (On _)
  have:=Qq List.length k.2
  rw [Ns,Ns] at this
  exact ⟨k.1,by omega⟩
 refine ⟨.inr ⟨⟨⟨_,h.way⟩,g⟩,fun v ⟨⟨j,d⟩,_⟩=>(key j v d).1⟩,h,fun j v' d _=>by have:=(key j v' d).2;omega,fun w' v' b _ _ c=>?_,hn⟩
 have k:=hL.first h hn b (On _)
 have e:ZB w'=ZB w:=by
  unfold ZB
  have:=Qq (List.map fun l:Leg=>l.id) k.2
  rw [List.map_map,List.map_map] at this
  exact this.symm
 rw [e] at c
 exact f _ c
where
 f:∀x:List Int,¬Nmb x x
 | [],h=>by cases h
 | a::x,h=>by rcases h with h | ⟨_,h⟩;omega;exact f x h
theorem Na3.way {P:List Int} {w:List (Leg×Int)} {p t q u:Int} (h:Sb L p t w q u) (hn:ZX t w) (a:u<=t+86400) (h0:0<=u) (he:V4 P L p q t=0):Mc P L p q t=w:=
 Ndr ⟨he,u,h0,(hL.best h hn a).1,(hL.best h hn a).2⟩
theorem Na3.arr {P:List Int} {w:List (Leg×Int)} {p t q u:Int} (h:Sb L p t w q u) (hn:ZX t w) (a:u<=t+86400) (he:V4 P L p q t=0):Nf4 P L p t q=u:=by
 obtain ⟨d,hp,b,c,_⟩:=M0 he
 exact SL.uniq (Ndn (VU d) hp b c) (hL.best h hn a).1
end
theorem N3y {P:List Int} {L:List Leg} {a b:Ev} {v:Int} (c:a.kind≠4) (e:b.place∈P) (he:V4 P L a.place a.place a.time=0) (f:Nf4 P L a.place a.time b.place=v) (h0:0<=v) (d:v<=b.time):QW P L a b=0:=by
 unfold QW
 rw [Ng c]
 by_cases hp:a.place=b.place
 ·rw [Ni hp]
 rw [Ng hp,Ng (by simpa using e),Ng (by simpa using he),f,Ng (by omega)]
 omega
section
variable {P:List Int} {L:List Leg} {es:List Ev}
theorem Njz {ks:List Int} (h:Yu es.length ks):0<=Sy P L es ks:=by
 have h1:=Z5 h.2
 have h2:=Mg (P:=P) (L:=L) (es:=es) (ks:=ks) (ks.length-1)
 unfold Sy QL
 omega
def N2p (P:List Int) (L:List Leg) (es:List Ev):Int:=Sy P L es (R7 P L es)
theorem Nj5:0<=N2p P L es:=Njz X9
def Nnp (n:Nat):List Int:=(List.range n).map Int.ofNat
theorem V6 {n:Nat}:(Nnp n).length=n:=by simp [Nnp]
theorem Naz {n i:Nat} (h:i<n):gt (Nnp n) i=(i:Int):=by rw [PO (by simpa [Nnp] using h)];simp [Nnp]
theorem N5v {n:Nat}:Yu n (Nnp n):=⟨fun h=>by rwa [V6] at h,fun i hi=>by
 rw [V6] at hi
 unfold Ncy
 rw [Naz hi]
 refine ⟨by omega,by omega,fun h=>?_⟩
 rw [Naz (by omega)]
 omega⟩
theorem Ng8:∀(l:List (Int×Int×Int)),(∀x∈l,x.2.2=0)->UO l=0
 | [],_=>rfl
 | x::l,h=>by rw [UO,h x (by simp),Ng8 l fun y a=>h y (by simp [a])];rfl
theorem N2v (h:∀i,i+1<es.length->QW P L (gt es i) (gt es (i+1))=0):Sy P L es (Nnp es.length)=0:=by
 unfold Sy
 rw [V6,Ng8]
 ·omega
 ·intro x a
  unfold QL at a
  obtain ⟨i,hi,rfl⟩:=List.mem_map.1 a
  have hi:=List.mem_range.1 hi
  rw [V6] at hi
  unfold UB
  rw [Naz (by omega),Naz (by omega)]
  exact h i (by omega)
theorem Nwh (h:∀i,i+1<es.length->QW P L (gt es i) (gt es (i+1))=0):N2p P L es=0/\(R7 P L es).length=es.length:=by
 have h0:=N2v h
 have h1:=Nj5 (P:=P) (L:=L) (es:=es)
 have h2:=Z5 (X9 (P:=P) (L:=L) (es:=es)).2
 rcases N2o (P:=P) (L:=L) (N5v (n:=es.length)) with a | ⟨a,hc | ⟨hc,_⟩⟩
 ·rw [h0] at a;exact absurd a (by unfold N2p at h1;omega)
 ·rw [V6] at hc;rw [h0] at a;exact ⟨a,by omega⟩
 ·rw [V6] at hc;rw [h0] at a;exact ⟨a,by omega⟩
end
theorem Nq8 {P:List Int} {L:List Leg} {es:List Ev} (h:∀i,i+1<es.length->QW P L (gt es i) (gt es (i+1))=0):R7 P L es=Nnp es.length/\Sy P L es (R7 P L es)=0:=by
 obtain ⟨h1,h2⟩:=Nwh h
 have hk:=X9 (P:=P) (L:=L) (es:=es)
 refine ⟨?_,h1⟩
 refine O2 (by rw [V6,h2]) fun i hi a=>?_
 rw [<-PO hi,<-PO a,Naz (by rw [V6] at a;exact a)]
 have mono:∀d i,i+d<(R7 P L es).length->gt (R7 P L es) i+d<=gt (R7 P L es) (i+d):=fun d=>by
  induction d with
  | zero=>intro i _;simp
  | succ d ih=>
    intro i hd
    have k1:=ih i (by omega)
    have k2:gt (R7 P L es) (i+(d+1)-1)<gt (R7 P L es) (i+(d+1)):=(hk.2 (i+(d+1)) hd).2.2 (by omega)
    rw [show i+(d+1)-1=i+d by omega] at k2
    omega
 have b:=Nrc hk.2 i hi
 have c:=mono (es.length-1-i) i (by omega)
 have e:=(hk.2 (i+(es.length-1-i)) (by omega)).2.1
 omega
def k1L:Leg:=⟨1,1,2,600,60,0,1000,127⟩
def k2L:Leg:=⟨2,2,3,700,100,0,1000,127⟩
def PX:List Int:=[1,2,3]
def LX:List Leg:=[k1L,k2L]
theorem N2f:Na3 LX:=⟨by decide,by decide⟩
theorem nk1:Sm k1L 500=some 600:=nx 0 rfl (by decide) (by decide) (by decide) (by decide) (by decide)
theorem nk2:Sm k2L 660=some 700:=nx 0 rfl (by decide) (by decide) (by decide) (by decide) (by decide)
theorem N96:Sb LX 1 500 [(k1L,600),(k2L,700)] 3 800:=by
 obtain ⟨a,_⟩:=Sk nk1
 obtain ⟨b,_⟩:=Sk nk2
 exact ⟨by simp [LX],rfl,a,by decide,by simp [LX],rfl,b,by decide,rfl,by decide⟩
theorem Nzv:ZX 500 [(k1L,600),(k2L,700)]:=⟨nk1,nk2,trivial⟩
theorem Of3:Nf4 PX LX 1 500 3=800:=N2f.arr N96 Nzv (by decide) (by decide)
theorem wX:Mc PX LX 1 3 500=[(k1L,600),(k2L,700)]:=N2f.way N96 Nzv (by decide) (by decide) (by decide)
def Nca (p t k:Int):Ev:=⟨7,p,p,k,t,t,0⟩
def evX (p t k:Int):Ev:=⟨7,p,p,k,t,t,t⟩
def SA:List Ev:=[Nca 1 500 2,Nca 3 800 2]
def SBx:List Ev:=[Nca 1 500 2,Nca 3 800 2,Nca 1 501 2]
def SDx:List Ev:=[Nca 1 500 2,Nca 1 505 4,Nca 1 600 2]
def EA:List Ev:=[evX 1 500 2,evX 3 800 2]
def ED:List Ev:=[evX 1 500 2,evX 1 505 4,evX 1 600 2]
theorem N6c:UR (OL SA).1 7=EA:=by decide
theorem Oaw:UR (OL SBx).1 7=EA:=by decide
theorem Oav:UR (OL SDx).1 7=ED:=by decide
theorem N7a:UR (OL SA).2 7=[]:=by decide
theorem Obm:UR (OL SBx).2 7=[evX 1 501 2]:=by decide
theorem Obl:UR (OL SDx).2 7=[]:=by decide
theorem prX:QW PX LX (evX 1 500 2) (evX 3 800 2)=0:=N3y (v:=800) (by decide) (by decide) (by decide) Of3 (by decide) (by decide)
theorem Nq9:R7 PX LX EA=[0,1]/\Sy PX LX EA [0,1]=0:=by
 obtain ⟨h1,h2⟩:=Nq8 (P:=PX) (L:=LX) (es:=EA) fun i hi=>by
  have:i=0:=by simp [EA] at hi;omega
  subst this;exact prX
 have e:R7 PX LX EA=[0,1]:=h1.trans rfl
 exact ⟨e,by rw [<-e];exact h2⟩
theorem Nir:QL PX LX EA [0,1]=[(0,1,0)]:=by
 show [((0:Int),(1:Int),QW PX LX (evX 1 500 2) (evX 3 800 2))]=_
 rw [prX]
theorem N9q:R7 PX LX ED=[0,1]:=by decide
theorem N3i:QL PX LX ED [0,1]=[(0,1,0)]:=by decide
def TQ:An:=⟨5,1,0,2,0⟩
def Nww:An:=⟨6,0,0,1,1⟩
def Na0:An:=⟨7,1,0,3,28000⟩
def Nf9:An:=⟨1,2,0,1,0⟩
theorem N9u (tw:List Ev):Ua PX LX EA tw [0,1] [(0,1,0)] 900=QK EA tw 0++(TQ::QK EA tw 1)/\Ua PX LX EA tw [0,1] [(0,1,0)] 28800=QK EA tw 0++(TQ::QK EA tw 1)++[Na0]:=by
 have e0:atN PX LX EA tw [0,1] [(0,1,0)] 0=QK EA tw 0:=rfl
 have e2:SS PX LX EA (0,1,0)=[TQ]:=by
  have:SS PX LX EA (0,1,0)=TU PX LX EA (0,1,0):=rfl
  rw [this]
  have:TU PX LX EA (0,1,0)=(Mc PX LX 1 3 500).dropLast.map (Xr (0,1,0)):=rfl
  rw [this,wX];rfl
 have e1:atN PX LX EA tw [0,1] [(0,1,0)] 1=SS PX LX EA (0,1,0)++QK EA tw 1:=rfl
 rw [e2] at e1
 have e3:∀now,Ua PX LX EA tw [0,1] [(0,1,0)] now=atN PX LX EA tw [0,1] [(0,1,0)] 0++(atN PX LX EA tw [0,1] [(0,1,0)] 1++[])++U2 EA [0,1] now:=fun now=>rfl
 constructor
 ·rw [e3,e0,e1,show U2 EA [0,1] 900=[] from by decide];simp
 ·rw [e3,e0,e1,show U2 EA [0,1] 28800=[Na0] from by decide];simp
theorem N8a:Ua PX LX EA [] [0,1] [(0,1,0)] 900=[TQ]:=(N9u []).1
theorem N79:Ua PX LX EA [evX 1 501 2] [0,1] [(0,1,0)] 900=[Nww,TQ]:=(N9u _).1.trans (by decide)
theorem N78:Ua PX LX EA [] [0,1] [(0,1,0)] 28800=[TQ,Na0]:=(N9u []).2
theorem N77:Ua PX LX ED [] [0,1] [(0,1,0)] 900=[Nf9]:=rfl
theorem Nhe [OB] {mp:Bool} {lim:Nat} {p t k:Int} {H:NE} {Q:Value->NE->Prop}:NK E mp lim 31 [Vi p,Vi t,.int .u8 k] H Q=Q (.agg #[Vi 7,Vi p,Vi p,.int .u8 k,Vi t,Vi t]) H:=by
 refine pc (by decide) e31 rfl rfl ?_
 rw [b31,c31]
 simp only [n31,r31,NF,SB,seval,NC,NJ,NG,NQ,reduceCtorEq,NB,place,NA,ND]
theorem UJ [OB] {lim:Nat} {H:NE} {Q:Value->NE->Prop} (hl:lim<=H.length) (c:∀G a b,OH H G->NetIn G a b PX LX->Q (.agg (Tw a 3 3 b 2 2).toArray) G):NK E false lim 39 [] H Q:=by
 refine RJ (by decide) e39 rfl ?_
 rw [b39,c39]
 simp only [n39,r39,NF,hl,SB,seval,NC,NJ,NG,NQ,reduceCtorEq,NB,place,NA,ND]
 refine c _ (Sa (H.length+1)) (Sa (H.length+2)) OH.refl.app ⟨Sl.row (ro:=false) RI (by rw [OC];rfl),Sl.row (ro:=false) OI (by rw [OC];rfl),by decide,by decide, ?_⟩
 intro l hl
 simp only [LX,Nr,Ox,or_false] at hl
 rcases hl with rfl | rfl<;>(unfold By;decide)
theorem Of5 (x y:An):aEq (.agg [.int .u8,.int .i64,.int .i64,.int .i64,.int .i64]) (.agg (Ti x).toArray) (.agg (Ti y).toArray)=some (decide (x=y)):=by
 obtain ⟨a,b,c,d,e⟩:=x
 obtain ⟨a',b',f,g,h⟩:=y
 simp only [aEq,Ti,PL,TP,An.mk.injEq]
 simp
 rfl
theorem Ndk [OB] {mp:Bool} {lim ca n:Nat} {p q:Option Addr} {a b:List An} {H:NE} {Q:Value->NE->Prop} (o:Sl H Ti 5 p a) (r:Sl H Ti 5 q b) (hn:a.length<2 ^ 62) :
  NK E mp lim 30 [.slice p a.length ca,.slice q b.length n] H Q=Q (.bool (decide (a=b))) H:=by
 refine pc (by decide) e30 rfl rfl ?_
 rw [b30,c30]
 by_cases hl:a.length=b.length
 case neg=>
  have h1:¬(a.length:Int)=(b.length:Int):=by omega
  simp only [n30,r30,Nm h1,SB,seval,NC,NJ,NG,NQ,reduceCtorEq,NB,place,NA,ND]
  congr 1
  rw [eq_comm,decide_eq_false_iff_not]
  rintro rfl
  exact hl rfl
 have h1:(a.length:Int)=(b.length:Int):=by omega
 simp only [n30,r30,N6 h1,SB,seval,NC,NJ,NG,NQ,reduceCtorEq,NB,place,NA,ND]
 refine NP (fun j=>a.length-j) (fun j fr G=>j<=a.length/\fr 0=.slice p a.length ca/\fr 1=.slice q b.length n/\fr 12=Vi a.length/\fr 13=Vi j/\OH H G/\∀i,i<j->gt a i=gt b i) 0 ⟨Nv _,rfl,rfl,rfl,by rfl,OH.refl.app,fun i hi=>by omega⟩ ?_
 intro j fr G ⟨hj,f0,f1,f12,f13,g,f⟩ w
 rw [NT N61.eq_1]
 refine NL ?_
 by_cases d:j<a.length
 case neg=>
  obtain rfl:j=a.length:=by omega
  simp only [n30,r30,f0,f1,f12,f13,NN,d,SB,seval,NC,NJ,NG,NQ,reduceCtorEq,NB,place,NA,ND]
  have:a=b:=O2 hl fun i h1 h2=>by rw [<-PO h1,<-PO h2];exact f i h1
  rw [Nq this]
 have l:j<b.length:=by omega
 have s:=fun X=>((g.sl o).app X).loadCells QV d
 have t:=fun X=>((g.sl r).app X).loadCells QV l
 have u:=fun c (kk:IntKind) (H1:NE)=>(g.sl o).idx (c:=c) (k:=kk) (H1:=H1) d
 have v:=fun c (kk:IntKind) (H1:NE)=>(g.sl r).idx (c:=c) (k:=kk) (H1:=H1) l
 have m:IntKind.i64.wrap ((j:Int)+1)=((j+1:Nat):Int):=OA (by omega)
 have e:=Of5 (gt a j) (gt b j)
 by_cases he:gt a j=gt b j
 ·rw [Nq he] at e
  simp only [n30,r30,f0,f1,f12,f13,NN,d,s,t,u,v,m,e,SB,seval,NC,NJ,NG,NQ,reduceCtorEq,NB,place,NA,ND]
  exact w (j+1) _ _ ⟨by omega,f0,f1,f12,rfl,g.trans OH.refl.app,fun i hi=>by
   rcases Ok i j with h | h
   ·exact f i h
   ·rw [show i=j by omega];exact he⟩ (by omega)
 ·rw [N3 he] at e
  simp only [n30,r30,f0,f1,f12,f13,NN,d,s,t,u,v,m,e,SB,seval,NC,NJ,NG,NQ,reduceCtorEq,NB,place,NA,ND]
  congr 1
  rw [eq_comm,decide_eq_false_iff_not]
  rintro rfl
  exact he rfl
def Nex:List Value:=[.string ⟨#[]⟩,.string ⟨#[115,116,114,97,121]⟩,.string ⟨#[97,102,116,101,114]⟩,.string ⟨#[106,117,109,112]⟩,.string ⟨#[101,97,114,108,121]⟩,.string ⟨#[109,105,115,115,101,100]⟩,.string ⟨#[100,111,117,98,108,101,100]⟩,.string ⟨#[108,111,115,116]⟩]
theorem Zu:Nex.length=8:=id rfl
theorem Nl1 [OB] {mp:Bool} {lim:Nat} {H:NE} {Q:Value->NE->Prop}:NK E mp lim 35 [] H Q=Q (.agg Nex.toArray) H:=by
 refine pc (by decide) e35 rfl rfl ?_
 rw [b35,c35]
 simp only [n35,r35,NF,SB,seval,NC,NJ,NG,NQ,reduceCtorEq,NB,place,NA,ND]
 rfl
def Nch (n:Nat):Value:=Nex.getD n (.string ⟨#[]⟩)
theorem Npq (n:Nat):flat 4 (Nch n)=true:=by
 unfold Nch Nex
 rcases n with _ | _ | _ | _ | _ | _ | _ | _ | n<;>rfl
theorem Nje [OB] {mp:Bool} {lim n:Nat} {H:NE} {Q:Value->NE->Prop} (hn:n<256):NK E mp lim 13 [.int .u8 (n:Int)] H Q=Q (Nch n) H:=by
 refine pc (by decide) e13 rfl (Npq n) ?_
 rw [b13,c13]
 have c:IntKind.i64.wrap ((n:Nat):Int)=n:=NU (by omega) (by omega)
 by_cases b:8<=(n:Int)
 ·have e:Nch n=.string ⟨#[]⟩:=by unfold Nch;rw [Na,Nx (by rw [Zu];omega)];rfl
  simp only [n13,r13,Nl1,NF,c,ge_iff_le,N6 b,Zu,e,SB,seval,NC,NJ,NG,NQ,reduceCtorEq,NB,place,NA,ND]
 ·have e:∀(v:Value),Nex[n]? = some v->v=Nch n:=fun v d=>by unfold Nch;rw [Na,d];rfl
  have a:n<Nex.length:=by rw [Zu];omega
  have e2:Nex[n]? = some (Nch n):=by rw [Nf a];congr 1;exact e _ (Nf a)
  simp only [n13,r13,Nl1,NF,c,ge_iff_le,Nm b,Zu,e2,N6 (show (0:Int)<=n by omega),N6 (show (n:Int)<8 by omega),and_self,if_true,Pe,SB,seval,NC,NJ,NG,NQ,reduceCtorEq,NB,place,NA,ND]
theorem set_self {G:NE} {b:Nat} {x:Blk} (h:NH G b=x) (a:b<G.length):G.set b x=G:=by
 apply O2 (by simp)
 intro j h1 h2
 rw [List.getElem_set]
 split
 ·rename_i e;subst e
  unfold NH at h
  rw [Na,Nf a] at h
  exact h.symm
 ·rfl
def Yo:ACode:=RP (RP (RP (RP c18)))
theorem N5o:c18=.seq (TH c18) (.seq (TH (RP c18)) (.seq (TH (RP (RP c18))) (.seq (TH (RP (RP (RP c18)))) Yo))):=rfl
def Wy:ACode:=RP Yo
theorem Nxo:Yo=.seq (TH Yo) Wy:=rfl
def Xc:ACode:=RP Wy
theorem Nrp:Wy=.seq (TH Wy) Xc:=rfl
def Yk:ACode:=RP Xc
theorem Nro:Xc=.seq (TH Xc) Yk:=rfl
def Zf:ACode:=RP Yk
theorem Nrn:Yk=.seq (TH Yk) Zf:=rfl
def Nka:ACode:=RP Zf
theorem Nrm:Zf=.seq (TH Zf) Nka:=rfl
theorem Od0:UE PX LX SA 7 900=0:=by decide
theorem Odz:UE PX LX SBx 7 900=0:=by decide
theorem Ody:UE PX LX SA 7 28800=0:=by decide
theorem Odx:UE PX LX SDx 7 900=0:=by decide
theorem Oa7:UE PX LX SBx 8 900=6:=by decide
def Zd (G:NE) (b:Nat) (A:List An):Prop:=∃pe n ce q nk cq r ns cr c pl cl,NH G b=Vc (TG pe n ce q nk cq r ns cr c pl A.length cl)/\Sl G Ti 5 pl A
theorem Zd.ext {G G':NE} {b:Nat} {A:List An} (h:Zd G b A) (e:OH G G'):Zd G' b A:=by
 obtain ⟨pe,n,ce,q,nk,cq,r,ns,cr,c,pl,cl,h1,h2⟩:=h
 exact ⟨pe,n,ce,q,nk,cq,r,ns,cr,c,pl,cl,e.cells h1,e.sl h2⟩
theorem Ndg [OB] (l:EffOk) {lim c cp cL:Nat} {p pp pL:Option Addr} {S tw es:List Ev} {ks:List Int} {ss:List Stp} {A:List An} {now:Int} {H:NE} {Q:Value->NE->Prop} (m:NetIn H pp pL PX LX) (hs:Sl H R3 6 p S) (hn:S.length<2 ^ 63) (hl:lim<=H.length)
  (h0:UE PX LX S 7 now=0) (h1:UR (OL S).1 7=es) (h2:UR (OL S).2 7=tw) (g:R7 PX LX es=ks) (i:QL PX LX es ks=ss) (j:Ua PX LX es tw ks ss now=A)
  (o:∀G pe n ce q nk cq r ns cr c pl cl,OH H G->Sl G Ti 5 pl A->Q (.tuple #[.agg (TG pe n ce q nk cq r ns cr c pl A.length cl).toArray,Vi 0]) G) :
  NK E false lim 17 [.agg (Tw pp PX.length cp pL LX.length cL).toArray,.slice p S.length c,Vi 7,Vi now] H Q:=by
 refine Nj9 l m hs hn hl (fun G h=>absurd h0 h) fun G pe ce q cq r cr pl cl es' d a b e1 e2 e3 f _ k _ _ _ _ e=>?_
 obtain rfl:es'=es:=e1.trans h1
 obtain rfl:d=tw:=e2.trans h2
 obtain rfl:a=ks:=e3.trans g
 obtain rfl:b=ss:=f.trans i
 rw [j] at e⊢
 exact o G _ _ _ _ _ _ _ _ _ _ _ _ k.ext e.1
structure A18 (b1 b2 b3:Nat) (G:NE) (fr:Nat->Value):Prop where
 f1:fr 1=.slice (Sa b1) 3 3
 f2:fr 2=Vp b2
 f3:fr 3=Vp b3
 k1:NH G b1=Vc (SBx.flatMap R3)
 k2:NH G b2=Vc (Ti TQ)
 k3:NH G b3=Vc (Ti Nww)
section
variable {lim b1 b2 b3:Nat} {fr:Nat->Value} {G:NE} {Q:Value->NE->Prop}
theorem chA [OB] (L:EffOk) (h:A18 b1 b2 b3 G fr) (hl:lim<=G.length)
  (M:∀fr' G' x,OH G G'->(∀t,t<14->t≠4->t≠5->fr' t=fr t)->fr' 4=Vp x->fr' 5=Vi 0->Zd G' x [TQ]->PU E a18 lim [.code Wy] fr' G' Q):PU E a18 lim [.code Yo] fr G Q:=by
 rw [Nxo]
 refine NL ?_
 have v:Sl G R3 6 (Sa b1) SBx:=Sl.row OY h.k1
 obtain ⟨q1,J,P,O,_,_,_⟩:=UV (c:=3) (vlo:=none) (vhi:=some (Vi 2)) (lo:=0) (hi:=2) v (.inr ⟨by decide,by decide⟩) OY (fun cap F=>by rw [M4 (by decide) (by have:SBx.length=3:=rfl;omega)];rfl) (by decide) (by decide) (by decide)
 simp only [TH,RP,Yo,c18,n18,r18,h.f1,SB,seval,NC,NJ,NG,NQ,reduceCtorEq,NB,place,NA,ND]
 refine UJ (by simp;omega) fun G1 a b f u=>?_
 have N:=f.len
 simp at N
 have l:NH G1 G.length=.dead:=by obtain ⟨X,rfl⟩:=f;rw [NR (by simp),NV];rfl
 have j:List.set G1 G.length Blk.dead=G1:=set_self l (by omega)
 have z:We 6 (.slice (Sa b1) 3 3) none (some (Vi 2)) none=some (.slice q1 2 J):=P
 have d:OH G G1:=by obtain ⟨X,rfl⟩:=f;rw [Np];exact OH.refl.app
 refine NL ?_
 simp only [n18,r18,h.f1,z,j,SB,seval,NC,NJ,NG,NQ,reduceCtorEq,NB,place,NA,ND]
 simp only [Nb,j]
 have w:Sl G1 R3 6 q1 SA:=d.sl O
 refine Ndg L u w (by decide) (by omega) Od0 N6c N7a Nq9.1 Nir N8a fun G2 pe n ce q nk cq r ns cr c pl cl g hA=>?_
 have V:=g.len
 have B:NH G2 G.length=.dead:=by obtain ⟨X,rfl⟩:=g;rw [NR (by omega)];exact l
 have m:NH (G1++[]) G.length=.dead:=by rw [Nb];exact l
 have y:List.set G2 G.length Blk.dead=G2:=set_self B (by omega)
 obtain ⟨T,e3,D,H⟩:=OQ (G:=G2) (R:=G.length) (by omega) (Vc [Vz,Vz,Vz,Vi 0,Vz])
 obtain ⟨k,C,K,I⟩:=OQ (NM D) (Vc (TG pe n ce q nk cq r ns cr c pl [TQ].length cl))
 have p:Chg [] G k:=(((d.trans g).chg (A:=[])).mut H (.inr (Nd _))).mut I (.inr (Nd _))
 have o:Sl k Ti 5 pl [TQ]:=hA.sim (G:=k) fun b ro x s=>by
  have i:b≠G.length:=fun e=>by rw [e,B] at s;cases s
  exact I.cells (H.cells s i) i
 have S:=fun X=>(OH.refl.app (X:=X)).cells D
 simp only [Nl,Nu,Oc,Nat.reduceAdd] at C
 refine NL ?_
 simp only [n18,r18,m,y,e3,S,C,hl,OP,NI,NF,SB,seval,NC,NJ,NG,NQ,reduceCtorEq,NB,place,NA,ND]
 exact M _ _ G.length (p.ext.trans OH.refl.app) (fun t U h1 h2=>by simp only [upd];repeat rw [Ng (by omega)]) rfl rfl ⟨pe,n,ce,q,nk,cq,r,ns,cr,c,pl,cl,by rw [Nb];exact K,o.app _⟩
theorem chB [OB] (i:EffOk) (h:A18 b1 b2 b3 G fr) (hl:lim<=G.length)
  (j:∀fr' G' x,OH G G'->(∀t,t<14->t≠6->t≠7->fr' t=fr t)->fr' 6=Vp x->fr' 7=Vi 0->Zd G' x [Nww,TQ]->PU E a18 lim [.code Xc] fr' G' Q):PU E a18 lim [.code Wy] fr G Q:=by
 rw [Nrp]
 refine NL ?_
 have g:Sl G R3 6 (Sa b1) SBx:=Sl.row OY h.k1
 simp only [TH,RP,Wy,Yo,c18,n18,r18,h.f1,SB,seval,NC,NJ,NG,NQ,reduceCtorEq,NB,place,NA,ND]
 rw [Nb]
 refine UJ (by omega) fun G1 a b d f=>?_
 have l:=d.len
 refine NL ?_
 simp only [n18,r18,h.f1,SB,seval,NC,NJ,NG,NQ,reduceCtorEq,NB,place,NA,ND]
 rw [Nb]
 refine Ndg i (c:=3) f (d.sl g) (by decide) (by omega) Odz Oaw Obm Nq9.1 Nir N79 fun G2 pe n ce q nk cq r ns cr c pl cl e hA=>?_
 have m:=e.len
 refine NL ?_
 simp only [n18,r18,OP,NI,NF,show lim<=G2.length by omega,SB,seval,NC,NJ,NG,NQ,reduceCtorEq,NB,place,NA,ND]
 exact j _ _ G2.length ((d.trans e).trans OH.refl.app) (fun t k h1 h2=>by simp only [upd];repeat rw [Ng (by omega)]) rfl rfl ⟨pe,n,ce,q,nk,cq,r,ns,cr,c,pl,cl,by rw [NV];rfl,hA.app _⟩
theorem chC [OB] (L:EffOk) (h:A18 b1 b2 b3 G fr) (hl:lim<=G.length)
  (M:∀fr' G' x,OH G G'->(∀t,t<14->t≠8->t≠9->fr' t=fr t)->fr' 8=Vp x->fr' 9=Vi 0->Zd G' x [TQ,Na0]->PU E a18 lim [.code Yk] fr' G' Q):PU E a18 lim [.code Xc] fr G Q:=by
 rw [Nro]
 refine NL ?_
 have v:Sl G R3 6 (Sa b1) SBx:=Sl.row OY h.k1
 obtain ⟨q1,J,P,O,_,_,_⟩:=UV (c:=3) (vlo:=none) (vhi:=some (Vi 2)) (lo:=0) (hi:=2) v (.inr ⟨by decide,by decide⟩) OY (fun cap F=>by rw [M4 (by decide) (by have:SBx.length=3:=rfl;omega)];rfl) (by decide) (by decide) (by decide)
 simp only [TH,RP,Xc,Wy,Yo,c18,n18,r18,h.f1,SB,seval,NC,NJ,NG,NQ,reduceCtorEq,NB,place,NA,ND]
 refine UJ (by simp;omega) fun G1 a b f u=>?_
 have N:=f.len
 simp at N
 have l:NH G1 G.length=.dead:=by obtain ⟨X,rfl⟩:=f;rw [NR (by simp),NV];rfl
 have j:List.set G1 G.length Blk.dead=G1:=set_self l (by omega)
 have z:We 6 (.slice (Sa b1) 3 3) none (some (Vi 2)) none=some (.slice q1 2 J):=P
 have d:OH G G1:=by obtain ⟨X,rfl⟩:=f;rw [Np];exact OH.refl.app
 refine NL ?_
 simp only [n18,r18,h.f1,z,j,SB,seval,NC,NJ,NG,NQ,reduceCtorEq,NB,place,NA,ND]
 simp only [Nb,j]
 have w:Sl G1 R3 6 q1 SA:=d.sl O
 refine Ndg L u w (by decide) (by omega) Ody N6c N7a Nq9.1 Nir N78 fun G2 pe n ce q nk cq r ns cr c pl cl g hA=>?_
 have V:=g.len
 have B:NH G2 G.length=.dead:=by obtain ⟨X,rfl⟩:=g;rw [NR (by omega)];exact l
 have m:NH (G1++[]) G.length=.dead:=by rw [Nb];exact l
 have y:List.set G2 G.length Blk.dead=G2:=set_self B (by omega)
 obtain ⟨T,e3,D,H⟩:=OQ (G:=G2) (R:=G.length) (by omega) (Vc [Vz,Vz,Vz,Vi 0,Vz])
 obtain ⟨k,C,K,I⟩:=OQ (NM D) (Vc (TG pe n ce q nk cq r ns cr c pl [TQ,Na0].length cl))
 have p:Chg [] G k:=(((d.trans g).chg (A:=[])).mut H (.inr (Nd _))).mut I (.inr (Nd _))
 have o:Sl k Ti 5 pl [TQ,Na0]:=hA.sim (G:=k) fun b ro x s=>by
  have i:b≠G.length:=fun e=>by rw [e,B] at s;cases s
  exact I.cells (H.cells s i) i
 have S:=fun X=>(OH.refl.app (X:=X)).cells D
 simp only [Nl,Nu,Oc,Nat.reduceAdd] at C
 refine NL ?_
 simp only [n18,r18,m,y,e3,S,C,hl,OP,NI,NF,SB,seval,NC,NJ,NG,NQ,reduceCtorEq,NB,place,NA,ND]
 exact M _ _ G.length (p.ext.trans OH.refl.app) (fun t U h1 h2=>by simp only [upd];repeat rw [Ng (by omega)]) rfl rfl ⟨pe,n,ce,q,nk,cq,r,ns,cr,c,pl,cl,by rw [Nb];exact K,o.app _⟩
theorem chD [OB] (g:EffOk) (hl:lim<=G.length)
  (i:∀fr' G' x,OH G G'->(∀t,t<14->t≠10->t≠11->fr' t=fr t)->fr' 10=Vp x->fr' 11=Vi 0->Zd G' x [Nf9]->PU E a18 lim [.code Zf] fr' G' Q):PU E a18 lim [.code Yk] fr G Q:=by
 rw [Nrn]
 refine NL ?_
 simp only [TH,RP,Yk,Xc,Wy,Yo,c18,n18,r18,SB,seval,NC,NJ,NG,NQ,reduceCtorEq,NB,place,NA,ND]
 rw [Nb]
 refine UJ (by omega) fun G1 a b d f=>?_
 have l:=d.len
 refine NL ?_
 simp only [n18,r18,Nhe,NF,QP,Uk,show lim<=G1.length by omega,SB,seval,NC,NJ,NG,NQ,reduceCtorEq,NB,place,NA,ND]
 refine Ndg g (c:=3) (S:=SDx) (f.app _) (Sl.row (ro:=false) OY (by rw [NV];rfl)) (by decide) (by simp;omega) Odx Oav Obl N9q N3i N77 fun G2 pe n ce q nk cq r ns cr c pl cl e hA=>?_
 have j:=e.len
 simp at j
 have h:OH G G2:=by obtain ⟨X,rfl⟩:=e;obtain ⟨Y,rfl⟩:=d;rw [Np,Np];exact OH.refl.app
 refine NL ?_
 simp only [n18,r18,OP,NI,NF,show lim<=G2.length by omega,SB,seval,NC,NJ,NG,NQ,reduceCtorEq,NB,place,NA,ND]
 exact i _ _ G2.length (h.trans OH.refl.app) (fun t k h1 h2=>by simp only [upd];repeat rw [Ng (by omega)]) rfl rfl ⟨pe,n,ce,q,nk,cq,r,ns,cr,c,pl,cl,by rw [NV];rfl,hA.app _⟩
theorem chE [OB] (i:EffOk) (h:A18 b1 b2 b3 G fr) (hl:lim<=G.length)
  (j:∀fr' G',OH G G'->(∀t,t<12->fr' t=fr t)->fr' 13=Vi 6->PU E a18 lim [.code Nka] fr' G' Q):PU E a18 lim [.code Zf] fr G Q:=by
 rw [Nrm]
 refine NL ?_
 have f:Sl G R3 6 (Sa b1) SBx:=Sl.row OY h.k1
 simp only [TH,RP,Zf,Yk,Xc,Wy,Yo,c18,n18,r18,h.f1,SB,seval,NC,NJ,NG,NQ,reduceCtorEq,NB,place,NA,ND]
 rw [Nb]
 refine UJ (by omega) fun G1 a b d e=>?_
 have l:=d.len
 refine NL ?_
 simp only [n18,r18,h.f1,SB,seval,NC,NJ,NG,NQ,reduceCtorEq,NB,place,NA,ND]
 rw [Nb]
 refine Nj9 i (P:=PX) (L:=LX) (S:=SBx) (c:=3) e (d.sl f) (by decide) (by omega) (fun G2 _ g=>?_) (fun _ _ _ _ _ _ _ _ _ _ _ _ _ _ _ _ _ h=>absurd (Oa7.symm.trans h) (by decide))
 have m:=g.len
 rw [Oa7]
 refine NL ?_
 simp only [n18,r18,Ndb,NF,show lim<=G2.length by omega,SB,seval,NC,NJ,NG,NQ,reduceCtorEq,NB,place,NA,ND]
 exact j _ _ ((d.trans g.ext).trans OH.refl.app) (fun t k=>by simp only [upd];repeat rw [Ng (by omega)]) rfl
theorem A18.next {G':NE} {fr':Nat->Value} (h:A18 b1 b2 b3 G fr) (e:OH G G') (h1:fr' 1=fr 1) (h2:fr' 2=fr 2) (a:fr' 3=fr 3):A18 b1 b2 b3 G' fr':=
 ⟨h1.trans h.f1,h2.trans h.f2,a.trans h.f3,e.cells h.k1,e.cells h.k2,e.cells h.k3⟩
end
theorem Nwn [OB] {b1 b2 b3 b4 s t b10 lim:Nat} {fr:Nat->Value} {G:NE} (h:A18 b1 b2 b3 G fr) (f4:fr 4=Vp b4) (f5:fr 5=Vi 0) (e:fr 6=Vp s) (f:fr 7=Vi 0) (g:fr 8=Vp t) (f9:fr 9=Vi 0) (f10:fr 10=Vp b10) (f11:fr 11=Vi 0) (f13:fr 13=Vi 6)
  (D:Zd G b4 [TQ]) (F:Zd G s [Nww,TQ]) (I:Zd G t [TQ,Na0]) (r10:Zd G b10 [Nf9]):PU E a18 lim [.code Nka] fr G fun v' _=>v'=.bool true:=by
 obtain ⟨_,_,_,_,_,_,_,_,_,_,p4,v,y,J⟩:=D
 obtain ⟨_,_,_,_,_,_,_,_,_,_,p6,w,z,K⟩:=F
 obtain ⟨_,_,_,_,_,_,_,_,_,_,N,x,A,L⟩:=I
 obtain ⟨_,_,_,_,_,_,_,_,_,_,C,u,q,r⟩:=r10
 have k2:NH G b2=Vc [.int .u8 5,Vi 1,Vi 0,Vi 2,Vi 0]:=h.k2
 have k3:NH G b3=Vc [.int .u8 6,Vi 0,Vi 0,Vi 1,Vi 1]:=h.k3
 have k:=fun X=>(OH.refl.app (X:=X)).cells k2
 have l:=fun X=>(OH.refl.app (X:=X)).cells k3
 have m:=fun X=>(OH.refl.app (X:=X)).cells y
 have o:=fun X=>(OH.refl.app (X:=X)).cells z
 have p:=fun X=>(OH.refl.app (X:=X)).cells A
 have d:=fun X=>(OH.refl.app (X:=X)).cells q
 have M:IntKind.i64.wrap 0=0:=by decide
 have i:∀(mp:Bool) (lim:Nat) (H:NE) (Q:Value->NE->Prop),NK E mp lim 13 [.int .u8 1] H Q=Q (.string ⟨#[115,116,114,97,121]⟩) H:=fun mp lim H Q=>Nje (n:=1) (by decide)
 have c:∀(mp:Bool) (lim:Nat) (H:NE) (Q:Value->NE->Prop),NK E mp lim 13 [.int .u8 0] H Q=Q (.string ⟨#[]⟩) H:=fun mp lim H Q=>Nje (n:=0) (by decide)
 have j:∀(mp:Bool) (lim:Nat) (H:NE) (Q:Value->NE->Prop),NK E mp lim 13 [.int .u8 8] H Q=Q (.string ⟨#[]⟩) H:=fun mp lim H Q=>Nje (n:=8) (by decide)
 have B:∀(mp:Bool) (lim:Nat) (Q:Value->NE->Prop),NK E mp lim 30 [.slice p4 1 v,.slice (Sa G.length) 1 1] (G++[Vc [.int .u8 5,Vi 1,Vi 0,Vi 2,Vi 0]]) Q=Q (.bool true) (G++[Vc [.int .u8 5,Vi 1,Vi 0,Vi 2,Vi 0]]):=fun mp lim Q=>Ndk (a:=[TQ]) (b:=[TQ]) (J.app _) (Sl.row (ro:=false) QV (by rw [NV];rfl)) (by decide)
 refine NL ?_
 simp only [TH,RP,Nka,Zf,Yk,Xc,Wy,Yo,c18,n18,r18,f4,f5,e,f,g,f9,f10,f11,f13,h.f2,h.f3,M,Ra,k,l,m,o,p,d,QT,NI,NF,QP,Uk,B,i,c,j,SB,seval,NC,NJ,NG,NQ,reduceCtorEq,NB,place,NA,ND]
 refine Eq.mpr (Ndk (a:=[Nww,TQ]) (b:=[Nww,TQ]) (K.app _) (Sl.row (ro:=false) QV (by rw [OC];rfl)) (by decide)) ?_
 rw [Nq rfl]
 refine NL ?_
 simp only [n18,r18,f4,f5,e,f,g,f9,f10,f11,f13,h.f2,h.f3,k,l,m,o,p,d,QT,NI,NF,QP,Uk,i,c,j,decide_true,beq_self_eq_true,SB,seval,NC,NJ,NG,NQ,reduceCtorEq,NB,place,NA,ND]
 refine Eq.mpr (Ndk (a:=[TQ,Na0]) (b:=[TQ,Na0]) (L.app _) (Sl.row (ro:=false) QV (by rw [OC];rfl)) (by decide)) ?_
 rw [Nq rfl]
 refine NL ?_
 simp only [n18,r18,f4,f5,e,f,g,f9,f10,f11,f13,h.f2,h.f3,k,l,m,o,p,d,QT,NI,NF,QP,Uk,i,c,j,decide_true,beq_self_eq_true,SB,seval,NC,NJ,NG,NQ,reduceCtorEq,NB,place,NA,ND]
 refine Eq.mpr (Ndk (a:=[Nf9]) (b:=[Nf9]) (r.app _) (Sl.row (ro:=false) QV (by rw [OC];rfl)) (by decide)) ?_
 rw [Nq rfl]
 refine NL ?_
 simp only [n18,r18,f4,f5,e,f,g,f9,f10,f11,f13,h.f2,h.f3,k,l,m,o,p,d,QT,NI,NF,QP,Uk,i,c,j,decide_true,beq_self_eq_true,SB,seval,NC,NJ,NG,NQ,reduceCtorEq,NB,place,NA,ND]
theorem Nwo [OB] (e:EffOk) {b1 b2 b3 lim:Nat} {fr:Nat->Value} {G:NE} (p:A18 b1 b2 b3 G fr) (hl:lim<=G.length):PU E a18 lim [.code Yo] fr G fun v' _=>v'=.bool true:=by
 refine chA e p hl fun l F b4 s o f4 f5 B=>?_
 have L:=s.len
 have q:=p.next s (o 1 (by decide) (by decide) (by decide)) (o 2 (by decide) (by decide) (by decide)) (o 3 (by decide) (by decide) (by decide))
 refine chB e q (by omega) fun m H J k j x y C=>?_
 have M:=k.len
 have r:=q.next k (j 1 (by decide) (by decide) (by decide)) (j 2 (by decide) (by decide) (by decide)) (j 3 (by decide) (by decide) (by decide))
 refine chC e r (by omega) fun n I K g f z f9 D=>?_
 have N:=g.len
 have w:=r.next g (f 1 (by decide) (by decide) (by decide)) (f 2 (by decide) (by decide) (by decide)) (f 3 (by decide) (by decide) (by decide))
 refine chD e (by omega) fun d u b10 e10 c f10 f11 r10=>?_
 have A:=e10.len
 have a10:=w.next e10 (c 1 (by decide) (by decide) (by decide)) (c 2 (by decide) (by decide) (by decide)) (c 3 (by decide) (by decide) (by decide))
 refine chE e a10 (by omega) fun b v e12 a f13=>?_
 have a12:=a10.next e12 (a 1 (by decide)) (a 2 (by decide)) (a 3 (by decide))
 have t:∀t,t<12->(t=4\/t=5->b t=l t)/\(t=6\/t=7->b t=m t)/\(t=8\/t=9->b t=n t)/\(t=10\/t=11->b t=d t):=fun t i=>by
  refine ⟨fun h=>?_,fun h=>?_,fun h=>?_,fun h=>a t i⟩
  ·rw [a t i,c t (by omega) (by omega) (by omega),f t (by omega) (by omega) (by omega),j t (by omega) (by omega) (by omega)]
  ·rw [a t i,c t (by omega) (by omega) (by omega),f t (by omega) (by omega) (by omega)]
  ·rw [a t i,c t (by omega) (by omega) (by omega)]
 exact Nwn a12 (((t 4 (by decide)).1 (.inl rfl)).trans f4) (((t 5 (by decide)).1 (.inr rfl)).trans f5) (((t 6 (by decide)).2.1 (.inl rfl)).trans x) (((t 7 (by decide)).2.1 (.inr rfl)).trans y) (((t 8 (by decide)).2.2.1 (.inl rfl)).trans z) (((t 9 (by decide)).2.2.1 (.inr rfl)).trans f9) (((t 10 (by decide)).2.2.2 (.inl rfl)).trans f10) (((t 11 (by decide)).2.2.2 (.inr rfl)).trans f11) f13 ((((B.ext k).ext g).ext e10).ext e12) (((C.ext g).ext e10).ext e12) ((D.ext e10).ext e12) (r10.ext e12)
theorem awake_go [OB] (b:EffOk) (a:OB.on 18=false) {mp:Bool} {lim:Nat} {H:NE} {Q:Value->NE->Prop}:NK E mp lim 18 [] H Q=Q (.bool true) H:=by
 refine MB (E:=E) (by simp [E,OB.effN,orc,a]) (show E.tr 18=some a18 from e18) rfl rfl (NL ?_)
 rw [b18,N5o]
 simp only [TH,RP,c18,n18,r18,Nhe,NF,QP,Uk,SB,seval,NC,NJ,NG,NQ,reduceCtorEq,NB,place,NA,ND]
 exact Nwo b (b1:=H.length) (b2:=H.length+1) (b3:=H.length+2) ⟨rfl,rfl,rfl,by rw [NV];rfl,by rw [OC];rfl,by rw [OC];rfl⟩ (by simp)
end Go.Proofs.YtkppjkkkdpcgiaaGreat.Fn


namespace Go.AM
open Go.AM.Sym
section
variable {P:Program} {E:Env} {W:Nat->Prop} {lim:Nat} {σ:PK} {H:NE} {w:World}
theorem Inv.shut (a:Inv (Prg.mk P (Env.pure E)) W lim σ H w):Inv (Prg.mk P (Env.pure E)) (fun k=>w.heap.size<=k) H.length σ H w:=
 ⟨a.blk,a.inj,fun i b L c ho d hL=>by
  have:=(List.getElem?_eq_some_iff.1 c).1
  omega,fun b c=>c,a.dom⟩
theorem Nyg {w':World} (b:Inv (Prg.mk P (Env.pure E)) W lim σ H w) (a:Stp (fun k=>w.heap.size<=k) w w'):Stp W w w'/\∀k,k<w.heap.size->w'.heap[k]? = w.heap[k]?:=by
 have c:∀k,k<w.heap.size->w'.heap[k]? = w.heap[k]?:=fun k hk=>a.block k (by omega)
 refine ⟨⟨a.os,a.tape,a.output,a.size,fun k hk=>c k ?_⟩,c⟩
 rcases Ok k w.heap.size with h | h
 ·exact h
 ·exact absurd (b.fresh k h) hk
theorem Nfn (c:EnvOk P E) {g:FuncId} {as:List Value} {b:Value} (f:flat 4 b=true) (h:NK E false H.length g as H fun v _=>v=b) {as':List Value}
  (a:Inv (Prg.mk P (Env.pure E)) W lim σ H w) (d:OM σ as as'):Calls P g as'.toArray w (Tz (Prg.mk P (Env.pure E)) W lim σ H b (H++news []) w):=by
 obtain ⟨n,L,h1,h2⟩:=h
 refine ((Naq c n).calls _ _ _ _ _ _ h1 (Nd _) _ _ w as' a.shut d).mono fun e w' hp=>?_
 obtain ⟨r,hr,v',o,rfl,q1,q2,q3,l,m⟩:=hp
 obtain ⟨i,k⟩:=Nyg a q3
 rw [h2.2 r hr] at q1
 rw [show H++news []=H from Nb H]
 exact ⟨v',σ,rfl,q1.flat_self 4 f,a.world q3.size k,i,PK.le_refl _,fun j hj=>absurd rfl hj⟩
theorem Nv1 (M:EnvOk P E) {g:FuncId} {as:List Value} {n e:Nat} {c:List Value} (hc:∀x∈c,atom x=true) (h:NK E false H.length g as H fun v H'=>∃R,v=.tuple #[.slice (Sa R) n (loose e),Vi 0]/\NH H' R=Vc c/\H.length<=R) {as':List Value}
  (d:Inv (Prg.mk P (Env.pure E)) W lim σ H w) (O:OM σ as as'):Calls P g as'.toArray w (Tz (Prg.mk P (Env.pure E)) W lim σ H (.tuple #[.slice (Sa H.length) n (loose e),Vi 0]) (H++news [c]) w):=by
 obtain ⟨k,L,h1,h2⟩:=h
 refine ((Naq M k).calls _ _ _ _ _ _ h1 (Nd _) _ _ w as' d.shut O).mono fun Z w' hp=>?_
 obtain ⟨r,hr,v',σ',rfl,q1,q2,q3,q4,q5⟩:=hp
 obtain ⟨T,U⟩:=Nyg d q3
 obtain ⟨R,e1,e2,e3⟩:=h2.2 r hr
 rw [e1] at q1
 obtain ⟨f,hL,hB⟩:=q2.blk R _ (RV e2 rfl) rfl
 have p:w.heap.size<=f.blk:=q2.wr R _ f (RV e2 rfl) rfl e3 hL
 have B:Inv (Prg.mk P (Env.pure E)) W lim σ H w':=d.world q3.size U
 have hd:σ H.length=none:=d.dom _ (Nd _)
 have A:=PK.le_put (L:=f) hd
 have s:UN (Prg.mk P (Env.pure E)) (σ.put H.length f) w' f (Vc c):=by
  obtain ⟨cs,el,fz,I,J,K⟩:=hB
  refine ⟨cs,el,fz,I,fun j v C=>?_,K⟩
  obtain ⟨u,k1,k2,k3⟩:=J j v C
  have o:=hc v (Of C)
  rw [k2.eq_of_atom o] at k1 k3
  exact ⟨v,k1,.atom o,k3⟩
 have N:Inv (Prg.mk P (Env.pure E)) W lim (σ.put H.length f) (H++news [c]) w':=by
  refine B.adopt (i:=H.length) (b:=Vc c) (L:=f) ?_ (fun j hj=>?_) (fun j hj=>?_) hd s rfl (d.fresh _ p) fun j bj Lj Q y m t e=>?_
  ·show (H++[Vc c])[H.length]? = _
   simp
  ·show (H++[Vc c])[j]? = _
   rcases Ok j H.length with h | h
   ·rw [N9 h]
   ·rw [Nx (by simp;omega),Nx h]
  ·simp [news] at hj;omega
  ·obtain ⟨F,k1,k2⟩:=d.blk j bj y m
   rw [t] at k1;cases k1
   have:=k2.lt m
   omega
 refine ⟨v',σ.put H.length f,rfl, ?_,N,T,A,fun j hj=>?_⟩
 ·obtain ⟨ys,rfl,hl⟩:=q1.tuple_left
  obtain ⟨D,q⟩:=hl
  match ys,D,q with
  | ⟨[y0,y1]⟩,D,q=>
    have V:=q 0 _ _ rfl rfl
    have X:=q 1 _ _ rfl rfl
    rw [X.int_left]
    refine VRel.tuple_iff.2 (OM.cons ?_ (OM.cons (.atom rfl) OM.nil))
    have hp:(σ.put H.length f) H.length=some f:=PK.put_same
    obtain ⟨_,F,l,z⟩:=V.slice_left
    rw [hL] at l;cases l
    rcases z with ⟨h,_⟩ | ⟨G,he,Y,hn,hr,rfl⟩ | ⟨a,h,rfl,rfl⟩
    ·unfold loose at h;omega
    ·have:G=e:=by unfold loose at he;omega
     subst this
     exact .lslice hp hn hr
    ·exact .eslice hp h
 ·apply Ny
  intro S
  refine hj ?_
  simp only [PK.put]
  rw [Ng (by omega)]
end
end Go.AM


namespace Go.Proofs.YtkppjkkkdpcgiaaGreat.Fn
open Go.AM Go.AM.Sym Go.Scan Go.Sort
structure Fo where
 (item place scanner kind at' late:Int)
 deriving Inhabited
def encF (f:Fo):List Value:=[.int .u8 f.item,.int .u8 f.place,.int .u8 f.scanner,.int .u8 f.kind,.int .u16 f.at',.int .u8 f.late]
theorem Nfm (f:Fo):(encF f).length=6:=id rfl
theorem N8o {f:Fo}:(encF f)[0]? = some (.int .u8 f.item):=id rfl
theorem N8n {f:Fo}:(encF f)[1]? = some (.int .u8 f.place):=id rfl
theorem N8m {f:Fo}:(encF f)[2]? = some (.int .u8 f.scanner):=id rfl
theorem N8l {f:Fo}:(encF f)[3]? = some (.int .u8 f.kind):=id rfl
theorem N8k {f:Fo}:(encF f)[4]? = some (.int .u16 f.at'):=id rfl
theorem N8j {f:Fo}:(encF f)[5]? = some (.int .u8 f.late):=id rfl
def FoOk (f:Fo):Prop:=(0<=f.item/\f.item<=255)/\(0<=f.place/\f.place<=255)/\(0<=f.scanner/\f.scanner<=255)/\(0<=f.kind/\f.kind<=255)/\(0<=f.at'/\f.at'<=65535)/\(0<=f.late/\f.late<=255)
def encB (n:Int):List Value:=[.int .i8 n]
theorem N12 (n:Int):(encB n).length=1:=id rfl
def ClOk (C:List Int):Prop:=∀c∈C,-128<=c/\c<=127
def Nc6 (C:List Int) (sc:Int):Int:=if sc-1<C.length then gt C (sc-1).toNat else 0
theorem Nj6 {C:List Int} (h:ClOk C) {sc:Int} (h1:1<=sc):-128<=Nc6 C sc/\Nc6 C sc<=127:=by
 unfold Nc6
 split
 ·exact h _ (PZ (by omega))
 ·omega
def S9 (f:Fo):Int:=14400+f.at' % 5760
def Xt (C:List Int) (f:Fo):Ev:=⟨1+f.item % 4,1+f.place % 4,1+f.scanner % 4,1+f.kind % 4,S9 f-Nc6 C (1+f.scanner % 4),S9 f+f.late,0⟩
def SQ (C:List Int) (F:List Fo):List Ev:=(F.take 24).map (Xt C)
def Nfz (F:List Fo):List Int:=(F.take 24).map S9
theorem Npw {C:List Int} {f:Fo} (a:ClOk C) (b:FoOk f):Sz (Xt C f):=by
 have c:=Nj6 a (sc:=1+f.scanner % 4) (by omega)
 unfold FoOk at b
 unfold Sz Xt S9 Wl
 simp only
 generalize Nc6 C (1+f.scanner % 4)=q at *
 omega
theorem Nas {C:List Int} {F:List Fo} (a:ClOk C) (b:∀f∈F,FoOk f):QZ (SQ C F):=by
 refine ⟨by unfold SQ;rw [Ns,Ol];omega,fun s hs=>?_⟩
 unfold SQ at hs
 obtain ⟨f,c,rfl⟩:=List.mem_map.mp hs
 exact Npw a (b f (Qn c))
theorem Nwj [OB] {mp:Bool} {lim cc:Nat} {p:Option Addr} {C:List Int} {sc:Int} {H:NE} {Q:Value->NE->Prop} (hs:Sl H encB 1 p C) (g:ClOk C) (hn:C.length<2 ^ 63) (h1:1<=sc) (h2:sc<=4) :
  NK E mp lim 57 [.slice p C.length cc,Vi sc] H Q=Q (Vi (Nc6 C sc)) H:=by
 refine pc (by decide) e57 rfl rfl ?_
 rw [b57,c57]
 have f:IntKind.i64.wrap (sc-1)=((sc-1).toNat:Int):=by rw [NU (by omega) (by omega)];omega
 have b:=Nj6 g h1
 unfold Nc6 at b⊢
 by_cases d:sc-1<(C.length:Int)
 ·rw [Ni d] at b⊢
  have hi:(sc-1).toNat<C.length:=by omega
  have e:=fun X=>(hs.app X).loadCell0 N12 hi (by decide)
  have a:=fun c (k:IntKind) (H1:NE)=>hs.idx (c:=c) (k:=k) (H1:=H1) hi
  have he:(encB (gt C (sc-1).toNat))[0]? = some (.int .i8 (gt C (sc-1).toNat)):=rfl
  have h:IntKind.i64.wrap (gt C (sc-1).toNat)=gt C (sc-1).toNat:=NU (by omega) (by omega)
  simp only [n57,r57,f,NN,hi,e,a,he,h,SB,seval,NC,NJ,NG,NQ,reduceCtorEq,NB,place,NA,ND]
 ·rw [Ng d]
  have hi:¬(sc-1).toNat<C.length:=by omega
  simp only [n57,r57,f,NN,hi,SB,seval,NC,NJ,NG,NQ,reduceCtorEq,NB,place,NA,ND]
structure BSt (H:NE) (S:List Ev) (T:List Int) (sp tp:Option Addr) (sc tc:Nat) (G:NE):Prop where
 so:Own H.length G R3 6 sp sc S
 to:Own H.length G encI 1 tp tc T
 ne:∀a b,sp=some a->tp=some b->a.block≠b.block
 old:∀j,j<H.length->NH G j=NH H j
 len:H.length<=G.length
theorem BSt.step {H:NE} {S:List Ev} {T:List Int} {sp tp:Option Addr} {sc tc lim:Nat} {G:NE} (h:BSt H S T sp tp sc tc G) (hl:lim<=H.length) (hS:S.length<1000) (v:T.length<1000) (s:Ev) (t:Int) (x y:Blk) :
  ∃G2,PQ lim none 6 48 false (.slice sp S.length sc) (.slice (Sa (G.length+2)) 1 1) (G++[x,y,Vc (R3 s)])=some (.slice (Sa (G.length+3)) (S.length+1) (loose 6),G2++[])/\
   ∃k,PQ lim none 1 8 false (.slice tp T.length tc) (.slice (Sa G2.length) 1 1) (G2++[Vc [Vi t]])=some (.slice (Sa (G2.length+1)) (T.length+1) (loose 1),k++[])/\
   BSt H (S++[s]) (T++[t]) (Sa (G.length+3)) (Sa (G2.length+1)) (loose 6) (loose 1) (k++[]):=by
 have len:=h.len
 obtain ⟨G2,e2,f,_,c,m,_⟩:=h.so.step (lim':=lim) (bytes:=48) hl OY (by decide) s (by unfold PY;omega) (by omega) len [x,y,Vc (R3 s)] (G.length+2) 1 (by rw [OC];rfl)
 simp only [Nl,Nu,Oc,Nat.reduceAdd] at e2 f m
 have p:Chg (Nlg sp) G (G2++[]):=⟨by simp;omega,fun j hj hA=>c j hj (Ndd hA)⟩
 have o:Own H.length (G2++[]) encI 1 tp tc T:=h.to.chg p fun a g r=>by
  obtain ⟨b,l,e⟩:=Nde r
  exact h.ne b a l g e.symm
 rw [Nb] at f o
 obtain ⟨k,e3,i,_,d,n,_⟩:=o.step (lim':=lim) (bytes:=8) hl RI (by decide) t (by unfold PY;omega) (by omega) (by omega) [Vc (encI t)] G2.length 1 (by rw [NV];rfl)
 simp only [Nl,Nu,Oc,Nat.reduceAdd] at e3 i n
 have q:Chg (Nlg tp) G2 (k++[]):=⟨by simp;omega,fun j hj hA=>d j hj (Ndd hA)⟩
 have np:∀j,j<H.length->(∀a,sp=some a->j≠a.block)/\(∀a,tp=some a->j≠a.block):=fun j hj=>⟨fun a g=>by have:=(h.so.block g).1;omega,fun a g=>by have:=(h.to.block g).1;omega⟩
 refine ⟨G2,e2,k,e3,f.chg q fun a g r=>?_,i,fun a b g l=>?_,fun j hj=>?_,by simp;omega⟩
 ·cases g
  obtain ⟨b,l,e⟩:=Nde r
  have:=(h.to.block l).2
  have u:G.length+3=b.block:=e
  omega
 ·cases g;cases l
  show G.length+3≠G2.length+1
  omega
 ·rw [d j (by omega) (np j hj).2]
  have:=c j (by omega) (np j hj).1
  rw [Nb] at this
  rw [this];exact h.old j hj
theorem N3a [OB] {lim c cc:Nat} {p q:Option Addr} {F:List Fo} {C:List Int} {H:NE} {Q:Value->NE->Prop} (hf:Sl H encF 6 p F) (R:Un 6 c F.length) (hs:Sl H encB 1 q C) (hF:∀f∈F,FoOk f) (hC:ClOk C) (ag:F.length<2 ^ 63) (Y:C.length<2 ^ 63) (hl:lim<=H.length)
  (hQ:∀G sp sc tp tc,BSt H (SQ C F) (Nfz F) sp tp sc tc G->Q (.tuple #[.slice sp (SQ C F).length sc,.slice tp (Nfz F).length tc]) (G++[])) :
  NK E false lim 29 [.slice p F.length c,.slice q C.length cc] H Q:=by
 refine RJ (by decide) e29 rfl ?_
 rw [b29,c29]
 have mn:RF false (Vi F.length) [Vi 24]=some (Vi ((min F.length 24:Nat):Int)):=by
  simp only [RF,VT]
  grind
 obtain ⟨B,c',e1,A,_,m1,_⟩:=UV (vlo:=none) (vhi:=some (Vi ((min F.length 24:Nat):Int))) (lo:=0) (hi:=min F.length 24) hf R Nfm (fun cap ac=>by rw [M4 (by omega) (by omega),Ob]) (Nv _) (Nat.min_le_left _ _) (by omega)
 rw [Nat.sub_zero] at e1
 rw [Oy] at A
 obtain ⟨n,hn⟩:∃n,n=min F.length 24:=⟨_,rfl⟩
 obtain ⟨d,g⟩:∃d,d=F.take n:=⟨_,rfl⟩
 rw [<-hn] at mn e1 A
 rw [<-g] at A
 have t:d.length=n:=by rw [g,Ol];omega
 have v:SQ C F=d.map (Xt C):=by
  unfold SQ;rw [g,hn]
  congr 1
  rcases Nat.le_total F.length 24 with h | h
  ·rw [Ps h,Og,Oh h]
  ·rw [Nat.min_eq_right h]
 have w:Nfz F=d.map S9:=by
  unfold Nfz;rw [g,hn]
  congr 1
  rcases Nat.le_total F.length 24 with h | h
  ·rw [Ps h,Og,Oh h]
  ·rw [Nat.min_eq_right h]
 have L:∀f∈d,FoOk f:=fun f h=>hF f (by rw [g] at h;exact Qn h)
 simp only [n29,r29,mn,e1,SB,seval,NC,NJ,NG,NQ,reduceCtorEq,NB,place,NA,ND]
 refine NP (S:=Nat×Option Addr×Option Addr×Nat×Nat) (fun s=>n-s.1) (fun s fr G=>s.1<=n/\fr 1=.slice q C.length cc/\fr 6=.slice s.2.1 s.1 s.2.2.2.1/\fr 7=.slice s.2.2.1 s.1 s.2.2.2.2/\fr 16=.slice B n c'/\fr 17=Vi n/\fr 18=Vi s.1/\
  BSt H ((d.map (Xt C)).take s.1) ((d.map S9).take s.1) s.2.1 s.2.2.1 s.2.2.2.1 s.2.2.2.2 G) (0,none,none,0,0)
  ⟨Nv _,rfl,rfl,rfl,rfl,rfl,by rfl,.inl ⟨rfl,rfl,rfl⟩,.inl ⟨rfl,rfl,rfl⟩,fun a b h=>(by cases h),fun j hj=>NR hj,by simp⟩ ?_
 rintro ⟨i,sp,tp,sc,tc⟩ fr G ⟨hi,I,J,K,m,o,r,st⟩ hN
 simp only at hi J K r st
 rw [NT N62.eq_1]
 refine NL ?_
 have len:=st.len
 have lS:((d.map (Xt C)).take i).length=i:=by rw [Ol,Ns];omega
 have lT:((d.map S9).take i).length=i:=by rw [Ol,Ns];omega
 by_cases y:i<n
 ·have e:i<d.length:=by omega
  have sF:Sl G encF 6 B d:=Sl.same A fun a O u=>by subst O;exact st.old _ (A.lt u)
  have sC:∀X,Sl (G++X) encB 1 q C:=fun X=>(Sl.same hs fun a O u=>by subst O;exact st.old _ (hs.lt u)).app X
  have V:=fun X=>(sF.app X).loadCells Nfm e
  have x:∀(c:Nat) (k:IntKind) (H1:NE),ZA 6 (.slice B n c) (.int k (i:Int)) H1=some (.pointer (some (Xy B 6 i)),H1):=fun c k H1=>by
   rw [<-t];exact sF.idx e
  have Z:IntKind.i64.wrap ((i:Int)+1)=((i+1:Nat):Int):=OA (by omega)
  have T:=L _ (PZ e)
  have M:(d.map (Xt C)).take (i+1)=(d.map (Xt C)).take i++[Xt C (gt d i)]:=by
   rw [N0 (by rw [Ns];exact e),Py,PO e]
  have N:(d.map S9).take (i+1)=(d.map S9).take i++[S9 (gt d i)]:=by
   rw [N0 (by rw [Ns];exact e),Py,PO e]
  generalize gt d i=f at *
  have l:=T
  unfold FoOk at l
  obtain ⟨⟨a1,a2⟩,⟨b1,b2⟩,⟨c1,c2⟩,⟨d1,d2⟩,⟨D,ad⟩,⟨f1,f2⟩⟩:=l
  have ab:=Nj6 hC (sc:=1+f.scanner % 4) (by omega)
  have P:=fun X (mp:Bool) (lim:Nat) (Q:Value->NE->Prop)=>Nwj (mp:=mp) (lim:=lim) (Q:=Q) (cc:=cc) (sC X) hC Y (sc:=1+f.scanner % 4) (by omega) (by omega)
  have ae:Xt C f=⟨1+f.item % 4,1+f.place % 4,1+f.scanner % 4,1+f.kind % 4,S9 f-Nc6 C (1+f.scanner % 4),S9 f+f.late,0⟩:=rfl
  have W:S9 f=14400+f.at' % 5760:=rfl
  have x1:IntKind.i64.wrap f.at'=f.at':=NU (by omega) (by omega)
  have x2:Int.tmod f.at' 5760=f.at' % 5760:=Int.tmod_eq_emod_of_nonneg D
  have x3:IntKind.i64.wrap (14400+f.at' % 5760)=S9 f:=(NU (by omega) (by omega)).trans W.symm
  have x4:IntKind.i64.wrap f.item=f.item:=NU (by omega) (by omega)
  have x5:Int.tmod f.item 4=f.item % 4:=Int.tmod_eq_emod_of_nonneg a1
  have x6:IntKind.i64.wrap (1+f.item % 4)=1+f.item % 4:=NU (by omega) (by omega)
  have x7:IntKind.i64.wrap f.place=f.place:=NU (by omega) (by omega)
  have x8:Int.tmod f.place 4=f.place % 4:=Int.tmod_eq_emod_of_nonneg b1
  have x9:IntKind.i64.wrap (1+f.place % 4)=1+f.place % 4:=NU (by omega) (by omega)
  have y1:IntKind.i64.wrap f.scanner=f.scanner:=NU (by omega) (by omega)
  have y2:Int.tmod f.scanner 4=f.scanner % 4:=Int.tmod_eq_emod_of_nonneg c1
  have y3:IntKind.i64.wrap (1+f.scanner % 4)=1+f.scanner % 4:=NU (by omega) (by omega)
  have y4:Int.tmod f.kind 4=f.kind % 4:=Int.tmod_eq_emod_of_nonneg d1
  have y5:IntKind.u8.wrap (1+f.kind % 4)=1+f.kind % 4:=by simp only [IntKind.wrap,IntKind.bits,IntKind.signed];simp;omega
  have y6:IntKind.i64.wrap f.late=f.late:=NU (by omega) (by omega)
  have y7:IntKind.i64.wrap (S9 f+f.late)=S9 f+f.late:=NU (by omega) (by omega)
  have y8:IntKind.i64.wrap (S9 f-Nc6 C (1+f.scanner % 4))=S9 f-Nc6 C (1+f.scanner % 4):=NU (by omega) (by omega)
  obtain ⟨G2,q1,G3,q2,aa⟩:=st.step hl (by omega) (by omega) (Xt C f) (S9 f) (Vc (encF f)) (Vc (R3 (Xt C f)))
  rw [lS] at q1
  rw [lT] at q2
  have z:[Value.int .i64 (1+f.item % 4),Vi (1+f.place % 4),Vi (1+f.scanner % 4),.int .u8 (1+f.kind % 4),Vi (S9 f-Nc6 C (1+f.scanner % 4)),Vi (S9 f+f.late)]=R3 (Xt C f):=rfl
  have U:lim<=G.length:=by omega
  generalize S9 f=mt at *
  generalize Nc6 C (1+f.scanner % 4)=bn at *
  simp only [n29,r29,I,J,K,m,o,r,NN,y,x,V,U,Nfm,N8o,N8n,N8m,N8l,N8k,N8j,OY,Uh,Vh,Vg,Vf,Ve,Vd,NI,NF,Z,x1,x2,x3,x4,x5,x6,x7,x8,x9,y1,y2,y3,y4,y5,y6,y7,y8,P,z,q1,q2,SB,seval,NC,NJ,NG,NQ,reduceCtorEq,NB,place,NA,ND]
  exact hN (i+1,Sa (G.length+3),Sa (G2.length+1),loose 6,loose 1) _ _ ⟨by simp only;omega,I,rfl,rfl,m,o,rfl,by simp only;rw [M,N];exact aa⟩ (by simp only;omega)
 ·obtain rfl:i=n:=by omega
  rw [Oh (by rw [Ns];omega),Oh (by rw [Ns];omega),<-v,<-w] at st
  have l1:(SQ C F).length=i:=by rw [v,Ns,t]
  have l2:(Nfz F).length=i:=by rw [w,Ns,t]
  have:=hQ G sp sc tp tc st
  rw [l1,l2] at this
  simp only [n29,r29,I,J,K,m,o,r,NN,y,SB,seval,NC,NJ,NG,NQ,reduceCtorEq,NB,place,NA,ND]
  exact this
end Go.Proofs.YtkppjkkkdpcgiaaGreat.Fn


namespace Go.Proofs.YtkppjkkkdpcgiaaGreat.Fn
open Go.AM Go.AM.Sym Go.Net Go.Scan
structure RL where
 (a b c d e f:Int)
 deriving DecidableEq,Inhabited
def encR (x:RL):List Value:=[.int .u8 x.a,.int .u8 x.b,.int .u8 x.c,.int .u8 x.d,.int .u8 x.e,.int .u8 x.f]
theorem Nm4 (x:RL):(encR x).length=6:=id rfl
def ByR (x:RL):Prop:=(0<=x.a/\x.a<=255)/\(0<=x.b/\x.b<=255)/\(0<=x.c/\x.c<=255)/\(0<=x.d/\x.d<=255)/\(0<=x.e/\x.e<=255)/\(0<=x.f/\x.f<=255)
def P5:List Int:=[3,1,5,2,4]
def YJ (i:Nat) (x:RL):Leg:=⟨(i:Int)+1,1+x.a.tmod 5,1+x.b.tmod 5,x.c*5,1+x.d,x.e.tmod 60,1000,x.f.tmod 127+1⟩
def UD (a:List RL):Nat->List Leg
 | 0=>[]
 | n+1=>if (YJ n (gt a n)).frm≠(YJ n (gt a n)).dst then UD a n++[YJ n (gt a n)] else UD a n
theorem YF (a:List RL):∀n,(UD a n).length<=n
 | 0=>Nd _
 | n+1=>by
   have:=YF a n
   rw [UD]
   split
   ·simp;omega
   ·omega
theorem Naa {b:List RL} {l:Leg}:∀{n},l∈UD b n->∃i,i<n/\l=YJ i (gt b i)/\l.frm≠l.dst
 | 0,h=>by cases h
 | n+1,h=>by
   rw [UD] at h
   split at h
   ·rename_i a
    rcases Oe.1 h with h | h
    ·obtain ⟨i,h1,h2⟩:=Naa h;exact ⟨i,by omega,h2⟩
    ·rw [Nk] at h;subst h;exact ⟨n,by omega,rfl,a⟩
   ·obtain ⟨i,h1,h2⟩:=Naa h;exact ⟨i,by omega,h2⟩
theorem N4k {a:List RL} {n:Nat} (b:∀x∈a,ByR x) (hn:min a.length 10=n):∀l∈UD a n,By l:=fun l hl=>by
 obtain ⟨i,hi,rfl,_⟩:=Naa hl
 have h1:=b _ (PZ (l:=a) (i:=i) (by omega))
 have h2:=h1.2.2.2.2.2
 unfold By YJ
 simp only
 have c:=Int.tmod_lt_of_pos (gt a i).f (show (0:Int)<127 by decide)
 have d:=Int.tmod_nonneg (127:Int) h2.1
 omega
theorem N41 {α:Type} [Inhabited α] {l:List α} {n i:Nat} (h:i<n):gt (l.take n) i=gt l i:=by
 unfold gt
 rw [Na,Na,P4,Ni h]
theorem N94 [OB] {lim c:Nat} {p:Option Addr} {g:List RL} {H:NE} {Q:Value->NE->Prop} (hs:Sl H encR 6 p g) (hb:∀x∈g,ByR x) (hl:g.length<2 ^ 63) (hc:Un 6 c g.length) (y:lim<=H.length)
  (hQ:∀G pp pl cl,Chg [] H G->NetIn G pp pl P5 (UD g (min g.length 10))->Q (.agg (Tw pp 5 5 pl (UD g (min g.length 10)).length cl).toArray) G) :
  NK E false lim 10 [.slice p g.length c] H Q:=by
 refine RJ (by decide) e10 rfl ?_
 rw [b10,c10]
 obtain ⟨n,hn⟩:∃n,min g.length 10=n:=⟨_,rfl⟩
 rw [hn] at hQ
 have C:min (g.length:Int) 10=(n:Int):=by omega
 obtain ⟨q1,k1,x1,s1,_,_,_⟩:=UV (vlo:=none) (vhi:=some (Vi n)) (lo:=0) (hi:=n) hs hc Nm4 (fun cap ah=>by rw [M4 (by omega) (by omega),Ob]) (Nv _) (by omega) (by omega)
 rw [Oy] at s1
 simp only [Nat.sub_zero] at x1
 have ag:(g.take n).length=n:=by rw [Ol];omega
 simp only [n10,r10,NF,y,Nz2,C,x1,SB,seval,NC,NJ,NG,NQ,reduceCtorEq,NB,place,NA,ND]
 refine NP (fun s:Nat×Option Addr×Nat=>n-s.1) (fun s fr G=>s.1<=n/\fr 2=Vp H.length/\fr 3=Vp (H.length+2)/\fr 13=.slice q1 n k1/\fr 14=Vi n/\fr 15=Vi s.1/\Chg [] H G/\NH G H.length=Vc [Vz,Vz]/\NH G (H.length+1)=Vc (P5.flatMap encI)/\NH G (H.length+2)=Vc [.slice (Sa (H.length+1)) 5 5,.slice s.2.1 (UD g s.1).length s.2.2]/\Own (H.length+3) G RG 8 s.2.1 s.2.2 (UD g s.1)) (0,none,0)
  ⟨Nv _,rfl,rfl,rfl,rfl,by rfl,Chg.refl.app,by rw [NV];rfl,by rw [OC];rfl,by rw [OC];rfl,.nil⟩ ?_
 rintro ⟨i,R,cw⟩ fr G ⟨hi,D,F,h,o,t,J,hA,hP,hB,B⟩ hN
 simp only at hi t hB B
 rw [NT N66.eq_1]
 refine NL ?_
 have hl:=J.len
 have ai:=NM hB
 have K:=fun X=>(OH.refl.app (X:=X)).cells hB
 by_cases u:i<n
 case neg=>
  obtain rfl:i=n:=by omega
  obtain ⟨G2,e2,h2,m2⟩:=OQ (NM hA) (Vc [.slice (Sa (H.length+1)) 5 5,.slice R (UD g i).length cw])
  have XA:=fun X=>(OH.refl.app (X:=X)).cells hA
  have X2:=fun X=>(OH.refl.app (X:=X)).cells h2
  simp only [n10,r10,D,F,h,o,t,u,K,XA,e2,X2,y,SB,seval,NC,NJ,NG,NQ,reduceCtorEq,NB,place,NA,ND]
  have S1:Sl G2 encI 1 (Sa (H.length+1)) P5:=Sl.row (ro:=false) RI (m2.cells hP (by omega))
  have S2:=(B.mut m2 fun a L e=>by have:=(B.block L).1;omega).sl OI
  exact hQ _ (Sa (H.length+1)) R cw (J.mut m2 (.inr (Nd _))).app ⟨S1.app _,S2.app _,by decide,by have:=YF g i;omega,N4k hb hn⟩
 have O:=(J.sl s1 (by simp))
 have P:=fun X=>(O.app X).loadCells Nm4 (i:=i) (by omega)
 have ix:=fun c (k:IntKind) (H1:NE)=>O.idx (c:=c) (k:=k) (H1:=H1) (i:=i) (by omega)
 have eg:gt (g.take n) i=gt g i:=N41 u
 rw [eg] at P
 rw [ag] at ix
 simp only [encR] at P
 have q:lim<=G.length:=by omega
 have M:=hb _ (PZ (l:=g) (i:=i) (by omega))
 generalize hx:gt g i=x at P M
 obtain ⟨L,ac,aj,hd,he,hf⟩:=M
 have am:=Int.tmod_lt_of_pos x.a (show (0:Int)<5 by decide)
 have an:=Int.tmod_nonneg (5:Int) L.1
 have ao:=Int.tmod_lt_of_pos x.b (show (0:Int)<5 by decide)
 have ap:=Int.tmod_nonneg (5:Int) ac.1
 have aq:=Int.tmod_lt_of_pos x.f (show (0:Int)<127 by decide)
 have ar:=Int.tmod_nonneg (127:Int) hf.1
 have wa:IntKind.i64.wrap x.a=x.a:=NU (by omega) (by omega)
 have wb:IntKind.i64.wrap x.b=x.b:=NU (by omega) (by omega)
 have wc:IntKind.i64.wrap x.c=x.c:=NU (by omega) (by omega)
 have wd:IntKind.i64.wrap x.d=x.d:=NU (by omega) (by omega)
 have we:IntKind.i64.wrap x.e=x.e:=NU (by omega) (by omega)
 have S:IntKind.i64.wrap (1+x.a.tmod 5)=1+x.a.tmod 5:=NU (by omega) (by omega)
 have T:IntKind.i64.wrap (1+x.b.tmod 5)=1+x.b.tmod 5:=NU (by omega) (by omega)
 have U:IntKind.i64.wrap (x.c*5)=x.c*5:=NU (by omega) (by omega)
 have V:IntKind.i64.wrap (1+x.d)=1+x.d:=NU (by omega) (by omega)
 have wf:IntKind.u8.wrap (x.f.tmod 127+1)=x.f.tmod 127+1:=by
  simp only [IntKind.wrap,IntKind.bits,IntKind.signed,Bool.false_and,Nz,if_false]
  omega
 have wi:IntKind.i64.wrap ((i:Int)+1)=(i:Int)+1:=NU (by omega) (by omega)
 have A:UD g (i+1)=if 1+x.a.tmod 5=1+x.b.tmod 5 then UD g i else UD g i++[YJ i x]:=by
  rw [UD,hx,ite_not];rfl
 by_cases v:1+x.a.tmod 5=1+x.b.tmod 5
 ·rw [Ni v] at A
  simp only [n10,r10,D,F,h,o,t,u,P,ix,q,wa,wb,wc,wd,we,S,T,U,V,wf,wi,N6 v,SB,seval,NC,NJ,NG,NQ,reduceCtorEq,NB,place,NA,ND]
  exact hN (i+1,R,cw) _ _ ⟨by show i+1<=n;omega,D,F,h,o,by rfl,J.app,(OH.refl.app).cells hA,(OH.refl.app).cells hP,by simp only [A];exact (OH.refl.app).cells hB,by simp only [A];exact B.app _⟩ (by show n-(i+1)<n-i;omega)
 rw [Ng v] at A
 obtain ⟨G4,Y,O4,W,ad⟩:=Own.moreF B (lim':=lim) (bytes:=64) (by omega) OI (by decide) [YJ i x] (by simp) (by have:=YF g i;unfold PY;simp;omega) (by have:=YF g i;simp;omega) [Vc [.int .u8 x.a,.int .u8 x.b,.int .u8 x.c,.int .u8 x.d,.int .u8 x.e,.int .u8 x.f],Vc (RG (YJ i x)),Vc (RG (YJ i x))] (x:=.slice (Sa (G.length+2)) 1 1) (str:=false)
  (WL (m:=[YJ i x]) (Sl.row (ro:=false) OI (by rw [OC];rfl))) rfl
 have w:∀j,j∈opB R->H.length+3<=j:=fun j hj=>by
  cases hpe:R with
  | none=>rw [hpe] at hj;cases hj
  | some a=>rw [hpe] at hj;have:=B.block hpe;simp [opB] at hj;omega
 generalize ae:(G++[Vc [.int .u8 x.a,.int .u8 x.b,.int .u8 x.c,.int .u8 x.d,.int .u8 x.e,.int .u8 x.f],Vc (RG (YJ i x)),Vc (RG (YJ i x))]).length=r at Y O4 ad
 have al:G.length<=r:=by rw [<-ae];simp
 generalize loose 8=c' at Y O4
 simp only [Nl,Nu,Oc,RG,YJ] at Y
 have I:=W.cells hB fun N=>by have:=w _ N;omega
 have aa:=W.cells hA fun N=>by have:=w _ N;omega
 have ab:=W.cells hP fun N=>by have:=w _ N;omega
 obtain ⟨G5,e5,h5,Z⟩:=OQ (NM I) (Vc [.slice (Sa (H.length+1)) 5 5,.slice (Sa r) ((UD g i).length+1) c'])
 have X4:=fun X=>(OH.refl.app (X:=X)).cells I
 have z:lim<=H.length+2:=by omega
 simp only [n10,r10,D,F,h,o,t,u,P,ix,q,wa,wb,wc,wd,we,S,T,U,V,wf,wi,Nm v,K,Y,X4,e5,z,SB,seval,NC,NJ,NG,NQ,reduceCtorEq,NB,place,NA,ND]
 exact hN (i+1,Sa r,c') _ _ ⟨by show i+1<=n;omega,D,F,h,o,by rfl,((J.trans' W fun j hj ak=>by have:=w j hj;omega).mut Z (.inr (by omega))).app,(OH.refl.app).cells (Z.cells aa (by omega)),(OH.refl.app).cells (Z.cells ab (by omega)),
  by simp only [A,No,Qz];exact (OH.refl.app).cells h5,by simp only [A];exact ((O4.mut Z fun a L e=>by cases L;simp at e;omega).le (by omega)).app _⟩ (by show n-(i+1)<n-i;omega)
theorem Nvh {α:Type} [Inhabited α] {l m:List α} {i:Nat} (h:i<l.length):gt (l++m) i=gt l i:=by
 rw [PO (by simp;omega),PO h,Qt h]
theorem Nvi {α:Type} [Inhabited α] {l:List α} {x:α}:gt (l++[x]) l.length=x:=by
 rw [PO (by simp),Q8 (Nd _)]
 simp
theorem Nu6 {P:List Int} {M:List Leg} {l:Leg} (h:Wx P M) (h1:Fine l) (h2:l.id∉M.map (·.id)) (a:l.frm∈P) (b:l.dst∈P):Wx P (M++[l]):=fun i hi=>by
 rw [No,Qz] at hi
 rcases Ok i M.length with h5 | h5
 ·have:=h i h5
  unfold lOk at *
  rw [Nvh h5,P9 (by omega)]
  exact this
 ·obtain rfl:i=M.length:=by omega
  unfold lOk
  rw [Nvi,P9 (Nd _),Og]
  exact ⟨h1,h2,a,b⟩
theorem N67 {a:Int} (h1:1<=a) (h2:a<=5):a∈P5:=by
 have:a=1\/a=2\/a=3\/a=4\/a=5:=by omega
 rcases this with rfl | rfl | rfl | rfl | rfl<;>decide
theorem Nr7 {c:List RL} (g:∀x∈c,ByR x):∀n,n<=c.length->n<=10->Wx P5 (UD c n)
 | 0,_,_=>fun i hi=>by cases hi
 | n+1,hn,h10=>by
   have ih:=Nr7 g n (by omega) (by omega)
   rw [UD]
   split
   ·rename_i m
    obtain ⟨h,d,hc,hd,he,j⟩:=g _ (PZ (l:=c) (i:=n) (by omega))
    have o:=Int.tmod_lt_of_pos (gt c n).a (show (0:Int)<5 by decide)
    have p:=Int.tmod_nonneg (5:Int) h.1
    have q:=Int.tmod_lt_of_pos (gt c n).b (show (0:Int)<5 by decide)
    have r:=Int.tmod_nonneg (5:Int) d.1
    have s:=Int.tmod_lt_of_pos (gt c n).e (show (0:Int)<60 by decide)
    have t:=Int.tmod_nonneg (60:Int) he.1
    have u:=Int.tmod_lt_of_pos (gt c n).f (show (0:Int)<127 by decide)
    have v:=Int.tmod_nonneg (127:Int) j.1
    refine Nu6 ih ?_ ?_ ?_ ?_
    ·unfold Fine YJ at *
     simp only at *
     omega
    ·intro k
     obtain ⟨l,h1,h2⟩:=List.mem_map.1 k
     obtain ⟨i,w,rfl,_⟩:=Naa h1
     unfold YJ at h2
     simp only at h2
     omega
    ·refine N67 ?_ ?_<;>(unfold YJ;simp only;omega)
    ·refine N67 ?_ ?_<;>(unfold YJ;simp only;omega)
   ·exact ih
theorem N30:Um P5:=by decide
theorem Npp {a:List RL} (c:∀x∈a,ByR x) {n:Nat} (hn:n<=a.length) (b:n<=10):R8 P5 (UD a n)=0:=by
 have h1:=YF a n
 unfold R8
 rw [Ng (by have:P5.length=5:=rfl;omega),Ng (by simpa using N30),Ng (by simpa using Nr7 c n hn b)]
theorem Nr1 {S:List Ev} {item:Int} (hi:item≠0):UR (OL S).1 item=[]↔∀s∈S,s.item≠item:=by
 have hp:=Nha S
 constructor
 ·intro h s hs he
  have h1:bare s∈((OL S).1++(OL S).2).map bare:=hp.mem_iff.2 (List.mem_map_of_mem hs)
  obtain ⟨x,b,c⟩:=List.mem_map.1 h1
  have d:x.item=item:=by have:=Qq Ev.item c;simpa [bare,he] using this
  rcases Oe.1 b with h2 | h2
  ·have:x∈UR (OL S).1 item:=(MZ hi).2 ⟨h2,d⟩
   rw [h] at this;exact Ox this
  ·obtain ⟨y,f,a,_⟩:=(Noi S).2 x h2
   have e:y.item=item:=by have:=Qq Prod.fst a;simp only [RO] at this;omega
   have:y∈UR (OL S).1 item:=(MZ hi).2 ⟨f,e⟩
   rw [h] at this;exact Ox this
 ·intro h
  rw [List.eq_nil_iff_forall_not_mem]
  intro x b
  obtain ⟨h1,h2⟩:=(MZ hi).1 b
  obtain ⟨s,hs,rfl⟩:=MK (.inl h1)
  exact h s hs h2
theorem M5 {C:List Int} {F:List Fo}:(SQ C F).length<=24:=by unfold SQ;rw [Ns,Ol];omega
theorem Npx {a:List RL} {C:List Int} {F:List Fo} {item now:Int} (e:∀x∈a,ByR x) (c:ClOk C) (d:∀f∈F,FoOk f) (h1:1<=item) (h2:item<=999999) (b:0<=now) (g:now<=131070) :
  UE P5 (UD a (min a.length 10)) (SQ C F) item now=if UR (OL (SQ C F)).1 item=[] then 6 else 0:=by
 have:=M5 (C:=C) (F:=F)
 have h:=Nr2 (S:=SQ C F) (item:=item)
 rw [Nhn (Npp e (Nat.min_le_left _ _) (Nat.min_le_right _ _)) (Nas c d) h1 h2 b (by unfold OD;omega)]
 rw [Ng (show ¬40<(UR (OL (SQ C F)).1 item).length by omega)]
section
variable {lim n ce cq cr cl B:Nat} {pe q r pl:Option Addr} {ks:List Int} {ss:List Stp} {c:Int} {A:List An} {H:NE} {Q:Value->NE->Prop}
theorem Nvo [OB] {mp:Bool} (z:Sl H encI 1 q ks) (hr:Sl H enc3 3 r ss) (hA:Sl H Ti 5 pl A) (hn:n<2 ^ 30) (hk:∀k∈ks,0<=k/\k<n) (hs:∀s∈ss,SK n s) (C:∀a∈A,(0<=a.ev/\a.ev<n)/\0<=a.other/\a.other<n)
  (h0:ks≠[]) (I:ks.length<2 ^ 62) (J:ss.length<2 ^ 62) (K:A.length<2 ^ 62):NK E mp lim 54 [.agg (TG pe n ce q ks.length cq r ss.length cr c pl A.length cl).toArray] H Q=Q (.bool true) H:=by
 refine pc (by decide) e54 rfl rfl ?_
 rw [b54,c54]
 have hp:(0:Int)<(ks.length:Int):=by have:=List.length_pos_iff.2 h0;omega
 obtain ⟨B,hB⟩:∃B,B=H.length:=⟨_,rfl⟩
 have y:NH (H++[Vc (TG pe n ce q ks.length cq r ss.length cr c pl A.length cl)]) B=Vc (TG pe n ce q ks.length cq r ss.length cr c pl A.length cl):=by rw [hB,NV];rfl
 simp only [n54,r54,OP,R6,RD,RB,RA,QT,NI,NF,SB,seval,NC,NJ,NG,NQ,reduceCtorEq,NB,place,NA,ND]
 refine NP (fun j=>ks.length-j) (fun j fr G=>j<=ks.length/\fr 1=Vp B/\fr 11=.slice q ks.length cq/\fr 12=Vi ks.length/\fr 13=Vi j/\OH H G/\NH G B=Vc (TG pe n ce q ks.length cq r ss.length cr c pl A.length cl)) 0 ⟨Nv _,by rw [hB];rfl,rfl,rfl,by rfl,OH.refl.app,y⟩ ?_
 intro j fr G ⟨hj,f1,f11,f12,f13,d,g⟩ p
 rw [NT N6v.eq_1]
 refine NL ?_
 have e:=fun X=>(OH.refl.app (X:=X)).cells g
 by_cases b:j<ks.length
 ·have u:=fun X=>Nad (d.sl z) b X
  have v:=fun c (kk:IntKind) (H1:NE)=>(d.sl z).idx (c:=c) (k:=kk) (H1:=H1) b
  have f:IntKind.i64.wrap ((j:Int)+1)=((j+1:Nat):Int):=OA (by omega)
  have F:=hk _ (PZ b)
  simp only [n54,r54,f1,f11,f12,f13,NN,b,u,v,f,e,OP,R6,RD,RB,RA,QT,NI,NF,ge_iff_le,Nm (show ¬gt ks j<0 by omega),Nm (show ¬(n:Int)<=gt ks j by omega),SB,seval,NC,NJ,NG,NQ,reduceCtorEq,NB,place,NA,ND]
  exact p (j+1) _ _ ⟨by omega,f1,f11,f12,rfl,d.trans OH.refl.app,by rw [Nb];exact g⟩ (by omega)
 simp only [n54,r54,f1,f11,f12,f13,NN,b,e,OP,R6,RD,RB,RA,QT,NI,SB,seval,NC,NJ,NG,NQ,reduceCtorEq,NB,place,NA,ND]
 refine NP (fun j=>ss.length-j) (fun j fr G=>j<=ss.length/\fr 1=Vp B/\fr 29=.slice r ss.length cr/\fr 30=Vi ss.length/\fr 31=Vi j/\OH H G/\NH G B=Vc (TG pe n ce q ks.length cq r ss.length cr c pl A.length cl)) 0 ⟨Nv _,f1,rfl,rfl,by rfl,d.trans OH.refl.app,by rw [Nb];exact g⟩ ?_
 clear p f1 f11 f12 f13 d g e b hj
 clear j fr G
 intro j fr G ⟨hj,f1,h,i,l,d,g⟩ p
 rw [NT N6w.eq_1]
 refine NL ?_
 have e:=fun X=>(OH.refl.app (X:=X)).cells g
 by_cases b:j<ss.length
 ·have u:=fun X=>((d.sl hr).app X).loadCells OT b
  have v:=fun c (kk:IntKind) (H1:NE)=>(d.sl hr).idx (c:=c) (k:=kk) (H1:=H1) b
  have f:IntKind.i64.wrap ((j:Int)+1)=((j+1:Nat):Int):=OA (by omega)
  have x:=hs _ (PZ b)
  unfold SK at x
  have w:=d.len
  simp only [n54,r54,f1,h,i,l,NN,b,u,v,f,e,OP,R6,RD,RB,RA,QT,OT,Nqt,Njx,N13,NI,NF,ge_iff_le,w,Nm (show ¬(gt ss j).1<0 by omega),Nm (show ¬(gt ss j).2.1<=(gt ss j).1 by omega),Nm (show ¬(n:Int)<=(gt ss j).2.1 by omega),SB,seval,NC,NJ,NG,NQ,reduceCtorEq,NB,place,NA,ND]
  exact p (j+1) _ _ ⟨by omega,f1,h,i,rfl,d.trans OH.refl.app,e _⟩ (by omega)
 simp only [n54,r54,f1,h,i,l,NN,b,e,OP,R6,RD,RB,RA,QT,NI,SB,seval,NC,NJ,NG,NQ,reduceCtorEq,NB,place,NA,ND]
 refine NP (fun j=>A.length-j) (fun j fr G=>j<=A.length/\fr 1=Vp B/\fr 55=.slice pl A.length cl/\fr 56=Vi A.length/\fr 57=Vi j/\OH H G/\NH G B=Vc (TG pe n ce q ks.length cq r ss.length cr c pl A.length cl)) 0 ⟨Nv _,f1,rfl,rfl,by rfl,d.trans OH.refl.app,by rw [Nb];exact g⟩ ?_
 clear p f1 h i l d g e b hj
 clear j fr G
 intro j fr G ⟨hj,f1,m,o,t,d,g⟩ p
 rw [NT N6x.eq_1]
 refine NL ?_
 have e:=fun X=>(OH.refl.app (X:=X)).cells g
 by_cases b:j<A.length
 ·have u:=fun X=>((d.sl hA).app X).loadCells QV b
  have v:=fun c (kk:IntKind) (H1:NE)=>(d.sl hA).idx (c:=c) (k:=kk) (H1:=H1) b
  have f:IntKind.i64.wrap ((j:Int)+1)=((j+1:Nat):Int):=OA (by omega)
  have D:=C _ (PZ b)
  have w:=d.len
  simp only [n54,r54,f1,m,o,t,NN,b,u,v,f,e,OP,R6,RD,RB,RA,QT,QV,Njw,N8p,NI,NF,ge_iff_le,w,Nm (show ¬(gt A j).ev<0 by omega),Nm (show ¬(n:Int)<=(gt A j).ev by omega),Nm (show ¬(gt A j).other<0 by omega),Nm (show ¬(n:Int)<=(gt A j).other by omega),SB,seval,NC,NJ,NG,NQ,reduceCtorEq,NB,place,NA,ND]
  exact p (j+1) _ _ ⟨by omega,f1,m,o,rfl,d.trans OH.refl.app,e _⟩ (by omega)
 simp only [n54,r54,f1,m,o,t,NN,b,e,OP,R6,RD,RB,RA,QT,NI,hp,SB,seval,NC,NJ,NG,NQ,reduceCtorEq,NB,place,NA,ND]
end
theorem Njl {P:List Int} {L:List Leg} {es:List Ev} {ks:List Int} {ss:List Stp} {now:Int} {A:List An} (h:ListOk P L es ks ss now A) (hk:∀k∈ks,0<=k/\k<es.length) (h0:es≠[]):∀a∈A,(0<=a.ev/\a.ev<es.length)/\0<=a.other/\a.other<es.length:=fun a b=>by
 have hp:0<es.length:=List.length_pos_iff.2 h0
 rcases h.all a b with ⟨i,hi,h1⟩ | ⟨_,h1,h2,_⟩
 ·exact ⟨by rw [h1.ev];omega,h1.oth⟩
 ·exact ⟨hk _ (List.mem_of_getLast? h2),by omega,by omega⟩
def N9z:ACode:=RP (RP (RP (RP c26)))
theorem N5n:c26=.seq (TH c26) (.seq (TH (RP c26)) (.seq (TH (RP (RP c26))) (.seq (TH (RP (RP (RP c26)))) N9z))):=rfl
theorem Nek:Niw.length=5:=id rfl
theorem N97 [OB] {b:Bool} {lim B C sc:Nat} {sp:Option Addr} {S:List Ev} {IT e:Int} {V:List Value} {G:NE} {fr:Nat->Value} {Q:Value->NE->Prop} (f10:fr 10=Vp B) (f14:fr 14=.slice sp S.length sc) (t:fr 16=Vi IT) (u:fr 17=Vp C) (w:fr 18=Vi e)
  (M:NH G B=Vc Niw) (N:NH G C=Vc V) (U:V.length=5) (hs:Sl G R3 6 sp S) (ab:S.length<=24) (hl:lim<=B) (ac:lim<=G.length) (aa:B≠C)
  (he:(b=true/\e=0/\(∃s∈S,s.item=IT)/\(∀(mp:Bool) (lim:Nat) (G':NE) (Q:Value->NE->Prop),OH G G'->NK E mp lim 54 [.agg V.toArray] G' Q=Q (.bool true) G'))\/b=false/\e=6/\∀s∈S,s.item≠IT)
  (T:∀G',Chg [B] G G'->Q (.tuple #[.agg V.toArray,.slice sp S.length sc,.bool b,.bool true]) G'):PU E a26 lim [.code N9z] fr G Q:=by
 refine NL ?_
 simp only [RP,N9z,c26,n26,r26,f14,SB,seval,NC,NJ,NG,NQ,reduceCtorEq,NB,place,NA,ND]
 refine NP (fun j=>S.length-j) (fun j fr' G'=>j<=S.length/\fr' 10=fr 10/\fr' 14=fr 14/\fr' 16=fr 16/\fr' 17=fr 17/\fr' 18=fr 18/\fr' 19=.bool ((S.take j).any fun s=>decide (s.item=IT))/\fr' 43=.slice sp S.length sc/\fr' 44=Vi S.length/\fr' 45=Vi j/\OH G G') 0 ⟨Nv _,rfl,rfl,rfl,rfl,rfl,rfl,rfl,rfl,by rfl,OH.refl.app⟩ ?_
 intro j fr' G' ⟨hj,i,l,h,m,n,a,f,g,p,r⟩ J
 rw [f10] at i
 rw [f14] at l
 rw [t] at h
 rw [u] at m
 rw [w] at n
 rw [NT N64.eq_1]
 refine NL ?_
 have ad:=r.len
 by_cases d:j<S.length
 ·have O:=fun X=>((r.sl hs).app X).loadCells OY d
  have P:=fun c (kk:IntKind) (H1:NE)=>(r.sl hs).idx (c:=c) (k:=kk) (H1:=H1) d
  have z:IntKind.i64.wrap ((j:Int)+1)=((j+1:Nat):Int):=OA (by omega)
  have y:((S.take (j+1)).any fun s=>decide (s.item=IT))=(((S.take j).any fun s=>decide (s.item=IT))||decide ((gt S j).item=IT)):=by
   rw [N0 d,List.any_append,PO d]
   simp
  obtain ⟨o,ho⟩:∃o,((S.take j).any fun s=>decide (s.item=IT))=o:=⟨_,rfl⟩
  rw [ho] at y a
  have hF:∀v:Value,v=.bool ((S.take (j+1)).any fun s=>decide (s.item=IT))->True:=fun _ _=>trivial
  cases o
  ·by_cases hi:(gt S j).item=IT
   ·rw [Nq hi,Bool.or_true] at y
    simp only [n26,r26,f,g,p,a,h,NN,d,O,P,z,OY,Uh,NI,NF,show lim<=G'.length by omega,N6 hi,SB,seval,NC,NJ,NG,NQ,reduceCtorEq,NB,place,NA,ND]
    exact J (j+1) _ _ ⟨by omega,(by simp only [i,f10,FB,Nat.reduceEqDiff]),(by simp only [l,f14,FB,Nat.reduceEqDiff]),(by simp only [h,t,FB,Nat.reduceEqDiff]),(by simp only [m,u,FB,Nat.reduceEqDiff]),(by simp only [n,w,FB,Nat.reduceEqDiff]),by rw [y];rfl,f,g,rfl,r.trans OH.refl.app⟩ (by omega)
   ·rw [N3 hi,Bool.or_false] at y
    simp only [n26,r26,f,g,p,a,h,NN,d,O,P,z,OY,Uh,NI,NF,show lim<=G'.length by omega,Nm hi,SB,seval,NC,NJ,NG,NQ,reduceCtorEq,NB,place,NA,ND]
    exact J (j+1) _ _ ⟨by omega,(by simp only [i,f10,FB,Nat.reduceEqDiff]),(by simp only [l,f14,FB,Nat.reduceEqDiff]),(by simp only [h,t,FB,Nat.reduceEqDiff]),(by simp only [m,u,FB,Nat.reduceEqDiff]),(by simp only [n,w,FB,Nat.reduceEqDiff]),by rw [y];rfl,f,g,rfl,r.trans OH.refl.app⟩ (by omega)
  ·rw [Bool.true_or] at y
   simp only [n26,r26,f,g,p,a,h,NN,d,O,P,z,OY,Uh,NI,NF,show lim<=G'.length by omega,SB,seval,NC,NJ,NG,NQ,reduceCtorEq,NB,place,NA,ND]
   exact J (j+1) _ _ ⟨by omega,(by simp only [i,f10,FB,Nat.reduceEqDiff]),(by simp only [l,f14,FB,Nat.reduceEqDiff]),(by simp only [h,t,FB,Nat.reduceEqDiff]),(by simp only [m,u,FB,Nat.reduceEqDiff]),(by simp only [n,w,FB,Nat.reduceEqDiff]),by rw [y];rfl,f,g,rfl,r.trans OH.refl.app⟩ (by omega)
 obtain rfl:j=S.length:=by omega
 rw [Og] at a
 have x:=r.cells M
 have F:=r.cells N
 have H:=fun X=>(OH.refl.app (X:=X)).cells x
 have I:=fun X=>(OH.refl.app (X:=X)).cells F
 obtain ⟨Z,e3,h3,m3⟩:=OQ (NM x) (Vc V)
 have W:=fun X=>(OH.refl.app (X:=X)).cells h3
 have R:Chg [B] G Z:=(r.chg (A:=[B])).mut m3 (.inl (by simp))
 rcases he with ⟨rfl,rfl,hex,K⟩ | ⟨rfl,rfl,L⟩
 ·have q:(S.any fun s=>decide (s.item=IT))=true:=by
   obtain ⟨s,h1,h2⟩:=hex
   exact List.any_eq_true.2 ⟨s,h1,by simpa using h2⟩
  rw [q] at a
  have D:=fun mp lim Y Q=>K mp lim (G'++Y) Q (r.trans OH.refl.app)
  simp only [n26,r26,f,g,p,a,i,l,m,n,NN,d,H,Nek,I,W,e3,U,hl,NI,NF,D,SB,seval,NC,NJ,NG,NQ,reduceCtorEq,NB,place,NA,ND]
  exact T _ R.app
 ·have q:(S.any fun s=>decide (s.item=IT))=false:=by
   rw [List.any_eq_false]
   exact fun s h1=>by simpa using L s h1
  rw [q] at a
  simp only [n26,r26,f,g,p,a,i,l,m,n,NN,d,H,Nek,I,W,e3,U,hl,NI,NF,SB,seval,NC,NJ,NG,NQ,reduceCtorEq,NB,place,NA,ND]
  exact T _ R.app
theorem Nhp {P:List Int} {L:List Leg} {es tw:List Ev} {ks:List Int} {ss:List Stp} {now:Int} (h1:es.length<=40) (h2:tw.length<=40):(Ua P L es tw ks ss now).length<=4000:=by
 have e:Ua P L es tw ks ss now=Xp P L es tw ks ss es.length++U2 es ks now:=rfl
 have a:=MS (P:=P) (L:=L) (es:=es) (tw:=tw) (ks:=ks) (ss:=ss) es.length
 have b:es.length*(51+tw.length)<=40*(51+tw.length):=O0 _ h1
 have c:(U2 es ks now).length<=1:=by
  rcases Ne0 (es:=es) (ks:=ks) (now:=now) with h | ⟨k,_,h,_⟩<;>rw [h]<;>simp
 rw [e,No]
 omega
theorem Nx9 (S:List Ev) (item:Int):(UR (OL S).2 item).length<=S.length:=by
 have h1:=(MX (OL S).2 item).length_le
 have h2:=Nd8 S
 omega
theorem Nu2 [OB] (hE:EffOk) {lim ca cb cc:Nat} {p q r:Option Addr} {g:List RL} {F:List Fo} {C:List Int} {item now:Int} {H:NE} {Q:Value->NE->Prop} (hs:Sl H encR 6 p g) (hb:∀x∈g,ByR x) (am:g.length<2 ^ 63) (hc:Un 6 ca g.length)
  (hf:Sl H encF 6 q F) (hF:∀f∈F,FoOk f) (ag:Un 6 cb F.length) (ai:F.length<2 ^ 63) (hC:ClOk C) (an:Sl H encB 1 r C) (ah:C.length<2 ^ 63) (aj:0<=item/\item<=255) (au:0<=now/\now<=65535) (hl:lim<=H.length)
  (w:∀G sp sc,OH H G->Q (.tuple #[.agg Niw.toArray,.slice sp (SQ C F).length sc,.bool false,.bool true]) G)
  (W:∀G sp sc pe ce q cq r cr pl cl (es tw:List Ev) (ks:List Int) (ss:List Stp),es=UR (OL (SQ C F)).1 (1+item % 4)->tw=UR (OL (SQ C F)).2 (1+item % 4)->ks=R7 P5 (UD g (min g.length 10)) es->ss=QL P5 (UD g (min g.length 10)) es ks->es≠[]->WX P5 (UD g (min g.length 10)) es=0->OH H G->
   Sl G R3 6 sp (SQ C F)->Sl G encE 7 pe es->Un 7 ce es.length->Sl G encI 1 q ks->Sl G enc3 3 r ss->Sl G Ti 5 pl (Ua P5 (UD g (min g.length 10)) es tw ks ss (now*2))->
   Q (.tuple #[.agg (TG pe es.length ce q ks.length cq r ss.length cr (Sy P5 (UD g (min g.length 10)) es ks) pl (Ua P5 (UD g (min g.length 10)) es tw ks ss (now*2)).length cl).toArray,.slice sp (SQ C F).length sc,.bool true,.bool true]) G) :
  NK E false lim 26 [.slice p g.length ca,.slice q F.length cb,.slice r C.length cc,.int .u8 item,.int .u16 now] H Q:=by
 refine RJ (by decide) e26 rfl ?_
 rw [b26,N5n]
 obtain ⟨IT,J⟩:∃IT,1+item % 4=IT:=⟨_,rfl⟩
 have ao:1<=IT:=by omega
 have ap:IT<=4:=by omega
 have w2:IntKind.i64.wrap (1+item.tmod 4)=IT:=by rw [Int.tmod_eq_emod_of_nonneg aj.1,J,NU (by omega) (by omega)]
 have w3:IntKind.i64.wrap item=item:=NU (by omega) (by omega)
 have w4:IntKind.i64.wrap now=now:=NU (by omega) (by omega)
 have w5:IntKind.i64.wrap (now*2)=now*2:=NU (by omega) (by omega)
 obtain ⟨S,hS⟩:∃S,SQ C F=S:=⟨_,rfl⟩
 have ad:=Nas hC hF
 have ae:=M5 (C:=C) (F:=F)
 have t:=Npx hb hC hF (item:=IT) (now:=now*2) (by omega) (by omega) (by omega) (by omega)
 obtain ⟨L,hL⟩:∃L,UD g (min g.length 10)=L:=⟨_,rfl⟩
 rw [hS,J,hL] at W
 rw [hS] at w ad ae t
 rw [hL] at t
 simp only [TH,RP,c26,n26,r26,NF,SB,seval,NC,NJ,NG,NQ,reduceCtorEq,NB,place,NA,ND]
 refine N3a (lim:=lim) (hf.app _) ag (an.app _) hF hC ai ah (by simp;omega) fun G1 sp sc tp tc hB=>?_
 rw [hS] at hB⊢
 have m:OH (H++[Vc Niw]) G1:=(show Chg [] _ _ from ⟨hB.len,fun j hj _=>hB.old j hj⟩).ext
 have ak:=m.len
 simp at ak
 refine NL ?_
 simp only [TH,RP,c26,n26,r26,w2,w3,SB,seval,NC,NJ,NG,NQ,reduceCtorEq,NB,place,NA,ND]
 refine N94 (lim:=lim) ((m.sl (hs.app _)).app _) hb am hc (by simp;omega) fun G2 pp pL cL n hN=>?_
 rw [hL] at hN⊢
 have al:=n.len
 simp at al
 have aa:=n.cells ((OH.refl.app (X:=[])).cells (m.cells (b:=H.length) (ro:=false) (c:=Niw) (by rw [NV];rfl))) (by simp)
 have R:OH H G2:=(OH.refl.app.trans m).trans (OH.refl.app.trans n.ext)
 have v:=n.sl ((hB.so.sl OY).app []) (fun a _ _ h=>(by cases h))
 refine NL ?_
 simp only [TH,RP,c26,n26,r26,w4,w5,SB,seval,NC,NJ,NG,NQ,reduceCtorEq,NB,place,NA,ND]
 have z:=fun h=>(N4n (P:=P5) (L:=L) (S:=S) (item:=IT) (now:=now*2) h)
 refine Nj9 hE (hN.app _) (v.app _) (by omega) (by simp;omega) (fun I h0 d=>?_) (fun I pe ce q' cq r' cr pl cl es tw ks ss e1 e2 e3 e4 h0 d ac ab M N O=>?_)
 ·have hn:UR (OL S).1 IT=[]:=Ny fun h=>by rw [t,Ng h] at h0;exact h0 rfl
  rw [t,Ni hn]
  refine NL ?_
  have D:=d.len
  simp at D
  have kk:=d.cells ((OH.refl.app (X:=[])).cells aa) (by simp)
  simp only [TH,RP,c26,n26,r26,Ndb,NI,NF,show lim<=I.length by omega,SB,seval,NC,NJ,NG,NQ,reduceCtorEq,NB,place,NA,ND]
  refine N97 (b:=false) (B:=H.length) (C:=I.length) (S:=S) (V:=Niw) rfl rfl rfl rfl rfl ((OH.refl.app (X:=[Vc Niw])).cells kk) (by rw [NV];rfl) Nek ((d.sl (v.app _) (fun a _ _ h=>(by cases h))).app _) (by omega) hl (by simp;omega) (by omega) (.inr ⟨rfl,rfl,(Nr1 (by omega)).1 hn⟩) fun G' k=>w G' _ _ ?_
  exact (((R.trans (OH.refl.app.trans d.ext)).app.chg (A:=[])).trans' k (fun j hj hh=>by simp at hj;omega)).ext
 have u:es≠[]:=by rw [e1];exact (z h0).2.2.2.2.2.2.1
 have y:WX P5 L es=0:=by rw [e1];exact (z h0).2.2.2.2.2.2.2
 refine NL ?_
 have D:=d.len
 simp at D
 have kk:=d.cells ((OH.refl.app (X:=[])).cells aa) (by simp)
 have i:=X9 (P:=P5) (L:=L) (es:=es)
 rw [<-e3] at i
 have aq:es.length<=40:=(Nqo y).2.1
 have ar:ks.length<=es.length:=Z5 i.2
 have U:ks≠[]:=fun h=>by have:=i.1 (by rw [h];rfl);exact u (List.length_eq_zero_iff.1 this)
 have Y:=Y1 (P:=P5) (L:=L) i
 have K:=Nsb (P:=P5) (L:=L) (tw:=tw) (now:=now*2) i
 rw [<-e4] at Y K
 have Z:∀a,sp=some a->H.length+1<=a.block:=fun a T=>by
  have:=(hB.so.block T).1
  simp only [No,Nl,Nu] at this
  omega
 simp only [TH,RP,c26,n26,r26,OP,NI,NF,show lim<=I.length by omega,SB,seval,NC,NJ,NG,NQ,reduceCtorEq,NB,place,NA,ND]
 refine N97 (b:=true) (B:=H.length) (C:=I.length) (S:=S) (IT:=IT) (e:=0) rfl rfl rfl rfl rfl (OH.refl.app.cells kk) (by rw [NV];rfl) OP ((d.sl (v.app _) (fun a _ _ h=>(by cases h))).app _) (by omega) hl (by simp;omega) (by omega) (.inl ⟨rfl,rfl, ?_, ?_⟩) fun G' k=>?_
 ·apply Ny
  intro h
  apply u
  rw [e1]
  exact (Nr1 (by omega)).2 fun s hs hi=>h ⟨s,hs,hi⟩
 ·intro mp lim G' Q hX
  exact Nvo (hX.sl (M.1.app _)) (hX.sl (N.1.app _)) (hX.sl (O.1.app _)) (by omega) i.mem Y.1 (Njl K i.mem u) U (by omega) (by rw [e4];unfold QL;rw [Ns,O1];omega) (by have h1:=Nx9 S IT;rw [<-e2] at h1;have:=Nhp (P:=P5) (L:=L) (es:=es) (tw:=tw) (ks:=ks) (ss:=ss) (now:=now*2) (by omega) (by omega);omega)
 have o:∀{α:Type} {enc:α->List Value} {e:Nat} {q:Option Addr} {l:List α},Ww (G2++[]).length I enc e q l->Sl G' enc e q l:=fun h=>k.sl (h.1.app _) fun a T _ hj=>by
  have:=h.2 a T
  simp only [Nk] at hj
  simp only [No,Nu] at this
  omega
 exact W G' _ _ _ _ _ _ _ _ _ _ es tw ks ss e1 e2 e3 e4 u y (((R.trans (OH.refl.app.trans d.ext)).app.chg (A:=[])).trans' k (fun j hj hh=>by simp at hj;omega)).ext (k.sl ((d.sl (v.app _) (fun a _ _ h=>(by cases h))).app _) fun a T _ hj=>by have:=Z a T;simp at hj;omega) (o ac) ab (o M) (o N) (o O)
end Go.Proofs.YtkppjkkkdpcgiaaGreat.Fn


namespace Go.Scan
section
variable {item:Int}
end
end Go.Scan


namespace Go.Proofs.YtkppjkkkdpcgiaaGreat.Fn
open Go.AM Go.AM.Sym Go.Net Go.Scan
theorem Nnk [OB] (h:OB.on 18=true) {mp:Bool} {lim:Nat} {H:NE} {Q:Value->NE->Prop}:NK E mp lim 18 [] H Q=Q (.bool true) H:=
 Nxq (E:=E) (by simp [E,orc,h]) rfl rfl
structure F7 (p r2 sp:Option Addr) (n m s ca cm sc B:Nat) (item now:Int) (fr:Nat->Value):Prop where
 f0:fr 0=.slice p n ca
 f2:fr 2=.slice r2 m cm
 f4:fr 4=.int .u8 item
 f5:fr 5=.int .u16 now
 f13:fr 13=Vp B
 f14:fr 14=.slice sp s sc
theorem F7.next {p r2 sp:Option Addr} {n m s ca cm sc B:Nat} {item now:Int} {fr fr':Nat->Value} (h:F7 p r2 sp n m s ca cm sc B item now fr) (e:∀t,t<15->fr' t=fr t):F7 p r2 sp n m s ca cm sc B item now fr':=
 ⟨(e 0 (by decide)).trans h.f0,(e 2 (by decide)).trans h.f2,(e 4 (by decide)).trans h.f4,(e 5 (by decide)).trans h.f5,(e 13 (by decide)).trans h.f13,(e 14 (by decide)).trans h.f14⟩
def Tp (n:Nat) (A:List An) (j:Nat):List Bool:=(List.range n).map (strayB (A.take j))
def Tk (n:Nat) (A:List An) (j:Nat):List Int:=(List.range n).map fun i=>((nS (A.take j) i:Nat):Int)
section
variable {n j:Nat} {A:List An}
theorem Sq:(Tp n A j).length=n:=by unfold Tp;rw [Ns,O1]
theorem SX:(Tk n A j).length=n:=by unfold Tk;rw [Ns,O1]
theorem Nss {α:Type} [Inhabited α] {f:Nat->α} {i:Nat} (h:i<n):gt ((List.range n).map f) i=f i:=by
 rw [PO (by rw [Ns,O1];exact h),Py,List.getElem_range]
theorem Zk {i:Nat} (h:i<n):gt (Tp n A j) i=strayB (A.take j) i:=Nss h
theorem Y3 {i:Nat} (h:i<n):gt (Tk n A j) i=((nS (A.take j) i:Nat):Int):=Nss h
theorem Nyf:Tp n A 0=List.replicate n false:=by
 unfold Tp
 rw [Qi]
 exact O2 (by simp) fun i h1 h2=>by simp [strayB]
theorem N3j:Tk n A 0=List.replicate n 0:=by
 unfold Tk
 rw [Qi]
 exact O2 (by simp) fun i h1 h2=>by simp [nS]
variable (hj:j<A.length)
include hj
theorem Ntf:Uf (A.take (j+1))=Uf (A.take j)+cA (gt A j):=by
 rw [N0 hj,Y0,PO hj]
 simp [Uf]
theorem Ndz {i:Nat}:strayB (A.take (j+1)) i=(strayB (A.take j) i||decide ((gt A j).kind=1/\(gt A j).ev=i)):=by
 rw [N0 hj,Wd,PO hj]
 simp [strayB]
theorem Nr8 {i:Nat}:nS (A.take (j+1)) i=nS (A.take j) i+if VW (gt A j)/\(gt A j).ev=i then 1 else 0:=by
 rw [N0 hj,Ney,PO hj]
 congr 1
 unfold nS
 rw [List.countP_singleton]
 simp
theorem Nko (h:(gt A j).kind≠1):Tp n A (j+1)=Tp n A j:=by
 unfold Tp
 refine Pi fun i _=>?_
 rw [Ndz hj,N3 (fun a=>h a.1),Bool.or_false]
theorem Nn9 {m:Nat} (h:(gt A j).kind=1) (b:(gt A j).ev=m) (c:m<n):Tp n A (j+1)=(Tp n A j).set m true:=by
 refine O2 (by rw [Pn,Sq,Sq]) fun i h1 h2=>?_
 have hi:i<n:=by rw [Sq] at h1;exact h1
 rw [<-PO h1,Zk hi,List.getElem_set,Ndz hj]
 by_cases e:m=i
 ·subst e;rw [Ni rfl];simp [h,b]
 ·rw [Ng e,<-PO (by rw [Sq];exact hi),Zk hi,N3 (fun a=>e (by have:=a.2;omega)),Bool.or_false]
theorem Nof (h:¬VW (gt A j)):Tk n A (j+1)=Tk n A j:=by
 unfold Tk
 refine Pi fun i _=>?_
 rw [Nr8 hj,Ng (fun a=>h a.1)]
 rfl
theorem Ntj {m:Nat} (h:VW (gt A j)) (c:(gt A j).ev=m) (a:m<n):Tk n A (j+1)=(Tk n A j).set m (gt (Tk n A j) m+1):=by
 rw [Y3 a]
 refine O2 (by rw [Pn,SX,SX]) fun i h1 h2=>?_
 have hi:i<n:=by rw [SX] at h1;exact h1
 rw [<-PO h1,Y3 hi,List.getElem_set,Nr8 hj]
 by_cases e:m=i
 ·subst e;rw [Ni rfl,Ni ⟨h,c⟩];simp
 ·rw [Ng e,<-PO (by rw [SX];exact hi),Y3 hi,Ng (fun b=>e (by have:=b.2;omega))];simp
theorem No8 {m:Nat} (hp:A.Pairwise Nxt) (h:(gt A j).kind=1) (d:(gt A j).ev=m):strayB (A.take j) m=false:=by
 unfold strayB
 rw [List.any_eq_false]
 intro a c
 obtain ⟨i,hi,rfl⟩:=List.mem_iff_getElem.1 c
 rw [Ol] at hi
 rw [List.getElem_take]
 have b:=Pa.1 hp i j (by omega) hj (by omega)
 rw [<-PO hj] at b
 simp only [N1,not_and]
 intro h1 h2
 exact b.2 h1 h (h2.trans d.symm)
theorem N3z (hp:A.Pairwise Nxt) (h0:0<j) (h:(gt A j).kind≠7):(gt A (j-1)).ev<=(gt A j).ev:=by
 have a:=Pa.1 hp (j-1) j (by omega) hj (by omega)
 rw [<-PO hj,<-PO] at a
 exact a.1 h
end
theorem Nry:∀{l:List An},(∀a∈l,0<=cA a/\cA a<=80)->0<=Uf l/\Uf l<=80*l.length
 | [],_=>by simp [Uf]
 | a::l,h=>by
   have h1:=h a (by simp)
   have h2:=Nry fun x b=>h x (Nj _ b)
   have e:Uf (a::l)=cA a+Uf l:=by simp [Uf]
   rw [e,Nl]
   omega
theorem ListOk.cA {P:List Int} {L:List Leg} {es:List Ev} {ks:List Int} {ss:List Stp} {now:Int} {A:List An} (h:ListOk P L es ks ss now A):∀a∈A,0<=Fn.cA a/\Fn.cA a<=80:=fun a b=>by
 unfold Fn.cA
 rcases h.all a b with ⟨i,hi,h1⟩ | ⟨h1,_⟩
 ·split
  ·omega
  split
  ·omega
  split
  ·have:=h1.mins (by assumption);omega
  ·omega
 ·rw [Ng (by omega),Ng (by omega),Ng (by omega)];omega
def Cnt (ks:List Int) (i m:Nat):Prop:=m<=ks.length/\(∀x,x<m->gt ks x<i)/\∀x,m<=x->x<ks.length->(i:Int)<=gt ks x
theorem Nso {n:Nat} {ks:List Int} (hk:Yu n ks):∀j i,i<j->j<ks.length->gt ks i<gt ks j:=fun j=>by
 induction j with
 | zero=>intro i h;omega
 | succ j ih=>
   intro i h hj
   have h1:gt ks j<gt ks (j+1):=(hk.2 (j+1) hj).2.2 (by omega)
   rcases Ok i j with h2 | h2
   ·have:=ih i h2 (by omega);omega
   ·rw [show i=j by omega];exact h1
theorem Cnt.zero {n:Nat} {ks:List Int} (hk:Yu n ks):Cnt ks 0 0:=⟨Nv _,fun x h=>by omega,fun x _ h=>by have:=(hk.2 x h).1;omega⟩
theorem Cnt.mem {n i m:Nat} {ks:List Int} (hk:Yu n ks) (h:Cnt ks i m) (hi:(i:Int)∈ks):m<ks.length/\gt ks m=i/\Cnt ks (i+1) (m+1):=by
 obtain ⟨x,a,e⟩:=List.mem_iff_getElem.1 hi
 rw [<-PO a] at e
 have d:m<=x:=Nat.le_of_not_lt fun c=>by have:=h.2.1 x c;omega
 have b:x=m:=by
  rcases Ok m x with h1 | h1
  ·have:=Nso hk x m h1 a
   have:=h.2.2 m (Nd _) (by omega)
   omega
  ·omega
 subst b
 refine ⟨a,e,by omega,fun y f=>?_,fun y h1 h2=>?_⟩
 ·rcases Ok y x with h3 | h3
  ·have:=h.2.1 y h3;omega
  ·rw [show y=x by omega];omega
 ·have:=Nso hk y x (by omega) h2;omega
theorem Cnt.not {i m:Nat} {ks:List Int} (h:Cnt ks i m) (hi:¬(i:Int)∈ks):Cnt ks (i+1) m:=by
 refine ⟨h.1,fun x a=>by have:=h.2.1 x a;omega,fun x h1 h2=>?_⟩
 have b:=h.2.2 x h1 h2
 have c:gt ks x≠i:=fun e=>hi (e▸PZ h2)
 omega
theorem Cnt.all {n m:Nat} {ks:List Int} (hk:Yu n ks) (h:Cnt ks n m):m=ks.length:=by
 rcases Ok m ks.length with h1 | h1
 ·have:=h.2.2 m (Nd _) h1
  have:=(hk.2 m h1).2.1
  omega
 ·have:=h.1;omega
theorem Nyk {P:List Int} {L:List Leg} {es tw:List Ev} {ks:List Int} {now:Int} {A:List An} (hk:Yu es.length ks) (h:ListOk P L es ks (QL P L es ks) now A) {s:Stp} (hs:s∈QL P L es ks):nS A s.2.1.toNat=if 0<s.2.2 then 1 else 0:=by
 obtain ⟨h1,hd⟩:=Y1 (P:=P) (L:=L) (es:=es) hk
 have a:=h1 s hs
 unfold SK at a
 rw [h.stp _ (by omega),Nyb h1 hd hs]
 unfold cS
 rw [Ni a.2.1]
end Go.Proofs.YtkppjkkkdpcgiaaGreat.Fn


