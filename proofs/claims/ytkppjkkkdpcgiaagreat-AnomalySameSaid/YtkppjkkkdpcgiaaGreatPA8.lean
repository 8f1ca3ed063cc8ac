/-
  Joined texts, 8 of 10. A part of the claim that the last text states.
-/
import Derived.Test.YtkppjkkkdpcgiaaGreatPA7
set_option linter.unusedVariables false
set_option linter.unusedSimpArgs false
set_option linter.defProp false
set_option linter.unusedSectionVars false
set_option maxRecDepth 100000
set_option maxHeartbeats 4000000
namespace Go.Proofs.YtkppjkkkdpcgiaaGreat.Fn
open Go.AM Go.AM.Sym Go.Scan Go.Sort
theorem Nsz [OB] {lim R:Nat} {H:NE} {Q:Value->NE->Prop}:NL E false lim 123 [.map (some R)] H Q=Q (.func (.func 143) #[] #[Vp H.length]) (H++[Vc [.map (some R)]]):=by
 refine NL.eq ?_
 refine RG (by decide) Oee rfl ?_
 rw [Ofj,N87]
 simp only [n123,Odi,SB,seval,NC,NJ,NG,NR,reduceCtorEq,NB,place,NA,ND]
def UY (S:List Ev) (i:Nat):Ess:=(S.take i).foldl SV []
theorem Nic {S:List Ev} {i:Nat} (h:i<S.length):UY S (i+1)=SV (UY S i) (gt S i):=by
 unfold UY
 rw [N2 h,List.foldl_append,PW h];rfl
theorem Nfm (S:List Ev):∀i,(UY S i).length<=i
 | 0=>Nd _
 | i+1=>by
   rcases On i S.length with h | h
   ·rw [Nic h]
    have:=Nfm S i
    unfold SV
    split
    ·rw [Nbe];have:=Neo (k:=UC (gt S i)) (v:=mkM (gt S i)) (l:=UY S i);omega
    split
    ·rw [Nbe];have:=Neo (k:=UC (gt S i)) (v:=mkM (gt S i)) (l:=UY S i);omega
    ·omega
   ·have e:UY S (i+1)=UY S i:=by unfold UY;rw [Oe h,Oe (by omega)]
    rw [e];have:=Nfm S i;omega
theorem gather_ok [OB] {lim c:Nat} {p:Option Addr} {S:List Ev} {H:NE} {Q:Value->NE->Prop} (hs:Sl H QL 6 p S) (hS:QV S) (hl:lim<=H.length)
  (hQ:∀G p' c',Sl G QW 3 p' (PL S)->Ua 3 c' (PL S).length->Chg [] H G->Q (.slice p' (PL S).length c') (G++[])) :
  NL Ef false lim 93 [.slice p S.length c] H Q:=by
 have hn:=hS.1
 refine Nhi (by decide) e93 rfl ?_
 rw [b93,c93]
 simp only [n93,r93,SB,seval,NC,NJ,NG,NR,reduceCtorEq,NB,place,NA,ND]
 refine NP (fun i=>S.length-i) (fun i fr G=>i<=S.length/\fr 3=.map (some H.length)/\fr 12=.slice p S.length c/\fr 13=Vi S.length/\fr 14=Vi i/\NH G H.length=.map (TB kM vK (UY S i))/\H.length<G.length/\Sl G QL 6 p S/\∀j,j<H.length->NH G j=NH H j) 0
  ⟨Nw _,rfl,rfl,rfl,by rfl,by rw [NV];rfl,by simp,hs.app _,fun j A=>NQ A⟩ ?_
 rintro i fr G ⟨hi,n,d,e,m,U,gl,gs,go⟩ J
 rw [NU N58.eq_1]
 refine NK ?_
 have l:∀X,NH (G++X) H.length=.map (TB kM vK (UY S i)):=fun X=>by rw [NQ gl];exact U
 by_cases g:i<S.length
 ·have q:=fun X=>(gs.app X).loadCells OP g
  have h:=fun c (k:IntKind) (H1:NE)=>gs.idx (c:=c) (k:=k) (H1:=H1) g
  have r:IntKind.i64.wrap ((i:Int)+1)=((i+1:Nat):Int):=OD (by omega)
  have hf:Sy (gt S i):=hS.2 _ (QR g)
  have Z:=hf
  unfold Sy Wi at Z
  have O:=Nic g
  generalize ag:gt S i=s at *
  have P:IntKind.i64.wrap (Int.tdiv s.seen 1440)=s.seen / 1440:=by
   rw [Pr (by omega)];exact NT (by omega) (by omega)
  have wd:IntKind.i64.wrap (s.seen-s.at')=s.seen-s.at':=NT (by omega) (by omega)
  have o:lim<=G.length:=by omega
  have hk:U0 (.ints [.i64,.i64]) (.agg #[Vi s.scanner,Vi (s.seen / 1440)])=true:=Oa6 (k:=UC s)
  have f:=YO (vv:=vK) Oa7 (UC s) (UY S i) 0
  have L:kM (UC s)=.agg #[Vi s.scanner,Vi (s.seen / 1440)]:=rfl
  have ae:vK (mkM s)=.agg #[Vi s.scanner,Vi s.at',Vi (s.seen-s.at')]:=rfl
  rw [L] at f
  have b:=Nqg (UC s) (UY S i) 0
  rw [<-N05] at b
  have fin:∀(es':Ess) (G1:NE) (X:NE),NH G1 H.length=.map (TB kM vK es')->es'=UY S (i+1)->(∀j,j≠H.length->NH G1 j=NH G j)->G1.length=G.length->
    NH (G1++X) H.length=.map (TB kM vK (UY S (i+1)))/\H.length<(G1++X).length/\Sl (G1++X) QL 6 p S/\∀j,j<H.length->NH (G1++X) j=NH H j:=by
   intro es' G1 X h1 h2 t l1
   subst h2
   refine ⟨by rw [NQ (by omega)];exact h1,by simp;omega, ?_,fun j A=>by rw [NQ (by omega),t j (by omega)];exact go j A⟩
   refine (Sl.same gs fun a ha ab=>?_).app _
   subst ha
   have:=hs.lt ab
   exact t _ (by omega)
  have D:∀es':List (Value×Value),∃G1,(∀X:NE,(G++X).set H.length (.map es')=G1++X)/\NH G1 H.length=.map es'/\Mut G G1 H.length:=fun es'=>OQ gl _
  cases hc:fk (UC s) (UY S i) 0 with
  | none=>
    rw [hc] at f b
    simp only [Ou] at f b
    have N:UY S (i+1)=Xn (UC s) (mkM s) (UY S i):=by rw [O];unfold SV;rw [<-b]
    obtain ⟨G1,e1,h1,t⟩:=D (TB kM vK (UY S i)++[(.agg #[Vi s.scanner,Vi (s.seen / 1440)],.agg #[Vi s.scanner,Vi s.at',Vi (s.seen-s.at')])])
    have z:NH G1 H.length=.map (TB kM vK (Wz (UC s) (mkM s) (UY S i))):=by
     rw [h1,<-Njz (v':=mkM s) hc];simp only [TB,O0,N3,List.map_nil];rfl
    simp only [n93,r93,n,d,e,m,NN,g,h,q,o,OP,Ud,Ve,Vd,Vb,Va,UZ,NI,NF,P,wd,r,l,hk,f,e1,hl,SB,seval,NC,NJ,NG,NR,reduceCtorEq,NB,place,NA,ND]
    obtain ⟨u,v,w,y⟩:=fin _ G1 _ z (by rw [N,Nbe]) t.other t.len
    exact J (i+1) _ _ ⟨by omega,n,d,e,rfl,u,v,w,y⟩ (by omega)
  | some x=>
    obtain ⟨j,old⟩:=x
    rw [hc] at f b
    simp only [Nv] at f b
    have ad:vK old=.agg #[Vi old.scanner,Vi old.at',Vi old.off]:=rfl
    rw [ad] at f
    have B:UY S (i+1)=if Te (mkM s) old then Xn (UC s) (mkM s) (UY S i) else UY S i:=by rw [O];unfold SV;rw [<-b]
    obtain ⟨G1,e1,h1,t⟩:=D ((TB kM vK (UY S i)).set j (.agg #[Vi s.scanner,Vi (s.seen / 1440)],.agg #[Vi s.scanner,Vi s.at',Vi (s.seen-s.at')]))
    have z:NH G1 H.length=.map (TB kM vK (Wz (UC s) (mkM s) (UY S i))):=by
     rw [h1,<-(Njy (v':=mkM s) hc).2.2];simp only [TB,List.map_set,Nat.sub_zero];rfl
    by_cases F:s.seen-s.at'<old.off
    ·simp only [n93,r93,n,d,e,m,NN,g,h,q,o,OP,Ud,Ve,Vd,Vb,Va,UZ,NI,NF,P,wd,r,l,hk,f,e1,hl,N9 F,SB,seval,NC,NJ,NG,NR,reduceCtorEq,NB,place,NA,ND]
     obtain ⟨u,v,w,y⟩:=fin _ G1 _ z (by rw [B,Ni (.inl F),Nbe]) t.other t.len
     exact J (i+1) _ _ ⟨by omega,n,d,e,rfl,u,v,w,y⟩ (by omega)
    by_cases T:s.seen-s.at'=old.off
    ·by_cases V:s.at'<old.at'
     ·simp only [n93,r93,n,d,e,m,NN,g,h,q,o,OP,Ud,Ve,Vd,Vb,Va,UZ,NI,NF,P,wd,r,l,hk,f,e1,hl,Nq F,N9 T,N9 V,SB,seval,NC,NJ,NG,NR,reduceCtorEq,NB,place,NA,ND]
      obtain ⟨u,v,w,y⟩:=fin _ G1 _ z (by rw [B,Ni (.inr ⟨T,V⟩),Nbe]) t.other t.len
      exact J (i+1) _ _ ⟨by omega,n,d,e,rfl,u,v,w,y⟩ (by omega)
     ·simp only [n93,r93,n,d,e,m,NN,g,h,q,o,OP,Ud,Ve,Vd,Vb,Va,UZ,NI,NF,P,wd,r,l,hk,f,e1,hl,Nq F,N9 T,Nq V,SB,seval,NC,NJ,NG,NR,reduceCtorEq,NB,place,NA,ND]
      obtain ⟨u,v,w,y⟩:=fin _ G _ U (by rw [B,Ng (by unfold Te mkM;simp only;omega)]) (fun _ _=>rfl) rfl
      exact J (i+1) _ _ ⟨by omega,n,d,e,rfl,u,v,w,y⟩ (by omega)
    ·simp only [n93,r93,n,d,e,m,NN,g,h,q,o,OP,Ud,Ve,Vd,Vb,Va,UZ,NI,NF,P,wd,r,l,hk,f,e1,hl,Nq F,Nq T,SB,seval,NC,NJ,NG,NR,reduceCtorEq,NB,place,NA,ND]
     obtain ⟨u,v,w,y⟩:=fin _ G _ U (by rw [B,Ng (by unfold Te mkM;simp only;omega)]) (fun _ _=>rfl) rfl
     exact J (i+1) _ _ ⟨by omega,n,d,e,rfl,u,v,w,y⟩ (by omega)
 ·obtain rfl:i=S.length:=by omega
  have K:UY S S.length=UW S:=by unfold UY UW;rw [Oj]
  rw [K] at U l
  have hv:=fun (X:NE) (Q:Value->NE->Prop)=>NL.eqF' (Q:=Q) (show NL E false lim 123 [.map (some H.length)] (G++X) (fun v' H1=>v'=_/\H1=_) by rw [Nsz];exact ⟨rfl,rfl⟩)
  simp only [n93,r93,n,d,e,m,NN,g,hv,SB,seval,NC,NJ,NG,NR,reduceCtorEq,NB,place,NA,ND]
  have aa:=Nfm S S.length
  rw [K] at aa
  refine Ntd (es:=UW S) (R:=H.length) (by simp;omega) (by rw [NV];rfl) (l _) (by omega) fun G1 p1 F hO hC=>?_
  have hL:(UM SX ((UW S).map (·.2))).length=(UW S).length:=by rw [(Sn SX _).length_eq,Nu]
  have C:∀j,j<H.length->NH G1 j=NH H j:=fun j A=>by
   rw [hC.other j (by simp;omega) (by simp),NQ (by omega)];exact go j A
  have M:=hC.len
  simp only [Nl,Nm,Ns] at M
  rcases hO with ⟨h0,rfl,rfl⟩ | ⟨R,rfl,rfl,hR,W⟩
  ·have hg:PL S=[]:=by unfold PL;rw [h0];rfl
   have hz:(UW S).length=0:=by rw [<-hL,h0];rfl
   rw [hz]
   have Y:=fun X (Q:Value->NE->Prop)=>NL.eqF (Q:=Q) (show NL E false lim 126 [Vz,.func (.func 127) #[] #[]] (G1++X) (fun v' H1=>v'=Vz/\H1=G1++X) by rw [Nnc];exact ⟨rfl,rfl⟩)
   simp only [n93,r93,Y,SB,seval,NC,NJ,NG,NR,reduceCtorEq,NB,place,NA,ND]
   have:=hQ G1 none 0 (by rw [hg];rfl) (by rw [hg];exact .inr ⟨Nd _,by decide⟩) ⟨by omega,fun j A _=>C j A⟩
   rw [hg] at this
   exact this
  ·rw [<-hL]
   simp only [n93,r93,SB,seval,NC,NJ,NG,NR,reduceCtorEq,NB,place,NA,ND]
   simp only [Nl,Nm,Ns] at W
   refine NL.weak (E':=E) ?_
   rw [Nb]
   refine Nqx hR (by omega) (by omega) fun G2 ac I=>?_
   refine NK ?_
   simp only [n93,r93,SB,seval,NC,NJ,NG,NR,reduceCtorEq,NB,place,NA,ND]
   refine hQ G2 _ _ ac (.inl rfl) ⟨by have:=I.len;omega,fun j A _=>?_⟩
   rw [I.other j (by omega) (by simp;omega)]
   exact C j A
theorem Nas {α:Type} {lim R e bytes cap k b:Nat} {dest:Option Nat} {H:NE} {enc:α->List Value} {old:List α} {x:α} {ro:Bool} {rest:List Value} (he:∀x,(enc x).length=e) (h:e≠0) (j:NH H b=.cells ro (enc x)) (a:NH H R=Vc (old.flatMap enc++rest)) (hl:lim<=R)
  (hc:old.length+1<=cap) (hr:rest.length=(cap-old.length)*e) (f:cap<2 ^ 61) (m:(old.length+1)*bytes<=PU) :
  PQ lim dest e bytes false (.slice (Sa R) old.length cap) (.slice (Sa b) 1 k) H=some (.slice (Sa R) (old.length+1) cap,H.set R (Vc ((old++[x]).flatMap enc++rest.drop e))):=by
 have g:=NM a
 have d:AM.loadCells H ⟨b,0,none⟩ (1*e)=some (enc x):=by
  rw [R3,j]
  simp only [Oc,O1,Nat.one_mul]
  rw [Ni (by rw [he];exact Nd _),<-he x,Oj]
 have i:e<=rest.length:=by rw [hr];exact Nat.le_mul_of_pos_left e (by omega)
 have l:AM.loadCells H ⟨R,0,none⟩ (old.length*e)=some (old.flatMap enc):=by
  rw [R3,a]
  simp only [Oc,O1]
  rw [Ni (by rw [Nl,QM he];omega),<-QM he,List.take_left]
 have c:AM.storeAt lim H (Addr.add ⟨R,0,none⟩ (old.length*e)) (enc x)=some (H.set R (Vc ((old++[x]).flatMap enc++rest.drop e))):=by
  simp only [addr_add,Vv,a,Oc]
  rw [Ni ⟨hl,by rw [Nl,QM he,he];omega⟩]
  have:=Ned (enc x) (old.flatMap enc) (rest.take e) (rest.drop e) (by rw [he,Ok];omega)
  rw [No,Qh,QM he] at this
  rw [this,P4,Oy,Rn,Nb]
 simp only [PQ,firstCells,lenOf,d,l,c,if_false,Nz,Nat.one_ne_zero]
 rw [Ng (by omega),Ng (by unfold loose;omega),Ni (by omega),Ni (by omega)]
def Nm5 (M:List Mk) (S:List Ev):List Ev:=S.map fun s=>{ s with time:=Uh M s }
theorem Xx {M:List Mk} {S:List Ev}:(Nm5 M S).length=S.length:=Nu ..
theorem N4w {M:List Mk} {S:List Ev} {i:Nat} (h:i<S.length):gt (Nm5 M S) i={ gt S i with time:=Uh M (gt S i) }:=by
 rw [PW (by rw [Xx];exact h),PW h]
 unfold Nm5
 rw [P8]
structure ESt (H:NE) (M:List Mk) (S:List Ev) (p pm:Option Addr) (B i:Nat) (G:NE):Prop where
 row:∃rest,rest.length=(S.length-i)*7/\NH G B=Vc (((Nm5 M S).take i).flatMap encE++rest)
 sm:Sl G QW 3 pm M
 ss:Sl G QL 6 p S
 old:∀j,j<H.length->NH G j=NH H j
 len:B<G.length
def Nlh (p:Option Addr):List Nat:=match p with
 | none=>[]
 | some a=>[a.block]
theorem Ndd {p:Option Addr} {j:Nat} (h:j∈Nlh p):∃a,p=some a/\j=a.block:=by
 cases p with
 | none=>cases h
 | some a=>exact ⟨a,rfl,by simpa [Nlh] using h⟩
theorem Ndc {p:Option Addr} {j:Nat} (h:j∉Nlh p):∀a,p=some a->j≠a.block:=fun a e h2=>h (by rw [e];simp [Nlh,h2])
structure FSt (H:NE) (EV:List Ev) (B Mp:Nat) (kr tr:List Ev) (es:List ((Int×Int×Int)×Int)) (kp tp:Option Addr) (kc tc:Nat) (G:NE):Prop where
 mp:NH G Mp=.map (TB kS vI es)
 ev:NH G B=Vc (EV.flatMap encE)
 ko:Own (Mp+1) G encE 7 kp kc kr.reverse
 to:Own (Mp+1) G encE 7 tp tc tr.reverse
 ne:∀a b,kp=some a->tp=some b->a.block≠b.block
 old:∀j,j<H.length->NH G j=NH H j
 len:Mp<G.length
 rel:∀e,Nbs (RD e) es=(UB e kr).map (·.time)
 sub:∀x∈kr,x∈EV
 kn:kr=[]->kp=none
 tn:tr=[]->tp=none
theorem FSt.twice {H:NE} {EV:List Ev} {B Mp:Nat} {kr tr:List Ev} {es:List ((Int×Int×Int)×Int)} {kp tp:Option Addr} {kc tc:Nat} {G:NE} {lim:Nat} (h:FSt H EV B Mp kr tr es kp tp kc tc G) (hl:lim<=H.length) (n:H.length<=B) (m:B<Mp) (e:Ev) (hn:tr.length<4000) (x y:Blk) :
  ∃G',PQ lim none 7 56 false (.slice tp tr.length tc) (.slice (Sa (G.length+2)) 1 1) (G++[x,y,Vc (encE e)])=some (.slice (Sa (G.length+3)) (tr.length+1) (loose 7),G'++[])/\FSt H EV B Mp kr (e::tr) es kp (Sa (G.length+3)) kc (loose 7) (G'++[]):=by
 have len:=h.len
 obtain ⟨G2,e2,d,_,c,g,_⟩:=h.to.step (lim':=lim) (bytes:=56) (by omega) NZ (by decide) e (by rw [List.length_reverse];unfold PU;omega) (by rw [List.length_reverse];omega) (by omega) [x,y,Vc (encE e)] (G.length+2) 1 (by rw [OC];rfl)
 rw [List.length_reverse] at e2
 simp only [Nm,Ns,Oc,Nat.reduceAdd] at e2 d g
 have nt:∀j,j<=Mp->∀a,tp=some a->j≠a.block:=fun j i a f=>by have:=(h.to.block f).1;omega
 have hc:Chg (Nlh tp) G (G2++[]):=⟨by simp;omega,fun j i l=>c j i (Ndc l)⟩
 refine ⟨G2,e2,(c _ len (nt _ (Nd _))).trans h.mp,(c _ (by omega) (nt _ (by omega))).trans h.ev,h.ko.chg hc fun a f o=>?_,by rw [List.reverse_cons];exact d,fun a b f k=>?_,fun j i=>(c j (by omega) (nt _ (by omega))).trans (h.old j i),by simp;omega,h.rel,h.sub,h.kn,fun h=>(by cases h)⟩
 ·obtain ⟨b,k,e⟩:=Ndd o
  exact h.ne a b f k e
 ·cases k
  have:=(h.ko.block f).2
  show a.block≠G.length+3
  omega
theorem Np2 {e x:Ev} {kr:List Ev}:UB e (x::kr)=if RD x=RD e then some x else UB e kr:=by
 unfold UB
 by_cases h:RD x=RD e
 ·rw [List.find?_cons_of_pos (by simpa using h),Ni h]
 ·rw [List.find?_cons_of_neg (by simpa using h),Ng h]
theorem FSt.kept {H:NE} {EV:List Ev} {B Mp:Nat} {kr tr:List Ev} {es:List ((Int×Int×Int)×Int)} {kp tp:Option Addr} {kc tc:Nat} {G:NE} {lim:Nat} (h:FSt H EV B Mp kr tr es kp tp kc tc G) (hl:lim<=H.length) (s:H.length<=B) (r:B<Mp) (e:Ev) (he:e∈EV) (hn:kr.length<4000) (x y:Blk) :
  ∃G1,(∀X:NE,(G++X).set Mp (.map (TB kS vI (Wz (RD e) e.time es)))=G1++X)/\∃G',PQ lim none 7 56 false (.slice kp kr.length kc) (.slice (Sa (G1.length+2)) 1 1) (G1++[x,y,Vc (encE e)])=some (.slice (Sa (G1.length+3)) (kr.length+1) (loose 7),G'++[])/\
   FSt H EV B Mp (e::kr) tr (Wz (RD e) e.time es) (Sa (G1.length+3)) tp (loose 7) tc (G'++[])/\G1.length=G.length:=by
 have len:=h.len
 obtain ⟨G1,e1,h1,k⟩:=OQ (G:=G) (R:=Mp) len (.map (TB kS vI (Wz (RD e) e.time es)))
 have u:=k.len
 have nk:∀j,j<=Mp->∀a,kp=some a->j≠a.block:=fun j g a d=>by have:=(h.ko.block d).1;omega
 have nt:∀j,j<=Mp->∀a,tp=some a->j≠a.block:=fun j g a d=>by have:=(h.to.block d).1;omega
 have n:=h.ko.mut k (fun a d=>(nk Mp (Nd _) a d).symm)
 have o:=h.to.mut k (fun a d=>(nt Mp (Nd _) a d).symm)
 obtain ⟨G2,e2,f,_,c,i,_⟩:=n.step (lim':=lim) (bytes:=56) (by omega) NZ (by decide) e (by rw [List.length_reverse];unfold PU;omega) (by rw [List.length_reverse];omega) (by omega) [x,y,Vc (encE e)] (G1.length+2) 1 (by rw [OC];rfl)
 rw [List.length_reverse] at e2
 simp only [Nm,Ns,Oc,Nat.reduceAdd] at e2 f i
 have hc:Chg (Nlh kp) G1 (G2++[]):=⟨by simp;omega,fun j g p=>c j g (Ndc p)⟩
 refine ⟨G1,e1,G2,e2,⟨(c _ (by omega) (nk _ (Nd _))).trans h1,(c _ (by omega) (nk _ (by omega))).trans ((k.other _ (by omega)).trans h.ev),by rw [List.reverse_cons];exact f,o.chg hc fun a d t=>?_,fun a b d m=>?_,fun j g=>(c j (by omega) (nk _ (by omega))).trans ((k.other j (by omega)).trans (h.old j g)),by simp;omega,fun a=>?_,fun z hz=>?_,fun h=>(by cases h),h.tn⟩,u⟩
 ·obtain ⟨b,m,e⟩:=Ndd t
  exact h.ne b a m d e.symm
 ·cases d
  have:=(h.to.block m).2
  show G1.length+3≠b.block
  omega
 ·rw [Nms,Np2,h.rel]
  by_cases l:RD a=RD e
  ·rw [Ni l,Ni l.symm];rfl
  ·rw [Ng l,Ng fun q=>l q.symm]
 ·rcases Nr.mp hz with rfl | hz
  ·exact he
  ·exact h.sub z hz
theorem Nc9 [OB] {lim c:Nat} {p:Option Addr} {S:List Ev} {H:NE} {Q:Value->NE->Prop} (hs:Sl H QL 6 p S) (hS:QV S) (hl:lim<=H.length)
  (hQ:∀G kp kc tp tc,Own H.length G encE 7 kp kc (OH S).1->Own H.length G encE 7 tp tc (OH S).2->(∀a b,kp=some a->tp=some b->a.block≠b.block)->Chg [] H G->((OH S).1=[]->kp=none)->((OH S).2=[]->tp=none)->Q (.tuple #[.slice kp (OH S).1.length kc,.slice tp (OH S).2.length tc]) (G++[])) :
  NL Ef false lim 56 [.slice p S.length c] H Q:=by
 have hn:=hS.1
 refine Nhi (by decide) e56 rfl ?_
 rw [b56,c56]
 simp only [n56,r56,SB,seval,NC,NJ,NG,NR,reduceCtorEq,NB,place,NA,ND]
 rw [Nb]
 refine gather_ok hs hS hl fun G pm cm sm aw hC=>?_
 have az:=Go.Scan.gather_ok hS.2
 generalize hM:PL S=M at *
 have lM:M.length<=2000:=by rw [<-hM];have:=Nqd S;omega
 have bp:=hC.len
 have aq:∀G',(∀j,j<H.length->NH G' j=NH H j)->Sl G' QL 6 p S:=fun G' ho=>Sl.same hs fun a ha ac=>by
  subst ha;exact ho _ (hs.lt ac)
 have a1:(S.length:Int)*56<=2 ^ 45:=by omega
 have a2:(S.length:Int)<2 ^ 62:=by omega
 have hz:(List.range (S.length*7)).length=S.length*7:=Pq
 have bb:(0:Int)<=(S.length:Int):=by omega
 have ad:∀z:List Value,z.length=S.length*7->ESt H M S p pm G.length 0 (G++[Vc z]):=fun z hz=>by
  have ho:∀j,j<H.length->NH (G++[Vc z]) j=NH H j:=fun j I=>by rw [NQ (by omega),hC.other j I (by simp)]
  exact ⟨⟨z,by rw [hz,Nat.sub_zero],by rw [NV];rfl⟩,sm.app _,aq _ ho,ho,by simp⟩
 simp only [n56,r56,a1,a2,Od,Rj,bb,SB,Nat.reduceLT,NC,NJ,Nat.reduceEqDiff,NG,NR,reduceCtorEq,NB,place,NA,Nat.reduceAdd,Nat.reduceLeDiff,ND,Int.reduceEq,Int.reduceLT,Int.reduceLE]
 refine NP (fun i=>S.length-i) (fun i fr G2=>i<=S.length/\fr 2=Vz/\fr 3=Vz/\fr 4=.slice pm M.length cm/\fr 5=.slice (Sa G.length) i S.length/\fr 19=.slice p S.length c/\fr 20=Vi S.length/\fr 21=Vi i/\ESt H M S p pm G.length i G2) 0
  ⟨Nw _,rfl,rfl,rfl,rfl,rfl,rfl,by rfl,ad _ (by rw [Nu,Pq])⟩ ?_
 ·rintro i fr G2 ⟨hi,g2,g3,g4,g5,V,W,ah,⟨rest,K,D⟩,au,av,U,T⟩ hN
  rw [NU N6k.eq_1]
  refine NK ?_
  by_cases o:i<S.length
  ·have ba:=fun X=>(av.app X).loadCells OP o
   have ao:=fun c (k:IntKind) (H1:NE)=>av.idx (c:=c) (k:=k) (H1:=H1) o
   have bh:IntKind.i64.wrap ((i:Int)+1)=((i+1:Nat):Int):=OD (by omega)
   have hf:Sy (gt S i):=hS.2 _ (QR o)
   have a3:=fun X (mp:Bool) (lim:Nat) (Q:Value->NE->Prop)=>Nqu (mp:=mp) (lim:=lim) (Q:=Q) (au.app X) aw (by omega) az hf
   have a9:lim<=G2.length:=by omega
   have al:=N4w (M:=M) o
   generalize bq:gt S i=s at *
   generalize bu:Uh M s=t at *
   have bd:QO [Value.int .i64 0,Vi 0,Vi 0,.int .u8 0,Vi 0,Vi 0,Vi 0] 0 (QL s)=[Vi s.item,Vi s.place,Vi s.scanner,.int .u8 s.kind,Vi s.at',Vi s.seen,Vi 0]:=rfl
   have hev:[Value.int .i64 s.item,Vi s.place,Vi s.scanner,.int .u8 s.kind,Vi s.at',Vi s.seen,Vi t]=encE { s with time:=t }:=rfl
   generalize hex:{ s with time:=t }=e at *
   have L:((Nm5 M S).take i).length=i:=by rw [Ok,Xx];omega
   obtain ⟨E,e3,h3,m3⟩:=OQ (G:=G2) (R:=G.length) T (Vc ((((Nm5 M S).take i)++[e]).flatMap encE++rest.drop 7))
   have O:=Nas (lim:=lim) (R:=G.length) (bytes:=56) (cap:=S.length) (k:=1) (b:=G2.length+1) (dest:=some (G2.length+2)) (H:=G2++[Vc (QL s),Vc (encE e),.dead]) (enc:=encE) (old:=(Nm5 M S).take i) (x:=e) (ro:=false) (rest:=rest) NZ (by decide)
    (by rw [OC];rfl) (by rw [NQ T];exact D) (by omega) (by rw [L];omega) (by rw [L];exact K) (by omega) (by rw [L];unfold PU;omega)
   rw [L,e3] at O
   simp only [n56,r56,g2,g3,g4,g5,V,W,ah,NN,o,ao,ba,a9,OP,Ud,Ve,Vd,Vb,Va,UZ,NI,NF,a3,bh,bd,hev,NZ,O,SB,seval,NC,NJ,NG,NR,reduceCtorEq,NB,place,NA,ND]
   have l3:=m3.len
   have J:∀j,j<H.length->NH (E++[Vc (QL s),Vc (encE e),.dead]) j=NH H j:=fun j I=>by
    rw [NQ (by omega),m3.other j (by omega)];exact U j I
   have bk:Sl E QW 3 pm M:=Sl.same au fun a ha ac=>by
    subst ha
    have:=sm.lt ac
    exact m3.other _ (by omega)
   refine hN (i+1) _ _ ⟨by omega,g2,g3,g4,rfl,V,W,rfl,⟨⟨rest.drop 7,by rw [Pw,K];omega, ?_⟩,bk.app _,aq _ J,J,by simp;omega⟩⟩ (by omega)
   rw [NQ (by omega),h3,N2 (i:=i) (by rw [Xx];exact o),<-PW,al]
  ·obtain rfl:i=S.length:=by omega
   have bc:rest=[]:=by
    rw [Qv,Qk] at K
    exact List.length_eq_zero_iff.mp K
   rw [bc,Nb,Oe (by rw [Xx];exact Nd _)] at D
   obtain ⟨E,s1,s2,s3⟩:=Nx7 (lim:=lim) (cap:=S.length) D (by omega) (by rw [Xx];omega)
   rw [Xx] at s1
   have am:UM TV (Nm5 M S)=RY M S:=rfl
   rw [am] at s2
   simp only [n56,r56,g2,g3,g4,g5,V,W,ah,NN,o,s1,SB,seval,NC,NJ,NG,NR,reduceCtorEq,NB,place,NA,ND]
   have a0:OH S=RI [] [] (RY M S):=by rw [<-hM];rfl
   generalize ai:RY M S=EV at *
   have aj:EV.length=S.length:=by rw [<-ai,Nqk]
   have l3:=s3.len
   have J:∀j,j<H.length->NH E j=NH H j:=fun j I=>by rw [s3.other j (by omega) (by simp;omega)];exact U j I
   have an:∀x∈EV,0<=x.time/\x.time<=1051898399:=fun x hx=>by
    rw [<-ai] at hx
    obtain ⟨z,hz,rfl⟩:=Mo.mp hx
    have ar:=hS.2 z hz
    have:=Nrr (M:=M) ar
    unfold Sy Wi at ar
    simp only;omega
   have ay:=NM s2
   refine NP (S:=Nat×List Ev×List Ev×List ((Int×Int×Int)×Int)×Option Addr×Option Addr×Nat×Nat) (fun s=>S.length-s.1) (fun s fr F=>s.1<=S.length/\RI s.2.1 s.2.2.1 (EV.drop s.1)=OH S/\s.2.1.length<=s.1/\s.2.2.1.length<=s.1/\
    fr 2=.slice s.2.2.2.2.1 s.2.1.length s.2.2.2.2.2.2.1/\fr 3=.slice s.2.2.2.2.2.1 s.2.2.1.length s.2.2.2.2.2.2.2/\fr 8=.map (some E.length)/\fr 37=.slice (Sa G.length) S.length S.length/\fr 38=Vi S.length/\fr 39=Vi s.1/\
    FSt H EV G.length E.length s.2.1 s.2.2.1 s.2.2.2.1 s.2.2.2.2.1 s.2.2.2.2.2.1 s.2.2.2.2.2.2.1 s.2.2.2.2.2.2.2 F) (0,[],[],[],none,none,0,0)
    ⟨Nw _,by rw [O1];exact a0.symm,Nd _,Nd _,(by simp only [g2,Ns,FB,Nat.reduceEqDiff]),(by simp only [g3,Ns,FB,Nat.reduceEqDiff]),rfl,rfl,rfl,by rfl,⟨by rw [NV];rfl,by rw [NQ ay];exact s2,.inl ⟨rfl,rfl,rfl⟩,.inl ⟨rfl,rfl,rfl⟩,fun a b h=>(by cases h),fun j I=>by rw [NQ (by omega)];exact J j I,by simp,fun e=>rfl,fun x hx=>(Ox hx).elim,fun _=>rfl,fun _=>rfl⟩⟩ ?_
   rintro ⟨i,kr,tr,es,kp,tp,kc,tc⟩ bo F ⟨a6,l,a8,be,f2,f3,f8,u,m,w,st⟩ aa
   simp only at a6 l a8 be f2 f3 w st
   rw [NU N6l.eq_1]
   refine NK ?_
   by_cases q:i<S.length
   ·have y:i<EV.length:=by omega
    have P:Sl F encE 7 (Sa G.length) EV:=Sl.row NZ st.ev
    have C:=fun X=>(P.app X).loadCells NZ y
    have n:∀(c:Nat) (k:IntKind) (H1:NE),Z5 7 (.slice (Sa G.length) S.length c) (.int k (i:Int)) H1=some (.pointer (some (Zv (Sa G.length) 7 i)),H1):=fun c k H1=>by
     rw [<-aj];exact P.idx y
    have ag:IntKind.i64.wrap ((i:Int)+1)=((i+1:Nat):Int):=OD (by omega)
    have ak:gt EV i∈EV:=QR y
    have a4:EV.drop i=gt EV i::EV.drop (i+1):=by rw [Ow y,PW y]
    rw [a4] at l
    have f:=st.rel (gt EV i)
    generalize hex:gt EV i=e at *
    have hk:U0 (.ints [.i64,.i64,.u8]) (.agg #[Vi e.item,Vi e.place,.int .u8 e.kind])=true:=Oa4 (k:=RD e)
    have g:=YO (vv:=vI) Oa5 (RD e) es 0
    have ap:kS (RD e)=.agg #[Vi e.item,Vi e.place,.int .u8 e.kind]:=rfl
    rw [ap] at g
    have d:=Nqg (RD e) es 0
    have Z:∀X,NH (F++X) E.length=.map (TB kS vI es):=fun X=>by rw [NQ st.len];exact st.mp
    have B:lim<=F.length:=by have:=st.len;omega
    have A:lim<=E.length:=by omega
    have N:∀(em:List (Value×Value)),em=TB kS vI (Wz (RD e) e.time es)->
      ∃G1,(∀X:NE,(F++X).set E.length (.map em)=G1++X)/\(∀Y,NH (G1++Vc (encE e)::Y) F.length=Vc (encE e))/\∃G',PQ lim none 7 56 false (.slice kp kr.length kc) (.slice (Sa (G1.length+2)) 1 1) (G1++[Vc (encE e),Vc [Vi e.item,Vi e.place,.int .u8 e.kind],Vc (encE e)])=some (.slice (Sa (G1.length+3)) (kr.length+1) (loose 7),G'++[])/\
       FSt H EV G.length E.length (e::kr) tr (Wz (RD e) e.time es) (Sa (G1.length+3)) tp (loose 7) tc (G'++[]):=by
     intro em a5
     subst a5
     obtain ⟨G1,e1,G',e2,bm,l1⟩:=st.kept hl (by omega) (by omega) e ak (by omega) (Vc (encE e)) (Vc [Vi e.item,Vi e.place,.int .u8 e.kind])
     exact ⟨G1,e1,fun Y=>by rw [<-l1];exact NV,G',e2,bm⟩
    obtain ⟨GT,ax,bn⟩:=st.twice hl (by omega) (by omega) e (by omega) (Vc (encE e)) (Vc [Vi e.item,Vi e.place,.int .u8 e.kind])
    cases hc:fk (RD e) es 0 with
    | none=>
      rw [hc] at g d
      simp only [Ou] at g d
      have r:=Njz (v':=e.time) hc
      have htw:UQ e kr=false:=by
       unfold UQ
       rw [<-d] at f
       cases hq:UB e kr with
       | none=>rfl
       | some z=>rw [hq] at f;cases f
      obtain ⟨G1,e1,R1,G',e2,fin⟩:=N (TB kS vI es++[(.agg #[Vi e.item,Vi e.place,.int .u8 e.kind],Vi e.time)]) (by rw [<-r];simp only [TB,O0,N3,List.map_nil];rfl)
      simp only [n56,r56,f2,f3,f8,u,m,w,NN,q,n,C,B,A,NZ,QZ,Rz,Ry,Rx,Rw,Rv,QY,NI,NF,ag,Z,hk,g,e1,R1,e2,SB,seval,NC,NJ,NG,NR,reduceCtorEq,NB,place,NA,ND]
      exact aa (i+1,e::kr,tr,Wz (RD e) e.time es,Sa (G1.length+3),tp,loose 7,tc) _ _ ⟨by simp only;omega,by rw [<-l,RI,htw];rfl,by simp only [Nm];omega,by simp only;omega,(by simp only [Nm,FB,Nat.reduceEqDiff]),f3,f8,u,m,rfl,fin⟩ (by simp only;omega)
    | some x=>
      obtain ⟨j,v⟩:=x
      rw [hc] at g d
      simp only [Nv] at g d
      have r:=(Njy (v':=e.time) hc).2.2
      rw [Nat.sub_zero] at r
      rw [<-d] at f
      cases hq:UB e kr with
      | none=>rw [hq] at f;cases f
      | some z=>
      rw [hq] at f
      have bg:v=z.time:=by simpa using f
      have hz:=an z (st.sub z (Ne5 hq).1)
      have bs:=an e ak
      have bf:vI v=Vi z.time:=by rw [bg];rfl
      rw [bf] at g
      have wd:IntKind.i64.wrap (e.time-z.time)=e.time-z.time:=NT (by omega) (by omega)
      by_cases hd:e.time-z.time<=10
      ·have htw:UQ e kr=true:=Yw.mpr ⟨z,hq,hd⟩
       simp only [n56,r56,f2,f3,f8,u,m,w,NN,q,n,C,B,A,NZ,QZ,Rz,Ry,Rx,Rw,Rv,QY,NI,NF,ag,Z,hk,g,wd,N9 hd,ax,SB,seval,NC,NJ,NG,NR,reduceCtorEq,NB,place,NA,ND]
       exact aa (i+1,kr,e::tr,es,kp,Sa (F.length+3),kc,loose 7) _ _ ⟨by simp only;omega,by rw [<-l,RI,htw];rfl,by simp only;omega,by simp only [Nm];omega,f2,(by simp only [Nm,FB,Nat.reduceEqDiff]),f8,u,m,rfl,bn⟩ (by simp only;omega)
      ·have htw:UQ e kr=false:=by unfold UQ;rw [hq];exact N5 hd
       obtain ⟨G1,e1,R1,G',e2,fin⟩:=N ((TB kS vI es).set j (.agg #[Vi e.item,Vi e.place,.int .u8 e.kind],Vi e.time)) (by rw [<-r];simp only [TB,List.map_set];rfl)
       simp only [n56,r56,f2,f3,f8,u,m,w,NN,q,n,C,B,A,NZ,QZ,Rz,Ry,Rx,Rw,Rv,QY,NI,NF,ag,Z,hk,g,wd,Nq hd,e1,R1,e2,SB,seval,NC,NJ,NG,NR,reduceCtorEq,NB,place,NA,ND]
       exact aa (i+1,e::kr,tr,Wz (RD e) e.time es,Sa (G1.length+3),tp,loose 7,tc) _ _ ⟨by simp only;omega,by rw [<-l,RI,htw];rfl,by simp only [Nm];omega,by simp only;omega,(by simp only [Nm,FB,Nat.reduceEqDiff]),f3,f8,u,m,rfl,fin⟩ (by simp only;omega)
   ·obtain rfl:i=S.length:=by omega
    rw [<-aj,Qq] at l
    have ab:kr.reverse=(OH S).1:=P9 Prod.fst l
    have ae:tr.reverse=(OH S).2:=P9 Prod.snd l
    have ko:=st.ko
    have to:=st.to
    have lk:kr.length=(OH S).1.length:=by rw [<-ab,List.length_reverse]
    have lt:tr.length=(OH S).2.length:=by rw [<-ae,List.length_reverse]
    rw [ab] at ko
    rw [ae] at to
    rw [lk] at f2
    rw [lt] at f3
    simp only [n56,r56,f2,f3,m,w,NN,q,SB,seval,NC,NJ,NG,NR,reduceCtorEq,NB,place,NA,ND]
    refine hQ F kp kc tp tc (ko.le (by omega)) (to.le (by omega)) st.ne ⟨by have:=st.len;omega,fun j I _=>st.old j I⟩ (fun h=>st.kn (List.reverse_eq_nil_iff.1 (ab.trans h))) (fun h=>st.tn (List.reverse_eq_nil_iff.1 (ae.trans h)))
theorem MG [OB] {mp:Bool} {lim c:Nat} {p:Option Addr} {S:List Ev} {H:NE} {Q:Value->NE->Prop} (hs:Sl H QL 6 p S) (hn:S.length<2 ^ 63) :
  NL Ef mp lim 55 [.slice p S.length c] H Q=Q (.bool (decide (QV S))) H:=NL.eqF (by rw [Nti hs hn];exact ⟨rfl,rfl⟩)
theorem Order_ok [OB] (a:∀as H,OB.eff 36 as H=none) {lim c:Nat} {p:Option Addr} {S:List Ev} {H:NE} {Q:Value->NE->Prop} (hs:Sl H QL 6 p S) (hS:QV S) (hl:lim<=H.length)
  (e:∀G kp kc,Own H.length G encE 7 kp kc (OH S).1->Chg [] H G->((OH S).1=[]->kp=none)->Q (.tuple #[.slice kp (OH S).1.length kc,Vi 0]) (G++[])) :
  NL Ef false lim 36 [.slice p S.length c] H Q:=by
 refine Nrv (by decide) a e36 rfl ?_
 rw [b36,c36]
 have hr:=fun (X:NE) (mp:Bool) (lim:Nat) (Q:Value->NE->Prop)=>MG (mp:=mp) (lim:=lim) (Q:=Q) (c:=c) (hs.app X) (by have:=hS.1;omega)
 simp only [n36,r36,hr,Np hS,SB,seval,NC,NJ,NG,NR,reduceCtorEq,NB,place,NA,ND]
 rw [Nb]
 refine Nc9 hs hS hl fun G kp kc tp tc h1 h2 f b d g=>?_
 simp only [n36,r36,SB,seval,NC,NJ,NG,NR,reduceCtorEq,NB,place,NA,ND]
 exact e G kp kc h1 b d
theorem Order_no [OB] (a:∀as H,OB.eff 36 as H=none) {lim c:Nat} {p:Option Addr} {S:List Ev} {H:NE} {Q:Value->NE->Prop} (hs:Sl H QL 6 p S) (hn:S.length<2 ^ 63) (hS:¬QV S) :
  NL Ef false lim 36 [.slice p S.length c] H Q=Q (.tuple #[Vz,Vi 2]) H:=by
 refine NL.eq ?_
 refine Nrv (by decide) a e36 rfl ?_
 rw [b36,c36]
 have hr:=fun (X:NE) (mp:Bool) (lim:Nat) (Q:Value->NE->Prop)=>MG (mp:=mp) (lim:=lim) (Q:=Q) (c:=c) (hs.app X) hn
 simp only [n36,r36,hr,N5 hS,SB,seval,NC,NJ,NG,NR,reduceCtorEq,NB,place,NA,ND]
 exact Nb H
theorem Doubled_ok [OB] (a:∀as H,OB.eff 27 as H=none) {lim c:Nat} {p:Option Addr} {S:List Ev} {H:NE} {Q:Value->NE->Prop} (hs:Sl H QL 6 p S) (hS:QV S) (hl:lim<=H.length)
  (e:∀G tp tc,Own H.length G encE 7 tp tc (OH S).2->Chg [] H G->((OH S).2=[]->tp=none)->Q (.tuple #[.slice tp (OH S).2.length tc,Vi 0]) (G++[])) :
  NL Ef false lim 27 [.slice p S.length c] H Q:=by
 refine Nrv (by decide) a e27 rfl ?_
 rw [b27,c27]
 have hr:=fun (X:NE) (mp:Bool) (lim:Nat) (Q:Value->NE->Prop)=>MG (mp:=mp) (lim:=lim) (Q:=Q) (c:=c) (hs.app X) (by have:=hS.1;omega)
 simp only [n27,r27,hr,Np hS,SB,seval,NC,NJ,NG,NR,reduceCtorEq,NB,place,NA,ND]
 rw [Nb]
 refine Nc9 hs hS hl fun G kp kc tp tc h1 h2 f b g d=>?_
 simp only [n27,r27,SB,seval,NC,NJ,NG,NR,reduceCtorEq,NB,place,NA,ND]
 exact e G tp tc h2 b d
theorem Doubled_no [OB] (a:∀as H,OB.eff 27 as H=none) {lim c:Nat} {p:Option Addr} {S:List Ev} {H:NE} {Q:Value->NE->Prop} (hs:Sl H QL 6 p S) (hn:S.length<2 ^ 63) (hS:¬QV S) :
  NL Ef false lim 27 [.slice p S.length c] H Q=Q (.tuple #[Vz,Vi 2]) H:=by
 refine NL.eq ?_
 refine Nrv (by decide) a e27 rfl ?_
 rw [b27,c27]
 have hr:=fun (X:NE) (mp:Bool) (lim:Nat) (Q:Value->NE->Prop)=>MG (mp:=mp) (lim:=lim) (Q:=Q) (c:=c) (hs.app X) hn
 simp only [n27,r27,hr,N5 hS,SB,seval,NC,NJ,NG,NR,reduceCtorEq,NB,place,NA,ND]
 exact Nb H
end Go.Proofs.YtkppjkkkdpcgiaaGreat.Fn


namespace Go.Proofs.YtkppjkkkdpcgiaaGreat.Fn
open Go.AM Go.AM.Sym Go.Net Go.Scan
def TF (a:An):List Value:=[.int .u8 a.kind,Vi a.ev,Vi a.other,Vi a.place,Vi a.mins]
theorem RJ (a:An):(TF a).length=5:=id rfl
theorem N8i {a:An}:(TF a)[1]? = some (Vi a.ev):=id rfl
theorem N8h {a:An}:(TF a)[2]? = some (Vi a.other):=id rfl
def Naj (b:Bool):List Value:=[.bool b]
theorem Zu (b:Bool):(Naj b).length=1:=id rfl
theorem Nqp {x:Stp}:(enc3 x)[0]? = some (Vi x.1):=id rfl
theorem Nj1 {x:Stp}:(enc3 x)[1]? = some (Vi x.2.1):=id rfl
theorem N1r {x:Stp}:(enc3 x)[2]? = some (Vi x.2.2):=id rfl
def Tt (pe:Option Addr) (n ce:Nat) (q:Option Addr) (nk cq:Nat) (r:Option Addr) (ns cr:Nat) (c:Int) (pl:Option Addr) (nl cl:Nat):List Value:=[.slice pe n ce,.slice q nk cq,.slice r ns cr,Vi c,.slice pl nl cl]
section
variable {pe q r pl:Option Addr} {n ce nk cq ns cr nl cl:Nat} {c:Int}
theorem PO:(Tt pe n ce q nk cq r ns cr c pl nl cl).length=5:=id rfl
theorem Sr:(Tt pe n ce q nk cq r ns cr c pl nl cl)[0]? = some (.slice pe n ce):=id rfl
theorem SC:(Tt pe n ce q nk cq r ns cr c pl nl cl)[1]? = some (.slice q nk cq):=id rfl
theorem S9:(Tt pe n ce q nk cq r ns cr c pl nl cl)[2]? = some (.slice r ns cr):=id rfl
theorem Sz:(Tt pe n ce q nk cq r ns cr c pl nl cl)[3]? = some (Vi c):=id rfl
theorem Sb:(Tt pe n ce q nk cq r ns cr c pl nl cl)[4]? = some (.slice pl nl cl):=id rfl
end
theorem N64 (n:Nat):(List.range (n*1)).map (fun j=>[Value.bool false].getD (j % 1) undef)=(List.replicate n false).flatMap Naj:=by
 have h1:∀j,[Value.bool false].getD (j % 1) undef=Value.bool false:=fun j=>by rw [Nat.mod_one];rfl
 simp only [h1]
 rw [List.map_const',Pq,Pa]
 induction n with
 | zero=>rfl
 | succ n ih=>
   rw [Pc,Pc,Oy,<-ih]
   rfl
def YJ (n:Nat) (ks:List Int) (i:Nat):List Bool:=(ks.take i).foldl (fun l k=>l.set k.toNat true) (List.replicate n false)
def toI (n:Nat) (ss:List Stp) (i:Nat):List Stp:=(ss.take i).foldl (fun l s=>l.set s.2.1.toNat s) (List.replicate n (0,0,0))
theorem Nbm {n:Nat} {ks:List Int} {i:Nat}:(YJ n ks i).length=n:=by unfold YJ;rw [Nbn,Oo]
theorem Nit {n:Nat} {ks:List Stp} {i:Nat}:(toI n ks i).length=n:=by unfold toI;rw [Niu,Oo]
theorem Nu6 {n:Nat} {ks:List Int}:YJ n ks ks.length=TW n ks:=by unfold YJ TW;rw [Oj]
theorem N22 {n:Nat} {ks:List Stp}:toI n ks ks.length=VY n ks:=by unfold toI VY;rw [Oj]
theorem Np6 {n:Nat} {ks:List Int} {i:Nat} (h:i<ks.length):YJ n ks (i+1)=(YJ n ks i).set (gt ks i).toNat true:=by
 unfold YJ
 rw [N2 h,List.foldl_append,PW h];rfl
theorem Nx0 {n:Nat} {ks:List Stp} {i:Nat} (h:i<ks.length):toI n ks (i+1)=(toI n ks i).set (gt ks i).2.1.toNat (gt ks i):=by
 unfold toI
 rw [N2 h,List.foldl_append,PW h];rfl
theorem Nob [OB] {lim n ce cq cr nl cl:Nat} {pe q r pl:Option Addr} {ks:List Int} {ss:List Stp} {c:Int} {H:NE} {Q:Value->NE->Prop} (W:Sl H encI 1 q ks) (hr:Sl H enc3 3 r ss) (hn:n<2 ^ 30) (V:ks.length<2 ^ 40) (Y:ss.length<2 ^ 40) (hl:lim<=H.length)
  (hk:∀k∈ks,0<=k/\k<n) (hs:∀s∈ss,Tf n s)
  (U:∀G A B,Chg [] H G->H.length<=A->H.length<=B->NH G A=Vc ((TW n ks).flatMap Naj)->NH G B=Vc ((VY n ss).flatMap enc3)->Q (.tuple #[.slice (Sa A) n n,.slice (Sa B) n n]) G) :
  NL E false lim 74 [.agg (Tt pe n ce q ks.length cq r ss.length cr c pl nl cl).toArray] H Q:=by
 refine RG (by decide) e74 rfl ?_
 rw [b74,c74]
 have z1:=N64 n
 have z3:=Nxm n
 have R:=N9 (show 0<=(n:Int)/\(n:Int)*1<=35184372088832/\(n:Int)<4611686018427387904 by omega)
 have S:=N9 (show 0<=(n:Int)/\(n:Int)*24<=35184372088832/\(n:Int)<4611686018427387904 by omega)
 simp only [n74,r74,PO,Sr,SC,S9,Sz,Sb,NI,R,S,z1,z3,SB,seval,NC,NJ,NG,NR,reduceCtorEq,NB,place,NA,ND]
 refine NP (fun i=>ks.length-i) (fun i fr G=>i<=ks.length/\fr 1=Vp H.length/\fr 4=.slice (Sa (H.length+1)) n n/\fr 5=.slice (Sa (H.length+2)) n n/\fr 20=.slice q ks.length cq/\fr 21=Vi ks.length/\fr 22=Vi i/\
   Chg [] H G/\NH G H.length=Vc (Tt pe n ce q ks.length cq r ss.length cr c pl nl cl)/\NH G (H.length+1)=Vc ((YJ n ks i).flatMap Naj)/\NH G (H.length+2)=Vc ((toI n ss 0).flatMap enc3)) 0
  ⟨Nw _,rfl,rfl,rfl,rfl,rfl,by rfl,Chg.refl.app,by rw [NV];rfl,by rw [OC];rfl,by rw [OC];rfl⟩ ?_
 intro i fr G ⟨hi,l,o,t,y,z,J,f,P,u,hB⟩ O
 rw [NU N6b.eq_1]
 refine NK ?_
 have L:=f.len
 by_cases b:i<ks.length
 ·have N:=f.sl W (fun a _ _ h=>(by cases h))
  obtain ⟨m,M⟩:∃m:Nat,gt ks i=m:=⟨(gt ks i).toNat,by have:=hk _ (QR b);omega⟩
  have e:m<n:=by have:=hk _ (QR b);omega
  have g:=Ndg N b
  rw [M] at g
  have d:=fun c (k:IntKind) (H1:NE)=>N.idx (c:=c) (k:=k) (H1:=H1) b
  have I:IntKind.i64.wrap ((i:Int)+1)=((i+1:Nat):Int):=OD (by omega)
  have Z:Sl G Naj 1 (Sa (H.length+1)) (YJ n ks i):=Sl.row Zu u
  have v:=fun c (k:IntKind) (H1:NE)=>Z.idx (c:=c) (k:=k) (H1:=H1) (i:=m) (by rw [Nbm];exact e)
  rw [Nbm] at v
  obtain ⟨G2,e2,h2,j⟩:=Na5 (lim:=lim) (p:=Sa (H.length+1)) Zu rfl u (by omega) (i:=m) (by rw [Nbm];exact e) true
  simp only [Naj] at e2
  have F:(YJ n ks i).set m true=YJ n ks (i+1):=by rw [Np6 b,M];rfl
  rw [F] at h2
  simp only [n74,r74,l,o,t,y,z,J,NN,b,d,g,v,e2,I,SB,seval,NC,NJ,NG,NR,reduceCtorEq,NB,place,NA,ND]
  exact O (i+1) _ _ ⟨by omega,l,o,t,y,z,rfl,(f.mut j (.inr (by omega))).app,by rw [NQ (by rw [j.len];exact NM P)];exact j.cells P (by omega),by rw [NQ (NM h2)];exact h2,by rw [NQ (by rw [j.len];exact NM hB)];exact j.cells hB (by omega)⟩ (by omega)
 obtain rfl:i=ks.length:=by omega
 rw [Nu6] at u
 have xR:=fun X=>(OJ.refl.app (X:=X)).cells P
 simp only [n74,r74,l,o,t,y,z,J,NN,b,xR,PO,Sr,SC,S9,Sz,Sb,NI,SB,seval,NC,NJ,NG,NR,reduceCtorEq,NB,place,NA,ND]
 refine NP (fun i=>ss.length-i) (fun i fr G=>i<=ss.length/\fr 1=Vp H.length/\fr 4=.slice (Sa (H.length+1)) n n/\fr 5=.slice (Sa (H.length+2)) n n/\fr 32=.slice r ss.length cr/\fr 33=Vi ss.length/\fr 34=Vi i/\
   Chg [] H G/\NH G (H.length+1)=Vc ((TW n ks).flatMap Naj)/\NH G (H.length+2)=Vc ((toI n ss i).flatMap enc3)) 0
  ⟨Nw _,l,o,t,rfl,rfl,by rfl,f.app,(OJ.refl.app).cells u,(OJ.refl.app).cells hB⟩ ?_
 intro i fr G ⟨hi,l,o,t,C,D,K,f,u,hB⟩ O
 rw [NU N6c.eq_1]
 refine NK ?_
 have L:=f.len
 by_cases b:i<ss.length
 ·have N:=f.sl hr (fun a _ _ h=>(by cases h))
  have T:=hs _ (QR b)
  unfold Tf at T
  obtain ⟨m,M⟩:∃m:Nat,(gt ss i).2.1=m:=⟨(gt ss i).2.1.toNat,by omega⟩
  have e:m<n:=by omega
  have g:=fun X=>(N.app X).loadCells OT b
  have d:=fun c (k:IntKind) (H1:NE)=>N.idx (c:=c) (k:=k) (H1:=H1) b
  have I:IntKind.i64.wrap ((i:Int)+1)=((i+1:Nat):Int):=OD (by omega)
  have sB:Sl G enc3 3 (Sa (H.length+2)) (toI n ss i):=Sl.row OT hB
  have w:=fun c (k:IntKind) (H1:NE)=>sB.idx (c:=c) (k:=k) (H1:=H1) (i:=m) (by rw [Nit];exact e)
  rw [Nit] at w
  obtain ⟨G2,e2,h2,j⟩:=Na5 (lim:=lim) (p:=Sa (H.length+2)) OT rfl hB (by omega) (i:=m) (by rw [Nit];exact e) (gt ss i)
  have F:(toI n ss i).set m (gt ss i)=toI n ss (i+1):=by rw [Nx0 b,M];rfl
  rw [F] at h2
  have e1:=Nj1 (x:=gt ss i)
  rw [M] at e1
  simp only [n74,r74,l,o,t,C,D,K,NN,b,d,g,w,e1,e2,I,OT,NI,NF,show lim<=G.length by omega,SB,seval,NC,NJ,NG,NR,reduceCtorEq,NB,place,NA,ND]
  exact O (i+1) _ _ ⟨by omega,l,o,t,C,D,rfl,(f.mut j (.inr (by omega))).app,by rw [NQ (by rw [j.len];exact NM u)];exact j.cells u (by omega),by rw [NQ (NM h2)];exact h2⟩ (by omega)
 obtain rfl:i=ss.length:=by omega
 rw [N22] at hB
 simp only [n74,r74,l,o,t,C,D,K,NN,b,SB,seval,NC,NJ,NG,NR,reduceCtorEq,NB,place,NA,ND]
 exact U _ _ _ f.app (by omega) (by omega) ((OJ.refl.app).cells u) ((OJ.refl.app).cells hB)
def atE (es:List Ev) (d:Ev) (i:Nat):Prop:=Ne7 (gt es i) (VA (gt es i) (es.drop (i+1))) d
instance (es:List Ev) (d:Ev) (i:Nat):Decidable (atE es d i):=by unfold atE;infer_instance
theorem Nqc {ks:List Int} (h:ks≠[]):ks.getLast? = some (gt ks (ks.length-1)):=by
 have hl:0<ks.length:=List.length_pos_iff.2 h
 rw [List.getLast?_eq_getElem?,Nf (by omega),PW (by omega)]
def Vs (es:List Ev):Prop:=∀e∈es,0<=e.time/\e.time<=OA
theorem N38 [OB] {lim ce cq cr nl cl:Nat} {pe q r pl:Option Addr} {es:List Ev} {ks:List Int} {ns:Nat} {c now:Int} {H:NE} {Q:Value->NE->Prop} (he:Sl H encE 7 pe es) (z:Sl H encI 1 q ks) (hn:es.length<2 ^ 30) (B:ks.length<2 ^ 40) (hl:lim<=H.length) (hk:∀k∈ks,0<=k/\k<es.length) (D:Vs es) (u:0<=now/\now<=OA)
  (d:∀G p A,Chg [] H G->Sl G TF 5 p (Uz es ks now)->Q (.slice p (Uz es ks now).length A) G) :
  NL E false lim 77 [.agg (Tt pe es.length ce q ks.length cq r ns cr c pl nl cl).toArray,Vi now] H Q:=by
 refine RG (by decide) e77 rfl ?_
 rw [b77,c77]
 by_cases w:ks=[]
 ·subst w
  simp only [n77,r77,PO,Sr,SC,S9,Sz,Sb,NI,Ns,SB,seval,NC,NJ,NG,NR,reduceCtorEq,NB,place,NA,ND]
  exact d _ none 0 Chg.refl.app rfl
 have C:0<ks.length:=List.length_pos_iff.2 w
 obtain ⟨m,y⟩:∃m:Nat,gt ks (ks.length-1)=m:=⟨(gt ks (ks.length-1)).toNat,by have:=hk _ (QR (show ks.length-1<ks.length by omega));omega⟩
 have g:m<es.length:=by have:=hk _ (QR (show ks.length-1<ks.length by omega));omega
 have t:=Nqc w
 rw [y] at t
 have j:¬((ks.length:Nat):Int)=0:=by omega
 have l:IntKind.i64.wrap ((ks.length:Int)-1)=((ks.length-1:Nat):Int):=by rw [NT (by omega) (by omega)];omega
 have b:=fun X=>Ndg z (i:=ks.length-1) (by omega) X
 rw [y] at b
 have a:=fun c (k:IntKind) (H1:NE)=>z.idx (c:=c) (k:=k) (H1:=H1) (i:=ks.length-1) (by omega)
 have f:=fun X=>(he.app X).loadCells NZ g
 have e:=fun c (k:IntKind) (H1:NE)=>he.idx (c:=c) (k:=k) (H1:=H1) g
 have x:=D _ (QR g)
 unfold OA at x u
 have n:IntKind.i64.wrap (now-(gt es m).time)=now-(gt es m).time:=NT (by omega) (by omega)
 have F:((m:Nat):Int).toNat=m:=Od m
 have o:Uz es ks now=if (gt es m).kind=4\/now-(gt es m).time<=20160 then [] else [⟨7,(m:Int),0,(gt es m).place,now-(gt es m).time⟩]:=by unfold Uz;rw [t];rfl
 by_cases s:(gt es m).kind=4
 ·rw [Ni (.inl s)] at o
  rw [o] at d
  simp only [n77,r77,PO,Sr,SC,S9,Sz,Sb,NZ,QZ,Rz,Ry,Rx,Rw,Rv,QY,NI,Nq j,l,b,a,f,e,NF,hl,n,N9 s,SB,seval,NC,NJ,NG,NR,reduceCtorEq,NB,place,NA,ND]
  exact d _ none 0 Chg.refl.app rfl
 by_cases v:now-(gt es m).time<=20160
 ·rw [Ni (.inr v)] at o
  rw [o] at d
  simp only [n77,r77,PO,Sr,SC,S9,Sz,Sb,NZ,QZ,Rz,Ry,Rx,Rw,Rv,QY,NI,Nq j,l,b,a,f,e,NF,hl,n,Nq s,N9 v,SB,seval,NC,NJ,NG,NR,reduceCtorEq,NB,place,NA,ND]
  exact d _ none 0 Chg.refl.app rfl
 rw [Ng (by rintro (h | h);exact s h;exact v h)] at o
 rw [o] at d
 simp only [n77,r77,PO,Sr,SC,S9,Sz,Sb,NZ,QZ,Rz,Ry,Rx,Rw,Rv,QY,NI,Nq j,l,b,a,f,e,NF,hl,n,Nq s,Nq v,SB,seval,NC,NJ,NG,NR,reduceCtorEq,NB,place,NA,ND]
 exact d _ _ _ Chg.refl.app (Sl.row (ro:=false) RJ (by rw [OC];rfl))
theorem Nns [OB] {mp:Bool} {lim B:Nat} {x y:Ev} {o:Bool} {H:NE} {Q:Value->NE->Prop} (hB:NH H B=.cells o (encE x)) :
  NL E mp lim 110 [.agg (encE y).toArray,Vp B] H Q=Q (.bool (decide (ZF y x))) H:=by
 refine pc (by decide) Oei rfl rfl ?_
 rw [Ofn,N9b]
 have a:=fun X=>(OJ.refl.app (X:=X)).cells hB
 by_cases h1:y.place=x.place
 ·by_cases h2:y.kind=x.kind
  ·simp only [n110,N7f,a,NZ,QZ,Rz,Ry,Rx,Rw,Rv,QY,NI,NF,N9 h1,N9 h2,N9 (show ZF y x from ⟨h1,h2⟩),SB,seval,NC,NJ,NG,NR,reduceCtorEq,NB,place,NA,ND]
  ·simp only [n110,N7f,a,NZ,QZ,Rz,Ry,Rx,Rw,Rv,QY,NI,NF,N9 h1,Nq h2,Nq (fun h:ZF y x=>h2 h.2),SB,seval,NC,NJ,NG,NR,reduceCtorEq,NB,place,NA,ND]
 ·simp only [n110,N7f,a,NZ,QZ,Rz,Ry,Rx,Rw,Rv,QY,NI,NF,Nq h1,Nq (fun h:ZF y x=>h1 h.1),SB,seval,NC,NJ,NG,NR,reduceCtorEq,NB,place,NA,ND]
def N2x:ACode:=Sm (Sm (Sm (Sm (Sm c76))))
theorem N5a:c76=.seq (Ur c76) (.seq (Ur (Sm c76)) (.seq (Ur (Sm (Sm c76))) (.seq (Ur (Sm (Sm (Sm c76)))) (.seq (Ur (Sm (Sm (Sm (Sm c76))))) N2x)))):=rfl
def Nbw (x:Ev) (i:Nat) (lv:Int) (tw:List Ev):List An:=(tw.filter fun y=>Ne7 x lv y).map (Nvv x i)
theorem Nvu {x:Ev} {i j:Nat} {lv:Int} {tw:List Ev} (h:j<tw.length):Nbw x i lv (tw.take (j+1))=if Ne7 x lv (gt tw j) then Nbw x i lv (tw.take j)++[Nvv x i (gt tw j)] else Nbw x i lv (tw.take j):=by
 unfold Nbw
 rw [N2 h,List.filter_append,<-PW h]
 by_cases a:Ne7 x lv (gt tw j)
 ·rw [Ni a,Pz (by simpa using a),List.filter_nil,O0];rfl
 ·rw [Ng a,Pk (by simpa using a),List.filter_nil,Nb]
theorem N1v {x:Ev} {i:Nat} {lv:Int} {tw:List Ev}:(Nbw x i lv tw).length<=tw.length:=by
 unfold Nbw;rw [Nu];exact Q0 ..
theorem Nsm [OB] {lim B ct i:Nat} {pt:Option Addr} {x:Ev} {tw:List Ev} {lv:Int} {H G:NE} {fr:Nat->Value} {Q:Value->NE->Prop} (hB:NH G B=Vc (encE x)) (htw:Sl H encE 7 pt tw) (u:Chg [] H G) (Z:H.length<=B) (hn:tw.length<2 ^ 30) (hl:lim<=H.length) (ht:Vs tw) (hx:0<=x.time/\x.time<=OA)
  (f1:fr 1=.slice pt tw.length ct) (f2:fr 2=Vi i) (S:fr 7=Vp B) (T:fr 8=.func (.func 110) #[] #[Vp B]) (f9:fr 9=Vi lv)
  (hQ:∀G p F,Chg [] H G->Sl G TF 5 p (Nbw x i lv tw)->Q (.slice p (Nbw x i lv tw).length F) G) :
  PV E a76 lim [.code N2x] fr G Q:=by
 unfold N2x
 refine NK ?_
 simp only [Ur,Sm,c76,n76,r76,f1,f2,S,T,f9,SB,seval,NC,NJ,NG,NR,reduceCtorEq,NB,place,NA,ND]
 refine NP (fun j:Nat×Option Addr×Nat=>tw.length-j.1) (fun j fr G=>j.1<=tw.length/\fr 2=Vi i/\fr 7=Vp B/\fr 8=.func (.func 110) #[] #[Vp B]/\fr 9=Vi lv/\fr 12=.slice j.2.1 (Nbw x i lv (tw.take j.1)).length j.2.2/\fr 37=.slice pt tw.length ct/\fr 38=Vi tw.length/\fr 39=Vi j.1/\
   Chg [] H G/\NH G B=Vc (encE x)/\Own (B+1) G TF 5 j.2.1 j.2.2 (Nbw x i lv (tw.take j.1))) (0,none,0)
  ⟨Nw _,f2,S,T,f9,rfl,rfl,rfl,by rfl,u.app,(OJ.refl.app).cells hB,.nil⟩ ?_
 rintro ⟨j,p,F⟩ fr G ⟨hj,q,r,s,t,b,d,e,m,u,hB,o⟩ K
 simp only at hj b m o K
 rw [NU N6a.eq_1]
 refine NK ?_
 have V:=u.len
 by_cases f:j<tw.length
 case neg=>
  obtain rfl:j=tw.length:=by omega
  rw [Oj] at b o
  simp only [n76,r76,q,r,s,t,b,d,e,m,NN,f,SB,seval,NC,NJ,NG,NR,reduceCtorEq,NB,place,NA,ND]
  exact hQ _ _ _ u.app ((o.sl RJ).app _)
 have Y:=u.sl htw (fun a _ _ h=>(by cases h))
 have z:=fun X=>(Y.app X).loadCells NZ f
 have l:=fun c (k:IntKind) (H1:NE)=>Y.idx (c:=c) (k:=k) (H1:=H1) f
 have A:IntKind.i64.wrap ((j:Int)+1)=((j+1:Nat):Int):=OD (by omega)
 have w:lim<=G.length:=by omega
 have O:=NM hB
 have g:=Nvu (x:=x) (i:=i) (lv:=lv) f
 have U:(Nbw x i lv (tw.take j)).length<=tw.length:=Qc N1v (by rw [Ok];omega)
 have P:=ht _ (QR f)
 generalize gt tw j=y at *
 have n:=fun X=>(OJ.refl.app (X:=X)).cells hB
 have v:=fun X (mp:Bool) (lim:Nat) (Q:Value->NE->Prop)=>Nns (mp:=mp) (lim:=lim) (x:=x) (y:=y) (Q:=Q) (n X)
 by_cases D:ZF y x
 case neg=>
  rw [Ng (fun h=>D h.1)] at g
  rw [<-g] at b o
  simp only [n76,r76,q,r,s,t,b,d,e,m,NN,f,z,l,A,w,v,n,NZ,QZ,Rz,Ry,Rx,Rw,Rv,QY,NI,NF,ge_iff_le,N5 D,SB,seval,NC,NJ,NG,NR,reduceCtorEq,NB,place,NA,ND]
  exact K (j+1,p,F) _ _ ⟨by omega,q,r,s,t,b,d,e,rfl,u.app,(OJ.refl.app).cells hB,o.app _⟩ (by simp only;omega)
 by_cases I:x.time<=y.time
 case neg=>
  rw [Ng (fun h=>I h.2.1)] at g
  rw [<-g] at b o
  simp only [n76,r76,q,r,s,t,b,d,e,m,NN,f,z,l,A,w,v,n,NZ,QZ,Rz,Ry,Rx,Rw,Rv,QY,NI,NF,ge_iff_le,Np D,Nq I,SB,seval,NC,NJ,NG,NR,reduceCtorEq,NB,place,NA,ND]
  exact K (j+1,p,F) _ _ ⟨by omega,q,r,s,t,b,d,e,rfl,u.app,(OJ.refl.app).cells hB,o.app _⟩ (by simp only;omega)
 by_cases M:y.time<lv
 case neg=>
  rw [Ng (fun h=>M h.2.2)] at g
  rw [<-g] at b o
  simp only [n76,r76,q,r,s,t,b,d,e,m,NN,f,z,l,A,w,v,n,NZ,QZ,Rz,Ry,Rx,Rw,Rv,QY,NI,NF,ge_iff_le,Np D,N9 I,Nq M,SB,seval,NC,NJ,NG,NR,reduceCtorEq,NB,place,NA,ND]
  exact K (j+1,p,F) _ _ ⟨by omega,q,r,s,t,b,d,e,rfl,u.app,(OJ.refl.app).cells hB,o.app _⟩ (by simp only;omega)
 rw [Ni ⟨D,I,M⟩] at g
 unfold OA at hx P
 have R:IntKind.i64.wrap (y.time-x.time)=y.time-x.time:=NT (by omega) (by omega)
 obtain ⟨G2,e2,L,J,C,W,_⟩:=o.step (lim':=lim) (bytes:=40) (by omega) RJ (by decide) (Nvv x i y) (by unfold PU;omega) (by omega) (by omega) [Vc (encE y),Vc (TF (Nvv x i y))] (G.length+1) 1 (by rw [OC];rfl)
 have N:TF (Nvv x i y)=[.int .u8 6,Vi i,Vi 0,Vi x.place,Vi (y.time-x.time)]:=rfl
 rw [N] at e2
 simp only [n76,r76,q,r,s,t,b,d,e,m,NN,f,z,l,A,w,v,n,NZ,QZ,Rz,Ry,Rx,Rw,Rv,QY,NI,NF,ge_iff_le,Np D,N9 I,N9 M,R,e2,SB,seval,NC,NJ,NG,NR,reduceCtorEq,NB,place,NA,ND]
 exact K (j+1,Sa (G.length+2),loose 5) _ _ ⟨by omega,q,r,s,t,by rw [g,Nl];rfl,d,e,rfl,J [] H (by omega) u,by rw [C B O (fun a ha=>by have:=(o.block ha).1;omega)];exact hB,by rw [g];exact L⟩ (by simp only;omega)
theorem Nqs [OB] {lim ce cq cr nl cl ct nk ns i:Nat} {pe q r pl pt:Option Addr} {es tw:List Ev} {c:Int} {H:NE} {Q:Value->NE->Prop} (he:Sl H encE 7 pe es) (hce:Ua 7 ce es.length) (htw:Sl H encE 7 pt tw) (hi:i<es.length) (hn:es.length<2 ^ 30) (F:tw.length<2 ^ 30) (hl:lim<=H.length) (Z:Vs es) (I:Vs tw)
  (A:∀G p U,Chg [] H G->Sl G TF 5 p (QK es tw i)->Q (.slice p (QK es tw i).length U) G) :
  NL E false lim 76 [.agg (Tt pe es.length ce q nk cq r ns cr c pl nl cl).toArray,.slice pt tw.length ct,Vi i] H Q:=by
 refine RG (by decide) e76 rfl ?_
 rw [b76,N5a]
 have m:=fun X=>(he.app X).loadCells NZ hi
 have e:=fun c (k:IntKind) (H1:NE)=>he.idx (c:=c) (k:=k) (H1:=H1) hi
 have n:IntKind.i64.wrap ((i:Int)+1)=((i+1:Nat):Int):=OD (by omega)
 obtain ⟨q1,k1,x1,P,_,_,_⟩:=UR (vlo:=some (Vi ((i+1:Nat):Int))) (vhi:=none) (lo:=i+1) (hi:=es.length) he hce NZ (fun cap R=>by rw [Nq2 (by omega) (by omega),Od]) (by omega) (Nd _) (by omega)
 rw [Oj] at P
 simp only [Ur,Sm,c76,n76,r76,PO,Sr,SC,S9,Sz,Sb,NI,m,e,n,NF,hl,NZ,x1,SB,seval,NC,NJ,NG,NR,reduceCtorEq,NB,place,NA,ND]
 obtain ⟨D,M⟩:∃D,D=es.drop (i+1):=⟨_,rfl⟩
 have N:es.length-(i+1)=D.length:=by rw [M,Pw]
 rw [<-M] at P
 rw [N]
 have V:QK es tw i=Nbw (gt es i) i (VA (gt es i) D) tw:=by unfold QK Nbw;rw [M]
 rw [V] at A
 have J:=Z _ (QR hi)
 generalize gt es i=x at *
 have W:D.length<2 ^ 30:=by omega
 refine NP (fun j:Nat=>D.length-j) (fun j fr G=>j<=D.length/\fr 1=.slice pt tw.length ct/\fr 2=Vi i/\fr 7=Vp (H.length+1)/\fr 8=.func (.func 110) #[] #[Vp (H.length+1)]/\fr 9=Vi (OA+1)/\fr 25=.slice q1 D.length k1/\fr 26=Vi D.length/\fr 27=Vi j/\
   Chg [] H G/\NH G (H.length+1)=Vc (encE x)/\VA x D=VA x (D.drop j)) 0
  ⟨Nw _,rfl,rfl,rfl,rfl,rfl,rfl,rfl,by rfl,Chg.refl.app,by rw [OC];rfl,rfl⟩ ?_
 intro j fr G ⟨hj,s,t,u,v,w,g,l,o,z,hB,b⟩ Y
 rw [NU N59.eq_1]
 refine NK ?_
 have S:=z.len
 by_cases d:j<D.length
 case neg=>
  obtain rfl:j=D.length:=by omega
  rw [Qq] at b
  have f:VA x D=OA+1:=b
  rw [f] at A
  simp only [n76,r76,s,t,u,v,w,g,l,o,NN,d,SB,seval,NC,NJ,NG,NR,reduceCtorEq,NB,place,NA,ND]
  exact Nsm (lv:=OA+1) ((OJ.refl.app).cells hB) htw z.app (by omega) F hl I J s t u v w A
 have T:=z.sl P (fun a _ _ h=>(by cases h))
 have m:=fun X=>(T.app X).loadCells NZ d
 have e:=fun c (k:IntKind) (H1:NE)=>T.idx (c:=c) (k:=k) (H1:=H1) d
 have n:IntKind.i64.wrap ((j:Int)+1)=((j+1:Nat):Int):=OD (by omega)
 have C:lim<=G.length:=by omega
 have O:D.drop j=gt D j::D.drop (j+1):=by rw [Ow d,PW d]
 rw [O] at b
 generalize gt D j=y at *
 have L:=fun X=>(OJ.refl.app (X:=X)).cells hB
 have B:=fun X (mp:Bool) (lim:Nat) (Q:Value->NE->Prop)=>Nns (mp:=mp) (lim:=lim) (x:=x) (y:=y) (Q:=Q) (L X)
 by_cases K:ZF y x
 ·have f:VA x D=y.time:=b.trans (by unfold VA;rw [Ni K])
  rw [f] at A
  simp only [n76,r76,s,t,u,v,w,g,l,o,NN,d,m,e,n,C,B,NZ,QZ,Rz,Ry,Rx,Rw,Rv,QY,NI,NF,Np K,SB,seval,NC,NJ,NG,NR,reduceCtorEq,NB,place,NA,ND]
  exact Nsm (lv:=y.time) ((OJ.refl.app).cells hB) htw z.app (by omega) F hl I J s t u v rfl A
 ·have f:VA x D=VA x (D.drop (j+1)):=b.trans (by conv=>lhs;unfold VA;rw [Ng K])
  simp only [n76,r76,s,t,u,v,w,g,l,o,NN,d,m,e,n,C,B,NZ,QZ,Rz,Ry,Rx,Rw,Rv,QY,NI,NF,N5 K,SB,seval,NC,NJ,NG,NR,reduceCtorEq,NB,place,NA,ND]
  exact Y (j+1) _ _ ⟨by omega,s,t,u,v,w,g,l,rfl,z.app,(OJ.refl.app).cells hB,f⟩ (by omega)
theorem N07 {L:List Leg} (c:L.Pairwise (fun a b=>a.id≠b.id)) {l:Leg} (hl:l∈L):L.find? (fun x=>x.id=l.id)=some l:=by
 cases h:L.find? (fun x=>x.id=l.id) with
 | none=>exact absurd (List.find?_eq_none.1 h l hl) (by simp)
 | some y=>
   have h1:=List.find?_some h
   have h2:=Rq h
   rw [Nmq c y h2 l hl (by simpa using h1)]
theorem N4q {α β:Type} [Inhabited α] [Inhabited β] {f:α->β} {l:List α} {i:Nat} (h:i<l.length):gt (l.map f) i=f (gt l i):=by
 rw [PW (by simpa using h),PW h,P8]
theorem Nut [OB] {lim ce cq cr nl cl cp cL nk ns:Nat} {pe q r pl pp pL:Option Addr} {P:List Int} {L:List Leg} {es:List Ev} {s:Stp} {c:Int} {H:NE} {Q:Value->NE->Prop} (hN:NetIn H pp pL P L) (he:Sl H encE 7 pe es) (hs:Tf es.length s) (hn:es.length<2 ^ 30) (hl:lim<=H.length)
  (i:∀G p c',Chg [] H G->Sl G TF 5 p (TQ P L es s)->Q (.slice p (TQ P L es s).length c') G) :
  NL E false lim 109 [.agg (Tt pe es.length ce q nk cq r ns cr c pl nl cl).toArray,.agg (Tu pp P.length cp pL L.length cL).toArray,.agg (enc3 s).toArray] H Q:=by
 refine RG (by decide) Oej rfl ?_
 rw [Ofo,c109]
 unfold Tf at hs
 obtain ⟨m,hm⟩:∃m:Nat,s.1=m:=⟨s.1.toNat,by omega⟩
 obtain ⟨k,hk⟩:∃k:Nat,s.2.1=k:=⟨s.2.1.toNat,by omega⟩
 have V:m<es.length:=by omega
 have R:k<es.length:=by omega
 have e0:=Nqp (x:=s)
 have e1:=Nj1 (x:=s)
 rw [hm] at e0
 rw [hk] at e1
 have ao:=fun X=>(he.app X).loadCells NZ V
 have ap:=fun X=>(he.app X).loadCells NZ R
 have am:=fun c (k:IntKind) (H1:NE)=>he.idx (c:=c) (k:=k) (H1:=H1) V
 have an:=fun c (k:IntKind) (H1:NE)=>he.idx (c:=c) (k:=k) (H1:=H1) R
 have d:TQ P L es s=(ZU P L (gt es m).place (gt es k).place (gt es m).time).dropLast.map (Xq s):=by unfold TQ;rw [hm,hk,Od,Od]
 simp only [n109,Nox,PO,Sr,SC,S9,Sz,Sb,NZ,QZ,Rz,Ry,Rx,Rw,Rv,QY,OT,e0,e1,NI,ao,ap,am,an,NF,hl,PS,SB,seval,NC,NJ,NG,NR,reduceCtorEq,NB,place,NA,ND]
 generalize gt es m=a at *
 generalize gt es k=b at *
 refine N9r (hN.app _) (by simp;omega) (fun G he e=>?_) (fun G he hA e=>?_) (fun G v w pw cw he e hv hA hB av n=>?_)
 ·rw [Nxo he] at d
  rw [d] at i
  refine NK ?_
  simp only [n109,Nox,Nq he,SB,seval,NC,NJ,NG,NR,reduceCtorEq,NB,place,NA,ND]
  exact i _ none 0 e.pre.app rfl
 ·rw [Nsx hA] at d
  rw [d] at i
  refine NK ?_
  simp only [n109,Nox,SB,seval,NC,NJ,NG,NR,reduceCtorEq,NB,place,NA,ND]
  exact i _ none 0 e.pre.app rfl
 have Z:ZU P L a.place b.place a.time=w:=Nds ⟨he,v,hv,hA,hB⟩
 rw [Z] at d
 by_cases h0:w=[]
 ·subst h0
  rw [d] at i
  refine NK ?_
  simp only [n109,Nox,Ns,SB,seval,NC,NJ,NG,NR,reduceCtorEq,NB,place,NA,ND]
  exact i _ none 0 e.pre.app rfl
 have au:0<w.length:=List.length_pos_iff.2 h0
 have ai:¬((w.length:Nat):Int)=0:=by omega
 have Y:IntKind.i64.wrap ((w.length:Int)-1)=((w.length-1:Nat):Int):=by rw [NT (by omega) (by omega)];omega
 have g:=n.capOk
 have W:=n.sl OT
 obtain ⟨q1,k1,x1,s1,_,_,_⟩:=UR (vlo:=none) (vhi:=some (Vi ((w.length-1:Nat):Int))) (lo:=0) (hi:=w.length-1) W g OT (fun cap g=>by rw [Ms (by omega) (by rw [Nu] at g;omega),Od]) (Nw _) (by rw [Nu];omega) (by rw [Nu];omega)
 obtain ⟨D,hD⟩:∃D,D=w.dropLast:=⟨_,rfl⟩
 have K:D.length=w.length-1:=by rw [hD,List.length_dropLast]
 rw [O1,<-List.map_take,<-List.dropLast_eq_take,<-hD] at s1
 rw [Nu,Nat.sub_zero,<-K] at x1
 rw [<-hD] at d
 rw [d] at i
 rw [Nu] at i
 rw [<-K] at Y
 have U:∀x∈D,x.1∈L:=fun x hx=>hB.way.mem x (by rw [hD] at hx;exact List.dropLast_subset _ hx)
 have ae:=Ne4 (Vt (Mq he).1).2.2.2
 refine NK ?_
 simp only [n109,Nox,Nq ai,Y,x1,SB,seval,NC,NJ,NG,NR,reduceCtorEq,NB,place,NA,ND]
 have S:=e.len
 simp at S
 have l:=e.cells (OC (X:=[_,Vc (Tu pp P.length cp pL L.length cL),Vc (enc3 s),_,_]) (j:=1)) (by simp)
 have o:=e.cells (OC (X:=[_,Vc (Tu pp P.length cp pL L.length cL),Vc (enc3 s),_,_]) (j:=2)) (by simp)
 have N:=(hN.app [Vc (Tt pe es.length ce q nk cq r ns cr c pl nl cl),Vc (Tu pp P.length cp pL L.length cL),Vc (enc3 s),Vc (encE a),Vc (encE b)]).sim fun b ro c h=>e.cells h (by simp)
 obtain ⟨F,ac⟩:∃F,F=G:=⟨_,rfl⟩
 have J:=e.pre
 rw [<-ac] at l o N s1 J S⊢
 clear e n W
 refine NP (fun j:Nat×Option Addr×Nat=>D.length-j.1) (fun j fr G=>j.1<=D.length/\fr 4=Vp (H.length+1)/\fr 5=Vp (H.length+2)/\fr 11=.slice j.2.1 j.1 j.2.2/\fr 52=.slice q1 D.length k1/\fr 53=Vi D.length/\fr 54=Vi j.1/\
   Chg [] F G/\Own F.length G TF 5 j.2.1 j.2.2 ((D.take j.1).map (Xq s))) (0,none,0)
  ⟨Nw _,rfl,rfl,rfl,rfl,rfl,by rfl,Chg.refl.app,.nil⟩ ?_
 rintro ⟨j,p,c'⟩ fr G ⟨hj,g4,g5,u,y,z,A,e,n⟩ M
 simp only at hj u A n M
 rw [NU N0q.eq_1]
 refine NK ?_
 have aq:=e.len
 have O:((D.take j).map (Xq s)).length=j:=by rw [Nu,Ok];omega
 by_cases f:j<D.length
 case neg=>
  obtain rfl:j=D.length:=by omega
  rw [Oj] at n
  simp only [n109,Nox,g4,g5,u,y,z,A,NN,f,SB,seval,NC,NJ,NG,NR,reduceCtorEq,NB,place,NA,ND]
  exact i _ _ _ (J.trans e).app ((n.sl RJ).app _)
 have sT:=e.sl s1 (fun a _ _ h=>(by cases h))
 have T:j<(D.map V8).length:=by rw [Nu];exact f
 have C:=fun X=>(sT.app X).loadCells OT T
 have t:=fun c (k:IntKind) (H1:NE)=>sT.idx (c:=c) (k:=k) (H1:=H1) T
 rw [N4q f] at C
 rw [Nu] at t
 have al:IntKind.i64.wrap ((j:Int)+1)=((j+1:Nat):Int):=OD (by omega)
 have ag:lim<=G.length:=by omega
 have ah:=U _ (QR f)
 have ak:(D.take (j+1)).map (Xq s)=(D.take j).map (Xq s)++[Xq s (gt D j)]:=by
  rw [N2 f,O0,PW f];rfl
 generalize gt D j=x at *
 have ad:=N07 ae ah
 have e3:enc3 (V8 x)=[Vi x.1.id,Vi x.2,Vi (x.2+x.1.mins)]:=rfl
 rw [e3] at C
 have xN:=fun X=>(OJ.refl.app (X:=X)).cells (e.cells l (by simp))
 have xS:=fun X=>(OJ.refl.app (X:=X)).cells (e.cells o (by simp))
 have B:=fun X (mp:Bool) (lim:Nat) (Q:Value->NE->Prop)=>find_ok (mp:=mp) (lim:=lim) (cp:=cp) (cl:=cL) (a:=x.1.id) (Q:=Q) ((N.sim fun b ro c h=>e.cells h (by simp)).app X)
 rw [ad] at B
 simp only at B
 obtain ⟨G2,e2,aa,I,aj,ar,_⟩:=n.step (lim':=lim) (bytes:=40) (by omega) RJ (by decide) (Xq s x) (by rw [O];unfold PU;omega) (by omega) (by omega) [Vc [Vi x.1.id,Vi x.2,Vi (x.2+x.1.mins)],Vc (RA x.1),Vc (TF (Xq s x))] (G.length+2) 1 (by rw [OC];rfl)
 have ab:TF (Xq s x)=[.int .u8 5,Vi k,Vi m,Vi x.1.dst,Vi 0]:=by rw [<-hk,<-hm];rfl
 rw [O,ab] at e2
 simp only [n109,Nox,g4,g5,u,y,z,A,NN,f,C,t,al,ag,xN,xS,B,PS,e0,e1,OT,OI,QH,QG,QF,QE,QD,QC,QB,QA,NI,NF,e2,SB,seval,NC,NJ,NG,NR,reduceCtorEq,NB,place,NA,ND]
 exact M (j+1,Sa (G.length+3),loose 5) _ _ ⟨by omega,g4,g5,rfl,y,z,rfl,I [] F (Nd _) e,by rw [ak];exact aa⟩ (by simp only;omega)
theorem Nua [OB] {lim ce cq cr nl cl cp cL nk ns:Nat} {pe q r pl pp pL:Option Addr} {P:List Int} {L:List Leg} {es:List Ev} {s:Stp} {c:Int} {H:NE} {Q:Value->NE->Prop} (B:NetIn H pp pL P L) (he:Sl H encE 7 pe es) (hs:Tf es.length s) (hn:es.length<2 ^ 30) (hl:lim<=H.length)
  (b:∀G p l,Chg [] H G->Sl G TF 5 p (SQ P L es s)->Q (.slice p (SQ P L es s).length l) G) :
  NL E false lim 75 [.agg (Tt pe es.length ce q nk cq r ns cr c pl nl cl).toArray,.agg (Tu pp P.length cp pL L.length cL).toArray,.agg (enc3 s).toArray] H Q:=by
 refine RG (by decide) e75 rfl ?_
 rw [b75,c75]
 have y:=hs
 unfold Tf at hs
 obtain ⟨m,z⟩:∃m:Nat,s.1=m:=⟨s.1.toNat,by omega⟩
 obtain ⟨k,hk⟩:∃k:Nat,s.2.1=k:=⟨s.2.1.toNat,by omega⟩
 have v:m<es.length:=by omega
 have t:k<es.length:=by omega
 have e0:=Nqp (x:=s)
 have e1:=Nj1 (x:=s)
 have e2:=N1r (x:=s)
 rw [z] at e0
 rw [hk] at e1
 have f:∀X,AM.loadCells (H++X) ((Zv pe 7 m).add 0) 6=some (QL (gt es m)):=fun X=>(he.app X).loadSub NZ (j:=0) (n:=6) v (by omega)
 have g:∀X,AM.loadCells (H++X) ((Zv pe 7 k).add 0) 6=some (QL (gt es k)):=fun X=>(he.app X).loadSub NZ (j:=0) (n:=6) t (by omega)
 have d:=fun c (k:IntKind) (H1:NE)=>he.idx (c:=c) (k:=k) (H1:=H1) v
 have e:=fun c (k:IntKind) (H1:NE)=>he.idx (c:=c) (k:=k) (H1:=H1) t
 have a:SQ P L es s=if (gt es m).kind=4 then [⟨2,(k:Int),(m:Int),(gt es k).place,0⟩] else if s.2.2=80 then [⟨3,(k:Int),(m:Int),(gt es k).place,0⟩] else if 0<s.2.2 then [⟨4,(k:Int),(m:Int),(gt es k).place,s.2.2⟩]
   else if (gt es m).place≠(gt es k).place then TQ P L es s else []:=by unfold SQ;rw [z,hk,Od,Od]
 have u:=fun X (Q:Value->NE->Prop) (b:∀G p l,Chg [] (H++X) G->Sl G TF 5 p (TQ P L es s)->Q (.slice p (TQ P L es s).length l) G)=>Nut (lim:=lim) (ce:=ce) (cq:=cq) (cr:=cr) (nl:=nl) (cl:=cl) (cp:=cp) (cL:=cL) (nk:=nk) (ns:=ns) (q:=q) (r:=r) (pl:=pl) (c:=c) (B.app X) (he.app X) y hn (by simp;omega) b
 by_cases h:(gt es m).kind=4
 ·rw [Ni h] at a
  rw [a] at b
  simp only [n75,r75,PO,Sr,SC,S9,Sz,Sb,OP,Ud,Ve,Vd,Vb,Va,UZ,OT,e0,e1,e2,NI,f,g,d,e,NF,hl,gt_iff_lt,N9 h,SB,seval,NC,NJ,NG,NR,reduceCtorEq,NB,place,NA,ND]
  exact b _ _ _ Chg.refl.app (Sl.row (ro:=false) RJ (by rw [OC];rfl))
 rw [Ng h] at a
 by_cases i:s.2.2=80
 ·rw [Ni i] at a
  rw [a] at b
  simp only [n75,r75,PO,Sr,SC,S9,Sz,Sb,OP,Ud,Ve,Vd,Vb,Va,UZ,OT,e0,e1,e2,NI,f,g,d,e,NF,hl,gt_iff_lt,Nq h,N9 i,SB,seval,NC,NJ,NG,NR,reduceCtorEq,NB,place,NA,ND]
  exact b _ _ _ Chg.refl.app (Sl.row (ro:=false) RJ (by rw [OC];rfl))
 rw [Ng i] at a
 by_cases o:0<s.2.2
 ·rw [Ni o] at a
  rw [a] at b
  simp only [n75,r75,PO,Sr,SC,S9,Sz,Sb,OP,Ud,Ve,Vd,Vb,Va,UZ,OT,e0,e1,e2,NI,f,g,d,e,NF,hl,gt_iff_lt,Nq h,Nq i,N9 o,Nq (show ¬H.length=H.length+3 by omega),not_false_eq_true,AM.loadX,SB,seval,NC,NJ,NG,NR,reduceCtorEq,NB,place,NA,ND]
  exact b _ _ _ Chg.refl.app (Sl.row (ro:=false) RJ (by rw [OC];rfl))
 rw [Ng o] at a
 by_cases w:(gt es m).place=(gt es k).place
 ·rw [Ng (by simpa using w)] at a
  rw [a] at b
  simp only [n75,r75,PO,Sr,SC,S9,Sz,Sb,OP,Ud,Ve,Vd,Vb,Va,UZ,OT,e0,e1,e2,NI,f,g,d,e,NF,hl,gt_iff_lt,Nq h,Nq i,Nq o,N9 w,SB,seval,NC,NJ,NG,NR,reduceCtorEq,NB,place,NA,ND]
  exact b _ none 0 Chg.refl.app rfl
 rw [Ni w] at a
 rw [a] at b
 simp only [n75,r75,PO,Sr,SC,S9,Sz,Sb,OP,Ud,Ve,Vd,Vb,Va,UZ,OT,e0,e1,e2,NI,f,g,d,e,NF,hl,gt_iff_lt,Nq h,Nq i,Nq o,Nq w,PS,SB,seval,NC,NJ,NG,NR,reduceCtorEq,NB,place,NA,ND]
 refine u _ _ fun G p l A hS=>?_
 refine NK ?_
 simp only [n75,r75,SB,seval,NC,NJ,NG,NR,reduceCtorEq,NB,place,NA,ND]
 exact b _ p l A.pre.app (hS.app _)
structure G38 (G1:NE) (B:Nat) (G:NE) (l:List An) (p:Option Addr) (cap:Nat):Prop where
 chg:Chg [B] G1 G
 cell:NH G B=Vc [.slice p l.length cap]
 own:Own G1.length G TF 5 p cap l
theorem G38.grow {G1 G G2:NE} {B cap:Nat} {l:List An} {p:Option Addr} (h:G38 G1 B G l p cap) (hc:Chg [] G G2):G38 G1 B G2 l p cap:=
 ⟨h.chg.trans' hc fun j b=>(by cases b),hc.cells h.cell (by simp),h.own.chg hc (fun a _=>by simp)⟩
theorem G38.add [OB] {lim B cap cx:Nat} {p px:Option Addr} {l m:List An} {G1 G:NE} {Q:Value->NE->Prop} (h:G38 G1 B G l p cap) (hs:Sl G TF 5 px m) (j:lim<=B) (hB:B<G1.length) (hn:l.length+m.length<2 ^ 31)
  (r:∀G' e b,G.length<=G'.length->G38 G1 B G' (l++m) e b->Q (.tuple #[]) G') :
  NL E false lim 73 [.slice px m.length cx,Vp B] G Q:=by
 refine RG (by decide) e73 rfl ?_
 rw [b73,c73]
 have f:=NM h.cell
 have g:=h.chg.len
 obtain ⟨G2,e,b,k1,k2,k3,s,u⟩:=h.own.more (lim':=lim) (bytes:=40) (by omega) RJ (by decide) m (by unfold PU;omega) (by omega) g [] (x:=.slice px m.length cx) (str:=false) (WL (hs.app [])) rfl
 have c:NH (G2++[]) B=Vc [.slice p l.length cap]:=by
  rw [s B f (fun a i=>by have:=(h.own.block i).1;omega)];exact h.cell
 rw [Nb] at k2 c
 have d:=k3 [B] G1 (Nd _) h.chg
 rw [Nb] at d
 obtain ⟨o,e3,q,k⟩:=OQ (NM c) (Vc [.slice e (l.length+m.length) b])
 have t:=fun X=>(OJ.refl.app (X:=X)).cells h.cell
 have n:=fun X=>(OJ.refl.app (X:=X)).cells c
 simp only [n73,r73,t,k1,n,e3,j,SB,seval,NC,NJ,NG,NR,reduceCtorEq,NB,place,NA,ND]
 have ho:Own G1.length o TF 5 e b (l++m):=k2.mut k fun a i=>by have:=(k2.block i).1;omega
 exact r _ e b (by rw [Nb,k.len];omega) ⟨by rw [Nb];exact d.mut k (.inl (by simp)),by rw [Nb,q,Nl],by rw [Nb];exact ho⟩
def Nq4:ACode->ACode
 | .block _ c=>c
 | c=>c
def Ze:ACode:=Nq4 (Ur (Sm (Sm WG)))
def N2v:ACode:=Sm (Sm (Sm WG))
def Ng9:ACode:=Sm Ze
def Nnz:ACode:=Sm Ng9
def N9w:ACode:=Sm Nnz
theorem N4f:WG=.seq (Ur WG) (.seq (Ur (Sm WG)) (.seq (.block 1 (.seq (Ur Ze) Ng9)) N2v)):=rfl
theorem N2s:Ng9=.seq (Ur Ng9) Nnz:=rfl
theorem N2r:Nnz=.seq (Ur Nnz) N9w:=rfl
structure D38 (lim B A T ce cq cr ct cp cL:Nat) (pe q r pt pp pL:Option Addr) (P:List Int) (L:List Leg) (es tw:List Ev) (ks:List Int) (ss:List Stp) (c:Int) (H0 G1:NE) (b4 b5:Nat):Prop where
 hev:Sl H0 encE 7 pe es
 hce:Ua 7 ce es.length
 htw:Sl H0 encE 7 pt tw
 net:NetIn H0 pp pL P L
 h01:Chg [] H0 G1
 rep:NH G1 b4=Vc (Tt pe es.length ce q ks.length cq r ss.length cr c none 0 0)
 nv:NH G1 b5=Vc (Tu pp P.length cp pL L.length cL)
 kp:NH G1 A=Vc ((TW es.length ks).flatMap Naj)
 to:NH G1 T=Vc ((VY es.length ss).flatMap enc3)
 n4:b4≠B
 n5:b5≠B
 nA:A≠B
 nT:T≠B
 hB:H0.length<=B
 lB:lim<=H0.length
 lG:B<G1.length
 ne:es.length<=2000
 nt:tw.length<=2000
 te:Vs es
 tt:Vs tw
 so:∀s∈ss,Tf es.length s
 di:Ngo ss
structure FR38 (B A T ct n:Nat) (pt:Option Addr) (nt:Nat) (now:Int) (b4 b5:Nat) (fr:Nat->Value):Prop where
 f2:fr 2=.slice pt nt ct
 f3:fr 3=Vi now
 f4:fr 4=Vp b4
 f5:fr 5=Vp b5
 f9:fr 9=Vp B
 f10:fr 10=.func (.func 73) #[] #[Vp B]
 f11:fr 11=.slice (Sa A) n n
 f12:fr 12=.slice (Sa T) n n
section
variable {lim B A T ce cq cr ct cp cL b4 b5:Nat} {pe q r pt pp pL:Option Addr} {P:List Int} {L:List Leg} {es tw:List Ev} {ks:List Int} {ss:List Stp} {c now:Int} {H0 G1 G:NE} {fr:Nat->Value} {K:List AItem} {Z:Value->NE->Prop} {i cap:Nat} {p:Option Addr} {l:List An}
theorem D38.old (D:D38 lim B A T ce cq cr ct cp cL pe q r pt pp pL P L es tw ks ss c H0 G1 b4 b5) (h:G38 G1 B G l p cap):Chg [] H0 G:=D.h01.trans' h.chg fun j a hl=>by
 have:=D.hB
 rw [Nk] at a
 omega
theorem D38.rest [OB] (D:D38 lim B A T ce cq cr ct cp cL pe q r pt pp pL P L es tw ks ss c H0 G1 b4 b5) (h:G38 G1 B G l p cap) (F:FR38 B A T ct es.length pt tw.length now b4 b5 fr) (f13:fr 13=Vi i) (hi:i<es.length) (s:l.length<=1000000000)
  (m:∀fr' G' g b,G38 G1 B G' (l++QK es tw i) g b->FR38 B A T ct es.length pt tw.length now b4 b5 fr'->fr' 22=fr 22->fr' 23=fr 23->fr' 24=fr 24->PV E a38 lim K fr' (G'++[]) Z) :
  PV E a38 lim (.code N9w::K) fr G Z:=by
 have d:=D.old h
 have v:=fun X=>(OJ.refl.app (X:=X)).cells (h.chg.cells D.rep (by have:=D.n4;simpa using this))
 have k:=d.len
 have o:=D.lB
 have t:=D.ne
 have u:=D.nt
 unfold N9w
 refine NK ?_
 simp only [Nnz,Ng9,Ze,Nq4,Ur,Sm,WG,n38,r38,F.f4,F.f10,F.f2,f13,v,PO,NI,SB,seval,NC,NJ,NG,NR,reduceCtorEq,NB,place,NA,ND]
 have n:(QK es tw i).length<=tw.length:=by unfold QK;rw [Nu];exact Q0 ..
 refine Nqs ((d.sl D.hev (fun a _ _ h=>(by cases h))).app _) D.hce ((d.sl D.htw (fun a _ _ h=>(by cases h))).app _) hi (by omega) (by omega) (by simp;omega) D.te D.tt fun G2 px cx e f=>?_
 have h2:=h.grow e.pre
 refine NK ?_
 simp only [n38,r38,SB,seval,NC,NJ,NG,NR,reduceCtorEq,NB,place,NA,ND]
 rw [Nb]
 refine h2.add f (by have:=D.hB;omega) D.lG (by omega) fun G' g b hl j=>?_
 refine NK ?_
 simp only [n38,r38,SB,seval,NC,NJ,NG,NR,reduceCtorEq,NB,place,NA,ND]
 exact m _ _ _ _ j ⟨(by simp only [F.f2,ne_eq,FB,Nat.reduceEqDiff]),(by simp only [F.f3,ne_eq,FB,Nat.reduceEqDiff]),(by simp only [F.f4,ne_eq,FB,Nat.reduceEqDiff]),(by simp only [F.f5,ne_eq,FB,Nat.reduceEqDiff]),(by simp only [F.f9,ne_eq,FB,Nat.reduceEqDiff]),(by simp only [F.f10,ne_eq,FB,Nat.reduceEqDiff]),(by simp only [F.f11,ne_eq,FB,Nat.reduceEqDiff]),(by simp only [F.f12,ne_eq,FB,Nat.reduceEqDiff])⟩ rfl rfl rfl
noncomputable def VE (P:List Int) (L:List Leg) (es:List Ev) (ss:List Stp) (i:Nat):List An:=if (gt (VY es.length ss) i).1<(gt (VY es.length ss) i).2.1 then SQ P L es (gt (VY es.length ss) i) else []
def Nd0 (es:List Ev) (ks:List Int) (i:Nat):List An:=if gt (TW es.length ks) i then [] else [⟨1,(i:Int),0,(gt es i).place,0⟩]
theorem D38.mid [OB] (D:D38 lim B A T ce cq cr ct cp cL pe q r pt pp pL P L es tw ks ss c H0 G1 b4 b5) (h:G38 G1 B G l p cap) (F:FR38 B A T ct es.length pt tw.length now b4 b5 fr) (f13:fr 13=Vi i) (hi:i<es.length) (f:l.length+(VE P L es ss i).length<=1000000000)
  (g:∀fr' G' n d,G38 G1 B G' (l++(VE P L es ss i++QK es tw i)) n d->FR38 B A T ct es.length pt tw.length now b4 b5 fr'->fr' 22=fr 22->fr' 23=fr 23->fr' 24=fr 24->PV E a38 lim K fr' (G'++[]) Z) :
  PV E a38 lim (.code Nnz::K) fr G Z:=by
 have t:=D.old h
 have M:=fun X=>(OJ.refl.app (X:=X)).cells (h.chg.cells D.rep (by have:=D.n4;simpa using this))
 have J:=fun X=>(OJ.refl.app (X:=X)).cells (h.chg.cells D.nv (by have:=D.n5;simpa using this))
 have Q:=h.chg.cells D.to (by have:=D.nT;simpa using this)
 have O:=t.len
 have S:=D.lB
 have U:=D.ne
 have V:=D.nt
 have o:Sl G enc3 3 (Sa T) (VY es.length ss):=Sl.row OT Q
 have e:i<(VY es.length ss).length:=by rw [Nis];exact hi
 have w:=fun c (k:IntKind) (H1:NE)=>o.idx (c:=c) (k:=k) (H1:=H1) e
 rw [Nis] at w
 have I:=fun X=>(o.app X).loadCells OT e
 have C:∀X,AM.loadCell (G++X) ((Zv (Sa T) 3 i).add 0)=some (Vi (gt (VY es.length ss) i).1):=fun X=>(o.app X).loadCell (j:=0) OT e (by omega)
 have H:∀X,AM.loadCell (G++X) ((Zv (Sa T) 3 i).add 1)=some (Vi (gt (VY es.length ss) i).2.1):=fun X=>(o.app X).loadCell (j:=1) OT e (by omega)
 have m:=fun h=>(Nrq D.so D.di hi h).1
 rw [N2r]
 refine NK ?_
 unfold VE at g f
 generalize gt (VY es.length ss) i=s at *
 by_cases h1:s.1<s.2.1
 ·rw [Ni h1] at g f
  simp only [Nnz,Ng9,Ze,Nq4,Ur,Sm,WG,n38,r38,F.f4,F.f5,F.f10,F.f12,f13,M,J,PO,PS,OT,NI,w,I,C,H,N9 h1,SB,seval,NC,NJ,NG,NR,reduceCtorEq,NB,place,NA,ND]
  refine Nua ((D.net.sim fun b ro x R=>t.cells R (by simp)).app _) ((t.sl D.hev (fun a _ _ h=>(by cases h))).app _) (D.so _ (m h1)) (by omega) (by simp;omega) fun G2 px cx u v=>?_
  have h2:=h.grow u.pre
  refine NK ?_
  simp only [n38,r38,SB,seval,NC,NJ,NG,NR,reduceCtorEq,NB,place,NA,ND]
  rw [Nb]
  refine h2.add v (by have:=D.hB;omega) D.lG (by omega) fun G' n d hl N=>?_
  refine NK ?_
  simp only [n38,r38,SB,seval,NC,NJ,NG,NR,reduceCtorEq,NB,place,NA,ND]
  rw [Nb]
  refine D.rest (now:=now) N ⟨(by simp only [F.f2,ne_eq,FB,Nat.reduceEqDiff]),(by simp only [F.f3,ne_eq,FB,Nat.reduceEqDiff]),(by simp only [F.f4,ne_eq,FB,Nat.reduceEqDiff]),(by simp only [F.f5,ne_eq,FB,Nat.reduceEqDiff]),(by simp only [F.f9,ne_eq,FB,Nat.reduceEqDiff]),(by simp only [F.f10,ne_eq,FB,Nat.reduceEqDiff]),(by simp only [F.f11,ne_eq,FB,Nat.reduceEqDiff]),(by simp only [F.f12,ne_eq,FB,Nat.reduceEqDiff])⟩ f13 hi (by rw [Nl];omega) fun fr' G' n d k1 k2 k3 y z=>?_
  rw [No] at k1
  exact g _ _ _ _ k1 k2 (k3.trans rfl) (y.trans rfl) (z.trans rfl)
 ·rw [Ng h1] at g f
  rw [Ov] at g
  simp only [Nnz,Ng9,Ze,Nq4,Ur,Sm,WG,n38,r38,F.f4,F.f5,F.f10,F.f12,f13,M,J,PO,PS,OT,NI,w,I,C,H,Nq h1,SB,seval,NC,NJ,NG,NR,reduceCtorEq,NB,place,NA,ND]
  rw [Nb]
  refine D.rest (now:=now) h ⟨(by simp only [F.f2,ne_eq,FB,Nat.reduceEqDiff]),(by simp only [F.f3,ne_eq,FB,Nat.reduceEqDiff]),(by simp only [F.f4,ne_eq,FB,Nat.reduceEqDiff]),(by simp only [F.f5,ne_eq,FB,Nat.reduceEqDiff]),(by simp only [F.f9,ne_eq,FB,Nat.reduceEqDiff]),(by simp only [F.f10,ne_eq,FB,Nat.reduceEqDiff]),(by simp only [F.f11,ne_eq,FB,Nat.reduceEqDiff]),(by simp only [F.f12,ne_eq,FB,Nat.reduceEqDiff])⟩ f13 hi (by simpa using f) fun fr' G' n d k1 k2 k3 y z=>?_
  exact g _ _ _ _ k1 k2 (k3.trans rfl) (y.trans rfl) (z.trans rfl)
theorem D38.first [OB] {e:Nat} (D:D38 lim B A T ce cq cr ct cp cL pe q r pt pp pL P L es tw ks ss c H0 G1 b4 b5) (h:G38 G1 B G l p cap) (F:FR38 B A T ct es.length pt tw.length now b4 b5 fr) (f13:fr 13=Vi i) (f14:fr 14=Vp e) (o:NH G e=Vc (encE (gt es i))) (hi:i<es.length) (J:l.length+(1+(VE P L es ss i).length)<=1000000000)
  (d:∀fr' G' n a,G38 G1 B G' (l++atN P L es tw ks ss i) n a->FR38 B A T ct es.length pt tw.length now b4 b5 fr'->fr' 22=fr 22->fr' 23=fr 23->fr' 24=fr 24->PV E a38 lim K fr' (G'++[]) Z) :
  PV E a38 lim (.code Ng9::K) fr G Z:=by
 have x:atN P L es tw ks ss i=Nd0 es ks i++(VE P L es ss i++QK es tw i):=rfl
 rw [x] at d
 have z:=D.old h
 have H:=h.chg.cells D.kp (by have:=D.nA;simpa using this)
 have C:=z.len
 have I:=D.lB
 have M:=D.ne
 have N:=D.nt
 have w:Sl G Naj 1 (Sa A) (TW es.length ks):=Sl.row Zu H
 have f:i<(TW es.length ks).length:=by rw [Nh0];exact hi
 have s:=fun c (k:IntKind) (H1:NE)=>w.idx (c:=c) (k:=k) (H1:=H1) f
 rw [Nh0] at s
 have v:∀X,AM.loadCell (G++X) (Zv (Sa A) 1 i)=some (.bool (gt (TW es.length ks) i)):=fun X=>by
  have:=(w.app X).loadCell (j:=0) Zu f (by omega)
  rwa [show (Zv (Sa A) 1 i).add 0=Zv (Sa A) 1 i from by simp only [Zv,addrOf,O9,addr_add,Po]] at this
 have g:=fun X=>(OJ.refl.app (X:=X)).cells o
 rw [N2s]
 refine NK ?_
 unfold Nd0 at d
 generalize gt (TW es.length ks) i=b at *
 cases b with
 | true=>
   simp only [Ng9,Ze,Nq4,Ur,Sm,WG,n38,r38,F.f10,F.f11,f13,f14,g,NZ,QZ,Rz,Ry,Rx,Rw,Rv,QY,NI,s,v,SB,seval,NC,NJ,NG,NR,reduceCtorEq,NB,place,NA,ND]
   rw [Ni rfl,Ov] at d
   rw [Nb]
   exact D.mid (now:=now) h ⟨(by simp only [F.f2,ne_eq,FB,Nat.reduceEqDiff]),(by simp only [F.f3,ne_eq,FB,Nat.reduceEqDiff]),(by simp only [F.f4,ne_eq,FB,Nat.reduceEqDiff]),(by simp only [F.f5,ne_eq,FB,Nat.reduceEqDiff]),(by simp only [F.f9,ne_eq,FB,Nat.reduceEqDiff]),(by simp only [F.f10,ne_eq,FB,Nat.reduceEqDiff]),(by simp only [F.f11,ne_eq,FB,Nat.reduceEqDiff]),(by simp only [F.f12,ne_eq,FB,Nat.reduceEqDiff])⟩ f13 hi (by omega) fun fr' G' n a k1 k2 k3 t u=>d _ _ _ _ k1 k2 (k3.trans rfl) (t.trans rfl) (u.trans rfl)
 | false=>
   simp only [Ng9,Ze,Nq4,Ur,Sm,WG,n38,r38,F.f10,F.f11,f13,f14,g,NZ,QZ,Rz,Ry,Rx,Rw,Rv,QY,NI,s,v,SB,seval,NC,NJ,NG,NR,reduceCtorEq,NB,place,NA,ND]
   rw [Ng (by simp)] at d
   refine (h.grow (G2:=G++[Vc (TF ⟨1,(i:Int),0,(gt es i).place,0⟩)]) Chg.refl.app).add (lim:=lim) (m:=[⟨1,(i:Int),0,(gt es i).place,0⟩]) (Sl.row (ro:=false) RJ (by rw [NV];rfl)) (by have:=D.hB;omega) D.lG (by simp;omega) fun G' n a hl y=>?_
   refine NK ?_
   simp only [n38,r38,SB,seval,NC,NJ,NG,NR,reduceCtorEq,NB,place,NA,ND]
   rw [Nb]
   refine D.mid (now:=now) y ⟨(by simp only [F.f2,ne_eq,FB,Nat.reduceEqDiff]),(by simp only [F.f3,ne_eq,FB,Nat.reduceEqDiff]),(by simp only [F.f4,ne_eq,FB,Nat.reduceEqDiff]),(by simp only [F.f5,ne_eq,FB,Nat.reduceEqDiff]),(by simp only [F.f9,ne_eq,FB,Nat.reduceEqDiff]),(by simp only [F.f10,ne_eq,FB,Nat.reduceEqDiff]),(by simp only [F.f11,ne_eq,FB,Nat.reduceEqDiff]),(by simp only [F.f12,ne_eq,FB,Nat.reduceEqDiff])⟩ f13 hi (by rw [Nl,Qz];omega) fun fr' G' n a k1 k2 k3 t u=>?_
   rw [No] at k1
   exact d _ _ _ _ k1 k2 (k3.trans rfl) (t.trans rfl) (u.trans rfl)
end
theorem Npm {m:List Int}:∀{l:List Int},l.Nodup->(∀x∈l,x∈m)->l.length<=m.length:=by
 induction m with
 | nil=>intro l _ h;cases l with
   | nil=>simp
   | cons x l=>exact absurd (h x Nn) Ox
 | cons a m ih=>
   intro l hn h
   have h1:=ih (l:=l.erase a) (hn.erase a) fun x b=>by
    have h2:=(hn.mem_erase_iff).1 b
    exact ((Nr.1 (h x h2.2)).resolve_left h2.1)
   have c:l.length<=(l.erase a).length+1:=by rw [List.length_erase];split<;>omega
   simp only [Nm];omega
theorem Nxn {P:List Int} {L:List Leg} {p q t:Int}:(ZU P L p q t).length<=50:=by
 by_cases h:∃w,Won P L p q t w
 ·obtain ⟨w,b⟩:=h
  rw [Nds b]
  obtain ⟨he,v,e,i,a⟩:=b
  obtain ⟨h1,hp,f,g,_⟩:=Mq he
  have hn:=VU h1
  have:=Npm (m:=P) (a.way.nodup hn.fine a.few) fun x hx=>by
   rcases Nr.1 hx with rfl | hx
   ·exact hp
   ·obtain ⟨y,d,rfl⟩:=List.mem_map.1 hx
    exact hn.dst _ (a.way.mem y d)
  have c:=(Vt h1).1
  simp at this
  omega
 ·unfold ZU;rw [dif_neg h];simp
theorem Nlr {P:List Int} {L:List Leg} {es:List Ev} {s:Stp}:(SQ P L es s).length<=50:=by
 unfold SQ
 simp only
 have a:(TQ P L es s).length<=50:=by
  unfold TQ;rw [Nu,List.length_dropLast]
  have:=Nxn (P:=P) (L:=L) (p:=(gt es s.1.toNat).place) (q:=(gt es s.2.1.toNat).place) (t:=(gt es s.1.toNat).time)
  omega
 repeat' split
 all_goals first | exact a | simp
theorem Zf {P:List Int} {L:List Leg} {es:List Ev} {ss:List Stp} {i:Nat}:(VE P L es ss i).length<=50:=by
 unfold VE
 split
 ·exact Nlr
 ·simp
theorem N5h {P:List Int} {L:List Leg} {es tw:List Ev} {ks:List Int} {ss:List Stp} {i:Nat}:(atN P L es tw ks ss i).length<=51+tw.length:=by
 have e:atN P L es tw ks ss i=Nd0 es ks i++(VE P L es ss i++QK es tw i):=rfl
 have h1:(Nd0 es ks i).length<=1:=by unfold Nd0;split<;>simp
 have h2:=Zf (P:=P) (L:=L) (es:=es) (ss:=ss) (i:=i)
 have a:(QK es tw i).length<=tw.length:=by unfold QK;rw [Nu];exact Q0 ..
 rw [e,Nl,Nl];omega
theorem Nhl {P:List Int} {L:List Leg} {es tw:List Ev} {ks:List Int} {ss:List Stp} {m:Nat}:Xo P L es tw ks ss (m+1)=Xo P L es tw ks ss m++atN P L es tw ks ss m:=by
 unfold Xo;rw [Pt,P4,Oy,Rn,Nb]
theorem MK {P:List Int} {L:List Leg} {es tw:List Ev} {ks:List Int} {ss:List Stp}:∀m,(Xo P L es tw ks ss m).length<=m*(51+tw.length)
 | 0=>by simp [Xo]
 | m+1=>by
   have h:=MK (P:=P) (L:=L) (es:=es) (tw:=tw) (ks:=ks) (ss:=ss) m
   have h2:=N5h (P:=P) (L:=L) (es:=es) (tw:=tw) (ks:=ks) (ss:=ss) (i:=m)
   rw [Nhl,Nl,Pn];omega
theorem Nuz [OB] {lim ce cq cr ct cp cL:Nat} {pe q r pt pp pL:Option Addr} {P:List Int} {L:List Leg} {es tw:List Ev} {ks:List Int} {ss:List Stp} {c now:Int} {H:NE} {Q:Value->NE->Prop} (hev:Sl H encE 7 pe es) (hce:Ua 7 ce es.length) (htw:Sl H encE 7 pt tw) (u:NetIn H pp pL P L) (hq:Sl H encI 1 q ks) (hr:Sl H enc3 3 r ss) (hl:lim<=H.length)
  (ne:es.length<=2000) (nt:tw.length<=2000) (te:Vs es) (tt:Vs tw) (so:∀s∈ss,Tf es.length s) (di:Ngo ss) (hk:∀k∈ks,0<=k/\k<es.length) (t:ks.length<2 ^ 40) (M:ss.length<2 ^ 40) (v:0<=now/\now<=OA)
  (hQ:∀G p V,Chg [] H G->Own H.length G TF 5 p V (TU P L es tw ks ss now)->Q (.slice p (TU P L es tw ks ss now).length V) G) :
  NL E false lim 38 [.agg (Tt pe es.length ce q ks.length cq r ss.length cr c none 0 0).toArray,.agg (Tu pp P.length cp pL L.length cL).toArray,.slice pt tw.length ct,Vi now] H Q:=by
 refine RG (by decide) e38 rfl ?_
 rw [b38,c38]
 simp only [n38,r38,PO,PS,NI,SB,seval,NC,NJ,NG,NR,reduceCtorEq,NB,place,NA,ND]
 refine Nob (lim:=lim) (hq.app _) (hr.app _) (by omega) t M (by simp;omega) hk so fun G1 A T b hA hT kA kT=>?_
 have I:=b.len
 simp at I hA hT
 have hB:=b.cells (OC (X:=[Vc (Tt pe es.length ce q ks.length cq r ss.length cr c none 0 0),Vc (Tu pp P.length cp pL L.length cL),Vc [Vz]]) (j:=2)) (by simp)
 have D:D38 lim (H.length+2) A T ce cq cr ct cp cL pe q r pt pp pL P L es tw ks ss c H G1 H.length (H.length+1):=⟨hev,hce,htw,u,b.pre,b.cells (NV (X:=[Vc (Tt pe es.length ce q ks.length cq r ss.length cr c none 0 0),Vc (Tu pp P.length cp pL L.length cL),Vc [Vz]])) (by simp),b.cells (OC (X:=[Vc (Tt pe es.length ce q ks.length cq r ss.length cr c none 0 0),Vc (Tu pp P.length cp pL L.length cL),Vc [Vz]]) (j:=1)) (by simp),kA,kT,by omega,by omega,by omega,by omega,by omega,hl,by omega,ne,nt,te,tt,so,di⟩
 have xR:=fun X=>(OJ.refl.app (X:=X)).cells D.rep
 refine NK ?_
 simp only [n38,r38,xR,Sr,SB,seval,NC,NJ,NG,NR,reduceCtorEq,NB,place,NA,ND]
 have C:G38 G1 (H.length+2) G1 [] none 0:=⟨Chg.refl,hB,.nil⟩
 refine NP (fun j:Nat×Option Addr×Nat=>es.length-j.1) (fun j fr G=>j.1<=es.length/\FR38 (H.length+2) A T ct es.length pt tw.length now H.length (H.length+1) fr/\fr 22=.slice pe es.length ce/\fr 23=Vi es.length/\fr 24=Vi j.1/\G38 G1 (H.length+2) G (Xo P L es tw ks ss j.1) j.2.1 j.2.2) (0,none,0)
  ⟨Nw _,⟨rfl,rfl,rfl,rfl,rfl,rfl,rfl,rfl⟩,rfl,rfl,by rfl,C.grow Chg.refl.app⟩ ?_
 rintro ⟨i,p,cap⟩ fr G ⟨hi,F,g,l,e,n⟩ Y
 simp only at hi e n Y
 rw [NU N4f]
 refine NK ?_
 have x:=D.old n
 have Z:=x.len
 by_cases d:i<es.length
 case neg=>
  obtain rfl:i=es.length:=by omega
  have U:=fun X=>(OJ.refl.app (X:=X)).cells (n.chg.cells D.rep (by simp))
  simp only [Ur,Sm,WG,n38,r38,F.f4,F.f10,F.f9,F.f3,g,l,e,NN,d,U,PO,NI,SB,seval,NC,NJ,NG,NR,reduceCtorEq,NB,place,NA,ND]
  have m:=MK (P:=P) (L:=L) (es:=es) (tw:=tw) (ks:=ks) (ss:=ss) es.length
  have B:(Xo P L es tw ks ss es.length).length<=2000*2051:=Qc m (Nat.mul_le_mul (by omega) (by omega))
  have ab:(Uz es ks now).length<=1:=by
   rcases Ne2 (es:=es) (ks:=ks) (now:=now) with h | ⟨k,_,h,_⟩<;>rw [h]<;>simp
  have W:TU P L es tw ks ss now=Xo P L es tw ks ss es.length++Uz es ks now:=rfl
  refine N38 ((x.sl hev (fun a _ _ h=>(by cases h))).app _) ((x.sl hq (fun a _ _ h=>(by cases h))).app _) (by omega) t (by simp;omega) hk te v fun G2 px cx y z=>?_
  have h2:=n.grow y.pre
  refine NK ?_
  simp only [n38,r38,SB,seval,NC,NJ,NG,NR,reduceCtorEq,NB,place,NA,ND]
  rw [Nb]
  refine h2.add (lim:=lim) z (by omega) D.lG (by omega) fun G' p' f aa w=>?_
  have xB:=fun X=>(OJ.refl.app (X:=X)).cells w.cell
  refine NK ?_
  simp only [n38,r38,F.f9,xB,SB,seval,NC,NJ,NG,NR,reduceCtorEq,NB,place,NA,ND]
  rw [<-Nl,<-W]
  rw [<-W] at w
  exact hQ _ _ _ (D.old w).app ((w.own.le (by omega)).app _)
 have sE:=x.sl hev (fun a _ _ h=>(by cases h))
 have K:=fun X=>(sE.app X).loadCells NZ d
 have o:=fun c (k:IntKind) (H1:NE)=>sE.idx (c:=c) (k:=k) (H1:=H1) d
 have N:IntKind.i64.wrap ((i:Int)+1)=((i+1:Nat):Int):=OD (by omega)
 have J:lim<=G.length:=by omega
 have m:=MK (P:=P) (L:=L) (es:=es) (tw:=tw) (ks:=ks) (ss:=ss) i
 have ac:=Zf (P:=P) (L:=L) (es:=es) (ss:=ss) (i:=i)
 have B:(Xo P L es tw ks ss i).length<=2000*2051:=Qc m (Nat.mul_le_mul (by omega) (by omega))
 simp only [Ur,Sm,WG,Ze,Nq4,n38,r38,g,l,e,NN,d,K,o,J,NZ,NI,NF,SB,seval,NC,NJ,NG,NR,reduceCtorEq,NB,place,NA,ND]
 refine D.first (now:=now) (i:=i) (n.grow (G2:=G++[Vc (encE (gt es i))]) Chg.refl.app) ⟨(by simp only [F.f2,ne_eq,FB,Nat.reduceEqDiff]),(by simp only [F.f3,ne_eq,FB,Nat.reduceEqDiff]),(by simp only [F.f4,ne_eq,FB,Nat.reduceEqDiff]),(by simp only [F.f5,ne_eq,FB,Nat.reduceEqDiff]),(by simp only [F.f9,ne_eq,FB,Nat.reduceEqDiff]),(by simp only [F.f10,ne_eq,FB,Nat.reduceEqDiff]),(by simp only [F.f11,ne_eq,FB,Nat.reduceEqDiff]),(by simp only [F.f12,ne_eq,FB,Nat.reduceEqDiff])⟩ rfl rfl NV d (by omega) fun fr' G' p' f k1 k2 k3 k4 k5=>?_
 rw [<-Nhl] at k1
 have S:fr' 24=Vi i:=k5.trans e
 have O:fr' 22=.slice pe es.length ce:=k3.trans g
 have R:fr' 23=Vi es.length:=k4.trans l
 unfold N2v
 simp only [Sm,WG,n38,r38,S,N,SB,seval,NC,NJ,NG,NR,reduceCtorEq,NB,place,NA,ND]
 exact Y (i+1,p',f) _ _ ⟨by omega,⟨(by simp only [k2.f2,ne_eq,FB,Nat.reduceEqDiff]),(by simp only [k2.f3,ne_eq,FB,Nat.reduceEqDiff]),(by simp only [k2.f4,ne_eq,FB,Nat.reduceEqDiff]),(by simp only [k2.f5,ne_eq,FB,Nat.reduceEqDiff]),(by simp only [k2.f9,ne_eq,FB,Nat.reduceEqDiff]),(by simp only [k2.f10,ne_eq,FB,Nat.reduceEqDiff]),(by simp only [k2.f11,ne_eq,FB,Nat.reduceEqDiff]),(by simp only [k2.f12,ne_eq,FB,Nat.reduceEqDiff])⟩,O,R,rfl,k1.grow Chg.refl.app⟩ (by simp only;omega)
end Go.Proofs.YtkppjkkkdpcgiaaGreat.Fn


namespace Go.Proofs.YtkppjkkkdpcgiaaGreat.Fn
open Go.AM Go.AM.Sym Go.Scan
theorem Ny2 [OB] {lim c:Nat} {p:Option Addr} {K:List Ev} {item:Int} {H:NE} {Q:Value->NE->Prop} (hs:Sl H encE 7 p K) (hn:K.length<4000) (hl:lim<=H.length)
  (U:∀G z,NH G H.length=Vc ((Ue K item).flatMap encE++z)->Chg [] H G->Q (.slice (Sa H.length) (Ue K item).length K.length) (G++[])) :
  NL E false lim 28 [.slice p K.length c,Vi item] H Q:=by
 refine RG (by decide) e28 rfl ?_
 rw [b28,c28]
 have L:(K.length:Int)*56<=2 ^ 45:=by omega
 have M:(K.length:Int)<2 ^ 62:=by omega
 have N:(0:Int)<=(K.length:Int):=by omega
 simp only [n28,r28,L,M,N,Od,Rj,SB,Nat.reduceLT,NC,NJ,Nat.reduceEqDiff,NG,NR,reduceCtorEq,NB,place,NA,Nat.reduceAdd,Nat.reduceLeDiff,ND,Int.reduceEq,Int.reduceLT,Int.reduceLE]
 refine NP (fun i=>K.length-i) (fun i fr G=>i<=K.length/\fr 1=Vi item/\fr 5=.slice (Sa H.length) (Ue (K.take i) item).length K.length/\fr 11=.slice p K.length c/\fr 12=Vi K.length/\fr 13=Vi i/\
   (∃z,z.length=(K.length-(Ue (K.take i) item).length)*7/\NH G H.length=Vc ((Ue (K.take i) item).flatMap encE++z))/\Chg [] H G) 0
  ⟨Nw _,rfl,(by simp only [Q5,Ue,List.filter_nil,Ns,FB,Nat.reduceEqDiff]),rfl,rfl,by rfl,⟨(List.range (K.length*7)).map fun j=>[Value.int .i64 0,Vi 0,Vi 0,.int .u8 0,Vi 0,Vi 0,Vi 0].getD (j % 7) undef,by simp [Ue],by rw [NV,Q5];rfl⟩,Chg.refl.app⟩ ?_
 rintro i fr G ⟨hi,q,w,e,f,n,⟨z,I,B⟩,A⟩ J
 rw [NU N6u.eq_1]
 refine NK ?_
 have T:=A.len
 have t:=NM B
 by_cases d:i<K.length
 ·have S:=A.sl hs (fun a _ _ h=>(by cases h))
  have u:=fun X=>(S.app X).loadCells NZ d
  have l:=fun c (k:IntKind) (H1:NE)=>S.idx (c:=c) (k:=k) (H1:=H1) d
  have v:IntKind.i64.wrap ((i:Int)+1)=((i+1:Nat):Int):=OD (by omega)
  have V:(Ue (K.take i) item).length<=i:=by
   unfold Ue
   refine Qc (Q0 ..) ?_
   rw [Ok];omega
  have g:Ue (K.take (i+1)) item=if (item == 0||(gt K i).item == item)=true then Ue (K.take i) item++[gt K i] else Ue (K.take i) item:=by
   unfold Ue
   rw [N2 d,List.filter_append,PW d]
   by_cases h:(item == 0||K[i].item == item)=true
   ·rw [Ni h];simp only [List.filter_cons,h,if_true,List.filter_nil]
   ·rw [Ng h];simp only [List.filter_cons,h,if_false,List.filter_nil,Nb,Nz]
  generalize Y:gt K i=x at *
  generalize Ue (K.take i) item=O at *
  have m:lim<=G.length:=by omega
  have D:(item == 0||x.item == item)=true->∃G3,PQ lim none 7 56 false (.slice (Sa H.length) O.length K.length) (.slice (Sa (G.length+1)) 1 1) (G++[Vc (encE x),Vc (encE x)])=some (.slice (Sa H.length) (O.length+1) K.length,G3++[Vc (encE x),Vc (encE x)])/\
    NH G3 H.length=Vc ((Ue (K.take (i+1)) item).flatMap encE++z.drop 7)/\(Ue (K.take (i+1)) item).length=O.length+1/\Chg [] H G3:=fun h=>by
   rw [Ni h] at g
   obtain ⟨G3,e3,r,W⟩:=OQ (G:=G) (R:=H.length) t (Vc ((O++[x]).flatMap encE++z.drop 7))
   have o:=Nas (lim:=lim) (R:=H.length) (bytes:=56) (cap:=K.length) (k:=1) (b:=G.length+1) (dest:=none) (H:=G++[Vc (encE x),Vc (encE x)]) (enc:=encE) (old:=O) (x:=x) (ro:=false) (rest:=z) NZ (by decide)
    (by rw [OC];rfl) (by rw [NQ t];exact B) hl (by omega) I (by omega) (by unfold PU;omega)
   rw [e3] at o
   exact ⟨G3,o,by rw [g];exact r,by rw [g];simp,A.mut W (.inr (Nd _))⟩
  by_cases y:item=0
  ·obtain ⟨G3,e3,r,C,s⟩:=D (by simp [y])
   simp only [n28,r28,q,w,e,f,n,NN,d,l,u,NZ,QZ,Rz,Ry,Rx,Rw,Rv,QY,NI,NF,v,m,N9 y,e3,SB,seval,NC,NJ,NG,NR,reduceCtorEq,NB,place,NA,ND]
   exact J (i+1) _ _ ⟨by omega,q,(by simp only [C,ne_eq,FB,Nat.reduceEqDiff]),e,f,rfl,⟨z.drop 7,by rw [Pw,I,C];omega,by rw [NQ (NM r)];exact r⟩,s.app⟩ (by omega)
  by_cases F:x.item=item
  ·obtain ⟨G3,e3,r,C,s⟩:=D (by simp [F])
   simp only [n28,r28,q,w,e,f,n,NN,d,l,u,NZ,QZ,Rz,Ry,Rx,Rw,Rv,QY,NI,NF,v,m,Nq y,N9 F,e3,SB,seval,NC,NJ,NG,NR,reduceCtorEq,NB,place,NA,ND]
   exact J (i+1) _ _ ⟨by omega,q,(by simp only [C,ne_eq,FB,Nat.reduceEqDiff]),e,f,rfl,⟨z.drop 7,by rw [Pw,I,C];omega,by rw [NQ (NM r)];exact r⟩,s.app⟩ (by omega)
  ·have P:¬(item == 0||x.item == item)=true:=by simp [y,F]
   rw [Ng P] at g
   simp only [n28,r28,q,w,e,f,n,NN,d,l,u,NZ,QZ,Rz,Ry,Rx,Rw,Rv,QY,NI,NF,v,m,Nq y,Nq F,SB,seval,NC,NJ,NG,NR,reduceCtorEq,NB,place,NA,ND]
   exact J (i+1) _ _ ⟨by omega,q,(by simp only [w,g,FB,Nat.reduceEqDiff]),e,f,rfl,⟨z,by rw [g];exact I,by rw [NQ t,g];exact B⟩,A.app⟩ (by omega)
 ·obtain rfl:i=K.length:=by omega
  rw [Oj] at w B
  simp only [n28,r28,q,w,e,f,n,NN,d,SB,seval,NC,NJ,NG,NR,reduceCtorEq,NB,place,NA,ND]
  exact U G z B A
end Go.Proofs.YtkppjkkkdpcgiaaGreat.Fn


namespace Go.Scan
theorem Nhe (S:List Ev):OH (S.map bare)=OH S:=by
 have h1:UW (S.map bare)=UW S:=by unfold UW;rw [List.foldl_map];rfl
 have h2:PL (S.map bare)=PL S:=by unfold PL;rw [h1]
 have a:∀M,RY M (S.map bare)=RY M S:=fun M=>by unfold RY;rw [List.map_map];rfl
 unfold OH
 rw [h2,a]
theorem Nek {S:List Ev}:QV (S.map bare)↔QV S:=by
 unfold QV
 rw [Nu]
 exact and_congr Iff.rfl ⟨fun h s hs=>(h (bare s) (List.mem_map.2 ⟨s,hs,rfl⟩):Sy (bare s)),fun h s hs=>by
  obtain ⟨x,a,rfl⟩:=List.mem_map.1 hs
  exact h x a⟩
end Go.Scan
namespace Go.Proofs.YtkppjkkkdpcgiaaGreat.Fn
open Go.AM Go.AM.Sym Go.Scan
def effL (n:Nat) (L:List Ev):Value×List (List Value):=if L=[] then (.tuple #[Vz,Vi 0],[]) else (.tuple #[.slice (Sa n) L.length (loose 7),Vi 0],[L.flatMap encE])
def effR (a:Bool) (n:Nat) (S:List Ev):Value×List (List Value):=if QV S then effL n (if a then (OH S).1 else (OH S).2) else (.tuple #[Vz,Vi 2],[])
theorem Nvt {a:Bool} {n:Nat} {S S':List Ev} (h:S.map bare=S'.map bare):effR a n S=effR a n S':=by
 have h1:OH S=OH S':=by rw [<-Nhe S,<-Nhe S',h]
 have h2:QV S↔QV S':=by rw [<-Nek,<-Nek (S:=S'),h]
 unfold effR
 rw [h1]
 by_cases b:QV S
 ·rw [Ni b,Ni (h2.1 b)]
 ·rw [Ng b,Ng fun h=>b (h2.2 h)]
theorem Nvq {x y:Ev} (h:QL x=QL y):bare x=bare y:=by
 obtain ⟨a,b,c,d,e,f,g⟩:=x
 obtain ⟨a',b',i,j,k,l,m⟩:=y
 simp only [QL,List.cons.injEq,Value.int.injEq,Ri,and_true] at h
 obtain ⟨rfl,rfl,rfl,rfl,rfl,rfl⟩:=h
 rfl
theorem Nia:∀{S S':List Ev},S.length=S'.length->S.flatMap QL=S'.flatMap QL->S.map bare=S'.map bare
 | [],[],_,_=>rfl
 | [],_::_,h,_=>by cases h
 | _::_,[],h,_=>by cases h
 | x::S,y::S',h,e=>by
   rw [Oy,Oy] at e
   obtain ⟨e1,e2⟩:=List.append_inj e rfl
   rw [N3,N3,Nvq e1,Nia (by simpa using h) e2]
theorem N27 {H:NE} {p:Option Addr} {S S':List Ev} (hl:S.length=S'.length) (h:Sl H QL 6 p S) (h':Sl H QL 6 p S'):S.map bare=S'.map bare:=by
 cases p with
 | none=>
   have e1:S=[]:=h
   have e2:S'=[]:=h'
   rw [e1,e2]
 | some a=>
   by_cases b:S=[]
   ·subst b
    cases S' with
    | nil=>rfl
    | cons _ _=>cases hl
   have d:S'≠[]:=fun e=>b (List.length_eq_zero_iff.1 (by rw [hl,e];rfl))
   obtain ⟨ro,c,k1,_,k3⟩:=h.2 b
   obtain ⟨i,j,f,_,g⟩:=h'.2 d
   rw [k1] at f;cases f
   exact Nia hl (k3.symm.trans (by rw [hl];exact g))
open Classical in
noncomputable def effO (g:FuncId) (as:List Value) (H:NE):Option (Value×List (List Value)):=
 if g=36\/g=27 then match as with
  | [.slice p n c]=>if h:∃S:List Ev,S.length=n/\n<2 ^ 63/\Sl H QL 6 p S then some (effR (decide (g=36)) H.length h.choose) else none
  | _=>none
 else none
theorem effO_no (g:FuncId) (as:List Value) (H:NE) (h1:g≠36) (h2:g≠27):effO g as H=none:=by
 unfold effO
 exact Ng (by rintro (h | h);exact h1 h;exact h2 h)
theorem N1t {g:FuncId} (a:g=36\/g=27) {p:Option Addr} {c:Nat} {S:List Ev} {H:NE} (hs:Sl H QL 6 p S) (hn:S.length<2 ^ 63):effO g [.slice p S.length c] H=some (effR (decide (g=36)) H.length S):=by
 have hex:∃S':List Ev,S'.length=S.length/\S.length<2 ^ 63/\Sl H QL 6 p S':=⟨S,rfl,hn,hs⟩
 unfold effO
 rw [Ni a]
 simp only
 rw [Re hex]
 obtain ⟨k1,_,k3⟩:=hex.choose_spec
 rw [Nvt (N27 k1 k3 hs)]
theorem effO_some {g:FuncId} {as:List Value} {H:NE} {r} (h:effO g as H=some r):(g=36\/g=27)/\∃p c S,as=[.slice p S.length c]/\S.length<2 ^ 63/\Sl H QL 6 p S/\r=effR (decide (g=36)) H.length S:=by
 unfold effO at h
 split at h
 case isFalse=>cases h
 rename_i a
 refine ⟨a, ?_⟩
 split at h
 ·rename_i p n c
  split at h
  ·rename_i hex
   obtain ⟨k1,k2,k3⟩:=hex.choose_spec
   simp only [Option.some.injEq] at h
   exact ⟨p,c,hex.choose,by rw [k1],by omega,k3,h.symm⟩
  ·cases h
 ·cases h
def EffOk [OB]:Prop:=∀g as H,OB.eff g as H=effO g as H
theorem Nqq [OB] (b:EffOk) {g:FuncId} (a:g=36\/g=27) {lim c:Nat} {p:Option Addr} {S:List Ev} {H:NE} {Q:Value->NE->Prop} (hs:Sl H QL 6 p S) (hn:S.length<2 ^ 63) :
  NL E false lim g [.slice p S.length c] H Q=Q (effR (decide (g=36)) H.length S).1 (H++news (effR (decide (g=36)) H.length S).2):=
 Nxj (by rcases a with rfl | rfl<;>simp [E,orc]) (by show OB.eff g _ H=_;rw [b];exact N1t a hs hn)
theorem effR_no {a:Bool} {n:Nat} {S:List Ev} (h:¬QV S):effR a n S=(.tuple #[Vz,Vi 2],[]):=Ng h
theorem Nna {H:NE} (L:List Ev):∃p c,effL H.length L=(.tuple #[.slice p L.length c,Vi 0],(effL H.length L).2)/\Own H.length (H++news (effL H.length L).2) encE 7 p c L/\Chg [] H (H++news (effL H.length L).2):=by
 unfold effL
 by_cases h:L=[]
 ·rw [Ni h]
  exact ⟨none,0,by rw [h];rfl,.inl ⟨h,rfl,rfl⟩,Chg.refl.app⟩
 ·rw [Ng h]
  exact ⟨_,_,rfl,.inr ⟨H.length,rfl,rfl,NV,Nd _⟩,Chg.refl.app⟩
theorem N5v [OB] (a:EffOk) {lim c:Nat} {p:Option Addr} {S:List Ev} {H:NE} {Q:Value->NE->Prop} (hs:Sl H QL 6 p S) (hS:QV S)
  (b:∀G kp kc,Own H.length G encE 7 kp kc (OH S).1->Chg [] H G->Q (.tuple #[.slice kp (OH S).1.length kc,Vi 0]) (G++[])) :
  NL E false lim 36 [.slice p S.length c] H Q:=by
 rw [Nqq a (.inl rfl) hs (by have:=hS.1;omega)]
 have e:effR (decide ((36:Nat)=36)) H.length S=effL H.length (OH S).1:=Ni hS
 rw [e]
 obtain ⟨f,d,e1,e2,e3⟩:=Nna (H:=H) (OH S).1
 rw [e1]
 have:=b _ _ _ e2 e3
 rwa [Nb] at this
theorem Nri [OB] (a:EffOk) {lim c:Nat} {p:Option Addr} {S:List Ev} {H:NE} {Q:Value->NE->Prop} (hs:Sl H QL 6 p S) (hn:S.length<2 ^ 63) (hS:¬QV S) :
  NL E false lim 36 [.slice p S.length c] H Q=Q (.tuple #[Vz,Vi 2]) H:=by
 rw [Nqq a (.inl rfl) hs hn,effR_no hS]
 simp [news]
theorem Nxg [OB] (a:EffOk) {lim c:Nat} {p:Option Addr} {S:List Ev} {H:NE} {Q:Value->NE->Prop} (hs:Sl H QL 6 p S) (hS:QV S)
  (b:∀G kp kc,Own H.length G encE 7 kp kc (OH S).2->Chg [] H G->Q (.tuple #[.slice kp (OH S).2.length kc,Vi 0]) (G++[])) :
  NL E false lim 27 [.slice p S.length c] H Q:=by
 rw [Nqq a (.inr rfl) hs (by have:=hS.1;omega)]
 have e:effR (decide ((27:Nat)=36)) H.length S=effL H.length (OH S).2:=Ni hS
 rw [e]
 obtain ⟨f,d,e1,e2,e3⟩:=Nna (H:=H) (OH S).2
 rw [e1]
 have:=b _ _ _ e2 e3
 rwa [Nb] at this
end Go.Proofs.YtkppjkkkdpcgiaaGreat.Fn


namespace Go.Proofs.YtkppjkkkdpcgiaaGreat.Fn
open Go.AM Go.AM.Sym Go.Net Go.Scan
def Ni1:List Value:=Tt none 0 0 none 0 0 none 0 0 0 none 0 0
theorem Nda:Ni1=[Vz,Vz,Vz,Vi 0,Vz]:=rfl
theorem Nuy {P:List Int} {L:List Leg} {S:List Ev} {item now:Int} (h:R6 P L=0) (hS:QV S) (h1:1<=item) (h2:item<=999999) (c:0<=now) (d:now<=OA) (b:Ue (OH S).1 item≠[]) :
  UA P L S item now=WX P L (Ue (OH S).1 item):=by
 have a:¬(¬QV S\/item<1\/999999<item\/now<0\/OA<now):=by
  rintro (h | h | h | h | h)
  ·exact h hS
  all_goals omega
 unfold UA
 rw [Ng (by simpa using h),Ng a,Ng b]
theorem Nnv {α:Type} {H:NE} {enc:α->List Value} {e R:Nat} {l:List α} {z:List Value} (he:∀x,(enc x).length=e) {ro:Bool} (h:NH H R=.cells ro (l.flatMap enc++z)):Sl H enc e (Sa R) l:=
 ⟨rfl,fun _=>⟨ro,_,h,by rw [Nl,QM he];simp,by rw [O1,<-QM he,List.take_left]⟩⟩
theorem Ndo [OB] (hE:EffOk) {lim c cp cL:Nat} {p pp pL:Option Addr} {P:List Int} {L:List Leg} {S:List Ev} {item now:Int} {H:NE} {Q:Value->NE->Prop} (hN:NetIn H pp pL P L) (hs:Sl H QL 6 p S) (hn:S.length<2 ^ 63) (hl:lim<=H.length)
  (d:∀G,UA P L S item now≠0->Chg [] H G->Q (.tuple #[.agg Ni1.toArray,Vi (UA P L S item now)]) G)
  (ag:∀G pe ce q cq r cr pl cl (es tw:List Ev) (ks:List Int) (ss:List Stp),es=Ue (OH S).1 item->tw=Ue (OH S).2 item->ks=R5 P L es->ss=QU P L es ks->UA P L S item now=0->Chg [] H G->Wu H.length G encE 7 pe es->Ua 7 ce es.length->Wu H.length G encI 1 q ks->Wu H.length G enc3 3 r ss->Wu H.length G TF 5 pl (TU P L es tw ks ss now)->
   Q (.tuple #[.agg (Tt pe es.length ce q ks.length cq r ss.length cr (Td P L es ks) pl (TU P L es tw ks ss now).length cl).toArray,Vi 0]) G) :
  NL E false lim 17 [.agg (Tu pp P.length cp pL L.length cL).toArray,.slice p S.length c,Vi item,Vi now] H Q:=by
 refine RG (by decide) e17 rfl ?_
 rw [b17,c17]
 have hv:=fun X (mp:Bool) (lim:Nat) (Q:Value->NE->Prop)=>Ndu (mp:=mp) (lim:=lim) (cp:=cp) (cl:=cL) (Q:=Q) (hN.app X)
 rw [Nda] at d
 by_cases K:R6 P L=0
 case neg=>
  rw [Nux K] at d
  simp only [n17,r17,PS,NI,hv,Nq K,NF,hl,SB,seval,NC,NJ,NG,NR,reduceCtorEq,NB,place,NA,ND]
  exact d _ K Chg.refl.app
 simp only [n17,r17,PS,NI,hv,N9 K,NF,hl,SB,seval,NC,NJ,NG,NR,reduceCtorEq,NB,place,NA,ND]
 by_cases hS:QV S
 case neg=>
  rw [Nhq K (.inl hS)] at d
  rw [Nri hE (hs.app _) hn hS]
  simp only [n17,r17,NF,hl,SB,seval,NC,NJ,NG,NR,reduceCtorEq,NB,place,NA,ND]
  exact d _ (by decide) Chg.refl.app
 refine N5v hE (hs.app _) hS fun G1 kp kc hO m=>?_
 have ax:=m.len
 simp at ax
 have bh:lim<=G1.length:=by omega
 have t:=fun h=>Nhq (P:=P) (L:=L) (S:=S) (item:=item) (now:=now) K (.inr h)
 have k8:=m.cells (OC (X:=[Vc (Tu pp P.length cp pL L.length cL),Vc [Vz,Vz,Vz,Vi 0,Vz]]) (j:=1)) (by simp)
 have x8:=fun X=>(OJ.refl.app (X:=X)).cells k8
 obtain ⟨G8,e8,h8,m8⟩:=OQ (NM k8) (Vc [Vz,Vz,Vz,Vi 0,Vz])
 have y8:=fun X=>(OJ.refl.app (X:=X)).cells h8
 have B:Chg [] H G8:=m.pre.mut m8 (.inr (by omega))
 have i:lim<=H.length+1:=by omega
 refine NK ?_
 unfold OA at t
 by_cases V:item<1
 ·rw [t (.inl V)] at d
  simp only [n17,r17,x8,e8,y8,i,NF,gt_iff_lt,N9 V,SB,seval,NC,NJ,NG,NR,reduceCtorEq,NB,place,NA,ND]
  exact d _ (by decide) B.app
 by_cases Y:999999<item
 ·rw [t (.inr (.inl Y))] at d
  simp only [n17,r17,x8,e8,y8,i,NF,gt_iff_lt,Nq V,N9 Y,SB,seval,NC,NJ,NG,NR,reduceCtorEq,NB,place,NA,ND]
  exact d _ (by decide) B.app
 by_cases c3:now<0
 ·rw [t (.inr (.inr (.inl c3)))] at d
  simp only [n17,r17,x8,e8,y8,i,NF,gt_iff_lt,Nq V,Nq Y,N9 c3,SB,seval,NC,NJ,NG,NR,reduceCtorEq,NB,place,NA,ND]
  exact d _ (by decide) B.app
 by_cases c4:1051898399<now
 ·rw [t (.inr (.inr (.inr c4)))] at d
  simp only [n17,r17,x8,e8,y8,i,NF,gt_iff_lt,Nq V,Nq Y,Nq c3,N9 c4,SB,seval,NC,NJ,NG,NR,reduceCtorEq,NB,place,NA,ND]
  exact d _ (by decide) B.app
 simp only [n17,r17,x8,e8,y8,i,NF,gt_iff_lt,Nq V,Nq Y,Nq c3,Nq c4,SB,seval,NC,NJ,NG,NR,reduceCtorEq,NB,place,NA,ND]
 have b0:=Nd9 S
 have bq:=hS.1
 have a0:=Nry (S:=S) (item:=item)
 have F:=Nbj (P:=P) (L:=L) (S:=S) (item:=item) (now:=now) K hS (by omega) (by omega) (by omega) (by unfold OA;omega)
 refine Ny2 (lim:=lim) ((hO.sl NZ).app _) (by omega) (by simp;omega) fun G2 z hz v=>?_
 have hle:=Nuy (P:=P) (L:=L) (S:=S) (item:=item) (now:=now) K hS (by omega) (by omega) (by omega) (by unfold OA;omega)
 have aj:Vs (Ue (OH S).1 item):=fun e he=>⟨(Ni7 hS (by omega) he).2.1,(Ni7 hS (by omega) he).2.2.1⟩
 obtain ⟨es,N⟩:∃es,es=Ue (OH S).1 item:=⟨_,rfl⟩
 have bv:es.length<=(OH S).1.length:=by rw [N];exact (MQ _ _).length_le
 rw [<-N] at hz F a0 hle aj⊢
 rw [Nb] at hz v⊢
 have sE:Sl G2 encE 7 (Sa G1.length) es:=Nnv NZ hz
 have u:=v.cells k8 (by simp)
 have k:=m.pre.trans v
 have bz:=v.len
 have an:=fun X=>(OJ.refl.app (X:=X)).cells u
 obtain ⟨G9,e9,h9,m9⟩:=OQ (NM u) (Vc [Vz,Vz,Vz,Vi 0,Vz])
 have y9:=fun X=>(OJ.refl.app (X:=X)).cells h9
 have ar:Chg [] H G9:=k.mut m9 (.inr (by omega))
 refine NK ?_
 by_cases Z:es=[]
 ·rw [Ni Z] at F
  rw [F] at d
  subst Z
  simp only [n17,r17,an,e9,y9,i,NF,Ns,show lim<=G2.length by omega,SB,seval,NC,NJ,NG,NR,reduceCtorEq,NB,place,NA,ND]
  exact d _ (by decide) ar.app
 have bu:0<es.length:=List.length_pos_iff.2 Z
 have az:¬((es.length:Nat):Int)=0:=by omega
 rw [Ng Z] at F
 have k4:=m.cells (NV (X:=[Vc (Tu pp P.length cp pL L.length cL),Vc [Vz,Vz,Vz,Vi 0,Vz]])) (by simp)
 have U:=v.cells k4 (by simp)
 have bf:=fun X=>(OJ.refl.app (X:=X)).cells U
 simp only [n17,r17,an,bf,PS,NI,i,NF,Nq az,show lim<=G2.length by omega,SB,seval,NC,NJ,NG,NR,reduceCtorEq,NB,place,NA,ND]
 replace hle:=hle Z
 rw [hle] at d ag
 have ae:=hN.sim fun b ro x hb=>k.cells hb (by simp)
 refine N5x (lim:=lim) (ae.app _) (by simp;omega) (sE.app _) (by omega) (fun G3 s f=>?_) (fun G3 q cq r cr s f hq hr=>?_)
 ·have z8:=f.pre.cells u (by simp)
  have b6:=fun X=>(OJ.refl.app (X:=X)).cells z8
  have w:=f.cells NV (by simp)
  have y:=fun X=>(OJ.refl.app (X:=X)).cells w
  obtain ⟨Ga,ea,o,J⟩:=OQ (NM w) (Vc [.slice (Sa G1.length) es.length (OH S).1.length,Vz,Vz,Vi 0,Vz])
  have ao:=J.cells z8 (by have:=NM u;omega)
  have ap:=fun X=>(OJ.refl.app (X:=X)).cells ao
  obtain ⟨Gb,eb,hb,mb⟩:=OQ (NM ao) (Vc [Vz,Vz,Vz,Vi 0,Vz])
  have zb:=fun X=>(OJ.refl.app (X:=X)).cells hb
  refine NK ?_
  simp only [n17,r17,y,ea,ap,eb,zb,i,NF,Nq s,show lim<=G2.length by omega,SB,seval,NC,NJ,NG,NR,reduceCtorEq,NB,place,NA,ND]
  exact d _ s ((k.trans f.pre).mut J (.inr (by have:=k.len;omega)) |>.mut mb (.inr (by omega))).app
 obtain ⟨ks,O⟩:∃ks,ks=R5 P L es:=⟨_,rfl⟩
 obtain ⟨ss,I⟩:∃ss,ss=QU P L es ks:=⟨_,rfl⟩
 rw [<-O] at hq hr⊢
 rw [<-I] at hr⊢
 have z8:=f.pre.cells u (by simp)
 have z4:=f.pre.cells U (by simp)
 have w:=f.cells NV (by simp)
 have y:=fun X=>(OJ.refl.app (X:=X)).cells w
 obtain ⟨Ga,ea,o,J⟩:=OQ (NM w) (Vc [.slice (Sa G1.length) es.length (OH S).1.length,.slice q ks.length cq,.slice r ss.length cr,Vi (Td P L es ks),Vz])
 have ay:=f.len
 simp at ay
 have bp:H.length+2<=G2.length:=by have:=m.len;simp at this;omega
 have M:Chg [] H Ga:=(k.trans f.pre).mut J (.inr (by have:=k.len;omega))
 have t:=M.len
 have a8:=J.cells z8 (by have:=NM u;omega)
 have a4:=J.cells z4 (by have:=NM U;omega)
 have a1:=hq.mut J (by simp)
 have a3:=hr.mut J (by simp)
 have bo:=NM hz
 have a9:=(Chg.refl.mut (A:=[G2.length]) J (.inl (by simp))).sl (f.pre.sl sE (fun a _ _ h=>(by cases h))) (fun a o _=>by cases o;simp;omega)
 refine NK ?_
 simp only [n17,r17,y,ea,i,NF,show lim<=G2.length by omega,SB,seval,NC,NJ,NG,NR,reduceCtorEq,NB,place,NA,ND]
 refine Nxg hE ((M.sl hs (fun a _ _ h=>(by cases h))).app _) hS fun G4 tp tc hT l=>?_
 have b8:=l.pre.cells a8 (by simp)
 have b4:=l.pre.cells a4 (by simp)
 have b13:=l.pre.cells o (by simp)
 have bd:=fun X=>(OJ.refl.app (X:=X)).cells b8
 have bc:=fun X=>(OJ.refl.app (X:=X)).cells b4
 have am:=fun X=>(OJ.refl.app (X:=X)).cells b13
 have r13:TI (Vc [.slice (Sa G1.length) es.length (OH S).1.length,.slice q ks.length cq,.slice r ss.length cr,Vi (Td P L es ks),Vz])=true:=by simp [TI]
 have r4:TI (Vc (Tu pp P.length cp pL L.length cL))=true:=by simp [TI,Tu]
 refine NK ?_
 simp only [n17,r17,bd,bc,am,r13,r4,PS,NI,SB,seval,NC,NJ,NG,NR,reduceCtorEq,NB,place,NA,ND]
 have ak:Vs (Ue (OH S).2 item):=fun e he=>by
  have hm:=((MR (show item≠0 by omega)).1 he).1
  have ht:=Nhc hS.2 (.inr hm)
  obtain ⟨s0,a6,e0⟩:=MB (.inr hm)
  have h6:=(hS.2 s0 a6).2.2.2.2.2.2
  have e6:e.seen=s0.seen:=by rw [<-e0]
  unfold Wi at h6
  unfold OA
  omega
 refine Ny2 (lim:=lim) ((hT.sl NZ).app _) (by omega) (by simp;have:=l.pre.len;omega) fun G5 z' T g=>?_
 obtain ⟨tw,htw⟩:∃tw,tw=Ue (OH S).2 item:=⟨_,rfl⟩
 have bw:tw.length<=(OH S).2.length:=by rw [htw];exact (MQ _ _).length_le
 rw [<-htw] at T ak⊢
 rw [Nb] at T g⊢
 refine ⟨Nk6 fun j hj=>?_, ?_⟩
 ·have aq:OE (List.length G4) [] G4=G4:=rfl
  rw [aq] at hj⊢
  obtain ⟨ro,x,hx⟩:=UD hj
  rw [Nb,g.other j (NM hx) (by simp)]
 have c8:=g.cells b8 (by simp)
 have bm:=g.cells b4 (by simp)
 have c13:=g.cells b13 (by simp)
 have l4:=l.pre.len
 have l5:=g.len
 have ad:Chg [] H G5:=(M.trans l.pre).trans g
 have ah:=(a1.chg (A:=[]) l.pre (by simp)).chg (A:=[]) g (by simp)
 have ai:=(a3.chg (A:=[]) l.pre (by simp)).chg (A:=[]) g (by simp)
 have al:=g.sl (l.pre.sl a9 (fun a _ _ h=>(by cases h))) (fun a _ _ h=>(by cases h))
 have bb:Sl G5 encE 7 (Sa G4.length) tw:=Nnv NZ T
 have D:=YV (P:=P) (L:=L) (es:=es)
 rw [<-O] at D
 have R:=Nd1 (P:=P) (L:=L) D
 rw [<-I] at R
 have bx:ks.length<=es.length:=Ndm D.2
 have bk:ss.length<=ks.length:=by rw [I];unfold QU;rw [Nu,Pq];omega
 refine NK ?_
 simp only [n17,r17,SB,seval,NC,NJ,NG,NR,reduceCtorEq,NB,place,NA,ND]
 have av:=hN.sim fun b ro x hb=>ad.cells hb (by simp)
 refine Nuz (lim:=lim) (ct:=(OH S).2.length) (c:=Td P L es ks) (al.app _) (.inr ⟨by omega,by omega⟩) (bb.app _) (av.app _) (ah.1.app _) (ai.1.app _) (by simp;omega) (by omega) (by omega) aj ak R.1 R.2 D.mem (by omega) (by omega) ⟨by omega,by unfold OA;omega⟩ fun G6 pl cl n C=>?_
 have d8:=n.pre.cells c8 (by simp)
 have aa:=n.pre.cells c13 (by simp)
 have ab:=fun X=>(OJ.refl.app (X:=X)).cells aa
 have bn:=fun X=>(OJ.refl.app (X:=X)).cells d8
 obtain ⟨Ge,ee,he,W⟩:=OQ (NM aa) (Vc (Tt (Sa G1.length) es.length (OH S).1.length q ks.length cq r ss.length cr (Td P L es ks) pl (TU P L es tw ks ss now).length cl))
 have ac:=W.cells d8 (by omega)
 have xe:=fun X=>(OJ.refl.app (X:=X)).cells he
 have be:=fun X=>(OJ.refl.app (X:=X)).cells ac
 obtain ⟨Gf,ef,hf,mf⟩:=OQ (NM ac) (Vc (Tt (Sa G1.length) es.length (OH S).1.length q ks.length cq r ss.length cr (Td P L es ks) pl (TU P L es tw ks ss now).length cl))
 have xf:=fun X=>(OJ.refl.app (X:=X)).cells hf
 simp only [Tt] at ee xe ef xf
 refine NK ?_
 simp only [n17,r17,ab,ee,xe,be,ef,xf,i,NF,show lim<=G2.length by omega,SB,seval,NC,NJ,NG,NR,reduceCtorEq,NB,place,NA,ND]
 have l6:=n.pre.len
 have au:H.length<=G1.length:=by have:=m.pre.len;omega
 have ba:=(((Chg.refl.mut (A:=[G2.length,H.length+1]) W (.inl (by simp))).mut mf (.inl (by simp))).sl (n.pre.sl al (fun a _ _ h=>(by cases h))) (fun a o _=>by cases o;simp;omega)).app []
 have a2:=((((ah.chg (A:=[]) n.pre (by simp)).mut W (by simp)).mut mf (by simp;omega)).le (n':=H.length) (by simp;omega)).app []
 have a5:=((((ai.chg (A:=[]) n.pre (by simp)).mut W (by simp)).mut mf (by simp;omega)).le (n':=H.length) (by simp;omega)).app []
 have bg:=NM c13
 have bs:=NM c8
 have aw:=((C.mut W (fun a o=>by have:=(C.block o).1;simp at this;omega)).mut mf (fun a o=>by have:=(C.block o).1;simp at this;omega)).app []
 refine ag _ _ _ q cq r cr pl cl es tw ks ss N htw O I (s) (((ad.trans n.pre).mut W (.inr (by omega))).mut mf (.inr (by omega))).app ⟨ba,fun a o=>by cases o;exact au⟩ (.inr ⟨by omega,by omega⟩) a2 a5 ⟨aw.sl RJ,fun a o=>by have:=(C.block o).1;simp at this;omega⟩
def Naz (L:List Leg):Prop:=(∀l∈L,l.dst=l.frm+1)/\∀a∈L,∀b∈L,a.frm=b.frm->a=b
section
variable {L:List Leg} (hL:Naz L)
include hL
theorem Naz.len:∀{w:List (Leg×Int)} {p t q u:Int},RV L p t w q u->q=p+w.length
 | [],p,t,q,u,h=>by obtain ⟨rfl,_⟩:=h;simp
 | (l,a)::w,p,t,q,u,h=>by
   obtain ⟨h1,h2,c,d,b⟩:=h
   have e:=hL.1 l h1
   have:=Naz.len b
   simp only [Nm]
   omega
theorem Naz.first:∀{w w':List (Leg×Int)} {p t b q u c:Int},RV L p t w q u->ZP t w->RV L p b w' q c->t<=b->u<=c/\w.map (·.1)=w'.map (·.1)
 | [],w',p,t,b,q,u,c,h,_,h',ht=>by
   have e:=hL.len h'
   obtain ⟨rfl,rfl⟩:=h
   have:w'=[]:=List.length_eq_zero_iff.1 (by omega)
   subst this
   obtain ⟨_,rfl⟩:=h'
   exact ⟨ht,rfl⟩
 | (l,a)::w,[],p,t,b,q,u,c,h,_,h',ht=>by
   have e:=hL.len h
   obtain ⟨rfl,_⟩:=h'
   simp only [Nm] at e
   omega
 | (l,a)::w,(l',a')::w',p,t,b,q,u,c,h,hn,h',ht=>by
   obtain ⟨h1,h2,o,r,i⟩:=h
   obtain ⟨d,m,f,n,g⟩:=h'
   obtain ⟨j,k⟩:=hn
   obtain rfl:l=l':=hL.2 l h1 l' d (by omega)
   have:=(Sg j).2.2 a' f (by omega)
   obtain ⟨k1,k2⟩:=Naz.first i k g (by omega)
   exact ⟨k1,by rw [N3,N3,k2]⟩
theorem Naz.best {w:List (Leg×Int)} {p t q u:Int} (h:RV L p t w q u) (hn:ZP t w) (g:u<=t+86400):TZ L p t q u/\BestW L p t q u w:=by
 have key:∀j v',Go.Net.Way L j p t q v'->u<=v'/\w.length=j:=fun j v' d=>by
  obtain ⟨w',e,b⟩:=d.isWay
  have k:=hL.first h hn b (Oq _)
  have:=P9 List.length k.2
  rw [Nu,Nu] at this
  exact ⟨k.1,by omega⟩
 refine ⟨.inr ⟨⟨⟨_,h.way⟩,g⟩,fun v ⟨⟨j,d⟩,_⟩=>(key j v d).1⟩,h,fun j v' d _=>by have:=(key j v' d).2;omega,fun w' v' b _ _ c=>?_,hn⟩
 have k:=hL.first h hn b (Oq _)
 have e:Z6 w'=Z6 w:=by
  unfold Z6
  have:=P9 (List.map fun l:Leg=>l.id) k.2
  rw [List.map_map,List.map_map] at this
  exact this.symm
 rw [e] at c
 exact f _ c
where
 f:∀x:List Int,¬Nmc x x
 | [],h=>by cases h
 | a::x,h=>by rcases h with h | ⟨_,h⟩;omega;exact f x h
theorem Naz.way {P:List Int} {w:List (Leg×Int)} {p t q u:Int} (h:RV L p t w q u) (hn:ZP t w) (a:u<=t+86400) (b:0<=u) (he:V4 P L p q t=0):ZU P L p q t=w:=
 Nds ⟨he,u,b,(hL.best h hn a).1,(hL.best h hn a).2⟩
theorem Naz.arr {P:List Int} {w:List (Leg×Int)} {p t q u:Int} (h:RV L p t w q u) (hn:ZP t w) (a:u<=t+86400) (he:V4 P L p q t=0):Nf6 P L p t q=u:=by
 obtain ⟨d,hp,b,c,_⟩:=Mq he
 exact SL.uniq (Ndn (VU d) hp b c) (hL.best h hn a).1
end
theorem N3k {P:List Int} {L:List Leg} {a b:Ev} {v:Int} (c:a.kind≠4) (e:b.place∈P) (he:V4 P L a.place a.place a.time=0) (f:Nf6 P L a.place a.time b.place=v) (g:0<=v) (d:v<=b.time):QX P L a b=0:=by
 unfold QX
 rw [Ng c]
 by_cases hp:a.place=b.place
 ·rw [Ni hp]
 rw [Ng hp,Ng (by simpa using e),Ng (by simpa using he),f,Ng (by omega)]
 omega
section
variable {P:List Int} {L:List Leg} {es:List Ev}
theorem Nj3 {ks:List Int} (h:Nc7 es.length ks):0<=Td P L es ks:=by
 have h1:=Ndm h.2
 have h2:=ZX (P:=P) (L:=L) (es:=es) (ks:=ks) (ks.length-1)
 unfold Td QU
 omega
def N2d (P:List Int) (L:List Leg) (es:List Ev):Int:=Td P L es (R5 P L es)
theorem Nj9:0<=N2d P L es:=Nj3 YV
def Nnr (n:Nat):List Int:=(List.range n).map Int.ofNat
theorem V6 {n:Nat}:(Nnr n).length=n:=by simp [Nnr]
theorem Nav {n i:Nat} (h:i<n):gt (Nnr n) i=(i:Int):=by rw [PW (by simpa [Nnr] using h)];simp [Nnr]
theorem N5j {n:Nat}:Nc7 n (Nnr n):=⟨fun h=>by rwa [V6] at h,fun i hi=>by
 rw [V6] at hi
 unfold Ncw
 rw [Nav hi]
 refine ⟨by omega,by omega,fun h=>?_⟩
 rw [Nav (by omega)]
 omega⟩
theorem Nhb:∀(l:List (Int×Int×Int)),(∀x∈l,x.2.2=0)->UL l=0
 | [],_=>rfl
 | x::l,h=>by rw [UL,h x (by simp),Nhb l fun y a=>h y (by simp [a])];rfl
theorem N2j (h:∀i,i+1<es.length->QX P L (gt es i) (gt es (i+1))=0):Td P L es (Nnr es.length)=0:=by
 unfold Td
 rw [V6,Nhb]
 ·omega
 ·intro x a
  unfold QU at a
  obtain ⟨i,hi,rfl⟩:=List.mem_map.1 a
  have hi:=List.mem_range.1 hi
  rw [V6] at hi
  unfold U7
  rw [Nav (by omega),Nav (by omega)]
  exact h i (by omega)
theorem Nv8 (h:∀i,i+1<es.length->QX P L (gt es i) (gt es (i+1))=0):N2d P L es=0/\(R5 P L es).length=es.length:=by
 have b:=N2j h
 have h1:=Nj9 (P:=P) (L:=L) (es:=es)
 have h2:=Ndm (YV (P:=P) (L:=L) (es:=es)).2
 rcases N2c (P:=P) (L:=L) (N5j (n:=es.length)) with a | ⟨a,hc | ⟨hc,_⟩⟩
 ·rw [b] at a;exact absurd a (by unfold N2d at h1;omega)
 ·rw [V6] at hc;rw [b] at a;exact ⟨a,by omega⟩
 ·rw [V6] at hc;rw [b] at a;exact ⟨a,by omega⟩
end
theorem Nq5 {P:List Int} {L:List Leg} {es:List Ev} (h:∀i,i+1<es.length->QX P L (gt es i) (gt es (i+1))=0):R5 P L es=Nnr es.length/\Td P L es (R5 P L es)=0:=by
 obtain ⟨h1,h2⟩:=Nv8 h
 have hk:=YV (P:=P) (L:=L) (es:=es)
 refine ⟨?_,h1⟩
 refine Ph (by rw [V6,h2]) fun i hi a=>?_
 rw [<-PW hi,<-PW a,Nav (by rw [V6] at a;exact a)]
 have mono:∀d i,i+d<(R5 P L es).length->gt (R5 P L es) i+d<=gt (R5 P L es) (i+d):=fun d=>by
  induction d with
  | zero=>intro i _;simp
  | succ d ih=>
    intro i hd
    have k1:=ih i (by omega)
    have k2:gt (R5 P L es) (i+(d+1)-1)<gt (R5 P L es) (i+(d+1)):=(hk.2 (i+(d+1)) hd).2.2 (by omega)
    rw [show i+(d+1)-1=i+d by omega] at k2
    omega
 have b:=Nq9 hk.2 i hi
 have c:=mono (es.length-1-i) i (by omega)
 have e:=(hk.2 (i+(es.length-1-i)) (by omega)).2.1
 omega
def k1L:Leg:=⟨1,1,2,600,60,0,1000,127⟩
def k2L:Leg:=⟨2,2,3,700,100,0,1000,127⟩
def PX:List Int:=[1,2,3]
def LX:List Leg:=[k1L,k2L]
theorem N13:Naz LX:=⟨by decide,by decide⟩
theorem nk1:Si k1L 500=some 600:=nx 0 rfl (by decide) (by decide) (by decide) (by decide) (by decide)
theorem nk2:Si k2L 660=some 700:=nx 0 rfl (by decide) (by decide) (by decide) (by decide) (by decide)
theorem N9y:RV LX 1 500 [(k1L,600),(k2L,700)] 3 800:=by
 obtain ⟨a,_⟩:=Sg nk1
 obtain ⟨b,_⟩:=Sg nk2
 exact ⟨by simp [LX],rfl,a,by decide,by simp [LX],rfl,b,by decide,rfl,by decide⟩
theorem Nzi:ZP 500 [(k1L,600),(k2L,700)]:=⟨nk1,nk2,trivial⟩
theorem Ofw:Nf6 PX LX 1 500 3=800:=N13.arr N9y Nzi (by decide) (by decide)
theorem wX:ZU PX LX 1 3 500=[(k1L,600),(k2L,700)]:=N13.way N9y Nzi (by decide) (by decide) (by decide)
def Nb7 (p t k:Int):Ev:=⟨7,p,p,k,t,t,0⟩
def evX (p t k:Int):Ev:=⟨7,p,p,k,t,t,t⟩
def SA:List Ev:=[Nb7 1 500 2,Nb7 3 800 2]
def SBx:List Ev:=[Nb7 1 500 2,Nb7 3 800 2,Nb7 1 501 2]
def SDx:List Ev:=[Nb7 1 500 2,Nb7 1 505 4,Nb7 1 600 2]
def EA:List Ev:=[evX 1 500 2,evX 3 800 2]
def ED:List Ev:=[evX 1 500 2,evX 1 505 4,evX 1 600 2]
theorem N53:Ue (OH SA).1 7=EA:=by decide
theorem Oao:Ue (OH SBx).1 7=EA:=by decide
theorem Oan:Ue (OH SDx).1 7=ED:=by decide
theorem N61:Ue (OH SA).2 7=[]:=by decide
theorem Obe:Ue (OH SBx).2 7=[evX 1 501 2]:=by decide
theorem Obd:Ue (OH SDx).2 7=[]:=by decide
theorem prX:QX PX LX (evX 1 500 2) (evX 3 800 2)=0:=N3k (v:=800) (by decide) (by decide) (by decide) Ofw (by decide) (by decide)
theorem Nq6:R5 PX LX EA=[0,1]/\Td PX LX EA [0,1]=0:=by
 obtain ⟨h1,h2⟩:=Nq5 (P:=PX) (L:=LX) (es:=EA) fun i hi=>by
  have:i=0:=by simp [EA] at hi;omega
  subst this;exact prX
 have e:R5 PX LX EA=[0,1]:=h1.trans rfl
 exact ⟨e,by rw [<-e];exact h2⟩
theorem Niw:QU PX LX EA [0,1]=[(0,1,0)]:=by
 show [((0:Int),(1:Int),QX PX LX (evX 1 500 2) (evX 3 800 2))]=_
 rw [prX]
theorem N9j:R5 PX LX ED=[0,1]:=by decide
theorem N25:QU PX LX ED [0,1]=[(0,1,0)]:=by decide
def TL:An:=⟨5,1,0,2,0⟩
def Nwn:An:=⟨6,0,0,1,1⟩
def Naw:An:=⟨7,1,0,3,28000⟩
def Ngb:An:=⟨1,2,0,1,0⟩
theorem N9n (tw:List Ev):TU PX LX EA tw [0,1] [(0,1,0)] 900=QK EA tw 0++(TL::QK EA tw 1)/\TU PX LX EA tw [0,1] [(0,1,0)] 28800=QK EA tw 0++(TL::QK EA tw 1)++[Naw]:=by
 have e0:atN PX LX EA tw [0,1] [(0,1,0)] 0=QK EA tw 0:=rfl
 have e2:SQ PX LX EA (0,1,0)=[TL]:=by
  have:SQ PX LX EA (0,1,0)=TQ PX LX EA (0,1,0):=rfl
  rw [this]
  have:TQ PX LX EA (0,1,0)=(ZU PX LX 1 3 500).dropLast.map (Xq (0,1,0)):=rfl
  rw [this,wX];rfl
 have e1:atN PX LX EA tw [0,1] [(0,1,0)] 1=SQ PX LX EA (0,1,0)++QK EA tw 1:=rfl
 rw [e2] at e1
 have e3:∀now,TU PX LX EA tw [0,1] [(0,1,0)] now=atN PX LX EA tw [0,1] [(0,1,0)] 0++(atN PX LX EA tw [0,1] [(0,1,0)] 1++[])++Uz EA [0,1] now:=fun now=>rfl
 constructor
 ·rw [e3,e0,e1,show Uz EA [0,1] 900=[] from by decide];simp
 ·rw [e3,e0,e1,show Uz EA [0,1] 28800=[Naw] from by decide];simp
theorem N72:TU PX LX EA [] [0,1] [(0,1,0)] 900=[TL]:=(N9n []).1
theorem N71:TU PX LX EA [evX 1 501 2] [0,1] [(0,1,0)] 900=[Nwn,TL]:=(N9n _).1.trans (by decide)
theorem N70:TU PX LX EA [] [0,1] [(0,1,0)] 28800=[TL,Naw]:=(N9n []).2
theorem N7z:TU PX LX ED [] [0,1] [(0,1,0)] 900=[Ngb]:=rfl
theorem Nhh [OB] {mp:Bool} {lim:Nat} {p t k:Int} {H:NE} {Q:Value->NE->Prop}:NL E mp lim 31 [Vi p,Vi t,.int .u8 k] H Q=Q (.agg #[Vi 7,Vi p,Vi p,.int .u8 k,Vi t,Vi t]) H:=by
 refine pc (by decide) e31 rfl rfl ?_
 rw [b31,c31]
 simp only [n31,r31,NF,SB,seval,NC,NJ,NG,NR,reduceCtorEq,NB,place,NA,ND]
theorem UG [OB] {lim:Nat} {H:NE} {Q:Value->NE->Prop} (hl:lim<=H.length) (c:∀G a b,OJ H G->NetIn G a b PX LX->Q (.agg (Tu a 3 3 b 2 2).toArray) G):NL E false lim 39 [] H Q:=by
 refine RG (by decide) e39 rfl ?_
 rw [b39,c39]
 simp only [n39,r39,NF,hl,SB,seval,NC,NJ,NG,NR,reduceCtorEq,NB,place,NA,ND]
 refine c _ (Sa (H.length+1)) (Sa (H.length+2)) OJ.refl.app ⟨Sl.row (ro:=false) Sj (by rw [OC];rfl),Sl.row (ro:=false) OI (by rw [OC];rfl),by decide,by decide, ?_⟩
 intro l hl
 simp only [LX,Nr,Ox,or_false] at hl
 rcases hl with rfl | rfl<;>(unfold By;decide)
theorem Ofy (x y:An):aEq (.agg [.int .u8,.int .i64,.int .i64,.int .i64,.int .i64]) (.agg (TF x).toArray) (.agg (TF y).toArray)=some (decide (x=y)):=by
 obtain ⟨a,b,c,d,e⟩:=x
 obtain ⟨a',b',f,g,h⟩:=y
 simp only [aEq,TF,PG,TC,An.mk.injEq]
 simp
 rfl
theorem MW [OB] {mp:Bool} {lim ca cb:Nat} {p q:Option Addr} {a b:List An} {H:NE} {Q:Value->NE->Prop} (n:Sl H TF 5 p a) (o:Sl H TF 5 q b) (hn:a.length<2 ^ 62) :
  NL E mp lim 30 [.slice p a.length ca,.slice q b.length cb] H Q=Q (.bool (decide (a=b))) H:=by
 refine pc (by decide) e30 rfl rfl ?_
 rw [b30,c30]
 by_cases hl:a.length=b.length
 case neg=>
  have h1:¬(a.length:Int)=(b.length:Int):=by omega
  simp only [n30,r30,Nq h1,SB,seval,NC,NJ,NG,NR,reduceCtorEq,NB,place,NA,ND]
  congr 1
  rw [eq_comm,decide_eq_false_iff_not]
  rintro rfl
  exact hl rfl
 have h1:(a.length:Int)=(b.length:Int):=by omega
 simp only [n30,r30,N9 h1,SB,seval,NC,NJ,NG,NR,reduceCtorEq,NB,place,NA,ND]
 refine NP (fun j=>a.length-j) (fun j fr G=>j<=a.length/\fr 0=.slice p a.length ca/\fr 1=.slice q b.length cb/\fr 12=Vi a.length/\fr 13=Vi j/\OJ H G/\∀i,i<j->gt a i=gt b i) 0 ⟨Nw _,rfl,rfl,rfl,by rfl,OJ.refl.app,fun i hi=>by omega⟩ ?_
 intro j fr G ⟨w,f0,f1,f12,f13,g,f⟩ v
 rw [NU N6s.eq_1]
 refine NK ?_
 by_cases d:j<a.length
 case neg=>
  obtain rfl:j=a.length:=by omega
  simp only [n30,r30,f0,f1,f12,f13,NN,d,SB,seval,NC,NJ,NG,NR,reduceCtorEq,NB,place,NA,ND]
  have:a=b:=Ph hl fun i h1 h2=>by rw [<-PW h1,<-PW h2];exact f i h1
  rw [Np this]
 have l:j<b.length:=by omega
 have r:=fun X=>((g.sl n).app X).loadCells RJ d
 have s:=fun X=>((g.sl o).app X).loadCells RJ l
 have t:=fun c (kk:IntKind) (H1:NE)=>(g.sl n).idx (c:=c) (k:=kk) (H1:=H1) d
 have u:=fun c (kk:IntKind) (H1:NE)=>(g.sl o).idx (c:=c) (k:=kk) (H1:=H1) l
 have m:IntKind.i64.wrap ((j:Int)+1)=((j+1:Nat):Int):=OD (by omega)
 have e:=Ofy (gt a j) (gt b j)
 by_cases he:gt a j=gt b j
 ·rw [Np he] at e
  simp only [n30,r30,f0,f1,f12,f13,NN,d,r,s,t,u,m,e,SB,seval,NC,NJ,NG,NR,reduceCtorEq,NB,place,NA,ND]
  exact v (j+1) _ _ ⟨by omega,f0,f1,f12,rfl,g.trans OJ.refl.app,fun i hi=>by
   rcases On i j with h | h
   ·exact f i h
   ·rw [show i=j by omega];exact he⟩ (by omega)
 ·rw [N5 he] at e
  simp only [n30,r30,f0,f1,f12,f13,NN,d,r,s,t,u,m,e,SB,seval,NC,NJ,NG,NR,reduceCtorEq,NB,place,NA,ND]
  congr 1
  rw [eq_comm,decide_eq_false_iff_not]
  rintro rfl
  exact he rfl
def Ne0:List Value:=[.string ⟨#[]⟩,.string ⟨#[115,116,114,97,121]⟩,.string ⟨#[97,102,116,101,114]⟩,.string ⟨#[106,117,109,112]⟩,.string ⟨#[101,97,114,108,121]⟩,.string ⟨#[109,105,115,115,101,100]⟩,.string ⟨#[100,111,117,98,108,101,100]⟩,.string ⟨#[108,111,115,116]⟩]
theorem Zn:Ne0.length=8:=id rfl
theorem Nl2 [OB] {mp:Bool} {lim:Nat} {H:NE} {Q:Value->NE->Prop}:NL E mp lim 35 [] H Q=Q (.agg Ne0.toArray) H:=by
 refine pc (by decide) e35 rfl rfl ?_
 rw [b35,c35]
 simp only [n35,r35,NF,SB,seval,NC,NJ,NG,NR,reduceCtorEq,NB,place,NA,ND]
 rfl
def Nce (n:Nat):Value:=Ne0.getD n (.string ⟨#[]⟩)
theorem Npo (n:Nat):flat 4 (Nce n)=true:=by
 unfold Nce Ne0
 rcases n with _ | _ | _ | _ | _ | _ | _ | _ | n<;>rfl
theorem Nji [OB] {mp:Bool} {lim n:Nat} {H:NE} {Q:Value->NE->Prop} (hn:n<256):NL E mp lim 13 [.int .u8 (n:Int)] H Q=Q (Nce n) H:=by
 refine pc (by decide) e13 rfl (Npo n) ?_
 rw [b13,c13]
 have c:IntKind.i64.wrap ((n:Nat):Int)=n:=NT (by omega) (by omega)
 by_cases b:8<=(n:Int)
 ·have e:Nce n=.string ⟨#[]⟩:=by unfold Nce;rw [Na,Nx (by rw [Zn];omega)];rfl
  simp only [n13,r13,Nl2,NF,c,ge_iff_le,N9 b,Zn,e,SB,seval,NC,NJ,NG,NR,reduceCtorEq,NB,place,NA,ND]
 ·have e:∀(v:Value),Ne0[n]? = some v->v=Nce n:=fun v d=>by unfold Nce;rw [Na,d];rfl
  have a:n<Ne0.length:=by rw [Zn];omega
  have e2:Ne0[n]? = some (Nce n):=by rw [Nf a];congr 1;exact e _ (Nf a)
  simp only [n13,r13,Nl2,NF,c,ge_iff_le,Nq b,Zn,e2,N9 (show (0:Int)<=n by omega),N9 (show (n:Int)<8 by omega),and_self,if_true,Pa,SB,seval,NC,NJ,NG,NR,reduceCtorEq,NB,place,NA,ND]
theorem set_self {G:NE} {b:Nat} {x:Blk} (h:NH G b=x) (a:b<G.length):G.set b x=G:=by
 apply Ph (by simp)
 intro j h1 h2
 rw [List.getElem_set]
 split
 ·rename_i e;subst e
  unfold NH at h
  rw [Na,Nf a] at h
  exact h.symm
 ·rfl
def Yo:ACode:=Sm (Sm (Sm (Sm c18)))
theorem N5c:c18=.seq (Ur c18) (.seq (Ur (Sm c18)) (.seq (Ur (Sm (Sm c18))) (.seq (Ur (Sm (Sm (Sm c18)))) Yo))):=rfl
def Ww:ACode:=Sm Yo
theorem Nxf:Yo=.seq (Ur Yo) Ww:=rfl
def Xc:ACode:=Sm Ww
theorem Nrm:Ww=.seq (Ur Ww) Xc:=rfl
def Yj:ACode:=Sm Xc
theorem Nrl:Xc=.seq (Ur Xc) Yj:=rfl
def Zb:ACode:=Sm Yj
theorem Nrk:Yj=.seq (Ur Yj) Zb:=rfl
def Nkd:ACode:=Sm Zb
theorem Nrj:Zb=.seq (Ur Zb) Nkd:=rfl
theorem Odt:UA PX LX SA 7 900=0:=by decide
theorem Ods:UA PX LX SBx 7 900=0:=by decide
theorem Odr:UA PX LX SA 7 28800=0:=by decide
theorem Odq:UA PX LX SDx 7 900=0:=by decide
theorem Oaz:UA PX LX SBx 8 900=6:=by decide
def YZ (G:NE) (b:Nat) (A:List An):Prop:=∃pe n ce q nk cq r ns cr c pl cl,NH G b=Vc (Tt pe n ce q nk cq r ns cr c pl A.length cl)/\Sl G TF 5 pl A
theorem YZ.ext {G G':NE} {b:Nat} {A:List An} (h:YZ G b A) (e:OJ G G'):YZ G' b A:=by
 obtain ⟨pe,n,ce,q,nk,cq,r,ns,cr,c,pl,cl,h1,h2⟩:=h
 exact ⟨pe,n,ce,q,nk,cq,r,ns,cr,c,pl,cl,e.cells h1,e.sl h2⟩
theorem Ndf [OB] (m:EffOk) {lim c cp cL:Nat} {p pp pL:Option Addr} {S tw es:List Ev} {ks:List Int} {ss:List Stp} {A:List An} {now:Int} {H:NE} {Q:Value->NE->Prop} (o:NetIn H pp pL PX LX) (hs:Sl H QL 6 p S) (hn:S.length<2 ^ 63) (hl:lim<=H.length)
  (g:UA PX LX S 7 now=0) (h1:Ue (OH S).1 7=es) (h2:Ue (OH S).2 7=tw) (i:R5 PX LX es=ks) (j:QU PX LX es ks=ss) (k:TU PX LX es tw ks ss now=A)
  (s:∀G pe n ce q nk cq r ns cr c pl cl,OJ H G->Sl G TF 5 pl A->Q (.tuple #[.agg (Tt pe n ce q nk cq r ns cr c pl A.length cl).toArray,Vi 0]) G) :
  NL E false lim 17 [.agg (Tu pp PX.length cp pL LX.length cL).toArray,.slice p S.length c,Vi 7,Vi now] H Q:=by
 refine Ndo m o hs hn hl (fun G h=>absurd g h) fun G pe ce q cq r cr pl cl es' d a b e1 e2 e3 f _ l _ _ _ _ e=>?_
 obtain rfl:es'=es:=e1.trans h1
 obtain rfl:d=tw:=e2.trans h2
 obtain rfl:a=ks:=e3.trans i
 obtain rfl:b=ss:=f.trans j
 rw [k] at e⊢
 exact s G _ _ _ _ _ _ _ _ _ _ _ _ l.ext e.1
structure A18 (b1 b2 b3:Nat) (G:NE) (fr:Nat->Value):Prop where
 f1:fr 1=.slice (Sa b1) 3 3
 f2:fr 2=Vp b2
 f3:fr 3=Vp b3
 k1:NH G b1=Vc (SBx.flatMap QL)
 k2:NH G b2=Vc (TF TL)
 k3:NH G b3=Vc (TF Nwn)
section
variable {lim b1 b2 b3:Nat} {fr:Nat->Value} {G:NE} {Q:Value->NE->Prop}
theorem chA [OB] (M:EffOk) (h:A18 b1 b2 b3 G fr) (hl:lim<=G.length)
  (N:∀fr' G' x,OJ G G'->(∀t,t<14->t≠4->t≠5->fr' t=fr t)->fr' 4=Vp x->fr' 5=Vi 0->YZ G' x [TL]->PV E a18 lim [.code Ww] fr' G' Q):PV E a18 lim [.code Yo] fr G Q:=by
 rw [Nxf]
 refine NK ?_
 have v:Sl G QL 6 (Sa b1) SBx:=Sl.row OP h.k1
 obtain ⟨q1,J,S,P,_,_,_⟩:=UR (c:=3) (vlo:=none) (vhi:=some (Vi 2)) (lo:=0) (hi:=2) v (.inr ⟨by decide,by decide⟩) OP (fun cap F=>by rw [Ms (by decide) (by have:SBx.length=3:=rfl;omega)];rfl) (by decide) (by decide) (by decide)
 simp only [Ur,Sm,Yo,c18,n18,r18,h.f1,SB,seval,NC,NJ,NG,NR,reduceCtorEq,NB,place,NA,ND]
 refine UG (by simp;omega) fun G1 a b f u=>?_
 have O:=f.len
 simp at O
 have l:NH G1 G.length=.dead:=by obtain ⟨X,rfl⟩:=f;rw [NQ (by simp),NV];rfl
 have j:List.set G1 G.length Blk.dead=G1:=set_self l (by omega)
 have z:VZ 6 (.slice (Sa b1) 3 3) none (some (Vi 2)) none=some (.slice q1 2 J):=S
 have d:OJ G G1:=by obtain ⟨X,rfl⟩:=f;rw [No];exact OJ.refl.app
 refine NK ?_
 simp only [n18,r18,h.f1,z,j,SB,seval,NC,NJ,NG,NR,reduceCtorEq,NB,place,NA,ND]
 simp only [Nb,j]
 have w:Sl G1 QL 6 q1 SA:=d.sl P
 refine Ndf M u w (by decide) (by omega) Odt N53 N61 Nq6.1 Niw N72 fun G2 pe n ce q nk cq r ns cr c pl cl g L=>?_
 have W:=g.len
 have B:NH G2 G.length=.dead:=by obtain ⟨X,rfl⟩:=g;rw [NQ (by omega)];exact l
 have m:NH (G1++[]) G.length=.dead:=by rw [Nb];exact l
 have y:List.set G2 G.length Blk.dead=G2:=set_self B (by omega)
 obtain ⟨U,e3,D,H⟩:=OQ (G:=G2) (R:=G.length) (by omega) (Vc [Vz,Vz,Vz,Vi 0,Vz])
 obtain ⟨k,C,K,I⟩:=OQ (NM D) (Vc (Tt pe n ce q nk cq r ns cr c pl [TL].length cl))
 have p:Chg [] G k:=(((d.trans g).chg (A:=[])).mut H (.inr (Nd _))).mut I (.inr (Nd _))
 have o:Sl k TF 5 pl [TL]:=L.sim (G:=k) fun b ro x s=>by
  have i:b≠G.length:=fun e=>by rw [e,B] at s;cases s
  exact I.cells (H.cells s i) i
 have T:=fun X=>(OJ.refl.app (X:=X)).cells D
 simp only [Nm,Ns,Oc,Nat.reduceAdd] at C
 refine NK ?_
 simp only [n18,r18,m,y,e3,T,C,hl,PO,NI,NF,SB,seval,NC,NJ,NG,NR,reduceCtorEq,NB,place,NA,ND]
 exact N _ _ G.length (p.ext.trans OJ.refl.app) (fun t V h1 h2=>by simp only [upd];repeat rw [Ng (by omega)]) rfl rfl ⟨pe,n,ce,q,nk,cq,r,ns,cr,c,pl,cl,by rw [Nb];exact K,o.app _⟩
theorem chB [OB] (j:EffOk) (h:A18 b1 b2 b3 G fr) (hl:lim<=G.length)
  (k:∀fr' G' x,OJ G G'->(∀t,t<14->t≠6->t≠7->fr' t=fr t)->fr' 6=Vp x->fr' 7=Vi 0->YZ G' x [Nwn,TL]->PV E a18 lim [.code Xc] fr' G' Q):PV E a18 lim [.code Ww] fr G Q:=by
 rw [Nrm]
 refine NK ?_
 have g:Sl G QL 6 (Sa b1) SBx:=Sl.row OP h.k1
 simp only [Ur,Sm,Ww,Yo,c18,n18,r18,h.f1,SB,seval,NC,NJ,NG,NR,reduceCtorEq,NB,place,NA,ND]
 rw [Nb]
 refine UG (by omega) fun G1 a b d f=>?_
 have m:=d.len
 refine NK ?_
 simp only [n18,r18,h.f1,SB,seval,NC,NJ,NG,NR,reduceCtorEq,NB,place,NA,ND]
 rw [Nb]
 refine Ndf j (c:=3) f (d.sl g) (by decide) (by omega) Ods Oao Obe Nq6.1 Niw N71 fun G2 pe n ce q nk cq r ns cr c pl cl e i=>?_
 have o:=e.len
 refine NK ?_
 simp only [n18,r18,PO,NI,NF,show lim<=G2.length by omega,SB,seval,NC,NJ,NG,NR,reduceCtorEq,NB,place,NA,ND]
 exact k _ _ G2.length ((d.trans e).trans OJ.refl.app) (fun t l h1 h2=>by simp only [upd];repeat rw [Ng (by omega)]) rfl rfl ⟨pe,n,ce,q,nk,cq,r,ns,cr,c,pl,cl,by rw [NV];rfl,i.app _⟩
theorem chC [OB] (M:EffOk) (h:A18 b1 b2 b3 G fr) (hl:lim<=G.length)
  (N:∀fr' G' x,OJ G G'->(∀t,t<14->t≠8->t≠9->fr' t=fr t)->fr' 8=Vp x->fr' 9=Vi 0->YZ G' x [TL,Naw]->PV E a18 lim [.code Yj] fr' G' Q):PV E a18 lim [.code Xc] fr G Q:=by
 rw [Nrl]
 refine NK ?_
 have v:Sl G QL 6 (Sa b1) SBx:=Sl.row OP h.k1
 obtain ⟨q1,J,S,P,_,_,_⟩:=UR (c:=3) (vlo:=none) (vhi:=some (Vi 2)) (lo:=0) (hi:=2) v (.inr ⟨by decide,by decide⟩) OP (fun cap F=>by rw [Ms (by decide) (by have:SBx.length=3:=rfl;omega)];rfl) (by decide) (by decide) (by decide)
 simp only [Ur,Sm,Xc,Ww,Yo,c18,n18,r18,h.f1,SB,seval,NC,NJ,NG,NR,reduceCtorEq,NB,place,NA,ND]
 refine UG (by simp;omega) fun G1 a b f u=>?_
 have O:=f.len
 simp at O
 have l:NH G1 G.length=.dead:=by obtain ⟨X,rfl⟩:=f;rw [NQ (by simp),NV];rfl
 have j:List.set G1 G.length Blk.dead=G1:=set_self l (by omega)
 have z:VZ 6 (.slice (Sa b1) 3 3) none (some (Vi 2)) none=some (.slice q1 2 J):=S
 have d:OJ G G1:=by obtain ⟨X,rfl⟩:=f;rw [No];exact OJ.refl.app
 refine NK ?_
 simp only [n18,r18,h.f1,z,j,SB,seval,NC,NJ,NG,NR,reduceCtorEq,NB,place,NA,ND]
 simp only [Nb,j]
 have w:Sl G1 QL 6 q1 SA:=d.sl P
 refine Ndf M u w (by decide) (by omega) Odr N53 N61 Nq6.1 Niw N70 fun G2 pe n ce q nk cq r ns cr c pl cl g L=>?_
 have W:=g.len
 have B:NH G2 G.length=.dead:=by obtain ⟨X,rfl⟩:=g;rw [NQ (by omega)];exact l
 have m:NH (G1++[]) G.length=.dead:=by rw [Nb];exact l
 have y:List.set G2 G.length Blk.dead=G2:=set_self B (by omega)
 obtain ⟨U,e3,D,H⟩:=OQ (G:=G2) (R:=G.length) (by omega) (Vc [Vz,Vz,Vz,Vi 0,Vz])
 obtain ⟨k,C,K,I⟩:=OQ (NM D) (Vc (Tt pe n ce q nk cq r ns cr c pl [TL,Naw].length cl))
 have p:Chg [] G k:=(((d.trans g).chg (A:=[])).mut H (.inr (Nd _))).mut I (.inr (Nd _))
 have o:Sl k TF 5 pl [TL,Naw]:=L.sim (G:=k) fun b ro x s=>by
  have i:b≠G.length:=fun e=>by rw [e,B] at s;cases s
  exact I.cells (H.cells s i) i
 have T:=fun X=>(OJ.refl.app (X:=X)).cells D
 simp only [Nm,Ns,Oc,Nat.reduceAdd] at C
 refine NK ?_
 simp only [n18,r18,m,y,e3,T,C,hl,PO,NI,NF,SB,seval,NC,NJ,NG,NR,reduceCtorEq,NB,place,NA,ND]
 exact N _ _ G.length (p.ext.trans OJ.refl.app) (fun t V h1 h2=>by simp only [upd];repeat rw [Ng (by omega)]) rfl rfl ⟨pe,n,ce,q,nk,cq,r,ns,cr,c,pl,cl,by rw [Nb];exact K,o.app _⟩
theorem chD [OB] (h:EffOk) (hl:lim<=G.length)
  (j:∀fr' G' x,OJ G G'->(∀t,t<14->t≠10->t≠11->fr' t=fr t)->fr' 10=Vp x->fr' 11=Vi 0->YZ G' x [Ngb]->PV E a18 lim [.code Zb] fr' G' Q):PV E a18 lim [.code Yj] fr G Q:=by
 rw [Nrk]
 refine NK ?_
 simp only [Ur,Sm,Yj,Xc,Ww,Yo,c18,n18,r18,SB,seval,NC,NJ,NG,NR,reduceCtorEq,NB,place,NA,ND]
 rw [Nb]
 refine UG (by omega) fun G1 a b d f=>?_
 have m:=d.len
 refine NK ?_
 simp only [n18,r18,Nhh,NF,QO,Ui,show lim<=G1.length by omega,SB,seval,NC,NJ,NG,NR,reduceCtorEq,NB,place,NA,ND]
 refine Ndf h (c:=3) (S:=SDx) (f.app _) (Sl.row (ro:=false) OP (by rw [NV];rfl)) (by decide) (by simp;omega) Odq Oan Obd N9j N25 N7z fun G2 pe n ce q nk cq r ns cr c pl cl e g=>?_
 have k:=e.len
 simp at k
 have i:OJ G G2:=by obtain ⟨X,rfl⟩:=e;obtain ⟨Y,rfl⟩:=d;rw [No,No];exact OJ.refl.app
 refine NK ?_
 simp only [n18,r18,PO,NI,NF,show lim<=G2.length by omega,SB,seval,NC,NJ,NG,NR,reduceCtorEq,NB,place,NA,ND]
 exact j _ _ G2.length (i.trans OJ.refl.app) (fun t l h1 h2=>by simp only [upd];repeat rw [Ng (by omega)]) rfl rfl ⟨pe,n,ce,q,nk,cq,r,ns,cr,c,pl,cl,by rw [NV];rfl,g.app _⟩
theorem chE [OB] (i:EffOk) (h:A18 b1 b2 b3 G fr) (hl:lim<=G.length)
  (j:∀fr' G',OJ G G'->(∀t,t<12->fr' t=fr t)->fr' 13=Vi 6->PV E a18 lim [.code Nkd] fr' G' Q):PV E a18 lim [.code Zb] fr G Q:=by
 rw [Nrj]
 refine NK ?_
 have f:Sl G QL 6 (Sa b1) SBx:=Sl.row OP h.k1
 simp only [Ur,Sm,Zb,Yj,Xc,Ww,Yo,c18,n18,r18,h.f1,SB,seval,NC,NJ,NG,NR,reduceCtorEq,NB,place,NA,ND]
 rw [Nb]
 refine UG (by omega) fun G1 a b d e=>?_
 have l:=d.len
 refine NK ?_
 simp only [n18,r18,h.f1,SB,seval,NC,NJ,NG,NR,reduceCtorEq,NB,place,NA,ND]
 rw [Nb]
 refine Ndo i (P:=PX) (L:=LX) (S:=SBx) (c:=3) e (d.sl f) (by decide) (by omega) (fun G2 _ g=>?_) (fun _ _ _ _ _ _ _ _ _ _ _ _ _ _ _ _ _ h=>absurd (Oaz.symm.trans h) (by decide))
 have m:=g.len
 rw [Oaz]
 refine NK ?_
 simp only [n18,r18,Nda,NF,show lim<=G2.length by omega,SB,seval,NC,NJ,NG,NR,reduceCtorEq,NB,place,NA,ND]
 exact j _ _ ((d.trans g.ext).trans OJ.refl.app) (fun t k=>by simp only [upd];repeat rw [Ng (by omega)]) rfl
theorem A18.next {G':NE} {fr':Nat->Value} (h:A18 b1 b2 b3 G fr) (e:OJ G G') (h1:fr' 1=fr 1) (h2:fr' 2=fr 2) (a:fr' 3=fr 3):A18 b1 b2 b3 G' fr':=
 ⟨h1.trans h.f1,h2.trans h.f2,a.trans h.f3,e.cells h.k1,e.cells h.k2,e.cells h.k3⟩
end
theorem Nwe [OB] {b1 b2 b3 b4 s t b10 lim:Nat} {fr:Nat->Value} {G:NE} (h:A18 b1 b2 b3 G fr) (f4:fr 4=Vp b4) (f5:fr 5=Vi 0) (e:fr 6=Vp s) (f:fr 7=Vi 0) (g:fr 8=Vp t) (f9:fr 9=Vi 0) (f10:fr 10=Vp b10) (f11:fr 11=Vi 0) (f13:fr 13=Vi 6)
  (D:YZ G b4 [TL]) (F:YZ G s [Nwn,TL]) (I:YZ G t [TL,Naw]) (r10:YZ G b10 [Ngb]):PV E a18 lim [.code Nkd] fr G fun v' _=>v'=.bool true:=by
 obtain ⟨_,_,_,_,_,_,_,_,_,_,p4,v,y,J⟩:=D
 obtain ⟨_,_,_,_,_,_,_,_,_,_,p6,w,z,K⟩:=F
 obtain ⟨_,_,_,_,_,_,_,_,_,_,N,x,A,L⟩:=I
 obtain ⟨_,_,_,_,_,_,_,_,_,_,C,u,q,r⟩:=r10
 have k2:NH G b2=Vc [.int .u8 5,Vi 1,Vi 0,Vi 2,Vi 0]:=h.k2
 have k3:NH G b3=Vc [.int .u8 6,Vi 0,Vi 0,Vi 1,Vi 1]:=h.k3
 have k:=fun X=>(OJ.refl.app (X:=X)).cells k2
 have l:=fun X=>(OJ.refl.app (X:=X)).cells k3
 have m:=fun X=>(OJ.refl.app (X:=X)).cells y
 have o:=fun X=>(OJ.refl.app (X:=X)).cells z
 have p:=fun X=>(OJ.refl.app (X:=X)).cells A
 have d:=fun X=>(OJ.refl.app (X:=X)).cells q
 have M:IntKind.i64.wrap 0=0:=by decide
 have i:∀(mp:Bool) (lim:Nat) (H:NE) (Q:Value->NE->Prop),NL E mp lim 13 [.int .u8 1] H Q=Q (.string ⟨#[115,116,114,97,121]⟩) H:=fun mp lim H Q=>Nji (n:=1) (by decide)
 have c:∀(mp:Bool) (lim:Nat) (H:NE) (Q:Value->NE->Prop),NL E mp lim 13 [.int .u8 0] H Q=Q (.string ⟨#[]⟩) H:=fun mp lim H Q=>Nji (n:=0) (by decide)
 have j:∀(mp:Bool) (lim:Nat) (H:NE) (Q:Value->NE->Prop),NL E mp lim 13 [.int .u8 8] H Q=Q (.string ⟨#[]⟩) H:=fun mp lim H Q=>Nji (n:=8) (by decide)
 have B:∀(mp:Bool) (lim:Nat) (Q:Value->NE->Prop),NL E mp lim 30 [.slice p4 1 v,.slice (Sa G.length) 1 1] (G++[Vc [.int .u8 5,Vi 1,Vi 0,Vi 2,Vi 0]]) Q=Q (.bool true) (G++[Vc [.int .u8 5,Vi 1,Vi 0,Vi 2,Vi 0]]):=fun mp lim Q=>MW (a:=[TL]) (b:=[TL]) (J.app _) (Sl.row (ro:=false) RJ (by rw [NV];rfl)) (by decide)
 refine NK ?_
 simp only [Ur,Sm,Nkd,Zb,Yj,Xc,Ww,Yo,c18,n18,r18,f4,f5,e,f,g,f9,f10,f11,f13,h.f2,h.f3,M,Rg,k,l,m,o,p,d,Sb,NI,NF,QO,Ui,B,i,c,j,SB,seval,NC,NJ,NG,NR,reduceCtorEq,NB,place,NA,ND]
 refine Eq.mpr (MW (a:=[Nwn,TL]) (b:=[Nwn,TL]) (K.app _) (Sl.row (ro:=false) RJ (by rw [OC];rfl)) (by decide)) ?_
 rw [Np rfl]
 refine NK ?_
 simp only [n18,r18,f4,f5,e,f,g,f9,f10,f11,f13,h.f2,h.f3,k,l,m,o,p,d,Sb,NI,NF,QO,Ui,i,c,j,decide_true,beq_self_eq_true,SB,seval,NC,NJ,NG,NR,reduceCtorEq,NB,place,NA,ND]
 refine Eq.mpr (MW (a:=[TL,Naw]) (b:=[TL,Naw]) (L.app _) (Sl.row (ro:=false) RJ (by rw [OC];rfl)) (by decide)) ?_
 rw [Np rfl]
 refine NK ?_
 simp only [n18,r18,f4,f5,e,f,g,f9,f10,f11,f13,h.f2,h.f3,k,l,m,o,p,d,Sb,NI,NF,QO,Ui,i,c,j,decide_true,beq_self_eq_true,SB,seval,NC,NJ,NG,NR,reduceCtorEq,NB,place,NA,ND]
 refine Eq.mpr (MW (a:=[Ngb]) (b:=[Ngb]) (r.app _) (Sl.row (ro:=false) RJ (by rw [OC];rfl)) (by decide)) ?_
 rw [Np rfl]
 refine NK ?_
 simp only [n18,r18,f4,f5,e,f,g,f9,f10,f11,f13,h.f2,h.f3,k,l,m,o,p,d,Sb,NI,NF,QO,Ui,i,c,j,decide_true,beq_self_eq_true,SB,seval,NC,NJ,NG,NR,reduceCtorEq,NB,place,NA,ND]
theorem Nwf [OB] (e:EffOk) {b1 b2 b3 lim:Nat} {fr:Nat->Value} {G:NE} (p:A18 b1 b2 b3 G fr) (hl:lim<=G.length):PV E a18 lim [.code Yo] fr G fun v' _=>v'=.bool true:=by
 refine chA e p hl fun l F b4 s o f4 f5 B=>?_
 have L:=s.len
 have q:=p.next s (o 1 (by decide) (by decide) (by decide)) (o 2 (by decide) (by decide) (by decide)) (o 3 (by decide) (by decide) (by decide))
 refine chB e q (by omega) fun m H J k j x y C=>?_
 have M:=k.len
 have r:=q.next k (j 1 (by decide) (by decide) (by decide)) (j 2 (by decide) (by decide) (by decide)) (j 3 (by decide) (by decide) (by decide))
 refine chC e r (by omega) fun n I K g f z f9 D=>?_
 have N:=g.len
 have w:=r.next g (f 1 (by decide) (by decide) (by decide)) (f 2 (by decide) (by decide) (by decide)) (f 3 (by decide) (by decide) (by decide))
 refine chD e (by omega) fun d u b10 e10 c f10 f11 r10=>?_
 have A:=e10.len
 have a10:=w.next e10 (c 1 (by decide) (by decide) (by decide)) (c 2 (by decide) (by decide) (by decide)) (c 3 (by decide) (by decide) (by decide))
 refine chE e a10 (by omega) fun b v e12 a f13=>?_
 have a12:=a10.next e12 (a 1 (by decide)) (a 2 (by decide)) (a 3 (by decide))
 have t:∀t,t<12->(t=4\/t=5->b t=l t)/\(t=6\/t=7->b t=m t)/\(t=8\/t=9->b t=n t)/\(t=10\/t=11->b t=d t):=fun t i=>by
  refine ⟨fun h=>?_,fun h=>?_,fun h=>?_,fun h=>a t i⟩
  ·rw [a t i,c t (by omega) (by omega) (by omega),f t (by omega) (by omega) (by omega),j t (by omega) (by omega) (by omega)]
  ·rw [a t i,c t (by omega) (by omega) (by omega),f t (by omega) (by omega) (by omega)]
  ·rw [a t i,c t (by omega) (by omega) (by omega)]
 exact Nwe a12 (((t 4 (by decide)).1 (.inl rfl)).trans f4) (((t 5 (by decide)).1 (.inr rfl)).trans f5) (((t 6 (by decide)).2.1 (.inl rfl)).trans x) (((t 7 (by decide)).2.1 (.inr rfl)).trans y) (((t 8 (by decide)).2.2.1 (.inl rfl)).trans z) (((t 9 (by decide)).2.2.1 (.inr rfl)).trans f9) (((t 10 (by decide)).2.2.2 (.inl rfl)).trans f10) (((t 11 (by decide)).2.2.2 (.inr rfl)).trans f11) f13 ((((B.ext k).ext g).ext e10).ext e12) (((C.ext g).ext e10).ext e12) ((D.ext e10).ext e12) (r10.ext e12)
theorem awake_go [OB] (b:EffOk) (a:OB.on 18=false) {mp:Bool} {lim:Nat} {H:NE} {Q:Value->NE->Prop}:NL E mp lim 18 [] H Q=Q (.bool true) H:=by
 refine M0 (E:=E) (by simp [E,OB.effN,orc,a]) (show E.tr 18=some a18 from e18) rfl rfl (NK ?_)
 rw [b18,N5c]
 simp only [Ur,Sm,c18,n18,r18,Nhh,NF,QO,Ui,SB,seval,NC,NJ,NG,NR,reduceCtorEq,NB,place,NA,ND]
 exact Nwf b (b1:=H.length) (b2:=H.length+1) (b3:=H.length+2) ⟨rfl,rfl,rfl,by rw [NV];rfl,by rw [OC];rfl,by rw [OC];rfl⟩ (by simp)
end Go.Proofs.YtkppjkkkdpcgiaaGreat.Fn


namespace Go.AM
open Go.AM.Sym
section
variable {P:Program} {E:Env} {W:Nat->Prop} {lim:Nat} {σ:PK} {H:NE} {w:World}
theorem Inv.shut (a:Inv (Prg.mk P (Env.pure E)) W lim σ H w):Inv (Prg.mk P (Env.pure E)) (fun k=>w.heap.size<=k) H.length σ H w:=
 ⟨a.blk,a.inj,fun i b L c ho d hL=>by
  have:=(List.getElem?_eq_some_iff.1 c).1
  omega,fun b c=>c,a.dom⟩
theorem Nx2 {w':World} (b:Inv (Prg.mk P (Env.pure E)) W lim σ H w) (a:Stp (fun k=>w.heap.size<=k) w w'):Stp W w w'/\∀k,k<w.heap.size->w'.heap[k]? = w.heap[k]?:=by
 have c:∀k,k<w.heap.size->w'.heap[k]? = w.heap[k]?:=fun k hk=>a.block k (by omega)
 refine ⟨⟨a.os,a.tape,a.output,a.size,fun k hk=>c k ?_⟩,c⟩
 rcases On k w.heap.size with h | h
 ·exact h
 ·exact absurd (b.fresh k h) hk
theorem Nfp (c:EnvOk P E) {g:FuncId} {as:List Value} {b:Value} (f:flat 4 b=true) (h:NL E false H.length g as H fun v _=>v=b) {as':List Value}
  (a:Inv (Prg.mk P (Env.pure E)) W lim σ H w) (d:OM σ as as'):Calls P g as'.toArray w (Tw (Prg.mk P (Env.pure E)) W lim σ H b (H++news []) w):=by
 obtain ⟨n,L,h1,h2⟩:=h
 refine ((Nam c n).calls _ _ _ _ _ _ h1 (Nd _) _ _ w as' a.shut d).mono fun e w' hp=>?_
 obtain ⟨r,hr,v',p,rfl,q1,q2,q3,m,o⟩:=hp
 obtain ⟨k,l⟩:=Nx2 a q3
 rw [h2.2 r hr] at q1
 rw [show H++news []=H from Nb H]
 exact ⟨v',σ,rfl,q1.flat_self 4 f,a.world q3.size l,k,PK.le_refl _,fun j i=>absurd rfl i⟩
theorem Nvs (N:EnvOk P E) {g:FuncId} {as:List Value} {n e:Nat} {c:List Value} (hc:∀x∈c,atom x=true) (h:NL E false H.length g as H fun v H'=>∃R,v=.tuple #[.slice (Sa R) n (loose e),Vi 0]/\NH H' R=Vc c/\H.length<=R) {as':List Value}
  (d:Inv (Prg.mk P (Env.pure E)) W lim σ H w) (Q:OM σ as as'):Calls P g as'.toArray w (Tw (Prg.mk P (Env.pure E)) W lim σ H (.tuple #[.slice (Sa H.length) n (loose e),Vi 0]) (H++news [c]) w):=by
 obtain ⟨k,L,h1,h2⟩:=h
 refine ((Nam N k).calls _ _ _ _ _ _ h1 (Nd _) _ _ w as' d.shut Q).mono fun en w' hp=>?_
 obtain ⟨r,hr,v',σ',rfl,q1,q2,q3,q4,q5⟩:=hp
 obtain ⟨U,V⟩:=Nx2 d q3
 obtain ⟨R,e1,e2,e3⟩:=h2.2 r hr
 rw [e1] at q1
 obtain ⟨f,hL,hB⟩:=q2.blk R _ (RP e2 rfl) rfl
 have p:w.heap.size<=f.blk:=q2.wr R _ f (RP e2 rfl) rfl e3 hL
 have C:Inv (Prg.mk P (Env.pure E)) W lim σ H w':=d.world q3.size V
 have hd:σ H.length=none:=d.dom _ (Nd _)
 have B:=PK.le_put (L:=f) hd
 have t:UK (Prg.mk P (Env.pure E)) (σ.put H.length f) w' f (Vc c):=by
  obtain ⟨cs,el,fz,J,K,M⟩:=hB
  refine ⟨cs,el,fz,J,fun j v D=>?_,M⟩
  obtain ⟨u,k1,k2,k3⟩:=K j v D
  have o:=hc v (Og D)
  rw [k2.eq_of_atom o] at k1 k3
  exact ⟨v,k1,.atom o,k3⟩
 have O:Inv (Prg.mk P (Env.pure E)) W lim (σ.put H.length f) (H++news [c]) w':=by
  refine C.adopt (i:=H.length) (b:=Vc c) (L:=f) ?_ (fun j q=>?_) (fun j q=>?_) hd t rfl (d.fresh _ p) fun j bj Lj S z m y e=>?_
  ·show (H++[Vc c])[H.length]? = _
   simp
  ·show (H++[Vc c])[j]? = _
   rcases On j H.length with h | h
   ·rw [N8 h]
   ·rw [Nx (by simp;omega),Nx h]
  ·simp [news] at q;omega
  ·obtain ⟨G,k1,k2⟩:=d.blk j bj z m
   rw [y] at k1;cases k1
   have:=k2.lt m
   omega
 refine ⟨v',σ.put H.length f,rfl, ?_,O,U,B,fun j q=>?_⟩
 ·obtain ⟨ys,rfl,hl⟩:=q1.tuple_left
  obtain ⟨F,s⟩:=hl
  match ys,F,s with
  | ⟨[y0,y1]⟩,F,s=>
    have X:=s 0 _ _ rfl rfl
    have Y:=s 1 _ _ rfl rfl
    rw [Y.int_left]
    refine VRel.tuple_iff.2 (OM.cons ?_ (OM.cons (.atom rfl) OM.nil))
    have hp:(σ.put H.length f) H.length=some f:=PK.put_same
    obtain ⟨_,G,l,A⟩:=X.slice_left
    rw [hL] at l;cases l
    rcases A with ⟨h,_⟩ | ⟨I,he,Z,hn,hr,rfl⟩ | ⟨a,h,rfl,rfl⟩
    ·unfold loose at h;omega
    ·have:I=e:=by unfold loose at he;omega
     subst this
     exact .lslice hp hn hr
    ·exact .eslice hp h
 ·apply Ny
  intro T
  refine q ?_
  simp only [PK.put]
  rw [Ng (by omega)]
end
end Go.AM


namespace Go.Proofs.YtkppjkkkdpcgiaaGreat.Fn
open Go.AM Go.AM.Sym Go.Scan Go.Sort
structure Fo where
 (item place scanner kind at' late:Int)
 deriving Inhabited
def encF (f:Fo):List Value:=[.int .u8 f.item,.int .u8 f.place,.int .u8 f.scanner,.int .u8 f.kind,.int .u16 f.at',.int .u8 f.late]
theorem Nfo (f:Fo):(encF f).length=6:=id rfl
theorem N8g {f:Fo}:(encF f)[0]? = some (.int .u8 f.item):=id rfl
theorem N8f {f:Fo}:(encF f)[1]? = some (.int .u8 f.place):=id rfl
theorem N8e {f:Fo}:(encF f)[2]? = some (.int .u8 f.scanner):=id rfl
theorem N8d {f:Fo}:(encF f)[3]? = some (.int .u8 f.kind):=id rfl
theorem N8c {f:Fo}:(encF f)[4]? = some (.int .u16 f.at'):=id rfl
theorem N8b {f:Fo}:(encF f)[5]? = some (.int .u8 f.late):=id rfl
def FoOk (f:Fo):Prop:=(0<=f.item/\f.item<=255)/\(0<=f.place/\f.place<=255)/\(0<=f.scanner/\f.scanner<=255)/\(0<=f.kind/\f.kind<=255)/\(0<=f.at'/\f.at'<=65535)/\(0<=f.late/\f.late<=255)
def encB (n:Int):List Value:=[.int .i8 n]
theorem N1q (n:Int):(encB n).length=1:=id rfl
def ClOk (C:List Int):Prop:=∀c∈C,-128<=c/\c<=127
def Nc4 (C:List Int) (sc:Int):Int:=if sc-1<C.length then gt C (sc-1).toNat else 0
theorem Nka {C:List Int} (h:ClOk C) {sc:Int} (h1:1<=sc):-128<=Nc4 C sc/\Nc4 C sc<=127:=by
 unfold Nc4
 split
 ·exact h _ (QR (by omega))
 ·omega
def SE (f:Fo):Int:=14400+f.at' % 5760
def WE (C:List Int) (f:Fo):Ev:=⟨1+f.item % 4,1+f.place % 4,1+f.scanner % 4,1+f.kind % 4,SE f-Nc4 C (1+f.scanner % 4),SE f+f.late,0⟩
def R8 (C:List Int) (F:List Fo):List Ev:=(F.take 24).map (WE C)
def Nf1 (F:List Fo):List Int:=(F.take 24).map SE
theorem Npu {C:List Int} {f:Fo} (a:ClOk C) (b:FoOk f):Sy (WE C f):=by
 have c:=Nka a (sc:=1+f.scanner % 4) (by omega)
 unfold FoOk at b
 unfold Sy WE SE Wi
 simp only
 generalize Nc4 C (1+f.scanner % 4)=q at *
 omega
theorem VR {C:List Int} {F:List Fo} (a:ClOk C) (b:∀f∈F,FoOk f):QV (R8 C F):=by
 refine ⟨by unfold R8;rw [Nu,Ok];omega,fun s hs=>?_⟩
 unfold R8 at hs
 obtain ⟨f,c,rfl⟩:=List.mem_map.mp hs
 exact Npu a (b f (Q1 c))
theorem Nwa [OB] {mp:Bool} {lim cc:Nat} {p:Option Addr} {C:List Int} {sc:Int} {H:NE} {Q:Value->NE->Prop} (hs:Sl H encB 1 p C) (g:ClOk C) (hn:C.length<2 ^ 63) (h1:1<=sc) (h2:sc<=4) :
  NL E mp lim 57 [.slice p C.length cc,Vi sc] H Q=Q (Vi (Nc4 C sc)) H:=by
 refine pc (by decide) e57 rfl rfl ?_
 rw [b57,c57]
 have f:IntKind.i64.wrap (sc-1)=((sc-1).toNat:Int):=by rw [NT (by omega) (by omega)];omega
 have b:=Nka g h1
 unfold Nc4 at b⊢
 by_cases d:sc-1<(C.length:Int)
 ·rw [Ni d] at b⊢
  have hi:(sc-1).toNat<C.length:=by omega
  have e:=fun X=>(hs.app X).loadCell0 N1q hi (by decide)
  have a:=fun c (k:IntKind) (H1:NE)=>hs.idx (c:=c) (k:=k) (H1:=H1) hi
  have he:(encB (gt C (sc-1).toNat))[0]? = some (.int .i8 (gt C (sc-1).toNat)):=rfl
  have h:IntKind.i64.wrap (gt C (sc-1).toNat)=gt C (sc-1).toNat:=NT (by omega) (by omega)
  simp only [n57,r57,f,NN,hi,e,a,he,h,SB,seval,NC,NJ,NG,NR,reduceCtorEq,NB,place,NA,ND]
 ·rw [Ng d]
  have hi:¬(sc-1).toNat<C.length:=by omega
  simp only [n57,r57,f,NN,hi,SB,seval,NC,NJ,NG,NR,reduceCtorEq,NB,place,NA,ND]
structure BSt (H:NE) (S:List Ev) (T:List Int) (sp tp:Option Addr) (sc tc:Nat) (G:NE):Prop where
 so:Own H.length G QL 6 sp sc S
 to:Own H.length G encI 1 tp tc T
 ne:∀a b,sp=some a->tp=some b->a.block≠b.block
 old:∀j,j<H.length->NH G j=NH H j
 len:H.length<=G.length
theorem BSt.step {H:NE} {S:List Ev} {T:List Int} {sp tp:Option Addr} {sc tc lim:Nat} {G:NE} (h:BSt H S T sp tp sc tc G) (hl:lim<=H.length) (hS:S.length<1000) (z:T.length<1000) (s:Ev) (t:Int) (x y:Blk) :
  ∃G2,PQ lim none 6 48 false (.slice sp S.length sc) (.slice (Sa (G.length+2)) 1 1) (G++[x,y,Vc (QL s)])=some (.slice (Sa (G.length+3)) (S.length+1) (loose 6),G2++[])/\
   ∃l,PQ lim none 1 8 false (.slice tp T.length tc) (.slice (Sa G2.length) 1 1) (G2++[Vc [Vi t]])=some (.slice (Sa (G2.length+1)) (T.length+1) (loose 1),l++[])/\
   BSt H (S++[s]) (T++[t]) (Sa (G.length+3)) (Sa (G2.length+1)) (loose 6) (loose 1) (l++[]):=by
 have len:=h.len
 obtain ⟨G2,e2,f,_,c,n,_⟩:=h.so.step (lim':=lim) (bytes:=48) hl OP (by decide) s (by unfold PU;omega) (by omega) len [x,y,Vc (QL s)] (G.length+2) 1 (by rw [OC];rfl)
 simp only [Nm,Ns,Oc,Nat.reduceAdd] at e2 f n
 have r:Chg (Nlh sp) G (G2++[]):=⟨by simp;omega,fun j i q=>c j i (Ndc q)⟩
 have p:Own H.length (G2++[]) encI 1 tp tc T:=h.to.chg r fun a g v=>by
  obtain ⟨b,m,e⟩:=Ndd v
  exact h.ne b a m g e.symm
 rw [Nb] at f p
 obtain ⟨l,e3,k,_,d,o,_⟩:=p.step (lim':=lim) (bytes:=8) hl Sj (by decide) t (by unfold PU;omega) (by omega) (by omega) [Vc (encI t)] G2.length 1 (by rw [NV];rfl)
 simp only [Nm,Ns,Oc,Nat.reduceAdd] at e3 k o
 have u:Chg (Nlh tp) G2 (l++[]):=⟨by simp;omega,fun j i q=>d j i (Ndc q)⟩
 have np:∀j,j<H.length->(∀a,sp=some a->j≠a.block)/\(∀a,tp=some a->j≠a.block):=fun j i=>⟨fun a g=>by have:=(h.so.block g).1;omega,fun a g=>by have:=(h.to.block g).1;omega⟩
 refine ⟨G2,e2,l,e3,f.chg u fun a g v=>?_,k,fun a b g m=>?_,fun j i=>?_,by simp;omega⟩
 ·cases g
  obtain ⟨b,m,e⟩:=Ndd v
  have:=(h.to.block m).2
  have w:G.length+3=b.block:=e
  omega
 ·cases g;cases m
  show G.length+3≠G2.length+1
  omega
 ·rw [d j (by omega) (np j i).2]
  have:=c j (by omega) (np j i).1
  rw [Nb] at this
  rw [this];exact h.old j i
theorem Nn2 [OB] {lim c cc:Nat} {p q:Option Addr} {F:List Fo} {C:List Int} {H:NE} {Q:Value->NE->Prop} (hf:Sl H encF 6 p F) (R:Ua 6 c F.length) (hs:Sl H encB 1 q C) (hF:∀f∈F,FoOk f) (hC:ClOk C) (ag:F.length<2 ^ 63) (Y:C.length<2 ^ 63) (hl:lim<=H.length)
  (hQ:∀G sp sc tp tc,BSt H (R8 C F) (Nf1 F) sp tp sc tc G->Q (.tuple #[.slice sp (R8 C F).length sc,.slice tp (Nf1 F).length tc]) (G++[])) :
  NL E false lim 29 [.slice p F.length c,.slice q C.length cc] H Q:=by
 refine RG (by decide) e29 rfl ?_
 rw [b29,c29]
 have mn:R9 false (Vi F.length) [Vi 24]=some (Vi ((min F.length 24:Nat):Int)):=by
  simp only [R9,VT]
  grind
 obtain ⟨B,c',e1,A,_,m1,_⟩:=UR (vlo:=none) (vhi:=some (Vi ((min F.length 24:Nat):Int))) (lo:=0) (hi:=min F.length 24) hf R Nfo (fun cap ac=>by rw [Ms (by omega) (by omega),Od]) (Nw _) (Nat.min_le_left _ _) (by omega)
 rw [Nat.sub_zero] at e1
 rw [O1] at A
 obtain ⟨n,hn⟩:∃n,n=min F.length 24:=⟨_,rfl⟩
 obtain ⟨d,g⟩:∃d,d=F.take n:=⟨_,rfl⟩
 rw [<-hn] at mn e1 A
 rw [<-g] at A
 have t:d.length=n:=by rw [g,Ok];omega
 have v:R8 C F=d.map (WE C):=by
  unfold R8;rw [g,hn]
  congr 1
  rcases Nat.le_total F.length 24 with h | h
  ·rw [Ps h,Oj,Oe h]
  ·rw [Nat.min_eq_right h]
 have w:Nf1 F=d.map SE:=by
  unfold Nf1;rw [g,hn]
  congr 1
  rcases Nat.le_total F.length 24 with h | h
  ·rw [Ps h,Oj,Oe h]
  ·rw [Nat.min_eq_right h]
 have L:∀f∈d,FoOk f:=fun f h=>hF f (by rw [g] at h;exact Q1 h)
 simp only [n29,r29,mn,e1,SB,seval,NC,NJ,NG,NR,reduceCtorEq,NB,place,NA,ND]
 refine NP (S:=Nat×Option Addr×Option Addr×Nat×Nat) (fun s=>n-s.1) (fun s fr G=>s.1<=n/\fr 1=.slice q C.length cc/\fr 6=.slice s.2.1 s.1 s.2.2.2.1/\fr 7=.slice s.2.2.1 s.1 s.2.2.2.2/\fr 16=.slice B n c'/\fr 17=Vi n/\fr 18=Vi s.1/\
  BSt H ((d.map (WE C)).take s.1) ((d.map SE).take s.1) s.2.1 s.2.2.1 s.2.2.2.1 s.2.2.2.2 G) (0,none,none,0,0)
  ⟨Nw _,rfl,rfl,rfl,rfl,rfl,by rfl,.inl ⟨rfl,rfl,rfl⟩,.inl ⟨rfl,rfl,rfl⟩,fun a b h=>(by cases h),fun j hj=>NQ hj,by simp⟩ ?_
 rintro ⟨i,sp,tp,sc,tc⟩ fr G ⟨hi,I,J,K,m,o,r,st⟩ hN
 simp only at hi J K r st
 rw [NU N6t.eq_1]
 refine NK ?_
 have len:=st.len
 have lS:((d.map (WE C)).take i).length=i:=by rw [Ok,Nu];omega
 have lT:((d.map SE).take i).length=i:=by rw [Ok,Nu];omega
 by_cases y:i<n
 ·have e:i<d.length:=by omega
  have sF:Sl G encF 6 B d:=Sl.same A fun a O u=>by subst O;exact st.old _ (A.lt u)
  have sC:∀X,Sl (G++X) encB 1 q C:=fun X=>(Sl.same hs fun a O u=>by subst O;exact st.old _ (hs.lt u)).app X
  have V:=fun X=>(sF.app X).loadCells Nfo e
  have x:∀(c:Nat) (k:IntKind) (H1:NE),Z5 6 (.slice B n c) (.int k (i:Int)) H1=some (.pointer (some (Zv B 6 i)),H1):=fun c k H1=>by
   rw [<-t];exact sF.idx e
  have Z:IntKind.i64.wrap ((i:Int)+1)=((i+1:Nat):Int):=OD (by omega)
  have T:=L _ (QR e)
  have M:(d.map (WE C)).take (i+1)=(d.map (WE C)).take i++[WE C (gt d i)]:=by
   rw [N2 (by rw [Nu];exact e),P8,PW e]
  have N:(d.map SE).take (i+1)=(d.map SE).take i++[SE (gt d i)]:=by
   rw [N2 (by rw [Nu];exact e),P8,PW e]
  generalize gt d i=f at *
  have l:=T
  unfold FoOk at l
  obtain ⟨⟨a1,a2⟩,⟨b1,b2⟩,⟨c1,c2⟩,⟨d1,d2⟩,⟨D,ad⟩,⟨f1,f2⟩⟩:=l
  have ab:=Nka hC (sc:=1+f.scanner % 4) (by omega)
  have P:=fun X (mp:Bool) (lim:Nat) (Q:Value->NE->Prop)=>Nwa (mp:=mp) (lim:=lim) (Q:=Q) (cc:=cc) (sC X) hC Y (sc:=1+f.scanner % 4) (by omega) (by omega)
  have ae:WE C f=⟨1+f.item % 4,1+f.place % 4,1+f.scanner % 4,1+f.kind % 4,SE f-Nc4 C (1+f.scanner % 4),SE f+f.late,0⟩:=rfl
  have W:SE f=14400+f.at' % 5760:=rfl
  have x1:IntKind.i64.wrap f.at'=f.at':=NT (by omega) (by omega)
  have x2:Int.tmod f.at' 5760=f.at' % 5760:=Int.tmod_eq_emod_of_nonneg D
  have x3:IntKind.i64.wrap (14400+f.at' % 5760)=SE f:=(NT (by omega) (by omega)).trans W.symm
  have x4:IntKind.i64.wrap f.item=f.item:=NT (by omega) (by omega)
  have x5:Int.tmod f.item 4=f.item % 4:=Int.tmod_eq_emod_of_nonneg a1
  have x6:IntKind.i64.wrap (1+f.item % 4)=1+f.item % 4:=NT (by omega) (by omega)
  have x7:IntKind.i64.wrap f.place=f.place:=NT (by omega) (by omega)
  have x8:Int.tmod f.place 4=f.place % 4:=Int.tmod_eq_emod_of_nonneg b1
  have x9:IntKind.i64.wrap (1+f.place % 4)=1+f.place % 4:=NT (by omega) (by omega)
  have y1:IntKind.i64.wrap f.scanner=f.scanner:=NT (by omega) (by omega)
  have y2:Int.tmod f.scanner 4=f.scanner % 4:=Int.tmod_eq_emod_of_nonneg c1
  have y3:IntKind.i64.wrap (1+f.scanner % 4)=1+f.scanner % 4:=NT (by omega) (by omega)
  have y4:Int.tmod f.kind 4=f.kind % 4:=Int.tmod_eq_emod_of_nonneg d1
  have y5:IntKind.u8.wrap (1+f.kind % 4)=1+f.kind % 4:=by simp only [IntKind.wrap,IntKind.bits,IntKind.signed];simp;omega
  have y6:IntKind.i64.wrap f.late=f.late:=NT (by omega) (by omega)
  have y7:IntKind.i64.wrap (SE f+f.late)=SE f+f.late:=NT (by omega) (by omega)
  have y8:IntKind.i64.wrap (SE f-Nc4 C (1+f.scanner % 4))=SE f-Nc4 C (1+f.scanner % 4):=NT (by omega) (by omega)
  obtain ⟨G2,q1,G3,q2,aa⟩:=st.step hl (by omega) (by omega) (WE C f) (SE f) (Vc (encF f)) (Vc (QL (WE C f)))
  rw [lS] at q1
  rw [lT] at q2
  have z:[Value.int .i64 (1+f.item % 4),Vi (1+f.place % 4),Vi (1+f.scanner % 4),.int .u8 (1+f.kind % 4),Vi (SE f-Nc4 C (1+f.scanner % 4)),Vi (SE f+f.late)]=QL (WE C f):=rfl
  have U:lim<=G.length:=by omega
  generalize SE f=mt at *
  generalize Nc4 C (1+f.scanner % 4)=bn at *
  simp only [n29,r29,I,J,K,m,o,r,NN,y,x,V,U,Nfo,N8g,N8f,N8e,N8d,N8c,N8b,OP,Ud,Ve,Vd,Vb,Va,UZ,NI,NF,Z,x1,x2,x3,x4,x5,x6,x7,x8,x9,y1,y2,y3,y4,y5,y6,y7,y8,P,z,q1,q2,SB,seval,NC,NJ,NG,NR,reduceCtorEq,NB,place,NA,ND]
  exact hN (i+1,Sa (G.length+3),Sa (G2.length+1),loose 6,loose 1) _ _ ⟨by simp only;omega,I,rfl,rfl,m,o,rfl,by simp only;rw [M,N];exact aa⟩ (by simp only;omega)
 ·obtain rfl:i=n:=by omega
  rw [Oe (by rw [Nu];omega),Oe (by rw [Nu];omega),<-v,<-w] at st
  have l1:(R8 C F).length=i:=by rw [v,Nu,t]
  have l2:(Nf1 F).length=i:=by rw [w,Nu,t]
  have:=hQ G sp sc tp tc st
  rw [l1,l2] at this
  simp only [n29,r29,I,J,K,m,o,r,NN,y,SB,seval,NC,NJ,NG,NR,reduceCtorEq,NB,place,NA,ND]
  exact this
end Go.Proofs.YtkppjkkkdpcgiaaGreat.Fn


namespace Go.Proofs.YtkppjkkkdpcgiaaGreat.Fn
open Go.AM Go.AM.Sym Go.Net Go.Scan
structure RL where
 (a b c d e f:Int)
 deriving DecidableEq,Inhabited
def encR (x:RL):List Value:=[.int .u8 x.a,.int .u8 x.b,.int .u8 x.c,.int .u8 x.d,.int .u8 x.e,.int .u8 x.f]
theorem Nm6 (x:RL):(encR x).length=6:=id rfl
def ByR (x:RL):Prop:=(0<=x.a/\x.a<=255)/\(0<=x.b/\x.b<=255)/\(0<=x.c/\x.c<=255)/\(0<=x.d/\x.d<=255)/\(0<=x.e/\x.e<=255)/\(0<=x.f/\x.f<=255)
def P5:List Int:=[3,1,5,2,4]
def YG (i:Nat) (x:RL):Leg:=⟨(i:Int)+1,1+x.a.tmod 5,1+x.b.tmod 5,x.c*5,1+x.d,x.e.tmod 60,1000,x.f.tmod 127+1⟩
def U9 (a:List RL):Nat->List Leg
 | 0=>[]
 | n+1=>if (YG n (gt a n)).frm≠(YG n (gt a n)).dst then U9 a n++[YG n (gt a n)] else U9 a n
theorem YC (a:List RL):∀n,(U9 a n).length<=n
 | 0=>Nd _
 | n+1=>by
   have:=YC a n
   rw [U9]
   split
   ·simp;omega
   ·omega
theorem MS {b:List RL} {l:Leg}:∀{n},l∈U9 b n->∃i,i<n/\l=YG i (gt b i)/\l.frm≠l.dst
 | 0,h=>by cases h
 | n+1,h=>by
   rw [U9] at h
   split at h
   ·rename_i a
    rcases Ob.1 h with h | h
    ·obtain ⟨i,h1,h2⟩:=MS h;exact ⟨i,by omega,h2⟩
    ·rw [Nk] at h;subst h;exact ⟨n,by omega,rfl,a⟩
   ·obtain ⟨i,h1,h2⟩:=MS h;exact ⟨i,by omega,h2⟩
theorem N35 {a:List RL} {n:Nat} (b:∀x∈a,ByR x) (hn:min a.length 10=n):∀l∈U9 a n,By l:=fun l hl=>by
 obtain ⟨i,hi,rfl,_⟩:=MS hl
 have h1:=b _ (QR (l:=a) (i:=i) (by omega))
 have h2:=h1.2.2.2.2.2
 unfold By YG
 simp only
 have c:=Int.tmod_lt_of_pos (gt a i).f (show (0:Int)<127 by decide)
 have d:=Int.tmod_nonneg (127:Int) h2.1
 omega
theorem N4p {α:Type} [Inhabited α] {l:List α} {n i:Nat} (h:i<n):gt (l.take n) i=gt l i:=by
 unfold gt
 rw [Na,Na,P6,Ni h]
theorem N2u [OB] {lim c:Nat} {p:Option Addr} {g:List RL} {H:NE} {Q:Value->NE->Prop} (hs:Sl H encR 6 p g) (hb:∀x∈g,ByR x) (hl:g.length<2 ^ 63) (hc:Ua 6 c g.length) (y:lim<=H.length)
  (hQ:∀G pp pl cl,Chg [] H G->NetIn G pp pl P5 (U9 g (min g.length 10))->Q (.agg (Tu pp 5 5 pl (U9 g (min g.length 10)).length cl).toArray) G) :
  NL E false lim 10 [.slice p g.length c] H Q:=by
 refine RG (by decide) e10 rfl ?_
 rw [b10,c10]
 obtain ⟨n,hn⟩:∃n,min g.length 10=n:=⟨_,rfl⟩
 rw [hn] at hQ
 have D:min (g.length:Int) 10=(n:Int):=by omega
 obtain ⟨q1,k1,x1,s1,_,_,_⟩:=UR (vlo:=none) (vhi:=some (Vi n)) (lo:=0) (hi:=n) hs hc Nm6 (fun cap ah=>by rw [Ms (by omega) (by omega),Od]) (Nw _) (by omega) (by omega)
 rw [O1] at s1
 simp only [Nat.sub_zero] at x1
 have ag:(g.take n).length=n:=by rw [Ok];omega
 simp only [n10,r10,NF,y,Nzp,D,x1,SB,seval,NC,NJ,NG,NR,reduceCtorEq,NB,place,NA,ND]
 refine NP (fun s:Nat×Option Addr×Nat=>n-s.1) (fun s fr G=>s.1<=n/\fr 2=Vp H.length/\fr 3=Vp (H.length+2)/\fr 13=.slice q1 n k1/\fr 14=Vi n/\fr 15=Vi s.1/\Chg [] H G/\NH G H.length=Vc [Vz,Vz]/\NH G (H.length+1)=Vc (P5.flatMap encI)/\NH G (H.length+2)=Vc [.slice (Sa (H.length+1)) 5 5,.slice s.2.1 (U9 g s.1).length s.2.2]/\Own (H.length+3) G RA 8 s.2.1 s.2.2 (U9 g s.1)) (0,none,0)
  ⟨Nw _,rfl,rfl,rfl,rfl,by rfl,Chg.refl.app,by rw [NV];rfl,by rw [OC];rfl,by rw [OC];rfl,.nil⟩ ?_
 rintro ⟨i,S,cw⟩ fr G ⟨hi,F,I,h,o,t,K,hA,hP,hB,B⟩ hN
 simp only at hi t hB B
 rw [NU N6x.eq_1]
 refine NK ?_
 have hl:=K.len
 have ai:=NM hB
 have L:=fun X=>(OJ.refl.app (X:=X)).cells hB
 by_cases u:i<n
 case neg=>
  obtain rfl:i=n:=by omega
  obtain ⟨G2,e2,h2,m2⟩:=OQ (NM hA) (Vc [.slice (Sa (H.length+1)) 5 5,.slice S (U9 g i).length cw])
  have XA:=fun X=>(OJ.refl.app (X:=X)).cells hA
  have X2:=fun X=>(OJ.refl.app (X:=X)).cells h2
  simp only [n10,r10,F,I,h,o,t,u,L,XA,e2,X2,y,SB,seval,NC,NJ,NG,NR,reduceCtorEq,NB,place,NA,ND]
  have S1:Sl G2 encI 1 (Sa (H.length+1)) P5:=Sl.row (ro:=false) Sj (m2.cells hP (by omega))
  have S2:=(B.mut m2 fun a M e=>by have:=(B.block M).1;omega).sl OI
  exact hQ _ (Sa (H.length+1)) S cw (K.mut m2 (.inr (Nd _))).app ⟨S1.app _,S2.app _,by decide,by have:=YC g i;omega,N35 hb hn⟩
 have P:=(K.sl s1 (by simp))
 have R:=fun X=>(P.app X).loadCells Nm6 (i:=i) (by omega)
 have ix:=fun c (k:IntKind) (H1:NE)=>P.idx (c:=c) (k:=k) (H1:=H1) (i:=i) (by omega)
 have eg:gt (g.take n) i=gt g i:=N4p u
 rw [eg] at R
 rw [ag] at ix
 simp only [encR] at R
 have q:lim<=G.length:=by omega
 have N:=hb _ (QR (l:=g) (i:=i) (by omega))
 generalize hx:gt g i=x at R N
 obtain ⟨M,ac,aj,hd,he,hf⟩:=N
 have am:=Int.tmod_lt_of_pos x.a (show (0:Int)<5 by decide)
 have an:=Int.tmod_nonneg (5:Int) M.1
 have ao:=Int.tmod_lt_of_pos x.b (show (0:Int)<5 by decide)
 have ap:=Int.tmod_nonneg (5:Int) ac.1
 have aq:=Int.tmod_lt_of_pos x.f (show (0:Int)<127 by decide)
 have ar:=Int.tmod_nonneg (127:Int) hf.1
 have wa:IntKind.i64.wrap x.a=x.a:=NT (by omega) (by omega)
 have wb:IntKind.i64.wrap x.b=x.b:=NT (by omega) (by omega)
 have wc:IntKind.i64.wrap x.c=x.c:=NT (by omega) (by omega)
 have wd:IntKind.i64.wrap x.d=x.d:=NT (by omega) (by omega)
 have we:IntKind.i64.wrap x.e=x.e:=NT (by omega) (by omega)
 have T:IntKind.i64.wrap (1+x.a.tmod 5)=1+x.a.tmod 5:=NT (by omega) (by omega)
 have U:IntKind.i64.wrap (1+x.b.tmod 5)=1+x.b.tmod 5:=NT (by omega) (by omega)
 have V:IntKind.i64.wrap (x.c*5)=x.c*5:=NT (by omega) (by omega)
 have W:IntKind.i64.wrap (1+x.d)=1+x.d:=NT (by omega) (by omega)
 have wf:IntKind.u8.wrap (x.f.tmod 127+1)=x.f.tmod 127+1:=by
  simp only [IntKind.wrap,IntKind.bits,IntKind.signed,Bool.false_and,Nz,if_false]
  omega
 have wi:IntKind.i64.wrap ((i:Int)+1)=(i:Int)+1:=NT (by omega) (by omega)
 have A:U9 g (i+1)=if 1+x.a.tmod 5=1+x.b.tmod 5 then U9 g i else U9 g i++[YG i x]:=by
  rw [U9,hx,ite_not];rfl
 by_cases v:1+x.a.tmod 5=1+x.b.tmod 5
 ·rw [Ni v] at A
  simp only [n10,r10,F,I,h,o,t,u,R,ix,q,wa,wb,wc,wd,we,T,U,V,W,wf,wi,N9 v,SB,seval,NC,NJ,NG,NR,reduceCtorEq,NB,place,NA,ND]
  exact hN (i+1,S,cw) _ _ ⟨by show i+1<=n;omega,F,I,h,o,by rfl,K.app,(OJ.refl.app).cells hA,(OJ.refl.app).cells hP,by simp only [A];exact (OJ.refl.app).cells hB,by simp only [A];exact B.app _⟩ (by show n-(i+1)<n-i;omega)
 rw [Ng v] at A
 obtain ⟨G4,Z,O4,Y,ad⟩:=Own.moreF B (lim':=lim) (bytes:=64) (by omega) OI (by decide) [YG i x] (by simp) (by have:=YC g i;unfold PU;simp;omega) (by have:=YC g i;simp;omega) [Vc [.int .u8 x.a,.int .u8 x.b,.int .u8 x.c,.int .u8 x.d,.int .u8 x.e,.int .u8 x.f],Vc (RA (YG i x)),Vc (RA (YG i x))] (x:=.slice (Sa (G.length+2)) 1 1) (str:=false)
  (WL (m:=[YG i x]) (Sl.row (ro:=false) OI (by rw [OC];rfl))) rfl
 have w:∀j,j∈opB S->H.length+3<=j:=fun j C=>by
  cases hpe:S with
  | none=>rw [hpe] at C;cases C
  | some a=>rw [hpe] at C;have:=B.block hpe;simp [opB] at C;omega
 generalize ae:(G++[Vc [.int .u8 x.a,.int .u8 x.b,.int .u8 x.c,.int .u8 x.d,.int .u8 x.e,.int .u8 x.f],Vc (RA (YG i x)),Vc (RA (YG i x))]).length=r at Z O4 ad
 have al:G.length<=r:=by rw [<-ae];simp
 generalize loose 8=c' at Z O4
 simp only [Nm,Ns,Oc,RA,YG] at Z
 have J:=Y.cells hB fun O=>by have:=w _ O;omega
 have aa:=Y.cells hA fun O=>by have:=w _ O;omega
 have ab:=Y.cells hP fun O=>by have:=w _ O;omega
 obtain ⟨G5,e5,h5,m5⟩:=OQ (NM J) (Vc [.slice (Sa (H.length+1)) 5 5,.slice (Sa r) ((U9 g i).length+1) c'])
 have X4:=fun X=>(OJ.refl.app (X:=X)).cells J
 have z:lim<=H.length+2:=by omega
 simp only [n10,r10,F,I,h,o,t,u,R,ix,q,wa,wb,wc,wd,we,T,U,V,W,wf,wi,Nq v,L,Z,X4,e5,z,SB,seval,NC,NJ,NG,NR,reduceCtorEq,NB,place,NA,ND]
 exact hN (i+1,Sa r,c') _ _ ⟨by show i+1<=n;omega,F,I,h,o,by rfl,((K.trans' Y fun j C ak=>by have:=w j C;omega).mut m5 (.inr (by omega))).app,(OJ.refl.app).cells (m5.cells aa (by omega)),(OJ.refl.app).cells (m5.cells ab (by omega)),
  by simp only [A,Nl,Qz];exact (OJ.refl.app).cells h5,by simp only [A];exact ((O4.mut m5 fun a M e=>by cases M;simp at e;omega).le (by omega)).app _⟩ (by show n-(i+1)<n-i;omega)
theorem Nva {α:Type} [Inhabited α] {l m:List α} {i:Nat} (h:i<l.length):gt (l++m) i=gt l i:=by
 rw [PW (by simp;omega),PW h,Qt h]
theorem Nvb {α:Type} [Inhabited α] {l:List α} {x:α}:gt (l++[x]) l.length=x:=by
 rw [PW (by simp),Q9 (Nd _)]
 simp
theorem Nu0 {P:List Int} {M:List Leg} {l:Leg} (h:Wv P M) (h1:Fine l) (h2:l.id∉M.map (·.id)) (a:l.frm∈P) (b:l.dst∈P):Wv P (M++[l]):=fun i hi=>by
 rw [Nl,Qz] at hi
 rcases On i M.length with h5 | h5
 ·have:=h i h5
  unfold lOk at *
  rw [Nva h5,Qe (by omega)]
  exact this
 ·obtain rfl:i=M.length:=by omega
  unfold lOk
  rw [Nvb,Qe (Nd _),Oj]
  exact ⟨h1,h2,a,b⟩
theorem N6y {a:Int} (h1:1<=a) (h2:a<=5):a∈P5:=by
 have:a=1\/a=2\/a=3\/a=4\/a=5:=by omega
 rcases this with rfl | rfl | rfl | rfl | rfl<;>decide
theorem Nr3 {c:List RL} (g:∀x∈c,ByR x):∀n,n<=c.length->n<=10->Wv P5 (U9 c n)
 | 0,_,_=>fun i hi=>by cases hi
 | n+1,hn,h10=>by
   have ih:=Nr3 g n (by omega) (by omega)
   rw [U9]
   split
   ·rename_i m
    obtain ⟨h,d,hc,hd,he,j⟩:=g _ (QR (l:=c) (i:=n) (by omega))
    have o:=Int.tmod_lt_of_pos (gt c n).a (show (0:Int)<5 by decide)
    have p:=Int.tmod_nonneg (5:Int) h.1
    have q:=Int.tmod_lt_of_pos (gt c n).b (show (0:Int)<5 by decide)
    have r:=Int.tmod_nonneg (5:Int) d.1
    have s:=Int.tmod_lt_of_pos (gt c n).e (show (0:Int)<60 by decide)
    have t:=Int.tmod_nonneg (60:Int) he.1
    have u:=Int.tmod_lt_of_pos (gt c n).f (show (0:Int)<127 by decide)
    have v:=Int.tmod_nonneg (127:Int) j.1
    refine Nu0 ih ?_ ?_ ?_ ?_
    ·unfold Fine YG at *
     simp only at *
     omega
    ·intro k
     obtain ⟨l,h1,h2⟩:=List.mem_map.1 k
     obtain ⟨i,w,rfl,_⟩:=MS h1
     unfold YG at h2
     simp only at h2
     omega
    ·refine N6y ?_ ?_<;>(unfold YG;simp only;omega)
    ·refine N6y ?_ ?_<;>(unfold YG;simp only;omega)
   ·exact ih
theorem N3l:Uj P5:=by decide
theorem Nez {a:List RL} (c:∀x∈a,ByR x) {n:Nat} (hn:n<=a.length) (b:n<=10):R6 P5 (U9 a n)=0:=by
 have h1:=YC a n
 unfold R6
 rw [Ng (by have:P5.length=5:=rfl;omega),Ng (by simpa using N3l),Ng (by simpa using Nr3 c n hn b)]
theorem Nrx {S:List Ev} {item:Int} (hi:item≠0):Ue (OH S).1 item=[]↔∀s∈S,s.item≠item:=by
 have hp:=Nhd S
 constructor
 ·intro h s hs he
  have h1:bare s∈((OH S).1++(OH S).2).map bare:=hp.mem_iff.2 (List.mem_map_of_mem hs)
  obtain ⟨x,b,c⟩:=List.mem_map.1 h1
  have d:x.item=item:=by have:=P9 Ev.item c;simpa [bare,he] using this
  rcases Ob.1 b with h2 | h2
  ·have:x∈Ue (OH S).1 item:=(MR hi).2 ⟨h2,d⟩
   rw [h] at this;exact Ox this
  ·obtain ⟨y,f,a,_⟩:=(Noi S).2 x h2
   have e:y.item=item:=by have:=P9 Prod.fst a;simp only [RD] at this;omega
   have:y∈Ue (OH S).1 item:=(MR hi).2 ⟨f,e⟩
   rw [h] at this;exact Ox this
 ·intro h
  rw [List.eq_nil_iff_forall_not_mem]
  intro x b
  obtain ⟨h1,h2⟩:=(MR hi).1 b
  obtain ⟨s,hs,rfl⟩:=MB (.inl h1)
  exact h s hs h2
theorem Vh {C:List Int} {F:List Fo}:(R8 C F).length<=24:=by unfold R8;rw [Nu,Ok];omega
theorem Npv {a:List RL} {C:List Int} {F:List Fo} {item now:Int} (e:∀x∈a,ByR x) (c:ClOk C) (d:∀f∈F,FoOk f) (h1:1<=item) (h2:item<=999999) (b:0<=now) (g:now<=131070) :
  UA P5 (U9 a (min a.length 10)) (R8 C F) item now=if Ue (OH (R8 C F)).1 item=[] then 6 else 0:=by
 have:=Vh (C:=C) (F:=F)
 have h:=Nry (S:=R8 C F) (item:=item)
 rw [Nbj (Nez e (Nat.min_le_left _ _) (Nat.min_le_right _ _)) (VR c d) h1 h2 b (by unfold OA;omega)]
 rw [Ng (show ¬40<(Ue (OH (R8 C F)).1 item).length by omega)]
section
variable {lim n ce cq cr cl B:Nat} {pe q r pl:Option Addr} {ks:List Int} {ss:List Stp} {c:Int} {A:List An} {H:NE} {Q:Value->NE->Prop}
theorem Nvf [OB] {mp:Bool} (D:Sl H encI 1 q ks) (hr:Sl H enc3 3 r ss) (C:Sl H TF 5 pl A) (hn:n<2 ^ 30) (hk:∀k∈ks,0<=k/\k<n) (hs:∀s∈ss,Tf n s) (I:∀a∈A,(0<=a.ev/\a.ev<n)/\0<=a.other/\a.other<n)
  (F:ks≠[]) (L:ks.length<2 ^ 62) (M:ss.length<2 ^ 62) (N:A.length<2 ^ 62):NL E mp lim 54 [.agg (Tt pe n ce q ks.length cq r ss.length cr c pl A.length cl).toArray] H Q=Q (.bool true) H:=by
 refine pc (by decide) e54 rfl rfl ?_
 rw [b54,c54]
 have hp:(0:Int)<(ks.length:Int):=by have:=List.length_pos_iff.2 F;omega
 obtain ⟨B,hB⟩:∃B,B=H.length:=⟨_,rfl⟩
 have z:NH (H++[Vc (Tt pe n ce q ks.length cq r ss.length cr c pl A.length cl)]) B=Vc (Tt pe n ce q ks.length cq r ss.length cr c pl A.length cl):=by rw [hB,NV];rfl
 simp only [n54,r54,PO,Sr,SC,S9,Sz,Sb,NI,NF,SB,seval,NC,NJ,NG,NR,reduceCtorEq,NB,place,NA,ND]
 refine NP (fun j=>ks.length-j) (fun j fr G=>j<=ks.length/\fr 1=Vp B/\fr 11=.slice q ks.length cq/\fr 12=Vi ks.length/\fr 13=Vi j/\OJ H G/\NH G B=Vc (Tt pe n ce q ks.length cq r ss.length cr c pl A.length cl)) 0 ⟨Nw _,by rw [hB];rfl,rfl,rfl,by rfl,OJ.refl.app,z⟩ ?_
 intro j fr G ⟨w,f1,f11,f12,f13,d,g⟩ p
 rw [NU N6m.eq_1]
 refine NK ?_
 have e:=fun X=>(OJ.refl.app (X:=X)).cells g
 by_cases b:j<ks.length
 ·have u:=fun X=>Ndg (d.sl D) b X
  have v:=fun c (kk:IntKind) (H1:NE)=>(d.sl D).idx (c:=c) (k:=kk) (H1:=H1) b
  have f:IntKind.i64.wrap ((j:Int)+1)=((j+1:Nat):Int):=OD (by omega)
  have K:=hk _ (QR b)
  simp only [n54,r54,f1,f11,f12,f13,NN,b,u,v,f,e,PO,Sr,SC,S9,Sz,Sb,NI,NF,ge_iff_le,Nq (show ¬gt ks j<0 by omega),Nq (show ¬(n:Int)<=gt ks j by omega),SB,seval,NC,NJ,NG,NR,reduceCtorEq,NB,place,NA,ND]
  exact p (j+1) _ _ ⟨by omega,f1,f11,f12,rfl,d.trans OJ.refl.app,by rw [Nb];exact g⟩ (by omega)
 simp only [n54,r54,f1,f11,f12,f13,NN,b,e,PO,Sr,SC,S9,Sz,Sb,NI,SB,seval,NC,NJ,NG,NR,reduceCtorEq,NB,place,NA,ND]
 refine NP (fun j=>ss.length-j) (fun j fr G=>j<=ss.length/\fr 1=Vp B/\fr 29=.slice r ss.length cr/\fr 30=Vi ss.length/\fr 31=Vi j/\OJ H G/\NH G B=Vc (Tt pe n ce q ks.length cq r ss.length cr c pl A.length cl)) 0 ⟨Nw _,f1,rfl,rfl,by rfl,d.trans OJ.refl.app,by rw [Nb];exact g⟩ ?_
 clear p f1 f11 f12 f13 d g e b w
 clear j fr G
 intro j fr G ⟨w,f1,h,i,l,d,g⟩ p
 rw [NU N6n.eq_1]
 refine NK ?_
 have e:=fun X=>(OJ.refl.app (X:=X)).cells g
 by_cases b:j<ss.length
 ·have u:=fun X=>((d.sl hr).app X).loadCells OT b
  have v:=fun c (kk:IntKind) (H1:NE)=>(d.sl hr).idx (c:=c) (k:=kk) (H1:=H1) b
  have f:IntKind.i64.wrap ((j:Int)+1)=((j+1:Nat):Int):=OD (by omega)
  have y:=hs _ (QR b)
  unfold Tf at y
  have x:=d.len
  simp only [n54,r54,f1,h,i,l,NN,b,u,v,f,e,PO,Sr,SC,S9,Sz,Sb,OT,Nqp,Nj1,N1r,NI,NF,ge_iff_le,x,Nq (show ¬(gt ss j).1<0 by omega),Nq (show ¬(gt ss j).2.1<=(gt ss j).1 by omega),Nq (show ¬(n:Int)<=(gt ss j).2.1 by omega),SB,seval,NC,NJ,NG,NR,reduceCtorEq,NB,place,NA,ND]
  exact p (j+1) _ _ ⟨by omega,f1,h,i,rfl,d.trans OJ.refl.app,e _⟩ (by omega)
 simp only [n54,r54,f1,h,i,l,NN,b,e,PO,Sr,SC,S9,Sz,Sb,NI,SB,seval,NC,NJ,NG,NR,reduceCtorEq,NB,place,NA,ND]
 refine NP (fun j=>A.length-j) (fun j fr G=>j<=A.length/\fr 1=Vp B/\fr 55=.slice pl A.length cl/\fr 56=Vi A.length/\fr 57=Vi j/\OJ H G/\NH G B=Vc (Tt pe n ce q ks.length cq r ss.length cr c pl A.length cl)) 0 ⟨Nw _,f1,rfl,rfl,by rfl,d.trans OJ.refl.app,by rw [Nb];exact g⟩ ?_
 clear p f1 h i l d g e b w
 clear j fr G
 intro j fr G ⟨w,f1,m,o,t,d,g⟩ p
 rw [NU N6o.eq_1]
 refine NK ?_
 have e:=fun X=>(OJ.refl.app (X:=X)).cells g
 by_cases b:j<A.length
 ·have u:=fun X=>((d.sl C).app X).loadCells RJ b
  have v:=fun c (kk:IntKind) (H1:NE)=>(d.sl C).idx (c:=c) (k:=kk) (H1:=H1) b
  have f:IntKind.i64.wrap ((j:Int)+1)=((j+1:Nat):Int):=OD (by omega)
  have J:=I _ (QR b)
  have x:=d.len
  simp only [n54,r54,f1,m,o,t,NN,b,u,v,f,e,PO,Sr,SC,S9,Sz,Sb,RJ,N8i,N8h,NI,NF,ge_iff_le,x,Nq (show ¬(gt A j).ev<0 by omega),Nq (show ¬(n:Int)<=(gt A j).ev by omega),Nq (show ¬(gt A j).other<0 by omega),Nq (show ¬(n:Int)<=(gt A j).other by omega),SB,seval,NC,NJ,NG,NR,reduceCtorEq,NB,place,NA,ND]
  exact p (j+1) _ _ ⟨by omega,f1,m,o,rfl,d.trans OJ.refl.app,e _⟩ (by omega)
 simp only [n54,r54,f1,m,o,t,NN,b,e,PO,Sr,SC,S9,Sz,Sb,NI,hp,SB,seval,NC,NJ,NG,NR,reduceCtorEq,NB,place,NA,ND]
end
theorem N4b {P:List Int} {L:List Leg} {es:List Ev} {ks:List Int} {ss:List Stp} {now:Int} {A:List An} (h:ListOk P L es ks ss now A) (hk:∀k∈ks,0<=k/\k<es.length) (b:es≠[]):∀a∈A,(0<=a.ev/\a.ev<es.length)/\0<=a.other/\a.other<es.length:=fun a c=>by
 have hp:0<es.length:=List.length_pos_iff.2 b
 rcases h.all a c with ⟨i,hi,h1⟩ | ⟨_,h1,h2,_⟩
 ·exact ⟨by rw [h1.ev];omega,h1.oth⟩
 ·exact ⟨hk _ (List.mem_of_getLast? h2),by omega,by omega⟩
def N9s:ACode:=Sm (Sm (Sm (Sm c26)))
theorem N5b:c26=.seq (Ur c26) (.seq (Ur (Sm c26)) (.seq (Ur (Sm (Sm c26))) (.seq (Ur (Sm (Sm (Sm c26)))) N9s))):=rfl
theorem Nel:Ni1.length=5:=id rfl
theorem N9z [OB] {b:Bool} {lim B C sc:Nat} {sp:Option Addr} {S:List Ev} {IT e:Int} {V:List Value} {G:NE} {fr:Nat->Value} {Q:Value->NE->Prop} (f10:fr 10=Vp B) (f14:fr 14=.slice sp S.length sc) (t:fr 16=Vi IT) (u:fr 17=Vp C) (w:fr 18=Vi e)
  (M:NH G B=Vc Ni1) (N:NH G C=Vc V) (U:V.length=5) (hs:Sl G QL 6 sp S) (ab:S.length<=24) (hl:lim<=B) (ac:lim<=G.length) (aa:B≠C)
  (he:(b=true/\e=0/\(∃s∈S,s.item=IT)/\(∀(mp:Bool) (lim:Nat) (G':NE) (Q:Value->NE->Prop),OJ G G'->NL E mp lim 54 [.agg V.toArray] G' Q=Q (.bool true) G'))\/b=false/\e=6/\∀s∈S,s.item≠IT)
  (T:∀G',Chg [B] G G'->Q (.tuple #[.agg V.toArray,.slice sp S.length sc,.bool b,.bool true]) G'):PV E a26 lim [.code N9s] fr G Q:=by
 refine NK ?_
 simp only [Sm,N9s,c26,n26,r26,f14,SB,seval,NC,NJ,NG,NR,reduceCtorEq,NB,place,NA,ND]
 refine NP (fun j=>S.length-j) (fun j fr' G'=>j<=S.length/\fr' 10=fr 10/\fr' 14=fr 14/\fr' 16=fr 16/\fr' 17=fr 17/\fr' 18=fr 18/\fr' 19=.bool ((S.take j).any fun s=>decide (s.item=IT))/\fr' 43=.slice sp S.length sc/\fr' 44=Vi S.length/\fr' 45=Vi j/\OJ G G') 0 ⟨Nw _,rfl,rfl,rfl,rfl,rfl,rfl,rfl,rfl,by rfl,OJ.refl.app⟩ ?_
 intro j fr' G' ⟨hj,i,l,h,m,n,a,f,g,p,r⟩ J
 rw [f10] at i
 rw [f14] at l
 rw [t] at h
 rw [u] at m
 rw [w] at n
 rw [NU N6v.eq_1]
 refine NK ?_
 have ad:=r.len
 by_cases d:j<S.length
 ·have O:=fun X=>((r.sl hs).app X).loadCells OP d
  have P:=fun c (kk:IntKind) (H1:NE)=>(r.sl hs).idx (c:=c) (k:=kk) (H1:=H1) d
  have z:IntKind.i64.wrap ((j:Int)+1)=((j+1:Nat):Int):=OD (by omega)
  have y:((S.take (j+1)).any fun s=>decide (s.item=IT))=(((S.take j).any fun s=>decide (s.item=IT))||decide ((gt S j).item=IT)):=by
   rw [N2 d,List.any_append,PW d]
   simp
  obtain ⟨o,ho⟩:∃o,((S.take j).any fun s=>decide (s.item=IT))=o:=⟨_,rfl⟩
  rw [ho] at y a
  have hF:∀v:Value,v=.bool ((S.take (j+1)).any fun s=>decide (s.item=IT))->True:=fun _ _=>trivial
  cases o
  ·by_cases hi:(gt S j).item=IT
   ·rw [Np hi,Bool.or_true] at y
    simp only [n26,r26,f,g,p,a,h,NN,d,O,P,z,OP,Ud,NI,NF,show lim<=G'.length by omega,N9 hi,SB,seval,NC,NJ,NG,NR,reduceCtorEq,NB,place,NA,ND]
    exact J (j+1) _ _ ⟨by omega,(by simp only [i,f10,FB,Nat.reduceEqDiff]),(by simp only [l,f14,FB,Nat.reduceEqDiff]),(by simp only [h,t,FB,Nat.reduceEqDiff]),(by simp only [m,u,FB,Nat.reduceEqDiff]),(by simp only [n,w,FB,Nat.reduceEqDiff]),by rw [y];rfl,f,g,rfl,r.trans OJ.refl.app⟩ (by omega)
   ·rw [N5 hi,Bool.or_false] at y
    simp only [n26,r26,f,g,p,a,h,NN,d,O,P,z,OP,Ud,NI,NF,show lim<=G'.length by omega,Nq hi,SB,seval,NC,NJ,NG,NR,reduceCtorEq,NB,place,NA,ND]
    exact J (j+1) _ _ ⟨by omega,(by simp only [i,f10,FB,Nat.reduceEqDiff]),(by simp only [l,f14,FB,Nat.reduceEqDiff]),(by simp only [h,t,FB,Nat.reduceEqDiff]),(by simp only [m,u,FB,Nat.reduceEqDiff]),(by simp only [n,w,FB,Nat.reduceEqDiff]),by rw [y];rfl,f,g,rfl,r.trans OJ.refl.app⟩ (by omega)
  ·rw [Bool.true_or] at y
   simp only [n26,r26,f,g,p,a,h,NN,d,O,P,z,OP,Ud,NI,NF,show lim<=G'.length by omega,SB,seval,NC,NJ,NG,NR,reduceCtorEq,NB,place,NA,ND]
   exact J (j+1) _ _ ⟨by omega,(by simp only [i,f10,FB,Nat.reduceEqDiff]),(by simp only [l,f14,FB,Nat.reduceEqDiff]),(by simp only [h,t,FB,Nat.reduceEqDiff]),(by simp only [m,u,FB,Nat.reduceEqDiff]),(by simp only [n,w,FB,Nat.reduceEqDiff]),by rw [y];rfl,f,g,rfl,r.trans OJ.refl.app⟩ (by omega)
 obtain rfl:j=S.length:=by omega
 rw [Oj] at a
 have x:=r.cells M
 have F:=r.cells N
 have H:=fun X=>(OJ.refl.app (X:=X)).cells x
 have I:=fun X=>(OJ.refl.app (X:=X)).cells F
 obtain ⟨Z,e3,h3,m3⟩:=OQ (NM x) (Vc V)
 have W:=fun X=>(OJ.refl.app (X:=X)).cells h3
 have R:Chg [B] G Z:=(r.chg (A:=[B])).mut m3 (.inl (by simp))
 rcases he with ⟨rfl,rfl,hex,K⟩ | ⟨rfl,rfl,L⟩
 ·have q:(S.any fun s=>decide (s.item=IT))=true:=by
   obtain ⟨s,h1,h2⟩:=hex
   exact List.any_eq_true.2 ⟨s,h1,by simpa using h2⟩
  rw [q] at a
  have D:=fun mp lim Y Q=>K mp lim (G'++Y) Q (r.trans OJ.refl.app)
  simp only [n26,r26,f,g,p,a,i,l,m,n,NN,d,H,Nel,I,W,e3,U,hl,NI,NF,D,SB,seval,NC,NJ,NG,NR,reduceCtorEq,NB,place,NA,ND]
  exact T _ R.app
 ·have q:(S.any fun s=>decide (s.item=IT))=false:=by
   rw [List.any_eq_false]
   exact fun s h1=>by simpa using L s h1
  rw [q] at a
  simp only [n26,r26,f,g,p,a,i,l,m,n,NN,d,H,Nel,I,W,e3,U,hl,NI,NF,SB,seval,NC,NJ,NG,NR,reduceCtorEq,NB,place,NA,ND]
  exact T _ R.app
theorem Nhr {P:List Int} {L:List Leg} {es tw:List Ev} {ks:List Int} {ss:List Stp} {now:Int} (h1:es.length<=40) (h2:tw.length<=40):(TU P L es tw ks ss now).length<=4000:=by
 have e:TU P L es tw ks ss now=Xo P L es tw ks ss es.length++Uz es ks now:=rfl
 have a:=MK (P:=P) (L:=L) (es:=es) (tw:=tw) (ks:=ks) (ss:=ss) es.length
 have b:es.length*(51+tw.length)<=40*(51+tw.length):=O2 _ h1
 have c:(Uz es ks now).length<=1:=by
  rcases Ne2 (es:=es) (ks:=ks) (now:=now) with h | ⟨k,_,h,_⟩<;>rw [h]<;>simp
 rw [e,Nl]
 omega
theorem Nxx (S:List Ev) (item:Int):(Ue (OH S).2 item).length<=S.length:=by
 have h1:=(MQ (OH S).2 item).length_le
 have h2:=Nd9 S
 omega
theorem Nuw [OB] (hE:EffOk) {lim ca cb cc:Nat} {p q r:Option Addr} {g:List RL} {F:List Fo} {C:List Int} {item now:Int} {H:NE} {Q:Value->NE->Prop} (hs:Sl H encR 6 p g) (hb:∀x∈g,ByR x) (ao:g.length<2 ^ 63) (hc:Ua 6 ca g.length)
  (hf:Sl H encF 6 q F) (hF:∀f∈F,FoOk f) (ai:Ua 6 cb F.length) (ak:F.length<2 ^ 63) (hC:ClOk C) (ap:Sl H encB 1 r C) (aj:C.length<2 ^ 63) (al:0<=item/\item<=255) (aw:0<=now/\now<=65535) (hl:lim<=H.length)
  (y:∀G sp sc,OJ H G->Q (.tuple #[.agg Ni1.toArray,.slice sp (R8 C F).length sc,.bool false,.bool true]) G)
  (Z:∀G sp sc pe ce q cq r cr pl cl (es tw:List Ev) (ks:List Int) (ss:List Stp),es=Ue (OH (R8 C F)).1 (1+item % 4)->tw=Ue (OH (R8 C F)).2 (1+item % 4)->ks=R5 P5 (U9 g (min g.length 10)) es->ss=QU P5 (U9 g (min g.length 10)) es ks->es≠[]->WX P5 (U9 g (min g.length 10)) es=0->OJ H G->
   Sl G QL 6 sp (R8 C F)->Sl G encE 7 pe es->Ua 7 ce es.length->Sl G encI 1 q ks->Sl G enc3 3 r ss->Sl G TF 5 pl (TU P5 (U9 g (min g.length 10)) es tw ks ss (now*2))->
   Q (.tuple #[.agg (Tt pe es.length ce q ks.length cq r ss.length cr (Td P5 (U9 g (min g.length 10)) es ks) pl (TU P5 (U9 g (min g.length 10)) es tw ks ss (now*2)).length cl).toArray,.slice sp (R8 C F).length sc,.bool true,.bool true]) G) :
  NL E false lim 26 [.slice p g.length ca,.slice q F.length cb,.slice r C.length cc,.int .u8 item,.int .u16 now] H Q:=by
 refine RG (by decide) e26 rfl ?_
 rw [b26,N5b]
 obtain ⟨IT,M⟩:∃IT,1+item % 4=IT:=⟨_,rfl⟩
 have aq:1<=IT:=by omega
 have ar:IT<=4:=by omega
 have w2:IntKind.i64.wrap (1+item.tmod 4)=IT:=by rw [Int.tmod_eq_emod_of_nonneg al.1,M,NT (by omega) (by omega)]
 have w3:IntKind.i64.wrap item=item:=NT (by omega) (by omega)
 have w4:IntKind.i64.wrap now=now:=NT (by omega) (by omega)
 have w5:IntKind.i64.wrap (now*2)=now*2:=NT (by omega) (by omega)
 obtain ⟨S,hS⟩:∃S,R8 C F=S:=⟨_,rfl⟩
 have ag:=VR hC hF
 have ah:=Vh (C:=C) (F:=F)
 have u:=Npv hb hC hF (item:=IT) (now:=now*2) (by omega) (by omega) (by omega) (by omega)
 obtain ⟨L,hL⟩:∃L,U9 g (min g.length 10)=L:=⟨_,rfl⟩
 rw [hS,M,hL] at Z
 rw [hS] at y ag ah u
 rw [hL] at u
 simp only [Ur,Sm,c26,n26,r26,NF,SB,seval,NC,NJ,NG,NR,reduceCtorEq,NB,place,NA,ND]
 refine Nn2 (lim:=lim) (hf.app _) ai (ap.app _) hF hC ak aj (by simp;omega) fun G1 sp sc tp tc hB=>?_
 rw [hS] at hB⊢
 have m:OJ (H++[Vc Ni1]) G1:=(show Chg [] _ _ from ⟨hB.len,fun j t _=>hB.old j t⟩).ext
 have am:=m.len
 simp at am
 refine NK ?_
 simp only [Ur,Sm,c26,n26,r26,w2,w3,SB,seval,NC,NJ,NG,NR,reduceCtorEq,NB,place,NA,ND]
 refine N2u (lim:=lim) ((m.sl (hs.app _)).app _) hb ao hc (by simp;omega) fun G2 pp pL cL n hN=>?_
 rw [hL] at hN⊢
 have an:=n.len
 simp at an
 have ac:=n.cells ((OJ.refl.app (X:=[])).cells (m.cells (b:=H.length) (ro:=false) (c:=Ni1) (by rw [NV];rfl))) (by simp)
 have U:OJ H G2:=(OJ.refl.app.trans m).trans (OJ.refl.app.trans n.ext)
 have w:=n.sl ((hB.so.sl OP).app []) (fun a _ _ h=>(by cases h))
 refine NK ?_
 simp only [Ur,Sm,c26,n26,r26,w4,w5,SB,seval,NC,NJ,NG,NR,reduceCtorEq,NB,place,NA,ND]
 have D:=fun h=>(N39 (P:=P5) (L:=L) (S:=S) (item:=IT) (now:=now*2) h)
 refine Ndo hE (hN.app _) (w.app _) (by omega) (by simp;omega) (fun J K d=>?_) (fun J pe ce q' cq r' cr pl cl es tw ks ss e1 e2 e3 e4 K d ae ad O R T=>?_)
 ·have hn:Ue (OH S).1 IT=[]:=Ny fun h=>by rw [u,Ng h] at K;exact K rfl
  rw [u,Ni hn]
  refine NK ?_
  have I:=d.len
  simp at I
  have kk:=d.cells ((OJ.refl.app (X:=[])).cells ac) (by simp)
  simp only [Ur,Sm,c26,n26,r26,Nda,NI,NF,show lim<=J.length by omega,SB,seval,NC,NJ,NG,NR,reduceCtorEq,NB,place,NA,ND]
  refine N9z (b:=false) (B:=H.length) (C:=J.length) (S:=S) (V:=Ni1) rfl rfl rfl rfl rfl ((OJ.refl.app (X:=[Vc Ni1])).cells kk) (by rw [NV];rfl) Nel ((d.sl (w.app _) (fun a _ _ h=>(by cases h))).app _) (by omega) hl (by simp;omega) (by omega) (.inr ⟨rfl,rfl,(Nrx (by omega)).1 hn⟩) fun G' k=>y G' _ _ ?_
  exact (((U.trans (OJ.refl.app.trans d.ext)).app.chg (A:=[])).trans' k (fun j t hh=>by simp at t;omega)).ext
 have v:es≠[]:=by rw [e1];exact (D K).2.2.2.2.2.2.1
 have z:WX P5 L es=0:=by rw [e1];exact (D K).2.2.2.2.2.2.2
 refine NK ?_
 have I:=d.len
 simp at I
 have kk:=d.cells ((OJ.refl.app (X:=[])).cells ac) (by simp)
 have i:=YV (P:=P5) (L:=L) (es:=es)
 rw [<-e3] at i
 have au:es.length<=40:=(Nql z).2.1
 have av:ks.length<=es.length:=Ndm i.2
 have Y:ks≠[]:=fun h=>by have:=i.1 (by rw [h];rfl);exact v (List.length_eq_zero_iff.1 this)
 have aa:=Nd1 (P:=P5) (L:=L) i
 have N:=N4a (P:=P5) (L:=L) (tw:=tw) (now:=now*2) i
 rw [<-e4] at aa N
 have ab:∀a,sp=some a->H.length+1<=a.block:=fun a W=>by
  have:=(hB.so.block W).1
  simp only [Nl,Nm,Ns] at this
  omega
 simp only [Ur,Sm,c26,n26,r26,PO,NI,NF,show lim<=J.length by omega,SB,seval,NC,NJ,NG,NR,reduceCtorEq,NB,place,NA,ND]
 refine N9z (b:=true) (B:=H.length) (C:=J.length) (S:=S) (IT:=IT) (e:=0) rfl rfl rfl rfl rfl (OJ.refl.app.cells kk) (by rw [NV];rfl) PO ((d.sl (w.app _) (fun a _ _ h=>(by cases h))).app _) (by omega) hl (by simp;omega) (by omega) (.inl ⟨rfl,rfl, ?_, ?_⟩) fun G' k=>?_
 ·apply Ny
  intro h
  apply v
  rw [e1]
  exact (Nrx (by omega)).2 fun s hs hi=>h ⟨s,hs,hi⟩
 ·intro mp lim G' Q hX
  exact Nvf (hX.sl (O.1.app _)) (hX.sl (R.1.app _)) (hX.sl (T.1.app _)) (by omega) i.mem aa.1 (N4b N i.mem v) Y (by omega) (by rw [e4];unfold QU;rw [Nu,Pq];omega) (by have h1:=Nxx S IT;rw [<-e2] at h1;have:=Nhr (P:=P5) (L:=L) (es:=es) (tw:=tw) (ks:=ks) (ss:=ss) (now:=now*2) (by omega) (by omega);omega)
 have o:∀{α:Type} {enc:α->List Value} {e:Nat} {q:Option Addr} {l:List α},Wu (G2++[]).length J enc e q l->Sl G' enc e q l:=fun h=>k.sl (h.1.app _) fun a W _ t=>by
  have:=h.2 a W
  simp only [Nk] at t
  simp only [Nl,Ns] at this
  omega
 exact Z G' _ _ _ _ _ _ _ _ _ _ es tw ks ss e1 e2 e3 e4 v z (((U.trans (OJ.refl.app.trans d.ext)).app.chg (A:=[])).trans' k (fun j t hh=>by simp at t;omega)).ext (k.sl ((d.sl (w.app _) (fun a _ _ h=>(by cases h))).app _) fun a W _ t=>by have:=ab a W;simp at t;omega) (o ae) ad (o O) (o R) (o T)
end Go.Proofs.YtkppjkkkdpcgiaaGreat.Fn


namespace Go.Scan
theorem Nha {S X:List Ev} {m:Mk} (h:∀x∈X,x.scanner≠m.scanner):m∈Yu (S++X)↔m∈Yu S:=by
 rw [Ndt,Ndt]
 constructor
 ·rintro ⟨s,hs,e,a⟩
  rcases Ob.1 hs with hs | hs
  ·exact ⟨s,hs,e,fun x hx=>a x (Ol _ hx)⟩
  ·exact absurd (P9 Mk.scanner e) (h s hs)
 ·rintro ⟨s,hs,e,a⟩
  refine ⟨s,Ol _ hs,e,fun x hx hk=>?_⟩
  rcases Ob.1 hx with hx | hx
  ·exact a x hx hk
  ·have h1:x.scanner=s.scanner:=P9 Prod.fst hk
   have h2:s.scanner=m.scanner:=P9 Mk.scanner e
   exact absurd (h1.trans h2) (h x hx)
theorem Nem {V out:List Mk} (h:RefOf V out) (sc:Int):RefOf (ofN V sc) (ofN out sc):=by
 unfold ofN
 refine ⟨h.lt.sublist List.filter_sublist,fun m a=>?_,fun m a=>?_⟩
 ·obtain ⟨h1,h2⟩:=Om.1 a
  exact Om.2 ⟨h.from' m h1,h2⟩
 ·obtain ⟨h1,h2⟩:=Om.1 a
  obtain ⟨y,b,q1,q2⟩:=h.all m h1
  refine ⟨y,Om.2 ⟨b, ?_⟩,q1,q2⟩
  unfold RF at q1
  simpa [<-q1.1] using h2
theorem Nmu {S X:List Ev} {sc:Int} (h:∀x∈X,x.scanner≠sc):ofN (PL (S++X)) sc=ofN (PL S) sc:=by
 refine Noq (Nem (Nad (S++X)) sc) (Nem (Nad S) sc) fun m=>?_
 unfold ofN
 rw [Om,Om]
 constructor
 ·rintro ⟨h1,h2⟩
  have e:m.scanner=sc:=by simpa using h2
  exact ⟨(Nha (e▸h)).1 h1,h2⟩
 ·rintro ⟨h1,h2⟩
  have e:m.scanner=sc:=by simpa using h2
  exact ⟨(Nha (e▸h)).2 h1,h2⟩
theorem Ns6 {S X:List Ev} {s:Ev} (h:∀x∈X,x.scanner≠s.scanner):Uh (PL (S++X)) s=Uh (PL S) s:=by
 unfold Uh MP
 rw [Nmu h]
section
variable {item:Int}
theorem Nhw {e:Ev} (he:e.item=item):∀kept:List Ev,UB e (kept.filter fun x=>x.item == item)=UB e kept
 | []=>rfl
 | x::kept=>by
   have ih:=Nhw he kept
   unfold UB at *
   by_cases h:x.item=item
   ·rw [Pz (by simpa using h),List.find?_cons,List.find?_cons,ih]
   ·have hn:(RD x == RD e)=false:=by
     rw [beq_eq_false_iff_ne];intro a;exact h ((P9 Prod.fst a).trans he)
    rw [Pk (by simpa using h),List.find?_cons,hn];exact ih
theorem Xi:∀(l k t:List Ev),((RI k t l).1.filter fun x=>x.item == item)=(RI (k.filter fun x=>x.item == item) (t.filter fun x=>x.item == item) (l.filter fun x=>x.item == item)).1/\((RI k t l).2.filter fun x=>x.item == item)=(RI (k.filter fun x=>x.item == item) (t.filter fun x=>x.item == item) (l.filter fun x=>x.item == item)).2
 | [],k,t=>by simp [RI,List.filter_reverse]
 | e::l,k,t=>by
   by_cases h:e.item=item
   ·have a:UQ e (k.filter fun x=>x.item == item)=UQ e k:=by unfold UQ;rw [Nhw h]
    rw [Pz (by simpa using h)]
    unfold RI
    rw [a]
    cases UQ e k with
    | true=>
      rw [Ni rfl,Ni rfl]
      have:=Xi l k (e::t)
      rwa [Pz (by simpa using h)] at this
    | false=>
      rw [Ng (by simp),Ng (by simp)]
      have:=Xi l (e::k) t
      rwa [Pz (by simpa using h)] at this
   ·rw [Pk (by simpa using h)]
    have e0:RI k t (e::l)=if UQ e k then RI k (e::t) l else RI (e::k) t l:=rfl
    rw [e0]
    split
    ·have:=Xi l k (e::t)
     rwa [Pk (by simpa using h)] at this
    ·have:=Xi l (e::k) t
     rwa [Pk (by simpa using h)] at this
end
theorem Ntw {S R X:List Ev} {item:Int} (hi:item≠0) (hp:R.Perm S) (f:∀x∈X,x.item≠item) (hs:∀x∈X,∀s∈S,x.scanner≠s.scanner) :
  Ue (OH (R++X)).1 item=Ue (OH S).1 item/\Ue (OH (R++X)).2 item=Ue (OH S).2 item:=by
 have c:∀l:List Ev,Ue l item=l.filter fun x=>x.item == item:=fun l=>by
  unfold Ue
  rw [beq_eq_false_iff_ne.2 hi]
  rfl
 have key:(RY (PL (R++X)) (R++X)).filter (fun x=>x.item == item)=(RY (PL S) S).filter fun x=>x.item == item:=by
  have h:PL R=PL S:=Njx fun s=>hp.mem_iff
  refine MM Zr Nhy ((Vr _ _).sublist List.filter_sublist) ((Vr _ _).sublist List.filter_sublist) ?_
  have p1:=(Sn TV ((R++X).map fun s=>{ s with time:=Uh (PL (R++X)) s })).filter fun x=>x.item == item
  have p2:=(Sn TV (S.map fun s=>{ s with time:=Uh (PL S) s })).filter fun x=>x.item == item
  refine p1.trans (List.Perm.trans ?_ p2.symm)
  have e1:(X.map fun s=>{ s with time:=Uh (PL (R++X)) s }).filter (fun x=>x.item == item)=[]:=by
   rw [List.filter_eq_nil_iff]
   intro a g
   obtain ⟨x,e,rfl⟩:=List.mem_map.1 g
   simpa using f x e
  have e2:(R.map fun s=>{ s with time:=Uh (PL (R++X)) s })=R.map fun s=>{ s with time:=Uh (PL S) s }:=Pi fun s d=>by
   rw [Ns6 fun x e=>hs x e s (hp.mem_iff.1 d),h]
  rw [O0,List.filter_append,e1,Nb,e2]
  exact (hp.map _).filter _
 have a:=Xi (item:=item) (RY (PL (R++X)) (R++X)) [] []
 have b:=Xi (item:=item) (RY (PL S) S) [] []
 rw [key] at a
 unfold OH
 rw [c,c,c,c,a.1,a.2,b.1,b.2]
 exact ⟨rfl,rfl⟩
end Go.Scan


