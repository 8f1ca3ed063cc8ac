/-
  Joined texts, 9 of 10. A part of the claim that the last text states.
-/
import Derived.Test.YtkppjkkkdpcgiaaGreatPU8
set_option linter.unusedVariables false
set_option linter.unusedSimpArgs false
set_option linter.defProp false
set_option linter.unusedSectionVars false
set_option maxRecDepth 100000
set_option maxHeartbeats 4000000
namespace Go.Proofs.YtkppjkkkdpcgiaaGreat.Fn
open Go.AM Go.AM.Sym Go.Net Go.Scan
theorem N0a [OB] {lim B3 B9 B10 B11 M U V n W m2 m3 m4:Nat} {w p2 p3 p4:Option Addr} {u1 u2:Int} {C:List Int} {A S0:List Ev} {sc:Int} {z:NA} {R:Option Addr} {sc0:Nat} {fr:Nat->Value} {K:List AItem} {Z:Value->NA->Prop}
  (h0:Box B3 B9 B10 B11 M [.int .u8 u1,.int .u8 u2,.slice w C.length U,.slice p2 m2 V,.slice p3 m3 n,.slice p4 m4 W] S0 R sc0 (SH A) z) (ah:Sl z encY 1 w C) (ac:C.length<2 ^ 63) (hC:∀x∈C,-128<=x/\x<=127) (b1:∀a,w=some a->C≠[]->a.block<B3) (al:lim<=B3) (h1:1<=sc) (h5:sc<=5) (hS:S0.length<=400) (hA:A.length<=100)
  (f9:fr 9=Vp B9) (f10:fr 10=Vp B10) (f11:fr 11=Vp B11) (aa:fr 18=Vi sc) (ab:fr 19=Vi 10)
  (hR:∀fr' G' sp ai,(∀j,j<B10->NC G' j=NC z j)->Box B3 B9 B10 B11 M [.int .u8 u1,.int .u8 u2,.slice w C.length U,.slice p2 m2 V,.slice p3 m3 n,.slice p4 m4 W] (S0++exD C A sc 66) sp ai (SH A) G'->(∀j,j<=18->fr' j=fr j)->QC E a3 lim K fr' G' Z) :
  QC E a3 lim (.code (.loop N5z)::.inBlock 4::K) fr (z++[]) Z:=by
 refine NZ (fun s:Nat×Option Addr×Nat=>66-s.1) (fun s fr' G'=>s.1<=66/\(∀j,j<B10->NC G' j=NC z j)/\Box B3 B9 B10 B11 M [.int .u8 u1,.int .u8 u2,.slice w C.length U,.slice p2 m2 V,.slice p3 m3 n,.slice p4 m4 W] (S0++exD C A sc s.1) s.2.1 s.2.2 (SH A) G'/\fr' 19=Vi ((s.1:Int)+10)/\(∀j,j<=18->fr' j=fr j)) (0,R,sc0)
  ⟨Nv _,fun j f=>by rw [Nc],by rw [Nc];simpa [exD] using h0,ab,fun _ _=>rfl⟩ ?_
 rintro ⟨i,sp,cp⟩ fr' G' ⟨hi,Y,hB,o,g⟩ I
 simp only at hi hB o
 rw [OD N5z.eq_1]
 refine NL ?_
 have g9:=(g 9 (by decide)).trans f9
 have B:=(g 10 (by decide)).trans f10
 have D:=(g 11 (by decide)).trans f11
 have F:=(g 18 (by decide)).trans aa
 by_cases an:i<66
 case neg=>
  obtain rfl:i=66:=by omega
  have p:¬((66:Nat):Int)+10<=75:=by decide
  simp only [n3,r3,o,Np p,SB,seval,NF,NJ,NK,QY,reduceCtorEq,NE,place,NB,ND]
  exact hR _ _ sp cp (fun j f=>by rw [Nc];exact Y j f) (hB.app _) fun j f=>by
   rw [<-g j f]
   simp only [upd]
   repeat rw [Ng (by omega)]
 have p:(i:Int)+10<=75:=by omega
 have o1:=hB.o1
 have o2:=hB.o2
 have o3:=hB.o3
 have o4:=hB.o4
 have a11:=NG hB.k11
 have T:=fun X=>(OM.refl.app (X:=X)).cells hB.k11
 have xM:=fun X=>(show NC (G'++X) M=.map (Rv kM vI (SH A)) by rw [NI (by omega)];exact hB.km)
 have l:=Va (vv:=vI) Nyz (sc,(i:Int)+10) (SH A) 0
 have v:=Nyy (k:=(sc,(i:Int)+10))
 simp only [kM] at l v
 obtain ⟨d1,d2⟩:=MX (S:=A) (k:=(sc,(i:Int)+10))
 have wi:IntKind.i64.wrap ((i:Int)+10+1)=((i+1:Nat):Int)+10:=by rw [NN (by omega) (by omega)];omega
 cases hf:fk (sc,(i:Int)+10) (SH A) 0 with
 | none=>
   rw [hf] at l
   have hg:UZ (sc,(i:Int)+10) (SH A)=none:=by rw [<-ZK _ _ 0,hf];rfl
   have ag:¬Uq A sc ((i:Int)+10):=fun h=>d2.1 h hg
   simp only [n3,r3,g9,B,D,F,o,N3 p,T,xM,l,v,Oh,wi,SB,seval,NF,NJ,NK,QY,reduceCtorEq,NE,place,NB,ND]
   exact I (i+1,sp,cp) _ _ ⟨by show i+1<=66;omega,fun j f=>by rw [Nc];exact Y j f,by rw [exD,Ng ag,Nc];exact hB.app _,by rfl,fun j f=>by
    rw [<-g j f]
    simp only [upd]
    repeat rw [Ng (by omega)]⟩ (by show 66-(i+1)<66-i;omega)
 | some x=>
   obtain ⟨q,m⟩:=x
   rw [hf] at l
   simp only [Nr,vI] at l
   have hg:UZ (sc,(i:Int)+10) (SH A)=some m:=by rw [<-ZK _ _ 0,hf];rfl
   have hm:=d1 m hg
   have N:Uq A sc ((i:Int)+10):=d2.2 (by rw [hg];simp)
   have ad:(0:Int)<m:=by omega
   have aj:Sl G' encY 1 w C:=Tu ah fun x hx hn ro c hc=>by rw [Y _ (by have:=b1 x hx hn;omega)];exact hc
   have x9:=fun X=>(OM.refl.app (X:=X)).cells hB.k9
   have ak:=fun X=>(OM.refl.app (X:=X)).cells hB.k10
   have ck:=fun (X:NA) (mp:Bool) (lim:Nat) (Q:Value->NA->Prop)=>Nmn (mp:=mp) (lim:=lim) (s:=sc) (Q:=Q) ((OM.refl.app (X:=X)).cells hB.k3) (aj.app X) ac h1 (by omega) hC
   have hc:=Ncz hC h1
   have w0:IntKind.i64.wrap (((i:Int)+10)*1440)=((i:Int)+10)*1440:=NN (by omega) (by omega)
   have w2:IntKind.i64.wrap (((i:Int)+10)*1440+700)=((i:Int)+10)*1440+700:=NN (by omega) (by omega)
   have w3:IntKind.i64.wrap (((i:Int)+10)*1440+700-RB C sc)=((i:Int)+10)*1440+700-RB C sc:=NN (by omega) (by omega)
   have w4:IntKind.i64.wrap (40+sc)=40+sc:=NN (by omega) (by omega)
   have eE:QE (exO C sc ((i:Int)+10))=[Vi 9,Vi (40+sc),Vi sc,.int .u8 2,Vi (((i:Int)+10)*1440+700-RB C sc),Vi (((i:Int)+10)*1440+700)]:=rfl
   have J:(S0++exD C A sc i).length<=466:=by have:=Ni5 (C:=C) (S:=A) (s:=sc) i;rw [Ni];omega
   obtain ⟨G2,y,u,e2,O2,C2,P,am,_,_⟩:=hB.own.moreD (d:=G'.length+1) (lim':=lim) (bytes:=48) (by omega) PN (by decide) [exO C sc ((i:Int)+10)] (by simp;unfold PM;simp at J;omega) (by simp;simp at J;omega) (by omega) [Vc (QE (exO C sc ((i:Int)+10))),.dead] (by omega) (by simp) (x:=.slice (Sa G'.length) 1 1) (str:=false) (Ue (m:=[exO C sc ((i:Int)+10)]) (Sl.row (ro:=false) PN (by rw [NQ];simp))) rfl
   have ne:∀j,j<=B11->∀a,sp=some a->j≠a.block:=fun j f a ha=>by have:=(hB.own.block ha).1;omega
   have r:∀j,j<=B11->NC G2 j=NC G' j:=fun j f=>by
    have:=P j (by omega) (ne j f)
    rwa [Nc] at this
   rw [Nc] at O2
   have k10:NC G2 B10=Vc [.slice sp (S0++exD C A sc i).length cp]:=(r _ (by omega)).trans hB.k10
   obtain ⟨G3,e3,h3,O⟩:=OP (G:=G2) (NG k10) (Vc [.slice y (S0.length+((exD C A sc i).length+1)) u])
   have t:=fun X=>(OM.refl.app (X:=X)).cells k10
   have L:lim<=B10:=by omega
   have b:∀j,j<=B11->j≠B10->NC G3 j=NC G' j:=fun j f ae=>(O.other j ae).trans (r j f)
   have H:Box B3 B9 B10 B11 M [.int .u8 u1,.int .u8 u2,.slice w C.length U,.slice p2 m2 V,.slice p3 m3 n,.slice p4 m4 W] (S0++exD C A sc (i+1)) y u (SH A) G3:=by
    have eS:S0++exD C A sc (i+1)=(S0++exD C A sc i)++[exO C sc ((i:Int)+10)]:=by rw [exD,Nh N,Nq]
    rw [eS]
    refine ⟨by rw [b _ (by omega) (by omega)];exact hB.k3,by rw [b _ (by omega) (by omega)];exact hB.k9,by rw [h3];simp [Oo],by rw [b _ (by omega) (by omega)];exact hB.k11,by rw [b _ (by omega) (by omega)];exact hB.km,O2.mut O fun a ha e=>?_,o1,o2,o3,o4⟩
    have:=(O2.block ha).1
    omega
   rw [eE] at e2
   simp only [Nk,No,N5] at e2
   rw [Ni] at e2 t k10
   simp only [n3,r3,g9,B,D,F,o,N3 p,T,xM,l,v,ad,wi,x9,ak,ck,w0,w2,w3,w4,PN,Nzy,ZN,Y1,ZM,Y0,Yz,e2,t,e3,L,SB,seval,NF,NJ,NK,QY,reduceCtorEq,NE,place,NB,ND]
   exact I (i+1,y,u) _ _ ⟨by show i+1<=66;omega,fun j f=>by
    have:=NG H.k11
    rw [NI (by omega)]
    by_cases e:j=B10
    ·omega
    ·rw [b j (by omega) e];exact Y j f,H.app _,by rfl,fun j f=>by
    rw [<-g j f]
    simp only [upd]
    repeat rw [Ng (by omega)]⟩ (by show 66-(i+1)<66-i;omega)
theorem Npq [OB] {lim B3 B9 B10 B11 M q r h t I J L:Nat} {k N O P:Option Addr} {V W:Int} {C:List Int} {A:List Ev} {l:NA} {p:Option Addr} {sc0:Nat} {fr:Nat->Value} {K:List AItem} {Z:Value->NA->Prop}
  (h0:Box B3 B9 B10 B11 M [.int .u8 V,.int .u8 W,.slice k C.length q,.slice N I r,.slice O J h,.slice P L t] A p sc0 (SH A) l) (H:Sl l encY 1 k C) (G:C.length<2 ^ 63) (hC:∀x∈C,-128<=x/\x<=127) (b1:∀a,k=some a->C≠[]->a.block<B3) (o:lim<=B3) (hA:A.length<=40)
  (f9:fr 9=Vp B9) (f10:fr 10=Vp B10) (f11:fr 11=Vp B11) (v:fr 18=Vi 1)
  (hR:∀fr' G' sp R,(∀j,j<B10->NC G' j=NC l j)->Box B3 B9 B10 B11 M [.int .u8 V,.int .u8 W,.slice k C.length q,.slice N I r,.slice O J h,.slice P L t] (A++exS C A 5) sp R (SH A) G'->(∀j,j<=17->fr' j=fr j)->QC E a3 lim K fr' G' Z) :
  QC E a3 lim (.code (.loop N5y)::.inBlock 2::K) fr (l++[]) Z:=by
 refine NZ (fun s:Nat×Option Addr×Nat=>5-s.1) (fun s fr' G'=>s.1<=5/\(∀j,j<B10->NC G' j=NC l j)/\Box B3 B9 B10 B11 M [.int .u8 V,.int .u8 W,.slice k C.length q,.slice N I r,.slice O J h,.slice P L t] (A++exS C A s.1) s.2.1 s.2.2 (SH A) G'/\fr' 18=Vi ((s.1:Int)+1)/\(∀j,j<=17->fr' j=fr j)) (0,p,sc0)
  ⟨Nv _,fun j f=>by rw [Nc],by rw [Nc];simpa [exS] using h0,v,fun _ _=>rfl⟩ ?_
 rintro ⟨i,sp,cp⟩ fr' G' ⟨hi,z,hB,b,d⟩ D
 simp only at hi hB b
 rw [OD N5y.eq_1]
 refine NL ?_
 have X:=(d 9 (by decide)).trans f9
 have m:=(d 10 (by decide)).trans f10
 have n:=(d 11 (by decide)).trans f11
 by_cases aa:i<5
 case neg=>
  obtain rfl:i=5:=by omega
  have w:¬((5:Nat):Int)+1<=5:=by decide
  simp only [n3,r3,b,Np w,SB,seval,NF,NJ,NK,QY,reduceCtorEq,NE,place,NB,ND]
  exact hR _ _ sp cp (fun j f=>by rw [Nc];exact z j f) (hB.app _) fun j f=>by
   rw [<-d j f]
   simp only [upd]
   repeat rw [Ng (by omega)]
 have h5:(i:Int)+1<=5:=by omega
 have o1:=hB.o1
 have o2:=hB.o2
 have T:Sl G' encY 1 k C:=Tu H fun x hx hn ro c hc=>by rw [z _ (by have:=b1 x hx hn;omega)];exact hc
 have wi:IntKind.i64.wrap ((i:Int)+1+1)=((i+1:Nat):Int)+1:=by rw [NN (by omega) (by omega)];omega
 have F:(A++exS C A i).length<=400:=by have:=MR (C:=C) (S:=A) i;rw [Ni];omega
 simp only [n3,r3,X,m,n,b,N3 h5,SB,seval,NF,NJ,NK,QY,reduceCtorEq,NE,place,NB,ND]
 refine N0a (sc:=(i:Int)+1) (S0:=A++exS C A i) hB T G hC b1 o (by omega) (by omega) F (by omega) X m n b rfl fun Y G2 U u B y g=>?_
 have Q:=(g 18 (by decide)).trans b
 refine NL ?_
 simp only [n3,r3,Q,wi,SB,seval,NF,NJ,NK,QY,reduceCtorEq,NE,place,NB,ND]
 exact D (i+1,U,u) _ _ ⟨by show i+1<=5;omega,fun j f=>by rw [Nc,B j f];exact z j f,by rw [exS,<-Nq];exact y.app _,by rfl,fun j f=>by
  have e:=g j (by omega)
  simp only [upd] at e⊢
  repeat rw [Ng (by omega)] at e
  repeat rw [Ng (by omega)]
  rw [e]
  exact d j f⟩ (by show 5-(i+1)<5-i;omega)
def N4a (S L:List Ev) (i:Nat):Prop:=L.length=S.length/\∀j,j<S.length->gt L j=if j<i\/S.length<=j+i then gt S (S.length-1-j) else gt S j
theorem Nza {S L:List Ev} {i:Nat} (h:N4a S L i) (hi:S.length<=2*i+1):L=S.reverse:=by
 refine Pe (by rw [List.length_reverse];exact h.1) fun j h1 h2=>?_
 have a:j<S.length:=by rw [<-h.1];exact h1
 have:=h.2 j a
 rw [List.getElem_reverse,<-PU h1,<-PU (by omega),this]
 split
 ·rfl
 ·rename_i hn
  congr 1
  omega
theorem Nrj {l:List Ev} {i j:Nat} {x:Ev} (hi:i<l.length):gt (l.set i x) j=if j=i then x else gt l j:=by
 unfold gt
 rw [Na,Na,N1]
 by_cases e:i=j
 ·subst e;rw [Nh rfl,Nh hi,Nh rfl];rfl
 ·rw [Ng e,Ng fun h=>e h.symm]
theorem Nuc {S L:List Ev} {i:Nat} (h:N4a S L i) (hi:2*i+1<S.length):N4a S ((L.set i (gt L (S.length-1-i))).set (S.length-1-i) (gt L i)) (i+1):=by
 obtain ⟨hl,a⟩:=h
 refine ⟨by simp [hl],fun j d=>?_⟩
 rw [Nrj (by simp;omega),Nrj (by omega)]
 have b:=a i (by omega)
 have c:=a (S.length-1-i) (by omega)
 rw [Ng (by omega)] at b
 rw [Ng (by omega)] at c
 by_cases e1:j=S.length-1-i
 ·rw [Nh e1,b,Nh (by omega)]
  congr 1
  omega
 ·rw [Ng e1]
  by_cases e2:j=i
  ·rw [Nh e2,c,Nh (by omega)]
   congr 1
   omega
  ·rw [Ng e2,a j d]
   by_cases q:j<i\/S.length<=j+i
   ·rw [Nh q,Nh (by omega)]
   ·rw [Ng q,Ng (by omega)]
theorem Ngu:∀{l:List Value},(∀v∈l,∃k n,v=.int k n)->R9 (Vc l)=false
 | [],_=>rfl
 | v::l,h=>by
   obtain ⟨k,n,rfl⟩:=h v (by simp)
   rw [Nec]
   exact Ngu fun v hv=>h v (Nj _ hv)
theorem Nsm {l:List Ev}:R9 (Vc (l.flatMap QE))=false:=Ngu fun v hv=>by
 obtain ⟨x,_,hx⟩:=List.mem_flatMap.1 hv
 simp only [QE,Nn,O1,or_false] at hx
 rcases hx with h | h | h | h | h | h<;>exact ⟨_,_,h⟩
theorem Nr0 [OB] {lim B10 R sc:Nat} {S:List Ev} {e:NA} {fr:Nat->Value} {K:List AItem} {Z:Value->NA->Prop} (k10:NC e B10=Vc [.slice (Sa R) S.length sc]) (J:NC e R=Vc (S.flatMap QE)) (x:B10≠R) (d:lim<=R) (hS:1<=S.length) (H:S.length<1000) (I:Ve 6 sc S.length)
  (f10:fr 10=Vp B10) (p:fr 21=Vi 0) (q:fr 22=Vi ((S.length:Int)-1))
  (G:∀fr' G',(∀j,j≠R->NC G' j=NC e j)->G'.length=e.length->NC G' R=Vc (S.reverse.flatMap QE)->(∀j,j<=20->fr' j=fr j)->QC E a3 lim K fr' (G'++[]) Z) :
  QC E a3 lim (.code (.loop N50)::.inBlock 6::K) fr (e++[]) Z:=by
 refine NZ (fun s:Nat×List Ev=>S.length-s.1) (fun s fr' G'=>N4a S s.2 s.1/\2*s.1<=S.length+1/\(∃G1,G'=G1++[]/\Mut e G1 R/\NC G1 R=Vc (s.2.flatMap QE))/\fr' 21=Vi s.1/\fr' 22=Vi ((S.length:Int)-1-s.1)/\(∀j,j<=20->fr' j=fr j)) (0,S)
  ⟨⟨rfl,fun j b=>by rw [Ng (by omega)]⟩,by omega,⟨e,rfl,⟨rfl,fun _ _=>rfl⟩,J⟩,p,by rw [q];simp,fun _ _=>rfl⟩ ?_
 rintro ⟨i,L⟩ fr' G' ⟨n,hi,⟨G1,rfl,hM,hL⟩,f,a,g⟩ u
 simp only at n hi hL f a
 rw [OD N50.eq_1]
 have r:=(g 10 (by decide)).trans f10
 by_cases w:2*i+1<S.length
 case neg=>
  have hc:¬(i:Int)<(S.length:Int)-1-i:=by omega
  simp only [n3,r3,f,a,Np hc,SB,seval,NF,NJ,NK,QY,reduceCtorEq,NE,place,NB,ND]
  exact G _ G1 hM.other hM.len (by rw [<-Nza n (by omega)];exact hL) fun j b=>by
   rw [<-g j b]
   simp only [upd]
   repeat rw [Ng (by omega)]
 have hc:(i:Int)<(S.length:Int)-1-i:=by omega
 obtain ⟨k,hk⟩:∃k:Nat,(S.length:Int)-1-i=(k:Int):=⟨S.length-1-i,by omega⟩
 have v:k=S.length-1-i:=by omega
 have t:=n.1
 have o:Sl G1 QE 6 (Sa R) L:=Sl.row PN hL
 have m:NC G1 B10=Vc [.slice (Sa R) S.length sc]:=(hM.other _ x).trans k10
 have A:=fun X=>(OM.refl.app (X:=X)).cells m
 have y:=fun X=>(o.app X).loadCells PN (i:=i) (by omega)
 have z:=fun X=>(o.app X).loadCells PN (i:=k) (by omega)
 have h:=fun c (kk:IntKind) (H1:NA)=>o.idx (c:=c) (k:=kk) (H1:=H1) (i:=i) (by omega)
 have l:=fun c (kk:IntKind) (H1:NA)=>o.idx (c:=c) (k:=kk) (H1:=H1) (i:=k) (by omega)
 rw [t] at h l
 obtain ⟨G2,e2,h2,B⟩:=WK (lim:=lim) PN rfl hL d (i:=i) (by omega) (gt L k)
 obtain ⟨D,e3,F,C⟩:=WK (lim:=lim) PN rfl h2 d (i:=k) (by simp;omega) (gt L i)
 have hr:∀X,R9 (NC (G1++X) (YV (Sa R) 6 i).block)=false:=fun X=>by
  rw [show (YV (Sa R) 6 i).block=R by unfold YV;simp only [Addr.add];split<;>rfl]
  rw [NI (NG hL),hL]
  exact Nsm
 have M:IntKind.i64.wrap ((i:Int)+1)=((i+1:Nat):Int):=OV (by omega)
 have N:IntKind.i64.wrap ((k:Int)-1)=(k:Int)-1:=NN (by omega) (by omega)
 rw [hk] at hc a
 simp only [n3,r3,r,f,a,N3 hc,A,y,z,h,l,e2,e3,hr,M,N,PN,Nzy,ZN,Y1,ZM,Y0,Yz,SB,seval,NF,NJ,NK,QY,reduceCtorEq,NE,place,NB,ND]
 refine u (i+1,(L.set i (gt L k)).set k (gt L i)) _ _ ⟨by rw [v];exact Nuc n w,by show 2*(i+1)<=S.length+1;omega,⟨D,rfl,⟨by rw [C.len,B.len,hM.len],fun j b=>by rw [C.other j b,B.other j b,hM.other j b]⟩,F⟩,by rfl, ?_,fun j b=>by
  rw [<-g j b]
  simp only [upd]
  repeat rw [Ng (by omega)]⟩ (by show S.length-(i+1)<S.length-i;omega)
 show Value.int .i64 ((k:Int)-1)=Value.int .i64 ((S.length:Int)-1-((i+1:Nat):Int))
 congr 1
 omega
theorem Nps [OB] {lim n ce kt kp:Nat} {pe pt F:Option Addr} {es:List Ev} {TL PL:List Int} {g:NA} {fr:Nat->Value} {K:List AItem} {Z:Value->NA->Prop} (hs:Sl g encE 7 pe es) (hn:es.length=n) (P:n<100) (q:Sl g encI 1 pt TL) (p:Sl g encI 1 F PL) (z:TL.length=n) (y:PL.length=n) (A:∀i,i<n->(gt es i).time=gt TL i/\(gt es i).place=gt PL i) (D:lim<=g.length)
  (J:fr 6=.slice pt n kt) (L:fr 7=.slice F n kp) (l:fr 240=.slice pe n ce) (m:fr 241=Vi n) (o:fr 242=Vi 0)
  (O:∀fr' G',OM g G'->(∀j,j<=24->fr' j=fr j)->QC E a3 lim K fr' G' Z) :
  QC E a3 lim (.code (.loop N51)::.inBlock 8::K) fr (g++[]) Z:=by
 refine NZ (fun i:Nat=>n-i) (fun i fr' G'=>i<=n/\OM g G'/\fr' 240=.slice pe n ce/\fr' 241=Vi n/\fr' 242=Vi i/\(∀j,j<=24->fr' j=fr j)) 0
  ⟨Nv _,OM.refl.app,l,m,by rw [o];rfl,fun _ _=>rfl⟩ ?_
 intro i fr' G' ⟨hi,d,a,b,f,e⟩ x
 rw [OD N51.eq_1]
 refine NL ?_
 have M:=(e 6 (by decide)).trans J
 have N:=(e 7 (by decide)).trans L
 by_cases h:i<n
 case neg=>
  obtain rfl:i=n:=by omega
  simp only [n3,r3,a,b,f,h,SB,seval,NF,NJ,NK,QY,reduceCtorEq,NE,place,NB,ND]
  exact O _ _ d.app fun j B=>by
   rw [<-e j B]
   simp only [upd]
   repeat rw [Ng (by omega)]
 have hle:=d.len
 have w:=fun X=>((d.sl hs).app X).loadCells OE (i:=i) (by omega)
 have t:=fun c (k:IntKind) (H1:NA)=>(d.sl hs).idx (c:=c) (k:=k) (H1:=H1) (i:=i) (by omega)
 have v:=fun X=>((d.sl q).app X).loadCell0 PQ (i:=i) (by omega) (by decide)
 have u:=fun X=>((d.sl p).app X).loadCell0 PQ (i:=i) (by omega) (by decide)
 simp only [encI,Od] at v u
 have s:=fun c (k:IntKind) (H1:NA)=>(d.sl q).idx (c:=c) (k:=k) (H1:=H1) (i:=i) (by omega)
 have r:=fun c (k:IntKind) (H1:NA)=>(d.sl p).idx (c:=c) (k:=k) (H1:=H1) (i:=i) (by omega)
 rw [hn] at t
 rw [z] at s
 rw [y] at r
 obtain ⟨G,H⟩:=A i h
 have I:encE (gt es i)=[Vi (gt es i).item,Vi (gt es i).place,Vi (gt es i).scanner,.int .u8 (gt es i).kind,Vi (gt es i).at',Vi (gt es i).seen,Vi (gt es i).time]:=rfl
 rw [I,G,H] at w
 have Q:IntKind.i64.wrap ((i:Int)+1)=((i+1:Nat):Int):=OV (by omega)
 have C:lim<=G'.length:=by omega
 simp only [n3,r3,M,N,a,b,f,h,w,t,v,u,s,r,Q,NH,C,bne_self_eq_false,SB,seval,NF,NJ,NK,QY,reduceCtorEq,NE,place,NB,ND]
 exact x (i+1) _ _ ⟨by omega,d.app,a,b,by rfl,fun j B=>by
  rw [<-e j B]
  simp only [upd]
  repeat rw [Ng (by omega)]⟩ (by omega)
def Nf8 (l:List An) (i:Nat):Nat:=((l.take i).filter fun a=>a.kind == 6).length
theorem Nu2 {l:List An} {i:Nat} (h:i<l.length):Nf8 l (i+1)=Nf8 l i+if (gt l i).kind=6 then 1 else 0:=by
 unfold Nf8
 rw [Oe h,List.filter_append,Ni,PU h]
 congr 1
 by_cases e:l[i].kind=6
 ·rw [Nh e,Qg (by simpa using e)];rfl
 ·rw [Ng e,P2 (by simpa using e)];rfl
theorem Ntw [OB] {lim d z:Nat} {pl:Option Addr} {l:List An} {x:NA} {fr:Nat->Value} {K:List AItem} {Z:Value->NA->Prop} (hs:Sl x V6 5 pl l) (F:l.length<2 ^ 60) (hk:∀a∈l,a.kind=5\/a.kind=6) (hd:(l.filter fun a=>a.kind == 6).length=d) (D:d<1000) (y:lim<=x.length)
  (f13:fr 13=Vi d) (p:fr 266=.slice pl l.length z) (q:fr 267=Vi l.length) (r:fr 268=Vi 0)
  (C:∀fr' G',fr' 13=Vi 0->(∀j,j<=12->fr' j=fr j)->QC E a3 lim K fr' G' Z) :
  QC E a3 lim (.code (.loop N52)::.inBlock 10::K) fr (x++[]) Z:=by
 refine NZ (fun i:Nat=>l.length-i) (fun i fr' G'=>i<=l.length/\OM x G'/\fr' 13=Vi ((d:Int)-Nf8 l i)/\fr' 266=.slice pl l.length z/\fr' 267=Vi l.length/\fr' 268=Vi i/\(∀j,j<=12->fr' j=fr j)) 0
  ⟨Nv _,OM.refl.app,by rw [f13];simp [Nf8],p,q,by rw [r];rfl,fun _ _=>rfl⟩ ?_
 intro i fr' G' ⟨hi,s,f,b,e,g,o⟩ t
 rw [OD N52.eq_1]
 refine NL ?_
 have hc:Nf8 l i<=d:=by
  rw [<-hd]
  exact ((List.take_sublist i l).filter _).length_le
 by_cases h:i<l.length
 case neg=>
  obtain rfl:i=l.length:=by omega
  simp only [n3,r3,b,e,g,h,SB,seval,NF,NJ,NK,QY,reduceCtorEq,NE,place,NB,ND]
  refine C _ _ ?_ fun j u=>by
   rw [<-o j u]
   simp only [upd]
   repeat rw [Ng (by omega)]
  have:Nf8 l l.length=d:=by unfold Nf8;rw [Ol];exact hd
  rw [this] at f
  have h0:(d:Int)-d=0:=by omega
  rw [h0] at f
  exact f
 have hle:=s.len
 have m:=fun X=>((s.sl hs).app X).loadCells SG (i:=i) (by omega)
 have w:=fun c (k:IntKind) (H1:NA)=>(s.sl hs).idx (c:=c) (k:=k) (H1:=H1) (i:=i) (by omega)
 have B:V6 (gt l i)=[.int .u8 (gt l i).kind,Vi (gt l i).ev,Vi (gt l i).other,Vi (gt l i).place,Vi (gt l i).mins]:=rfl
 rw [B] at m
 have A:IntKind.i64.wrap ((i:Int)+1)=((i+1:Nat):Int):=OV (by omega)
 have v:lim<=G'.length:=by omega
 have n:=Nu2 h
 rcases hk _ (QJ h) with h5 | h6
 ·have h6:¬(gt l i).kind=6:=by omega
  rw [Ng h6,Pd] at n
  rw [h5] at m
  simp only [n3,r3,f,b,e,g,h,m,w,A,NH,v,SB,seval,NF,NJ,NK,QY,reduceCtorEq,NE,place,NB,ND]
  exact t (i+1) _ _ ⟨by omega,s.app,by rw [n];exact f,b,e,by rfl,fun j u=>by
   rw [<-o j u]
   simp only [upd]
   repeat rw [Ng (by omega)]⟩ (by omega)
 ·rw [Nh h6] at n
  rw [h6] at m
  have G:IntKind.i64.wrap ((d:Int)-Nf8 l i-1)=(d:Int)-Nf8 l (i+1):=by rw [NN (by omega) (by omega)];omega
  simp only [n3,r3,f,b,e,g,h,m,w,A,NH,v,G,SB,seval,NF,NJ,NK,QY,reduceCtorEq,NE,place,NB,ND]
  exact t (i+1) _ _ ⟨by omega,s.app,by rfl,b,e,by rfl,fun j u=>by
   rw [<-o j u]
   simp only [upd]
   repeat rw [Ng (by omega)]⟩ (by omega)
theorem Mg {α:Type} {H:NA} {enc:α->List Value} {e:Nat} {p:Option Addr} {l:List α} (h:Sl H enc e p l):∀x,p=some x->l≠[]->x.block<H.length:=fun x hx hn=>by
 subst hx
 obtain ⟨ro,c,h2,_⟩:=h.2 hn
 exact NG h2
theorem Nni {G G1:NA} {b:Nat} (h1:NC G1 b=.dead) (h:NC G b=.dead) (a:b<G.length):NS b [0] G1 G=G:=by
 show G.set (b+0) (NC G1 (b+0))=G
 rw [Pd,h1]
 refine Pe (by simp) fun j h2 c=>?_
 rw [List.getElem_set]
 split
 ·rename_i e
  subst e
  unfold NC at h
  rw [Na,Nf a] at h
  exact h.symm
 ·rfl
theorem TopTraced_ok [OB] (hE:EffOk) {mp:Bool} {lim c c1 c2 aw c4:Nat} {p p1 p2 p3 p4:Option Addr} {d:List RL} {C La Tw ds:List Int} {u1 u2:Int} {H:NA} {Q:Value->NA->Prop} (hs:Sl H encR 6 p d) (hb:∀x∈d,ByR x) (hl:d.length<2 ^ 63) (hc:Ve 6 c d.length)
  (c5:0<=u1/\u1<=255) (c6:0<=u2/\u2<=255) (s1:Sl H encY 1 p1 C) (s2:Sl H encU 1 p2 La) (s3:Sl H encU 1 p3 Tw) (s4:Sl H encU 1 p4 ds) (l1:C.length<2 ^ 63) (l2:La.length<2 ^ 63) (l3:Tw.length<2 ^ 63) (l4:ds.length<2 ^ 63)
  (hC:∀x∈C,-128<=x/\x<=127) (hL:∀x∈La,0<=x/\x<=255) (hT:∀x∈Tw,0<=x/\x<=255) (hD:∀x∈ds,0<=x/\x<=255) :
  NP E mp lim 3 [.slice p d.length c,.agg #[.int .u8 u1,.int .u8 u2,.slice p1 C.length c1,.slice p2 La.length c2,.slice p3 Tw.length aw,.slice p4 ds.length c4]] H Q=Q (.bool true) H:=by
 refine pc (by decide) e3 rfl rfl ?_
 rw [b3,c3]
 simp only [n3,r3,SB,seval,NF,NJ,NK,QY,reduceCtorEq,NE,place,NB,ND]
 refine N7b (hs.app _) hb hl hc (by simp) fun Y pp pl cl hC0 z=>?_
 have kB:=hC0.cells (j:=H.length) (by rw [NQ];rfl) (by simp)
 have cw:=hC0.len
 simp only [Ni,Nk,No] at cw
 replace hC0:=hC0.pre
 have ah:min d.length 10<=10:=by omega
 have bh:min d.length 10<=d.length:=by omega
 generalize min d.length 10=n at z ah bh⊢
 have s:=Noz hb bh ah
 have nl:=WQ d n
 have wu:∀u:Int,0<=u/\u<=255->IntKind.i64.wrap u=u/\IntKind.i64.wrap (u.tmod 5)=u.tmod 5/\∃a,IntKind.i64.wrap (1+u.tmod 5)=a/\a∈P5:=fun u hu=>by
  have t1:=Int.tmod_lt_of_pos u (show (0:Int)<5 by decide)
  have t2:=Int.tmod_nonneg (5:Int) hu.1
  exact ⟨NN (by omega) (by omega),NN (by omega) (by omega),_,NN (by omega) (by omega),Ny7 (by omega) (by omega)⟩
 obtain ⟨w1,dr,a,w2,an⟩:=wu u1 c5
 obtain ⟨w3,du,b,w4,cz⟩:=wu u2 c6
 have cj:H.length<=Y.length:=by omega
 have xB:=fun X=>(OM.refl.app (X:=X)).cells kB
 refine NL ?_
 simp only [n3,r3,NH,cj,PW,UB,TR,NM,w1,dr,w2,w3,du,w4,xB,SB,seval,NF,NJ,NK,QY,reduceCtorEq,NE,place,NB,ND]
 have sd:=(hC0.sl s4 (by simp)).app [Vc (RX pp 5 5 pl (Uj d n).length cl)]
 have nm:∀(mp:Bool) (lim:Nat) (H:NA) (Q:Value->NA->Prop),NP E mp lim 13 [.int .u8 7] H Q=Q (.string ⟨#[108,111,115,116]⟩) H:=fun mp lim H Q=>N2x (n:=7) (by decide)
 refine N1t (a:=a) (q:=b) (z.app _) s an cz sd l4 hD (by simp;omega) (Mg sd) (fun x=>⟨fun hx=>Mg (z.sp.app _) x hx (by decide),fun hx hn=>Mg (z.sl.app _) x hx hn⟩) (fun G1 t=>?_) (fun G1 v w bt bp ct cp t ed hv bb ee m=>?_)
 ·have al:=z.sim (G:=G1) fun b ro c hb=>t.pre.cells hb (by simp)
  have k5:=t.cells (j:=Y.length) (by rw [NQ];rfl) (by simp)
  have x5:=fun X=>(OM.refl.app (X:=X)).cells k5
  have V:=fun X (mp:Bool) (lim:Nat) (Q:Value->NA->Prop)=>XR (mp:=mp) (lim:=lim) (cp:=5) (cl:=cl) (Q:=Q) (al.app X)
  have el:P5.length=5:=rfl
  rw [el,s] at V
  refine NL ?_
  simp only [n3,r3,x5,V,PW,UB,TR,NM,nm,SB,seval,NF,NJ,NK,QY,reduceCtorEq,NE,place,NB,ND]
  exact P3 Value.bool (beq_self_eq_true _)
 have al:=z.sim (G:=G1) fun b ro c hb=>t.pre.cells hb (by simp)
 have k5:=t.cells (j:=Y.length) (by rw [NQ];rfl) (by simp)
 have x5:=fun X=>(OM.refl.app (X:=X)).cells k5
 have V:=fun X (mp:Bool) (lim:Nat) (Q:Value->NA->Prop)=>XR (mp:=mp) (lim:=lim) (cp:=5) (cl:=cl) (Q:=Q) (al.app X)
 have el:P5.length=5:=rfl
 rw [el,s] at V
 have cx:=t.len
 simp only [Ni,Nk,No] at cx
 have a1:H.length<=G1.length:=by omega
 have sT:=m.ht.sl PQ
 have sP:=m.hp.sl PQ
 have tl:(YE a ds w w.length).length=w.length+1:=Um
 have ac:(plI a ds w w.length).length=w.length+1:=Vw
 have bq:=fun X=>(sT.app X).loadCell0 PQ (i:=w.length) (by omega) (by decide)
 have da:=fun X=>(sP.app X).loadCell0 PQ (i:=w.length) (by omega) (by decide)
 simp only [encI,Od] at bq da
 have bo:=fun c (k:IntKind) (H1:NA)=>sT.idx (c:=c) (k:=k) (H1:=H1) (i:=w.length) (by omega)
 have bn:=fun c (k:IntKind) (H1:NA)=>sP.idx (c:=c) (k:=k) (H1:=H1) (i:=w.length) (by omega)
 rw [tl] at bo
 rw [ac] at bn
 have ab:=Nqw (P:=P5) s an bb (by omega) (fun x hx=>(hD x hx).1) rfl
 have ww:IntKind.i64.wrap (((w.length+1:Nat):Int)-1)=(w.length:Int):=by rw [NN (by omega) (by omega)];omega
 have c7:¬((w.length+1:Nat):Int)=0:=by omega
 have co:ct=loose 1\/ct=w.length+1:=by
  rcases m.ht with h | ⟨R,_,h1,_⟩
  ·rcases h with ⟨h1,_⟩ | ⟨R,_,h1,_⟩
   ·cases h1
   ·exact .inl h1
  ·exact .inr (by rw [h1,Um])
 have htl:=ab.time w.length (by omega)
 have eT:gt (Sc a ds w) w.length=gt (YE a ds w w.length) w.length:=by unfold Sc;rw [Wi,Nh (by rw [Ncr];omega)];rfl
 have bz:IntKind.i64.wrap (gt (YE a ds w w.length) w.length+60)=gt (YE a ds w w.length) w.length+60:=by rw [<-eT];exact NN (by omega) (by omega)
 obtain ⟨t6,ao⟩:∃t6,gt (YE a ds w w.length) w.length+60=t6:=⟨_,rfl⟩
 obtain ⟨pz,bk⟩:∃pz,gt (plI a ds w w.length) w.length=pz:=⟨_,rfl⟩
 have ch:YE a ds w w.length++[t6]=Sc a ds w:=by rw [<-ao];rfl
 have cg:plI a ds w w.length++[pz]=TQ a ds w:=by rw [<-bk];rfl
 rw [ao] at bz
 obtain ⟨G2,o,q2,e2⟩:=m.ht.step (lim':=H.length) (bytes:=8) (by simp;omega) PQ (by decide) (by rw [Um];unfold PM;omega) (by rw [Um];omega)
 have ba:Vd _ G2 encI 1 (Sa bp) cp (plI a ds w w.length):=m.hp.same fun x hx=>by cases hx;exact q2 _ (by simpa [opB] using m.ne.symm)
 obtain ⟨D,am,q3,e3⟩:=ba.step (lim':=H.length) (bytes:=8) (by simp;omega) PQ (by decide) (by rw [Vw];unfold PM;omega) (by rw [Vw];omega)
 have e2:=e2 [Vc [Vi t6],.dead,.dead,.dead] G1.length 1 t6 (some (G1.length+1)) (by rw [NQ];rfl)
 rw [Um,ch] at e2
 have db:(G2++[Vc [Vi t6],.dead,.dead,.dead]).set (G1.length+1) (Vc ((Sc a ds w).flatMap encI))=G2++[Vc [Vi t6],Vc ((Sc a ds w).flatMap encI),.dead,.dead]:=by rw [<-o];simp
 simp only [place,Oo,Nat.reduceAdd,db] at e2
 have dh:=ba.sl PQ
 have W:=fun X=>(dh.app X).loadCell0 PQ (i:=w.length) (by omega) (by decide)
 simp only [encI,Od] at W
 rw [bk] at W
 refine NL ?_
 simp only [n3,r3,x5,V,PW,UB,TR,NM,Np c7,ww,bq,bo,bn,a1,NH,ao,bz,N3 co,e2,SB,seval,NF,NJ,NK,QY,reduceCtorEq,NE,place,NB,ND]
 have e3:=e3 [Vc [Vi t6],Vc ((Sc a ds w).flatMap encI),Vc [Vi pz],.dead] (G1.length+2) 1 pz (some (G1.length+3)) (by rw [<-o,NR];rfl)
 rw [Vw,cg] at e3
 have dc:(G2++[Vc [Vi t6],Vc ((Sc a ds w).flatMap encI),.dead,.dead]).set (G1.length+2) (Vc [Vi pz])=G2++[Vc [Vi t6],Vc ((Sc a ds w).flatMap encI),Vc [Vi pz],.dead]:=by rw [<-o];simp
 have dd:(D++[Vc [Vi t6],Vc ((Sc a ds w).flatMap encI),Vc [Vi pz],.dead]).set (G1.length+3) (Vc ((TQ a ds w).flatMap encI))=D++[Vc [Vi t6],Vc ((Sc a ds w).flatMap encI),Vc [Vi pz],Vc ((TQ a ds w).flatMap encI)]:=by rw [<-o,<-am];simp
 simp only [place,Oo,Nat.reduceAdd,dd] at e3
 rw [<-o]
 simp only [n3,r3,W,SB,seval,NF,NJ,NK,QY,reduceCtorEq,NE,place,NB,ND]
 rw [o,dc,e3]
 have hz:∀k,H.length<=D.length+k:=fun k=>by omega
 have c8:H.length<=D.length:=by omega
 have av:(Sc a ds w).length=w.length+2:=by unfold Sc;rw [Ni,Ncr];rfl
 have bv:(TQ a ds w).length=w.length+2:=by unfold TQ;rw [Ni,Nia];rfl
 simp only [n3,r3,NH,hz,c8,SB,seval,NF,NJ,NK,QY,reduceCtorEq,NE,place,NB,ND]
 obtain ⟨J,g⟩:∃J,J=D++[Vc [Vi t6],Vc ((Sc a ds w).flatMap encI),Vc [Vi pz],Vc ((TQ a ds w).flatMap encI),Vc [.func (.func 14) #[] #[Vp H.length]],Vc [Vz],.map [],Vc [.map (some (D.length+6))]]:=⟨_,rfl⟩
 rw [<-g,<-Nc J]
 have bl:∀x y,opB (some (⟨x,0,none⟩:Addr))=[y]->x=y:=fun x y h=>by simpa [opB] using h
 have bu:∀{x c:Nat} {l:List Int},Vd (Y++[Vc (RX pp 5 5 pl (Uj d n).length cl)]).length G1 encI 1 (Sa x) c l->Y.length<x:=fun h=>by
  rcases h with (⟨_,h,_⟩ | ⟨R,h,_,_,h4⟩) | ⟨R,h,_,_,h4,_⟩
  ·cases h
  ·cases h;simp at h4;omega
  ·cases h;simp at h4;omega
 have eh:=bu m.ht
 have eg:=bu m.hp
 have keep:∀j,j<=Y.length->NC J j=NC (Y++[Vc (RX pp 5 5 pl (Uj d n).length cl)]) j:=fun j hj=>by
  rw [g,NI (by omega),q3 j (by simp only [opB,Nl];omega),q2 j (by simp only [opB,Nl];omega)]
  exact t.other j (by simp;omega) (by simp)
 have B:∀j,j<Y.length->NC J j=NC Y j:=fun j hj=>by rw [keep j (by omega),NI hj]
 have a0:Box H.length (D.length+4) (D.length+5) (D.length+7) (D.length+6) [.int .u8 u1,.int .u8 u2,.slice p1 C.length c1,.slice p2 La.length c2,.slice p3 Tw.length aw,.slice p4 ds.length c4] [] none 0 [] J:=by
  refine ⟨by rw [B _ (by omega)];exact kB,by rw [g,NR];rfl,by rw [g,NR];rfl,by rw [g,NR];rfl,by rw [g,NR];rfl,Own.nil,by omega,by omega,by omega,by omega⟩
 have k4:∀{α:Type} {enc:α->List Value} {e:Nat} {p:Option Addr} {l:List α},Sl H enc e p l->Sl J enc e p l:=fun h=>Tu h fun x hx hn ro c hc=>by
  have:=NG hc
  rw [B _ (by omega)]
  exact hC0.cells hc (by simp)
 have U:∀{α:Type} {enc:α->List Value} {e:Nat} {p:Option Addr} {l:List α},Sl H enc e p l->∀a,p=some a->l≠[]->a.block<H.length:=fun h=>Mg h
 have aq:NC J (G1.length+1)=Vc ((Sc a ds w).flatMap encI):=by rw [g,<-o,<-am,NR];rfl
 have ap:NC J (G1.length+3)=Vc ((TQ a ds w).flatMap encI):=by rw [g,<-o,<-am,NR];rfl
 have dn:Sl J encI 1 (Sa (G1.length+1)) (Sc a ds w):=Sl.row PQ aq
 have dj:Sl J encI 1 (Sa (G1.length+3)) (TQ a ds w):=Sl.row PQ ap
 refine Nsa (TL:=Sc a ds w) (PL:=TQ a ds w) (n:=w.length+2) (C:=C) (La:=La) (Tw:=Tw) a0 ab av bv (k4 s1) (k4 s2) (k4 s3) dn dj l1 l2 l3 hC hL hT (U s1) (U s2) (U s3) (fun x hx=>by cases hx;show G1.length+1<_;omega) (fun x hx=>by cases hx;show G1.length+3<_;omega) (Nd _) rfl rfl rfl rfl rfl rfl rfl rfl (fun fr1 G5 ek ej a2 az ci I=>?_)
 have a6:=(I 6 (by decide)).trans rfl
 have a7:=(I 7 (by decide)).trans rfl
 have a9:=(I 9 (by decide)).trans rfl
 have a10:=(I 10 (by decide)).trans rfl
 have a11:=(I 11 (by decide)).trans rfl
 have a5:=(I 5 (by decide)).trans rfl
 generalize hA:U2 (w.length+2) (gt (Sc a ds w)) (gt (TQ a ds w)) C La Tw (w.length+2)=A at az
 have lA:A.length<=16:=by
  have h:=Xk (n:=w.length+2) (T:=gt (Sc a ds w)) (Pl:=gt (TQ a ds w)) (C:=C) (La:=La) (Tw:=Tw) (w.length+2)
  rw [hA] at h;have:=ab.few;omega
 have ef:2<=A.length:=by
  have h:=Xk (n:=w.length+2) (T:=gt (Sc a ds w)) (Pl:=gt (TQ a ds w)) (C:=C) (La:=La) (Tw:=Tw) (w.length+2)
  rw [hA] at h;omega
 have df:Sl G5 encY 1 p1 C:=Tu (k4 s1) fun x hx hn ro c hc=>by rw [a2 _ (by have:=U s1 x hx hn;omega)];exact hc
 refine NL ?_
 simp only [n3,r3,SB,seval,NF,NJ,NK,QY,reduceCtorEq,NE,place,NB,ND]
 refine Npq (C:=C) (A:=A) az df l1 hC (U s1) (Nd _) (by omega) a9 a10 a11 rfl (fun d1 G6 dq au ck K N=>?_)
 have b5:=(N 5 (by decide)).trans a5
 have b6:=(N 6 (by decide)).trans a6
 have b7:=(N 7 (by decide)).trans a7
 have b10:=(N 10 (by decide)).trans a10
 have b13:=(N 13 (by decide)).trans ci
 have ad:Y6 (w.length+2) (gt (Sc a ds w)) (gt (TQ a ds w)) C La Tw=(A++exS C A 5).reverse:=by unfold Y6;rw [hA]
 have d9:=MR (C:=C) (S:=A) 5
 have lS:(A++exS C A 5).length=A.length+(exS C A 5).length:=Ni
 generalize A++exS C A 5=S0 at K ad lS
 have dw:=fun X=>(OM.refl.app (X:=X)).cells K.k10
 have wS:IntKind.i64.wrap ((S0.length:Int)-1)=(S0.length:Int)-1:=NN (by omega) (by omega)
 obtain ⟨R,rfl,bc,kR,hR⟩:∃R,dq=Sa R/\au=loose 6/\NC G6 R=Vc (S0.flatMap QE)/\D.length+8<=R:=by
  rcases K.own with ⟨h,_⟩ | h
  ·rw [h] at lS;simp at lS;omega
  ·exact h
 refine NL ?_
 simp only [n3,r3,b10,dw,wS,SB,seval,NF,NJ,NK,QY,reduceCtorEq,NE,place,NB,ND]
 refine Nr0 (S:=S0) (R:=R) (B10:=D.length+5) (sc:=au) K.k10 kR (by omega) (by omega) (by omega) (by omega) (.inl bc) b10 rfl rfl (fun d2 f a4 d8 c9 O=>?_)
 have d5:=(O 5 (by decide)).trans b5
 have d6:=(O 6 (by decide)).trans b6
 have d7:=(O 7 (by decide)).trans b7
 have cb:=(O 10 (by decide)).trans b10
 have cc:=(O 13 (by decide)).trans b13
 have F:∀j,j<D.length+5->NC f j=NC J j:=fun j hj=>by rw [a4 j (by omega),ck j hj,a2 j hj]
 have b9:NC f (D.length+5)=Vc [.slice (Sa R) S0.length au]:=by rw [a4 _ (by omega)];exact K.k10
 have d0:=NG b9
 have b8:=fun X=>(OM.refl.app (X:=X)).cells b9
 have y5:NC f Y.length=Vc (RX pp 5 5 pl (Uj d n).length cl):=by rw [F _ (by omega),keep _ (Nd _),NQ];rfl
 have dx:=fun X=>(OM.refl.app (X:=X)).cells y5
 have bx:Sl f encI 1 (Sa (G1.length+1)) (Sc a ds w):=Sl.row PQ (by rw [F _ (by omega)];exact aq)
 have ei:Sl f encI 1 (Sa (G1.length+3)) (TQ a ds w):=Sl.row PQ (by rw [F _ (by omega)];exact ap)
 have dm:Sl f QE 6 (Sa R) S0.reverse:=Sl.row PN c9
 have aj:=fun X=>(bx.app X).loadCell0 PQ (i:=w.length+1) (by omega) (by decide)
 simp only [encI,Od] at aj
 have ai:=fun c (k:IntKind) (H1:NA)=>bx.idx (c:=c) (k:=k) (H1:=H1) (i:=w.length+1) (by omega)
 rw [av] at ai
 have dv:IntKind.i64.wrap (((w.length+2:Nat):Int)-1)=((w.length+1:Nat):Int):=by rw [NN (by omega) (by omega)];omega
 have cn:NetIn f pp pl P5 (Uj d n):=z.sim fun b ro c hb=>by
  have:=NG hb
  rw [F _ (by omega),B _ this];exact hb
 refine NL ?_
 simp only [n3,r3,d5,d6,cb,b8,dx,PW,UB,TR,NM,aj,ai,dv,SB,seval,NF,NJ,NK,QY,reduceCtorEq,NE,place,NB,ND]
 have bm:=Nr1 (ds:=ds) (C:=C) (La:=La) (Tw:=Tw) s an bb (by omega) (fun x hx=>(hD x hx).1) rfl hC hL hT
 rw [ad] at bm
 obtain ⟨q1,ar,bw,q4,q5,q6,q7⟩:=bm
 have bg:S0.reverse.length=S0.length:=List.length_reverse
 rw [<-bg]
 refine N39 hE (P:=P5) (L:=Uj d n) (S:=S0.reverse) (cn.app _) (dm.app _) (by rw [bg];omega) (by simp;omega) (fun G h _=>absurd q1 h) (fun G8 pe ce q cq r cr ac ax es tw ks ss bd htw cv c0 h0 ak mE ea mK mS mA=>?_)
 have cy:=ak.len
 simp only [Ni,Nk,No] at cy
 have cu:NC G8 f.length=.dead:=by rw [ak.other _ (by simp) (by simp)];exact NQ.trans rfl
 have hu:NS f.length [0] (f++[Blk.dead]) G8=G8:=Nni (NQ.trans rfl) cu (by omega)
 rw [hu]
 rw [<-htw,<-bd] at q7 q6
 rw [<-bd] at ar bw q4 q5
 rw [<-cv] at q4 q5 q6 q7
 rw [<-c0] at q6 q7
 rw [q5]
 have bf:(We P5 (Uj d n) es tw ks ss (gt (Sc a ds w) (w.length+1))).length<2 ^ 60:=by
  have h3:=Mw (P:=P5) (L:=Uj d n) (es:=es) (tw:=tw) (ks:=ks) (ss:=ss) es.length
  have h2:tw.length<=S0.reverse.length:=by
   rw [htw]
   exact Qc (Xn _ _).length_le (by have:=Ndk S0.reverse;omega)
  have h4:es.length*(51+tw.length)<=10*1000:=Nat.mul_le_mul (by omega) (by omega)
  have h5:(WR es ks (gt (Sc a ds w) (w.length+1))).length<=1:=by
   rcases Nli (es:=es) (ks:=ks) (now:=gt (Sc a ds w) (w.length+1)) with h | ⟨k,_,h,_⟩<;>rw [h]<;>simp
  show (Nf0 P5 (Uj d n) es tw ks ss es.length++_).length<_
  rw [Ni]
  omega
 generalize We P5 (Uj d n) es tw ks ss (gt (Sc a ds w) (w.length+1))=A' at q6 q7 mA bf⊢
 rw [ar,q4]
 have ag:f.length<(G8++[]).length:=by simp;omega
 have xs:=fun (b:Blk)=>Rw (b:=b) ag
 have l9:H.length<=f.length:=by omega
 refine NL ?_
 simp only [n3,r3,d6,d7,xs,l9,Uo,TN,Yd,Nh5,Nn3,Nn2,NH,SB,seval,NF,NJ,NK,QY,reduceCtorEq,NE,place,NB,ND]
 rw [List.set_set]
 obtain ⟨Z,aa⟩:∃Z,Z=List.set (G8++[]) f.length (Vc (UV pe (w.length+2) ce q (w.length+2) cq r ss.length cr 0 ac A'.length ax)):=⟨_,rfl⟩
 rw [<-aa]
 have y9:NC Z f.length=Vc (UV pe (w.length+2) ce q (w.length+2) cq r ss.length cr 0 ac A'.length ax):=by rw [aa];exact Rw ag
 have ec:Z.length=G8.length:=by rw [aa];simp
 have a8:∀j,j≠f.length->NC Z j=NC G8 j:=fun j hj=>by rw [aa,PS hj,Nc]
 have ae:∀j,j<f.length->NC Z j=NC f j:=fun j hj=>by rw [a8 j (by omega),ak.other j (by simp;omega) (by simp),NI hj]
 have x9:=fun X=>(OM.refl.app (X:=X)).cells y9
 have m9:∀{α:Type} {enc:α->List Value} {e:Nat} {p:Option Addr} {l:List α},VT (f++[Blk.dead]).length G8 enc e p l->Sl Z enc e p l:=fun h=>Tu h.1 fun x hx hn ro c hc=>by
  have:=h.2 x hx
  simp at this
  rw [a8 _ (by omega)];exact hc
 have dg:=m9 mE
 have de:=m9 mA
 have dp:Sl Z encI 1 (Sa (G1.length+1)) (Sc a ds w):=Sl.row PQ (by rw [ae _ (by omega),F _ (by omega)];exact aq)
 have dk:Sl Z encI 1 (Sa (G1.length+3)) (TQ a ds w):=Sl.row PQ (by rw [ae _ (by omega),F _ (by omega)];exact ap)
 rw [y9,<-Nc Z]
 simp only [n3,r3,d6,d7,x9,l9,Uo,TN,Yd,Nh5,Nn3,Nn2,NH,bne_self_eq_false,SB,seval,NF,NJ,NK,QY,reduceCtorEq,NE,place,NB,ND]
 refine Nps (n:=w.length+2) dg ar (by omega) dp dk av bv bw (by omega) d6 d7 rfl rfl rfl (fun d3 dy M be=>?_)
 have e13:=(be 13 (by decide)).trans cc
 have cf:=(be 23 (by decide)).trans rfl
 have b0:=fun X=>(M.trans (OM.refl.app (X:=X))).cells y9
 refine NL ?_
 simp only [n3,r3,cf,b0,Uo,TN,Yd,Nh5,Nn3,Nn2,SB,seval,NF,NJ,NK,QY,reduceCtorEq,NE,place,NB,ND]
 refine Ntw (M.sl de) bf q6 q7 (by have:=ab.few;have h:=Xk (n:=w.length+2) (T:=gt (Sc a ds w)) (Pl:=gt (TQ a ds w)) (C:=C) (La:=La) (Tw:=Tw) (w.length+2);omega) (by have:=M.len;omega) e13 rfl rfl rfl (fun d4 dz ay eb=>?_)
 refine NL ?_
 simp only [n3,r3,ay,nm,SB,seval,NF,NJ,NK,QY,reduceCtorEq,NE,place,NB,ND]
 exact P3 Value.bool (beq_self_eq_true _)
end Go.Proofs.YtkppjkkkdpcgiaaGreat.Fn


