/-
  Joined texts, 9 of 10. A part of the claim that the last text states.
-/
import Derived.Test.YtkppjkkkdpcgiaaGreatPA8
set_option linter.unusedVariables false
set_option linter.unusedSimpArgs false
set_option linter.defProp false
set_option linter.unusedSectionVars false
set_option maxRecDepth 100000
set_option maxHeartbeats 4000000
namespace Go.Proofs.YtkppjkkkdpcgiaaGreat.Fn
open Go.AM Go.AM.Sym Go.Net Go.Scan
theorem Nnm [OB] (h:OB.on 18=true) {mp:Bool} {lim:Nat} {H:NE} {Q:Value->NE->Prop}:NL E mp lim 18 [] H Q=Q (.bool true) H:=
 Nxh (E:=E) (by simp [E,orc,h]) rfl rfl
def Tk (x:Ev):Ev:={ x with item:=9,scanner:=x.scanner+10 }
structure F7 (p r2 sp:Option Addr) (n m s ca cm sc B:Nat) (item now:Int) (fr:Nat->Value):Prop where
 f0:fr 0=.slice p n ca
 f2:fr 2=.slice r2 m cm
 f4:fr 4=.int .u8 item
 f5:fr 5=.int .u16 now
 f13:fr 13=Vp B
 f14:fr 14=.slice sp s sc
theorem F7.next {p r2 sp:Option Addr} {n m s ca cm sc B:Nat} {item now:Int} {fr fr':Nat->Value} (h:F7 p r2 sp n m s ca cm sc B item now fr) (e:∀t,t<15->fr' t=fr t):F7 p r2 sp n m s ca cm sc B item now fr':=
 ⟨(e 0 (by decide)).trans h.f0,(e 2 (by decide)).trans h.f2,(e 4 (by decide)).trans h.f4,(e 5 (by decide)).trans h.f5,(e 13 (by decide)).trans h.f13,(e 14 (by decide)).trans h.f14⟩
def T7a:ACode:=Sm (Sm (Sm (Sm c7)))
theorem N8v:c7=.seq (Ur c7) (.seq (Ur (Sm c7)) (.seq (Ur (Sm (Sm c7))) (.seq (Ur (Sm (Sm (Sm c7)))) T7a))):=rfl
def T7b:ACode:=Sm T7a
theorem N5n:T7a=.seq (Ur T7a) T7b:=rfl
def T7c:ACode:=Sm T7b
theorem N5m:T7b=.seq (Ur T7b) T7c:=rfl
def T7d:ACode:=Sm T7c
theorem N5l:T7c=.seq (Ur T7c) T7d:=rfl
def T7e:ACode:=Sm T7d
theorem N5k:T7d=.seq (Ur T7d) T7e:=rfl
theorem Nyc [OB] {p r2 sp:Option Addr} {n m ca cm sc B lim:Nat} {item now:Int} {fr:Nat->Value} {S:List Ev} {G:NE} {Q:Value->NE->Prop} (F:F7 p r2 sp n m S.length ca cm sc B item now fr) (y:fr 17=Vz) (hs:Sl G QL 6 sp S) (hS:S.length<=24) (hl:lim<=G.length)
  (L:∀fr' G' q c,F7 p r2 sp n m S.length ca cm sc B item now fr'->OJ G G'->Own G.length G' QL 6 q c S.reverse->fr' 17=.slice q S.length c->PV E a7 lim [.code T7b] fr' G' Q):PV E a7 lim [.code T7a] fr G Q:=by
 rw [N5n]
 refine NK ?_
 have f14:=F.f14
 simp only [Ur,Sm,T7a,c7,n7,r7,f14,SB,seval,NC,NJ,NG,NR,reduceCtorEq,NB,place,NA,ND]
 obtain ⟨l,d⟩:∃l,l=G:=⟨_,rfl⟩
 rw [<-d] at L hs
 have T:lim<=l.length:=by rw [d];exact hl
 refine NP (fun j:Nat×Option Addr×Nat=>S.length-j.1) (fun j fr' G=>j.1<=S.length/\(∀t,t<15->fr' t=fr t)/\fr' 17=.slice j.2.1 j.1 j.2.2/\fr' 48=Vi S.length/\fr' 49=Vi j.1/\Chg [] l G/\Own l.length G QL 6 j.2.1 j.2.2 (S.reverse.take j.1)) (0,none,0)
  ⟨Nw _,(fun t x=>by simp only [upd];repeat rw [Ng (by omega)]),y,rfl,by rfl,by rw [d];exact Chg.refl.app,.nil⟩ ?_
 clear hl d
 clear G
 rintro ⟨j,q,c⟩ fr' G ⟨R,keep,b,e,f,v,w⟩ P
 simp only at R b f w
 have z:fr' 14=.slice sp S.length sc:=(keep 14 (by decide)).trans f14
 rw [NU Oa0.eq_1]
 refine NK ?_
 have M:=v.len
 have s:(S.reverse.take j).length=j:=by rw [Ok,List.length_reverse];omega
 by_cases i:j<S.length
 case neg=>
  obtain rfl:j=S.length:=by omega
  rw [Oe (by rw [List.length_reverse];exact Nd _)] at w
  simp only [n7,r7,b,e,f,NN,i,SB,seval,NC,NJ,NG,NR,reduceCtorEq,NB,place,NA,ND]
  exact L _ _ q c (F.next fun t x=>by simp only [upd];repeat (first | rw [Ng (by omega)] | exact keep t x)) v.app.ext (w.app _) b
 obtain ⟨k,hk⟩:∃k,k=S.length-1-j:=⟨_,rfl⟩
 have g:k<S.length:=by omega
 have O:=v.sl hs (fun a _ _ h=>(by cases h))
 have C:=fun X=>(O.app X).loadCells OP g
 have r:=fun c (kk:IntKind) (H1:NE)=>O.idx (c:=c) (k:=kk) (H1:=H1) g
 have I:IntKind.i64.wrap ((S.length:Int)-1)=(S.length:Int)-1:=NT (by omega) (by omega)
 have K:IntKind.i64.wrap ((S.length:Int)-1-(j:Int))=(k:Int):=by rw [NT (by omega) (by omega)];omega
 have J:IntKind.i64.wrap ((j:Int)+1)=((j+1:Nat):Int):=OD (by omega)
 have A:lim<=G.length:=by omega
 have H:S.reverse.take (j+1)=S.reverse.take j++[gt S k]:=by
  rw [N2 (by rw [List.length_reverse];exact i),List.getElem_reverse,PW g]
  simp only [hk]
 obtain ⟨G2,e2,u,o,D,N,_⟩:=w.step (lim':=lim) (bytes:=48) (by omega) OP (by decide) (gt S k) (by rw [s];unfold PU;omega) (by omega) (by omega) [Vc (QL (gt S k))] G.length 1 (by rw [NV];rfl)
 rw [s] at e2
 simp only [n7,r7,z,b,e,f,NN,i,C,r,I,J,K,A,OP,NI,NF,e2,SB,seval,NC,NJ,NG,NR,reduceCtorEq,NB,place,NA,ND]
 exact P (j+1,Sa (G.length+1),loose 6) _ _ ⟨by omega,(fun t x=>by simp only [upd];repeat (first | rw [Ng (by omega)] | exact keep t x)),rfl,e,rfl,o [] l (Nd _) v,by rw [H];exact u⟩ (by simp only;omega)
theorem N8a {x:Ev}:QL (Tk x)=[Vi 9,Vi x.place,Vi (x.scanner+10),.int .u8 x.kind,Vi x.at',Vi x.seen]:=rfl
theorem N1l {x:Ev}:QL x=[Vi x.item,Vi x.place,Vi x.scanner,.int .u8 x.kind,Vi x.at',Vi x.seen]:=rfl
theorem Nus [OB] {p r2 sp pM:Option Addr} {n m s ca cm sc B lim cx cM:Nat} {item now:Int} {fr:Nat->Value} {R X:List Ev} {px:Option Addr} {H0 G:NE} {Q:Value->NE->Prop} (F:F7 p r2 sp n m s ca cm sc B item now fr) (L:fr 17=.slice px R.length cx) (M:fr 19=.slice pM X.length cM) (A:Own H0.length G QL 6 px cx R) (z:Sl G QL 6 pM X) (ad:R.length<=24) (hX:X.length<=24) (hl:lim<=H0.length) (w:Chg [] H0 G)
  (i:∀a b,px=some a->pM=some b->a.block≠b.block) (O:∀x∈X,1<=x.scanner/\x.scanner<=4)
  (hR:∀fr' G' q c,F7 p r2 sp n m s ca cm sc B item now fr'->Chg [] H0 G'->Own H0.length G' QL 6 q c (R++X.map Tk)->fr' 17=.slice q (R++X.map Tk).length c->PV E a7 lim [.code T7d] fr' G' Q):PV E a7 lim [.code T7c] fr G Q:=by
 rw [N5l]
 refine NK ?_
 simp only [Ur,Sm,T7c,T7b,T7a,c7,n7,r7,M,SB,seval,NC,NJ,NG,NR,reduceCtorEq,NB,place,NA,ND]
 refine NP (fun j:Nat×Option Addr×Nat=>X.length-j.1) (fun j fr' G=>j.1<=X.length/\(∀t,t<15->fr' t=fr t)/\fr' 17=.slice j.2.1 (R.length+j.1) j.2.2/\fr' 69=.slice pM X.length cM/\fr' 70=Vi X.length/\fr' 71=Vi j.1/\Chg [] H0 G/\Own H0.length G QL 6 j.2.1 j.2.2 (R++(X.take j.1).map Tk)/\Sl G QL 6 pM X/\∀a b,j.2.1=some a->pM=some b->a.block≠b.block) (0,px,cx)
  ⟨Nw _,(fun t K=>by simp only [upd];repeat rw [Ng (by omega)]),L,rfl,rfl,by rfl,w.app,by simpa using A,z.app _,i⟩ ?_
 clear w A z i
 clear G
 rintro ⟨j,q,c⟩ fr' G ⟨hj,keep,f,l,o,r,N,J,y,H⟩ hN
 simp only at hj f r J H
 rw [NU Oa1.eq_1]
 refine NK ?_
 have ab:=N.len
 have g:(R++(X.take j).map Tk).length=R.length+j:=by rw [Nl,Nu,Ok];omega
 by_cases d:j<X.length
 case neg=>
  obtain rfl:j=X.length:=by omega
  rw [Oj] at J g
  simp only [n7,r7,f,l,o,r,NN,d,SB,seval,NC,NJ,NG,NR,reduceCtorEq,NB,place,NA,ND]
  exact hR _ _ q c (F.next fun t K=>by simp only [upd];repeat (first | rw [Ng (by omega)] | exact keep t K)) N.app (J.app _) (by rw [g];exact f)
 have D:=fun Y=>(y.app Y).loadCells OP d
 have C:=fun c (kk:IntKind) (H1:NE)=>y.idx (c:=c) (k:=kk) (H1:=H1) d
 have V:IntKind.i64.wrap ((j:Int)+1)=((j+1:Nat):Int):=OD (by omega)
 have T:lim<=G.length:=by omega
 have ae:=O _ (QR d)
 have U:R++(X.take (j+1)).map Tk=(R++(X.take j).map Tk)++[Tk (gt X j)]:=by
  rw [N2 d,O0,PW d,No];rfl
 generalize gt X j=x at *
 have W:IntKind.i64.wrap (x.scanner+10)=x.scanner+10:=NT (by omega) (by omega)
 obtain ⟨G2,e2,I,v,u,ac,_⟩:=J.step (lim':=lim) (bytes:=48) (by omega) OP (by decide) (Tk x) (by rw [g];unfold PU;omega) (by omega) (by omega) [Vc (QL (Tk x)),Vc (QL (Tk x))] (G.length+1) 1 (by rw [OC];rfl)
 rw [g,N8a] at e2
 rw [N1l] at D
 have aa:G.length<=G2.length:=by omega
 simp only [n7,r7,f,l,o,r,NN,d,D,C,V,W,T,NF,QO,e2,SB,seval,NC,NJ,NG,NR,reduceCtorEq,NB,place,NA,ND]
 refine hN (j+1,Sa (G.length+2),loose 6) _ _ ⟨by omega,(fun t K=>by simp only [upd];repeat (first | rw [Ng (by omega)] | exact keep t K)),rfl,l,o,rfl,v [] H0 (Nd _) N,by rw [U];exact I, ?_, ?_⟩ (by simp only;omega)
 ·exact Y0 y fun a P _ ro cc hc=>by rw [u _ (NM hc) fun b S e=>H b a S P e.symm];exact hc
 ·intro a b P S e
  cases P
  have Z:X≠[]:=fun h=>by rw [h] at d;cases d
  rw [S] at y
  obtain ⟨ro,cc,h1,_⟩:=y.2 Z
  have:=NM h1
  simp only at e
  omega
theorem eqE (x:Ev):aEq (.agg [.int .i64,.int .i64,.int .i64,.int .u8,.int .i64,.int .i64,.int .i64]) (.agg (encE x).toArray) (.agg (encE x).toArray)=some true:=by
 simp [aEq,encE,PG,TC]
theorem Nx9 [OB] (o:OB.on 18=true) {lim B D ce K:Nat} {pe C pl pL q r P R:Option Addr} {nk cq ns cr s i t l cl cL:Nat} {es:List Ev} {c:Int} {A:List An} {G:NE} {fr:Nat->Value} {k13:NH G B=Vc (Tt pe es.length ce q nk cq r ns cr c pl A.length cl)} {k23:NH G D=Vc (Tt C es.length K P s i R t l c pL A.length cL)}
  (f13:fr 13=Vp B) (h:fr 23=Vp D) (n:fr 24=Vi 0) (F:Sl G encE 7 pe es) (H:Sl G encE 7 C es) (I:Sl G TF 5 pl A) (J:Sl G TF 5 pL A) (hn:es.length<2 ^ 30) (L:A.length<2 ^ 62):PV E a7 lim [.code T7e] fr G fun v _=>v=.bool true:=by
 refine NK ?_
 have u:=fun X=>(OJ.refl.app (X:=X)).cells k13
 have w:=fun X=>(OJ.refl.app (X:=X)).cells k23
 have z:=fun X (mp:Bool) (lim:Nat) (Q:Value->NE->Prop)=>MW (mp:=mp) (lim:=lim) (Q:=Q) (ca:=cl) (cb:=cL) (I.app X) (J.app X) L
 simp only [decide_true] at z
 simp only [Sm,T7e,T7d,T7c,T7b,T7a,c7,n7,r7,f13,h,n,u,w,PO,Sr,SC,S9,Sz,Sb,z,SB,seval,NC,NJ,NG,NR,reduceCtorEq,NB,place,NA,ND]
 refine NP (fun j=>es.length-j) (fun j fr' G'=>j<=es.length/\fr' 13=Vp B/\fr' 23=Vp D/\fr' 129=Vi es.length/\fr' 130=Vi j/\OJ G G') 0 ⟨Nw _,f13,h,rfl,by rfl,OJ.refl.app⟩ ?_
 intro j fr' G' ⟨U,e,f,b,d,g⟩ M
 rw [NU Oa2.eq_1]
 refine NK ?_
 have x:=fun X=>(OJ.refl.app (X:=X)).cells (g.cells k13)
 have y:=fun X=>(OJ.refl.app (X:=X)).cells (g.cells k23)
 by_cases a:j<es.length
 ·have N:=fun X=>((g.sl F).app X).loadCells NZ a
  have O:=fun X=>((g.sl H).app X).loadCells NZ a
  have S:=fun c (kk:IntKind) (H1:NE)=>(g.sl F).idx (c:=c) (k:=kk) (H1:=H1) a
  have T:=fun c (kk:IntKind) (H1:NE)=>(g.sl H).idx (c:=c) (k:=kk) (H1:=H1) a
  have p:IntKind.i64.wrap ((j:Int)+1)=((j+1:Nat):Int):=OD (by omega)
  have m:=eqE (gt es j)
  simp only [n7,r7,e,f,b,d,NN,a,x,y,PO,Sr,SC,S9,Sz,Sb,N,O,S,T,m,p,SB,seval,NC,NJ,NG,NR,reduceCtorEq,NB,place,NA,ND]
  exact M (j+1) _ _ ⟨by omega,e,f,b,rfl,g.trans OJ.refl.app⟩ (by omega)
 simp only [n7,r7,e,f,b,d,NN,a,Nnm o,SB,seval,NC,NJ,NG,NR,reduceCtorEq,NB,place,NA,ND]
theorem Nao {C:List Int} {M:List Fo}:∀x∈R8 C M,(1<=x.scanner/\x.scanner<=4)/\1<=x.item/\x.item<=4:=fun x a=>by
 unfold R8 at a
 obtain ⟨f,_,rfl⟩:=List.mem_map.1 a
 unfold WE
 simp only
 omega
theorem Nlg {C:List Int} {F M:List Fo} (d:ClOk C) (e:∀f∈F,FoOk f) (g:∀f∈M,FoOk f):QV ((R8 C F).reverse++(R8 [] M).map Tk):=by
 have h1:=VR d e
 have h2:=VR (C:=[]) (fun _ h=>by cases h) g
 have i:=Vh (C:=C) (F:=F)
 have j:=Vh (C:=[]) (F:=M)
 refine ⟨by rw [Nl,Nu,List.length_reverse];omega,fun s hs=>?_⟩
 rcases Ob.1 hs with h | h
 ·exact h1.2 s (List.mem_reverse.1 h)
 ·obtain ⟨x,c,rfl⟩:=List.mem_map.1 h
  have a:=h2.2 x c
  have b:=Nao x c
  unfold Sy at a⊢
  unfold Tk
  simp only
  omega
theorem Ntx {C:List Int} {F M:List Fo} {item:Int} (h1:1<=item) (h2:item<=4):Ue (OH ((R8 C F).reverse++(R8 [] M).map Tk)).1 item=Ue (OH (R8 C F)).1 item/\Ue (OH ((R8 C F).reverse++(R8 [] M).map Tk)).2 item=Ue (OH (R8 C F)).2 item:=by
 refine Ntw (by omega) (List.reverse_perm _) (fun x c=>?_) fun x c s hs=>?_
 ·obtain ⟨y,d,rfl⟩:=List.mem_map.1 c
  show (9:Int)≠item
  omega
 ·obtain ⟨y,d,rfl⟩:=List.mem_map.1 c
  have a:=(Nao y d).1
  have b:=(Nao s hs).1
  show y.scanner+10≠s.scanner
  omega
theorem AnomalySame_ok [OB] (hE:EffOk) (al:OB.on 18=true) {mp:Bool} {lim ca cb cm cc:Nat} {p q r2 r:Option Addr} {k:List RL} {F M:List Fo} {C:List Int} {item now:Int} {H:NE} {Q:Value->NE->Prop} (hs:Sl H encR 6 p k) (hb:∀x∈k,ByR x) (am:k.length<2 ^ 63) (hc:Ua 6 ca k.length)
  (hf:Sl H encF 6 q F) (hF:∀f∈F,FoOk f) (az:Ua 6 cb F.length) (a3:F.length<2 ^ 63) (hm:Sl H encF 6 r2 M) (hM:∀f∈M,FoOk f) (a0:Ua 6 cm M.length) (a6:M.length<2 ^ 63) (hC:ClOk C) (ba:Sl H encB 1 r C) (a1:C.length<2 ^ 63) (ai:0<=item/\item<=255) (a8:0<=now/\now<=65535) :
  NL E mp lim 7 [.slice p k.length ca,.slice q F.length cb,.slice r2 M.length cm,.slice r C.length cc,.int .u8 item,.int .u16 now] H Q=Q (.bool true) H:=by
 refine pc (by decide) e7 rfl rfl ?_
 rw [b7,N8v]
 simp only [Ur,Sm,c7,n7,r7,SB,seval,NC,NJ,NG,NR,reduceCtorEq,NB,place,NA,ND]
 rw [Nb]
 refine Nuw hE hs hb am hc hf hF az a3 hC ba a1 ai a8 (Nd _) (fun G sp sc hX=>?_) (fun G sp sc pe ce q' cq r' cr pl cl es tw ks ss e1 e2 e3 e4 a9 s hX hS au hce hK hT hA=>?_)
 ·have N:=hX.len
  refine NK ?_
  simp only [Ur,Sm,c7,n7,r7,Nda,NI,NF,N,Nnm al,SB,seval,NC,NJ,NG,NR,reduceCtorEq,NB,place,NA,ND]
 have N:=hX.len
 refine NK ?_
 simp only [Ur,Sm,c7,n7,r7,PO,NI,NF,N,SB,seval,NC,NJ,NG,NR,reduceCtorEq,NB,place,NA,ND]
 obtain ⟨L,hL⟩:∃L,U9 k (min k.length 10)=L:=⟨_,rfl⟩
 have ab:=Nez hb (n:=min k.length 10) (Nat.min_le_left _ _) (Nat.min_le_right _ _)
 have J:=Nlg (M:=M) hC hF hM
 obtain ⟨IT,aa⟩:∃IT,1+item % 4=IT:=⟨_,rfl⟩
 have c:=Ntx (C:=C) (F:=F) (M:=M) (item:=IT) (by omega) (by omega)
 have ad:=Nao (C:=[]) (M:=M)
 have o:=Vh (C:=C) (F:=F)
 have l:=Vh (C:=[]) (F:=M)
 have htw:=Nxx (R8 C F) IT
 rw [hL] at ab hA e3 e4 s⊢
 rw [aa] at e1 e2
 rw [<-e2] at htw
 obtain ⟨S,ay⟩:∃S,R8 C F=S:=⟨_,rfl⟩
 obtain ⟨X,ah⟩:∃X,R8 [] M=X:=⟨_,rfl⟩
 rw [ay] at hS J c o e1 e2 htw⊢
 rw [ah] at J c ad l
 obtain ⟨A,U⟩:∃A,TU P5 L es tw ks ss (now*2)=A:=⟨_,rfl⟩
 have a2:es.length<=40:=(Nql s).2.1
 have ar:=Nhr (P:=P5) (L:=L) (es:=es) (tw:=tw) (ks:=ks) (ss:=ss) (now:=now*2) a2 (by omega)
 rw [U] at hA ar⊢
 obtain ⟨V,hV⟩:∃V,Tt pe es.length ce q' ks.length cq r' ss.length cr (Td P5 L es ks) pl A.length cl=V:=⟨_,rfl⟩
 rw [hV]
 obtain ⟨G1,I⟩:∃G1,G++[Vc V]=G1:=⟨_,rfl⟩
 have d:OJ G G1:=by rw [<-I];exact OJ.refl.app
 have k13:NH G1 G.length=Vc V:=by rw [<-I,NV];rfl
 rw [I]
 have bf:=d.len
 refine Nyc (p:=p) (r2:=r2) (sp:=sp) (n:=k.length) (m:=M.length) (ca:=ca) (cm:=cm) (sc:=sc) (B:=G.length) (item:=item) (now:=now) (S:=S) ⟨rfl,rfl,rfl,rfl,rfl,rfl⟩ rfl (d.sl hS) o (by omega) fun bg G2 q2 c2 F2 K ag w=>?_
 rw [N5m]
 refine NK ?_
 have g2:=F2.f2
 simp only [Ur,Sm,T7b,T7a,c7,n7,r7,g2,SB,seval,NC,NJ,NG,NR,reduceCtorEq,NB,place,NA,ND]
 have bn:=K.len
 refine Nn2 (C:=[]) (lim:=H.length) (((hX.trans d).trans K).sl hm |>.app _) a0 (show Sl _ encB 1 none [] from rfl) hM (fun _ h=>by cases h) a6 (by decide) (by simp;omega) fun G3 bd bc bs bq g=>?_
 rw [ah] at g⊢
 have y:Chg [] (G2++[]) G3:=⟨g.len,fun j hj _=>g.old j hj⟩
 refine NK ?_
 simp only [Ur,Sm,T7b,T7a,c7,n7,r7,SB,seval,NC,NJ,NG,NR,reduceCtorEq,NB,place,NA,ND]
 have bp:=(Qc (by simp) y.len:G2.length<=G3.length)
 have W:Chg [] G1 (G3++[]):=(((K.chg (A:=[])).app (X:=[])).trans y).app
 have aw:Own G1.length (G3++[]) QL 6 q2 c2 S.reverse:=((ag.app []).chg y (fun a _ h=>(by cases h))).app _
 have ak:S.reverse.length=S.length:=List.length_reverse
 refine Nus (H0:=G1) (R:=S.reverse) (X:=X) (px:=q2) (cx:=c2) (pM:=bd) (cM:=bc) (F2.next fun t ht=>by simp only [upd];repeat rw [Ng (by omega)]) (by rw [ak];exact w) rfl aw ((g.so.sl OP).app _) (by omega) l (by omega) W (fun a b ha hb e=>?_) (fun x hx=>(ad x hx).1) fun bh G4 q4 c4 T z ax w=>?_
 ·have h1:=(ag.block ha).2
  have h2:=(g.so.block hb).1
  simp at h2
  omega
 rw [N5k]
 refine NK ?_
 have Z:=(hX.trans d).trans z.ext
 have bo:=z.len
 have g0:=T.f0
 simp only [Ur,T7d,Sm,T7c,T7b,T7a,c7,n7,r7,g0,SB,seval,NC,NJ,NG,NR,reduceCtorEq,NB,place,NA,ND]
 refine N2u (lim:=H.length) ((Z.sl hs).app _) hb am hc (by simp;omega) fun G5 pp pL cL D ae=>?_
 rw [hL] at ae⊢
 have a4:=D.len
 simp at a4
 have g4:=T.f4
 have g5:=T.f5
 have bk:=T.f13
 have w2:IntKind.i64.wrap (1+item.tmod 4)=IT:=by rw [Int.tmod_eq_emod_of_nonneg ai.1,aa,NT (by omega) (by omega)]
 have w3:IntKind.i64.wrap item=item:=NT (by omega) (by omega)
 have w4:IntKind.i64.wrap now=now:=NT (by omega) (by omega)
 have w5:IntKind.i64.wrap (2*now)=now*2:=by rw [NT (by omega) (by omega)];omega
 refine NK ?_
 simp only [Ur,T7d,Sm,T7c,T7b,T7a,c7,n7,r7,g4,g5,w,w2,w3,w4,w5,SB,seval,NC,NJ,NG,NR,reduceCtorEq,NB,place,NA,ND]
 have aj:=Nbj (P:=P5) (L:=L) (S:=S.reverse++X.map Tk) (item:=IT) (now:=now*2) ab J (by omega) (by omega) (by omega) (by unfold OA;omega)
 rw [c.1,<-e1,Ng a9,Ng (by omega)] at aj
 have bm:(S.reverse++X.map Tk).length<=48:=by rw [Nl,Nu,ak];omega
 rw [show S.reverse.length+(X.map Tk).length=(S.reverse++X.map Tk).length from Nl.symm]
 refine Ndo hE (lim:=H.length) (ae.app []) (((D.sl ((ax.sl OP).app []) (fun a _ _ h=>(by cases h)))).app []) (by omega) (by simp;omega) (fun G6 h0 _=>absurd aj h0) (fun G6 pE cE q6 ap r6 aq bb ao v be O an d1 d2 d3 d4 h0 Y av _ _ _ ac=>?_)
 obtain rfl:v=es:=by rw [d1,c.1,e1]
 obtain rfl:be=tw:=by rw [d2,c.2,e2]
 obtain rfl:O=ks:=by rw [d3,e3]
 obtain rfl:an=ss:=by rw [d4,e4]
 rw [U] at ac⊢
 have a5:=Y.len
 simp at a5
 have i:Chg [] G1 G6:=((z.app (X:=[])).trans ((D.app (X:=[])).trans Y))
 refine NK ?_
 simp only [Ur,T7d,Sm,T7c,T7b,T7a,c7,n7,r7,PO,NI,NF,show H.length<=G6.length by omega,SB,seval,NC,NJ,NG,NR,reduceCtorEq,NB,place,NA,ND]
 have u:=(OJ.refl.app (X:=[Vc (Tt pE v.length cE q6 O.length ap r6 an.length aq (Td P5 L v O) bb A.length ao)])).cells (i.cells k13 (by simp))
 rw [<-hV] at u
 exact Nx9 al (k13:=u) (k23:=by rw [NV];rfl) (T.next (fun t ht=>by simp only [upd];repeat rw [Ng (by omega)])).f13 rfl rfl (((d.trans i.ext).sl au).app _) (av.1.app _) (((d.trans i.ext).sl hA).app _) (ac.1.app _) (by omega) (by omega)
end Go.Proofs.YtkppjkkkdpcgiaaGreat.Fn


