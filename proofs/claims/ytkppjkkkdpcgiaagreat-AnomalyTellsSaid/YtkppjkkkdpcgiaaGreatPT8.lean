/-
  Joined texts, 8 of 11. A part of the claim that the last text states.
-/
import Derived.Test.YtkppjkkkdpcgiaaGreatPT7
set_option linter.unusedVariables false
set_option linter.unusedSimpArgs false
set_option linter.defProp false
set_option linter.unusedSectionVars false
set_option maxRecDepth 100000
set_option maxHeartbeats 4000000
namespace Go.Proofs.YtkppjkkkdpcgiaaGreat.Fn
open Go.AM Go.AM.Sym Go.Net Go.Scan
variable {Q:Value->NA->Prop} {pt pe r pl pp pL:Option Addr} {ce B cq cr cap ct nl cl cp cL nk ns:Nat} {ss:List Stp} {L:List Leg} {P ks:List Int} {x:Ev} {G1 G H:NA} {tw es:List Ev} {lv now c:Int} {l:List An}
theorem Nfh (h:ks≠[]):ks.getLast? = some (gt ks (ks.length-1)):=by
 have hl:0<ks.length:=List.length_pos_iff.2 h;rw [List.getLast?_eq_getElem?,Ni (by omega),OQ (by omega)]
def TI (es:List Ev):Prop:=∀e∈es,0<=e.time/\e.time<=NV
theorem N53 [OB] {lim:Nat} {q:Option Addr} (he:Sl H encE 7 pe es) (x:Sl H encI 1 q ks) (hn:es.length<2 ^ 30) (y:ks.length<2 ^ 40) (hl:lim<=H.length) (hk:∀k∈ks,0<=k/\k<es.length) (A:TI es) (t:0<=now/\now<=NV)
  (d:∀G p c',Chg [] H G->Sl G Tv 5 p (UX es ks now)->Q (.slice p (UX es ks now).length c') G) :
  NQ E false lim 77 [.agg (Uo pe es.length ce q ks.length cq r ns cr c pl nl cl).toArray,Vi now] H Q:=by
 refine QN (by decide) rfl rfl ?_;rw [b77,c77];by_cases v:ks=[]
 ·subst v;simp only [n77,Nel,Nn,SB,seval,NL,NH,NG,place,NB,NC];exact d _ none 0 Chg.refl.app rfl
 have z:0<ks.length:=List.length_pos_iff.2 v;obtain ⟨m,hm⟩:∃m:Nat,gt ks (ks.length-1)=m:=⟨(gt ks (ks.length-1)).toNat,by have:=hk _ (PM (show ks.length-1<ks.length by omega));omega⟩
 have g:m<es.length:=by have:=hk _ (PM (show ks.length-1<ks.length by omega));omega
 have s:=Nfh v;rw [hm] at s;have j:¬((ks.length:Nat):Int)=0:=by omega
 have l:IntKind.i64.wrap ((ks.length:Int)-1)=((ks.length-1:Nat):Int):=by rw [NR (by omega) (by omega)];omega
 have b:=fun X=>S9 x (i:=ks.length-1) (by omega) X
 rw [hm] at b;have a:=fun c (k:IntKind) (H1:NA)=>x.idx (c:=c) (k:=k) (H1:=H1) (i:=ks.length-1) (by omega)
 have f:=fun X=>(he.app X).loadCells NT g
 have e:=fun c (k:IntKind) (H1:NA)=>he.idx (c:=c) (k:=k) (H1:=H1) g
 have w:=A _ (PM g);unfold NV at w t;have u:IntKind.i64.wrap (now-(gt es m).time)=now-(gt es m).time:=NR (by omega) (by omega);have B:((m:Nat):Int).toNat=m:=N1 m;have n:UX es ks now=if (gt es m).kind=4\/now-(gt es m).time<=20160 then [] else [⟨7,(m:Int),0,(gt es m).place,now-(gt es m).time⟩]:=by unfold UX;rw [s];rfl
 by_cases o:(gt es m).kind=4
 ·rw [Nl (.inl o)] at n;rw [n] at d;simp only [n77,VH,Nel,NT,QY,Nc j,l,b,a,f,e,NI,hl,Nh o,SB,seval,NL,NH,NG,place,NB,NC];exact d _ none 0 Chg.refl.app rfl
 by_cases h5:now-(gt es m).time<=20160
 ·rw [Nl (.inr h5)] at n;rw [n] at d;simp only [n77,VH,Nel,NT,QY,QX,Nc j,l,b,a,f,e,NI,hl,u,Nc o,Nh h5,SB,seval,NL,NH,NG,place,NB,NC];exact d _ none 0 Chg.refl.app rfl
 rw [Ng (by rintro (h | h);exact o h;exact h5 h)] at n;rw [n] at d;simp only [n77,VH,Nel,NT,QU,QY,QX,Nc j,l,b,a,f,e,NI,hl,u,Nc o,Nc h5,SB,seval,NL,NH,NG,place,NB,NC];exact d _ _ _ Chg.refl.app (Sl.row (ro:=false) RF (by rw [NY];rfl))
theorem Nom [OB] {mp:Bool} {lim:Nat} {y:Ev} {o:Bool} (hB:NE H B=.cells o (encE x)) :
  NQ E mp lim 110 [.agg (encE y).toArray,Vp B] H Q=Q (.bool (decide (Y7 y x))) H:=by
 refine pc (by decide) Ofq rfl rfl ?_;rw [Og2,Obk];have a:=zc hB;by_cases h1:y.place=x.place
 ·by_cases h2:y.kind=x.kind
  ·simp only [n110,N9u,a,QU,QY,Nh h1,Nh h2,Nh (show Y7 y x from ⟨h1,h2⟩),SB,seval,NL,NH,NG,place,NB,NC]
  ·simp only [n110,N9u,a,QU,QY,Nh h1,Nc h2,Nc (fun h:Y7 y x=>h2 h.2),SB,seval,NL,NH,NG,place,NB,NC]
 ·simp only [n110,N9u,a,QU,Nc h1,Nc (fun h:Y7 y x=>h1 h.1),SB,seval,NL,NH,NG,place,NB,NC]
def N4n:ACode:=QP (QP (QP (QP (QP c76))))
theorem N64:c76=.seq (UF c76) (.seq (UF (QP c76)) (.seq (UF (QP (QP c76))) (.seq (UF (QP (QP (QP c76)))) (.seq (UF (QP (QP (QP (QP c76))))) N4n)))):=rfl
def Nb3 (x:Ev) (i:Nat) (lv:Int) (tw:List Ev):List An:=(tw.filter fun y=>Nfa x lv y).map (Ym x i)
theorem Nwp {i j:Nat} (h:j<tw.length):Nb3 x i lv (tw.take (j+1))=if Nfa x lv (gt tw j) then Nb3 x i lv (tw.take j)++[Ym x i (gt tw j)] else Nb3 x i lv (tw.take j):=by
 unfold Nb3;rw [Nv h,List.filter_append,<-OQ h];by_cases a:Nfa x lv (gt tw j)
 ·rw [Nl a,Ou (by simpa using a),List.filter_nil,O7];rfl
 ·rw [Ng a,Ov (by simpa using a),List.filter_nil,Na]
theorem N2y {i:Nat}:(Nb3 x i lv tw).length<=tw.length:=by
 unfold Nb3;rw [Nz];exact Pn ..
theorem Ntk [OB] {lim i:Nat} {fr:Nat->Value} (hB:NE G B=Vc (encE x)) (htw:Sl H encE 7 pt tw) (q:Chg [] H G) (T:H.length<=B) (hn:tw.length<2 ^ 30) (hl:lim<=H.length) (Y:TI tw) (Z:0<=x.time/\x.time<=NV)
  (f1:fr 1=.slice pt tw.length ct) (f2:fr 2=Vi i) (R:fr 7=Vp B) (S:fr 8=.func (.func 110) #[] #[Vp B]) (f9:fr 9=Vi lv)
  (U:∀G p c',Chg [] H G->Sl G Tv 5 p (Nb3 x i lv tw)->Q (.slice p (Nb3 x i lv tw).length c') G) :
  PT E a76 lim [.code N4n] fr G Q:=by
 unfold N4n;refine NJ ?_;simp only [QP,c76,n76,f1,SB,seval,NL];refine NP (fun j:Nat×Option Addr×Nat=>tw.length-j.1) (fun j fr G=>j.1<=tw.length/\fr 2=Vi i/\fr 7=Vp B/\fr 8=.func (.func 110) #[] #[Vp B]/\fr 9=Vi lv/\fr 12=.slice j.2.1 (Nb3 x i lv (tw.take j.1)).length j.2.2/\fr 37=.slice pt tw.length ct/\fr 38=Vi tw.length/\fr 39=Vi j.1/\
   Chg [] H G/\NE G B=Vc (encE x)/\Own (B+1) G Tv 5 j.2.1 j.2.2 (Nb3 x i lv (tw.take j.1))) (0,none,0)
  ⟨Np _,f2,R,S,f9,rfl,rfl,rfl,by rfl,q.app,(OD.refl.app).cells hB,.nil⟩ ?_
 rintro ⟨j,p,c'⟩ fr G ⟨W,D,w,v,A,b,g,d,m,q,hB,n⟩ hN;simp only at W b m n hN;rw [NU N78.eq_1];refine NJ ?_;have O:=q.len;by_cases e:j<tw.length
 case neg=>
  obtain rfl:j=tw.length:=by omega
  rw [N9] at b n;simp only [n76,b,d,m,ND,e,SB,seval,NL,NH,NC];exact U _ _ _ q.app ((n.sl RF).app _)
 have sT:=q.sl htw (fun a _ _ h=>(by cases h));have t:=fun X=>(sT.app X).loadCells NT e
 have l:=fun c (k:IntKind) (H1:NA)=>sT.idx (c:=c) (k:=k) (H1:=H1) e
 have u:IntKind.i64.wrap ((j:Int)+1)=((j+1:Nat):Int):=OC (by omega);have s:lim<=G.length:=by omega
 have K:=NM hB;have f:=Nwp (x:=x) (i:=i) (lv:=lv) e;have N:(Nb3 x i lv (tw.take j)).length<=tw.length:=Pt N2y (by rw [N5];omega);have L:=Y _ (PM e);generalize gt tw j=y at *;have o:=zc hB;have r:=fun X (mp:Bool) (lim:Nat) (Q:Value->NA->Prop)=>Nom (mp:=mp) (lim:=lim) (x:=x) (y:=y) (Q:=Q) (o X)
 by_cases c1:Y7 y x
 case neg=>
  rw [Ng (fun h=>c1 h.1)] at f;rw [<-f] at b n;simp only [n76,v,g,d,m,ND,e,t,l,u,s,r,NT,NK,NI,Nw c1,SB,seval,NF,NL,NH,place,NB];exact hN (j+1,p,c') _ _ ⟨by omega,D,w,v,A,b,g,d,rfl,q.app,(OD.refl.app).cells hB,n.app _⟩ (by simp only;omega)
 by_cases c2:x.time<=y.time
 case neg=>
  rw [Ng (fun h=>c2 h.2.1)] at f;rw [<-f] at b n;simp only [n76,w,v,g,d,m,ND,e,t,l,u,s,r,o,NT,QX,NK,NI,Nj c1,Nc c2,SB,seval,NF,NL,NH,place,NB];exact hN (j+1,p,c') _ _ ⟨by omega,D,w,v,A,b,g,d,rfl,q.app,(OD.refl.app).cells hB,n.app _⟩ (by simp only;omega)
 by_cases I:y.time<lv
 case neg=>
  rw [Ng (fun h=>I h.2.2)] at f;rw [<-f] at b n;simp only [n76,w,v,A,g,d,m,ND,e,t,l,u,s,r,o,NT,QX,NK,NI,Nj c1,Nh c2,Nc I,SB,seval,NF,NL,NH,place,NB];exact hN (j+1,p,c') _ _ ⟨by omega,D,w,v,A,b,g,d,rfl,q.app,(OD.refl.app).cells hB,n.app _⟩ (by simp only;omega)
 rw [Nl ⟨c1,c2,I⟩] at f;unfold NV at Z L;have M:IntKind.i64.wrap (y.time-x.time)=y.time-x.time:=NR (by omega) (by omega);obtain ⟨G2,e2,F,C,z,P,_⟩:=n.step (lim':=lim) (bytes:=40) (by omega) RF (by decide) (Ym x i y) (by unfold OX;omega) (by omega) (by omega) [Vc (encE y),Vc (Tv (Ym x i y))] (G.length+1) 1 (by rw [NY];rfl);have J:Tv (Ym x i y)=[.int .u8 6,Vi i,Vi 0,Vi x.place,Vi (y.time-x.time)]:=rfl;rw [J] at e2;simp only [n76,D,w,v,A,b,g,d,m,ND,e,t,l,u,s,r,o,NT,QU,QX,NK,NI,Nj c1,Nh c2,Nh I,M,e2,SB,seval,NF,NL,NH,place,NB];exact hN (j+1,Sa (G.length+2),loose 5) _ _ ⟨by omega,D,w,v,A,by rw [f,Nk];rfl,g,d,rfl,C [] H (by omega) q,by rw [z B K (fun a V=>by have:=(n.block V).1;omega)];exact hB,by rw [f];exact F⟩ (by simp only;omega)
theorem Nrs [OB] {lim i:Nat} {q:Option Addr} (he:Sl H encE 7 pe es) (hce:WU 7 ce es.length) (htw:Sl H encE 7 pt tw) (hi:i<es.length) (hn:es.length<2 ^ 30) (z:tw.length<2 ^ 30) (hl:lim<=H.length) (U:TI es) (A:TI tw)
  (u:∀G p c',Chg [] H G->Sl G Tv 5 p (R9 es tw i)->Q (.slice p (R9 es tw i).length c') G) :
  NQ E false lim 76 [.agg (Uo pe es.length ce q nk cq r ns cr c pl nl cl).toArray,.slice pt tw.length ct,Vi i] H Q:=by
 refine QN (by decide) rfl rfl ?_;rw [b76,N64];have l:=fun X=>(he.app X).loadCells NT hi
 have e:=fun c (k:IntKind) (H1:NA)=>he.idx (c:=c) (k:=k) (H1:=H1) hi
 have o:IntKind.i64.wrap ((i:Int)+1)=((i+1:Nat):Int):=OC (by omega);obtain ⟨V,k1,W,N,_,_,_⟩:=Vj (vlo:=some (Vi ((i+1:Nat):Int))) (vhi:=none) (lo:=i+1) (hi:=es.length) he hce NT (fun cap P=>by rw [Nkq (by omega) (by omega),N1]) (by omega) (Nf _) (by omega);rw [N9] at N;simp only [UF,QP,c76,n76,VH,l,e,o,NI,hl,NT,W,SB,seval,NL,NH,NG,place,NB];obtain ⟨D,K⟩:∃D,D=es.drop (i+1):=⟨_,rfl⟩
 have L:es.length-(i+1)=D.length:=by rw [K,O2]
 rw [<-K] at N;rw [L];have S:R9 es tw i=Nb3 (gt es i) i (TR (gt es i) D) tw:=by unfold R9 Nb3;rw [K]
 rw [S] at u;have B:=U _ (PM hi);generalize gt es i=x at *;have T:D.length<2 ^ 30:=by omega
 refine NP (fun j:Nat=>D.length-j) (fun j fr G=>j<=D.length/\fr 1=.slice pt tw.length ct/\fr 2=Vi i/\fr 7=Vp (H.length+1)/\fr 8=.func (.func 110) #[] #[Vp (H.length+1)]/\fr 9=Vi (NV+1)/\fr 25=.slice V D.length k1/\fr 26=Vi D.length/\fr 27=Vi j/\
   Chg [] H G/\NE G (H.length+1)=Vc (encE x)/\TR x D=TR x (D.drop j)) 0
  ⟨Np _,rfl,rfl,rfl,rfl,rfl,rfl,rfl,by rfl,Chg.refl.app,by rw [NY];rfl,rfl⟩ ?_
 intro j fr G ⟨Y,C,F,I,s,O,m,g,n,t,hB,b⟩ hN;rw [NU N77.eq_1];refine NJ ?_;have R:=t.len;by_cases d:j<D.length
 case neg=>
  obtain rfl:j=D.length:=by omega
  rw [Qk] at b;have f:TR x D=NV+1:=b;rw [f] at u;simp only [n76,g,n,ND,d,SB,seval,NL,NH];exact Ntk (lv:=NV+1) ((OD.refl.app).cells hB) htw t.app (by omega) z hl A B C F I s O u
 have sT:=t.sl N (fun a _ _ h=>(by cases h));have l:=fun X=>(sT.app X).loadCells NT d
 have e:=fun c (k:IntKind) (H1:NA)=>sT.idx (c:=c) (k:=k) (H1:=H1) d
 have o:IntKind.i64.wrap ((j:Int)+1)=((j+1:Nat):Int):=OC (by omega);have w:lim<=G.length:=by omega
 have M:D.drop j=gt D j::D.drop (j+1):=by rw [Oy d,OQ d]
 rw [M] at b;generalize gt D j=y at *;have J:=zc hB;have v:=fun X (mp:Bool) (lim:Nat) (Q:Value->NA->Prop)=>Nom (mp:=mp) (lim:=lim) (x:=x) (y:=y) (Q:=Q) (J X)
 by_cases c1:Y7 y x
 ·have f:TR x D=y.time:=b.trans (by unfold TR;rw [Nl c1]);rw [f] at u;simp only [n76,s,m,g,n,ND,d,l,e,w,v,NT,QX,NK,NI,Nj c1,SB,seval,NF,NL,NH,reduceCtorEq,place,NB];exact Ntk (lv:=y.time) ((OD.refl.app).cells hB) htw t.app (by omega) z hl A B C F I s rfl u
 ·have f:TR x D=TR x (D.drop (j+1)):=b.trans (by conv=>lhs;unfold TR;rw [Ng c1]);simp only [n76,s,m,g,n,ND,d,l,e,o,w,v,NT,NK,NI,Nw c1,SB,seval,NF,NL,NH,place,NB];exact hN (j+1) _ _ ⟨by omega,C,F,I,s,O,m,g,rfl,t.app,(OD.refl.app).cells hB,f⟩ (by omega)
theorem N2b (c:L.Pairwise (fun a b=>a.id≠b.id)) {l:Leg} (hl:l∈L):L.find? (fun x=>x.id=l.id)=some l:=by
 cases h:L.find? (fun x=>x.id=l.id) with
 | none=>exact absurd (List.find?_eq_none.1 h l hl) (by simp)
 | some y=>
   have h1:=Rn h;have h2:=Q6 h;rw [Nnj c y h2 l hl (by simpa using h1)]
theorem N6k {α β:Type} [Inhabited α] [Inhabited β] {f:α->β} {l:List α} {i:Nat} (h:i<l.length):gt (l.map f) i=f (gt l i):=by
 rw [OQ (by simpa using h),OQ h,Qw]
theorem Nvq [OB] {lim:Nat} {q:Option Addr} {s:Stp} (hN:NetIn H pp pL P L) (he:Sl H encE 7 pe es) (hs:Uk es.length s) (hn:es.length<2 ^ 30) (hl:lim<=H.length)
  (i:∀G p c',Chg [] H G->Sl G Tv 5 p (SS P L es s)->Q (.slice p (SS P L es s).length c') G) :
  NQ E false lim 109 [.agg (Uo pe es.length ce q nk cq r ns cr c pl nl cl).toArray,.agg (netV pp P.length cp pL L.length cL).toArray,.agg (enc3 s).toArray] H Q:=by
 refine QN (by decide) Ofr rfl ?_;rw [Og3,c109];unfold Uk at hs;obtain ⟨m,hm⟩:∃m:Nat,s.1=m:=⟨s.1.toNat,by omega⟩
 obtain ⟨k,hk⟩:∃k:Nat,s.2.1=k:=⟨s.2.1.toNat,by omega⟩
 have U:m<es.length:=by omega
 have O:k<es.length:=by omega
 have e0:=M9 (x:=s);have e1:=Yl (x:=s);rw [hm] at e0;rw [hk] at e1;have aq:=fun X=>(he.app X).loadCells NT U
 have ar:=fun X=>(he.app X).loadCells NT O
 have am:=fun c (k:IntKind) (H1:NA)=>he.idx (c:=c) (k:=k) (H1:=H1) U
 have an:=fun c (k:IntKind) (H1:NA)=>he.idx (c:=c) (k:=k) (H1:=H1) O
 have d:SS P L es s=(WW P L (gt es m).place (gt es k).place (gt es m).time).dropLast.map (Y6 s):=by unfold SS;rw [hm,hk,N1,N1]
 simp only [n109,VH,NT,QU,QX,e0,e1,NK,aq,ar,am,an,NI,hl,OG,SB,seval,NF,NL,NG,place,NB];generalize gt es m=a at *;generalize gt es k=b at *;refine Obw (hN.app _) (by simp;omega) (fun G he e=>?_) (fun G he hA e=>?_) (fun G v w pw cw he e hv hA hB ax n=>?_)
 ·rw [Nk4 he] at d;rw [d] at i;refine NJ ?_;simp only [n109,N5b,Nc he,SB,seval,NL,NH,NC];exact i _ none 0 e.pre.app rfl
 ·rw [Nhg hA] at d;rw [d] at i;refine NJ ?_;simp only [n109,N5b,SB,seval,NL,NH,NC];exact i _ none 0 e.pre.app rfl
 have Y:WW P L a.place b.place a.time=w:=YG ⟨he,v,hv,hA,hB⟩;rw [Y] at d;by_cases h0:w=[]
 ·subst h0;rw [d] at i;refine NJ ?_;simp only [n109,N5b,Nn,SB,seval,NL,NH,NC];exact i _ none 0 e.pre.app rfl
 have aw:0<w.length:=List.length_pos_iff.2 h0;have ai:¬((w.length:Nat):Int)=0:=by omega
 have W:IntKind.i64.wrap ((w.length:Int)-1)=((w.length-1:Nat):Int):=by rw [NR (by omega) (by omega)];omega
 have g:=n.capOk;have V:=n.sl OU;obtain ⟨q1,k1,x1,s1,_,_,_⟩:=Vj (vlo:=none) (vhi:=some (Vi ((w.length-1:Nat):Int))) (lo:=0) (hi:=w.length-1) V g OU (fun cap g=>by rw [Zo (by omega) (by rw [Nz] at g;omega),N1]) (Np _) (by rw [Nz];omega) (by rw [Nz];omega);obtain ⟨D,hD⟩:∃D,D=w.dropLast:=⟨_,rfl⟩
 have J:D.length=w.length-1:=by rw [hD,List.length_dropLast]
 rw [On,<-List.map_take,<-List.dropLast_eq_take,<-hD] at s1;rw [Nz,Nat.sub_zero,<-J] at x1;rw [<-hD] at d;rw [d] at i;rw [Nz] at i;rw [<-J] at W;have T:∀x∈D,x.1∈L:=fun x hx=>hB.way.mem x (by rw [hD] at hx;exact List.dropLast_subset _ hx)
 have ae:=Xx (Sg (VN he).1).2.2.2;refine NJ ?_;simp only [n109,Nc ai,W,x1,SB,seval,NL,NH];have R:=e.len;simp at R;have l:=e.cells (NY (X:=[_,Vc (netV pp P.length cp pL L.length cL),Vc (enc3 s),_,_]) (j:=1)) (by simp);have o:=e.cells (NY (X:=[_,Vc (netV pp P.length cp pL L.length cL),Vc (enc3 s),_,_]) (j:=2)) (by simp);have M:=(hN.app [Vc (Uo pe es.length ce q nk cq r ns cr c pl nl cl),Vc (netV pp P.length cp pL L.length cL),Vc (enc3 s),Vc (encE a),Vc (encE b)]).sim fun b ro c h=>e.cells h (by simp)
 obtain ⟨G0,ab⟩:∃G0,G0=G:=⟨_,rfl⟩
 have I:=e.pre;rw [<-ab] at l o M s1 I R⊢;clear e n V;refine NP (fun j:Nat×Option Addr×Nat=>D.length-j.1) (fun j fr G=>j.1<=D.length/\fr 4=Vp (H.length+1)/\fr 5=Vp (H.length+2)/\fr 11=.slice j.2.1 j.1 j.2.2/\fr 52=.slice q1 D.length k1/\fr 53=Vi D.length/\fr 54=Vi j.1/\
   Chg [] G0 G/\Own G0.length G Tv 5 j.2.1 j.2.2 ((D.take j.1).map (Y6 s))) (0,none,0)
  ⟨Np _,rfl,rfl,rfl,rfl,rfl,by rfl,Chg.refl.app,.nil⟩ ?_
 rintro ⟨j,p,c'⟩ fr G ⟨hj,g4,g5,u,F,y,z,e,n⟩ K;simp only at hj u z n K;rw [NU N1m.eq_1];refine NJ ?_;have au:=e.len;have N:((D.take j).map (Y6 s)).length=j:=by rw [Nz,N5];omega
 by_cases f:j<D.length
 case neg=>
  obtain rfl:j=D.length:=by omega
  rw [N9] at n;simp only [n109,N5b,u,y,z,ND,f,SB,seval,NL,NH,NC];exact i _ _ _ (I.trans e).app ((n.sl RF).app _)
 have sT:=e.sl s1 (fun a _ _ h=>(by cases h));have S:j<(D.map Sk).length:=by rw [Nz];exact f
 have B:=fun X=>(sT.app X).loadCells OU S
 have t:=fun c (k:IntKind) (H1:NA)=>sT.idx (c:=c) (k:=k) (H1:=H1) S
 rw [N6k f] at B;rw [Nz] at t;have al:IntKind.i64.wrap ((j:Int)+1)=((j+1:Nat):Int):=OC (by omega);have ag:lim<=G.length:=by omega
 have ah:=T _ (PM f);have ak:(D.take (j+1)).map (Y6 s)=(D.take j).map (Y6 s)++[Y6 s (gt D j)]:=by
  rw [Nv f,O7,OQ f];rfl
 generalize gt D j=x at *;have ad:=N2b ae ah;have e3:enc3 (Sk x)=[Vi x.1.id,Vi x.2,Vi (x.2+x.1.mins)]:=rfl;rw [e3] at B;have xN:=zc (e.cells l (by simp));have xS:=zc (e.cells o (by simp));have A:=fun X (mp:Bool) (lim:Nat) (Q:Value->NA->Prop)=>find_ok (mp:=mp) (lim:=lim) (cp:=cp) (cl:=cL) (a:=x.1.id) (Q:=Q) ((M.sim fun b ro c h=>e.cells h (by simp)).app X)
 rw [ad] at A;simp only at A;obtain ⟨G2,e2,Z,C,aj,av,_⟩:=n.step (lim':=lim) (bytes:=40) (by omega) RF (by decide) (Y6 s x) (by rw [N];unfold OX;omega) (by omega) (by omega) [Vc [Vi x.1.id,Vi x.2,Vi (x.2+x.1.mins)],Vc (encL x.1),Vc (Tv (Y6 s x))] (G.length+2) 1 (by rw [NY];rfl);have aa:Tv (Y6 s x)=[.int .u8 5,Vi k,Vi m,Vi x.1.dst,Vi 0]:=by rw [<-hk,<-hm];rfl
 rw [N,aa] at e2;simp only [n109,g4,g5,u,F,y,z,ND,f,B,t,al,ag,xN,xS,A,OG,e0,e1,NZ,R3,NK,NI,e2,SB,seval,NF,NL,NH,place,NB];exact K (j+1,Sa (G.length+3),loose 5) _ _ ⟨by omega,g4,g5,rfl,F,y,rfl,C [] G0 (Nf _) e,by rw [ak];exact Z⟩ (by simp only;omega)
theorem Nva [OB] {lim:Nat} {q:Option Addr} {s:Stp} (hN:NetIn H pp pL P L) (he:Sl H encE 7 pe es) (hs:Uk es.length s) (hn:es.length<2 ^ 30) (hl:lim<=H.length)
  (b:∀G p c',Chg [] H G->Sl G Tv 5 p (Ru P L es s)->Q (.slice p (Ru P L es s).length c') G) :
  NQ E false lim 75 [.agg (Uo pe es.length ce q nk cq r ns cr c pl nl cl).toArray,.agg (netV pp P.length cp pL L.length cL).toArray,.agg (enc3 s).toArray] H Q:=by
 refine QN (by decide) rfl rfl ?_;rw [b75,c75];have v:=hs;unfold Uk at hs;obtain ⟨m,hm⟩:∃m:Nat,s.1=m:=⟨s.1.toNat,by omega⟩
 obtain ⟨k,hk⟩:∃k:Nat,s.2.1=k:=⟨s.2.1.toNat,by omega⟩
 have t:m<es.length:=by omega
 have l:k<es.length:=by omega
 have e0:=M9 (x:=s);have e1:=Yl (x:=s);have e2:=Nfu (x:=s);rw [hm] at e0;rw [hk] at e1;have f:∀X,AM.loadCells (H++X) ((Vs pe 7 m).add 0) 6=some (encN (gt es m)):=fun X=>(he.app X).loadSub NT (j:=0) (n:=6) t (by omega)
 have g:∀X,AM.loadCells (H++X) ((Vs pe 7 k).add 0) 6=some (encN (gt es k)):=fun X=>(he.app X).loadSub NT (j:=0) (n:=6) l (by omega)
 have d:=fun c (k:IntKind) (H1:NA)=>he.idx (c:=c) (k:=k) (H1:=H1) t
 have e:=fun c (k:IntKind) (H1:NA)=>he.idx (c:=c) (k:=k) (H1:=H1) l
 have a:Ru P L es s=if (gt es m).kind=4 then [⟨2,(k:Int),(m:Int),(gt es k).place,0⟩] else if s.2.2=80 then [⟨3,(k:Int),(m:Int),(gt es k).place,0⟩] else if 0<s.2.2 then [⟨4,(k:Int),(m:Int),(gt es k).place,s.2.2⟩]
   else if (gt es m).place≠(gt es k).place then SS P L es s else []:=by unfold Ru;rw [hm,hk,N1,N1]
 have o:=fun X (Q:Value->NA->Prop) (b:∀G p c',Chg [] (H++X) G->Sl G Tv 5 p (SS P L es s)->Q (.slice p (SS P L es s).length c') G)=>Nvq (lim:=lim) (ce:=ce) (cq:=cq) (cr:=cr) (nl:=nl) (cl:=cl) (cp:=cp) (cL:=cL) (nk:=nk) (ns:=ns) (q:=q) (r:=r) (pl:=pl) (c:=c) (hN.app X) (he.app X) v hn (by simp;omega) b
 by_cases h:(gt es m).kind=4
 ·rw [Nl h] at a;rw [a] at b;simp only [n75,VH,OL,Tn,UO,e0,e1,f,g,d,e,NI,hl,Nh h,SB,seval,NL,NH,NG,place,NB,NC];exact b _ _ _ Chg.refl.app (Sl.row (ro:=false) RF (by rw [NY];rfl))
 rw [Ng h] at a;by_cases h5:s.2.2=80
 ·rw [Nl h5] at a;rw [a] at b;simp only [n75,VH,OL,Tn,UO,e0,e1,e2,f,g,d,e,NI,hl,Nc h,Nh h5,SB,seval,NL,NH,NG,place,NB,NC];exact b _ _ _ Chg.refl.app (Sl.row (ro:=false) RF (by rw [NY];rfl))
 rw [Ng h5] at a;by_cases i:0<s.2.2
 ·rw [Nl i] at a;rw [a] at b;simp only [n75,VH,OL,Tn,UO,e0,e1,e2,f,g,d,e,NI,hl,Nc h,Nc h5,Nh i,Nc (show ¬H.length=H.length+3 by omega),not_false_eq_true,AM.loadX,SB,seval,NL,NH,NG,place,NB,NC];exact b _ _ _ Chg.refl.app (Sl.row (ro:=false) RF (by rw [NY];rfl))
 rw [Ng i] at a;by_cases u:(gt es m).place=(gt es k).place
 ·rw [Ng (by simpa using u)] at a;rw [a] at b;simp only [n75,VH,OL,Tn,UO,e0,e1,e2,f,g,d,e,NI,hl,Nc h,Nc h5,Nc i,Nh u,SB,seval,NL,NH,NG,place,NB,NC];exact b _ none 0 Chg.refl.app rfl
 rw [Nl u] at a;rw [a] at b;simp only [n75,Ur,VH,OL,Tn,UO,OU,e0,e1,e2,NK,f,g,d,e,NI,hl,Nc h,Nc h5,Nc i,Nc u,OG,SB,seval,NF,NL,NH,NG,place,NB];refine o _ _ fun G p c' w hS=>?_
 refine NJ ?_;simp only [n75,SB,seval,NL,NC];exact b _ p c' w.pre.app (hS.app _)
structure G38 (G1:NA) (B:Nat) (G:NA) (l:List An) (p:Option Addr) (cap:Nat):Prop where
 chg:Chg [B] G1 G
 cell:NE G B=Vc [.slice p l.length cap]
 own:Own G1.length G Tv 5 p cap l
theorem G38.grow {G2:NA} {p:Option Addr} (h:G38 G1 B G l p cap) (hc:Chg [] G G2):G38 G1 B G2 l p cap:=
 ⟨h.chg.trans' hc fun j b=>(by cases b),hc.cells h.cell (by simp),h.own.chg hc (fun a _=>by simp)⟩
theorem G38.add [OB] {lim q:Nat} {p n:Option Addr} {m:List An} (h:G38 G1 B G l p cap) (hs:Sl G Tv 5 n m) (j:lim<=B) (hB:B<G1.length) (hn:l.length+m.length<2 ^ 31)
  (t:∀G' e b,G.length<=G'.length->G38 G1 B G' (l++m) e b->Q (.tuple #[]) G') :
  NQ E false lim 73 [.slice n m.length q,Vp B] G Q:=by
 refine QN (by decide) rfl rfl ?_;rw [b73,c73];have f:=NM h.cell;have g:=h.chg.len;obtain ⟨G2,e,b,k1,k2,k3,k4,v⟩:=h.own.more (lim':=lim) (bytes:=40) (by omega) RF (by decide) m (by unfold OX;omega) (by omega) g [] (x:=.slice n m.length q) (str:=false) (SH (hs.app [])) rfl;have c:NE (G2++[]) B=Vc [.slice p l.length cap]:=by
  rw [k4 B f (fun a i=>by have:=(h.own.block i).1;omega)];exact h.cell
 rw [Na] at k2 c;have d:=k3 [B] G1 (Nf _) h.chg;rw [Na] at d;obtain ⟨r,e3,s,k⟩:=OO (NM c) (Vc [.slice e (l.length+m.length) b]);have u:=zc h.cell;have o:=zc c;simp only [n73,u,k1,o,e3,j,SB,seval,NF,NL,NH,RN,reduceCtorEq,NG,place,NB,NC];have ho:Own G1.length r Tv 5 e b (l++m):=k2.mut k fun a i=>by have:=(k2.block i).1;omega
 exact t _ e b (by rw [Na,k.len];omega) ⟨by rw [Na];exact d.mut k (.inl (by simp)),by rw [Na,s,Nk],by rw [Na];exact ho⟩
def Nr2:ACode->ACode
 | .block _ c=>c
 | c=>c
def Zx:ACode:=Nr2 (UF (QP (QP WJ)))
def N4l:ACode:=QP (QP (QP WJ))
def Nhe:ACode:=QP Zx
def Noz:ACode:=QP Nhe
def Ob1:ACode:=QP Noz
theorem N59:WJ=.seq (UF WJ) (.seq (UF (QP WJ)) (.seq (.block 1 (.seq (UF Zx) Nhe)) N4l)):=rfl
theorem N4k:Nhe=.seq (UF Nhe) Noz:=rfl
theorem N4j:Noz=.seq (UF Noz) Ob1:=rfl
structure D38 (lim B A T ce cq cr ct cp cL:Nat) (pe q r pt pp pL:Option Addr) (P:List Int) (L:List Leg) (es tw:List Ev) (ks:List Int) (ss:List Stp) (c:Int) (H0 G1:NA) (b4 b5:Nat):Prop where
 hev:Sl H0 encE 7 pe es
 hce:WU 7 ce es.length
 htw:Sl H0 encE 7 pt tw
 net:NetIn H0 pp pL P L
 h01:Chg [] H0 G1
 rep:NE G1 b4=Vc (Uo pe es.length ce q ks.length cq r ss.length cr c none 0 0)
 nv:NE G1 b5=Vc (netV pp P.length cp pL L.length cL)
 kp:NE G1 A=Vc ((Wz es.length ks).flatMap Nar)
 to:NE G1 T=Vc ((toN es.length ss).flatMap enc3)
 n4:b4≠B
 n5:b5≠B
 nA:A≠B
 nT:T≠B
 hB:H0.length<=B
 lB:lim<=H0.length
 lG:B<G1.length
 ne:es.length<=2000
 nt:tw.length<=2000
 te:TI es
 tt:TI tw
 so:∀s∈ss,Uk es.length s
 di:Na3 ss
structure FR38 (B A T ct n:Nat) (pt:Option Addr) (nt:Nat) (now:Int) (b4 b5:Nat) (fr:Nat->Value):Prop where
 f2:fr 2=.slice pt nt ct
 f3:fr 3=Vi now
 f4:fr 4=Vp b4
 f5:fr 5=Vp b5
 f9:fr 9=Vp B
 f10:fr 10=.func (.func 73) #[] #[Vp B]
 f11:fr 11=.slice (Sa A) n n
 f12:fr 12=.slice (Sa T) n n
section
variable {lim B A T ce cq cr ct cp cL b4 b5:Nat} {pe q r pt pp pL:Option Addr} {P:List Int} {L:List Leg} {es tw:List Ev} {ks:List Int} {ss:List Stp} {c now:Int} {H0 G1 G:NA} {fr:Nat->Value} {K:List AItem} {Z:Value->NA->Prop} {i cap:Nat} {p:Option Addr} {l:List An}
theorem D38.old (D:D38 lim B A T ce cq cr ct cp cL pe q r pt pp pL P L es tw ks ss c H0 G1 b4 b5) (h:G38 G1 B G l p cap):Chg [] H0 G:=D.h01.trans' h.chg fun j a hl=>by
 have:=D.hB;rw [Nq] at a;omega
theorem D38.rest [OB] (D:D38 lim B A T ce cq cr ct cp cL pe q r pt pp pL P L es tw ks ss c H0 G1 b4 b5) (h:G38 G1 B G l p cap) (F:FR38 B A T ct es.length pt tw.length now b4 b5 fr) (f13:fr 13=Vi i) (hi:i<es.length) (s:l.length<=1000000000)
  (m:∀fr' G' g b,G38 G1 B G' (l++R9 es tw i) g b->FR38 B A T ct es.length pt tw.length now b4 b5 fr'->fr' 22=fr 22->fr' 23=fr 23->fr' 24=fr 24->PT E a38 lim K fr' (G'++[]) Z) :
  PT E a38 lim (.code Ob1::K) fr G Z:=by
 have d:=D.old h;have v:=zc (h.chg.cells D.rep (by have:=D.n4;simpa using this));have k:=d.len;have o:=D.lB;have t:=D.ne;have u:=D.nt;unfold Ob1;refine NJ ?_;simp only [Noz,Nhe,Zx,Nr2,UF,QP,WJ,n38,F.f4,F.f10,F.f2,f13,v,Ur,NK,SB,seval,NF,NL,NH,RN,reduceCtorEq,NG,place,NB,NC];have n:(R9 es tw i).length<=tw.length:=by unfold R9;rw [Nz];exact Pn ..
 refine Nrs ((d.sl D.hev (fun a _ _ h=>(by cases h))).app _) D.hce ((d.sl D.htw (fun a _ _ h=>(by cases h))).app _) hi (by omega) (by omega) (by simp;omega) D.te D.tt fun G2 x w e f=>?_
 have h2:=h.grow e.pre;refine NJ ?_;simp only [n38,SB,seval,NF,NL,NH,RN,reduceCtorEq,NG,place,NB,NC];rw [Na];refine h2.add f (by have:=D.hB;omega) D.lG (by omega) fun G' g b hl j=>?_
 refine NJ ?_;simp only [n38,SB,seval,NF,NL,NH,RN,reduceCtorEq,NG,place,NB,NC];exact m _ _ _ _ j ⟨(by simp only [F.f2,ne_eq,FB,Nat.reduceEqDiff]),(by simp only [F.f3,ne_eq,FB,Nat.reduceEqDiff]),(by simp only [F.f4,ne_eq,FB,Nat.reduceEqDiff]),(by simp only [F.f5,ne_eq,FB,Nat.reduceEqDiff]),(by simp only [F.f9,ne_eq,FB,Nat.reduceEqDiff]),(by simp only [F.f10,ne_eq,FB,Nat.reduceEqDiff]),(by simp only [F.f11,ne_eq,FB,Nat.reduceEqDiff]),(by simp only [F.f12,ne_eq,FB,Nat.reduceEqDiff])⟩ rfl rfl rfl
noncomputable def YM (P:List Int) (L:List Leg) (es:List Ev) (ss:List Stp) (i:Nat):List An:=if (gt (toN es.length ss) i).1<(gt (toN es.length ss) i).2.1 then Ru P L es (gt (toN es.length ss) i) else []
def Nd2 (es:List Ev) (ks:List Int) (i:Nat):List An:=if gt (Wz es.length ks) i then [] else [⟨1,(i:Int),0,(gt es i).place,0⟩]
theorem D38.mid [OB] (D:D38 lim B A T ce cq cr ct cp cL pe q r pt pp pL P L es tw ks ss c H0 G1 b4 b5) (h:G38 G1 B G l p cap) (F:FR38 B A T ct es.length pt tw.length now b4 b5 fr) (f13:fr 13=Vi i) (hi:i<es.length) (f:l.length+(YM P L es ss i).length<=1000000000)
  (g:∀fr' G' n d,G38 G1 B G' (l++(YM P L es ss i++R9 es tw i)) n d->FR38 B A T ct es.length pt tw.length now b4 b5 fr'->fr' 22=fr 22->fr' 23=fr 23->fr' 24=fr 24->PT E a38 lim K fr' (G'++[]) Z) :
  PT E a38 lim (.code Noz::K) fr G Z:=by
 have o:=D.old h;have I:=zc (h.chg.cells D.rep (by have:=D.n4;simpa using this));have H:=zc (h.chg.cells D.nv (by have:=D.n5;simpa using this));have N:=h.chg.cells D.to (by have:=D.nT;simpa using this);have M:=o.len;have Q:=D.lB;have R:=D.ne;have S:=D.nt;have sT:Sl G enc3 3 (Sa T) (toN es.length ss):=Sl.row OU N;have e:i<(toN es.length ss).length:=by rw [Nsq];exact hi
 have v:=fun c (k:IntKind) (H1:NA)=>sT.idx (c:=c) (k:=k) (H1:=H1) e
 rw [Nsq] at v;have C:=fun X=>(sT.app X).loadCells OU e
 have y:∀X,AM.loadCell (G++X) ((Vs (Sa T) 3 i).add 0)=some (Vi (gt (toN es.length ss) i).1):=fun X=>(sT.app X).loadCell (j:=0) OU e (by omega)
 have z:∀X,AM.loadCell (G++X) ((Vs (Sa T) 3 i).add 1)=some (Vi (gt (toN es.length ss) i).2.1):=fun X=>(sT.app X).loadCell (j:=1) OU e (by omega)
 have m:=fun h=>(N4u D.so D.di hi h).1
 rw [N4j];refine NJ ?_;unfold YM at g f;generalize gt (toN es.length ss) i=s at *;by_cases h1:s.1<s.2.1
 ·rw [Nl h1] at g f;simp only [Noz,Nhe,Zx,Nr2,UF,QP,WJ,n38,F.f4,F.f5,F.f10,F.f12,f13,I,H,Ur,OG,OU,NK,v,C,y,z,Nh h1,SB,seval,NF,NL,NH,RN,reduceCtorEq,NG,place,NB,NC];refine Nva ((D.net.sim fun b ro x O=>o.cells O (by simp)).app _) ((o.sl D.hev (fun a _ _ h=>(by cases h))).app _) (D.so _ (m h1)) (by omega) (by simp;omega) fun G2 V U t u=>?_
  have h2:=h.grow t.pre;refine NJ ?_;simp only [n38,SB,seval,NF,NL,NH,RN,reduceCtorEq,NG,place,NB,NC];rw [Na];refine h2.add u (by have:=D.hB;omega) D.lG (by omega) fun G' n d hl J=>?_
  refine NJ ?_;simp only [n38,SB,seval,NF,NL,NH,RN,reduceCtorEq,NG,place,NB,NC];rw [Na];refine D.rest (now:=now) J ⟨(by simp only [F.f2,ne_eq,FB,Nat.reduceEqDiff]),(by simp only [F.f3,ne_eq,FB,Nat.reduceEqDiff]),(by simp only [F.f4,ne_eq,FB,Nat.reduceEqDiff]),(by simp only [F.f5,ne_eq,FB,Nat.reduceEqDiff]),(by simp only [F.f9,ne_eq,FB,Nat.reduceEqDiff]),(by simp only [F.f10,ne_eq,FB,Nat.reduceEqDiff]),(by simp only [F.f11,ne_eq,FB,Nat.reduceEqDiff]),(by simp only [F.f12,ne_eq,FB,Nat.reduceEqDiff])⟩ f13 hi (by rw [Nk];omega) fun fr' G' n d k1 k2 k3 k4 w=>?_
  rw [No] at k1;exact g _ _ _ _ k1 k2 (k3.trans rfl) (k4.trans rfl) (w.trans rfl)
 ·rw [Ng h1] at g f;rw [Og] at g;simp only [Noz,Nhe,Zx,Nr2,UF,QP,WJ,n38,F.f4,F.f5,F.f10,F.f12,f13,I,H,Ur,OG,OU,NK,v,C,y,z,Nc h1,SB,seval,NF,NL,NH,RN,reduceCtorEq,NG,place,NB,NC];rw [Na];refine D.rest (now:=now) h ⟨(by simp only [F.f2,ne_eq,FB,Nat.reduceEqDiff]),(by simp only [F.f3,ne_eq,FB,Nat.reduceEqDiff]),(by simp only [F.f4,ne_eq,FB,Nat.reduceEqDiff]),(by simp only [F.f5,ne_eq,FB,Nat.reduceEqDiff]),(by simp only [F.f9,ne_eq,FB,Nat.reduceEqDiff]),(by simp only [F.f10,ne_eq,FB,Nat.reduceEqDiff]),(by simp only [F.f11,ne_eq,FB,Nat.reduceEqDiff]),(by simp only [F.f12,ne_eq,FB,Nat.reduceEqDiff])⟩ f13 hi (by simpa using f) fun fr' G' n d k1 k2 k3 k4 w=>?_
  exact g _ _ _ _ k1 k2 (k3.trans rfl) (k4.trans rfl) (w.trans rfl)
theorem D38.first [OB] {e:Nat} (D:D38 lim B A T ce cq cr ct cp cL pe q r pt pp pL P L es tw ks ss c H0 G1 b4 b5) (h:G38 G1 B G l p cap) (F:FR38 B A T ct es.length pt tw.length now b4 b5 fr) (f13:fr 13=Vi i) (f14:fr 14=Vp e) (o:NE G e=Vc (encE (gt es i))) (hi:i<es.length) (H:l.length+(1+(YM P L es ss i).length)<=1000000000)
  (d:∀fr' G' n a,G38 G1 B G' (l++atN P L es tw ks ss i) n a->FR38 B A T ct es.length pt tw.length now b4 b5 fr'->fr' 22=fr 22->fr' 23=fr 23->fr' 24=fr 24->PT E a38 lim K fr' (G'++[]) Z) :
  PT E a38 lim (.code Nhe::K) fr G Z:=by
 have v:atN P L es tw ks ss i=Nd2 es ks i++(YM P L es ss i++R9 es tw i):=rfl;rw [v] at d;have x:=D.old h;have z:=h.chg.cells D.kp (by have:=D.nA;simpa using this);have y:=x.len;have C:=D.lB;have I:=D.ne;have J:=D.nt;have sK:Sl G Nar 1 (Sa A) (Wz es.length ks):=Sl.row ZJ z;have f:i<(Wz es.length ks).length:=by rw [Nif];exact hi
 have s:=fun c (k:IntKind) (H1:NA)=>sK.idx (c:=c) (k:=k) (H1:=H1) f
 rw [Nif] at s;have u:∀X,AM.loadCell (G++X) (Vs (Sa A) 1 i)=some (.bool (gt (Wz es.length ks) i)):=fun X=>by
  have:=(sK.app X).loadCell (j:=0) ZJ f (by omega)
  rwa [show (Vs (Sa A) 1 i).add 0=Vs (Sa A) 1 i from by simp only [Vs,addrOf,Pj,addr_add,Pd]] at this
 have g:=zc o;rw [N4k];refine NJ ?_;unfold Nd2 at d;generalize gt (Wz es.length ks) i=b at *;cases b with
 | true=>
   simp only [Nhe,Zx,Nr2,UF,QP,WJ,n38,F.f10,F.f11,f13,f14,g,NT,VP,QU,Nro,QY,Nrn,Nrm,QX,NK,s,u,SB,seval,NF,NL,NH,RN,reduceCtorEq,NG,place,NB,NC];rw [Nl rfl,Og] at d;rw [Na];exact D.mid (now:=now) h ⟨(by simp only [F.f2,ne_eq,FB,Nat.reduceEqDiff]),(by simp only [F.f3,ne_eq,FB,Nat.reduceEqDiff]),(by simp only [F.f4,ne_eq,FB,Nat.reduceEqDiff]),(by simp only [F.f5,ne_eq,FB,Nat.reduceEqDiff]),(by simp only [F.f9,ne_eq,FB,Nat.reduceEqDiff]),(by simp only [F.f10,ne_eq,FB,Nat.reduceEqDiff]),(by simp only [F.f11,ne_eq,FB,Nat.reduceEqDiff]),(by simp only [F.f12,ne_eq,FB,Nat.reduceEqDiff])⟩ f13 hi (by omega) fun fr' G' n a k1 k2 k3 k4 t=>d _ _ _ _ k1 k2 (k3.trans rfl) (k4.trans rfl) (t.trans rfl)
 | false=>
   simp only [Nhe,Zx,Nr2,UF,QP,WJ,n38,F.f10,F.f11,f13,f14,g,NT,VP,QU,Nro,QY,Nrn,Nrm,QX,NK,s,u,SB,seval,NF,NL,NH,RN,reduceCtorEq,NG,place,NB,NC];rw [Ng (by simp)] at d;refine (h.grow (G2:=G++[Vc (Tv ⟨1,(i:Int),0,(gt es i).place,0⟩)]) Chg.refl.app).add (lim:=lim) (m:=[⟨1,(i:Int),0,(gt es i).place,0⟩]) (Sl.row (ro:=false) RF (by rw [NN];rfl)) (by have:=D.hB;omega) D.lG (by simp;omega) fun G' n a hl w=>?_
   refine NJ ?_;simp only [n38,SB,seval,NF,NL,NH,RN,reduceCtorEq,NG,place,NB,NC];rw [Na];refine D.mid (now:=now) w ⟨(by simp only [F.f2,ne_eq,FB,Nat.reduceEqDiff]),(by simp only [F.f3,ne_eq,FB,Nat.reduceEqDiff]),(by simp only [F.f4,ne_eq,FB,Nat.reduceEqDiff]),(by simp only [F.f5,ne_eq,FB,Nat.reduceEqDiff]),(by simp only [F.f9,ne_eq,FB,Nat.reduceEqDiff]),(by simp only [F.f10,ne_eq,FB,Nat.reduceEqDiff]),(by simp only [F.f11,ne_eq,FB,Nat.reduceEqDiff]),(by simp only [F.f12,ne_eq,FB,Nat.reduceEqDiff])⟩ f13 hi (by rw [Nk,P0];omega) fun fr' G' n a k1 k2 k3 k4 t=>?_
   rw [No] at k1;exact d _ _ _ _ k1 k2 (k3.trans rfl) (k4.trans rfl) (t.trans rfl)
end
theorem Nqj {m:List Int}:∀{l:List Int},l.Nodup->(∀x∈l,x∈m)->l.length<=m.length:=by
 induction m with
 | nil=>intro l _ h;cases l with
   | nil=>simp
   | cons x l=>exact absurd (h x Nu) O8
 | cons a m ih=>
   intro l hn h;have h1:=ih (l:=l.erase a) (hn.erase a) fun x b=>by
    have h2:=(hn.mem_erase_iff).1 b;exact ((Ns.1 (h x h2.2)).resolve_left h2.1)
   have c:l.length<=(l.erase a).length+1:=by rw [List.length_erase];split<;>omega
   simp only [Nm];omega
theorem Nxx {p q t:Int}:(WW P L p q t).length<=50:=by
 by_cases h:∃w,Won P L p q t w
 ·obtain ⟨w,b⟩:=h;rw [YG b];obtain ⟨he,v,e,i,a⟩:=b;obtain ⟨h1,hp,f,g,_⟩:=VN he;have hn:=RS h1;have:=Nqj (m:=P) (a.way.nodup hn.fine a.few) fun x hx=>by
   rcases Ns.1 hx with rfl | hx
   ·exact hp
   ·obtain ⟨y,d,rfl⟩:=List.mem_map.1 hx;exact hn.dst _ (a.way.mem y d)
  have c:=(Sg h1).1;simp at this;omega
 ·unfold WW;rw [dif_neg h];simp
theorem Nmh {s:Stp}:(Ru P L es s).length<=50:=by
 unfold Ru;simp only;have hm:(SS P L es s).length<=50:=by
  unfold SS;rw [Nz,List.length_dropLast];have:=Nxx (P:=P) (L:=L) (p:=(gt es s.1.toNat).place) (q:=(gt es s.2.1.toNat).place) (t:=(gt es s.1.toNat).time);omega
 repeat' split
 all_goals first | exact hm | simp
theorem Nd6 {i:Nat}:(YM P L es ss i).length<=50:=by
 unfold YM;split
 ·exact Nmh
 ·simp
theorem N7b {i:Nat}:(atN P L es tw ks ss i).length<=51+tw.length:=by
 have e:atN P L es tw ks ss i=Nd2 es ks i++(YM P L es ss i++R9 es tw i):=rfl;have h1:(Nd2 es ks i).length<=1:=by unfold Nd2;split<;>simp
 have h2:=Nd6 (P:=P) (L:=L) (es:=es) (ss:=ss) (i:=i);have a:(R9 es tw i).length<=tw.length:=by unfold R9;rw [Nz];exact Pn ..
 rw [e,Nk,Nk];omega
theorem Nhw {m:Nat}:Ngy P L es tw ks ss (m+1)=Ngy P L es tw ks ss m++atN P L es tw ks ss m:=by
 unfold Ngy;rw [Qg,Pi,Ol,Rp,Na]
theorem Naa {P:List Int} {L:List Leg} {es tw:List Ev} {ks:List Int} {ss:List Stp}:∀m,(Ngy P L es tw ks ss m).length<=m*(51+tw.length)
 | 0=>by simp [Ngy]
 | m+1=>by
   have h:=Naa (P:=P) (L:=L) (es:=es) (tw:=tw) (ks:=ks) (ss:=ss) m;have h2:=N7b (P:=P) (L:=L) (es:=es) (tw:=tw) (ks:=ks) (ss:=ss) (i:=m);rw [Nhw,Nk,Pw];omega
theorem Nvv [OB] {lim:Nat} {q:Option Addr} (hev:Sl H encE 7 pe es) (hce:WU 7 ce es.length) (htw:Sl H encE 7 pt tw) (u:NetIn H pp pL P L) (Y:Sl H encI 1 q ks) (hr:Sl H enc3 3 r ss) (hl:lim<=H.length)
  (ne:es.length<=2000) (nt:tw.length<=2000) (te:TI es) (tt:TI tw) (so:∀s∈ss,Uk es.length s) (di:Na3 ss) (hk:∀k∈ks,0<=k/\k<es.length) (t:ks.length<2 ^ 40) (M:ss.length<2 ^ 40) (v:0<=now/\now<=NV)
  (hQ:∀G p c',Chg [] H G->Own H.length G Tv 5 p c' (SX P L es tw ks ss now)->Q (.slice p (SX P L es tw ks ss now).length c') G) :
  NQ E false lim 38 [.agg (Uo pe es.length ce q ks.length cq r ss.length cr c none 0 0).toArray,.agg (netV pp P.length cp pL L.length cL).toArray,.slice pt tw.length ct,Vi now] H Q:=by
 refine QN (by decide) rfl rfl ?_;rw [b38,c38];simp only [n38,Ur,OG,NK,SB,seval,NF,NL,NH,RN,reduceCtorEq,NG,place,NB,NC];refine Npb (lim:=lim) (Y.app _) (hr.app _) (by omega) t M (by simp;omega) hk so fun G1 A T b hA hT kA kT=>?_
 have I:=b.len;simp at I hA hT;have hB:=b.cells (NY (X:=[Vc (Uo pe es.length ce q ks.length cq r ss.length cr c none 0 0),Vc (netV pp P.length cp pL L.length cL),Vc [Vz]]) (j:=2)) (by simp);have D:D38 lim (H.length+2) A T ce cq cr ct cp cL pe q r pt pp pL P L es tw ks ss c H G1 H.length (H.length+1):=⟨hev,hce,htw,u,b.pre,b.cells (NN (X:=[Vc (Uo pe es.length ce q ks.length cq r ss.length cr c none 0 0),Vc (netV pp P.length cp pL L.length cL),Vc [Vz]])) (by simp),b.cells (NY (X:=[Vc (Uo pe es.length ce q ks.length cq r ss.length cr c none 0 0),Vc (netV pp P.length cp pL L.length cL),Vc [Vz]]) (j:=1)) (by simp),kA,kT,by omega,by omega,by omega,by omega,by omega,hl,by omega,ne,nt,te,tt,so,di⟩
 have xR:=zc D.rep;refine NJ ?_;simp only [n38,xR,VH,SB,seval,NF,NL,NH,RN,reduceCtorEq,NG,place,NB,NC];have C:G38 G1 (H.length+2) G1 [] none 0:=⟨Chg.refl,hB,.nil⟩
 refine NP (fun j:Nat×Option Addr×Nat=>es.length-j.1) (fun j fr G=>j.1<=es.length/\FR38 (H.length+2) A T ct es.length pt tw.length now H.length (H.length+1) fr/\fr 22=.slice pe es.length ce/\fr 23=Vi es.length/\fr 24=Vi j.1/\G38 G1 (H.length+2) G (Ngy P L es tw ks ss j.1) j.2.1 j.2.2) (0,none,0)
  ⟨Np _,⟨rfl,rfl,rfl,rfl,rfl,rfl,rfl,rfl⟩,rfl,rfl,by rfl,C.grow Chg.refl.app⟩ ?_
 rintro ⟨i,p,cap⟩ fr G ⟨hi,F,g,l,e,n⟩ hN;simp only at hi e n hN;rw [NU N59];refine NJ ?_;have x:=D.old n;have W:=x.len;by_cases d:i<es.length
 case neg=>
  obtain rfl:i=es.length:=by omega
  have U:=zc (n.chg.cells D.rep (by simp));simp only [UF,QP,WJ,n38,F.f4,F.f10,F.f9,F.f3,g,l,e,ND,d,U,Ur,NK,SB,seval,NF,NL,NH,RN,reduceCtorEq,NG,place,NB,NC];have m:=Naa (P:=P) (L:=L) (es:=es) (tw:=tw) (ks:=ks) (ss:=ss) es.length;have B:(Ngy P L es tw ks ss es.length).length<=2000*2051:=Pt m (Nat.mul_le_mul (by omega) (by omega));have ab:(UX es ks now).length<=1:=by
   rcases Ne7 (es:=es) (ks:=ks) (now:=now) with h | ⟨k,_,h,_⟩<;>rw [h]<;>simp
  have V:SX P L es tw ks ss now=Ngy P L es tw ks ss es.length++UX es ks now:=rfl;refine N53 ((x.sl hev (fun a _ _ h=>(by cases h))).app _) ((x.sl Y (fun a _ _ h=>(by cases h))).app _) (by omega) t (by simp;omega) hk te v fun G2 px cx y z=>?_
  have h2:=n.grow y.pre;refine NJ ?_;simp only [n38,SB,seval,NF,NL,NH,RN,reduceCtorEq,NG,place,NB,NC];rw [Na];refine h2.add (lim:=lim) z (by omega) D.lG (by omega) fun G' Z f aa w=>?_
  have xB:=zc w.cell;refine NJ ?_;simp only [n38,F.f9,xB,SB,seval,NF,NL,NH,RN,reduceCtorEq,NG,place,NB,NC];rw [<-Nk,<-V];rw [<-V] at w;exact hQ _ _ _ (D.old w).app ((w.own.le (by omega)).app _)
 have sE:=x.sl hev (fun a _ _ h=>(by cases h));have K:=fun X=>(sE.app X).loadCells NT d
 have o:=fun c (k:IntKind) (H1:NA)=>sE.idx (c:=c) (k:=k) (H1:=H1) d
 have N:IntKind.i64.wrap ((i:Int)+1)=((i+1:Nat):Int):=OC (by omega);have J:lim<=G.length:=by omega
 have m:=Naa (P:=P) (L:=L) (es:=es) (tw:=tw) (ks:=ks) (ss:=ss) i;have ad:=Nd6 (P:=P) (L:=L) (es:=es) (ss:=ss) (i:=i);have B:(Ngy P L es tw ks ss i).length<=2000*2051:=Pt m (Nat.mul_le_mul (by omega) (by omega));simp only [UF,QP,WJ,Zx,Nr2,n38,g,l,e,ND,d,K,o,J,NT,NK,NI,SB,seval,NF,NL,NH,RN,reduceCtorEq,NG,place,NB,NC];refine D.first (now:=now) (i:=i) (n.grow (G2:=G++[Vc (encE (gt es i))]) Chg.refl.app) ⟨(by simp only [F.f2,ne_eq,FB,Nat.reduceEqDiff]),(by simp only [F.f3,ne_eq,FB,Nat.reduceEqDiff]),(by simp only [F.f4,ne_eq,FB,Nat.reduceEqDiff]),(by simp only [F.f5,ne_eq,FB,Nat.reduceEqDiff]),(by simp only [F.f9,ne_eq,FB,Nat.reduceEqDiff]),(by simp only [F.f10,ne_eq,FB,Nat.reduceEqDiff]),(by simp only [F.f11,ne_eq,FB,Nat.reduceEqDiff]),(by simp only [F.f12,ne_eq,FB,Nat.reduceEqDiff])⟩ rfl rfl NN d (by omega) fun fr' G' Z f k1 k2 k3 k4 k5=>?_
 rw [<-Nhw] at k1;have S:fr' 24=Vi i:=k5.trans e;have O:fr' 22=.slice pe es.length ce:=k3.trans g;have R:fr' 23=Vi es.length:=k4.trans l;unfold N4l;simp only [QP,WJ,n38,S,N,SB,seval,NF,NL,NH,RN,reduceCtorEq,NG,place,NB,NC];exact hN (i+1,Z,f) _ _ ⟨by omega,⟨(by simp only [k2.f2,ne_eq,FB,Nat.reduceEqDiff]),(by simp only [k2.f3,ne_eq,FB,Nat.reduceEqDiff]),(by simp only [k2.f4,ne_eq,FB,Nat.reduceEqDiff]),(by simp only [k2.f5,ne_eq,FB,Nat.reduceEqDiff]),(by simp only [k2.f9,ne_eq,FB,Nat.reduceEqDiff]),(by simp only [k2.f10,ne_eq,FB,Nat.reduceEqDiff]),(by simp only [k2.f11,ne_eq,FB,Nat.reduceEqDiff]),(by simp only [k2.f12,ne_eq,FB,Nat.reduceEqDiff])⟩,O,R,rfl,k1.grow Chg.refl.app⟩ (by simp only;omega)
end Go.Proofs.YtkppjkkkdpcgiaaGreat.Fn



namespace Go.Proofs.YtkppjkkkdpcgiaaGreat.Fn
open Go.AM Go.AM.Sym Go.Scan
theorem Nzo [OB] {lim c:Nat} {p:Option Addr} {K:List Ev} {item:Int} {H:NA} {Q:Value->NA->Prop} (hs:Sl H encE 7 p K) (hn:K.length<4000) (hl:lim<=H.length)
  (N:∀G z,NE G H.length=Vc ((Sz K item).flatMap encE++z)->Chg [] H G->Q (.slice (Sa H.length) (Sz K item).length K.length) (G++[])) :
  NQ E false lim 28 [.slice p K.length c,Vi item] H Q:=by
 refine QN (by decide) rfl rfl ?_;rw [b28,c28];have F:(K.length:Int)*56<=2 ^ 45:=by omega
 have I:(K.length:Int)<2 ^ 62:=by omega
 have J:(0:Int)<=(K.length:Int):=by omega
 simp only [n28,F,I,J,N1,Q3,SB,Nat.reduceLT,NL,reduceCtorEq,NG,place,Nat.reduceAdd,Int.reduceLE];refine NP (fun i=>K.length-i) (fun i fr G=>i<=K.length/\fr 1=Vi item/\fr 5=.slice (Sa H.length) (Sz (K.take i) item).length K.length/\fr 11=.slice p K.length c/\fr 12=Vi K.length/\fr 13=Vi i/\
   (∃z,z.length=(K.length-(Sz (K.take i) item).length)*7/\NE G H.length=Vc ((Sz (K.take i) item).flatMap encE++z))/\Chg [] H G) 0
  ⟨Np _,rfl,(by simp only [P2,Sz,List.filter_nil,Nn,FB,Nat.reduceEqDiff]),rfl,rfl,by rfl,⟨(List.range (K.length*7)).map fun j=>[Value.int .i64 0,Vi 0,Vi 0,.int .u8 0,Vi 0,Vi 0,Vi 0].getD (j % 7) undef,by simp [Sz],by rw [NN,P2];rfl⟩,Chg.refl.app⟩ ?_
 rintro i fr G ⟨hi,v,w,g,e,n,⟨z,D,A⟩,y⟩ hN;rw [NU N82.eq_1];refine NJ ?_;have M:=y.len;have s:=NM A;by_cases d:i<K.length
 ·have sK:=y.sl hs (fun a _ _ h=>(by cases h));have t:=fun X=>(sK.app X).loadCells NT d
  have l:=fun c (k:IntKind) (H1:NA)=>sK.idx (c:=c) (k:=k) (H1:=H1) d
  have u:IntKind.i64.wrap ((i:Int)+1)=((i+1:Nat):Int):=OC (by omega);have P:(Sz (K.take i) item).length<=i:=by
   unfold Sz;refine Pt (Pn ..) ?_;rw [N5];omega
  have f:Sz (K.take (i+1)) item=if (item == 0||(gt K i).item == item)=true then Sz (K.take i) item++[gt K i] else Sz (K.take i) item:=by
   unfold Sz;rw [Nv d,List.filter_append,OQ d];by_cases h:(item == 0||K[i].item == item)=true
   ·rw [Nl h];simp only [List.filter_cons,h,if_true,List.filter_nil]
   ·rw [Ng h];simp only [List.filter_cons,h,if_false,List.filter_nil,Na,N3]
  generalize T:gt K i=x at *;generalize Sz (K.take i) item=O at *;have m:lim<=G.length:=by omega
  have C:(item == 0||x.item == item)=true->∃G3,OP lim none 7 56 false (.slice (Sa H.length) O.length K.length) (.slice (Sa (G.length+1)) 1 1) (G++[Vc (encE x),Vc (encE x)])=some (.slice (Sa H.length) (O.length+1) K.length,G3++[Vc (encE x),Vc (encE x)])/\
    NE G3 H.length=Vc ((Sz (K.take (i+1)) item).flatMap encE++z.drop 7)/\(Sz (K.take (i+1)) item).length=O.length+1/\Chg [] H G3:=fun h=>by
   rw [Nl h] at f;obtain ⟨G3,e3,q,S⟩:=OO (G:=G) (R:=H.length) s (Vc ((O++[x]).flatMap encE++z.drop 7));have o:=Yx (lim:=lim) (R:=H.length) (bytes:=56) (cap:=K.length) (k:=1) (b:=G.length+1) (dest:=none) (H:=G++[Vc (encE x),Vc (encE x)]) (enc:=encE) (old:=O) (x:=x) (ro:=false) (rest:=z) NT (by decide)
    (by rw [NY];rfl) (by rw [NS s];exact A) hl (by omega) D (by omega) (by unfold OX;omega)
   rw [e3] at o;exact ⟨G3,o,by rw [f];exact q,by rw [f];simp,y.mut S (.inr (Nf _))⟩
  by_cases c1:item=0
  ·obtain ⟨G3,e3,q,B,r⟩:=C (by simp [c1]);simp only [n28,v,w,g,e,n,ND,d,l,t,NT,NK,NI,u,m,Nh c1,e3,SB,Nat.reduceLT,NL,Nat.reduceEqDiff,NH,place,NB,Nat.reduceAdd];exact hN (i+1) _ _ ⟨by omega,v,(by simp only [B,ne_eq,FB,Nat.reduceEqDiff]),g,e,rfl,⟨z.drop 7,by rw [O2,D,B];omega,by rw [NS (NM q)];exact q⟩,r.app⟩ (by omega)
  by_cases c2:x.item=item
  ·obtain ⟨G3,e3,q,B,r⟩:=C (by simp [c2]);simp only [n28,v,w,g,e,n,ND,d,l,t,NT,VP,NK,NI,u,m,Nc c1,Nh c2,e3,SB,Nat.reduceLT,NL,Nat.reduceEqDiff,NH,place,NB,Nat.reduceAdd];exact hN (i+1) _ _ ⟨by omega,v,(by simp only [B,ne_eq,FB,Nat.reduceEqDiff]),g,e,rfl,⟨z.drop 7,by rw [O2,D,B];omega,by rw [NS (NM q)];exact q⟩,r.app⟩ (by omega)
  ·have L:¬(item == 0||x.item == item)=true:=by simp [c1,c2]
   rw [Ng L] at f;simp only [n28,v,g,e,n,ND,d,l,t,NT,VP,NI,u,m,Nc c1,Nc c2,SB,Nat.reduceLT,NL,Nat.reduceEqDiff,NH,place,NB,Nat.reduceAdd];exact hN (i+1) _ _ ⟨by omega,v,(by simp only [w,f,FB,Nat.reduceEqDiff]),g,e,rfl,⟨z,by rw [f];exact D,by rw [NS s,f];exact A⟩,y.app⟩ (by omega)
 ·obtain rfl:i=K.length:=by omega
  rw [N9] at w A;simp only [n28,w,e,n,ND,d,SB,Nat.reduceLT,NL,Nat.reduceEqDiff,NH,NC];exact N G z A y
end Go.Proofs.YtkppjkkkdpcgiaaGreat.Fn



namespace Go.Scan
theorem Nhi (S:List Ev):OH (S.map bare)=OH S:=by
 have h1:Vo (S.map bare)=Vo S:=by unfold Vo;rw [List.foldl_map];rfl
 have h2:QZ (S.map bare)=QZ S:=by unfold QZ;rw [h1]
 have a:∀M,RP M (S.map bare)=RP M S:=fun M=>by unfold RP;rw [List.map_map];rfl
 unfold OH;rw [h2,a]
theorem Nek {S:List Ev}:QK (S.map bare)↔QK S:=by
 unfold QK;rw [Nz];exact and_congr Iff.rfl ⟨fun h s hs=>(h (bare s) (List.mem_map.2 ⟨s,hs,rfl⟩):RA (bare s)),fun h s hs=>by
  obtain ⟨x,a,rfl⟩:=List.mem_map.1 hs;exact h x a⟩
end Go.Scan
namespace Go.Proofs.YtkppjkkkdpcgiaaGreat.Fn
open Go.AM Go.AM.Sym Go.Scan
variable {S S':List Ev} {c n:Nat} {Q:Value->NA->Prop} {g:FuncId} {H:NA} {a:Bool}
def effL (n:Nat) (L:List Ev):Value×List (List Value):=if L=[] then (.tuple #[Vz,Vi 0],[]) else (.tuple #[.slice (Sa n) L.length (loose 7),Vi 0],[L.flatMap encE])
def effR (a:Bool) (n:Nat) (S:List Ev):Value×List (List Value):=if QK S then effL n (if a then (OH S).1 else (OH S).2) else (.tuple #[Vz,Vi 2],[])
theorem Nwo (h:S.map bare=S'.map bare):effR a n S=effR a n S':=by
 have h1:OH S=OH S':=by rw [<-Nhi S,<-Nhi S',h]
 have h2:QK S↔QK S':=by rw [<-Nek,<-Nek (S:=S'),h]
 unfold effR;rw [h1];by_cases b:QK S
 ·rw [Nl b,Nl (h2.1 b)]
 ·rw [Ng b,Ng fun h=>b (h2.2 h)]
theorem Nwl {x y:Ev} (h:encN x=encN y):bare x=bare y:=by
 obtain ⟨a,b,c,d,e,f,g⟩:=x;obtain ⟨a',b',c',i,j,k,l⟩:=y;simp only [encN,List.cons.injEq,Value.int.injEq,Rh,and_true] at h;obtain ⟨rfl,rfl,rfl,rfl,rfl,rfl⟩:=h;rfl
theorem Nio:∀{S S':List Ev},S.length=S'.length->S.flatMap encN=S'.flatMap encN->S.map bare=S'.map bare
 | [],[],_,_=>rfl
 | [],_::_,h,_=>by cases h
 | _::_,[],h,_=>by cases h
 | x::S,y::S',h,e=>by
   rw [Ol,Ol] at e;obtain ⟨e1,e2⟩:=List.append_inj e rfl;rw [Oj,Oj,Nwl e1,Nio (by simpa using h) e2]
theorem N41 {p:Option Addr} (hl:S.length=S'.length) (h:Sl H encN 6 p S) (h':Sl H encN 6 p S'):S.map bare=S'.map bare:=by
 cases p with
 | none=>
   have e1:S=[]:=h;have e2:S'=[]:=h';rw [e1,e2]
 | some a=>
   by_cases b:S=[]
   ·subst b;cases S' with
    | nil=>rfl
    | cons _ _=>cases hl
   have d:S'≠[]:=fun e=>b (List.length_eq_zero_iff.1 (by rw [hl,e];rfl))
   obtain ⟨ro,c,k1,_,k3⟩:=h.2 b;obtain ⟨i,c',f,_,g⟩:=h'.2 d;rw [k1] at f;cases f;exact Nio hl (k3.symm.trans (by rw [hl];exact g))
open Classical in
noncomputable def effO (g:FuncId) (as:List Value) (H:NA):Option (Value×List (List Value)):=
 if g=36\/g=27 then match as with
  | [.slice p n c]=>if h:∃S:List Ev,S.length=n/\n<2 ^ 63/\Sl H encN 6 p S then some (effR (decide (g=36)) H.length h.choose) else none
  | _=>none
 else none
theorem effO_no (g:FuncId) (as:List Value) (H:NA) (h1:g≠36) (h2:g≠27):effO g as H=none:=by
 unfold effO;exact Ng (by rintro (h | h);exact h1 h;exact h2 h)
theorem N2u (a:g=36\/g=27) {p:Option Addr} (hs:Sl H encN 6 p S) (hn:S.length<2 ^ 63):effO g [.slice p S.length c] H=some (effR (decide (g=36)) H.length S):=by
 have hex:∃S':List Ev,S'.length=S.length/\S.length<2 ^ 63/\Sl H encN 6 p S':=⟨S,rfl,hn,hs⟩
 unfold effO;rw [Nl a];simp only;rw [dif_pos hex];obtain ⟨k1,_,k3⟩:=hex.choose_spec;rw [Nwo (N41 k1 k3 hs)]
theorem effO_some {as:List Value} {r} (h:effO g as H=some r):(g=36\/g=27)/\∃p c S,as=[.slice p S.length c]/\S.length<2 ^ 63/\Sl H encN 6 p S/\r=effR (decide (g=36)) H.length S:=by
 unfold effO at h;split at h
 case isFalse=>cases h
 rename_i a;refine ⟨a, ?_⟩;split at h
 ·rename_i p n c;split at h
  ·rename_i hex;obtain ⟨k1,k2,k3⟩:=hex.choose_spec;simp only [Option.some.injEq] at h;exact ⟨p,c,hex.choose,by rw [k1],by omega,k3,h.symm⟩
  ·cases h
 ·cases h
def EffOk [OB]:Prop:=∀g as H,OA.eff g as H=effO g as H
theorem Nrp [OB] (b:EffOk) (a:g=36\/g=27) {lim:Nat} {p:Option Addr} (hs:Sl H encN 6 p S) (hn:S.length<2 ^ 63) :
  NQ E false lim g [.slice p S.length c] H Q=Q (effR (decide (g=36)) H.length S).1 (H++news (effR (decide (g=36)) H.length S).2):=
 Nb9 (r:=((effR (decide (g=36)) H.length S).1,(effR (decide (g=36)) H.length S).2,none)) (by rcases a with rfl | rfl<;>simp [E,orc]) (by show effS g _ H=_;unfold effS;rw [show OA.eff g _ H=_ from (b _ _ _).trans (N2u a hs hn)]) rfl
theorem effR_no (h:¬QK S):effR a n S=(.tuple #[Vz,Vi 2],[]):=Ng h
theorem Nn5 (L:List Ev):∃p c,effL H.length L=(.tuple #[.slice p L.length c,Vi 0],(effL H.length L).2)/\Own H.length (H++news (effL H.length L).2) encE 7 p c L/\Chg [] H (H++news (effL H.length L).2):=by
 unfold effL;by_cases h:L=[]
 ·rw [Nl h];exact ⟨none,0,by rw [h];rfl,.inl ⟨h,rfl,rfl⟩,Chg.refl.app⟩
 ·rw [Ng h];exact ⟨_,_,rfl,.inr ⟨H.length,rfl,rfl,NN,Nf _⟩,Chg.refl.app⟩
theorem N7n [OB] (a:EffOk) {lim:Nat} {p:Option Addr} (hs:Sl H encN 6 p S) (hS:QK S)
  (b:∀G kp kc,Own H.length G encE 7 kp kc (OH S).1->Chg [] H G->Q (.tuple #[.slice kp (OH S).1.length kc,Vi 0]) (G++[])) :
  NQ E false lim 36 [.slice p S.length c] H Q:=by
 rw [Nrp a (.inl rfl) hs (by have:=hS.1;omega)];have e:effR (decide ((36:Nat)=36)) H.length S=effL H.length (OH S).1:=Nl hS;rw [e];obtain ⟨d,c',e1,e2,e3⟩:=Nn5 (H:=H) (OH S).1;rw [e1];have:=b _ _ _ e2 e3
 rwa [Na] at this
theorem Nsh [OB] (a:EffOk) {lim:Nat} {p:Option Addr} (hs:Sl H encN 6 p S) (hn:S.length<2 ^ 63) (hS:¬QK S) :
  NQ E false lim 36 [.slice p S.length c] H Q=Q (.tuple #[Vz,Vi 2]) H:=by
 rw [Nrp a (.inl rfl) hs hn,effR_no hS];simp [news]
theorem Nxq [OB] (a:EffOk) {lim:Nat} {p:Option Addr} (hs:Sl H encN 6 p S) (hS:QK S)
  (b:∀G kp kc,Own H.length G encE 7 kp kc (OH S).2->Chg [] H G->Q (.tuple #[.slice kp (OH S).2.length kc,Vi 0]) (G++[])) :
  NQ E false lim 27 [.slice p S.length c] H Q:=by
 rw [Nrp a (.inr rfl) hs (by have:=hS.1;omega)];have e:effR (decide ((27:Nat)=36)) H.length S=effL H.length (OH S).2:=Nl hS;rw [e];obtain ⟨d,c',e1,e2,e3⟩:=Nn5 (H:=H) (OH S).2;rw [e1];have:=b _ _ _ e2 e3
 rwa [Na] at this
end Go.Proofs.YtkppjkkkdpcgiaaGreat.Fn



namespace Go.Proofs.YtkppjkkkdpcgiaaGreat.Fn
open Go.AM Go.AM.Sym Go.Net Go.Scan
variable {es S:List Ev} {Q:Value->NA->Prop} {b1 b2 cp c b3 cL b:Nat} {A:List An} {L:List Leg} {G H:NA} {fr:Nat->Value} {item now:Int} {pp pL:Option Addr} {mp:Bool} {P:List Int}
def N48:List Value:=Uo none 0 0 none 0 0 none 0 0 0 none 0 0
theorem Njl:N48=[Vz,Vz,Vz,Vi 0,Vz]:=rfl
theorem Nvt (h:QD P L=0) (hS:QK S) (h1:1<=item) (h2:item<=999999) (b:0<=now) (c:now<=NV) (h5:Sz (OH S).1 item≠[]) :
  TQ P L S item now=YE P L (Sz (OH S).1 item):=by
 have a:¬(¬QK S\/item<1\/999999<item\/now<0\/NV<now):=by
  rintro (h | h | h | h | h)
  ·exact h hS
  all_goals omega
 unfold TQ;rw [Ng (by simpa using h),Ng a,Ng h5]
theorem Nor {α:Type} {enc:α->List Value} {e R:Nat} {l:List α} {z:List Value} (he:∀x,(enc x).length=e) {ro:Bool} (h:NE H R=.cells ro (l.flatMap enc++z)):Sl H enc e (Sa R) l:=
 ⟨rfl,fun _=>⟨ro,_,h,by rw [Nk,OW he];simp,by rw [On,<-OW he,List.take_left]⟩⟩
theorem Nkz [OB] (hE:EffOk) {lim:Nat} {p:Option Addr} (hN:NetIn H pp pL P L) (hs:Sl H encN 6 p S) (hn:S.length<2 ^ 63) (hl:lim<=H.length)
  (d:∀G,TQ P L S item now≠0->Chg [] H G->Q (.tuple #[.agg N48.toArray,Vi (TQ P L S item now)]) G)
  (aa:∀G pe ce q cq r cr pl cl (es tw:List Ev) (ks:List Int) (ss:List Stp),es=Sz (OH S).1 item->tw=Sz (OH S).2 item->ks=PU P L es->ss=QG P L es ks->TQ P L S item now=0->Chg [] H G->U3 H.length G encE 7 pe es->WU 7 ce es.length->U3 H.length G encI 1 q ks->U3 H.length G enc3 3 r ss->U3 H.length G Tv 5 pl (SX P L es tw ks ss now)->
   Q (.tuple #[.agg (Uo pe es.length ce q ks.length cq r ss.length cr (Sr P L es ks) pl (SX P L es tw ks ss now).length cl).toArray,Vi 0]) G) :
  NQ E false lim 17 [.agg (netV pp P.length cp pL L.length cL).toArray,.slice p S.length c,Vi item,Vi now] H Q:=by
 refine QN (by decide) rfl rfl ?_;rw [b17,c17];have hv:=fun X (mp:Bool) (lim:Nat) (Q:Value->NA->Prop)=>Ndy (mp:=mp) (lim:=lim) (cp:=cp) (cl:=cL) (Q:=Q) (hN.app X)
 rw [Njl] at d;by_cases J:QD P L=0
 case neg=>
  rw [Nh8 J] at d;simp only [n17,OG,NK,hv,Nc J,hl,SB,seval,NF,NL,NH,NG,place,NB,NC];exact d _ J Chg.refl.app
 simp only [n17,OG,NK,hv,Nh J,SB,seval,NF,NL,NH,NG,place,NB];by_cases hS:QK S
 case neg=>
  rw [Nbp J (.inl hS)] at d;rw [Nsh hE (hs.app _) hn hS];simp only [n17,hl,SB,seval,NL,NH,NB,NC];exact d _ (by decide) Chg.refl.app
 refine N7n hE (hs.app _) hS fun G1 kp kc hO l=>?_
 have au:=l.len;simp at au;have bg:lim<=G1.length:=by omega
 have t:=fun h=>Nbp (P:=P) (L:=L) (S:=S) (item:=item) (now:=now) J (.inr h)
 have k8:=l.cells (NY (X:=[Vc (netV pp P.length cp pL L.length cL),Vc [Vz,Vz,Vz,Vi 0,Vz]]) (j:=1)) (by simp);have x8:=zc k8;obtain ⟨G8,e8,h8,m8⟩:=OO (NM k8) (Vc [Vz,Vz,Vz,Vi 0,Vz]);have y8:=zc h8;have B:Chg [] H G8:=l.pre.mut m8 (.inr (by omega));have n:lim<=H.length+1:=by omega
 refine NJ ?_;unfold NV at t;by_cases c1:item<1
 ·rw [t (.inl c1)] at d;simp only [n17,x8,e8,y8,n,Nh c1,SB,seval,NL,NH,NG,NB,NC];exact d _ (by decide) B.app
 by_cases c2:999999<item
 ·rw [t (.inr (.inl c2))] at d;simp only [n17,x8,e8,y8,n,Nc c1,Nh c2,SB,seval,NL,NH,NG,NB,NC];exact d _ (by decide) B.app
 by_cases c3:now<0
 ·rw [t (.inr (.inr (.inl c3)))] at d;simp only [n17,x8,e8,y8,n,Nc c1,Nc c2,Nh c3,SB,seval,NL,NH,NG,NB,NC];exact d _ (by decide) B.app
 by_cases c4:1051898399<now
 ·rw [t (.inr (.inr (.inr c4)))] at d;simp only [n17,x8,e8,y8,n,Nc c1,Nc c2,Nc c3,Nh c4,SB,seval,NL,NH,NG,NB,NC];exact d _ (by decide) B.app
 simp only [n17,Nc c1,Nc c2,Nc c3,Nc c4,SB,seval,NF,NL,NH,NG];have b7:=MQ S;have bu:=hS.1;have ax:=Nsx (S:=S) (item:=item);have F:=Nh7 (P:=P) (L:=L) (S:=S) (item:=item) (now:=now) J hS (by omega) (by omega) (by omega) (by unfold NV;omega);refine Nzo (lim:=lim) ((hO.sl NT).app _) (by omega) (by simp;omega) fun G2 z hz v=>?_
 have hle:=Nvt (P:=P) (L:=L) (S:=S) (item:=item) (now:=now) J hS (by omega) (by omega) (by omega) (by unfold NV;omega);have ae:TI (Sz (OH S).1 item):=fun e he=>⟨(Nbl hS (by omega) he).2.1,(Nbl hS (by omega) he).2.2.1⟩
 obtain ⟨es,M⟩:∃es,es=Sz (OH S).1 item:=⟨_,rfl⟩
 have bx:es.length<=(OH S).1.length:=by rw [M];exact (XX _ _).length_le
 rw [<-M] at hz F ax hle ae⊢;rw [Na] at hz v⊢;have sE:Sl G2 encE 7 (Sa G1.length) es:=Nor NT hz;have u:=v.cells k8 (by simp);have i:=l.pre.trans v;have b6:=v.len;have be:=zc u;obtain ⟨G9,e9,h9,m9⟩:=OO (NM u) (Vc [Vz,Vz,Vz,Vi 0,Vz]);have y9:=zc h9;have am:Chg [] H G9:=i.mut m9 (.inr (by omega));refine NJ ?_;by_cases d1:es=[]
 ·rw [Nl d1] at F;rw [F] at d;subst d1;simp only [n17,be,e9,y9,n,Nn,show lim<=G2.length by omega,SB,seval,NL,NH,place,NB,NC];exact d _ (by decide) am.app
 have bw:0<es.length:=List.length_pos_iff.2 d1;have aw:¬((es.length:Nat):Int)=0:=by omega
 rw [Ng d1] at F;have k4:=l.cells (NN (X:=[Vc (netV pp P.length cp pL L.length cL),Vc [Vz,Vz,Vz,Vi 0,Vz]])) (by simp);have R:=v.cells k4 (by simp);have bd:=zc R;simp only [n17,bd,OG,NK,Nc aw,show lim<=G2.length by omega,SB,seval,NF,NL,NH,place,NB];replace hle:=hle d1;rw [hle] at d aa;have Z:=hN.sim fun b ro x hb=>i.cells hb (by simp)
 refine N7r (lim:=lim) (Z.app _) (by simp;omega) (sE.app _) (by omega) (fun G3 s f=>?_) (fun G3 q cq r cr s f hq hr=>?_)
 ·have z8:=f.pre.cells u (by simp);have cd:=zc z8;have w:=f.cells NN (by simp);have y:=zc w;obtain ⟨Ga,ea,o,I⟩:=OO (NM w) (Vc [.slice (Sa G1.length) es.length (OH S).1.length,Vz,Vz,Vi 0,Vz]);have aj:=I.cells z8 (by have:=NM u;omega);have ak:=zc aj;obtain ⟨Gb,eb,hb,mb⟩:=OO (NM aj) (Vc [Vz,Vz,Vz,Vi 0,Vz]);have zb:=zc hb;refine NJ ?_;simp only [n17,y,ea,ak,eb,zb,n,Nc s,show lim<=G2.length by omega,SB,seval,NL,NH,NB,NC];exact d _ s ((i.trans f.pre).mut I (.inr (by have:=i.len;omega)) |>.mut mb (.inr (by omega))).app
 obtain ⟨ks,hks⟩:∃ks,ks=PU P L es:=⟨_,rfl⟩
 obtain ⟨ss,hss⟩:∃ss,ss=QG P L es ks:=⟨_,rfl⟩
 rw [<-hks] at hq hr⊢;rw [<-hss] at hr⊢;have z8:=f.pre.cells u (by simp);have z4:=f.pre.cells R (by simp);have w:=f.cells NN (by simp);have y:=zc w;obtain ⟨Ga,ea,o,I⟩:=OO (NM w) (Vc [.slice (Sa G1.length) es.length (OH S).1.length,.slice q ks.length cq,.slice r ss.length cr,Vi (Sr P L es ks),Vz]);have av:=f.len;simp at av;have bq:H.length+2<=G2.length:=by have:=l.len;simp at this;omega
 have K:Chg [] H Ga:=(i.trans f.pre).mut I (.inr (by have:=i.len;omega));have t:=K.len;have a8:=I.cells z8 (by have:=NM u;omega);have a4:=I.cells z4 (by have:=NM R;omega);have ay:=hq.mut I (by simp);have a0:=hr.mut I (by simp);have bn:=NM hz;have a6:=(Chg.refl.mut (A:=[G2.length]) I (.inl (by simp))).sl (f.pre.sl sE (fun a _ _ h=>(by cases h))) (fun a o _=>by cases o;simp;omega);refine NJ ?_;simp only [n17,y,ea,show lim<=G2.length by omega,SB,seval,NF,NL,NH,NG,NB];refine Nxq hE ((K.sl hs (fun a _ _ h=>(by cases h))).app _) hS fun G4 tp tc hT k=>?_
 have b8:=k.pre.cells a8 (by simp);have b4:=k.pre.cells a4 (by simp);have b13:=k.pre.cells o (by simp);have b9:=zc b8;have ba:=zc b4;have ai:=zc b13;have r13:TT (Vc [.slice (Sa G1.length) es.length (OH S).1.length,.slice q ks.length cq,.slice r ss.length cr,Vi (Sr P L es ks),Vz])=true:=by simp [TT]
 have r4:TT (Vc (netV pp P.length cp pL L.length cL))=true:=by simp [TT,netV]
 refine NJ ?_;simp only [n17,ba,ai,r13,r4,OG,NK,SB,seval,NF,NL,NH,NG];have ag:TI (Sz (OH S).2 item):=fun e he=>by
  have hm:=((Njx (show item≠0 by omega)).1 he).1;have ht:=Nbc hS.2 (.inr hm);obtain ⟨s0,a5,e0⟩:=MP (.inr hm);have h6:=(hS.2 s0 a5).2.2.2.2.2.2;have e6:e.seen=s0.seen:=by rw [<-e0]
  unfold UE at h6;unfold NV;omega
 refine Nzo (lim:=lim) ((hT.sl NT).app _) (by omega) (by simp;have:=k.pre.len;omega) fun G5 z' O g=>?_
 obtain ⟨tw,htw⟩:∃tw,tw=Sz (OH S).2 item:=⟨_,rfl⟩
 have bz:tw.length<=(OH S).2.length:=by rw [htw];exact (XX _ _).length_le
 rw [<-htw] at O ag⊢;rw [Na] at O g⊢;refine ⟨Nl0 fun j hj=>?_, ?_⟩
 ·have al:OI (List.length G4) [] G4=G4:=rfl;rw [al] at hj⊢;obtain ⟨ro,x,hx⟩:=UK hj;rw [Na,g.other j (NM hx) (by simp)]
 have c8:=g.cells b8 (by simp);have bk:=g.cells b4 (by simp);have c13:=g.cells b13 (by simp);have l4:=k.pre.len;have l5:=g.len;have Y:Chg [] H G5:=(K.trans k.pre).trans g;have ab:=(ay.chg (A:=[]) k.pre (by simp)).chg (A:=[]) g (by simp);have ad:=(a0.chg (A:=[]) k.pre (by simp)).chg (A:=[]) g (by simp);have ah:=g.sl (k.pre.sl a6 (fun a _ _ h=>(by cases h))) (fun a _ _ h=>(by cases h));have a9:Sl G5 encE 7 (Sa G4.length) tw:=Nor NT O;have D:=XI (P:=P) (L:=L) (es:=es);rw [<-hks] at D;have N:=Nli (P:=P) (L:=L) D;rw [<-hss] at N;have b0:ks.length<=es.length:=Naw D.2;have bh:ss.length<=ks.length:=by rw [hss];unfold QG;rw [Nz,Pe];omega
 refine NJ ?_;simp only [n17,SB,seval,NF];have aq:=hN.sim fun b ro x hb=>Y.cells hb (by simp)
 refine Nvv (lim:=lim) (ct:=(OH S).2.length) (c:=Sr P L es ks) (ah.app _) (.inr ⟨by omega,by omega⟩) (a9.app _) (aq.app _) (ab.1.app _) (ad.1.app _) (by simp;omega) (by omega) (by omega) ae ag N.1 N.2 D.mem (by omega) (by omega) ⟨by omega,by unfold NV;omega⟩ fun G6 pl cl m C=>?_
 have d8:=m.pre.cells c8 (by simp);have U:=m.pre.cells c13 (by simp);have V:=zc U;have bm:=zc d8;obtain ⟨Ge,ee,he,T⟩:=OO (NM U) (Vc (Uo (Sa G1.length) es.length (OH S).1.length q ks.length cq r ss.length cr (Sr P L es ks) pl (SX P L es tw ks ss now).length cl));have W:=T.cells d8 (by omega);have xe:=zc he;have bb:=zc W;obtain ⟨Gf,ef,hf,mf⟩:=OO (NM W) (Vc (Uo (Sa G1.length) es.length (OH S).1.length q ks.length cq r ss.length cr (Sr P L es ks) pl (SX P L es tw ks ss now).length cl));have xf:=zc hf;simp only [Uo] at ee xe ef xf;refine NJ ?_;simp only [n17,V,ee,xe,bb,ef,xf,n,show lim<=G2.length by omega,SB,seval,NL,NB,NC];have l6:=m.pre.len;have an:H.length<=G1.length:=by have:=l.pre.len;omega
 have a7:=(((Chg.refl.mut (A:=[G2.length,H.length+1]) T (.inl (by simp))).mut mf (.inl (by simp))).sl (m.pre.sl ah (fun a _ _ h=>(by cases h))) (fun a o _=>by cases o;simp;omega)).app [];have az:=((((ab.chg (A:=[]) m.pre (by simp)).mut T (by simp)).mut mf (by simp;omega)).le (n':=H.length) (by simp;omega)).app [];have a3:=((((ad.chg (A:=[]) m.pre (by simp)).mut T (by simp)).mut mf (by simp;omega)).le (n':=H.length) (by simp;omega)).app [];have bf:=NM c13;have bv:=NM c8;have ar:=((C.mut T (fun a o=>by have:=(C.block o).1;simp at this;omega)).mut mf (fun a o=>by have:=(C.block o).1;simp at this;omega)).app [];refine aa _ _ _ q cq r cr pl cl es tw ks ss M htw hks hss (s) (((Y.trans m.pre).mut T (.inr (by omega))).mut mf (.inr (by omega))).app ⟨a7,fun a o=>by cases o;exact an⟩ (.inr ⟨by omega,by omega⟩) az a3 ⟨ar.sl RF,fun a o=>by have:=(C.block o).1;simp at this;omega⟩
def Na4 (L:List Leg):Prop:=(∀l∈L,l.dst=l.frm+1)/\∀a∈L,∀b∈L,a.frm=b.frm->a=b
section
variable {L:List Leg} (hL:Na4 L)
variable {w:List (Leg×Int)} {P:List Int} {u:Int}
include hL
theorem Na4.len:∀{w:List (Leg×Int)} {p t q u:Int},Su L p t w q u->q=p+w.length
 | [],p,t,q,u,h=>by obtain ⟨rfl,_⟩:=h;simp
 | (l,a)::w,p,t,q,u,h=>by
   obtain ⟨h1,h2,b,c,h5⟩:=h;have d:=hL.1 l h1;have:=Na4.len h5;simp only [Nm];omega
theorem Na4.first:∀{w w':List (Leg×Int)} {p t t' q u b:Int},Su L p t w q u->Zv t w->Su L p t' w' q b->t<=t'->u<=b/\w.map (·.1)=w'.map (·.1)
 | [],w',p,t,t',q,u,b,h,_,h',ht=>by
   have e:=hL.len h';obtain ⟨rfl,rfl⟩:=h;have:w'=[]:=List.length_eq_zero_iff.1 (by omega);subst this;obtain ⟨_,rfl⟩:=h';exact ⟨ht,rfl⟩
 | (l,a)::w,[],p,t,t',q,u,b,h,_,h',ht=>by
   have e:=hL.len h;obtain ⟨rfl,_⟩:=h';simp only [Nm] at e;omega
 | (l,a)::w,(l',a')::w',p,t,t',q,u,b,h,hn,h',ht=>by
   obtain ⟨h1,h2,j,k,h5⟩:=h;obtain ⟨c,g,d,i,f⟩:=h';obtain ⟨n1,n2⟩:=hn;obtain rfl:l=l':=hL.2 l h1 l' c (by omega);have:=(Rz n1).2.2 a' d (by omega);obtain ⟨k1,k2⟩:=Na4.first h5 n2 f (by omega);exact ⟨k1,by rw [Oj,Oj,k2]⟩
theorem Na4.best {p t q:Int} (h:Su L p t w q u) (hn:Zv t w) (g:u<=t+86400):Vd L p t q u/\BestW L p t q u w:=by
 have key:∀j v',Go.Net.Way L j p t q v'->u<=v'/\w.length=j:=fun j v' d=>by
  obtain ⟨w',e,b⟩:=d.isWay;have k:=hL.first h hn b (Ow _);have:=Q2 List.length k.2;rw [Nz,Nz] at this;exact ⟨k.1,by omega⟩
 refine ⟨.inr ⟨⟨⟨_,h.way⟩,g⟩,fun v ⟨⟨j,d⟩,_⟩=>(key j v d).1⟩,h,fun j v' d _=>by have:=(key j v' d).2;omega,fun w' v' b _ _ c=>?_,hn⟩;have k:=hL.first h hn b (Ow _);have e:Ye w'=Ye w:=by
  unfold Ye;have:=Q2 (List.map fun l:Leg=>l.id) k.2;rw [List.map_map,List.map_map] at this;exact this.symm
 rw [e] at c;exact f _ c
where
 f:∀x:List Int,¬Ng1 x x
 | [],h=>by cases h
 | a::x,h=>by rcases h with h | ⟨_,h⟩;omega;exact f x h
theorem Na4.way {p t q:Int} (h:Su L p t w q u) (hn:Zv t w) (a:u<=t+86400) (b:0<=u) (he:SI P L p q t=0):WW P L p q t=w:=
 YG ⟨he,u,b,(hL.best h hn a).1,(hL.best h hn a).2⟩
theorem Na4.arr {p t q:Int} (h:Su L p t w q u) (hn:Zv t w) (a:u<=t+86400) (he:SI P L p q t=0):MF P L p t q=u:=by
 obtain ⟨d,hp,b,c,_⟩:=VN he;exact SL.uniq (Nax (RS d) hp b c) (hL.best h hn a).1
end
theorem N5d {a b:Ev} {v:Int} (c:a.kind≠4) (e:b.place∈P) (he:SI P L a.place a.place a.time=0) (f:MF P L a.place a.time b.place=v) (g:0<=v) (d:v<=b.time):QJ P L a b=0:=by
 unfold QJ;rw [Ng c];by_cases hp:a.place=b.place
 ·rw [Nl hp]
 rw [Ng hp,Ng (by simpa using e),Ng (by simpa using he),f,Ng (by omega)];omega
section
variable {P:List Int} {L:List Leg} {es:List Ev}
variable {n:Nat}
theorem Nkl {ks:List Int} (h:Nhf es.length ks):0<=Sr P L es ks:=by
 have h1:=Naw h.2;have h2:=XO (P:=P) (L:=L) (es:=es) (ks:=ks) (ks.length-1);unfold Sr QG;omega
def N3b (P:List Int) (L:List Leg) (es:List Ev):Int:=Sr P L es (PU P L es)
theorem Nks:0<=N3b P L es:=Nkl XI
def Nol (n:Nat):List Int:=(List.range n).map Int.ofNat
theorem VE:(Nol n).length=n:=by simp [Nol]
theorem Naz {i:Nat} (h:i<n):gt (Nol n) i=(i:Int):=by rw [OQ (by simpa [Nol] using h)];simp [Nol]
theorem N7e:Nhf n (Nol n):=⟨fun h=>by rwa [VE] at h,fun i hi=>by
 rw [VE] at hi;unfold Nc7;rw [Naz hi];refine ⟨by omega,by omega,fun h=>?_⟩;rw [Naz (by omega)];omega⟩
theorem Nhh:∀(l:List (Int×Int×Int)),(∀x∈l,x.2.2=0)->UG l=0
 | [],_=>rfl
 | x::l,h=>by rw [UG,h x (by simp),Nhh l fun y a=>h y (by simp [a])];rfl
theorem N3k (h:∀i,i+1<es.length->QJ P L (gt es i) (gt es (i+1))=0):Sr P L es (Nol es.length)=0:=by
 unfold Sr;rw [VE,Nhh]
 ·omega
 ·intro x a;unfold QG at a;obtain ⟨i,hi,rfl⟩:=List.mem_map.1 a;have hi:=List.mem_range.1 hi;rw [VE] at hi;unfold Sq;rw [Naz (by omega),Naz (by omega)];exact h i (by omega)
theorem Nw2 (h:∀i,i+1<es.length->QJ P L (gt es i) (gt es (i+1))=0):N3b P L es=0/\(PU P L es).length=es.length:=by
 have b:=N3k h;have h1:=Nks (P:=P) (L:=L) (es:=es);have h2:=Naw (XI (P:=P) (L:=L) (es:=es)).2;rcases N3a (P:=P) (L:=L) (N7e (n:=es.length)) with a | ⟨a,hc | ⟨hc,_⟩⟩
 ·rw [b] at a;exact absurd a (by unfold N3b at h1;omega)
 ·rw [VE] at hc;rw [b] at a;exact ⟨a,by omega⟩
 ·rw [VE] at hc;rw [b] at a;exact ⟨a,by omega⟩
end
theorem Nr3 (h:∀i,i+1<es.length->QJ P L (gt es i) (gt es (i+1))=0):PU P L es=Nol es.length/\Sr P L es (PU P L es)=0:=by
 obtain ⟨h1,h2⟩:=Nw2 h;have hk:=XI (P:=P) (L:=L) (es:=es);refine ⟨?_,h1⟩;refine Pr (by rw [VE,h2]) fun i hi a=>?_
 rw [<-OQ hi,<-OQ a,Naz (by rw [VE] at a;exact a)];have mono:∀d i,i+d<(PU P L es).length->gt (PU P L es) i+d<=gt (PU P L es) (i+d):=fun d=>by
  induction d with
  | zero=>intro i _;simp
  | succ d ih=>
    intro i hd;have k1:=ih i (by omega);have k2:gt (PU P L es) (i+(d+1)-1)<gt (PU P L es) (i+(d+1)):=(hk.2 (i+(d+1)) hd).2.2 (by omega);rw [show i+(d+1)-1=i+d by omega] at k2;omega
 have a1:=Nr6 hk.2 i hi;have a2:=mono (es.length-1-i) i (by omega);have b:=(hk.2 (i+(es.length-1-i)) (by omega)).2.1;omega
def k1L:Leg:=⟨1,1,2,600,60,0,1000,127⟩
def k2L:Leg:=⟨2,2,3,700,100,0,1000,127⟩
def PX:List Int:=[1,2,3]
def LX:List Leg:=[k1L,k2L]
theorem N26:Na4 LX:=⟨by decide,by decide⟩
theorem nk1:R7 k1L 500=some 600:=nx 0 rfl (by decide) (by decide) (by decide) (by decide) (by decide)
theorem nk2:R7 k2L 660=some 700:=nx 0 rfl (by decide) (by decide) (by decide) (by decide) (by decide)
theorem Ob3:Su LX 1 500 [(k1L,600),(k2L,700)] 3 800:=by
 obtain ⟨d1,_⟩:=Rz nk1;obtain ⟨d2,_⟩:=Rz nk2;exact ⟨by simp [LX],rfl,d1,by decide,by simp [LX],rfl,d2,by decide,rfl,by decide⟩
theorem Nz4:Zv 500 [(k1L,600),(k2L,700)]:=⟨nk1,nk2,trivial⟩
theorem Ohc:MF PX LX 1 500 3=800:=N26.arr Ob3 Nz4 (by decide) (by decide)
theorem wX:WW PX LX 1 3 500=[(k1L,600),(k2L,700)]:=N26.way Ob3 Nz4 (by decide) (by decide) (by decide)
def Nce (p t k:Int):Ev:=⟨7,p,p,k,t,t,0⟩
def evX (p t k:Int):Ev:=⟨7,p,p,k,t,t,t⟩
def SA:List Ev:=[Nce 1 500 2,Nce 3 800 2]
def SBx:List Ev:=[Nce 1 500 2,Nce 3 800 2,Nce 1 501 2]
def SDx:List Ev:=[Nce 1 500 2,Nce 1 505 4,Nce 1 600 2]
def EA:List Ev:=[evX 1 500 2,evX 3 800 2]
def ED:List Ev:=[evX 1 500 2,evX 1 505 4,evX 1 600 2]
theorem N7t:Sz (OH SA).1 7=EA:=by decide
theorem Ocy:Sz (OH SBx).1 7=EA:=by decide
theorem Ocx:Sz (OH SDx).1 7=ED:=by decide
theorem N9b:Sz (OH SA).2 7=[]:=by decide
theorem Odp:Sz (OH SBx).2 7=[evX 1 501 2]:=by decide
theorem Odo:Sz (OH SDx).2 7=[]:=by decide
theorem prX:QJ PX LX (evX 1 500 2) (evX 3 800 2)=0:=N5d (v:=800) (by decide) (by decide) (by decide) Ohc (by decide) (by decide)
theorem Nr4:PU PX LX EA=[0,1]/\Sr PX LX EA [0,1]=0:=by
 obtain ⟨h1,h2⟩:=Nr3 (P:=PX) (L:=LX) (es:=EA) fun i hi=>by
  have:i=0:=by simp [EA] at hi;omega
  subst this;exact prX
 have e:PU PX LX EA=[0,1]:=h1.trans rfl;exact ⟨e,by rw [<-e];exact h2⟩
theorem Nje:QG PX LX EA [0,1]=[(0,1,0)]:=by
 show [((0:Int),(1:Int),QJ PX LX (evX 1 500 2) (evX 3 800 2))]=_;rw [prX]
theorem Obr:PU PX LX ED=[0,1]:=by decide
theorem N4y:QG PX LX ED [0,1]=[(0,1,0)]:=by decide
def Ua:An:=⟨5,1,0,2,0⟩
def Nxg:An:=⟨6,0,0,1,1⟩
def Na0:An:=⟨7,1,0,3,28000⟩
def Ngh:An:=⟨1,2,0,1,0⟩
theorem Obt (tw:List Ev):SX PX LX EA tw [0,1] [(0,1,0)] 900=R9 EA tw 0++(Ua::R9 EA tw 1)/\SX PX LX EA tw [0,1] [(0,1,0)] 28800=R9 EA tw 0++(Ua::R9 EA tw 1)++[Na0]:=by
 have e0:atN PX LX EA tw [0,1] [(0,1,0)] 0=R9 EA tw 0:=rfl;have e2:Ru PX LX EA (0,1,0)=[Ua]:=by
  have:Ru PX LX EA (0,1,0)=SS PX LX EA (0,1,0):=rfl;rw [this];have:SS PX LX EA (0,1,0)=(WW PX LX 1 3 500).dropLast.map (Y6 (0,1,0)):=rfl;rw [this,wX];rfl
 have e1:atN PX LX EA tw [0,1] [(0,1,0)] 1=Ru PX LX EA (0,1,0)++R9 EA tw 1:=rfl;rw [e2] at e1;have e3:∀now,SX PX LX EA tw [0,1] [(0,1,0)] now=atN PX LX EA tw [0,1] [(0,1,0)] 0++(atN PX LX EA tw [0,1] [(0,1,0)] 1++[])++UX EA [0,1] now:=fun now=>rfl
 constructor
 ·rw [e3,e0,e1,show UX EA [0,1] 900=[] from by decide];simp
 ·rw [e3,e0,e1,show UX EA [0,1] 28800=[Na0] from by decide];simp
theorem Oad:SX PX LX EA [] [0,1] [(0,1,0)] 900=[Ua]:=(Obt []).1
theorem Oac:SX PX LX EA [evX 1 501 2] [0,1] [(0,1,0)] 900=[Nxg,Ua]:=(Obt _).1.trans (by decide)
theorem Oab:SX PX LX EA [] [0,1] [(0,1,0)] 28800=[Ua,Na0]:=(Obt []).2
theorem Oaa:SX PX LX ED [] [0,1] [(0,1,0)] 900=[Ngh]:=rfl
theorem Nhl [OB] {lim:Nat} {p t k:Int}:NQ E mp lim 31 [Vi p,Vi t,.int .u8 k] H Q=Q (.agg #[Vi 7,Vi p,Vi p,.int .u8 k,Vi t,Vi t]) H:=by
 refine pc (by decide) rfl rfl rfl ?_;rw [b31,c31];simp only [n31,SB,seval,NL,reduceCtorEq,NG,place,NB,NC]
theorem UN [OB] {lim:Nat} (hl:lim<=H.length) (c:∀G a b,OD H G->NetIn G a b PX LX->Q (.agg (netV a 3 3 b 2 2).toArray) G):NQ E false lim 39 [] H Q:=by
 refine QN (by decide) rfl rfl ?_;rw [b39,c39];simp only [n39,hl,SB,seval,NL,reduceCtorEq,place,NB,NC];refine c _ (Sa (H.length+1)) (Sa (H.length+2)) OD.refl.app ⟨Sl.row (ro:=false) OT (by rw [NY];rfl),Sl.row (ro:=false) NZ (by rw [NY];rfl),by decide,by decide, ?_⟩;intro l hl;simp only [LX,Ns,O8,or_false] at hl;rcases hl with rfl | rfl<;>(unfold By;decide)
theorem Ohe (x y:An):aEq (.agg [.int .u8,.int .i64,.int .i64,.int .i64,.int .i64]) (.agg (Tv x).toArray) (.agg (Tv y).toArray)=some (decide (x=y)):=by
 obtain ⟨a,b,c,d,e⟩:=x;obtain ⟨a',b',c',f,g⟩:=y;simp only [aEq,Tv,PH,SQ,An.mk.injEq];simp;rfl
theorem Ndt [OB] {lim ca cb:Nat} {p q:Option Addr} {a b:List An} (n:Sl H Tv 5 p a) (o:Sl H Tv 5 q b) (hn:a.length<2 ^ 62) :
  NQ E mp lim 30 [.slice p a.length ca,.slice q b.length cb] H Q=Q (.bool (decide (a=b))) H:=by
 refine pc (by decide) rfl rfl rfl ?_;rw [b30,c30];by_cases hl:a.length=b.length
 case neg=>
  have h1:¬(a.length:Int)=(b.length:Int):=by omega
  simp only [n30,Nc h1,SB,seval,NL,NH,reduceCtorEq,NG,NC];congr 1;rw [eq_comm,decide_eq_false_iff_not];rintro rfl;exact hl rfl
 have h1:(a.length:Int)=(b.length:Int):=by omega
 simp only [n30,Nh h1,SB,seval,NL,NH,reduceCtorEq,NG];refine NP (fun j=>a.length-j) (fun j fr G=>j<=a.length/\fr 0=.slice p a.length ca/\fr 1=.slice q b.length cb/\fr 12=Vi a.length/\fr 13=Vi j/\OD H G/\∀i,i<j->gt a i=gt b i) 0 ⟨Np _,rfl,rfl,rfl,by rfl,OD.refl.app,fun i hi=>by omega⟩ ?_;intro j fr G ⟨v,f0,f1,f12,f13,g,f⟩ hN;rw [NU N81.eq_1];refine NJ ?_;by_cases d:j<a.length
 case neg=>
  obtain rfl:j=a.length:=by omega
  simp only [n30,f12,f13,ND,d,SB,seval,NL,NH,NC];have:a=b:=Pr hl fun i h1 h2=>by rw [<-OQ h1,<-OQ h2];exact f i h1
  rw [Nj this]
 have l:j<b.length:=by omega
 have r:=fun X=>((g.sl n).app X).loadCells RF d
 have s:=fun X=>((g.sl o).app X).loadCells RF l
 have t:=fun c (kk:IntKind) (H1:NA)=>(g.sl n).idx (c:=c) (k:=kk) (H1:=H1) d
 have u:=fun c (kk:IntKind) (H1:NA)=>(g.sl o).idx (c:=c) (k:=kk) (H1:=H1) l
 have m:IntKind.i64.wrap ((j:Int)+1)=((j+1:Nat):Int):=OC (by omega);have e:=Ohe (gt a j) (gt b j);by_cases he:gt a j=gt b j
 ·rw [Nj he] at e;simp only [n30,f0,f1,f12,f13,ND,d,r,s,t,u,m,e,SB,seval,NL,NH,reduceCtorEq];exact hN (j+1) _ _ ⟨by omega,f0,f1,f12,rfl,g.trans OD.refl.app,fun i hi=>by
   rcases Od i j with h | h
   ·exact f i h
   ·rw [show i=j by omega];exact he⟩ (by omega)
 ·rw [Nw he] at e;simp only [n30,f0,f1,f12,f13,ND,d,r,s,t,u,e,SB,seval,NL,NH,reduceCtorEq,NC];congr 1;rw [eq_comm,decide_eq_false_iff_not];rintro rfl;exact he rfl
def Ncl:List Value:=[.string ⟨#[]⟩,.string ⟨#[115,116,114,97,121]⟩,.string ⟨#[97,102,116,101,114]⟩,.string ⟨#[106,117,109,112]⟩,.string ⟨#[101,97,114,108,121]⟩,.string ⟨#[109,105,115,115,101,100]⟩,.string ⟨#[100,111,117,98,108,101,100]⟩,.string ⟨#[108,111,115,116]⟩]
theorem Xw:Ncl.length=8:=id rfl
theorem Nms [OB] {lim:Nat}:NQ E mp lim 35 [] H Q=Q (.agg Ncl.toArray) H:=by
 refine pc (by decide) rfl rfl rfl ?_;rw [b35,c35];simp only [n35,SB,seval,NL,reduceCtorEq,place,NB,NC];rfl
def YV (n:Nat):Value:=Ncl.getD n (.string ⟨#[]⟩)
theorem Nqk (n:Nat):flat 4 (YV n)=true:=by
 unfold YV Ncl;rcases n with _ | _ | _ | _ | _ | _ | _ | _ | n<;>rfl
theorem Ndn [OB] {lim n:Nat} (hn:n<256):NQ E mp lim 13 [.int .u8 (n:Int)] H Q=Q (YV n) H:=by
 refine pc (by decide) rfl rfl (Nqk n) ?_;rw [b13,c13];have c:IntKind.i64.wrap ((n:Nat):Int)=n:=NR (by omega) (by omega);by_cases b:8<=(n:Int)
 ·have e:YV n=.string ⟨#[]⟩:=by unfold YV;rw [Nb,N0 (by rw [Xw];omega)];rfl
  simp only [n13,r13,Nms,NI,c,Nh b,Xw,e,SB,seval,NF,NL,NH,reduceCtorEq,NG,place,NB,NC]
 ·have e:∀(v:Value),Ncl[n]? = some v->v=YV n:=fun v d=>by unfold YV;rw [Nb,d];rfl
  have a:n<Ncl.length:=by rw [Xw];omega
  have e2:Ncl[n]? = some (YV n):=by rw [Ni a];congr 1;exact e _ (Ni a)
  simp only [n13,r13,Nms,NI,c,Nc b,Xw,e2,Nh (show (0:Int)<=n by omega),Nh (show (n:Int)<8 by omega),and_self,Ps,SB,seval,NF,NL,NH,reduceCtorEq,NG,place,NB,NC]
theorem set_self {x:Blk} (h:NE G b=x) (a:b<G.length):G.set b x=G:=by
 apply Pr (by simp);intro j h1 h2;rw [List.getElem_set];split
 ·rename_i e;subst e;unfold NE at h;rw [Nb,Ni a] at h;exact h.symm
 ·rfl
def YA:ACode:=QP (QP (QP (QP c18)))
theorem N66:c18=.seq (UF c18) (.seq (UF (QP c18)) (.seq (UF (QP (QP c18))) (.seq (UF (QP (QP (QP c18)))) YA))):=rfl
def WH:ACode:=QP YA
theorem Nxp:YA=.seq (UF YA) WH:=rfl
def Xk:ACode:=QP WH
theorem Nsl:WH=.seq (UF WH) Xk:=rfl
def Y4:ACode:=QP Xk
theorem Nsk:Xk=.seq (UF Xk) Y4:=rfl
def Zw:ACode:=QP Y4
theorem Nsj:Y4=.seq (UF Y4) Zw:=rfl
def Nk0:ACode:=QP Zw
theorem Nsi:Zw=.seq (UF Zw) Nk0:=rfl
theorem Oeo:TQ PX LX SA 7 900=0:=by decide
theorem Oen:TQ PX LX SBx 7 900=0:=by decide
theorem Oem:TQ PX LX SA 7 28800=0:=by decide
theorem Oel:TQ PX LX SDx 7 900=0:=by decide
theorem Oc6:TQ PX LX SBx 8 900=6:=by decide
def Zt (G:NA) (b:Nat) (A:List An):Prop:=∃pe n ce q nk cq r ns cr c pl cl,NE G b=Vc (Uo pe n ce q nk cq r ns cr c pl A.length cl)/\Sl G Tv 5 pl A
theorem Zt.ext {G':NA} (h:Zt G b A) (e:OD G G'):Zt G' b A:=by
 obtain ⟨pe,n,ce,q,nk,cq,r,ns,cr,c,pl,cl,h1,h2⟩:=h;exact ⟨pe,n,ce,q,nk,cq,r,ns,cr,c,pl,cl,e.cells h1,e.sl h2⟩
theorem Ndp [OB] (j:EffOk) {lim:Nat} {p:Option Addr} {tw:List Ev} {ks:List Int} {ss:List Stp} (hN:NetIn H pp pL PX LX) (hs:Sl H encN 6 p S) (hn:S.length<2 ^ 63) (hl:lim<=H.length)
  (e:TQ PX LX S 7 now=0) (h1:Sz (OH S).1 7=es) (h2:Sz (OH S).2 7=tw) (f:PU PX LX es=ks) (g:QG PX LX es ks=ss) (h5:SX PX LX es tw ks ss now=A)
  (k:∀G pe n ce q nk cq r ns cr c pl cl,OD H G->Sl G Tv 5 pl A->Q (.tuple #[.agg (Uo pe n ce q nk cq r ns cr c pl A.length cl).toArray,Vi 0]) G) :
  NQ E false lim 17 [.agg (netV pp PX.length cp pL LX.length cL).toArray,.slice p S.length c,Vi 7,Vi now] H Q:=by
 refine Nkz j hN hs hn hl (fun G h=>absurd e h) fun G pe ce q cq r cr pl cl es' d a b e1 e2 e3 e4 _ i _ _ _ _ hM=>?_
 obtain rfl:es'=es:=e1.trans h1;obtain rfl:d=tw:=e2.trans h2;obtain rfl:a=ks:=e3.trans f;obtain rfl:b=ss:=e4.trans g;rw [h5] at hM⊢;exact k G _ _ _ _ _ _ _ _ _ _ _ _ i.ext hM.1
structure A18 (b1 b2 b3:Nat) (G:NA) (fr:Nat->Value):Prop where
 f1:fr 1=.slice (Sa b1) 3 3
 f2:fr 2=Vp b2
 f3:fr 3=Vp b3
 k1:NE G b1=Vc (SBx.flatMap encN)
 k2:NE G b2=Vc (Tv Ua)
 k3:NE G b3=Vc (Tv Nxg)
section
variable {lim b1 b2 b3:Nat} {fr:Nat->Value} {G:NA} {Q:Value->NA->Prop}
theorem chA [OB] (J:EffOk) (h:A18 b1 b2 b3 G fr) (hl:lim<=G.length)
  (K:∀fr' G' x,OD G G'->(∀t,t<14->t≠4->t≠5->fr' t=fr t)->fr' 4=Vp x->fr' 5=Vi 0->Zt G' x [Ua]->PT E a18 lim [.code WH] fr' G' Q):PT E a18 lim [.code YA] fr G Q:=by
 rw [Nxp];refine NJ ?_;have u:Sl G encN 6 (Sa b1) SBx:=Sl.row OL h.k1;obtain ⟨F,c1,N,M,_,_,_⟩:=Vj (c:=3) (vlo:=none) (vhi:=some (Vi 2)) (lo:=0) (hi:=2) u (.inr ⟨by decide,by decide⟩) OL (fun cap B=>by rw [Zo (by decide) (by have:SBx.length=3:=rfl;omega)];rfl) (by decide) (by decide) (by decide);simp only [UF,QP,YA,c18,n18,SB,seval,NF];refine UN (by simp;omega) fun G1 a b f s=>?_
 have L:=f.len;simp at L;have d1:NE G1 G.length=.dead:=by obtain ⟨X,rfl⟩:=f;rw [NS (by simp),NN];rfl
 have j:List.set G1 G.length Blk.dead=G1:=set_self d1 (by omega);have y:TN 6 (.slice (Sa b1) 3 3) none (some (Vi 2)) none=some (.slice F 2 c1):=N;have d:OD G G1:=by obtain ⟨X,rfl⟩:=f;rw [No];exact OD.refl.app
 refine NJ ?_;simp only [n18,h.f1,y,j,SB,seval,NF,NL];simp only [Na,j];have v:Sl G1 encN 6 F SA:=d.sl M;refine Ndp J s v (by decide) (by omega) Oeo N7t N9b Nr4.1 Nje Oad fun G2 pe n ce q nk cq r ns cr c pl cl g I=>?_
 have T:=g.len;have d2:NE G2 G.length=.dead:=by obtain ⟨X,rfl⟩:=g;rw [NS (by omega)];exact d1
 have l:NE (G1++[]) G.length=.dead:=by rw [Na];exact d1
 have w:List.set G2 G.length Blk.dead=G2:=set_self d2 (by omega);obtain ⟨P,e3,z,C⟩:=OO (G:=G2) (R:=G.length) (by omega) (Vc [Vz,Vz,Vz,Vi 0,Vz]);obtain ⟨k,e4,H,D⟩:=OO (NM z) (Vc (Uo pe n ce q nk cq r ns cr c pl [Ua].length cl));have o:Chg [] G k:=(((d.trans g).chg (A:=[])).mut C (.inr (Nf _))).mut D (.inr (Nf _));have m:Sl k Tv 5 pl [Ua]:=I.sim (G:=k) fun b ro x p=>by
  have i:b≠G.length:=fun e=>by rw [e,d2] at p;cases p
  exact D.cells (C.cells p i) i
 have O:=zc z;simp only [Nm,Nn,Nx] at e4;refine NJ ?_;simp only [n18,l,w,e3,O,e4,hl,Ur,NI,SB,seval,NL,place,NB];exact K _ _ G.length (o.ext.trans OD.refl.app) (fun t S h1 h2=>by simp only [upd];repeat rw [Ng (by omega)]) rfl rfl ⟨pe,n,ce,q,nk,cq,r,ns,cr,c,pl,cl,by rw [Na];exact H,m.app _⟩
theorem chB [OB] (j:EffOk) (h:A18 b1 b2 b3 G fr) (hl:lim<=G.length)
  (k:∀fr' G' x,OD G G'->(∀t,t<14->t≠6->t≠7->fr' t=fr t)->fr' 6=Vp x->fr' 7=Vi 0->Zt G' x [Nxg,Ua]->PT E a18 lim [.code Xk] fr' G' Q):PT E a18 lim [.code WH] fr G Q:=by
 rw [Nsl];refine NJ ?_;have g:Sl G encN 6 (Sa b1) SBx:=Sl.row OL h.k1;simp only [UF,QP,WH,YA,c18,n18,SB,seval,NF];rw [Na];refine UN (by omega) fun G1 a b d f=>?_
 have m:=d.len;refine NJ ?_;simp only [n18,h.f1,SB,seval,NF,NL];rw [Na];refine Ndp j (c:=3) f (d.sl g) (by decide) (by omega) Oen Ocy Odp Nr4.1 Nje Oac fun G2 pe n ce q nk cq r ns cr c pl cl e i=>?_
 have o:=e.len;refine NJ ?_;simp only [n18,Ur,NI,show lim<=G2.length by omega,SB,seval,NL,place,NB];exact k _ _ G2.length ((d.trans e).trans OD.refl.app) (fun t l h1 h2=>by simp only [upd];repeat rw [Ng (by omega)]) rfl rfl ⟨pe,n,ce,q,nk,cq,r,ns,cr,c,pl,cl,by rw [NN];rfl,i.app _⟩
theorem chC [OB] (J:EffOk) (h:A18 b1 b2 b3 G fr) (hl:lim<=G.length)
  (K:∀fr' G' x,OD G G'->(∀t,t<14->t≠8->t≠9->fr' t=fr t)->fr' 8=Vp x->fr' 9=Vi 0->Zt G' x [Ua,Na0]->PT E a18 lim [.code Y4] fr' G' Q):PT E a18 lim [.code Xk] fr G Q:=by
 rw [Nsk];refine NJ ?_;have u:Sl G encN 6 (Sa b1) SBx:=Sl.row OL h.k1;obtain ⟨F,c1,N,M,_,_,_⟩:=Vj (c:=3) (vlo:=none) (vhi:=some (Vi 2)) (lo:=0) (hi:=2) u (.inr ⟨by decide,by decide⟩) OL (fun cap B=>by rw [Zo (by decide) (by have:SBx.length=3:=rfl;omega)];rfl) (by decide) (by decide) (by decide);simp only [UF,QP,Xk,WH,YA,c18,n18,SB,seval,NF];refine UN (by simp;omega) fun G1 a b f s=>?_
 have L:=f.len;simp at L;have d1:NE G1 G.length=.dead:=by obtain ⟨X,rfl⟩:=f;rw [NS (by simp),NN];rfl
 have j:List.set G1 G.length Blk.dead=G1:=set_self d1 (by omega);have y:TN 6 (.slice (Sa b1) 3 3) none (some (Vi 2)) none=some (.slice F 2 c1):=N;have d:OD G G1:=by obtain ⟨X,rfl⟩:=f;rw [No];exact OD.refl.app
 refine NJ ?_;simp only [n18,h.f1,y,j,SB,seval,NF,NL];simp only [Na,j];have v:Sl G1 encN 6 F SA:=d.sl M;refine Ndp J s v (by decide) (by omega) Oem N7t N9b Nr4.1 Nje Oab fun G2 pe n ce q nk cq r ns cr c pl cl g I=>?_
 have T:=g.len;have d2:NE G2 G.length=.dead:=by obtain ⟨X,rfl⟩:=g;rw [NS (by omega)];exact d1
 have l:NE (G1++[]) G.length=.dead:=by rw [Na];exact d1
 have w:List.set G2 G.length Blk.dead=G2:=set_self d2 (by omega);obtain ⟨P,e3,z,C⟩:=OO (G:=G2) (R:=G.length) (by omega) (Vc [Vz,Vz,Vz,Vi 0,Vz]);obtain ⟨k,e4,H,D⟩:=OO (NM z) (Vc (Uo pe n ce q nk cq r ns cr c pl [Ua,Na0].length cl));have o:Chg [] G k:=(((d.trans g).chg (A:=[])).mut C (.inr (Nf _))).mut D (.inr (Nf _));have m:Sl k Tv 5 pl [Ua,Na0]:=I.sim (G:=k) fun b ro x p=>by
  have i:b≠G.length:=fun e=>by rw [e,d2] at p;cases p
  exact D.cells (C.cells p i) i
 have O:=zc z;simp only [Nm,Nn,Nx,Nat.reduceAdd] at e4;refine NJ ?_;simp only [n18,l,w,e3,O,e4,hl,Ur,NI,SB,seval,NL,place,NB];exact K _ _ G.length (o.ext.trans OD.refl.app) (fun t S h1 h2=>by simp only [upd];repeat rw [Ng (by omega)]) rfl rfl ⟨pe,n,ce,q,nk,cq,r,ns,cr,c,pl,cl,by rw [Na];exact H,m.app _⟩
theorem chD [OB] (h:EffOk) (hl:lim<=G.length)
  (j:∀fr' G' x,OD G G'->(∀t,t<14->t≠10->t≠11->fr' t=fr t)->fr' 10=Vp x->fr' 11=Vi 0->Zt G' x [Ngh]->PT E a18 lim [.code Zw] fr' G' Q):PT E a18 lim [.code Y4] fr G Q:=by
 rw [Nsj];refine NJ ?_;simp only [UF,QP,Y4,Xk,WH,YA,c18,n18,SB,seval,NF];rw [Na];refine UN (by omega) fun G1 a b d f=>?_
 have m:=d.len;refine NJ ?_;simp only [n18,Nhl,QI,U9,SB,seval,NF,NL,place,NB];refine Ndp h (c:=3) (S:=SDx) (f.app _) (Sl.row (ro:=false) OL (by rw [NN];rfl)) (by decide) (by simp;omega) Oel Ocx Odo Obr N4y Oaa fun G2 pe n ce q nk cq r ns cr c pl cl e g=>?_
 have k:=e.len;simp at k;have i:OD G G2:=by obtain ⟨X,rfl⟩:=e;obtain ⟨Y,rfl⟩:=d;rw [No,No];exact OD.refl.app
 refine NJ ?_;simp only [n18,Ur,NI,show lim<=G2.length by omega,SB,seval,NL,place,NB];exact j _ _ G2.length (i.trans OD.refl.app) (fun t l h1 h2=>by simp only [upd];repeat rw [Ng (by omega)]) rfl rfl ⟨pe,n,ce,q,nk,cq,r,ns,cr,c,pl,cl,by rw [NN];rfl,g.app _⟩
theorem chE [OB] (i:EffOk) (h:A18 b1 b2 b3 G fr) (hl:lim<=G.length)
  (j:∀fr' G',OD G G'->(∀t,t<12->fr' t=fr t)->fr' 13=Vi 6->PT E a18 lim [.code Nk0] fr' G' Q):PT E a18 lim [.code Zw] fr G Q:=by
 rw [Nsi];refine NJ ?_;have f:Sl G encN 6 (Sa b1) SBx:=Sl.row OL h.k1;simp only [UF,QP,Zw,Y4,Xk,WH,YA,c18,n18,SB,seval,NF];rw [Na];refine UN (by omega) fun G1 a b d e=>?_
 have l:=d.len;refine NJ ?_;simp only [n18,h.f1,SB,seval,NF,NL];rw [Na];refine Nkz i (P:=PX) (L:=LX) (S:=SBx) (c:=3) e (d.sl f) (by decide) (by omega) (fun G2 _ g=>?_) (fun _ _ _ _ _ _ _ _ _ _ _ _ _ _ _ _ _ h=>absurd (Oc6.symm.trans h) (by decide));have m:=g.len;rw [Oc6];refine NJ ?_;simp only [n18,Njl,show lim<=G2.length by omega,SB,seval,NL,place,NB];exact j _ _ ((d.trans g.ext).trans OD.refl.app) (fun t k=>by simp only [upd];repeat rw [Ng (by omega)]) rfl
theorem A18.next {G':NA} {fr':Nat->Value} (h:A18 b1 b2 b3 G fr) (e:OD G G') (h1:fr' 1=fr 1) (h2:fr' 2=fr 2) (a:fr' 3=fr 3):A18 b1 b2 b3 G' fr':=
 ⟨h1.trans h.f1,h2.trans h.f2,a.trans h.f3,e.cells h.k1,e.cells h.k2,e.cells h.k3⟩
end
theorem Nw6 [OB] {b4 j k lim:Nat} (h:A18 b1 b2 b3 G fr) (f4:fr 4=Vp b4) (f5:fr 5=Vi 0) (q:fr 6=Vp j) (r:fr 7=Vi 0) (s:fr 8=Vp k) (f9:fr 9=Vi 0) (f10:fr 10=Vp c) (f11:fr 11=Vi 0) (f13:fr 13=Vi 6)
  (r4:Zt G b4 [Ua]) (z:Zt G j [Nxg,Ua]) (A:Zt G k [Ua,Na0]) (f:Zt G c [Ngh]):PT E a18 lim [.code Nk0] fr G fun v' _=>v'=.bool true:=by
 obtain ⟨_,_,_,_,_,_,_,_,_,_,y,c4,t,B⟩:=r4;obtain ⟨_,_,_,_,_,_,_,_,_,_,M,o,u,C⟩:=z;obtain ⟨_,_,_,_,_,_,_,_,_,_,N,p,v,D⟩:=A;obtain ⟨_,_,_,_,_,_,_,_,_,_,x,l,d,g⟩:=f;have k2:NE G b2=Vc [.int .u8 5,Vi 1,Vi 0,Vi 2,Vi 0]:=h.k2;have k3:NE G b3=Vc [.int .u8 6,Vi 0,Vi 0,Vi 1,Vi 1]:=h.k3;have m:=zc k2;have I:=zc k3;have J:=zc t;have K:=zc u;have L:=zc v;have i:=zc d;have F:IntKind.i64.wrap 0=0:=by decide
 have n1:∀(mp:Bool) (lim:Nat) (H:NA) (Q:Value->NA->Prop),NQ E mp lim 13 [.int .u8 1] H Q=Q (.string ⟨#[115,116,114,97,121]⟩) H:=fun mp lim H Q=>Ndn (n:=1) (by decide)
 have e:∀(mp:Bool) (lim:Nat) (H:NA) (Q:Value->NA->Prop),NQ E mp lim 13 [.int .u8 0] H Q=Q (.string ⟨#[]⟩) H:=fun mp lim H Q=>Ndn (n:=0) (by decide)
 have n8:∀(mp:Bool) (lim:Nat) (H:NA) (Q:Value->NA->Prop),NQ E mp lim 13 [.int .u8 8] H Q=Q (.string ⟨#[]⟩) H:=fun mp lim H Q=>Ndn (n:=8) (by decide)
 have w:∀(mp:Bool) (lim:Nat) (Q:Value->NA->Prop),NQ E mp lim 30 [.slice y 1 c4,.slice (Sa G.length) 1 1] (G++[Vc [.int .u8 5,Vi 1,Vi 0,Vi 2,Vi 0]]) Q=Q (.bool true) (G++[Vc [.int .u8 5,Vi 1,Vi 0,Vi 2,Vi 0]]):=fun mp lim Q=>Ndt (a:=[Ua]) (b:=[Ua]) (B.app _) (Sl.row (ro:=false) RF (by rw [NN];rfl)) (by decide)
 refine NJ ?_;simp only [QP,Nk0,Zw,Y4,Xk,WH,YA,c18,n18,f4,f5,q,r,f9,f11,f13,h.f2,h.f3,F,Int.add_zero,m,I,J,K,Npt,QI,U9,w,SB,seval,NF,NL,NH,place,NB];refine Eq.mpr (Ndt (a:=[Nxg,Ua]) (b:=[Nxg,Ua]) (C.app _) (Sl.row (ro:=false) RF (by rw [NY];rfl)) (by decide)) ?_;rw [Nj rfl];refine NJ ?_;simp only [n18,s,h.f2,m,L,Npt,QI,U9,SB,seval,NF,NL,place,NB];refine Eq.mpr (Ndt (a:=[Ua,Na0]) (b:=[Ua,Na0]) (D.app _) (Sl.row (ro:=false) RF (by rw [NY];rfl)) (by decide)) ?_;rw [Nj rfl];refine NJ ?_;simp only [n18,f10,i,Npt,QI,U9,SB,seval,NF,NL,place,NB];refine Eq.mpr (Ndt (a:=[Ngh]) (b:=[Ngh]) (g.app _) (Sl.row (ro:=false) RF (by rw [NY];rfl)) (by decide)) ?_;rw [Nj rfl];refine NJ ?_;simp only [n18,r18,n1,e,n8,beq_self_eq_true,SB,seval,NF,NL,NH,NC]
theorem Nw7 [OB] (g:EffOk) {lim:Nat} (q:A18 b1 b2 b3 G fr) (hl:lim<=G.length):PT E a18 lim [.code YA] fr G fun v' _=>v'=.bool true:=by
 refine chA g q hl fun m D b4 e4 k4 f4 f5 r4=>?_
 have K:=e4.len;have a4:=q.next e4 (k4 1 (by decide) (by decide) (by decide)) (k4 2 (by decide) (by decide) (by decide)) (k4 3 (by decide) (by decide) (by decide));refine chB g a4 (by omega) fun n F I l k x y B=>?_
 have L:=l.len;have r:=a4.next l (k 1 (by decide) (by decide) (by decide)) (k 2 (by decide) (by decide) (by decide)) (k 3 (by decide) (by decide) (by decide));refine chC g r (by omega) fun o H J i k8 z f9 C=>?_
 have l8:=i.len;have v:=r.next i (k8 1 (by decide) (by decide) (by decide)) (k8 2 (by decide) (by decide) (by decide)) (k8 3 (by decide) (by decide) (by decide));refine chD g (by omega) fun f s w d c f10 f11 p=>?_
 have A:=d.len;have e:=v.next d (c 1 (by decide) (by decide) (by decide)) (c 2 (by decide) (by decide) (by decide)) (c 3 (by decide) (by decide) (by decide));refine chE g e (by omega) fun b u e12 a f13=>?_
 have a12:=e.next e12 (a 1 (by decide)) (a 2 (by decide)) (a 3 (by decide));have t:∀t,t<12->(t=4\/t=5->b t=m t)/\(t=6\/t=7->b t=n t)/\(t=8\/t=9->b t=o t)/\(t=10\/t=11->b t=f t):=fun t j=>by
  refine ⟨fun h=>?_,fun h=>?_,fun h=>?_,fun h=>a t j⟩
  ·rw [a t j,c t (by omega) (by omega) (by omega),k8 t (by omega) (by omega) (by omega),k t (by omega) (by omega) (by omega)]
  ·rw [a t j,c t (by omega) (by omega) (by omega),k8 t (by omega) (by omega) (by omega)]
  ·rw [a t j,c t (by omega) (by omega) (by omega)]
 exact Nw6 a12 (((t 4 (by decide)).1 (.inl rfl)).trans f4) (((t 5 (by decide)).1 (.inr rfl)).trans f5) (((t 6 (by decide)).2.1 (.inl rfl)).trans x) (((t 7 (by decide)).2.1 (.inr rfl)).trans y) (((t 8 (by decide)).2.2.1 (.inl rfl)).trans z) (((t 9 (by decide)).2.2.1 (.inr rfl)).trans f9) (((t 10 (by decide)).2.2.2 (.inl rfl)).trans f10) (((t 11 (by decide)).2.2.2 (.inr rfl)).trans f11) f13 ((((r4.ext l).ext i).ext d).ext e12) (((B.ext i).ext d).ext e12) ((C.ext d).ext e12) (p.ext e12)
theorem awake_go [OB] (b:EffOk) (a:OA.on 18=false) {mp:Bool} {lim:Nat} {H:NA} {Q:Value->NA->Prop}:NQ E mp lim 18 [] H Q=Q (.bool true) H:=by
 refine Ngu (E:=E) (by simp [E,effS,OA.effN,OA.srtN,orc,a]) (show E.tr 18=some a18 from rfl) rfl rfl (NJ ?_);rw [b18,N66];simp only [UF,QP,c18,n18,Nhl,QI,U9,SB,seval,NF,NL,place,NB];exact Nw7 b (b1:=H.length) (b2:=H.length+1) (b3:=H.length+2) ⟨rfl,rfl,rfl,by rw [NN];rfl,by rw [NY];rfl,by rw [NY];rfl⟩ (by simp)
end Go.Proofs.YtkppjkkkdpcgiaaGreat.Fn



namespace Go.AM
open Go.AM.Sym
section
variable {P:Program} {E:Env} {W:Nat->Prop} {lim:Nat} {σ:PO} {H:NA} {w:World}
variable {g:FuncId} {as as':List Value}
theorem Inv.shut (a:Inv (Prg.mk P (Env.pure E)) W lim σ H w):Inv (Prg.mk P (Env.pure E)) (fun k=>w.heap.size<=k) H.length σ H w:=
 ⟨a.blk,a.inj,fun i b L c ho d hL=>by
  have:=(List.getElem?_eq_some_iff.1 c).1;omega,fun b c=>c,a.dom⟩
theorem Nyk {w':World} (b:Inv (Prg.mk P (Env.pure E)) W lim σ H w) (a:Stp (fun k=>w.heap.size<=k) w w'):Stp W w w'/\∀k,k<w.heap.size->w'.heap[k]? = w.heap[k]?:=by
 have c:∀k,k<w.heap.size->w'.heap[k]? = w.heap[k]?:=fun k hk=>a.block k (by omega)
 refine ⟨⟨a.os,a.tape,a.output,a.size,fun k hk=>c k ?_⟩,c⟩;rcases Od k w.heap.size with h | h
 ·exact h
 ·exact absurd (b.fresh k h) hk
theorem Nfv (f:EnvOk P E) {b:Value} (k:flat 4 b=true) (h:NQ E false H.length g as H fun v _=>v=b)
  (a:Inv (Prg.mk P (Env.pure E)) W lim σ H w) (i:OV σ as as'):Calls P g as'.toArray w (Sj (Prg.mk P (Env.pure E)) W lim σ H b (H++news []) w):=by
 obtain ⟨n,L,h1,h2⟩:=h;refine ((ZL f n).calls _ _ _ _ _ _ h1 (Nf _) _ _ w as' a.shut i).mono fun e w' hp=>?_
 obtain ⟨r,hr,v',t,rfl,c,p,d,q,s⟩:=hp;obtain ⟨m,o⟩:=Nyk a d;rw [h2.2 r hr] at c;rw [show H++news []=H from Na H];exact ⟨v',σ,rfl,c.flat_self 4 k,a.world d.size o,m,PO.le_refl _,fun j l=>absurd rfl l⟩
theorem Nwn (S:EnvOk P E) {n e:Nat} {c:List Value} (hc:∀x∈c,atom x=true) (h:NQ E false H.length g as H fun v H'=>∃R,v=.tuple #[.slice (Sa R) n (loose e),Vi 0]/\NE H' R=Vc c/\H.length<=R)
  (d:Inv (Prg.mk P (Env.pure E)) W lim σ H w) (U:OV σ as as'):Calls P g as'.toArray w (Sj (Prg.mk P (Env.pure E)) W lim σ H (.tuple #[.slice (Sa H.length) n (loose e),Vi 0]) (H++news [c]) w):=by
 obtain ⟨k,L,h1,h2⟩:=h;refine ((ZL S k).calls _ _ _ _ _ _ h1 (Nf _) _ _ w as' d.shut U).mono fun en w' hp=>?_
 obtain ⟨r,hr,v',σ',rfl,G,I,J,q4,q5⟩:=hp;obtain ⟨Y,Z⟩:=Nyk d J;obtain ⟨R,e1,e2,e3⟩:=h2.2 r hr;rw [e1] at G;obtain ⟨f,hL,hB⟩:=I.blk R _ (RB e2 rfl) rfl;have p:w.heap.size<=f.blk:=I.wr R _ f (RB e2 rfl) rfl e3 hL;have C:Inv (Prg.mk P (Env.pure E)) W lim σ H w':=d.world J.size Z;have hd:σ H.length=none:=d.dom _ (Nf _);have B:=PO.le_put (L:=f) hd;have t:UV (Prg.mk P (Env.pure E)) (σ.put H.length f) w' f (Vc c):=by
  obtain ⟨cs,el,fz,N,O,Q⟩:=hB;refine ⟨cs,el,fz,N,fun j v D=>?_,Q⟩;obtain ⟨u,k1,k2,k3⟩:=O j v D;have o:=hc v (Oh D);rw [k2.eq_of_atom o] at k1 k3;exact ⟨v,k1,.atom o,k3⟩
 have T:Inv (Prg.mk P (Env.pure E)) W lim (σ.put H.length f) (H++news [c]) w':=by
  refine C.adopt (i:=H.length) (b:=Vc c) (L:=f) ?_ (fun j q=>?_) (fun j q=>?_) hd t rfl (d.fresh _ p) fun j bj Lj V z m y e=>?_
  ·show (H++[Vc c])[H.length]? = _;simp
  ·show (H++[Vc c])[j]? = _;rcases Od j H.length with h | h
   ·rw [Oa h]
   ·rw [N0 (by simp;omega),N0 h]
  ·simp [news] at q;omega
  ·obtain ⟨K,k1,k2⟩:=d.blk j bj z m;rw [y] at k1;cases k1;have:=k2.lt m;omega
 refine ⟨v',σ.put H.length f,rfl, ?_,T,Y,B,fun j q=>?_⟩
 ·obtain ⟨ys,rfl,hl⟩:=G.tuple_left;obtain ⟨F,s⟩:=hl
  match ys,F,s with
  | ⟨[y0,y1]⟩,F,s=>
    have v0:=s 0 _ _ rfl rfl;have v1:=s 1 _ _ rfl rfl;rw [v1.int_left];refine VRel.tuple_iff.2 (OV.cons ?_ (OV.cons (.atom rfl) OV.nil));have hp:(σ.put H.length f) H.length=some f:=PO.put_same;obtain ⟨_,K,l,A⟩:=v0.slice_left;rw [hL] at l;cases l;rcases A with ⟨h,_⟩ | ⟨M,he,c',hn,hr,rfl⟩ | ⟨a,h,rfl,rfl⟩
    ·unfold loose at h;omega
    ·have:M=e:=by unfold loose at he;omega
     subst this;exact .lslice hp hn hr
    ·exact .eslice hp h
 ·apply Om;intro X;refine q ?_;simp only [PO.put];rw [Ng (by omega)]
end
end Go.AM



namespace Go.Proofs.YtkppjkkkdpcgiaaGreat.Fn
open Go.AM Go.AM.Sym Go.Scan Go.Sort
structure Fo where
 (item place scanner kind at' late:Int)
 deriving Inhabited
structure BSt (H:NA) (S:List Ev) (T:List Int) (sp tp:Option Addr) (sc tc:Nat) (G:NA):Prop where
 so:Own H.length G encN 6 sp sc S
 to:Own H.length G encI 1 tp tc T
 ne:∀a b,sp=some a->tp=some b->a.block≠b.block
 old:∀j,j<H.length->NE G j=NE H j
 len:H.length<=G.length
end Go.Proofs.YtkppjkkkdpcgiaaGreat.Fn



namespace Go.Proofs.YtkppjkkkdpcgiaaGreat.Fn
open Go.AM Go.AM.Sym Go.Net Go.Scan
structure RL where
 (a b c d e f:Int)
 deriving DecidableEq,Inhabited
end Go.Proofs.YtkppjkkkdpcgiaaGreat.Fn



namespace Go.Proofs.YtkppjkkkdpcgiaaGreat.Fn
open Go.AM Go.AM.Sym Go.Net
variable {α:Type} {a b:List α}
theorem Nue [Inhabited α] {i:Nat} (hl:a.length=b.length) (hi:i<a.length) (c:∀j,j<i->gt a j=gt b j) (he:gt a i=gt b i):∀j,j<i+1->gt a j=gt b j:=fun j d=>by
 rcases Od j i with h | h
 ·exact c j h
 ·obtain rfl:j=i:=by omega
  exact he
theorem Nyu [Inhabited α] (hl:a.length=b.length) (c:∀j,j<a.length->gt a j=gt b j):a=b:=by
 apply Pr hl;intro i h1 h2;have:=c i h1
 rwa [OQ h1,OQ h2] at this
theorem Ncf [OA] {mp:Bool} {lim ca cb:Nat} {p q:Option Addr} {a b:List Int} {H:NA} {Q:Value->NA->Prop} (m:Sl H encI 1 p a) (n:Sl H encI 1 q b) (hn:a.length<2 ^ 62) :
  NQ E mp lim 80 [.slice p a.length ca,.slice q b.length cb] H Q=Q (.bool (decide (a=b))) H:=by
 refine pc (by decide) rfl rfl rfl ?_;rw [b80,c80];by_cases hl:a.length=b.length
 case neg=>
  have h1:¬(a.length:Int)=(b.length:Int):=by omega
  simp only [n80,Nc h1,SB,seval,NL,NH,reduceCtorEq,NG,NC];congr 1;rw [eq_comm,decide_eq_false_iff_not];rintro rfl;exact hl rfl
 have h1:(a.length:Int)=(b.length:Int):=by omega
 simp only [n80,Nh h1,SB,seval,NL,NH,reduceCtorEq,NG];refine NP (fun j=>a.length-j) (fun j fr G=>j<=a.length/\fr 0=.slice p a.length ca/\fr 1=.slice q b.length cb/\fr 5=Vi j/\OD H G/\∀i,i<j->gt a i=gt b i) 0 ⟨Np _,rfl,rfl,by rfl,OD.refl.app,fun i hi=>by omega⟩ ?_;intro j fr G ⟨s,f0,f1,f5,f,e⟩ hN;rw [NU N76.eq_1];refine NJ ?_;by_cases d:j<a.length
 case neg=>
  obtain rfl:j=a.length:=by omega
  simp only [n80,f0,f5,d,SB,seval,NL,NH,reduceCtorEq,NC];rw [Nj (Nyu hl e)]
 have h:=fun X=>((f.sl m).app X).loadCell0 OT d (by decide)
 have l:=fun X=>((f.sl n).app X).loadCell0 OT (by omega:j<b.length) (by decide)
 simp only [encI,Oq] at h l;have o:=fun c (kk:IntKind) (H1:NA)=>(f.sl m).idx (c:=c) (k:=kk) (H1:=H1) d
 have r:=fun c (kk:IntKind) (H1:NA)=>(f.sl n).idx (c:=c) (k:=kk) (H1:=H1) (by omega:j<b.length)
 have g:IntKind.i64.wrap ((j:Int)+1)=((j+1:Nat):Int):=OC (by omega);by_cases he:gt a j=gt b j
 ·simp only [n80,f0,f1,f5,d,h,l,o,r,g,Nh he,SB,seval,NL,NH,reduceCtorEq];exact hN (j+1) _ _ ⟨by omega,f0,f1,rfl,f.app,Nue hl d e he⟩ (by omega)
 ·simp only [n80,f0,f1,f5,d,h,l,o,r,Nc he,SB,seval,NL,NH,reduceCtorEq,NC];rw [Nw];rintro rfl;exact he rfl
end Go.Proofs.YtkppjkkkdpcgiaaGreat.Fn



namespace Go.Proofs.YtkppjkkkdpcgiaaGreat.Fn
open Go.AM Go.AM.Sym Go.Net Go.Scan
variable {A2 A5 e0 w c cp ce cl ca n cb cc:Nat} {Q Z:Value->NA->Prop} {K:List AItem} {a r b ul:Int} {L:List Leg} {pp pl pe:Option Addr} {G H G0:NA} {fr:Nat->Value} {es:List Ev} {T:List Wo} {mp:Bool} {l:Leg} {P:List Int}
theorem Nl4:Tf P↔(∀p∈P,1<=p/\p<=999999)/\P.Nodup:=by
 constructor
 ·intro h;refine ⟨fun p hp=>?_, ?_⟩
  ·obtain ⟨i,hi,rfl⟩:=List.mem_iff_getElem.1 hp;have:=h i hi;unfold pOk at this;rw [OQ hi] at this;exact ⟨this.1,this.2.1⟩
  ·unfold List.Nodup;rw [Pc];intro i j hi a b e;have h2:=(h j a).2.2;rw [OQ a] at h2;exact h2 (List.mem_take_iff_getElem.2 ⟨i,by omega,e⟩)
 ·rintro ⟨h1,h2⟩ i hi;unfold pOk;rw [OQ hi];refine ⟨(h1 _ (Qa hi)).1,(h1 _ (Qa hi)).2,fun hm=>?_⟩;obtain ⟨j,a,e⟩:=List.mem_take_iff_getElem.1 hm;unfold List.Nodup at h2;rw [Pc] at h2;exact h2 j i (by omega) hi (by omega) e
theorem Nvn {m:List Int}:∀{l:List Int},l.Nodup->(∀x∈l,x∈m)->l.length<=m.length:=by
 intro l
 induction l generalizing m with
 | nil=>intro _ _;exact Np _
 | cons a l ih=>
   intro hn hs;rw [List.nodup_cons] at hn;have h1:=hs a (by simp);have h2:=ih (m:=m.erase a) hn.2 fun x b=>(List.mem_erase_of_ne (fun e=>hn.1 (by rw [<-e];exact b))).2 (hs x (by simp [b]))
   rw [List.length_erase_of_mem h1] at h2;have:=List.length_pos_of_mem h1;simp only [Nm];omega
theorem Nbt {L:List Leg}:∀{w:List (Leg×Int)} {p t q v:Int},Su L p t w q v->∀x∈w,x.1∈L
 | [],_,_,_,_,_,x,hx=>by cases hx
 | (l,a)::w,_,_,_,_,h,x,hx=>by
   rcases Ns.1 hx with rfl | hx
   ·exact h.1
   ·exact Nbt h.2.2.2.2 x hx
theorem Na5 {p t q:Int} (hn:NetOk 50 P L (NW P)) (hp:p∈P):∀(j:Nat) (u:Int),Go.Net.Way L j p t q u->∃a u',a<P.length/\u'<=u/\Go.Net.Way L a p t q u':=fun j=>by
 induction j using Nat.strongRecOn with
 | ind j ih=>
   intro u h;by_cases hs:∃i v,i<j/\v<=u/\Go.Net.Way L i p t q v
   ·obtain ⟨i,v,h1,h2,f⟩:=hs;obtain ⟨a,u',d,n,e⟩:=ih i h1 v f;exact ⟨a,u',d,by omega,e⟩
   ·obtain ⟨w,k,c⟩:=h.isWay;have b:=c.nodup hn.fine fun i v hi g=>by
     rcases Od i j with h1 | h1
     ·exact absurd ⟨i,v,h1,g,hi⟩ hs
     ·omega
    have:=Nvn (m:=P) b fun x hx=>by
     rcases Ns.1 hx with rfl | hx
     ·exact hp
     ·obtain ⟨y,l,rfl⟩:=List.mem_map.1 hx;exact hn.dst _ (Nbt c y l)
    simp at this;exact ⟨j,u,by omega,Ow _,h⟩
theorem Nit {p t lim q:Int} (hn:NetOk 50 P L (NW P)) (hp:p∈P) (s:0<=t) (hl:t<=lim) (r:q∈P) :
  SL (fun u=>(∃j,Go.Net.Way L j p t q u)/\u<=lim) ((QM P.length (NW P) lim L p t P.length).getD (NW P q) (-1)):=by
 have d:NetOk P.length P L (NW P):=⟨hn.fine,hn.frm,hn.dst,hn.inj,fun a o=>N4 o⟩
 rcases Uu d hp s hl P.length q r with ⟨e,h⟩ | ⟨⟨⟨j,w,f⟩,c⟩,h⟩
 ·refine .inl ⟨e,fun u ⟨⟨j,f⟩,v⟩=>?_⟩;obtain ⟨k,l,m,n,b⟩:=Na5 hn hp j u f;exact h l ⟨⟨k,by omega,b⟩,by omega⟩
 ·refine .inr ⟨⟨⟨j,f⟩,c⟩,fun u ⟨⟨i,g⟩,v⟩=>?_⟩;obtain ⟨k,l,m,n,b⟩:=Na5 hn hp i u g;have:=h l ⟨⟨k,by omega,b⟩,by omega⟩;omega
theorem Niu {p t:Int} (hn:NetOk 50 P L (NW P)) (hp:p∈P) (b:0<=t):N7d P L p t (QM P.length (NW P) (t+86400) L p t P.length):=
 ⟨RZ,fun q a=>Nit hn hp b (by omega) a⟩
theorem UY [OA] {lim:Nat} {n:Int}:NQ E mp lim 82 [Vi n,Vi a,Vi b] H Q=Q (.bool (decide (a<=n/\n<=b))) H:=by
 refine pc (by decide) rfl rfl rfl ?_;rw [b82,c82];by_cases h1:a<=n
 ·simp only [n82,Nh h1,SB,seval,NL,NH,reduceCtorEq,NG,NC]
 ·simp only [n82,Nc h1,SB,seval,NL,NH,reduceCtorEq,NG,NC]
theorem Nh0 [OA] {lim:Nat} (hd:By l):NQ E mp lim 84 [.agg (encL l).toArray] H Q=Q (.bool (decide (Fine l))) H:=by
 refine pc (by decide) rfl rfl rfl ?_;rw [b84,c84];have no:¬Fine l->decide (Fine l)=false:=fun h=>Nw h
 by_cases h1:1<=l.id/\l.id<=999999
 case neg=>simp only [n84,RY,UY,Nw h1,no (fun h=>h1 (by unfold Fine at h;omega)),SB,seval,NF,NL,NG,place,NB,NC]
 by_cases h2:1<=l.frm/\l.frm<=999999
 case neg=>simp only [n84,RY,QR,UY,Nj h1,Nw h2,no (fun h=>h2 (by unfold Fine at h;omega)),SB,seval,NF,NL,NG,place,NB,NC]
 by_cases a:1<=l.dst/\l.dst<=999999
 case neg=>simp only [n84,RY,QR,R3,UY,Nj h1,Nj h2,Nw a,no (fun h=>a (by unfold Fine at h;omega)),SB,seval,NF,NL,NG,place,NB,NC]
 by_cases b:l.frm=l.dst
 ·simp only [n84,RY,QR,R3,UY,Nj h1,Nj h2,Nj a,Nh b,no (fun h=>by unfold Fine at h;omega),SB,seval,NF,NL,NH,NG,place,NB,NC]
 by_cases h5:0<=l.dep/\l.dep<=1439
 case neg=>simp only [n84,RY,QR,R3,VO,UY,Nj h1,Nj h2,Nj a,Nc b,Nw h5,no (fun h=>h5 (by unfold Fine at h;omega)),SB,seval,NF,NL,NH,NG,place,NB,NC]
 by_cases c:1<=l.mins/\l.mins<=20160
 case neg=>simp only [n84,RY,QR,R3,VO,Xd,UY,Nj h1,Nj h2,Nj a,Nc b,Nj h5,Nw c,no (fun h=>c (by unfold Fine at h;omega)),SB,seval,NF,NL,NH,NG,place,NB,NC]
 by_cases d:0<=l.cut/\l.cut<=10080
 case neg=>simp only [n84,RY,QR,R3,VO,Xd,UQ,UY,Nj h1,Nj h2,Nj a,Nc b,Nj h5,Nj c,Nw d,no (fun h=>d (by unfold Fine at h;omega)),SB,seval,NF,NL,NH,NG,place,NB,NC]
 by_cases e:0<=l.grams/\l.grams<=1000000000
 case neg=>simp only [n84,RY,QR,R3,VO,Xd,UQ,Nrl,UY,Nj h1,Nj h2,Nj a,Nc b,Nj h5,Nj c,Nj d,Nw e,no (fun h=>e (by unfold Fine at h;omega)),SB,seval,NF,NL,NH,NG,place,NB,NC]
 by_cases f:1<=l.days
 case neg=>simp only [n84,RY,QR,R3,VO,Xd,UQ,Nrl,Nkj,UY,Nj h1,Nj h2,Nj a,Nc b,Nj h5,Nj c,Nj d,Nj e,Nc f,no (fun h=>f (by unfold Fine at h;omega)),SB,seval,NF,NL,NH,NG,place,NB,NC]
 simp only [n84,RY,QR,R3,VO,Xd,UQ,Nrl,Nkj,UY,Nj h1,Nj h2,Nj a,Nc b,Nj h5,Nj c,Nj d,Nj e,Nh f,SB,seval,NF,NL,NH,NG,place,NB,NC];congr 2;unfold Fine;exact propext (by omega)
theorem N13 [OA] {lim:Nat} {p:Option Addr} (hs:Sl H encI 1 p P) (hn:P.length<2 ^ 62):NQ E mp lim 83 [.slice p P.length c,Vi a] H Q=Q (Vi (P.count a:Int)) H:=by
 refine pc (by decide) rfl rfl rfl ?_;rw [b83,c83];simp only [n83,SB,seval,NL];refine NP (fun j=>P.length-j) (fun j fr G=>j<=P.length/\fr 0=.slice p P.length c/\fr 1=Vi a/\fr 5=Vi ((P.take j).count a:Int)/\fr 6=Vi j/\OD H G) 0 ⟨Np _,rfl,rfl,by rfl,by rfl,OD.refl.app⟩ ?_;intro j fr G ⟨m,f0,f1,f5,g,f⟩ hN;rw [NU N74.eq_1];refine NJ ?_;by_cases b:j<P.length
 case neg=>
  obtain rfl:j=P.length:=by omega
  rw [N9] at f5;simp only [n83,f0,f5,g,b,SB,seval,NL,NH,reduceCtorEq,NC]
 have i:=fun X=>((f.sl hs).app X).loadCell0 OT b (by decide)
 simp only [encI,Oq] at i;have l:=fun c (kk:IntKind) (H1:NA)=>(f.sl hs).idx (c:=c) (k:=kk) (H1:=H1) b
 have e:IntKind.i64.wrap ((j:Int)+1)=((j+1:Nat):Int):=OC (by omega);have hc:(P.take j).count a<=P.length:=Pt List.count_le_length (by rw [N5];omega);have d:(P.take (j+1)).count a=(P.take j).count a+if gt P j=a then 1 else 0:=by
  rw [Wi b,List.count_append,List.count_cons,List.count_nil];simp
 have h:IntKind.i64.wrap (((P.take j).count a:Int)+1)=(((P.take j).count a+1:Nat):Int):=OC (by omega);by_cases he:gt P j=a
 ·rw [Nl he] at d;simp only [n83,f0,f1,f5,g,b,i,l,e,h,Nh he,SB,seval,NL,NH,reduceCtorEq];exact hN (j+1) _ _ ⟨by omega,f0,f1,by rw [d];exact rfl,rfl,f.app⟩ (by omega)
 ·rw [Ng he] at d;replace d:(P.take (j+1)).count a=(P.take j).count a:=d;simp only [n83,f0,f1,g,b,i,l,e,Nc he,SB,seval,NL,NH,reduceCtorEq];exact hN (j+1) _ _ ⟨by omega,f0,f1,by rw [d];exact f5,rfl,f.app⟩ (by omega)
theorem Nab:Tf P↔∀i,i<P.length->(1<=gt P i/\gt P i<=999999)/\P.count (gt P i)<=1:=by
 rw [Nl4,List.nodup_iff_count];constructor
 ·rintro ⟨h1,h2⟩ i hi;exact ⟨h1 _ (PM hi),h2 _⟩
 ·intro h;refine ⟨fun p hp=>?_,fun a=>?_⟩
  ·obtain ⟨i,hi,rfl⟩:=List.mem_iff_getElem.1 hp;rw [<-OQ hi];exact (h i hi).1
  ·by_cases b:a∈P
   ·obtain ⟨i,hi,rfl⟩:=List.mem_iff_getElem.1 b;rw [<-OQ hi];exact (h i hi).2
   ·rw [List.count_eq_zero_of_not_mem b];omega
theorem Nji [OA] {i R5:Nat}
  (hn:NetIn G pp pl P L) (hi:i<L.length) (hB:NE G H.length=Vc (netV pp P.length cp pl L.length cl)) (h5:NE G R5=Vc (encL (gt L i)))
  (f1:fr 1=Vp H.length) (f4:fr 4=Vi i) (f5:fr 5=Vp R5) (u:fr 6=Vi 0)
  (b:(gt L i).id∈(L.take i).map (·.id)->Z (Vi 321) (G++[]))
  (v:(gt L i).id∉(L.take i).map (·.id)->∀fr',fr' 1=fr 1->fr' 4=fr 4->PT E a46 H.length K fr' (G++[]) Z) :
  PT E a46 H.length (.code (.loop N01)::.inBlock 4::K) fr G Z:=by
 have n:=zc hB;have m:=zc h5;refine NP (fun j=>i-j) (fun j fr' G'=>j<=i/\fr' 1=Vp H.length/\fr' 4=Vi i/\fr' 5=Vp R5/\fr' 6=Vi j/\G'=G++[]/\∀k,k<j->(gt L k).id≠(gt L i).id) 0 ⟨Np _,f1,f4,f5,u,by simp,fun k hk=>by omega⟩ ?_;rintro j fr' G' ⟨w,o,g,p,q,rfl,a⟩ hN;rw [NU N01.eq_1];by_cases f:j<i
 case neg=>
  obtain rfl:j=i:=by omega
  simp only [n46,g,q,f,SB,seval,NL,NH];refine v (fun hm=>?_) _ (by rw [f1];exact o) (by rw [f4];exact g);obtain ⟨l,hl,e⟩:=List.mem_map.1 hm;obtain ⟨k,hk,rfl⟩:=List.mem_take_iff_getElem.1 hl;exact a k (by omega) (by rw [OQ (by omega)];exact e)
 have d:j<L.length:=by omega
 have s:=fun X=>(hn.sl.app X).loadCell NZ d (j:=0) (by decide)
 rw [RY] at s;have t:=fun c (kk:IntKind) (H1:NA)=>hn.sl.idx (c:=c) (k:=kk) (H1:=H1) d
 have r:IntKind.i64.wrap ((j:Int)+1)=((j+1:Nat):Int):=OC (by have:=hn.nl;omega);by_cases he:(gt L j).id=(gt L i).id
 ·simp only [n46,o,g,p,q,f,n,m,s,t,QE,RY,Nh he,SB,seval,NL,NH,NC];rw [Na] at b;rw [Na];refine b (List.mem_map.2 ⟨gt L j, ?_,he⟩);rw [OQ d];exact List.mem_take_iff_getElem.2 ⟨j,by omega,rfl⟩
 ·simp only [n46,o,g,p,q,f,n,m,s,t,r,QE,RY,Nc he,SB,seval,NL,NH];exact hN (j+1) _ _ ⟨by omega,o,g,p,rfl,rfl,fun k hk=>by
   rcases Od k j with h | h
   ·exact a k h
   ·obtain rfl:k=j:=by omega
    exact he⟩ (by omega)
theorem Nhn [OA] {lim:Nat} (hn:NetIn H pp pl P L) :
  NQ E mp lim 46 [.agg (netV pp P.length cp pl L.length cl).toArray] H Q=Q (Vi (QD P L)) H:=by
 refine pc (by decide) rfl rfl rfl ?_;rw [b46,c46];by_cases y:50<(P.length:Int)
 ·simp only [n46,Rw,Nh y,SB,seval,NL,NH,NG,place,NB,NC];rw [QD,Nl (by omega)]
 by_cases s:200<(L.length:Int)
 ·simp only [n46,Rw,QE,Nc y,Nh s,SB,seval,NL,NH,NG,place,NB,NC];rw [QD,Nl (by omega)]
 simp only [n46,Rw,QE,Nc y,Nc s,SB,seval,NL,NH,NG,place,NB];have F:QD P L=if ¬Tf P then 320 else if ¬Xj P L then 321 else 0:=by rw [QD,Ng (by omega)]
 refine NP (fun i=>P.length-i) (fun i fr G=>i<=P.length/\fr 1=Vp H.length/\fr 3=Vi i/\OD H G/\NE G H.length=Vc (netV pp P.length cp pl L.length cl)/\∀j,j<i->(1<=gt P j/\gt P j<=999999)/\P.count (gt P j)<=1) 0
  ⟨Np _,rfl,by rfl,OD.refl.app,NN,fun j N=>by omega⟩ ?_
 intro i fr G ⟨hi,f1,f3,J,hB,t⟩ hN;rw [NU N8s.eq_1];refine NJ ?_;have n:=zc hB;have B:=hn.ext J;by_cases g:i<P.length
 case pos=>
  have r:=fun X=>(B.sp.app X).loadCell0 OT g (by decide)
  simp only [encI,Oq] at r;have u:=fun c (kk:IntKind) (H1:NA)=>B.sp.idx (c:=c) (k:=kk) (H1:=H1) g
  have C:IntKind.i64.wrap ((i:Int)+1)=((i+1:Nat):Int):=OC (by omega);have d:=fun X (mp:Bool) (lim:Nat) (Q:Value->NA->Prop)=>N13 (mp:=mp) (lim:=lim) (c:=cp) (a:=gt P i) (Q:=Q) (B.sp.app X) (by omega)
  have f:¬((1<=gt P i/\gt P i<=999999)/\P.count (gt P i)<=1)->QD P L=320:=fun h=>by
   rw [F,Nl fun M=>h (Nab.1 M i g)]
  by_cases h1:1<=gt P i/\gt P i<=999999
  case neg=>
   simp only [n46,f1,f3,n,Rw,g,r,u,UY,Nw h1,SB,seval,NF,NL,NH,RN,NC];rw [f fun h=>h1 h.1]
  by_cases h2:1<(P.count (gt P i):Int)
  ·simp only [n46,f1,f3,n,Rw,g,r,u,UY,Nj h1,d,Nh h2,SB,seval,NF,NL,NH,RN,NC];rw [f fun h=>by omega]
  ·simp only [n46,f1,f3,n,Rw,g,r,u,UY,Nj h1,d,Nc h2,C,SB,seval,NF,NL,NH,RN];exact hN (i+1) _ _ ⟨by omega,f1,rfl,J.app,(OD.refl.app).cells hB,fun j N=>by
    rcases Od j i with h | h
    ·exact t j h
    ·obtain rfl:j=i:=by omega
     exact ⟨h1,by omega⟩⟩ (by omega)
 obtain rfl:i=P.length:=by omega
 have O:Tf P:=Nab.2 t;rw [Ng (by simpa using O)] at F;simp only [n46,f1,f3,n,Rw,g,SB,seval,NL,NH];refine NP (fun i=>L.length-i) (fun i v G2=>i<=L.length/\v 1=Vp H.length/\v 4=Vi i/\OD H G2/\NE G2 H.length=Vc (netV pp P.length cp pl L.length cl)/\∀j,j<i->lOk P L j) 0
  ⟨Np _,f1,by rfl,J.app,(OD.refl.app).cells hB,fun j N=>by omega⟩ ?_
 intro i v G2 ⟨R,w,x,A,z,m⟩ hM;rw [NU N8t.eq_1];refine NJ ?_;have e:=zc z;have p:=hn.ext A;have o:=A.len;by_cases b:i<L.length
 case neg=>
  obtain rfl:i=L.length:=by omega
  rw [Ng (show ¬¬Xj P L from fun h=>h m)] at F;simp only [n46,w,x,e,QE,b,F,SB,seval,NL,NH,NC]
 have r:=fun X=>(p.sl.app X).loadCells NZ b
 have u:=fun c (kk:IntKind) (H1:NA)=>p.sl.idx (c:=c) (k:=kk) (H1:=H1) b
 have C:IntKind.i64.wrap ((i:Int)+1)=((i+1:Nat):Int):=OC (by omega);have K:=hn.bys _ (PM b);have q:=fun (H:NA) (mp:Bool) (lim:Nat) (Q:Value->NA->Prop)=>Nh0 (mp:=mp) (lim:=lim) (H:=H) (Q:=Q) K
 have d:=fun X (a:Int) (mp:Bool) (lim:Nat) (Q:Value->NA->Prop)=>N13 (mp:=mp) (lim:=lim) (c:=cp) (a:=a) (Q:=Q) (p.sp.app X) (by omega)
 have f:¬lOk P L i->QD P L=321:=fun h=>by rw [F,Nl fun M=>h (M i b)]
 have l:∀a:Int,(P.count a:Int)=0↔a∉P:=fun a=>by rw [<-List.count_eq_zero];omega
 by_cases h1:Fine (gt L i)
 case neg=>
  simp only [n46,w,x,e,QE,NZ,NK,b,r,u,NI,o,q,Nw h1,SB,seval,NF,NL,NH,RN,place,NB,NC];rw [f fun h=>h1 h.1]
 by_cases h2:(gt L i).frm∈P
 case neg=>
  simp only [n46,w,x,e,Rw,QE,NZ,QR,NK,b,r,u,NI,o,q,d,Nj h1,Nh ((l _).2 h2),SB,seval,NF,NL,NH,RN,place,NB,NC];rw [f fun h=>h2 h.2.2.1]
 by_cases I:(gt L i).dst∈P
 case neg=>
  simp only [n46,w,x,e,Rw,QE,NZ,QR,R3,NK,b,r,u,NI,o,q,d,Nj h1,Nc (fun h=>(l _).1 h h2),Nh ((l _).2 I),SB,seval,NF,NL,NH,RN,place,NB,NC];rw [f fun h=>I h.2.2.2]
 simp only [n46,w,x,e,Rw,QE,NZ,QR,R3,NK,b,r,u,NI,o,q,d,Nj h1,Nc (fun h=>(l _).1 h h2),Nc (fun h=>(l _).1 h I),SB,seval,NF,NL,NH,RN,place,NB];refine Nji (R5:=G2.length) (cp:=cp) (cl:=cl) (p.app _) b ((OD.refl.app).cells z) NN w x rfl rfl (fun hm=>?_) (fun hm D k1 k4=>?_)
 ·rw [f fun h=>h.2.1 hm]
 ·replace k1:D 1=Vp H.length:=k1.trans w;replace k4:D 4=Vi i:=k4.trans x;simp only [n46,k4,C,SB,seval,NL,NH];exact hM (i+1) _ _ ⟨by omega,k1,rfl,A.app,(OD.refl.app).cells z,fun j N=>by
   rcases Od j i with h | h
   ·exact m j h
   ·obtain rfl:j=i:=by omega
    exact ⟨h1,hm,h2,I⟩⟩ (by omega)
def UW (l:Leg) (d:Int):Option (Int×Int):=if 0<=d/\d<730485 then UR l d.toNat else none
theorem Ny2 [OA] {lim:Nat} (hn:NetIn H pp pl P L) :
  NQ E mp lim 119 [.agg (netV pp P.length cp pl L.length cl).toArray,Vi a] H Q=Q (match L.find? (fun l=>l.id=a) with | some l=>.tuple #[.agg (encL l).toArray,.bool true] | none=>.tuple #[.agg #[Vi 0,Vi 0,Vi 0,Vi 0,Vi 0,Vi 0,Vi 0,.int .u8 0],.bool false]) H:=by
 refine pc (by decide) Ofh rfl (by cases L.find? (fun l=>l.id=a)<;>rfl) ?_;rw [Ogt,c119];simp only [n119,SB,seval,NL,NG,place,NB];refine NP (fun i=>L.length-i) (fun i fr G=>i<=L.length/\fr 1=Vi a/\fr 2=Vp H.length/\fr 4=Vp (H.length+1)/\fr 6=Vi i/\OD H G/\NE G H.length=Vc (netV pp P.length cp pl L.length cl)/\
  NE G (H.length+1)=Vc [Vi 0,Vi 0,Vi 0,Vi 0,Vi 0,Vi 0,Vi 0,.int .u8 0]/\L.find? (fun l=>l.id=a)=(L.drop i).find? (fun l=>l.id=a)) 0
  ⟨Np _,rfl,rfl,rfl,by rfl,OD.refl.app,NN,NY,rfl⟩ ?_
 intro i fr G ⟨hi,h1,h2,q,r,o,hB,p,h⟩ hN;have hl:=o.len;rw [NU N1g.eq_1];refine NJ ?_;have g:=zc hB;have n:=zc p;by_cases b:i<L.length
 ·have s:=fun X=>((o.sl hn.sl).app X).loadCells NZ b
  have m:=fun X=>((o.sl hn.sl).app X).loadCell NZ b (j:=0) (by decide)
  rw [RY] at m;have e:=fun c (k:IntKind) (H1:NA)=>(o.sl hn.sl).idx (c:=c) (k:=k) (H1:=H1) b
  have t:IntKind.i64.wrap ((i:Int)+1)=((i+1:Nat):Int):=OC (by have:=hn.nl;omega);rw [Nip b] at h;obtain ⟨G2,e2,k2,u⟩:=OO (NM p) (Vc (encL (gt L i)));have f:=zc k2;by_cases d:(gt L i).id=a
  ·simp only [d,decide_true,if_true] at h;simp only [n119,Ocl,h1,h2,q,r,b,e,s,m,g,n,QE,NZ,NK,show H.length<=H.length+1 by omega,Nh d,NI,e2,f,SB,seval,NL,NH,NB,NC];rw [h]
  ·simp only [d,decide_false,N3,if_false] at h;simp only [n119,h1,h2,r,b,e,m,t,g,QE,Nc d,SB,seval,NL,NH];exact hN (i+1) _ _ ⟨by omega,h1,h2,q,rfl,o.app,(OD.refl.app).cells hB,(OD.refl.app).cells p,h⟩ (by omega)
 ·obtain rfl:i=L.length:=by omega
  rw [Qk,List.find?_nil] at h;obtain ⟨G2,e2,k2,u⟩:=OO (NM p) (Vc [Vi 0,Vi 0,Vi 0,Vi 0,Vi 0,Vi 0,Vi 0,.int .u8 0]);have f:=zc k2;simp only [n119,Ocl,h2,q,r,b,g,n,QE,show H.length<=H.length+1 by omega,e2,f,SB,seval,NL,NH,NB,NC];rw [h]
theorem Nyz [OA] {lim:Nat} (hd:By l) (m:w<=6):NQ E mp lim 166 [.agg (encL l).toArray,Vi w] H Q=Q (.bool (l.days.toNat / 2 ^ w % 2 == 1)) H:=by
 refine pc (by decide) Oet rfl rfl ?_;rw [Of5,Oay];unfold By at hd;obtain ⟨D,g⟩:∃D:Nat,l.days=(D:Int):=⟨l.days.toNat,by omega⟩
 have wd:IntKind.i64.wrap l.days=l.days:=NR (by omega) (by omega);simp only [n166,Nkj,wd,SB,seval,NL,NG,place,NB];rw [g,N1];refine NP (fun j=>w-j) (fun j fr G=>j<=w/\fr 1=Vi w/\fr 5=Vi ((D / 2 ^ j:Nat):Int)/\fr 6=Vi j) 0 ⟨Np _,rfl,by simp only [FB,Nat.reduceEqDiff,Nat.pow_zero,Nat.div_one],by rfl⟩ ?_;intro j fr G ⟨k,f1,f5,c⟩ hN;rw [NU N07.eq_1];refine NJ ?_;have h:D / 2 ^ j<=D:=Rk _ _;by_cases a:j<w
 ·have d:IntKind.i64.wrap ((j:Int)+1)=((j+1:Nat):Int):=OC (by omega);have e:IntKind.i64.wrap (Int.tdiv ((D / 2 ^ j:Nat):Int) 2)=((D / 2 ^ (j+1):Nat):Int):=by
   rw [show Int.tdiv ((D / 2 ^ j:Nat):Int) 2=((D / 2 ^ j / 2:Nat):Int) from rfl,Nat.div_div_eq_div_mul,show 2 ^ j*2=2 ^ (j+1) from rfl];have:D / 2 ^ (j+1)<=D:=Rk _ _;generalize D / 2 ^ (j+1)=z at this⊢;exact NR (by omega) (by omega)
  simp only [n166,f1,f5,c,a,d,e,SB,seval,NL,NH];exact hN (j+1) _ _ ⟨by omega,f1,rfl,rfl⟩ (by omega)
 ·obtain rfl:j=w:=by omega
  have hm:Int.tmod ((D / 2 ^ j:Nat):Int) 2=((D / 2 ^ j % 2:Nat):Int):=rfl;have f:D / 2 ^ j % 2<2:=P6 _ (by decide);generalize D / 2 ^ j % 2=z at hm f;have b:IntKind.i64.wrap (z:Int)=(z:Int):=NR (by omega) (by omega)
  match z,f,hm,b with
  | 0,_,hm,b=>
    replace hm:Int.tmod ((D / 2 ^ j:Nat):Int) 2=0:=hm;have i:IntKind.i64.wrap 0=0:=by decide
    simp only [n166,Ocb,f1,f5,c,a,hm,SB,Nat.reduceLT,NL,Nat.reduceEqDiff,NH,NC,Int.reduceEq];rfl
  | 1,_,hm,b=>
    replace hm:Int.tmod ((D / 2 ^ j:Nat):Int) 2=1:=hm;have i:IntKind.i64.wrap 1=1:=by decide
    simp only [n166,Ocb,f1,f5,c,a,hm,SB,Nat.reduceLT,NL,Nat.reduceEqDiff,NH,NC,Int.reduceEq];rfl
theorem N9m [OA] {lim:Nat} {d:Int} (hl:Fine l):NQ E mp lim 140 [.agg (encL l).toArray,Vi d] H Q=Q (TE (UW l d)) H:=by
 refine pc (by decide) Oe0 rfl XA ?_;rw [Ogc,Oa1];have a:=fun (H:NA) (mp:Bool) (lim:Nat) (Q:Value->NA->Prop)=>Nh0 (mp:=mp) (lim:=lim) (H:=H) (Q:=Q) hl.by
 rw [Nj hl] at a;have k:=hl;unfold Fine at k;by_cases h1:0<=d/\d<=730484
 case neg=>
  have e:UW l d=none:=by unfold UW;rw [Ng (by omega)]
  simp only [n140,Ny5,NZ,NK,a,UY,Nw h1,e,TE,SB,seval,NF,NL,RN,NG,place,NB,NC]
 obtain ⟨n,rfl⟩:∃n:Nat,d=(n:Int):=⟨d.toNat,by omega⟩
 have e:UW l (n:Int)=UR l n:=by unfold UW;rw [Nl (by omega),N1]
 rw [e];have hm:Int.tmod (n:Int) 7=((n % 7:Nat):Int):=rfl;have m:IntKind.i64.wrap ((n % 7:Nat):Int)=((n % 7:Nat):Int):=NR (by omega) (by omega);have c:=fun (H:NA) (mp:Bool) (lim:Nat) (Q:Value->NA->Prop)=>Nyz (mp:=mp) (lim:=lim) (H:=H) (Q:=Q) (w:=n % 7) hl.by (by omega)
 have f:goes l n=(l.days.toNat / 2 ^ (n % 7) % 2 == 1&&decide (0<=1440*(n:Int)+l.dep-l.cut)&&decide (1440*(n:Int)+l.dep+l.mins<=1051898399)):=rfl;generalize (l.days.toNat / 2 ^ (n % 7) % 2 == 1)=b at c f;have w1:IntKind.i64.wrap ((n:Int)*1440)=1440*(n:Int):=by rw [NR (by omega) (by omega)];omega
 have w2:IntKind.i64.wrap (1440*(n:Int)+l.dep)=1440*(n:Int)+l.dep:=NR (by omega) (by omega);have g:IntKind.i64.wrap (1440*(n:Int)+l.dep-l.cut)=1440*(n:Int)+l.dep-l.cut:=NR (by omega) (by omega);have j:IntKind.i64.wrap (1440*(n:Int)+l.dep+l.mins)=1440*(n:Int)+l.dep+l.mins:=NR (by omega) (by omega);have no:goes l n=false->UR l n=none:=fun h=>by unfold UR;rw [h];rfl
 cases b with
 | false=>
   have e2:=no (by rw [f];rfl);simp only [n140,Ny5,NZ,NK,a,UY,Nj h1,hm,c,e2,TE,SB,seval,NF,NL,NH,RN,NG,place,NB,NC]
 | true=>
   by_cases h2:1440*(n:Int)+l.dep-l.cut<0
   ·have e2:=no (by rw [f,Nw (by omega)];rfl);simp only [n140,Ny5,NZ,VO,UQ,NK,a,UY,Nj h1,hm,c,w1,w2,g,Nh h2,e2,TE,SB,seval,NF,NL,NH,RN,NG,place,NB,NC]
   ·by_cases i:1051898399<1440*(n:Int)+l.dep+l.mins
    ·have e2:=no (by rw [f,Nw (p:=_<=(1051898399:Int)) (by omega),Bool.and_false]);simp only [n140,Ny5,NZ,VO,Xd,UQ,NK,a,UY,Nj h1,hm,c,w1,w2,g,j,Nc h2,Nh i,e2,TE,SB,seval,NF,NL,NH,RN,NG,place,NB,NC]
    ·have e2:UR l n=some (1440*(n:Int)+l.dep,1440*(n:Int)+l.dep+l.mins):=by
      unfold UR;rw [f,Nj (p:=_<=(1051898399:Int)) (by omega),Nj (by omega)];rfl
     simp only [n140,Ny5,NZ,VO,Xd,UQ,NK,a,UY,Nj h1,hm,c,w1,w2,g,j,Nc h2,Nc i,e2,TE,SB,seval,NF,NL,NH,RN,NG,place,NB,NC]
theorem Xq [OA] {lim:Nat} {p:Int} (hn:NetIn H pp pl P L) :
  NQ E mp lim 116 [.agg (netV pp P.length cp pl L.length cl).toArray,Vi p] H Q=Q (Vi (Sm P p)) H:=by
 refine pc (by decide) Ofk rfl rfl ?_;rw [Ogw,c116];simp only [n116,SB,seval,NL,NG,place,NB];refine NP (fun i=>P.length-i) (fun i fr G=>i<=P.length/\fr 1=Vi p/\fr 2=Vp H.length/\fr 5=Vi i/\OD H G/\NE G H.length=Vc (netV pp P.length cp pl L.length cl)/\∀j,j<i->gt P j≠p) 0
  ⟨Np _,rfl,rfl,by rfl,OD.refl.app,NN,fun j g=>by omega⟩ ?_
 intro i fr G ⟨hi,h1,h2,h5,l,n,b⟩ hN;rw [NU N1i.eq_1];refine NJ ?_;have e:=zc n;by_cases a:i<P.length
 ·have f:=fun X=>((l.sl hn.sp).app X).loadCell0 OT a (by decide)
  simp only [encI,Oq] at f;have d:=fun c (k:IntKind) (H1:NA)=>(l.sl hn.sp).idx (c:=c) (k:=k) (H1:=H1) a
  have m:IntKind.i64.wrap ((i:Int)+1)=((i+1:Nat):Int):=OC (by have:=hn.np;omega);by_cases he:gt P i=p
  ·simp only [n116,Ocn,h1,h2,h5,e,Rw,a,d,f,Nh he,SB,seval,NL,NH,NC];congr 1;have hm:p∈P:=he▸PM a;rw [Sm,Nl hm];have h1:NW P p<=i:=by
    unfold NW;apply Oe;intro hc;have:=List.not_of_lt_findIdx (xs:=P) (p:=(· == p)) (i:=i) (by unfold List.idxOf at hc;omega);rw [OQ a] at he;simp [he] at this
   rcases Od (NW P p) i with h3 | h3
   ·exfalso;have hl:NW P p<P.length:=N4 hm;have:=Qo hl;refine b _ h3 ?_;rw [OQ hl];exact this
   ·omega
  ·simp only [n116,h1,h2,h5,e,Rw,a,d,f,m,Nc he,SB,seval,NL,NH];exact hN (i+1) _ _ ⟨by omega,h1,h2,rfl,l.app,(OD.refl.app).cells n,fun j g=>by
    rcases Od j i with h | h
    ·exact b j h
    ·obtain rfl:j=i:=by omega
     exact he⟩ (by omega)
 ·obtain rfl:i=P.length:=by omega
  simp only [n116,Ocn,h2,h5,e,Rw,a,SB,seval,NL,NH,NC];rw [Sm,Ng fun hm=>?_];obtain ⟨j,g,he⟩:=List.mem_iff_getElem.1 hm;exact b j g (by rw [OQ g];exact he)
theorem Nhu [OA] {lim:Nat} {t:Int} (hn:NetIn H pp pl P L) :
  NQ E mp lim 115 [.agg (netV pp P.length cp pl L.length cl).toArray,Vi a,Vi b,Vi t] H Q=Q (Vi (SI P L a b t)) H:=by
 refine pc (by decide) Ofl rfl rfl ?_;rw [Ogx,Obe];have d:=fun X (mp:Bool) (lim:Nat) (Q:Value->NA->Prop)=>Nhn (mp:=mp) (lim:=lim) (cp:=cp) (cl:=cl) (Q:=Q) (hn.app X)
 have hp:=fun X (a:Int) (mp:Bool) (lim:Nat) (Q:Value->NA->Prop)=>Xq (mp:=mp) (lim:=lim) (cp:=cp) (cl:=cl) (Q:=Q) (p:=a) (hn.app X)
 by_cases c:QD P L=0
 case neg=>
  have e:SI P L a b t=QD P L:=by unfold SI;rw [Nl c]
  simp only [n115,Nup,OG,NK,d,Nc c,e,SB,seval,NF,NL,NH,NG,place,NB,NC]
 have e2:¬(a∈P/\b∈P/\0<=t/\t<=NV)->SI P L a b t=2:=fun h=>by unfold SI;rw [Ng (by simpa using c),Ng h]
 have i:=Nhx (P:=P) (p:=a);have j:=Nhx (P:=P) (p:=b);by_cases h1:Sm P a<0
 ·have e:=e2 fun h=>by have:=i.2 h.1;omega
  simp only [n115,Nup,OG,NK,d,hp,Nh c,Nh h1,e,SB,seval,NF,NL,NH,NG,place,NB,NC]
 by_cases h2:Sm P b<0
 ·have e:=e2 fun h=>by have:=j.2 h.2.1;omega
  simp only [n115,Nup,OG,NK,d,hp,Nh c,Nc h1,Nh h2,e,SB,seval,NF,NL,NH,NG,place,NB,NC]
 by_cases f:t<0
 ·have e:=e2 fun h=>by omega
  simp only [n115,Nup,OG,NK,d,hp,Nh c,Nc h1,Nc h2,Nh f,e,SB,seval,NF,NL,NH,NG,place,NB,NC]
 by_cases g:1051898399<t
 ·have e:=e2 fun h=>by unfold NV at h;omega
  simp only [n115,Nup,OG,NK,d,hp,Nh c,Nc h1,Nc h2,Nc f,Nh g,e,SB,seval,NF,NL,NH,NG,place,NB,NC]
 have e:SI P L a b t=0:=by unfold SI;rw [Ng (by simpa using c),Nl ⟨i.1 (by omega),j.1 (by omega),by omega,by unfold NV;omega⟩]
 simp only [n115,Nup,OG,NK,d,hp,Nh c,Nc h1,Nc h2,Nc f,Nc g,e,SB,seval,NF,NL,NH,NG,place,NB,NC]
def VK (t:Int):Int:=if t<0 then 0 else if 1051898399<t then 730485 else Int.tdiv t 1440
theorem Nul [OA] {lim:Nat} {t:Int} (c:-2 ^ 62<t/\t<2 ^ 62):NQ E mp lim 139 [Vi t] H Q=Q (Vi (VK t)) H:=by
 refine pc (by decide) Oe1 rfl rfl ?_;rw [Ogd,c139];by_cases h1:t<0
 ·simp only [n139,N9q,Nh h1,SB,seval,NL,NH,reduceCtorEq,NG,NC];unfold VK;rw [Nl h1]
 ·by_cases h2:1051898399<t
  ·simp only [n139,N9q,Nc h1,Nh h2,SB,seval,NL,NH,reduceCtorEq,NG,NC];unfold VK;rw [Ng h1,Nl h2]
  ·simp only [n139,N9q,Nc h1,Nc h2,SB,seval,NL,NH,reduceCtorEq,NG,NC];unfold VK;rw [Ng h1,Ng h2];have:=O5 (a:=t) (b:=1440) (by omega);rw [NR (by omega) (by omega)]
theorem Nv8 {d e:Nat} (hl:Fine l) (h:goes l d=true) (a:d % 7=e % 7) (b:e<=d) (c:7<=e):goes l e=true:=by
 unfold goes runs at *;unfold Fine at hl;simp only [N2,N6] at h⊢;rw [<-a];refine ⟨⟨h.1.1,by omega⟩,by omega⟩
theorem N5z (hl:Fine l) (hr:0<=r) (he:(e0:Int)=r / 1440) (j:∀i:Nat,i<30->∀a b,UW l ((e0+i:Nat):Int)=some (a,b)->¬r<=a-l.cut):R7 l r=none:=by
 refine Nmq fun d hd ⟨c,f⟩=>?_
 have g:=hl;unfold Fine at g;have m:e0<=d:=by omega
 have n:=WO;have key:∀i:Nat,i<30->e0+i<VQ->goes l (e0+i)=true->¬r<=1440*((e0+i:Nat):Int)+l.dep-l.cut:=fun i hi hn c=>by
  refine j i hi _ (1440*((e0+i:Nat):Int)+l.dep+l.mins) ?_;unfold UW UR;rw [Nl ⟨by omega,by omega⟩,N1,Nl c]
 rcases Od d (e0+30) with h | h
 ·have:=key (d-e0) (by omega) (by omega) (by rw [show e0+(d-e0)=d by omega];exact c);rw [show e0+(d-e0)=d by omega] at this;exact this f
 ·obtain ⟨k,hk⟩:∃k,k=(d-(e0+10)) % 7:=⟨_,rfl⟩
  have h2:=Nv8 (e:=e0+(10+k)) hl c (by omega) (by omega) (by omega);exact key (10+k) (by omega) (by omega) h2 (by omega)
theorem N50 (hl:Fine l) (hr:0<=r) {i:Nat} (he:(e0:Int)=r / 1440) (hi:UW l ((e0+i:Nat):Int)=some (a,b)) (e:r<=a-l.cut) (g:∀j:Nat,j<i->∀a b,UW l ((e0+j:Nat):Int)=some (a,b)->¬r<=a-l.cut):R7 l r=some a/\b=a+l.mins:=by
 unfold UW UR at hi;split at hi
 case isFalse=>cases hi
 rename_i h1;rw [N1] at hi;split at hi
 case isFalse=>cases hi
 rename_i h2;cases hi;have m:=WO;have f:=hl;unfold Fine at f;refine ⟨Ne2 (by omega) h2 e fun d hd ⟨k,c⟩=>?_,rfl⟩;have h:e0<=d:=by omega
 refine g (d-e0) (by omega) (1440*(d:Int)+l.dep) (1440*(d:Int)+l.dep+l.mins) ?_ c;unfold UW UR;rw [show e0+(d-e0)=d by omega,Nl ⟨by omega,by omega⟩,N1,Nl k]
theorem Nlx [OA] {lim:Nat} (hl:Fine l) (hr:0<=r) (P:r<2 ^ 40):NQ E mp lim 118 [.agg (encL l).toArray,Vi r] H Q=Q (TE ((R7 l r).map fun a=>(a,a+l.mins))) H:=by
 refine pc (by decide) Ofi rfl XA ?_;rw [Ogu,Obd];have L:=hl;unfold Fine at L;obtain ⟨e0,k⟩:∃e0:Nat,VK r=e0:=⟨(VK r).toNat,by unfold VK;split<;>(try split)<;>(try have:=O5 (a:=r) (b:=1440) (by omega))<;>omega⟩
 have u:∀(H:NA) (mp:Bool) (lim:Nat) (Q:Value->NA->Prop),NQ E mp lim 139 [Vi r] H Q=Q (Vi e0) H:=fun H mp lim Q=>by rw [<-k];exact Nul ⟨by omega,by omega⟩
 have N:e0<=730485:=by
  have:VK r<=730485:=by
   unfold VK;split<;>(try split)<;>(try have:=O5 (a:=r) (b:=1440) (by omega))<;>omega
  omega
 have v:=fun (d:Int) (H:NA) (mp:Bool) (lim:Nat) (Q:Value->NA->Prop)=>N9m (mp:=mp) (lim:=lim) (d:=d) (H:=H) (Q:=Q) hl
 have t:(∀i:Nat,i<30->∀a b,UW l ((e0+i:Nat):Int)=some (a,b)->¬r<=a-l.cut)->R7 l r=none:=fun h=>by
  by_cases f:1051898399<r
  ·exact Ne1 hl f
  ·refine N5z hl hr ?_ h;rw [<-k];unfold VK;rw [Ng (by omega),Ng f,O5 hr]
 have C:∀i:Nat,i<30->∀a b,UW l ((e0+i:Nat):Int)=some (a,b)->r<=a-l.cut->(∀j:Nat,j<i->∀a b,UW l ((e0+j:Nat):Int)=some (a,b)->¬r<=a-l.cut)->R7 l r=some a/\b=a+l.mins:=fun i hi a b h1 h2 B=>by
  by_cases f:1051898399<r
  ·exfalso;have e:(e0:Int)=730485:=by rw [<-k];unfold VK;rw [Ng (by omega),Nl f]
   unfold UW at h1;rw [Ng (by omega)] at h1;cases h1
  ·exact N50 hl hr (by rw [<-k];unfold VK;rw [Ng (by omega),Ng f,O5 hr]) h1 h2 B
 simp only [n118,u,SB,seval,NF,NL,NG,place,NB];refine NP (fun i=>30-i) (fun i fr G=>i<=30/\fr 1=Vi r/\fr 2=Vp H.length/\fr 4=Vp (H.length+1)/\fr 6=Vi e0/\fr 7=Vi ((e0+i:Nat):Int)/\H.length+2<=G.length/\NE G H.length=Vc (encL l)/\NE G (H.length+1)=Vc [Vi 0,Vi 0]/\∀j:Nat,j<i->∀a b,UW l ((e0+j:Nat):Int)=some (a,b)->¬r<=a-l.cut) 0
  ⟨Np _,rfl,rfl,rfl,rfl,by rfl,by simp,by rw [NN];rfl,by rw [NY];rfl,fun j J=>by omega⟩ ?_
 intro i fr G ⟨hi,x,s,y,p,z,O,D,o,g⟩ hN;rw [NU N1h.eq_1];refine NJ ?_;have n:H.length<=G.length:=by omega
 have w1:IntKind.i64.wrap ((e0:Int)+30)=(e0:Int)+30:=NR (by omega) (by omega);have A:=zc D;have q:=zc o;by_cases F:i<30
 case neg=>
  obtain rfl:i=30:=by omega
  have I:=t g;have h1:=Nc (show ¬((e0+30:Nat):Int)<(e0:Int)+30 by omega);have hs:=fun b=>Rv (X:=G++[]) (j:=H.length+1) (b:=b) (by simp;omega)
  simp only [n118,Ocm,y,p,z,w1,h1,q,hs,I,Oo,TE,SB,seval,NL,NH,NB,NC]
 have h1:=Nh (show ((e0+i:Nat):Int)<(e0:Int)+30 by omega);have K:IntKind.i64.wrap (((e0+i:Nat):Int)+1)=((e0+(i+1):Nat):Int):=by rw [NR (by omega) (by omega)];omega
 have w:=Nc (show ¬r<0 by omega);rcases hod:UW l ((e0+i:Nat):Int) with _ | ⟨a,b⟩
 ·have c:=fun (H:NA) (mp:Bool) (lim:Nat) (Q:Value->NA->Prop)=>v ((e0+i:Nat):Int) H mp lim Q
  rw [hod] at c;simp only [TE] at c;simp only [n118,s,p,z,w1,h1,A,NZ,NK,c,n,K,SB,seval,NF,NL,NH,place,NB];exact hN (i+1) _ _ ⟨by omega,x,s,y,p,rfl,by simp;omega,(OD.refl.app).cells D,(OD.refl.app).cells o,fun j J a b h=>by
   rcases Od j i with h2 | h2
   ·exact g j h2 a b h
   ·obtain rfl:j=i:=by omega
    rw [hod] at h;cases h⟩ (by omega)
 have M:0<=a/\a<=1051898399:=by
  unfold UW UR goes at hod;split at hod
  case isFalse=>cases hod
  split at hod
  case isFalse=>cases hod
  rename_i h2 B;cases hod;simp only [N2,N6] at B;have mt:NV=1051898399:=rfl;omega
 have w2:IntKind.i64.wrap (a-l.cut)=a-l.cut:=NR (by omega) (by omega);have c:=fun (H:NA) (mp:Bool) (lim:Nat) (Q:Value->NA->Prop)=>v ((e0+i:Nat):Int) H mp lim Q
 rw [hod] at c;simp only [TE] at c;by_cases m:r<=a-l.cut
 ·obtain ⟨R,S⟩:=C i F a b hod m g;have hs:=fun X b=>Rv (X:=G++X) (j:=H.length+1) (b:=b) (by simp;omega)
  simp only [n118,Ocm,x,s,y,p,z,w1,h1,A,q,NZ,UQ,NK,c,n,w,w2,Nh m,hs,R,S,Ny,TE,NK,SB,seval,NF,NL,NH,place,NB,NC]
 ·simp only [n118,x,s,p,z,w1,h1,A,NZ,UQ,NK,c,n,K,w,w2,Nc m,SB,seval,NF,NL,NH,place,NB];exact hN (i+1) _ _ ⟨by omega,x,s,y,p,rfl,by simp;omega,(OD.refl.app).cells D,(OD.refl.app).cells o,fun j J a' b' h=>by
   rcases Od j i with h2 | h2
   ·exact g j h2 a' b' h
   ·obtain rfl:j=i:=by omega
    rw [hod] at h;cases h;exact m⟩ (by omega)
theorem Nvw [OA] {lim Rb Ra:Nat} {bef:List Int} (J:NetOk 50 P L (NW P)) (al:P.length<=50) (am:L.length<2 ^ 60)
  (ab:∀G,Chg [Ra] G0 G->NetIn G pp pl P L) (aa:lim<=Ra) (Y:lim<=G0.length) (ag:NE G0 A5=Vc (netV pp P.length cp pl L.length cl)) (ae:A5≠Ra) (V:NE G0 Rb=Vc (bef.flatMap encI)) (ah:Rb≠Ra) (W:bef.length=P.length) (ai:∀x∈bef,x<2 ^ 40)
  (U:NE G0 Ra=Vc (bef.flatMap encI)) (f3:fr 3=Vi ul) (f5:fr 5=Vp A5) (f11:fr 11=.slice (Sa Rb) P.length cb) (f14:fr 14=.slice (Sa Ra) P.length ca) (ad:fr 15=Vi 0)
  (hR:∀fr' G,Chg [Ra] G0 G->NE G Ra=Vc ((MN (NW P) ul L bef).flatMap encI)->(∀j,j<=14->fr' j=fr j)->PT E a117 lim K fr' G Z) :
  PT E a117 lim (.code (.loop Nq2)::.inBlock 4::K) fr G0 Z:=by
 refine NP (fun i=>L.length-i) (fun i fr' G=>i<=L.length/\Chg [Ra] G0 G/\NE G Ra=Vc (((L.take i).foldl (Vg (NW P) ul bef) bef).flatMap encI)/\(∀j,j<=14->fr' j=fr j)/\fr' 15=Vi i) 0
  ⟨Np _,Chg.refl,U,fun _ _=>rfl,by rw [ad];rfl⟩ ?_
 intro i fr' G ⟨hi,y,A,r,o⟩ hN;rw [NU Nq2.eq_1];have g3:=(r 3 (by decide)).trans f3;have D:=(r 5 (by decide)).trans f5;have q:=(r 11 (by decide)).trans f11;have C:=(r 14 (by decide)).trans f14;have hn:=ab G y;have b5:=y.cells ag (by simpa using ae);have n:=zc b5;have s:lim<=G.length:=Pt Y y.len;have e:∀(f:Nat->Value),(∀j,j<=14->f j=fr' j)->∀j,j<=14->f j=fr j:=fun f h j z=>(h j z).trans (r j z)
 refine NJ ?_;by_cases d:i<L.length
 case neg=>
  obtain rfl:i=L.length:=by omega
  rw [N9] at A;simp only [n117,D,o,n,QE,d,SB,seval,NL,NH];exact hR _ _ y.app ((OD.refl.app).cells A) fun j z=>by
   rw [<-r j z];simp only [upd]
   repeat rw [Ng (by omega)]
 have I:=PM (l:=L) (i:=i) d;have hf:=J.frm _ I;have hd:=J.dst _ I;have F:=J.fine _ I;have b:(L.take (i+1)).foldl (Vg (NW P) ul bef) bef=Vg (NW P) ul bef ((L.take i).foldl (Vg (NW P) ul bef) bef) (gt L i):=Yh d;have T:((L.take i).foldl (Vg (NW P) ul bef) bef).length=P.length:=by rw [Nb1,W]
 have ak:NW P (gt L i).frm<P.length:=N4 hf;have aj:NW P (gt L i).dst<P.length:=N4 hd;have t:∀(X:NA) (mp:Bool) (lim:Nat) (Q:Value->NA->Prop),NQ E mp lim 116 [.agg (netV pp P.length cp pl L.length cl).toArray,Vi (gt L i).frm] (G++X) Q=Q (Vi (NW P (gt L i).frm:Int)) (G++X):=fun X mp lim Q=>by
  have:=Xq (mp:=mp) (lim:=lim) (cp:=cp) (cl:=cl) (p:=(gt L i).frm) (Q:=Q) (hn.app X);rw [Sm,Nl hf] at this;exact this
 have u:∀(X:NA) (mp:Bool) (lim:Nat) (Q:Value->NA->Prop),NQ E mp lim 116 [.agg (netV pp P.length cp pl L.length cl).toArray,Vi (gt L i).dst] (G++X) Q=Q (Vi (NW P (gt L i).dst:Int)) (G++X):=fun X mp lim Q=>by
  have:=Xq (mp:=mp) (lim:=lim) (cp:=cp) (cl:=cl) (p:=(gt L i).dst) (Q:=Q) (hn.app X);rw [Sm,Nl hd] at this;exact this
 have M:=fun X=>(hn.sl.app X).loadCells NZ d
 have O:=fun c (kk:IntKind) (H1:NA)=>hn.sl.idx (c:=c) (k:=kk) (H1:=H1) d
 have bR:=y.cells V (by simpa using ah);have sB:Sl G encI 1 (Sa Rb) bef:=Sl.row OT bR;have lB:=S9 (i:=NW P (gt L i).frm) sB (by omega);have N:=Ux (i:=NW P (gt L i).frm) sB ak W;have eB:gt bef (NW P (gt L i).frm)=bef.getD (NW P (gt L i).frm) (-1):=WL (by omega);have R:=ai _ (PM (l:=bef) (i:=NW P (gt L i).frm) (by omega));rw [eB] at lB R;have w1:IntKind.i64.wrap ((i:Int)+1)=((i+1:Nat):Int):=OC (by omega);generalize an:(L.take i).foldl (Vg (NW P) ul bef) bef=aft at *;have sA:Sl G encI 1 (Sa Ra) aft:=Sl.row OT A;have lA:=S9 (i:=NW P (gt L i).dst) sA (by omega);have xA:=Ux (i:=NW P (gt L i).dst) sA aj T;have eA:gt aft (NW P (gt L i).dst)=aft.getD (NW P (gt L i).dst) (-1):=WL (by omega);rw [eA] at lA;generalize g:(L.take (i+1)).foldl (Vg (NW P) ul bef) bef=aq at b;unfold Vg at b;generalize gt L i=l at *;generalize bef.getD (NW P l.frm) (-1)=v at *;generalize hw:aft.getD (NW P l.dst) (-1)=w at *;by_cases B:v<0
 ·rw [Nl B] at b;simp only [n117,D,q,o,n,OG,QE,NZ,QR,R3,NK,d,s,t,u,M,O,lB,N,w1,NI,Nh B,SB,seval,NF,NL,NH,place,NB];exact hN (i+1) _ _ ⟨by omega,y.app,by rw [g,b];exact (OD.refl.app).cells A,e _ fun j z=>by
   simp only [upd]
   repeat rw [Ng (by omega)],rfl⟩ (by omega)
 rw [Ng B] at b;have m:=fun (H:NA) (mp:Bool) (lim:Nat) (Q:Value->NA->Prop)=>Nlx (mp:=mp) (lim:=lim) (H:=H) (Q:=Q) F (show 0<=v by omega) R
 rcases hnd:R7 l v with _ | a
 ·rw [hnd] at b m;simp only [Oo,TE] at b m;simp only [n117,D,q,o,n,OG,QE,NZ,QR,R3,NK,d,s,t,u,M,O,lB,N,w1,NI,Nc B,m,SB,seval,NF,NL,NH,place,NB];exact hN (i+1) _ _ ⟨by omega,y.app,by rw [g,b];exact (OD.refl.app).cells A,e _ fun j z=>by
   simp only [upd]
   repeat rw [Ng (by omega)],rfl⟩ (by omega)
 rw [hnd] at b m;simp only [Ny,TE] at b m;by_cases h1:a+l.mins<=ul
 case neg=>
  rw [Ng fun h=>h1 h.1] at b;simp only [n117,g3,D,q,o,n,OG,QE,NZ,QR,R3,NK,d,s,t,u,M,O,lB,N,w1,NI,Nc B,m,Nc h1,SB,seval,NF,NL,NH,place,NB];exact hN (i+1) _ _ ⟨by omega,y.app,by rw [g,b];exact (OD.refl.app).cells A,e _ fun j z=>by
   simp only [upd]
   repeat rw [Ng (by omega)],rfl⟩ (by omega)
 by_cases h2:w<0\/a+l.mins<w
 case neg=>
  rw [Ng fun h=>h2 h.2] at b;simp only [n117,g3,D,q,C,o,n,OG,QE,NZ,QR,R3,NK,d,s,t,u,M,O,lB,N,lA,xA,w1,NI,Nc B,m,Nh h1,Nc (show ¬w<0 by omega),Nc (show ¬a+l.mins<w by omega),SB,seval,NF,NL,NH,place,NB];exact hN (i+1) _ _ ⟨by omega,y.app,by rw [g,b];exact (OD.refl.app).cells A,e _ fun j z=>by
   simp only [upd]
   repeat rw [Ng (by omega)],rfl⟩ (by omega)
 rw [Nl ⟨h1,h2⟩] at b;obtain ⟨G2,e2,k2,m2⟩:=SV (lim:=lim) (p:=Sa Ra) (i:=NW P l.dst) OT rfl A aa (by omega) (a+l.mins);simp only [encI] at e2;have S:Chg [Ra] G0 G2:=y.mut m2 (.inl (by simp));by_cases h3:w<0
 ·simp only [n117,g3,D,q,C,o,n,OG,QE,NZ,QR,R3,NK,d,s,t,u,M,O,lB,N,lA,xA,w1,NI,Nc B,m,Nh h1,Nh h3,e2,SB,seval,NF,NL,NH,place,NB];exact hN (i+1) _ _ ⟨by omega,S.app,by rw [g,b];exact (OD.refl.app).cells k2,e _ fun j z=>by
   simp only [upd]
   repeat rw [Ng (by omega)],rfl⟩ (by omega)
 ·simp only [n117,g3,D,q,C,o,n,OG,QE,NZ,QR,R3,NK,d,s,t,u,M,O,lB,N,lA,xA,w1,NI,Nc B,m,Nh h1,Nc h3,Nh (show a+l.mins<w by omega),e2,SB,seval,NF,NL,NH,place,NB];exact hN (i+1) _ _ ⟨by omega,S.app,by rw [g,b];exact (OD.refl.app).cells k2,e _ fun j z=>by
   simp only [upd]
   repeat rw [Ng (by omega)],rfl⟩ (by omega)
theorem Nwe [OA] {lim:Nat} (F:P.length<=50) (A:lim<=H.length) (I:Chg [] H G) (t:NE G A5=Vc (netV pp P.length cp pl L.length cl)) (h5:H.length<=A5)
  (f5:fr 5=Vp A5) (f11:fr 11=Vz) (f12:fr 12=Vi 0)
  (J:∀fr' G' q cq,Chg [] G G'->Own G.length G' encI 1 q cq (List.replicate P.length (-1))->fr' 11=.slice q P.length cq->(∀j,j<=10->fr' j=fr j)->PT E a117 lim K fr' G' Z) :
  PT E a117 lim (.code (.loop Nq0)::.inBlock 0::K) fr G Z:=by
 refine NP (fun s:Nat×Option Addr×Nat=>P.length-s.1) (fun s fr' G'=>s.1<=P.length/\Chg [] G G'/\Own G.length G' encI 1 s.2.1 s.2.2 (List.replicate s.1 (-1))/\fr' 11=.slice s.2.1 s.1 s.2.2/\fr' 12=Vi s.1/\(∀j,j<=10->fr' j=fr j)) (0,none,0)
  ⟨Np _,Chg.refl,.nil,by rw [f11],by rw [f12];rfl,fun _ _=>rfl⟩ ?_
 rintro ⟨i,y,C⟩ fr' G' ⟨hi,c,o,d,e,g⟩ hN;simp only at hi o d e;rw [NU Nq0.eq_1];have z:=(g 5 (by decide)).trans f5;have k:=zc (c.cells t (by simp));refine NJ ?_;by_cases n:i<P.length
 case neg=>
  obtain rfl:i=P.length:=by omega
  simp only [n117,z,e,k,Rw,n,SB,seval,NL,NH];exact J _ _ y C c.app (o.app _) d fun j b=>by
   rw [<-g j b];simp only [upd]
   repeat rw [Ng (by omega)]
 have R:IntKind.i64.wrap ((i:Int)+1)=((i+1:Nat):Int):=OC (by omega);have l:∀(f:Nat->Value),(∀j,j<=10->f j=fr' j)->∀j,j<=10->f j=fr j:=fun f h j b=>(h j b).trans (g j b)
 have N:=c.len;have O:=I.len;obtain ⟨S,e4,p,B,u⟩:=Own.moreF o (lim':=lim) (bytes:=8) (by omega) OT (by decide) [(-1:Int)] (by simp) (by simp;unfold OX;omega) (by simp;omega) [Vc [Vi (-1)]] (x:=.slice (Sa G'.length) 1 1) (str:=false)
  (SH (m:=[(-1:Int)]) (Sl.row (ro:=false) OT (by rw [NN];rfl))) rfl
 have w:∀j,j∈YT y->G.length<=j:=fun j b=>by
  cases hpe:y with
  | none=>rw [hpe] at b;cases b
  | some a=>rw [hpe] at b;have:=o.block hpe;simp [YT] at b;omega
 generalize v:(G'++[Vc [Vi (-1)]]).length=r at e4 p u;have Q:G'.length<=r:=by rw [<-v];simp
 generalize loose 1=c' at e4 p;simp only [Nm,Nn,Nx,Pa] at e4;have D:List.replicate (i+1) (-1:Int)=List.replicate i (-1)++[-1]:=List.replicate_succ';simp only [n117,z,d,e,k,Rw,n,R,e4,SB,seval,NL,NH,place];exact hN (i+1,Sa r,c') _ _ ⟨by show i+1<=P.length;omega,(c.trans' B fun j b M=>by have:=w j b;omega).app,by simp only [D];exact (p.le (by omega)).app _,by rfl,rfl,l _ fun j b=>by
  simp only [upd]
  repeat rw [Ng (by omega)]⟩ (by show P.length-(i+1)<P.length-i;omega)
theorem Nc9 {N:Nat} {P:List Int} {L:List Leg} {p ready lim:Int} (hn:NetOk N P L (NW P)) (hr:0<=ready) (hl:ready<=lim):∀k,WG ready lim (QM N (NW P) lim L p ready k)
 | 0=>by
   intro t b;rw [QM,YC] at b;rcases Qs b with h | rfl
   ·exact .inl (List.eq_of_mem_replicate h)
   ·exact .inr ⟨Ow _,hl⟩
 | k+1=>(Nd7 (Nc9 hn hr hl k) hr fun l a=>⟨hn.fine l a,by rw [RZ];exact hn.lt _ (hn.dst l a)⟩).1
theorem Nlv [OA] {lim k R0:Nat} {p:Int} (hn:NetIn H pp pl P L) (g:NetOk 50 P L (NW P)) (F:P.length<=50) (M:L.length<2 ^ 60) (hp:p∈P) (hr:0<=r) (T:r<=ul) (ad:ul<2 ^ 40) (hk:k<2 ^ 60)
  (V:lim<=H.length) (I:Chg [] H G0) (O:NE G0 A5=Vc (netV pp P.length cp pl L.length cl)) (h5:H.length<=A5) (N:NE G0 R0=Vc ((YC P.length (NW P p) r).flatMap encI)) (S:H.length<=R0)
  (f3:fr 3=Vi ul) (f4:fr 4=Vi k) (f5:fr 5=Vp A5) (f11:fr 11=.slice (Sa R0) P.length (loose 1)) (f13:fr 13=Vi 0)
  (hR:∀fr' G R,Chg [] H G->NE G R=Vc ((QM P.length (NW P) ul L p r k).flatMap encI)->H.length<=R->fr' 11=.slice (Sa R) P.length (loose 1)->PT E a117 lim K fr' G Z) :
  PT E a117 lim (.code (.loop Nq1)::.inBlock 2::K) fr G0 Z:=by
 refine NP (fun s:Nat×Nat=>k-s.1) (fun s fr' G=>s.1<=k/\Chg [] H G/\NE G A5=Vc (netV pp P.length cp pl L.length cl)/\NE G s.2=Vc ((QM P.length (NW P) ul L p r s.1).flatMap encI)/\H.length<=s.2/\fr' 11=.slice (Sa s.2) P.length (loose 1)/\fr' 13=Vi s.1/\(∀j,j<=10->fr' j=fr j)) (0,R0)
  ⟨Np _,I,O,N,S,f11,by rw [f13];rfl,fun _ _=>rfl⟩ ?_
 rintro ⟨i,R⟩ fr' G ⟨hi,C,b5,t,z,m,n,o⟩ hN;simp only at hi t z m n;rw [NU Nq1.eq_1];have Y:=(o 3 (by decide)).trans f3;have U:=(o 4 (by decide)).trans f4;have g5:=(o 5 (by decide)).trans f5;have W:=zc b5;refine NJ ?_;by_cases A:i<k
 case neg=>
  obtain rfl:i=k:=by omega
  simp only [n117,U,n,A,SB,seval,NL,NH];exact hR _ _ R C.app ((OD.refl.app).cells t) z m
 have B:NetOk P.length P L (NW P):=⟨g.fine,g.frm,g.dst,g.inj,fun a ha=>N4 ha⟩
 have w1:IntKind.i64.wrap ((i:Int)+1)=((i+1:Nat):Int):=OC (by omega);have aa:=C.len;have d:(QM P.length (NW P) ul L p r i).length=P.length:=RZ;have l:QM P.length (NW P) ul L p r (i+1)=MN (NW P) ul L (QM P.length (NW P) ul L p r i):=rfl;have y:∀x∈QM P.length (NW P) ul L p r i,x<2 ^ 40:=fun x hx=>by
  rcases Nc9 B hr T i x hx with h | h<;>omega
 generalize QM P.length (NW P) ul L p r i=bef at t d l y;have sB:Sl G encI 1 (Sa R) bef:=Sl.row OT t;have ab:=List.length_pos_of_mem hp;have e3:OP lim none 1 8 false (.slice (Sa G.length) 0 0) (.slice (Sa R) bef.length (loose 1)) (G++[Vc []])=some (.slice (Sa (G.length+1)) bef.length (loose 1),G++[Vc [],Vc (bef.flatMap encI)]):=by
  have:=WR (lim:=lim) (b:=G.length) (e:=1) (bytes:=8) (c:=loose 1) (enc:=encI) (H:=G++[Vc []]) (by rw [NN];rfl) (sB.app _) (by decide) (by unfold OX;omega) (by omega) (by intro h;rw [h] at d;simp at d;omega);simpa using this
 rw [d] at e3;simp only [n117,U,m,n,A,e3,SB,seval,NL,NH,place];have k1:NE (G++[Vc [],Vc (bef.flatMap encI)]) (G.length+1)=Vc (bef.flatMap encI):=by rw [NY];rfl
 refine Nvw (lim:=lim) (A5:=A5) (Rb:=R) (Ra:=G.length+1) (cb:=loose 1) (ca:=loose 1) (cp:=cp) (cl:=cl) (bef:=bef) (ul:=ul) g F M
  (fun G' J=>hn.sim fun b ro c hb=>(C.app.trans' J fun j q Q=>by simp at q;omega).cells hb (by simp)) (by omega) (by simp;omega) ((OD.refl.app).cells b5) (by have:=NM b5;omega) ((OD.refl.app).cells t) (by have:=NM t;omega) d y k1 Y g5 m rfl rfl fun fr1 G1 w k2 f=>?_
 have D:∀j,j<=10->fr1 j=fr' j:=fun j q=>by
  rw [f j (by omega)];simp only [upd]
  repeat rw [Ng (by omega)]
 have u:fr1 13=Vi i:=(f 13 (by omega)).trans n;have v:fr1 14=.slice (Sa (G.length+1)) P.length (loose 1):=(f 14 (by omega)).trans rfl;rw [<-l] at k2;refine NJ ?_;simp only [n117,u,v,w1,SB,seval,NL,NH];exact hN (i+1,G.length+1) _ _ ⟨by show i+1<=k;omega,(C.app.trans' w fun j q Q=>by simp at q;omega).app,(OD.refl.app).cells (w.cells ((OD.refl.app).cells b5) (by have:=NM b5;simp;omega)),(OD.refl.app).cells k2,by show H.length<=G.length+1;omega,(by simp only [FB,Nat.reduceEqDiff]),rfl,fun j q=>by
  rw [<-o j q,<-D j q];simp only [upd]
  repeat rw [Ng (by omega)]⟩ (by show k-(i+1)<k-i;omega)
theorem Zj [OA] {lim k:Nat} {p:Int} (hn:NetIn H pp pl P L) (B:QD P L=0) (hp:p∈P) (hr:0<=r) (x:r<=ul) (y:ul<2 ^ 40) (hk:k<2 ^ 60) (c:lim<=H.length)
  (J:∀G q,Chg [] H G->Own H.length G encI 1 q (loose 1) (QM P.length (NW P) ul L p r k)->Q (.slice q P.length (loose 1)) G) :
  NQ E false lim 117 [.agg (netV pp P.length cp pl L.length cl).toArray,Vi p,Vi r,Vi ul,Vi k] H Q:=by
 refine QN (by decide) Ofj rfl ?_;rw [Ogv,c117];obtain ⟨d,z,_⟩:=Sg B;have v:=RS B;simp only [n117,SB,seval,NL,NG,place,NB];refine Nwe (A5:=H.length) (cp:=cp) (cl:=cl) (P:=P) (L:=L) (pp:=pp) (pl:=pl) d c Chg.refl.app NN (Nf _) rfl rfl rfl fun fr1 G1 q cq e s f11 a=>?_
 have b:Chg [] H G1:=e.pre;have K:=List.length_pos_of_mem hp;have j:NW P p<P.length:=N4 hp;rcases s with ⟨h,_⟩ | ⟨R,rfl,rfl,f,t⟩
 ·have:=Q2 List.length h;rw [Pa,Nn] at this;omega
 have A:H.length+1<=R:=by simpa using t
 have b5:NE G1 H.length=Vc (netV pp P.length cp pl L.length cl):=e.cells NN (by simp);have l:=zc b5;have u:=hn.ext b.ext;have w:∀(X:NA) (mp:Bool) (lim:Nat) (Q:Value->NA->Prop),NQ E mp lim 116 [.agg (netV pp P.length cp pl L.length cl).toArray,Vi p] (G1++X) Q=Q (Vi (NW P p:Int)) (G1++X):=fun X mp lim Q=>by
  have:=Xq (mp:=mp) (lim:=lim) (cp:=cp) (cl:=cl) (p:=p) (Q:=Q) (u.app X);rw [Sm,Nl hp] at this;exact this
 have M:Sl G1 encI 1 (Sa R) (List.replicate P.length (-1)):=Sl.row OT f;have N:=Ux (i:=NW P p) M j (by simp);obtain ⟨G2,e2,k2,C⟩:=SV (lim:=lim) (p:=Sa R) (i:=NW P p) OT rfl f (by omega) (by simpa using j) r;simp only [encI] at e2;have n:Chg [] H G2:=b.mut C (.inr (by omega));have f1:=(a 1 (by decide)).trans (by rfl:_=Value.int .i64 p);have f2:=(a 2 (by decide)).trans (by rfl:_=Value.int .i64 r);have f3:=(a 3 (by decide)).trans (by rfl:_=Value.int .i64 ul);have f4:=(a 4 (by decide)).trans (by rfl:_=Value.int .i64 (k:Int));have f5:fr1 5=Vp H.length:=(a 5 (by decide)).trans rfl;refine NJ ?_;simp only [n117,f1,f2,f5,f11,l,OG,NK,w,N,e2,SB,seval,NF,NL,NB];refine Nlv (A5:=H.length) (cp:=cp) (cl:=cl) (k:=k) (R0:=R) (p:=p) (r:=r) (ul:=ul) hn v d (by omega) hp hr x y hk c n.app ((OD.refl.app).cells (C.cells b5 (by omega))) (Nf _) ((OD.refl.app).cells k2) (by omega) f3 f4 f5 f11 rfl fun F O D o I g m=>?_
 refine NJ ?_;simp only [n117,Oeg,m,SB,seval,NL,NC];exact J _ _ o.app (.inr ⟨D,rfl,rfl,(OD.refl.app).cells I,g⟩)
theorem Nhs [OA] {lim:Nat} {p:Int} (hn:NetIn H pp pl P L) :
  NQ E mp lim 113 [.agg (netV pp P.length cp pl L.length cl).toArray,Vi p] H Q=Q (Vi (Sm P p)) H:=by
 refine pc (by decide) Ofn rfl rfl ?_;rw [Ogz,Obg];simp only [n113,SB,seval,NL,NG,place,NB];refine NP (fun i=>P.length-i) (fun i fr G=>i<=P.length/\fr 1=Vi p/\fr 2=Vp H.length/\fr 5=Vi i/\OD H G/\NE G H.length=Vc (netV pp P.length cp pl L.length cl)/\∀j,j<i->gt P j≠p) 0
  ⟨Np _,rfl,rfl,by rfl,OD.refl.app,NN,fun j g=>by omega⟩ ?_
 intro i fr G ⟨hi,h1,h2,h5,l,n,b⟩ hN;rw [NU N1j.eq_1];refine NJ ?_;have e:=zc n;by_cases a:i<P.length
 ·have f:=fun X=>((l.sl hn.sp).app X).loadCell0 OT a (by decide)
  simp only [encI,Oq] at f;have d:=fun c (k:IntKind) (H1:NA)=>(l.sl hn.sp).idx (c:=c) (k:=k) (H1:=H1) a
  have m:IntKind.i64.wrap ((i:Int)+1)=((i+1:Nat):Int):=OC (by have:=hn.np;omega);by_cases he:gt P i=p
  ·simp only [n113,Ocp,h1,h2,h5,e,Rw,a,d,f,Nh he,SB,seval,NL,NH,NC];congr 1;have hm:p∈P:=he▸PM a;rw [Sm,Nl hm];have h1:NW P p<=i:=by
    unfold NW;apply Oe;intro hc;have:=List.not_of_lt_findIdx (xs:=P) (p:=(· == p)) (i:=i) (by unfold List.idxOf at hc;omega);rw [OQ a] at he;simp [he] at this
   rcases Od (NW P p) i with h3 | h3
   ·exfalso;have hl:NW P p<P.length:=N4 hm;have:=Qo hl;refine b _ h3 ?_;rw [OQ hl];exact this
   ·omega
  ·simp only [n113,h1,h2,h5,e,Rw,a,d,f,m,Nc he,SB,seval,NL,NH];exact hN (i+1) _ _ ⟨by omega,h1,h2,rfl,l.app,(OD.refl.app).cells n,fun j g=>by
    rcases Od j i with h | h
    ·exact b j h
    ·obtain rfl:j=i:=by omega
     exact he⟩ (by omega)
 ·obtain rfl:i=P.length:=by omega
  simp only [n113,Ocp,h2,h5,e,Rw,a,SB,seval,NL,NH,NC];rw [Sm,Ng fun hm=>?_];obtain ⟨j,g,he⟩:=List.mem_iff_getElem.1 hm;exact b j g (by rw [OQ g];exact he)
theorem Nsg [OA] {lim:Nat} {p t:Int} (hn:NetIn H pp pl P L) (g:lim<=H.length)
  (d:∀G,SI P L p p t≠0->Chg [] H G->Q (.tuple #[Vz,Vi (SI P L p p t)]) G)
  (e:∀G q,SI P L p p t=0->Chg [] H G->Own H.length G encI 1 q (loose 1) (QM P.length (NW P) (t+86400) L p t P.length)->Q (.tuple #[.slice q P.length (loose 1),Vi 0]) G) :
  NQ E false lim 114 [.agg (netV pp P.length cp pl L.length cl).toArray,Vi p,Vi t] H Q:=by
 refine QN (by decide) Ofm rfl ?_;rw [Ogy,Obf];have c:=fun X (mp:Bool) (lim:Nat) (Q:Value->NA->Prop)=>Nhu (mp:=mp) (lim:=lim) (cp:=cp) (cl:=cl) (a:=p) (b:=p) (t:=t) (Q:=Q) (hn.app X)
 by_cases he:SI P L p p t=0
 case neg=>
  simp only [n114,Oco,OG,NK,c,Nc he,SB,seval,NF,NL,NH,NG,place,NB,NC];exact d _ he Chg.refl.app
 obtain ⟨h,hp,_,f,k⟩:=VN he;have mt:NV=1051898399:=rfl;have w1:IntKind.i64.wrap (t+86400)=t+86400:=NR (by omega) (by omega);rw [he] at c;simp only [n114,OG,Rw,NK,c,w1,SB,seval,NF,NL,NH,NG,place,NB];refine Zj (hn.app _) h hp f (by omega) (by omega) (by have:=(Sg h).1;omega) (by simp;omega) fun G q i j=>?_
 refine NJ ?_;simp only [n114,Oco,SB,seval,NL,NC];exact e _ _ he i.pre.app ((j.le (by simp)).app _)
theorem Nhr [OA] {lim:Nat} {a b:Ev} (hn:NetIn H pp pl P L) (t:QD P L=0) (r:0<=a.time/\a.time<=NV) (N:0<=b.time/\b.time<=NV) :
  NQ E mp lim 89 [.agg (netV pp P.length cp pl L.length cl).toArray,.agg (encE a).toArray,.agg (encE b).toArray] H Q=Q (Vi (QJ P L a b)) H:=by
 refine pc (by decide) rfl rfl rfl ?_;rw [b89,c89];have l:=fun (p:Int) X (mp:Bool) (lim:Nat) (Q:Value->NA->Prop)=>Nhs (mp:=mp) (lim:=lim) (cp:=cp) (cl:=cl) (p:=p) (Q:=Q) (hn.app X)
 by_cases h1:a.kind=4
 ·simp only [n89,QY,Nh h1,SB,seval,NL,NH,NG,place,NB,NC];unfold QJ;rw [Nl h1]
 by_cases h2:a.place=b.place
 ·simp only [n89,QU,QY,Nc h1,Nh h2,SB,seval,NL,NH,NG,place,NB,NC];unfold QJ;rw [Ng h1,Nl h2]
 by_cases o:a.place∈P
 case neg=>
  have e:Sm P a.place=-1:=Ng o;have d:=l a.place;rw [e] at d;simp only [n89,QU,QY,OG,NK,Nc h1,Nc h2,d,SB,seval,NF,NL,NH,NG,place,NB,NC];unfold QJ;rw [Ng h1,Ng h2];by_cases f:b.place∈P
  ·rw [Ng (by simpa using f),Nl fun he=>o (VN he).2.1]
  ·rw [Nl f]
 have d:=l a.place;rw [show Sm P a.place=(NW P a.place:Int) from Nl o] at d;have n1:=Nc (show ¬(NW P a.place:Int)<0 by omega);by_cases f:b.place∈P
 case neg=>
  have g:=l b.place;rw [show Sm P b.place=-1 from Ng f] at g;simp only [n89,QU,QY,OG,NK,Nc h1,Nc h2,d,g,n1,SB,seval,NF,NL,NH,NG,place,NB,NC];unfold QJ;rw [Ng h1,Ng h2,Nl f]
 have g:=l b.place;rw [show Sm P b.place=(NW P b.place:Int) from Nl f] at g;have n2:=Nc (show ¬(NW P b.place:Int)<0 by omega);have he:SI P L a.place a.place a.time=0:=by unfold SI;rw [Ng (by rw [t];simp),Nl ⟨o,o,r.1,r.2⟩]
 simp only [n89,QU,QY,QX,OG,NK,Nc h1,Nc h2,d,g,n1,n2,SB,seval,NF,NL,NH,NG,place,NB];refine Nsg (hn.app _) (by simp) (fun _ h=>absurd he h) fun G q _ w I=>?_
 have m:=zc (w.cells (j:=H.length) (ro:=false) (c:=netV pp P.length cp pl L.length cl) (by rw [NN];rfl) (by simp));have n:=zc (w.cells (j:=H.length+2) (ro:=false) (c:=encE b) (by rw [NY];rfl) (by simp));have A:=hn.ext w.pre.ext;have k:=fun X (mp:Bool) (lim:Nat) (Q:Value->NA->Prop)=>Nhs (mp:=mp) (lim:=lim) (cp:=cp) (cl:=cl) (p:=b.place) (Q:=Q) (A.app X)
 rw [show Sm P b.place=(NW P b.place:Int) from Nl f] at k;have B:NW P b.place<P.length:=N4 f;have sT:=I.sl OT;have y:(QM P.length (NW P) (a.time+86400) L a.place a.time P.length).length=P.length:=RZ;have lT:=S9 (i:=NW P b.place) sT (by omega);have xT:=Ux (i:=NW P b.place) sT B y;have z:=(Niu (RS t) o r.1).2 _ f;have v:=Nax (RS t) o f r.1;have ev:=z.uniq v;rw [WL (by omega),ev] at lT;have K:=Nr8 v r.2 r.1;have J:-1<=MF P L a.place a.time b.place:=by
  rcases v with ⟨e,_⟩ | ⟨⟨⟨j,M⟩,_⟩,_⟩
  ·omega
  ·have:=M.later (RS t).fine;omega
 have C:QJ P L a b=if MF P L a.place a.time b.place<0 then 80 else min (max (MF P L a.place a.time b.place-b.time) 0) 60:=by
  unfold QJ;rw [Ng h1,Ng h2,Ng (by simpa using f),Ng (by simpa using he)]
 rw [C];generalize MF P L a.place a.time b.place=x at *;have mt:NV=1051898399:=rfl;have F:IntKind.i64.wrap (x-b.time)=x-b.time:=NR (by omega) (by omega);refine NJ ?_;by_cases s:x<0
 ·simp only [n89,QU,OG,NK,m,n,k,lT,xT,Nh s,SB,seval,NF,NL,NH,NC]
 ·by_cases u:x<=b.time
  ·simp only [n89,QU,QX,OG,NK,m,n,k,lT,xT,Nc s,Nh u,SB,seval,NF,NL,NH,NC];congr 1;omega
  ·by_cases D:60<x-b.time
   ·simp only [n89,QU,QX,OG,NK,m,n,k,lT,xT,F,Nc s,Nc u,Nh D,SB,seval,NF,NL,NH,NC];congr 1;omega
   ·simp only [n89,QU,QX,OG,NK,m,n,k,lT,xT,F,Nc s,Nc u,Nc D,SB,seval,NF,NL,NH,NC];congr 1;omega
theorem Njh {a b:Leg}:aEq (.agg [.int .i64,.int .i64,.int .i64,.int .i64,.int .i64,.int .i64,.int .i64,.int .u8]) (.agg (encL a).toArray) (.agg (encL b).toArray)=some (decide (a=b)):=by
 simp only [aEq,encL,PH,SQ,and_self,if_true];congr 1;rw [Qt];cases a;cases b;simp []
theorem Nyl {a b:Int×Int×Int}:aEq (.agg [.int .i64,.int .i64,.int .i64]) (.agg (enc3 a).toArray) (.agg (enc3 b).toArray)=some (decide (a=b)):=by
 simp only [aEq,enc3,PH,SQ,and_self,if_true];congr 1;rw [Qt];obtain ⟨a1,a2,c⟩:=a;obtain ⟨b1,b2,b3⟩:=b;simp []
theorem Ny3 [OA] {lim:Nat} {v:Option Addr} {ks:List Int} (hn:NetIn H pp pl P L) (hv:QD P L=0) (hs:Sl H encE 7 pe es) (ar:es.length<=40) (ht:∀i,i<es.length->0<=(gt es i).time/\(gt es i).time<=NV) (hk:Sl H encI 1 v ks) (an:ks.length<=60) (hks:∀k∈ks,0<=k/\k<es.length) (h:lim<=H.length)
  (hQ:∀G r cr,Chg [] H G->U3 H.length G enc3 3 r (QG P L es ks)->Q (.agg #[.slice v ks.length w,.slice r (QG P L es ks).length cr,Vi (Sr P L es ks)]) G) :
  NQ E false lim 90 [.agg (netV pp P.length cp pl L.length cl).toArray,.slice pe es.length ce,.slice v ks.length w] H Q:=by
 refine QN (by decide) rfl rfl ?_;rw [b90,c90];obtain ⟨base,g⟩:∃base,base=30*((es.length:Int)-ks.length):=⟨_,rfl⟩
 have w1:IntKind.i64.wrap ((es.length:Int)-ks.length)=(es.length:Int)-ks.length:=NR (by omega) (by omega);have w2:IntKind.i64.wrap (30*((es.length:Int)-ks.length))=base:=by rw [g];exact NR (by omega) (by omega)
 simp only [n90,h,w1,w2,SB,seval,NL,NH,NG,place,NB];refine NP (fun s:Nat×Option Addr×Nat=>ks.length-s.1) (fun s fr G=>(s.1=0\/s.1<ks.length)/\fr 1=.slice pe es.length ce/\fr 2=.slice v ks.length w/\fr 3=Vp H.length/\fr 6=Vp (H.length+1)/\fr 7=Vp (H.length+2)/\fr 8=Vi ((s.1+1:Nat):Int)/\Chg [] H G/\NE G H.length=Vc (netV pp P.length cp pl L.length cl)/\NE G (H.length+1)=Vc [Vz,Vz,Vi 0]/\NE G (H.length+2)=Vc [.slice v ks.length w,.slice s.2.1 s.1 s.2.2,Vi (base+UG ((List.range s.1).map (Sq P L es ks)))]/\Own (H.length+3) G enc3 3 s.2.1 s.2.2 ((List.range s.1).map (Sq P L es ks))) (0,none,0)
  ⟨.inl rfl,rfl,rfl,rfl,rfl,rfl,by rfl,Chg.refl.app,by rw [NN];rfl,by rw [NY];rfl,by rw [NY];simp [UG],.nil⟩ ?_
 rintro ⟨i,S,W⟩ fr G ⟨hi,g1,Z,g3,g6,g7,g8,A,b3,U,M,F⟩ hN;simp only at hi g8 M F;rw [NU N70.eq_1];have hl:=A.len;have t:((List.range i).map (Sq P L es ks)).length=i:=by simp
 have al:=XO (P:=P) (L:=L) (es:=es) (ks:=ks) i;have T:=zc b3;have V:=zc U;have C:=zc M;have am:=NM M;refine NJ ?_;by_cases n:i+1<ks.length
 case neg=>
  have ei:ks.length-1=i:=by omega
  have y:QG P L es ks=(List.range i).map (Sq P L es ks):=by unfold QG;rw [ei]
  have o:=Nc (show ¬((i+1:Nat):Int)<(ks.length:Int) by omega);obtain ⟨G2,e2,h2,m2⟩:=OO (NM U) (Vc [.slice v ks.length w,.slice S i W,Vi (base+UG ((List.range i).map (Sq P L es ks)))]);have aa:=zc h2;simp only [n90,Z,g6,g7,g8,o,V,C,h,e2,aa,SB,seval,NL,NH,NB,NC];have ad:Chg [] H G2:=A.mut m2 (.inr (by omega));have I:=F.mut m2 fun a f e=>by have:=(F.block f).1;omega
  have:=hQ G2 S W ad (by rw [y];exact ⟨I.sl OU,fun a f=>by have:=(I.block f).1;omega⟩);rw [y,t] at this;unfold Sr at this;rw [y,<-g] at this;rw [Na];exact this
 have o:=Nh (show ((i+1:Nat):Int)<(ks.length:Int) by omega);have u:=A.sl hs (by simp);have q:=A.sl hk (by simp);have ah:=hn.ext A.ext;have l0:=S9 (i:=i) q (by omega);have l1:=S9 (i:=i+1) q n;have x0:=Ux (i:=i) q (show i<ks.length by omega) rfl;have x1:=Ux (i:=i+1) q n rfl;obtain ⟨a,ea⟩:=Int.eq_ofNat_of_zero_le (hks _ (PM (i:=i) (by omega))).1;obtain ⟨b,eb⟩:=Int.eq_ofNat_of_zero_le (hks _ (PM n)).1;have f:a<es.length:=by have:=(hks _ (PM (l:=ks) (i:=i) (by omega))).2;omega
 have hb:b<es.length:=by have:=(hks _ (PM n)).2;omega
 have D:Sq P L es ks i=((a:Int),(b:Int),QJ P L (gt es a) (gt es b)):=by unfold Sq;rw [ea,eb];rfl
 rw [ea] at l0;rw [eb] at l1;have la:=fun X=>(u.app X).loadCells NT f
 have lb:=fun X=>(u.app X).loadCells NT hb
 have xa:=fun c (k:IntKind) (H1:NA)=>u.idx (c:=c) (k:=k) (H1:=H1) f
 have xb:=fun c (k:IntKind) (H1:NA)=>u.idx (c:=c) (k:=k) (H1:=H1) hb
 have w9:IntKind.i64.wrap (((i+1:Nat):Int)-1)=(i:Int):=by rw [NR (by omega) (by omega)];omega
 have ak:IntKind.i64.wrap (((i+1:Nat):Int)+1)=((i+2:Nat):Int):=OC (by omega);have J:=fun X (mp:Bool) (lim:Nat) (Q:Value->NA->Prop)=>Nhr (mp:=mp) (lim:=lim) (cp:=cp) (cl:=cl) (a:=gt es a) (b:=gt es b) (Q:=Q) (ah.app X) hv (ht a f) (ht b hb)
 generalize hp:QJ P L (gt es a) (gt es b)=p at D J;have ai:=Uc (P:=P) (L:=L) (a:=gt es a) (b:=gt es b);rw [hp] at ai;have eN:(List.range i).map (Sq P L es ks)++[((a:Int),(b:Int),p)]=(List.range (i+1)).map (Sq P L es ks):=by rw [Qg,O7,List.map_singleton,D]
 have wp:IntKind.i64.wrap (base+UG ((List.range i).map (Sq P L es ks))+p)=base+UG ((List.range (i+1)).map (Sq P L es ks)):=by
  rw [<-eN,Zz,<-Int.add_assoc];exact NR (by omega) (by omega)
 have z:∀j,j<H.length+3->∀a,S=some a->j≠a.block:=fun j hj a f e=>by have:=(F.block f).1;omega
 obtain ⟨G4,R,c',e4,B,C4,K,aq,_,_⟩:=Own.moreD F (lim':=lim) (d:=G.length+1) (bytes:=24) (by omega) OU (by decide) [((a:Int),(b:Int),p)] (by rw [t];unfold OX;simp;omega) (by rw [t];simp;omega) (by omega) [Vc [Vi a,Vi b,Vi p],.dead] (by omega) (by simp) (x:=.slice (Sa G.length) 1 1) (str:=false)
  (SH (m:=[((a:Int),(b:Int),p)]) (Sl.row (ro:=false) OU (by rw [NN];rfl))) rfl
 rw [t] at e4;simp only [Nm,Nn,Nx] at e4;rw [eN] at B;simp only [Na] at e4 B C4 K;have ae:=C4 [] H (by omega) A;have k3:=(K H.length (by omega) (z _ (by omega))).trans b3;have k6:=(K (H.length+1) (by omega) (z _ (by omega))).trans U;have k7:=(K (H.length+2) (by omega) (z _ (by omega))).trans M;obtain ⟨G5,e5,h5,N⟩:=OO (NM k7) (Vc [.slice v ks.length w,.slice R (i+1) c',Vi (base+UG ((List.range i).map (Sq P L es ks)))]);obtain ⟨G6,e6,h6,O⟩:=OO (NM h5) (Vc [.slice v ks.length w,.slice R (i+1) c',Vi (base+UG ((List.range (i+1)).map (Sq P L es ks)))]);have aj:=zc k7;have ab:=zc h5;have Y:OP lim (some (G.length+1)) 3 24 false (.slice S i W) (.slice (Sa G.length) 1 1) (G++[Vc [Vi a,Vi b,Vi p],.dead])=some (.slice R (i+1) c',G4++[]):=by rw [Na];exact e4
 simp only [n90,g1,Z,g3,g7,g8,o,T,OG,NK,C,w9,l0,l1,x0,x1,la,lb,xa,xb,J,h,Y,aj,e5,ab,e6,wp,ak,SB,seval,NF,NL,NH,place,NB];have ag:Chg [] H G6:=(ae.mut N (.inr (by omega))).mut O (.inr (by omega));have O6:=(B.mut N fun a f e=>by have:=(B.block f).1;omega).mut O fun a f e=>by have:=(B.block f).1;omega
 exact hN (i+1,R,c') _ _ ⟨.inr n,g1,Z,g3,g6,g7,by rfl,ag.app,(OD.refl.app).cells (O.cells (N.cells k3 (by omega)) (by omega)),(OD.refl.app).cells (O.cells (N.cells k6 (by omega)) (by omega)),(OD.refl.app).cells h6,O6.app _⟩ (by show ks.length-(i+1)<ks.length-i;omega)
def f1 (x:Wo):Int:=x.1
def f2 (x:Wo):Int:=x.2.1
def f3 (x:Wo):Int:=x.2.2
structure Tab (G:NA) (a b c:Nat) (T:List Wo):Prop where
 a:NE G a=Vc ((T.map f1).flatMap encI)
 b:NE G b=Vc ((T.map f2).flatMap encI)
 c:NE G c=Vc ((T.map f3).flatMap encI)
theorem Oah {f:Wo->Int} {i:Nat} (h:i<T.length):gt (T.map f) i=f (gt T i):=by
 rw [OQ (by simpa using h),OQ h];simp
section
variable {G:NA} {a b c i:Nat} {T:List Wo}
theorem Tab.app (h:Tab G a b c T) (X:NA):Tab (G++X) a b c T:=⟨(OD.refl.app).cells h.a,(OD.refl.app).cells h.b,(OD.refl.app).cells h.c⟩
theorem Tab.get {f:Wo->Int} {r:Nat} (h:NE G r=Vc ((T.map f).flatMap encI)) (hi:i<T.length):(∀X,AM.loadCell (G++X) (Vs (Sa r) 1 i)=some (Vi (f (gt T i))))/\∀(n cc:Nat) (k:IntKind) (H1:NA),n=T.length->Vq 1 (.slice (Sa r) n cc) (.int k (i:Int)) H1=some (.pointer (some (Vs (Sa r) 1 i)),H1):=by
 have s:Sl G encI 1 (Sa r) (T.map f):=Sl.row OT h;have l:=S9 (i:=i) s (by simpa using hi);rw [Oah hi] at l;exact ⟨l,fun n cc k H1 hn=>Ux s (by omega) (by simp [hn]) cc k H1⟩
theorem Nsr {lim:Nat} (h:Tab G a b c T) (d:a≠b) (f:b≠c) (e:a≠c) (l:lim<=a) (m:lim<=b) (hc:lim<=c) (hi:i<T.length) (x:Wo) :
  ∃G1 G2 G3,(∀X,AM.storeAt lim (G++X) (Vs (Sa a) 1 i) [Vi x.1]=some (G1++X))/\(∀X,AM.storeAt lim (G1++X) (Vs (Sa b) 1 i) [Vi x.2.1]=some (G2++X))/\(∀X,AM.storeAt lim (G2++X) (Vs (Sa c) 1 i) [Vi x.2.2]=some (G3++X))/\Tab G3 a b c (T.set i x)/\Chg [a,b,c] G G3:=by
 obtain ⟨G1,e1,k1,g⟩:=SV (lim:=lim) (p:=Sa a) (i:=i) OT rfl h.a l (by simpa using hi) x.1;obtain ⟨G2,e2,k2,j⟩:=SV (lim:=lim) (p:=Sa b) (i:=i) OT rfl (g.cells h.b (Ne.symm d)) m (by simpa using hi) x.2.1;obtain ⟨G3,e3,k3,k⟩:=SV (lim:=lim) (p:=Sa c) (i:=i) OT rfl (j.cells (g.cells h.c (Ne.symm e)) (Ne.symm f)) hc (by simpa using hi) x.2.2;refine ⟨G1,G2,G3,e1,e2,e3,⟨?_, ?_, ?_⟩,((Chg.refl.mut g (.inl (by simp))).mut j (.inl (by simp))).mut k (.inl (by simp))⟩
 ·rw [List.map_set];exact k.cells (j.cells k1 d) e
 ·rw [List.map_set];exact k.cells k2 f
 ·rw [List.map_set];exact k3
end
theorem Nl5 {x r:Wo}:Us x r=if r.1<x.1\/(r.1=x.1/\x.2.1<=r.2.1) then r else x:=by
 unfold Us Y8;by_cases h:r.1<x.1\/(r.1=x.1/\x.2.1<=r.2.1)
 ·rw [Nl h,Ng (by simp only [N6];omega)]
 ·rw [Ng h,Nl (by simp only [N6];omega)]
theorem Ny0 [OA] {lim a b i k:Nat} (hv:QD P L=0) (y:es.length=n) (aw:n<=40) (ht:∀i,i<es.length->0<=(gt es i).time/\(gt es i).time<=NV)
  (az:i+1+k=n) (hT:T.length=n) (aa:∀j,j<n->Bnd n j (gt T j)) (ae:∀G,Chg [a,b,c] G0 G->NetIn G pp pl P L/\Sl G encE 7 pe es) (ad:lim<=G0.length) (h2:NE G0 A2=Vc (netV pp P.length cp pl L.length cl)) (al:A2≠a/\A2≠b/\A2≠c)
  (am:a≠b) (aq:b≠c) (an:a≠c) (ha:lim<=a) (hb:lim<=b) (hc:lim<=c) (Y:Tab G0 a b c (T.set i (QS P L es T i 0)))
  (g1:fr 1=.slice pe n ce) (g2:fr 2=Vp A2) (g6:fr 6=.slice (Sa a) n ca) (g7:fr 7=.slice (Sa b) n cb) (g8:fr 8=.slice (Sa c) n cc) (aj:fr 10=Vi i) (ak:fr 11=Vi ((n:Int)-1))
  (hR:∀fr' G,Chg [a,b,c] G0 G->Tab G a b c (T.set i (QS P L es T i k))->(∀j,j<=10->fr' j=fr j)->PT E a50 lim K fr' G Z) :
  PT E a50 lim (.code (.loop N0y)::.inBlock 2::K) fr G0 Z:=by
 refine NP (fun m=>k-m) (fun m fr' G=>m<=k/\Chg [a,b,c] G0 G/\Tab G a b c (T.set i (QS P L es T i m))/\(∀j,j<=10->fr' j=fr j)/\fr' 11=Vi ((n:Int)-1-m)) 0
  ⟨Np _,Chg.refl,Y,fun _ _=>rfl,by rw [ak];simp⟩ ?_
 intro m fr' G ⟨hm,D,d,e,q⟩ hN;rw [NU N0y.eq_1];have q1:=(e 1 (by decide)).trans g1;have q2:=(e 2 (by decide)).trans g2;have q6:=(e 6 (by decide)).trans g6;have q7:=(e 7 (by decide)).trans g7;have q8:=(e 8 (by decide)).trans g8;have u:=(e 10 (by decide)).trans aj;have a0:lim<=G.length:=Pt ad D.len;have o:∀(f:Nat->Value),(∀j,j<=10->f j=fr' j)->∀j,j<=10->f j=fr j:=fun f h j v=>(h j v).trans (e j v)
 refine NJ ?_;by_cases a3:m<k
 case neg=>
  obtain rfl:m=k:=by omega
  have h1:=Nc (show ¬(i:Int)<(n:Int)-1-m by omega);simp only [n50,u,q,h1,SB,seval,NL,NH];exact hR _ _ D.app (d.app _) fun j v=>by
   rw [<-e j v];simp only [upd]
   repeat rw [Ng (by omega)]
 have h1:=Nh (show (i:Int)<(n:Int)-1-m by omega);obtain ⟨j,v⟩:∃j,j=n-1-m:=⟨_,rfl⟩
 have ai:(n:Int)-1-m=(j:Int):=by omega
 rw [ai] at q h1;have ay:i<j:=by omega
 have au:j<n:=by omega
 obtain ⟨hn,hs⟩:=ae G D;have w:=zc (D.cells h2 (by simp [al]));have la:=fun X=>(hs.app X).loadCells NT (show i<es.length by omega)
 have lb:=fun X=>(hs.app X).loadCells NT (show j<es.length by omega)
 have xa:=fun c (k:IntKind) (H1:NA)=>hs.idx (c:=c) (k:=k) (H1:=H1) (show i<es.length by omega)
 have xb:=fun c (k:IntKind) (H1:NA)=>hs.idx (c:=c) (k:=k) (H1:=H1) (show j<es.length by omega)
 rw [y] at xa xb;have z:=fun X (mp:Bool) (lim:Nat) (Q:Value->NA->Prop)=>Nhr (mp:=mp) (lim:=lim) (cp:=cp) (cl:=cl) (a:=gt es i) (b:=gt es j) (Q:=Q) (hn.app X) hv (ht i (by omega)) (ht j (by omega))
 have N:XG P L es T i (es.length-1-m)=(QJ P L (gt es i) (gt es j)+30*((j:Int)-i-1)+(gt T j).1,(gt T j).2.1+1,(j:Int)):=by rw [y,<-v];rfl
 have g:QS P L es T i (m+1)=Us (QS P L es T i m) (XG P L es T i (es.length-1-m)):=rfl;rw [N,Nl5] at g;have ag:=Nbg (P:=P) (L:=L) (es:=es) (T:=T) (i:=i) (by rw [y];exact aa) (by omega) m (by omega);have ar:=aa j au;have a5:=Uc (P:=P) (L:=L) (a:=gt es i) (b:=gt es j);rw [y] at ag;have av:∀x,(T.set i (QS P L es T i m)).set i x=T.set i x:=fun x=>List.set_set ..
 have r:(T.set i (QS P L es T i m)).length=n:=by simp [hT]
 have ei:gt (T.set i (QS P L es T i m)) i=QS P L es T i m:=by rw [Nby (by omega),Nl rfl]
 have ej:gt (T.set i (QS P L es T i m)) j=gt T j:=by rw [Nby (by omega),Ng (by omega)]
 have F:=Tab.get (i:=i) d.a (by omega);have I:=Tab.get (i:=i) d.b (by omega);have V:=Tab.get (i:=i) d.c (by omega);have H:=Tab.get (i:=j) d.a (by omega);have J:=Tab.get (i:=j) d.b (by omega);rw [ei] at F I V;rw [ej] at H J;generalize O:QS P L es T i (m+1)=nx at g;generalize QS P L es T i m=old at *;generalize QJ P L (gt es i) (gt es j)=p at *;generalize ax:gt T j=l at *;unfold Bnd at ag ar;have s:=F.1;have R:=I.1;have t:=H.1;have A:=J.1;have B:=fun cc (k:IntKind) (H1:NA)=>F.2 n cc k H1 r.symm
 have S:=fun cc (k:IntKind) (H1:NA)=>I.2 n cc k H1 r.symm
 have ah:=fun cc (k:IntKind) (H1:NA)=>V.2 n cc k H1 r.symm
 have C:=fun cc (k:IntKind) (H1:NA)=>H.2 n cc k H1 r.symm
 have U:=fun cc (k:IntKind) (H1:NA)=>J.2 n cc k H1 r.symm
 simp only [f1,f2] at s R t A;have w1:IntKind.i64.wrap ((j:Int)-i)=(j:Int)-i:=NR (by omega) (by omega);have w2:IntKind.i64.wrap ((j:Int)-i-1)=(j:Int)-i-1:=NR (by omega) (by omega);have w3:IntKind.i64.wrap (30*((j:Int)-i-1))=30*((j:Int)-i-1):=NR (by omega) (by omega);have w4:IntKind.i64.wrap (p+30*((j:Int)-i-1))=p+30*((j:Int)-i-1):=NR (by omega) (by omega);have w5:IntKind.i64.wrap (p+30*((j:Int)-i-1)+l.1)=p+30*((j:Int)-i-1)+l.1:=NR (by omega) (by omega);have w6:IntKind.i64.wrap (l.2.1+1)=l.2.1+1:=NR (by omega) (by omega);have w7:IntKind.i64.wrap ((j:Int)-1)=(n:Int)-1-((m+1:Nat):Int):=by rw [NR (by omega) (by omega)];omega
 by_cases ab:p+30*((j:Int)-i-1)+l.1<old.1\/(p+30*((j:Int)-i-1)+l.1=old.1/\old.2.1<=l.2.1+1)
 case neg=>
  rw [Ng ab] at g;have n1:=Nc (show ¬p+30*((j:Int)-i-1)+l.1<old.1 by omega);by_cases e1:p+30*((j:Int)-i-1)+l.1=old.1
  ·have n2:=Nc (show ¬old.2.1<=l.2.1+1 by omega);simp only [n50,q1,q2,q6,q7,u,q,h1,w,OG,NK,la,lb,xa,xb,z,s,R,t,A,B,S,C,U,w1,w2,w3,w4,w5,w6,w7,n1,Nh e1,n2,SB,seval,NF,NL,NH];exact hN (m+1) _ _ ⟨by omega,D.app,by rw [O,g];exact d.app _,o _ fun j v=>by
    simp only [upd]
    repeat rw [Ng (by omega)],by rfl⟩ (by omega)
  ·simp only [n50,q1,q2,q6,u,q,h1,w,OG,NK,la,lb,xa,xb,z,s,t,B,C,w1,w2,w3,w4,w5,w7,n1,Nc e1,SB,seval,NF,NL,NH];exact hN (m+1) _ _ ⟨by omega,D.app,by rw [O,g];exact d.app _,o _ fun j v=>by
    simp only [upd]
    repeat rw [Ng (by omega)],by rfl⟩ (by omega)
 rw [Nl ab] at g;obtain ⟨G1,G2,G3,s1,s2,s3,M,W⟩:=Nsr d am aq an ha hb hc (i:=i) (by omega) (p+30*((j:Int)-i-1)+l.1,l.2.1+1,(j:Int));rw [List.set_set,<-g,<-O] at M;by_cases e0:p+30*((j:Int)-i-1)+l.1<old.1
 ·simp only [n50,q1,q2,q6,q7,q8,u,q,h1,w,OG,NK,la,lb,xa,xb,z,s,t,A,B,S,ah,C,U,w1,w2,w3,w4,w5,w6,w7,Nh e0,s1,s2,s3,SB,seval,NF,NL,NH,NB];exact hN (m+1) _ _ ⟨by omega,(D.trans W).app,M.app _,o _ fun j v=>by
   simp only [upd]
   repeat rw [Ng (by omega)],by rfl⟩ (by omega)
 ·have n2:=Nh (show old.2.1<=l.2.1+1 by omega);simp only [n50,q1,q2,q6,q7,q8,u,q,h1,w,OG,NK,la,lb,xa,xb,z,s,R,t,A,B,S,ah,C,U,w1,w2,w3,w4,w5,w6,w7,Nc e0,Nh (show p+30*((j:Int)-i-1)+l.1=old.1 by omega),n2,s1,s2,s3,SB,seval,NF,NL,NH,NB];exact hN (m+1) _ _ ⟨by omega,(D.trans W).app,M.app _,o _ fun j v=>by
   simp only [upd]
   repeat rw [Ng (by omega)],by rfl⟩ (by omega)
theorem No9 [OA] {lim a b:Nat} (hv:QD P L=0) (m:es.length=n) (I:n<=40) (ht:∀i,i<es.length->0<=(gt es i).time/\(gt es i).time<=NV)
  (C:∀G,Chg [a,b,c] G0 G->NetIn G pp pl P L/\Sl G encE 7 pe es) (B:lim<=G0.length) (h2:NE G0 A2=Vc (netV pp P.length cp pl L.length cl)) (s:A2≠a/\A2≠b/\A2≠c)
  (x:a≠b) (z:b≠c) (y:a≠c) (S:lim<=a) (U:lim<=b) (hc:lim<=c) (v:Tab G0 a b c (OJ P L es 0))
  (Y:fr 1=.slice pe n ce) (g2:fr 2=Vp A2) (g5:fr 5=Vi n) (g6:fr 6=.slice (Sa a) n ca) (g7:fr 7=.slice (Sa b) n cb) (g8:fr 8=.slice (Sa c) n cc) (H:fr 10=Vi ((n:Int)-1))
  (hR:∀fr' G,Chg [a,b,c] G0 G->Tab G a b c (OJ P L es n)->(∀j,j<=9->fr' j=fr j)->PT E a50 lim K fr' G Z) :
  PT E a50 lim (.code (.loop N0x)::.inBlock 0::K) fr G0 Z:=by
 refine NP (fun k=>n-k) (fun k fr' G=>k<=n/\Chg [a,b,c] G0 G/\Tab G a b c (OJ P L es k)/\(∀j,j<=9->fr' j=fr j)/\fr' 10=Vi ((n:Int)-1-k)) 0
  ⟨Np _,Chg.refl,v,fun _ _=>rfl,by rw [H];simp⟩ ?_
 intro k fr' G ⟨hk,J,d,e,l⟩ hN;rw [NU N0x.eq_1];have q1:=(e 1 (by decide)).trans Y;have q2:=(e 2 (by decide)).trans g2;have q5:=(e 5 (by decide)).trans g5;have V:=(e 6 (by decide)).trans g6;have W:=(e 7 (by decide)).trans g7;have X:=(e 8 (by decide)).trans g8;have aa:lim<=G.length:=Pt B J.len;have A:∀(f:Nat->Value),(∀j,j<=9->f j=fr' j)->∀j,j<=9->f j=fr j:=fun f h j q=>(h j q).trans (e j q)
 refine NJ ?_;by_cases ab:k<n
 case neg=>
  obtain rfl:k=n:=by omega
  have h1:=Nc (show ¬(0:Int)<=(k:Int)-1-k by omega);simp only [n50,l,h1,SB,seval,NL,NH];exact hR _ _ J.app (d.app _) fun j q=>by
   rw [<-e j q];simp only [upd]
   repeat rw [Ng (by omega)]
 obtain ⟨i,hi⟩:∃i,i=n-1-k:=⟨_,rfl⟩
 have D:(n:Int)-1-k=(i:Int):=by omega
 rw [D] at l;have Q:=Nh (show (0:Int)<=(i:Int) by omega);have o:(OJ P L es k).length=n:=by rw [Tk,m]
 have r:OJ P L es (k+1)=(OJ P L es k).set i (QS P L es (OJ P L es k) i k):=by rw [OJ,m,<-hi]
 have w:=Vh (P:=P) (L:=L) (es:=es) k (by omega);rw [m] at w;obtain ⟨G1,G2,G3,s1,s2,s3,t,M⟩:=Nsr d x z y S U hc (i:=i) (by omega) (30*((n:Int)-1-i),1,-1);have R:QS P L es (OJ P L es k) i 0=(30*((n:Int)-1-i),1,-1):=by rw [QS,m]
 rw [<-R] at t;have xA:=fun cc (k:IntKind) (H1:NA)=>(Tab.get (i:=i) d.a (by omega)).2 n cc k H1 o.symm
 have xB:=fun cc (k:IntKind) (H1:NA)=>(Tab.get (i:=i) d.b (by omega)).2 n cc k H1 o.symm
 have xC:=fun cc (k:IntKind) (H1:NA)=>(Tab.get (i:=i) d.c (by omega)).2 n cc k H1 o.symm
 have w1:IntKind.i64.wrap ((n:Int)-1)=(n:Int)-1:=NR (by omega) (by omega);have w2:IntKind.i64.wrap ((n:Int)-1-i)=(n:Int)-1-i:=NR (by omega) (by omega);have w3:IntKind.i64.wrap (30*((n:Int)-1-i))=30*((n:Int)-1-i):=NR (by omega) (by omega);have w4:IntKind.i64.wrap ((i:Int)-1)=(n:Int)-1-((k+1:Nat):Int):=by rw [NR (by omega) (by omega)];omega
 have g:=J.trans M;simp only [n50,Q,q5,V,W,X,l,xA,xB,xC,w1,w2,w3,s1,s2,s3,SB,seval,NL,NH,NB];refine Ny0 (A2:=A2) (a:=a) (b:=b) (c:=c) (ca:=ca) (cb:=cb) (cc:=cc) (cp:=cp) (cl:=cl) (ce:=ce) (i:=i) (k:=k) (T:=OJ P L es k) hv m I ht (by omega) o w (fun G' O=>C G' (g.app.trans O)) (by simp;have:=g.len;omega) ((OD.refl.app).cells (g.cells h2 (by simp [s]))) s x z y S U hc (t.app _) q1 q2 V W X l rfl fun fr1 G4 N u p=>?_
 rw [<-r] at u;have F:∀j,j<=9->fr1 j=fr' j:=fun j q=>by
  rw [p j (by omega)];simp only [upd]
  repeat rw [Ng (by omega)]
 have f10:fr1 10=Vi i:=(p 10 (by omega)).trans l;refine NJ ?_;simp only [n50,f10,w4,SB,seval,NL,NH];exact hN (k+1) _ _ ⟨by omega,(g.app.trans N).app,u.app _,A _ fun j q=>by
  rw [<-F j q];simp only [upd]
  repeat rw [Ng (by omega)],by rfl⟩ (by omega)
theorem Nsp {n:Nat} {T:List Wo}:∀m,0<=(Sv n T m).2.2->Sv n T m=XN T (Sv n T m).2.2.toNat
 | 0,h=>by rw [Sv] at h;simp at h
 | m+1,h=>by
   have e:Sv n T (m+1)=XN T (n-1-m)\/Sv n T (m+1)=Sv n T m:=by
    rw [Sv];split
    ·exact .inl rfl
    ·unfold Us;split
     ·exact .inr rfl
     ·exact .inl rfl
   rcases e with e | e
   ·rw [e];rfl
   ·rw [e];exact Nsp m (by rw [e] at h;exact h)
theorem Nyc [OA] {lim a b:Nat} (ae:n<=40) (Q:T.length=n) (L:∀j,j<n->Bnd n j (gt T j)) (o:Tab G0 a b c T)
  (g6:fr 6=.slice (Sa a) n ca) (g7:fr 7=.slice (Sa b) n cb) (g9:fr 9=Vi (-1)) (X:fr 13=Vi ((n:Int)-1))
  (hR:∀fr' G,OD G0 G->fr' 9=Vi (Sv n T n).2.2->(∀j,j<=8->fr' j=fr j)->PT E a50 lim K fr' G Z) :
  PT E a50 lim (.code (.loop N0z)::.inBlock 4::K) fr G0 Z:=by
 refine NP (fun m=>n-m) (fun m fr' G=>m<=n/\OD G0 G/\fr' 9=Vi (Sv n T m).2.2/\(∀j,j<=8->fr' j=fr j)/\fr' 13=Vi ((n:Int)-1-m)) 0
  ⟨Np _,OD.refl,by rw [g9];rfl,fun _ _=>rfl,by rw [X];simp⟩ ?_
 intro m fr' G ⟨hm,w,v,x,l⟩ hN;rw [NU N0z.eq_1];have S:=(x 6 (by decide)).trans g6;have q7:=(x 7 (by decide)).trans g7;have g:∀(f:Nat->Value),(∀j,j<=8->f j=fr' j)->∀j,j<=8->f j=fr j:=fun f h j y=>(h j y).trans (x j y)
 refine NJ ?_;by_cases ag:m<n
 case neg=>
  obtain rfl:m=n:=by omega
  have h1:=Nc (show ¬(0:Int)<=(m:Int)-1-m by omega);simp only [n50,l,h1,SB,seval,NL,NH];exact hR _ _ w.app v fun j y=>by
   rw [<-x j y];simp only [upd]
   repeat rw [Ng (by omega)]
 obtain ⟨i,hi⟩:∃i,i=n-1-m:=⟨_,rfl⟩
 have W:(n:Int)-1-m=(i:Int):=by omega
 rw [W] at l;have p:=Nh (show (0:Int)<=(i:Int) by omega);have d:Sv n T (m+1)=if (Sv n T m).2.2<0 then XN T i else Us (Sv n T m) (XN T i):=by rw [Sv,<-hi]
 have ad:=(Xo (n:=n) (T:=T) m (by omega))
 have ab:=Nsp (n:=n) (T:=T) m;have e:Tab G a b c T:=⟨w.cells o.a,w.cells o.b,w.cells o.c⟩
 have N:IntKind.i64.wrap ((i:Int)-1)=(n:Int)-1-((m+1:Nat):Int):=by rw [NR (by omega) (by omega)];omega
 generalize q:Sv n T (m+1)=nx at d;generalize Sv n T m=old at *;by_cases Y:old.2.2<0
 ·rw [Nl Y] at d;simp only [n50,p,v,l,N,Nh Y,SB,seval,NL,NH];exact hN (m+1) _ _ ⟨by omega,w.app,by rw [q,d,show (XN T i).2.2=(i:Int) from rfl];exact rfl,g _ fun j y=>by
   simp only [upd]
   repeat rw [Ng (by omega)],by rfl⟩ (by omega)
 rw [Ng Y,Nl5] at d;have B:=ab (by omega);obtain ⟨f,hf⟩:=Int.eq_ofNat_of_zero_le (show 0<=old.2.2 by omega);rw [hf,N1] at B;have aa:f<n:=by omega
 have H:=Tab.get (i:=i) e.a (by omega);have J:=Tab.get (i:=i) e.b (by omega);have F:=Tab.get (i:=f) e.a (by omega);have I:=Tab.get (i:=f) e.b (by omega);have s:=H.1;have D:=J.1;have r:=F.1;have C:=I.1;have A:=fun cc (k:IntKind) (H1:NA)=>H.2 n cc k H1 Q.symm
 have P:=fun cc (k:IntKind) (H1:NA)=>J.2 n cc k H1 Q.symm
 have z:=fun cc (k:IntKind) (H1:NA)=>F.2 n cc k H1 Q.symm
 have O:=fun cc (k:IntKind) (H1:NA)=>I.2 n cc k H1 Q.symm
 simp only [f1,f2] at s D r C;have bi:=L i (by omega);have bf:=L f aa;unfold Bnd at bi bf;rw [B] at d;unfold XN at d;simp only at d;rw [hf] at v;have R:=Nc (show ¬(f:Int)<0 by omega);generalize gt T i=u at *;generalize gt T f=t at *;have w1:IntKind.i64.wrap (30*(i:Int))=30*(i:Int):=NR (by omega) (by omega);have w2:IntKind.i64.wrap (30*(f:Int))=30*(f:Int):=NR (by omega) (by omega);have U:IntKind.i64.wrap (30*(i:Int)+u.1)=30*(i:Int)+u.1:=NR (by omega) (by omega);have V:IntKind.i64.wrap (30*(f:Int)+t.1)=30*(f:Int)+t.1:=NR (by omega) (by omega);by_cases M:30*(i:Int)+u.1<30*(f:Int)+t.1\/(30*(i:Int)+u.1=30*(f:Int)+t.1/\t.2.1<=u.2.1)
 case neg=>
  rw [Ng M] at d;have n1:=Nc (show ¬30*(i:Int)+u.1<30*(f:Int)+t.1 by omega);by_cases e1:30*(i:Int)+u.1=30*(f:Int)+t.1
  ·have n2:=Nc (show ¬t.2.1<=u.2.1 by omega);simp only [n50,p,S,q7,v,l,R,s,D,r,C,A,P,z,O,w1,w2,U,V,N,n1,Nh e1,n2,SB,seval,NL,NH];exact hN (m+1) _ _ ⟨by omega,w.app,by rw [q,d];exact v,g _ fun j y=>by
    simp only [upd]
    repeat rw [Ng (by omega)],by rfl⟩ (by omega)
  ·simp only [n50,p,S,v,l,R,s,r,A,z,w1,w2,U,V,N,n1,Nc e1,SB,seval,NL,NH];exact hN (m+1) _ _ ⟨by omega,w.app,by rw [q,d];exact v,g _ fun j y=>by
    simp only [upd]
    repeat rw [Ng (by omega)],by rfl⟩ (by omega)
 rw [Nl M] at d;by_cases e0:30*(i:Int)+u.1<30*(f:Int)+t.1
 ·simp only [n50,p,S,v,l,R,s,r,A,z,w1,w2,U,V,N,Nh e0,SB,seval,NL,NH];exact hN (m+1) _ _ ⟨by omega,w.app,by rw [q,d];exact rfl,g _ fun j y=>by
   simp only [upd]
   repeat rw [Ng (by omega)],by rfl⟩ (by omega)
 ·have n2:=Nh (show t.2.1<=u.2.1 by omega);simp only [n50,p,S,q7,v,l,R,s,D,r,C,A,P,z,O,w1,w2,U,V,N,Nc e0,Nh (show 30*(i:Int)+u.1=30*(f:Int)+t.1 by omega),n2,SB,seval,NL,NH];exact hN (m+1) _ _ ⟨by omega,w.app,by rw [q,d];exact rfl,g _ fun j y=>by
   simp only [upd]
   repeat rw [Ng (by omega)],by rfl⟩ (by omega)
theorem Nry {x:Int} (a:x<0):∀f,PP T f x=[]
 | 0=>rfl
 | f+1=>by rw [PP,Nl a]
theorem N9h (n:Nat):(List.range (n*1)).map (fun j=>[Value.int .i64 0].getD (j % 1) undef)=(List.replicate n (0:Int)).flatMap encI:=by
 have h1:∀j,[Value.int .i64 0].getD (j % 1) undef=Value.int .i64 0:=fun j=>by rw [Nat.mod_one];rfl
 simp only [h1];rw [List.map_const',Pe,Ps]
 induction n with
 | zero=>rfl
 | succ n ih=>
   rw [Po,Po,Ol,<-ih];rfl
theorem Nrz [OA] {lim:Nat} {v:Int} (aa:n<=40) (hT:T.length=n) (N:∀j,j<n->Xh n j (gt T j)) (ah:v<n) (X:lim<=H.length) (M:Chg [] H G0) (hc:NE G0 c=Vc ((T.map f3).flatMap encI))
  (g8:fr 8=.slice (Sa c) n cc) (I:fr 14=Vz) (J:fr 15=Vi v)
  (hR:∀fr' G q cq,Chg [] G0 G->Own G0.length G encI 1 q cq (PP T n v)->fr' 14=.slice q (PP T n v).length cq->(∀j,j<=8->fr' j=fr j)->PT E a50 lim K fr' G Z) :
  PT E a50 lim (.code (.loop N00)::.inBlock 6::K) fr G0 Z:=by
 refine NP (fun s:List Int×Nat×Int×Option Addr×Nat=>s.2.1) (fun s fr' G=>s.1++PP T s.2.1 s.2.2.1=PP T n v/\s.1.length+s.2.1=n/\(s.2.2.1<0\/(s.2.2.1<n/\(n:Int)-s.2.2.1<=s.2.1))/\Chg [] G0 G/\Own G0.length G encI 1 s.2.2.2.1 s.2.2.2.2 s.1/\fr' 14=.slice s.2.2.2.1 s.1.length s.2.2.2.2/\fr' 15=Vi s.2.2.1/\(∀j,j<=8->fr' j=fr j)) ([],n,v,none,0)
  ⟨rfl,by simp,by simp only;omega,Chg.refl,.nil,by rw [I];rfl,J,fun _ _=>rfl⟩ ?_
 rintro ⟨l,f,x,W,cw⟩ fr' G ⟨d,R,hx,C,D,o,p,t⟩ hN;simp only at d R hx D o p;rw [NU N00.eq_1];have q8:=(t 8 (by decide)).trans g8;have A:∀(f:Nat->Value),(∀j,j<=8->f j=fr' j)->∀j,j<=8->f j=fr j:=fun f h j b=>(h j b).trans (t j b)
 refine NJ ?_;by_cases L:0<=x
 case neg=>
  have e:PP T f x=[]:=Nry (by omega) _;rw [e,Na] at d;subst d;simp only [n50,p,Nc L,SB,seval,NL,NH];exact hR _ _ W cw C.app (D.app _) o fun j b=>by
   rw [<-t j b];simp only [upd]
   repeat rw [Ng (by omega)]
 obtain ⟨i,rfl⟩:=Int.eq_ofNat_of_zero_le L;have P:i<n:=by omega
 obtain ⟨g,rfl⟩:∃g,f=g+1:=⟨f-1,by omega⟩
 have u:PP T (g+1) (i:Int)=(i:Int)::PP T g (gt T i).2.2:=by
  rw [PP,Ng (by omega),N1]
 rw [u] at d;have S:=N i P;have O:=C.cells hc (by simp);have w:=Tab.get (i:=i) O (by omega);have lC:=w.1;have xC:=fun cc (k:IntKind) (H1:NA)=>w.2 n cc k H1 hT.symm
 simp only [f3] at lC;have ad:=C.len;have ae:=M.len;obtain ⟨G4,e4,F,Y,Q⟩:=Own.moreF D (lim':=lim) (bytes:=8) (by omega) OT (by decide) [(i:Int)] (by simp) (by unfold OX;simp;omega) (by simp;omega) [Vc [Vi i]] (x:=.slice (Sa G.length) 1 1) (str:=false)
  (SH (m:=[(i:Int)]) (Sl.row (ro:=false) OT (by rw [NN];rfl))) rfl
 have V:∀j,j∈YT W->G0.length<=j:=fun j b=>by
  cases hpe:W with
  | none=>rw [hpe] at b;cases b
  | some a=>rw [hpe] at b;have:=D.block hpe;simp [YT] at b;omega
 generalize U:(G++[Vc [Vi i]]).length=r at e4 F Q;have ag:G.length<=r:=by rw [<-U];simp
 generalize loose 1=c' at e4 F;simp only [Nm,Nn,Nx] at e4;have y:Chg [] G0 G4:=C.trans' Y fun j b ab=>by have:=V j b;omega
 have z:=y.cells hc (by simp);have B:=(Tab.get (i:=i) z (by omega)).1;simp only [f3] at B;simp only [n50,q8,o,p,Nh L,e4,xC,B,SB,seval,NL,NH,place];exact hN (l++[(i:Int)],g,(gt T i).2.2,Sa r,c') _ _ ⟨by simp only [No,List.singleton_append];exact d,by simp;omega,by
  simp only;rcases S with e | e
  ·rw [e];omega
  ·omega,y.app,(F.le (by omega)).app _,by simp only [Nk,P0];rfl,by rfl,A _ fun j b=>by
  simp only [upd]
  repeat rw [Ng (by omega)]⟩ (by show g<g+1;omega)
theorem Ny4 [OA] {lim:Nat} (hn:NetIn H pp pl P L) (hv:QD P L=0) (hs:Sl H encE 7 pe es) (au:es.length<=40) (ht:∀i,i<es.length->0<=(gt es i).time/\(gt es i).time<=NV) (x:lim<=H.length)
  (hQ:∀G q cq r cr,Chg [] H G->U3 H.length G encI 1 q (PU P L es)->U3 H.length G enc3 3 r (QG P L es (PU P L es))->Q (.agg #[.slice q (PU P L es).length cq,.slice r (QG P L es (PU P L es)).length cr,Vi (Sr P L es (PU P L es))]) G) :
  NQ E false lim 50 [.agg (netV pp P.length cp pl L.length cl).toArray,.slice pe es.length ce] H Q:=by
 refine QN (by decide) rfl rfl ?_;rw [b50,c50];obtain ⟨n,m⟩:∃n,es.length=n:=⟨_,rfl⟩
 rw [m];have w1:IntKind.i64.wrap ((n:Int)-1)=(n:Int)-1:=NR (by omega) (by omega);have ar:=Nh (show 0<=(n:Int)/\(n:Int)*8<=2 ^ 45/\(n:Int)<2 ^ 62 by omega);simp only [n50,w1,ar,N9h,SB,Nat.reduceLT,NL,Nat.reduceEqDiff,NH,NG,place,NB,Nat.reduceAdd];generalize k:H++[Vc (netV pp P.length cp pl L.length cl),Vc [Vz,Vz,Vi 0],Vc ((List.replicate n (0:Int)).flatMap encI),Vc ((List.replicate n (0:Int)).flatMap encI),Vc ((List.replicate n (0:Int)).flatMap encI)]=G0;have am:Chg [] H G0:=by rw [<-k];exact Chg.refl.app
 have av:G0.length=H.length+5:=by rw [<-k];simp
 have b2:NE G0 H.length=Vc (netV pp P.length cp pl L.length cl):=by rw [<-k,NN];rfl
 have b4:NE G0 (H.length+1)=Vc [Vz,Vz,Vi 0]:=by rw [<-k,NY];rfl
 have hr:∀f:Wo->Int,f (0,0,0)=0->(OJ P L es 0).map f=List.replicate n (0:Int):=fun f hf=>by rw [OJ,List.map_replicate,hf,m]
 have D:Tab G0 (H.length+2) (H.length+3) (H.length+4) (OJ P L es 0):=⟨by rw [hr f1 rfl,<-k,NY];rfl,by rw [hr f2 rfl,<-k,NY];rfl,by rw [hr f3 rfl,<-k,NY];rfl⟩
 have l:∀G,Chg [H.length+2,H.length+3,H.length+4] G0 G->Chg [] H G:=fun G h=>am.trans' h fun j V ay=>by simp at V;omega
 have W:∀G,Chg [H.length+2,H.length+3,H.length+4] G0 G->NetIn G pp pl P L/\Sl G encE 7 pe es:=fun G h=>⟨hn.ext (l G h).ext,(l G h).sl hs (by simp)⟩
 clear k;refine No9 (A2:=H.length) (a:=H.length+2) (b:=H.length+3) (c:=H.length+4) (ca:=n) (cb:=n) (cc:=n) (cp:=cp) (cl:=cl) (ce:=ce) hv m (by omega) ht W (by omega) b2 (by omega) (by omega) (by omega) (by omega) (by omega) (by omega) (by omega) D rfl rfl rfl rfl rfl rfl rfl fun fr1 G1 u O d=>?_
 have K:=l G1 u;have g1:fr1 1=.slice pe n ce:=(d 1 (by omega)).trans rfl;have g2:fr1 2=Vp H.length:=(d 2 (by omega)).trans rfl;have g4:fr1 4=Vp (H.length+1):=(d 4 (by omega)).trans rfl;have g5:fr1 5=Vi n:=(d 5 (by omega)).trans rfl;have g6:fr1 6=.slice (Sa (H.length+2)) n n:=(d 6 (by omega)).trans rfl;have g7:fr1 7=.slice (Sa (H.length+3)) n n:=(d 7 (by omega)).trans rfl;have g8:fr1 8=.slice (Sa (H.length+4)) n n:=(d 8 (by omega)).trans rfl;have g9:fr1 9=Vi (-1):=(d 9 (by omega)).trans rfl;have ab:=u.cells b2 (by simp);have ae:=u.cells b4 (by simp);have R:=Vh (P:=P) (L:=L) (es:=es) n (by omega);have N:=TM (P:=P) (L:=L) (es:=es) n (by omega);rw [m] at R N;have S:(OJ P L es n).length=n:=by rw [Tk,m]
 have U:PU P L es=PP (OJ P L es n) n (Sv n (OJ P L es n) n).2.2:=by unfold PU;rw [m]
 have aa:=Xo (n:=n) (T:=OJ P L es n) n (Nf _);have y:=Ni0 (P:=P) (L:=L) (es:=es);have F:(PU P L es).length<=n:=by rw [U];exact WB _ _
 rw [U] at hQ y F;refine NJ ?_;simp only [n50,g5,w1,SB,seval,NL,NH];refine Nyc (ca:=n) (cb:=n) (by omega) S (fun j V=>R j V) (O.app _) g6 g7 g9 rfl fun t G2 aq k9 p=>?_
 have e1:t 1=.slice pe n ce:=(p 1 (by omega)).trans g1;have e2:t 2=Vp H.length:=(p 2 (by omega)).trans g2;have e4:t 4=Vp (H.length+1):=(p 4 (by omega)).trans g4;have e8:t 8=.slice (Sa (H.length+4)) n n:=(p 8 (by omega)).trans g8;have g:OD G1 G2:=by
  obtain ⟨Y,rfl⟩:=aq;rw [No];exact ⟨_,rfl⟩
 have A:Chg [] H G2:=K.trans g.chg;refine NJ ?_;simp only [n50,k9,SB,seval,NL];refine Nrz (cc:=n) (by omega) S (fun j V=>N j (by omega) V) aa.1 x A.app ((OD.refl.app).cells (g.cells O.c)) e8 rfl (by simp only [FB]) fun z G3 q cq v C f14 s=>?_
 have o:Chg [] H G3:=A.trans v.pre;have ai:z 1=.slice pe n ce:=(s 1 (by omega)).trans e1;have aj:z 2=Vp H.length:=(s 2 (by omega)).trans e2;have ak:z 4=Vp (H.length+1):=(s 4 (by omega)).trans e4;have ad:=zc (v.pre.cells (g.cells ab) (by simp));have aw:=A.len;have ax:=o.len;have ag:=v.pre.cells (g.cells ae) (by simp);generalize hks:PP (OJ P L es n) n (Sv n (OJ P L es n) n).2.2=ks at *;refine NJ ?_;simp only [n50,ai,aj,f14,ad,OG,NK,SB,seval,NF,NL];rw [<-m];refine Ny3 (ks:=ks) (hn.ext o.ext |>.app _) hv ((o.sl hs (by simp)).app _) au ht ((C.sl OT).app _) (by omega) y (by simp;omega) fun G4 r cr B I=>?_
 have J:=B.cells ((OD.refl.app).cells ag) (by simp);obtain ⟨G5,e5,h5,m5⟩:=OO (NM J) (Vc [.slice q ks.length cq,.slice r (QG P L es ks).length cr,Vi (Sr P L es ks)]);have ah:=zc J;have al:=zc h5;refine NJ ?_;simp only [n50,ak,ah,x,e5,al,SB,seval,NL,NB,NC];have az:H.length+5<=G2.length:=by have:=g.len;have:=u.len;omega
 have a0:=v.pre.len;have M:Chg [] H G4:=o.trans B.pre;have an:Chg [] H G5:=M.mut m5 (.inr (by omega));have Z:∀a,q=some a->G2.length<=a.block:=fun a w=>by have:=(C.block w).1;simpa using this
 have sq:Sl G4 encI 1 q ks:=B.pre.sl (C.sl OT) (by simp);refine hQ _ _ _ _ _ an.app ?_ ?_
 ·exact (U3.app ⟨m5.sl sq fun a w _ e=>by have:=Z a w;omega,fun a w=>by have:=Z a w;omega⟩ _)
 ·refine U3.app ⟨m5.sl I.1 fun a w _ e=>?_,fun a w=>?_⟩ _
  ·have:=I.2 a w;simp at this;omega
  ·have:=I.2 a w;simp at this;omega
end Go.Proofs.YtkppjkkkdpcgiaaGreat.Fn




