/-
  Joined texts, 8 of 10. A part of the claim that the last text states.
-/
import Derived.Test.YtkppjkkkdpcgiaaGreatPU7
set_option linter.unusedVariables false
set_option linter.unusedSimpArgs false
set_option linter.defProp false
set_option linter.unusedSectionVars false
set_option maxRecDepth 100000
set_option maxHeartbeats 4000000
namespace Go.Proofs.YtkppjkkkdpcgiaaGreat.Fn
open Go.AM Go.AM.Sym Go.Net Go.Scan
theorem Nlm {x:Ev} {c:Int} (hc:c<=NT):∀{l:List Ev},(∀y∈l,Ur y x->c<y.time)->c<Ta x l
 | [],_=>by unfold Ta;omega
 | y::l,h=>by
   unfold Ta
   split
   ·rename_i a;exact h y Nm a
   ·exact Nlm hc fun z b=>h z (Nj _ b)
theorem Nll {x y:Ev}:∀{l:List Ev},Y8 l->y∈l->Ur y x->Ta x l<=y.time
 | [],_,h,_=>(O1 h).elim
 | z::l,hr,h,hy=>by
   obtain ⟨b,r2⟩:=List.pairwise_cons.1 hr
   unfold Ta
   split
   ·rcases Nn.1 h with rfl | h
    ·omega
    ·exact b _ h
   ·rename_i a
    rcases Nn.1 h with rfl | h
    ·exact absurd hy a
    ·exact Nll r2 h hy
def atE (es:List Ev) (d:Ev) (i:Nat):Prop:=Ned (gt es i) (Ta (gt es i) (es.drop (i+1))) d
instance (es:List Ev) (d:Ev) (i:Nat):Decidable (atE es d i):=by unfold atE;infer_instance
def N1p (es:List Ev):Prop:=es.Pairwise fun x y=>Ur y x->y.time-x.time > 10
theorem Nlz {es:List Ev} {i j:Nat} (h:i<j) (a:j<es.length):gt es j∈es.drop (i+1):=by
 rw [PU a,List.mem_iff_getElem]
 exact ⟨j-(i+1),by rw [Pj];omega,by rw [Q9];congr 1;omega⟩
theorem Nlc {es:List Ev} {i:Nat} {y:Ev} (h:y∈es.drop (i+1)):∃j,i<j/\j<es.length/\gt es j=y:=by
 obtain ⟨k,hk,rfl⟩:=List.mem_iff_getElem.1 h
 rw [Pj] at hk
 refine ⟨i+1+k,by omega,by omega, ?_⟩
 rw [PU (by omega),Q9]
theorem N3y {es:List Ev} (hr:Y8 es) (ha:N1p es) {d y:Ev} (o:y∈es) (hl:Ur d y) (h1:y.time<=d.time) (h2:d.time-y.time<=10) (n:d.time<=NT) :
  ∃k,k<es.length/\gt es k=y/\∀i,i<es.length->(atE es d i↔i=k):=by
 obtain ⟨k,hk,rfl⟩:=List.mem_iff_getElem.1 o
 have c:gt es k=es[k]:=PU hk
 have apart:∀{i j:Nat},i<j->j<es.length->Ur (gt es j) (gt es i)->(gt es j).time-(gt es i).time > 10:=fun {i j} e m h=>by
  rw [PU m,PU (show i<es.length by omega)] at h⊢
  exact O9.1 ha i j (by omega) m e h
 refine ⟨k,hk,c,fun i hi=>⟨fun h=>?_,fun h=>?_⟩⟩
 ·obtain ⟨q,r,s⟩:=h
  have b:Ur (gt es k) (gt es i):=by rw [c];unfold Ur at *;omega
  have a:Ur (gt es i) (gt es k):=by unfold Ur at *;omega
  rcases Nat.lt_trichotomy i k with hik | hik | hik
  ·have:=Nll (x:=gt es i) (hr.sublist (List.drop_sublist (i+1) es)) (Nlz hik hk) b
   rw [c] at this
   omega
  ·exact hik
  ·have:=apart hik hi a
   rw [c] at this
   omega
 ·subst h
  rw [<-c] at hl h1 h2
  refine ⟨hl,h1,Nlm n fun z p l=>?_⟩
  obtain ⟨j,f,g,rfl⟩:=Nlc p
  have:=apart f g l
  omega
theorem N1x {n k:Nat} (hk:k<n) {p:Nat->Prop} [DecidablePred p] (h:∀i,i<n->(p i↔i=k)):((List.range n).map fun i=>if p i then 1 else 0).sum=1:=by
 induction n with
 | zero=>omega
 | succ n ih=>
   rw [Po,Oq,List.sum_append]
   simp only [N9,List.map_nil,List.sum_cons,List.sum_nil,Pd]
   by_cases e:k=n
   ·subst e
    rw [Nh ((h k (by omega)).2 rfl)]
    have:((List.range k).map fun i=>if p i then 1 else 0)=(List.range k).map fun _=>0:=Pv fun i hi=>by
     have:=List.mem_range.1 hi
     exact Ng fun hp=>by have:=(h i (by omega)).1 hp;omega
    rw [this]
    have a:∀m:Nat,((List.range m).map fun _=>0).sum=0:=fun m=>by
     induction m with
     | zero=>rfl
     | succ m ih=>rw [Po,Oq,List.sum_append,ih];rfl
    rw [a]
   ·rw [ih (by omega) fun i hi=>h i (by omega),Ng fun hp=>e ((h n (by omega)).1 hp).symm]
theorem Nrm (es:List Ev):∀T:List Ev,(∀d∈T,∃k,k<es.length/\∀i,i<es.length->(atE es d i↔i=k))->((List.range es.length).map fun i=>(QU es T i).length).sum=T.length
 | [],_=>by
   have b:∀m:Nat,((List.range m).map fun _=>0).sum=0:=fun m=>by
    induction m with
    | zero=>rfl
    | succ m ih=>rw [Po,Oq,List.sum_append,ih];rfl
   exact b _
 | d::T,h=>by
   obtain ⟨k,hk,h1⟩:=h d Nm
   have h2:=Nrm es T fun x hx=>h x (Nj _ hx)
   have e:(fun i=>(QU es (d::T) i).length)=fun i=>(if atE es d i then 1 else 0)+(QU es T i).length:=funext fun i=>by
    unfold QU
    by_cases hp:atE es d i
    ·rw [Qg (by simpa [atE] using hp),Nh hp,N9,Nk];omega
    ·rw [P2 (by simpa [atE] using hp),Ng hp];omega
   rw [e]
   have hs:∀(f g:Nat->Nat) (l:List Nat),(l.map fun i=>f i+g i).sum=(l.map f).sum+(l.map g).sum:=fun f g l=>by
    induction l with
    | nil=>rfl
    | cons a l ih=>simp only [N9,List.sum_cons,ih];omega
   rw [hs,h2,N1x hk h1,Nk];omega
theorem Nsx {S:List Ev} {item:Int} (hi:item≠0):N1p (Sv (NY S).1 item):=by
 have h:=(VG S).1.sublist (Xn (NY S).1 item)
 refine List.Pairwise.imp_of_mem (fun {x y} hx a h hl=>?_) h
 have e1:=((Xo hi).1 hx).2
 have e2:=((Xo hi).1 a).2
 obtain ⟨b,c⟩:=hl
 exact h (by unfold QR;rw [e1,e2,b,c])
theorem Nw2 {S:List Ev} (hS:QQ S) {item:Int} (hi:item≠0) {d:Ev} (hd:d∈Sv (NY S).2 item) :
  ∃k,k<(Sv (NY S).1 item).length/\(∀i,i<(Sv (NY S).1 item).length->(atE (Sv (NY S).1 item) d i↔i=k))/\d.time-(gt (Sv (NY S).1 item) k).time<=10:=by
 obtain ⟨h1,h2⟩:=(Xo hi).1 hd
 obtain ⟨y,j,hs,m,b⟩:=(VG S).2 d h1
 unfold QR at hs
 simp only [Prod.mk.injEq] at hs
 have ht:=(Nap hS.2 (.inr h1)).2
 obtain ⟨s,a,e⟩:=Yb (.inr h1)
 have h:=(hS.2 s a).2.2.2.2.2.2
 have l:d.seen=s.seen:=by rw [<-e]
 unfold Vx at h
 obtain ⟨k,c,f,g⟩:=N3y (es:=Sv (NY S).1 item) (ZE S item) (Nsx hi) ((Xo hi).2 ⟨j,by omega⟩) ⟨hs.2.1,hs.2.2⟩ (by omega) b (by unfold NT;omega)
 exact ⟨k,c,g,by rw [f];exact b⟩
theorem Npi {ks:List Int} (h:ks≠[]):ks.getLast? = some (gt ks (ks.length-1)):=by
 have hl:0<ks.length:=List.length_pos_iff.2 h
 rw [List.getLast?_eq_getElem?,Nf (by omega),PU (by omega)]
def UR (es:List Ev):Prop:=∀e∈es,0<=e.time/\e.time<=NT
theorem N2y [OB] {lim ce cq cr nl cl:Nat} {pe q r pl:Option Addr} {es:List Ev} {ks:List Int} {ns:Nat} {c now:Int} {H:NA} {Q:Value->NA->Prop} (he:Sl H encE 7 pe es) (w:Sl H encI 1 q ks) (hn:es.length<2 ^ 30) (y:ks.length<2 ^ 40) (hl:lim<=H.length) (hk:∀k∈ks,0<=k/\k<es.length) (ht:UR es) (t:0<=now/\now<=NT)
  (d:∀G p x,Chg [] H G->Sl G V6 5 p (WR es ks now)->Q (.slice p (WR es ks now).length x) G) :
  NP E false lim 77 [.agg (UV pe es.length ce q ks.length cq r ns cr c pl nl cl).toArray,Vi now] H Q:=by
 refine Rm (by decide) e77 rfl ?_
 rw [b77,c77]
 by_cases h0:ks=[]
 ·subst h0
  simp only [n77,r77,Yd,No,SB,seval,NJ,NK,NE,place,NB,ND]
  exact d _ none 0 Chg.refl.app rfl
 have z:0<ks.length:=List.length_pos_iff.2 h0
 obtain ⟨m,hm⟩:∃m:Nat,gt ks (ks.length-1)=m:=⟨(gt ks (ks.length-1)).toNat,by have:=hk _ (QJ (show ks.length-1<ks.length by omega));omega⟩
 have g:m<es.length:=by have:=hk _ (QJ (show ks.length-1<ks.length by omega));omega
 have s:=Npi h0
 rw [hm] at s
 have j:¬((ks.length:Nat):Int)=0:=by omega
 have l:IntKind.i64.wrap ((ks.length:Int)-1)=((ks.length-1:Nat):Int):=by rw [NN (by omega) (by omega)];omega
 have b:=fun X=>Nix w (i:=ks.length-1) (by omega) X
 rw [hm] at b
 have a:=fun c (k:IntKind) (H1:NA)=>w.idx (c:=c) (k:=k) (H1:=H1) (i:=ks.length-1) (by omega)
 have f:=fun X=>(he.app X).loadCells OE g
 have e:=fun c (k:IntKind) (H1:NA)=>he.idx (c:=c) (k:=k) (H1:=H1) g
 have v:=ht _ (QJ g)
 unfold NT at v t
 have u:IntKind.i64.wrap (now-(gt es m).time)=now-(gt es m).time:=NN (by omega) (by omega)
 have A:((m:Nat):Int).toNat=m:=N7 m
 have n:WR es ks now=if (gt es m).kind=4\/now-(gt es m).time<=20160 then [] else [⟨7,(m:Int),0,(gt es m).place,now-(gt es m).time⟩]:=by unfold WR;rw [s];rfl
 by_cases o:(gt es m).kind=4
 ·rw [Nh (.inl o)] at n
  rw [n] at d
  simp only [n77,r77,TN,Yd,OE,Uu,Np j,l,b,a,f,e,NH,hl,N3 o,SB,seval,NJ,NK,NE,place,NB,ND]
  exact d _ none 0 Chg.refl.app rfl
 by_cases h5:now-(gt es m).time<=20160
 ·rw [Nh (.inr h5)] at n
  rw [n] at d
  simp only [n77,r77,TN,Yd,OE,Uu,Si,Np j,l,b,a,f,e,NH,hl,u,Np o,N3 h5,SB,seval,NJ,NK,NE,place,NB,ND]
  exact d _ none 0 Chg.refl.app rfl
 rw [Ng (by rintro (h | h);exact o h;exact h5 h)] at n
 rw [n] at d
 simp only [n77,r77,TN,Yd,OE,Uv,Uu,Si,Np j,l,b,a,f,e,NH,hl,u,Np o,Np h5,SB,seval,NJ,NK,NE,place,NB,ND]
 exact d _ _ _ Chg.refl.app (Sl.row (ro:=false) SG (by rw [NR];rfl))
theorem Nmz [OB] {mp:Bool} {lim B:Nat} {x y:Ev} {o:Bool} {H:NA} {Q:Value->NA->Prop} (hB:NC H B=.cells o (encE x)) :
  NP E mp lim 110 [.agg (encE y).toArray,Vp B] H Q=Q (.bool (decide (Ur y x))) H:=by
 refine pc (by decide) N9u rfl rfl ?_
 rw [Oas,N6x]
 have a:=fun X=>(OM.refl.app (X:=X)).cells hB
 by_cases h1:y.place=x.place
 ·by_cases h2:y.kind=x.kind
  ·simp only [n110,N5g,a,Uv,Uu,N3 h1,N3 h2,N3 (show Ur y x from ⟨h1,h2⟩),SB,seval,NJ,NK,NE,place,NB,ND]
  ·simp only [n110,N5g,a,Uv,Uu,N3 h1,Np h2,Np (fun h:Ur y x=>h2 h.2),SB,seval,NJ,NK,NE,place,NB,ND]
 ·simp only [n110,N5g,a,Uv,Np h1,Np (fun h:Ur y x=>h1 h.1),SB,seval,NJ,NK,NE,place,NB,ND]
def N1n:ACode:=YF (YF (YF (YF (YF c76))))
theorem N3t:c76=.seq (hdC c76) (.seq (hdC (YF c76)) (.seq (hdC (YF (YF c76))) (.seq (hdC (YF (YF (YF c76)))) (.seq (hdC (YF (YF (YF (YF c76))))) N1n)))):=rfl
def Nbf (x:Ev) (i:Nat) (lv:Int) (tw:List Ev):List An:=(tw.filter fun y=>Ned x lv y).map (Nu0 x i)
theorem Nuz {x:Ev} {i j:Nat} {lv:Int} {tw:List Ev} (h:j<tw.length):Nbf x i lv (tw.take (j+1))=if Ned x lv (gt tw j) then Nbf x i lv (tw.take j)++[Nu0 x i (gt tw j)] else Nbf x i lv (tw.take j):=by
 unfold Nbf
 rw [Oe h,List.filter_append,<-PU h]
 by_cases a:Ned x lv (gt tw j)
 ·rw [Nh a,Qg (by simpa using a),List.filter_nil,Oq];rfl
 ·rw [Ng a,P2 (by simpa using a),List.filter_nil,Nc]
theorem Nz9 {x:Ev} {i:Nat} {lv:Int} {tw:List Ev}:(Nbf x i lv tw).length<=tw.length:=by
 unfold Nbf;rw [Nw];exact Qo ..
theorem Nrn [OB] {lim B ct i:Nat} {pt:Option Addr} {x:Ev} {tw:List Ev} {lv:Int} {H G:NA} {fr:Nat->Value} {Q:Value->NA->Prop} (hB:NC G B=Vc (encE x)) (htw:Sl H encE 7 pt tw) (hC:Chg [] H G) (W:H.length<=B) (hn:tw.length<2 ^ 30) (hl:lim<=H.length) (ht:UR tw) (hx:0<=x.time/\x.time<=NT)
  (f1:fr 1=.slice pt tw.length ct) (f2:fr 2=Vi i) (U:fr 7=Vp B) (V:fr 8=.func (.func 110) #[] #[Vp B]) (f9:fr 9=Vi lv)
  (Y:∀G p C,Chg [] H G->Sl G V6 5 p (Nbf x i lv tw)->Q (.slice p (Nbf x i lv tw).length C) G) :
  QC E a76 lim [.code N1n] fr G Q:=by
 unfold N1n
 refine NL ?_
 simp only [YF,c76,n76,f1,SB,seval,NJ]
 refine NZ (fun j:Nat×Option Addr×Nat=>tw.length-j.1) (fun j fr G=>j.1<=tw.length/\fr 2=Vi i/\fr 7=Vp B/\fr 8=.func (.func 110) #[] #[Vp B]/\fr 9=Vi lv/\fr 12=.slice j.2.1 (Nbf x i lv (tw.take j.1)).length j.2.2/\fr 37=.slice pt tw.length ct/\fr 38=Vi tw.length/\fr 39=Vi j.1/\
   Chg [] H G/\NC G B=Vc (encE x)/\Own (B+1) G V6 5 j.2.1 j.2.2 (Nbf x i lv (tw.take j.1))) (0,none,0)
  ⟨Nv _,f2,U,V,f9,rfl,rfl,rfl,by rfl,hC.app,(OM.refl.app).cells hB,.nil⟩ ?_
 rintro ⟨j,p,C⟩ fr G ⟨Z,I,v,u,A,b,g,d,m,hC,hB,n⟩ J
 simp only at Z b m n J
 rw [OD N4l.eq_1]
 refine NL ?_
 have R:=hC.len
 by_cases e:j<tw.length
 case neg=>
  obtain rfl:j=tw.length:=by omega
  rw [Ol] at b n
  simp only [n76,r76,b,d,m,NW,e,SB,seval,NJ,NK,ND]
  exact Y _ _ _ hC.app ((n.sl SG).app _)
 have T:=hC.sl htw (fun a _ _ h=>(by cases h))
 have s:=fun X=>(T.app X).loadCells OE e
 have l:=fun c (k:IntKind) (H1:NA)=>T.idx (c:=c) (k:=k) (H1:=H1) e
 have t:IntKind.i64.wrap ((j:Int)+1)=((j+1:Nat):Int):=OV (by omega)
 have r:lim<=G.length:=by omega
 have M:=NG hB
 have f:=Nuz (x:=x) (i:=i) (lv:=lv) e
 have P:(Nbf x i lv (tw.take j)).length<=tw.length:=Qc Nz9 (by rw [O6];omega)
 have N:=ht _ (QJ e)
 generalize gt tw j=y at *
 have o:=fun X=>(OM.refl.app (X:=X)).cells hB
 have q:=fun X (mp:Bool) (lim:Nat) (Q:Value->NA->Prop)=>Nmz (mp:=mp) (lim:=lim) (x:=x) (y:=y) (Q:=Q) (o X)
 by_cases z:Ur y x
 case neg=>
  rw [Ng (fun h=>z h.1)] at f
  rw [<-f] at b n
  simp only [n76,u,g,d,m,NW,e,s,l,t,r,q,OE,NM,NH,Oa z,SB,seval,NF,NJ,NK,place,NB]
  exact J (j+1,p,C) _ _ ⟨by omega,I,v,u,A,b,g,d,rfl,hC.app,(OM.refl.app).cells hB,n.app _⟩ (by simp only;omega)
 by_cases D:x.time<=y.time
 case neg=>
  rw [Ng (fun h=>D h.2.1)] at f
  rw [<-f] at b n
  simp only [n76,v,u,g,d,m,NW,e,s,l,t,r,q,o,OE,Si,NM,NH,Ns z,Np D,SB,seval,NF,NJ,NK,place,NB]
  exact J (j+1,p,C) _ _ ⟨by omega,I,v,u,A,b,g,d,rfl,hC.app,(OM.refl.app).cells hB,n.app _⟩ (by simp only;omega)
 by_cases c3:y.time<lv
 case neg=>
  rw [Ng (fun h=>c3 h.2.2)] at f
  rw [<-f] at b n
  simp only [n76,v,u,A,g,d,m,NW,e,s,l,t,r,q,o,OE,Si,NM,NH,Ns z,N3 D,Np c3,SB,seval,NF,NJ,NK,place,NB]
  exact J (j+1,p,C) _ _ ⟨by omega,I,v,u,A,b,g,d,rfl,hC.app,(OM.refl.app).cells hB,n.app _⟩ (by simp only;omega)
 rw [Nh ⟨z,D,c3⟩] at f
 unfold NT at hx N
 have O:IntKind.i64.wrap (y.time-x.time)=y.time-x.time:=NN (by omega) (by omega)
 obtain ⟨G2,e2,K,F,w,S,_⟩:=n.step (lim':=lim) (bytes:=40) (by omega) SG (by decide) (Nu0 x i y) (by unfold PM;omega) (by omega) (by omega) [Vc (encE y),Vc (V6 (Nu0 x i y))] (G.length+1) 1 (by rw [NR];rfl)
 have L:V6 (Nu0 x i y)=[.int .u8 6,Vi i,Vi 0,Vi x.place,Vi (y.time-x.time)]:=rfl
 rw [L] at e2
 simp only [n76,I,v,u,A,b,g,d,m,NW,e,s,l,t,r,q,o,OE,Uv,Si,NM,NH,Ns z,N3 D,N3 c3,O,e2,SB,seval,NF,NJ,NK,place,NB]
 exact J (j+1,Sa (G.length+2),loose 5) _ _ ⟨by omega,I,v,u,A,by rw [f,Ni];rfl,g,d,rfl,F [] H (by omega) hC,by rw [w B M (fun a ha=>by have:=(n.block ha).1;omega)];exact hB,by rw [f];exact K⟩ (by simp only;omega)
theorem Np2 [OB] {lim ce cq cr nl cl ct nk ns i:Nat} {pe q r pl pt:Option Addr} {es tw:List Ev} {c:Int} {H:NA} {Q:Value->NA->Prop} (he:Sl H encE 7 pe es) (hce:Ve 7 ce es.length) (htw:Sl H encE 7 pt tw) (hi:i<es.length) (hn:es.length<2 ^ 30) (w:tw.length<2 ^ 30) (hl:lim<=H.length) (ht:UR es) (z:UR tw)
  (t:∀G p T,Chg [] H G->Sl G V6 5 p (QU es tw i)->Q (.slice p (QU es tw i).length T) G) :
  NP E false lim 76 [.agg (UV pe es.length ce q nk cq r ns cr c pl nl cl).toArray,.slice pt tw.length ct,Vi i] H Q:=by
 refine Rm (by decide) e76 rfl ?_
 rw [b76,N3t]
 have l:=fun X=>(he.app X).loadCells OE hi
 have e:=fun c (k:IntKind) (H1:NA)=>he.idx (c:=c) (k:=k) (H1:=H1) hi
 have o:IntKind.i64.wrap ((i:Int)+1)=((i+1:Nat):Int):=OV (by omega)
 obtain ⟨Y,k1,Z,N,_,_,_⟩:=YI (vlo:=some (Vi ((i+1:Nat):Int))) (vhi:=none) (lo:=i+1) (hi:=es.length) he hce OE (fun cap P=>by rw [Nqc (by omega) (by omega),N7]) (by omega) (Nd _) (by omega)
 rw [Ol] at N
 simp only [hdC,YF,c76,n76,TN,l,e,o,NH,hl,OE,Z,SB,seval,NJ,NK,NE,place,NB]
 obtain ⟨D,K⟩:∃D,D=es.drop (i+1):=⟨_,rfl⟩
 have L:es.length-(i+1)=D.length:=by rw [K,Pj]
 rw [<-K] at N
 rw [L]
 have U:QU es tw i=Nbf (gt es i) i (Ta (gt es i) D) tw:=by unfold QU Nbf;rw [K]
 rw [U] at t
 have A:=ht _ (QJ hi)
 generalize gt es i=x at *
 have V:D.length<2 ^ 30:=by omega
 refine NZ (fun j:Nat=>D.length-j) (fun j fr G=>j<=D.length/\fr 1=.slice pt tw.length ct/\fr 2=Vi i/\fr 7=Vp (H.length+1)/\fr 8=.func (.func 110) #[] #[Vp (H.length+1)]/\fr 9=Vi (NT+1)/\fr 25=.slice Y D.length k1/\fr 26=Vi D.length/\fr 27=Vi j/\
   Chg [] H G/\NC G (H.length+1)=Vc (encE x)/\Ta x D=Ta x (D.drop j)) 0
  ⟨Nv _,rfl,rfl,rfl,rfl,rfl,rfl,rfl,by rfl,Chg.refl.app,by rw [NR];rfl,rfl⟩ ?_
 intro j fr G ⟨hj,C,F,I,s,O,m,g,n,hC,hB,b⟩ W
 rw [OD N4k.eq_1]
 refine NL ?_
 have R:=hC.len
 by_cases d:j<D.length
 case neg=>
  obtain rfl:j=D.length:=by omega
  rw [Qt] at b
  have f:Ta x D=NT+1:=b
  rw [f] at t
  simp only [n76,g,n,NW,d,SB,seval,NJ,NK]
  exact Nrn (lv:=NT+1) ((OM.refl.app).cells hB) htw hC.app (by omega) w hl z A C F I s O t
 have S:=hC.sl N (fun a _ _ h=>(by cases h))
 have l:=fun X=>(S.app X).loadCells OE d
 have e:=fun c (k:IntKind) (H1:NA)=>S.idx (c:=c) (k:=k) (H1:=H1) d
 have o:IntKind.i64.wrap ((j:Int)+1)=((j+1:Nat):Int):=OV (by omega)
 have v:lim<=G.length:=by omega
 have M:D.drop j=gt D j::D.drop (j+1):=by rw [Ow d,PU d]
 rw [M] at b
 generalize gt D j=y at *
 have J:=fun X=>(OM.refl.app (X:=X)).cells hB
 have u:=fun X (mp:Bool) (lim:Nat) (Q:Value->NA->Prop)=>Nmz (mp:=mp) (lim:=lim) (x:=x) (y:=y) (Q:=Q) (J X)
 by_cases B:Ur y x
 ·have f:Ta x D=y.time:=b.trans (by unfold Ta;rw [Nh B])
  rw [f] at t
  simp only [n76,s,m,g,n,NW,d,l,e,v,u,OE,Si,NM,NH,Ns B,SB,seval,NF,NJ,NK,reduceCtorEq,place,NB]
  exact Nrn (lv:=y.time) ((OM.refl.app).cells hB) htw hC.app (by omega) w hl z A C F I s rfl t
 ·have f:Ta x D=Ta x (D.drop (j+1)):=b.trans (by conv=>lhs;unfold Ta;rw [Ng B])
  simp only [n76,s,m,g,n,NW,d,l,e,o,v,u,OE,NM,NH,Oa B,SB,seval,NF,NJ,NK,place,NB]
  exact W (j+1) _ _ ⟨by omega,C,F,I,s,O,m,g,rfl,hC.app,(OM.refl.app).cells hB,f⟩ (by omega)
theorem Nzi {L:List Leg} (c:L.Pairwise (fun a b=>a.id≠b.id)) {l:Leg} (hl:l∈L):L.find? (fun x=>x.id=l.id)=some l:=by
 cases h:L.find? (fun x=>x.id=l.id) with
 | none=>exact absurd (List.find?_eq_none.1 h l hl) (by simp)
 | some y=>
   have h1:=Rh h
   have h2:=Q6 h
   rw [Nej c y h2 l hl (by simpa using h1)]
theorem N3d {α β:Type} [Inhabited α] [Inhabited β] {f:α->β} {l:List α} {i:Nat} (h:i<l.length):gt (l.map f) i=f (gt l i):=by
 rw [PU (by simpa using h),PU h,Pz]
theorem Ntr [OB] {lim ce cq cr nl cl cp cL nk ns:Nat} {pe q r pl pp pL:Option Addr} {P:List Int} {L:List Leg} {es:List Ev} {s:Stp} {c:Int} {H:NA} {Q:Value->NA->Prop} (hN:NetIn H pp pL P L) (he:Sl H encE 7 pe es) (hs:Uz es.length s) (hn:es.length<2 ^ 30) (hl:lim<=H.length)
  (g:∀G p c',Chg [] H G->Sl G V6 5 p (TE P L es s)->Q (.slice p (TE P L es s).length c') G) :
  NP E false lim 109 [.agg (UV pe es.length ce q nk cq r ns cr c pl nl cl).toArray,.agg (RX pp P.length cp pL L.length cL).toArray,.agg (enc3 s).toArray] H Q:=by
 refine Rm (by decide) N9v rfl ?_
 rw [Oat,c109]
 unfold Uz at hs
 obtain ⟨m,hm⟩:∃m:Nat,s.1=m:=⟨s.1.toNat,by omega⟩
 obtain ⟨k,hk⟩:∃k:Nat,s.2.1=k:=⟨s.2.1.toNat,by omega⟩
 have U:m<es.length:=by omega
 have O:k<es.length:=by omega
 have e0:=Nz6 (x:=s)
 have e1:=Npy (x:=s)
 rw [hm] at e0
 rw [hk] at e1
 have am:=fun X=>(he.app X).loadCells OE U
 have an:=fun X=>(he.app X).loadCells OE O
 have ak:=fun c (k:IntKind) (H1:NA)=>he.idx (c:=c) (k:=k) (H1:=H1) U
 have al:=fun c (k:IntKind) (H1:NA)=>he.idx (c:=c) (k:=k) (H1:=H1) O
 have d:TE P L es s=(Ncj P L (gt es m).place (gt es k).place (gt es m).time).dropLast.map (Zn s):=by unfold TE;rw [hm,hk,N7,N7]
 simp only [n109,TN,OE,Uv,Si,e0,e1,NM,am,an,ak,al,NH,hl,PW,SB,seval,NF,NJ,NE,place,NB]
 generalize gt es m=a at *
 generalize gt es k=b at *
 refine N1b (hN.app _) (by simp;omega) (fun G he hC=>?_) (fun G he hA hC=>?_) (fun G v w pw cw he hC hv hA hB ar l=>?_)
 ·rw [Nv5 he] at d
  rw [d] at g
  refine NL ?_
  simp only [n109,N19,Np he,SB,seval,NJ,NK,ND]
  exact g _ none 0 hC.pre.app rfl
 ·rw [Nru hA] at d
  rw [d] at g
  refine NL ?_
  simp only [n109,N19,SB,seval,NJ,NK,ND]
  exact g _ none 0 hC.pre.app rfl
 have Y:Ncj P L a.place b.place a.time=w:=Nc3 ⟨he,v,hv,hA,hB⟩
 rw [Y] at d
 by_cases h0:w=[]
 ·subst h0
  rw [d] at g
  refine NL ?_
  simp only [n109,N19,No,SB,seval,NJ,NK,ND]
  exact g _ none 0 hC.pre.app rfl
 have aq:0<w.length:=List.length_pos_iff.2 h0
 have ah:¬((w.length:Nat):Int)=0:=by omega
 have W:IntKind.i64.wrap ((w.length:Int)-1)=((w.length-1:Nat):Int):=by rw [NN (by omega) (by omega)];omega
 have f:=l.capOk
 have V:=l.sl PD
 obtain ⟨q1,k1,x1,s1,_,_,_⟩:=YI (vlo:=none) (vhi:=some (Vi ((w.length-1:Nat):Int))) (lo:=0) (hi:=w.length-1) V f PD (fun cap f=>by rw [Njd (by omega) (by rw [Nw] at f;omega),N7]) (Nv _) (by rw [Nw];omega) (by rw [Nw];omega)
 obtain ⟨D,hD⟩:∃D,D=w.dropLast:=⟨_,rfl⟩
 have J:D.length=w.length-1:=by rw [hD,List.length_dropLast]
 rw [Ox,<-List.map_take,<-List.dropLast_eq_take,<-hD] at s1
 rw [Nw,Nat.sub_zero,<-J] at x1
 rw [<-hD] at d
 rw [d] at g
 rw [Nw] at g
 rw [<-J] at W
 have T:∀x∈D,x.1∈L:=fun x hx=>hB.way.mem x (by rw [hD] at hx;exact List.dropLast_subset _ hx)
 have ad:=M8 (TA (ZL he).1).2.2.2
 refine NL ?_
 simp only [n109,Np ah,W,x1,SB,seval,NJ,NK]
 have R:=hC.len
 simp at R
 have i:=hC.cells (NR (X:=[_,Vc (RX pp P.length cp pL L.length cL),Vc (enc3 s),_,_]) (j:=1)) (by simp)
 have n:=hC.cells (NR (X:=[_,Vc (RX pp P.length cp pL L.length cL),Vc (enc3 s),_,_]) (j:=2)) (by simp)
 have M:=(hN.app [Vc (UV pe es.length ce q nk cq r ns cr c pl nl cl),Vc (RX pp P.length cp pL L.length cL),Vc (enc3 s),Vc (encE a),Vc (encE b)]).sim fun b ro c h=>hC.cells h (by simp)
 obtain ⟨B,ab⟩:∃B,B=G:=⟨_,rfl⟩
 have I:=hC.pre
 rw [<-ab] at i n M s1 I R⊢
 clear hC l V
 refine NZ (fun j:Nat×Option Addr×Nat=>D.length-j.1) (fun j fr G=>j.1<=D.length/\fr 4=Vp (H.length+1)/\fr 5=Vp (H.length+2)/\fr 11=.slice j.2.1 j.1 j.2.2/\fr 52=.slice q1 D.length k1/\fr 53=Vi D.length/\fr 54=Vi j.1/\
   Chg [] B G/\Own B.length G V6 5 j.2.1 j.2.2 ((D.take j.1).map (Zn s))) (0,none,0)
  ⟨Nv _,rfl,rfl,rfl,rfl,rfl,by rfl,Chg.refl.app,.nil⟩ ?_
 rintro ⟨j,p,c'⟩ fr G ⟨hj,g4,g5,t,F,u,y,hC,l⟩ K
 simp only at hj t y l K
 rw [OD Nyr.eq_1]
 refine NL ?_
 have ao:=hC.len
 have N:((D.take j).map (Zn s)).length=j:=by rw [Nw,O6];omega
 by_cases e:j<D.length
 case neg=>
  obtain rfl:j=D.length:=by omega
  rw [Ol] at l
  simp only [n109,N19,t,u,y,NW,e,SB,seval,NJ,NK,ND]
  exact g _ _ _ (I.trans hC).app ((l.sl SG).app _)
 have sT:=hC.sl s1 (fun a _ _ h=>(by cases h))
 have S:j<(D.map TM).length:=by rw [Nw];exact e
 have A:=fun X=>(sT.app X).loadCells PD S
 have o:=fun c (k:IntKind) (H1:NA)=>sT.idx (c:=c) (k:=k) (H1:=H1) S
 rw [N3d e] at A
 rw [Nw] at o
 have aj:IntKind.i64.wrap ((j:Int)+1)=((j+1:Nat):Int):=OV (by omega)
 have ae:lim<=G.length:=by omega
 have ag:=T _ (QJ e)
 have htk:(D.take (j+1)).map (Zn s)=(D.take j).map (Zn s)++[Zn s (gt D j)]:=by
  rw [Oe e,Oq,PU e];rfl
 generalize gt D j=x at *
 have ac:=Nzi ad ag
 have e3:enc3 (TM x)=[Vi x.1.id,Vi x.2,Vi (x.2+x.1.mins)]:=rfl
 rw [e3] at A
 have xN:=fun X=>(OM.refl.app (X:=X)).cells (hC.cells i (by simp))
 have xS:=fun X=>(OM.refl.app (X:=X)).cells (hC.cells n (by simp))
 have z:=fun X (mp:Bool) (lim:Nat) (Q:Value->NA->Prop)=>find_ok (mp:=mp) (lim:=lim) (cp:=cp) (cl:=cL) (a:=x.1.id) (Q:=Q) ((M.sim fun b ro c h=>hC.cells h (by simp)).app X)
 rw [ac] at z
 simp only at z
 obtain ⟨G2,e2,Z,C,ai,ap,_⟩:=l.step (lim':=lim) (bytes:=40) (by omega) SG (by decide) (Zn s x) (by rw [N];unfold PM;omega) (by omega) (by omega) [Vc [Vi x.1.id,Vi x.2,Vi (x.2+x.1.mins)],Vc (PO x.1),Vc (V6 (Zn s x))] (G.length+2) 1 (by rw [NR];rfl)
 have aa:V6 (Zn s x)=[.int .u8 5,Vi k,Vi m,Vi x.1.dst,Vi 0]:=by rw [<-hk,<-hm];rfl
 rw [N,aa] at e2
 simp only [n109,g4,g5,t,F,u,y,NW,e,A,o,aj,ae,xN,xS,z,PW,e0,e1,OL,Sq,NM,NH,e2,SB,seval,NF,NJ,NK,place,NB]
 exact K (j+1,Sa (G.length+3),loose 5) _ _ ⟨by omega,g4,g5,rfl,F,u,rfl,C [] B (Nd _) hC,by rw [htk];exact Z⟩ (by simp only;omega)
theorem Ns9 [OB] {lim ce cq cr nl cl cp cL nk ns:Nat} {pe q r pl pp pL:Option Addr} {P:List Int} {L:List Leg} {es:List Ev} {s:Stp} {c:Int} {H:NA} {Q:Value->NA->Prop} (y:NetIn H pp pL P L) (he:Sl H encE 7 pe es) (hs:Uz es.length s) (hn:es.length<2 ^ 30) (hl:lim<=H.length)
  (b:∀G p i,Chg [] H G->Sl G V6 5 p (UL P L es s)->Q (.slice p (UL P L es s).length i) G) :
  NP E false lim 75 [.agg (UV pe es.length ce q nk cq r ns cr c pl nl cl).toArray,.agg (RX pp P.length cp pL L.length cL).toArray,.agg (enc3 s).toArray] H Q:=by
 refine Rm (by decide) e75 rfl ?_
 rw [b75,c75]
 have w:=hs
 unfold Uz at hs
 obtain ⟨m,hm⟩:∃m:Nat,s.1=m:=⟨s.1.toNat,by omega⟩
 obtain ⟨k,hk⟩:∃k:Nat,s.2.1=k:=⟨s.2.1.toNat,by omega⟩
 have u:m<es.length:=by omega
 have o:k<es.length:=by omega
 have e0:=Nz6 (x:=s)
 have e1:=Npy (x:=s)
 have e2:=N58 (x:=s)
 rw [hm] at e0
 rw [hk] at e1
 have f:∀X,AM.loadCells (H++X) ((YV pe 7 m).add 0) 6=some (QE (gt es m)):=fun X=>(he.app X).loadSub OE (j:=0) (n:=6) u (by omega)
 have g:∀X,AM.loadCells (H++X) ((YV pe 7 k).add 0) 6=some (QE (gt es k)):=fun X=>(he.app X).loadSub OE (j:=0) (n:=6) o (by omega)
 have d:=fun c (k:IntKind) (H1:NA)=>he.idx (c:=c) (k:=k) (H1:=H1) u
 have e:=fun c (k:IntKind) (H1:NA)=>he.idx (c:=c) (k:=k) (H1:=H1) o
 have a:UL P L es s=if (gt es m).kind=4 then [⟨2,(k:Int),(m:Int),(gt es k).place,0⟩] else if s.2.2=80 then [⟨3,(k:Int),(m:Int),(gt es k).place,0⟩] else if 0<s.2.2 then [⟨4,(k:Int),(m:Int),(gt es k).place,s.2.2⟩]
   else if (gt es m).place≠(gt es k).place then TE P L es s else []:=by unfold UL;rw [hm,hk,N7,N7]
 have t:=fun X (Q:Value->NA->Prop) (b:∀G p i,Chg [] (H++X) G->Sl G V6 5 p (TE P L es s)->Q (.slice p (TE P L es s).length i) G)=>Ntr (lim:=lim) (ce:=ce) (cq:=cq) (cr:=cr) (nl:=nl) (cl:=cl) (cp:=cp) (cL:=cL) (nk:=nk) (ns:=ns) (q:=q) (r:=r) (pl:=pl) (c:=c) (y.app X) (he.app X) w hn (by simp;omega) b
 by_cases h:(gt es m).kind=4
 ·rw [Nh h] at a
  rw [a] at b
  simp only [n75,r75,TN,PN,ZN,ZM,e0,e1,f,g,d,e,NH,hl,N3 h,SB,seval,NJ,NK,NE,place,NB,ND]
  exact b _ _ _ Chg.refl.app (Sl.row (ro:=false) SG (by rw [NR];rfl))
 rw [Ng h] at a
 by_cases h5:s.2.2=80
 ·rw [Nh h5] at a
  rw [a] at b
  simp only [n75,r75,TN,PN,ZN,ZM,e0,e1,e2,f,g,d,e,NH,hl,Np h,N3 h5,SB,seval,NJ,NK,NE,place,NB,ND]
  exact b _ _ _ Chg.refl.app (Sl.row (ro:=false) SG (by rw [NR];rfl))
 rw [Ng h5] at a
 by_cases l:0<s.2.2
 ·rw [Nh l] at a
  rw [a] at b
  simp only [n75,r75,TN,PN,ZN,ZM,e0,e1,e2,f,g,d,e,NH,hl,Np h,Np h5,N3 l,Np (show ¬H.length=H.length+3 by omega),not_false_eq_true,AM.loadX,SB,seval,NJ,NK,NE,place,NB,ND]
  exact b _ _ _ Chg.refl.app (Sl.row (ro:=false) SG (by rw [NR];rfl))
 rw [Ng l] at a
 by_cases v:(gt es m).place=(gt es k).place
 ·rw [Ng (by simpa using v)] at a
  rw [a] at b
  simp only [n75,r75,TN,PN,ZN,ZM,e0,e1,e2,f,g,d,e,NH,hl,Np h,Np h5,Np l,N3 v,SB,seval,NJ,NK,NE,place,NB,ND]
  exact b _ none 0 Chg.refl.app rfl
 rw [Nh v] at a
 rw [a] at b
 simp only [n75,Uo,TN,PN,ZN,ZM,PD,e0,e1,e2,NM,f,g,d,e,NH,hl,Np h,Np h5,Np l,Np v,PW,SB,seval,NF,NJ,NK,NE,place,NB]
 refine t _ _ fun G p i hC hS=>?_
 refine NL ?_
 simp only [n75,r75,SB,seval,NJ,ND]
 exact b _ p i hC.pre.app (hS.app _)
structure G38 (G1:NA) (B:Nat) (G:NA) (l:List An) (p:Option Addr) (cap:Nat):Prop where
 chg:Chg [B] G1 G
 cell:NC G B=Vc [.slice p l.length cap]
 own:Own G1.length G V6 5 p cap l
theorem G38.grow {G1 G G2:NA} {B cap:Nat} {l:List An} {p:Option Addr} (h:G38 G1 B G l p cap) (hc:Chg [] G G2):G38 G1 B G2 l p cap:=
 ⟨h.chg.trans' hc fun j b=>(by cases b),hc.cells h.cell (by simp),h.own.chg hc (fun a _=>by simp)⟩
theorem G38.add [OB] {lim B cap o:Nat} {p k:Option Addr} {l m:List An} {G1 G:NA} {Q:Value->NA->Prop} (h:G38 G1 B G l p cap) (hs:Sl G V6 5 k m) (i:lim<=B) (hB:B<G1.length) (hn:l.length+m.length<2 ^ 31)
  (s:∀G' e b,G.length<=G'.length->G38 G1 B G' (l++m) e b->Q (.tuple #[]) G') :
  NP E false lim 73 [.slice k m.length o,Vp B] G Q:=by
 refine Rm (by decide) e73 rfl ?_
 rw [b73,c73]
 have f:=NG h.cell
 have g:=h.chg.len
 obtain ⟨G2,e,b,k1,k2,k3,t,v⟩:=h.own.more (lim':=lim) (bytes:=40) (by omega) SG (by decide) m (by unfold PM;omega) (by omega) g [] (x:=.slice k m.length o) (str:=false) (Ue (hs.app [])) rfl
 have c:NC (G2++[]) B=Vc [.slice p l.length cap]:=by
  rw [t B f (fun a ha=>by have:=(h.own.block ha).1;omega)];exact h.cell
 rw [Nc] at k2 c
 have d:=k3 [B] G1 (Nd _) h.chg
 rw [Nc] at d
 obtain ⟨q,e3,r,j⟩:=OP (NG c) (Vc [.slice e (l.length+m.length) b])
 have u:=fun X=>(OM.refl.app (X:=X)).cells h.cell
 have n:=fun X=>(OM.refl.app (X:=X)).cells c
 simp only [n73,r73,u,k1,n,e3,i,SB,seval,NF,NJ,NK,QY,reduceCtorEq,NE,place,NB,ND]
 have ho:Own G1.length q V6 5 e b (l++m):=k2.mut j fun a ha=>by have:=(k2.block ha).1;omega
 exact s _ e b (by rw [Nc,j.len];omega) ⟨by rw [Nc];exact d.mut j (.inl (by simp)),by rw [Nc,r,Ni],by rw [Nc];exact ho⟩
def Nqe:ACode->ACode
 | .block _ c=>c
 | c=>c
def YC:ACode:=Nqe (hdC (YF (YF Wh)))
def N1l:ACode:=YF (YF (YF Wh))
def Ngi:ACode:=YF YC
def Nnc:ACode:=YF Ngi
def N7a:ACode:=YF Nnc
theorem N22:Wh=.seq (hdC Wh) (.seq (hdC (YF Wh)) (.seq (.block 1 (.seq (hdC YC) Ngi)) N1l)):=rfl
theorem N1k:Ngi=.seq (hdC Ngi) Nnc:=rfl
theorem N1j:Nnc=.seq (hdC Nnc) N7a:=rfl
structure D38 (lim B A T ce cq cr ct cp cL:Nat) (pe q r pt pp pL:Option Addr) (P:List Int) (L:List Leg) (es tw:List Ev) (ks:List Int) (ss:List Stp) (c:Int) (H0 G1:NA) (b4 b5:Nat):Prop where
 hev:Sl H0 encE 7 pe es
 hce:Ve 7 ce es.length
 htw:Sl H0 encE 7 pt tw
 net:NetIn H0 pp pL P L
 h01:Chg [] H0 G1
 rep:NC G1 b4=Vc (UV pe es.length ce q ks.length cq r ss.length cr c none 0 0)
 nv:NC G1 b5=Vc (RX pp P.length cp pL L.length cL)
 kp:NC G1 A=Vc ((Vn es.length ks).flatMap MS)
 to:NC G1 T=Vc ((toN es.length ss).flatMap enc3)
 n4:b4≠B
 n5:b5≠B
 nA:A≠B
 nT:T≠B
 hB:H0.length<=B
 lB:lim<=H0.length
 lG:B<G1.length
 ne:es.length<=2000
 nt:tw.length<=2000
 te:UR es
 tt:UR tw
 so:∀s∈ss,Uz es.length s
 di:Njl ss
structure FR38 (B A T ct n:Nat) (pt:Option Addr) (nt:Nat) (now:Int) (b4 b5:Nat) (fr:Nat->Value):Prop where
 f2:fr 2=.slice pt nt ct
 f3:fr 3=Vi now
 f4:fr 4=Vp b4
 f5:fr 5=Vp b5
 f9:fr 9=Vp B
 f10:fr 10=.func (.func 73) #[] #[Vp B]
 f11:fr 11=.slice (Sa A) n n
 f12:fr 12=.slice (Sa T) n n
section
variable {lim B A T ce cq cr ct cp cL b4 b5:Nat} {pe q r pt pp pL:Option Addr} {P:List Int} {L:List Leg} {es tw:List Ev} {ks:List Int} {ss:List Stp} {c now:Int} {H0 G1 G:NA} {fr:Nat->Value} {K:List AItem} {Z:Value->NA->Prop} {i cap:Nat} {p:Option Addr} {l:List An}
theorem D38.old (D:D38 lim B A T ce cq cr ct cp cL pe q r pt pp pL P L es tw ks ss c H0 G1 b4 b5) (h:G38 G1 B G l p cap):Chg [] H0 G:=D.h01.trans' h.chg fun j a hl=>by
 have:=D.hB
 rw [Nl] at a
 omega
theorem D38.rest [OB] (D:D38 lim B A T ce cq cr ct cp cL pe q r pt pp pL P L es tw ks ss c H0 G1 b4 b5) (h:G38 G1 B G l p cap) (F:FR38 B A T ct es.length pt tw.length now b4 b5 fr) (f13:fr 13=Vi i) (hi:i<es.length) (o:l.length<=1000000000)
  (k:∀fr' G' f b,G38 G1 B G' (l++QU es tw i) f b->FR38 B A T ct es.length pt tw.length now b4 b5 fr'->fr' 22=fr 22->fr' 23=fr 23->fr' 24=fr 24->QC E a38 lim K fr' (G'++[]) Z) :
  QC E a38 lim (.code N7a::K) fr G Z:=by
 have hC:=D.old h
 have u:=fun X=>(OM.refl.app (X:=X)).cells (h.chg.cells D.rep (by have:=D.n4;simpa using this))
 have j:=hC.len
 have n:=D.lB
 have s:=D.ne
 have t:=D.nt
 unfold N7a
 refine NL ?_
 simp only [Nnc,Ngi,YC,Nqe,hdC,YF,Wh,n38,r38,F.f4,F.f10,F.f2,f13,u,Uo,NM,SB,seval,NF,NJ,NK,QY,reduceCtorEq,NE,place,NB,ND]
 have m:(QU es tw i).length<=tw.length:=by unfold QU;rw [Nw];exact Qo ..
 refine Np2 ((hC.sl D.hev (fun a _ _ h=>(by cases h))).app _) D.hce ((hC.sl D.htw (fun a _ _ h=>(by cases h))).app _) hi (by omega) (by omega) (by simp;omega) D.te D.tt fun G2 w v d e=>?_
 have h2:=h.grow d.pre
 refine NL ?_
 simp only [n38,r38,SB,seval,NF,NJ,NK,QY,reduceCtorEq,NE,place,NB,ND]
 rw [Nc]
 refine h2.add e (by have:=D.hB;omega) D.lG (by omega) fun G' f b hl g=>?_
 refine NL ?_
 simp only [n38,r38,SB,seval,NF,NJ,NK,QY,reduceCtorEq,NE,place,NB,ND]
 exact k _ _ _ _ g ⟨(by simp only [F.f2,ne_eq,FB,Nat.reduceEqDiff]),(by simp only [F.f3,ne_eq,FB,Nat.reduceEqDiff]),(by simp only [F.f4,ne_eq,FB,Nat.reduceEqDiff]),(by simp only [F.f5,ne_eq,FB,Nat.reduceEqDiff]),(by simp only [F.f9,ne_eq,FB,Nat.reduceEqDiff]),(by simp only [F.f10,ne_eq,FB,Nat.reduceEqDiff]),(by simp only [F.f11,ne_eq,FB,Nat.reduceEqDiff]),(by simp only [F.f12,ne_eq,FB,Nat.reduceEqDiff])⟩ rfl rfl rfl
noncomputable def Ya (P:List Int) (L:List Leg) (es:List Ev) (ss:List Stp) (i:Nat):List An:=if (gt (toN es.length ss) i).1<(gt (toN es.length ss) i).2.1 then UL P L es (gt (toN es.length ss) i) else []
def Nda (es:List Ev) (ks:List Int) (i:Nat):List An:=if gt (Vn es.length ks) i then [] else [⟨1,(i:Int),0,(gt es i).place,0⟩]
theorem D38.mid [OB] (D:D38 lim B A T ce cq cr ct cp cL pe q r pt pp pL P L es tw ks ss c H0 G1 b4 b5) (h:G38 G1 B G l p cap) (F:FR38 B A T ct es.length pt tw.length now b4 b5 fr) (f13:fr 13=Vi i) (hi:i<es.length) (f:l.length+(Ya P L es ss i).length<=1000000000)
  (g:∀fr' G' n d,G38 G1 B G' (l++(Ya P L es ss i++QU es tw i)) n d->FR38 B A T ct es.length pt tw.length now b4 b5 fr'->fr' 22=fr 22->fr' 23=fr 23->fr' 24=fr 24->QC E a38 lim K fr' (G'++[]) Z) :
  QC E a38 lim (.code Nnc::K) fr G Z:=by
 have hC:=D.old h
 have J:=fun X=>(OM.refl.app (X:=X)).cells (h.chg.cells D.rep (by have:=D.n4;simpa using this))
 have I:=fun X=>(OM.refl.app (X:=X)).cells (h.chg.cells D.nv (by have:=D.n5;simpa using this))
 have hT:=h.chg.cells D.to (by have:=D.nT;simpa using this)
 have N:=hC.len
 have Q:=D.lB
 have R:=D.ne
 have S:=D.nt
 have o:Sl G enc3 3 (Sa T) (toN es.length ss):=Sl.row PD hT
 have e:i<(toN es.length ss).length:=by rw [Nq0];exact hi
 have v:=fun c (k:IntKind) (H1:NA)=>o.idx (c:=c) (k:=k) (H1:=H1) e
 rw [Nq0] at v
 have H:=fun X=>(o.app X).loadCells PD e
 have z:∀X,AM.loadCell (G++X) ((YV (Sa T) 3 i).add 0)=some (Vi (gt (toN es.length ss) i).1):=fun X=>(o.app X).loadCell (j:=0) PD e (by omega)
 have C:∀X,AM.loadCell (G++X) ((YV (Sa T) 3 i).add 1)=some (Vi (gt (toN es.length ss) i).2.1):=fun X=>(o.app X).loadCell (j:=1) PD e (by omega)
 have m:=fun h=>(N1v D.so D.di hi h).1
 rw [N1j]
 refine NL ?_
 unfold Ya at g f
 generalize gt (toN es.length ss) i=s at *
 by_cases h1:s.1<s.2.1
 ·rw [Nh h1] at g f
  simp only [Nnc,Ngi,YC,Nqe,hdC,YF,Wh,n38,r38,F.f4,F.f5,F.f10,F.f12,f13,J,I,Uo,PW,PD,NM,v,H,z,C,N3 h1,SB,seval,NF,NJ,NK,QY,reduceCtorEq,NE,place,NB,ND]
  refine Ns9 ((D.net.sim fun b ro x O=>hC.cells O (by simp)).app _) ((hC.sl D.hev (fun a _ _ h=>(by cases h))).app _) (D.so _ (m h1)) (by omega) (by simp;omega) fun G2 V U t u=>?_
  have h2:=h.grow t.pre
  refine NL ?_
  simp only [n38,r38,SB,seval,NF,NJ,NK,QY,reduceCtorEq,NE,place,NB,ND]
  rw [Nc]
  refine h2.add u (by have:=D.hB;omega) D.lG (by omega) fun G' n d hl M=>?_
  refine NL ?_
  simp only [n38,r38,SB,seval,NF,NJ,NK,QY,reduceCtorEq,NE,place,NB,ND]
  rw [Nc]
  refine D.rest (now:=now) M ⟨(by simp only [F.f2,ne_eq,FB,Nat.reduceEqDiff]),(by simp only [F.f3,ne_eq,FB,Nat.reduceEqDiff]),(by simp only [F.f4,ne_eq,FB,Nat.reduceEqDiff]),(by simp only [F.f5,ne_eq,FB,Nat.reduceEqDiff]),(by simp only [F.f9,ne_eq,FB,Nat.reduceEqDiff]),(by simp only [F.f10,ne_eq,FB,Nat.reduceEqDiff]),(by simp only [F.f11,ne_eq,FB,Nat.reduceEqDiff]),(by simp only [F.f12,ne_eq,FB,Nat.reduceEqDiff])⟩ f13 hi (by rw [Ni];omega) fun fr' G' n d k1 k2 k3 w y=>?_
  rw [Nq] at k1
  exact g _ _ _ _ k1 k2 (k3.trans rfl) (w.trans rfl) (y.trans rfl)
 ·rw [Ng h1] at g f
  rw [On] at g
  simp only [Nnc,Ngi,YC,Nqe,hdC,YF,Wh,n38,r38,F.f4,F.f5,F.f10,F.f12,f13,J,I,Uo,PW,PD,NM,v,H,z,C,Np h1,SB,seval,NF,NJ,NK,QY,reduceCtorEq,NE,place,NB,ND]
  rw [Nc]
  refine D.rest (now:=now) h ⟨(by simp only [F.f2,ne_eq,FB,Nat.reduceEqDiff]),(by simp only [F.f3,ne_eq,FB,Nat.reduceEqDiff]),(by simp only [F.f4,ne_eq,FB,Nat.reduceEqDiff]),(by simp only [F.f5,ne_eq,FB,Nat.reduceEqDiff]),(by simp only [F.f9,ne_eq,FB,Nat.reduceEqDiff]),(by simp only [F.f10,ne_eq,FB,Nat.reduceEqDiff]),(by simp only [F.f11,ne_eq,FB,Nat.reduceEqDiff]),(by simp only [F.f12,ne_eq,FB,Nat.reduceEqDiff])⟩ f13 hi (by simpa using f) fun fr' G' n d k1 k2 k3 w y=>?_
  exact g _ _ _ _ k1 k2 (k3.trans rfl) (w.trans rfl) (y.trans rfl)
theorem D38.first [OB] {e:Nat} (D:D38 lim B A T ce cq cr ct cp cL pe q r pt pp pL P L es tw ks ss c H0 G1 b4 b5) (h:G38 G1 B G l p cap) (F:FR38 B A T ct es.length pt tw.length now b4 b5 fr) (f13:fr 13=Vi i) (f14:fr 14=Vp e) (o:NC G e=Vc (encE (gt es i))) (hi:i<es.length) (I:l.length+(1+(Ya P L es ss i).length)<=1000000000)
  (d:∀fr' G' n a,G38 G1 B G' (l++atN P L es tw ks ss i) n a->FR38 B A T ct es.length pt tw.length now b4 b5 fr'->fr' 22=fr 22->fr' 23=fr 23->fr' 24=fr 24->QC E a38 lim K fr' (G'++[]) Z) :
  QC E a38 lim (.code Ngi::K) fr G Z:=by
 have x:atN P L es tw ks ss i=Nda es ks i++(Ya P L es ss i++QU es tw i):=rfl
 rw [x] at d
 have hC:=D.old h
 have C:=h.chg.cells D.kp (by have:=D.nA;simpa using this)
 have z:=hC.len
 have H:=D.lB
 have J:=D.ne
 have M:=D.nt
 have w:Sl G MS 1 (Sa A) (Vn es.length ks):=Sl.row YU C
 have f:i<(Vn es.length ks).length:=by rw [Nha];exact hi
 have s:=fun c (k:IntKind) (H1:NA)=>w.idx (c:=c) (k:=k) (H1:=H1) f
 rw [Nha] at s
 have v:∀X,AM.loadCell (G++X) (YV (Sa A) 1 i)=some (.bool (gt (Vn es.length ks) i)):=fun X=>by
  have:=(w.app X).loadCell (j:=0) YU f (by omega)
  rwa [show (YV (Sa A) 1 i).add 0=YV (Sa A) 1 i from by simp only [YV,addrOf,Pa,addr_add,Pd]] at this
 have g:=fun X=>(OM.refl.app (X:=X)).cells o
 rw [N1k]
 refine NL ?_
 unfold Nda at d
 generalize gt (Vn es.length ks) i=b at *
 cases b with
 | true=>
   simp only [Ngi,YC,Nqe,hdC,YF,Wh,n38,r38,F.f10,F.f11,f13,f14,g,OE,VN,Uv,Nz5,Uu,Nz4,Nz3,Si,NM,s,v,SB,seval,NF,NJ,NK,QY,reduceCtorEq,NE,place,NB,ND]
   rw [Nh rfl,On] at d
   rw [Nc]
   exact D.mid (now:=now) h ⟨(by simp only [F.f2,ne_eq,FB,Nat.reduceEqDiff]),(by simp only [F.f3,ne_eq,FB,Nat.reduceEqDiff]),(by simp only [F.f4,ne_eq,FB,Nat.reduceEqDiff]),(by simp only [F.f5,ne_eq,FB,Nat.reduceEqDiff]),(by simp only [F.f9,ne_eq,FB,Nat.reduceEqDiff]),(by simp only [F.f10,ne_eq,FB,Nat.reduceEqDiff]),(by simp only [F.f11,ne_eq,FB,Nat.reduceEqDiff]),(by simp only [F.f12,ne_eq,FB,Nat.reduceEqDiff])⟩ f13 hi (by omega) fun fr' G' n a k1 k2 k3 t u=>d _ _ _ _ k1 k2 (k3.trans rfl) (t.trans rfl) (u.trans rfl)
 | false=>
   simp only [Ngi,YC,Nqe,hdC,YF,Wh,n38,r38,F.f10,F.f11,f13,f14,g,OE,VN,Uv,Nz5,Uu,Nz4,Nz3,Si,NM,s,v,SB,seval,NF,NJ,NK,QY,reduceCtorEq,NE,place,NB,ND]
   rw [Ng (by simp)] at d
   refine (h.grow (G2:=G++[Vc (V6 ⟨1,(i:Int),0,(gt es i).place,0⟩)]) Chg.refl.app).add (lim:=lim) (m:=[⟨1,(i:Int),0,(gt es i).place,0⟩]) (Sl.row (ro:=false) SG (by rw [NQ];rfl)) (by have:=D.hB;omega) D.lG (by simp;omega) fun G' n a hl y=>?_
   refine NL ?_
   simp only [n38,r38,SB,seval,NF,NJ,NK,QY,reduceCtorEq,NE,place,NB,ND]
   rw [Nc]
   refine D.mid (now:=now) y ⟨(by simp only [F.f2,ne_eq,FB,Nat.reduceEqDiff]),(by simp only [F.f3,ne_eq,FB,Nat.reduceEqDiff]),(by simp only [F.f4,ne_eq,FB,Nat.reduceEqDiff]),(by simp only [F.f5,ne_eq,FB,Nat.reduceEqDiff]),(by simp only [F.f9,ne_eq,FB,Nat.reduceEqDiff]),(by simp only [F.f10,ne_eq,FB,Nat.reduceEqDiff]),(by simp only [F.f11,ne_eq,FB,Nat.reduceEqDiff]),(by simp only [F.f12,ne_eq,FB,Nat.reduceEqDiff])⟩ f13 hi (by rw [Ni,Qa];omega) fun fr' G' n a k1 k2 k3 t u=>?_
   rw [Nq] at k1
   exact d _ _ _ _ k1 k2 (k3.trans rfl) (t.trans rfl) (u.trans rfl)
end
theorem Nox {m:List Int}:∀{l:List Int},l.Nodup->(∀x∈l,x∈m)->l.length<=m.length:=by
 induction m with
 | nil=>intro l _ h;cases l with
   | nil=>simp
   | cons x l=>exact absurd (h x Nm) O1
 | cons a m ih=>
   intro l hn h
   have h1:=ih (l:=l.erase a) (hn.erase a) fun x hx=>by
    have h2:=(hn.mem_erase_iff).1 hx
    exact ((Nn.1 (h x h2.2)).resolve_left h2.1)
   have b:l.length<=(l.erase a).length+1:=by rw [List.length_erase];split<;>omega
   simp only [Nk];omega
theorem Nv4 {P:List Int} {L:List Leg} {p q t:Int}:(Ncj P L p q t).length<=50:=by
 by_cases h:∃w,Won P L p q t w
 ·obtain ⟨w,hw⟩:=h
  rw [Nc3 hw]
  obtain ⟨he,v,h0,hv,a⟩:=hw
  obtain ⟨h1,hp,d,ht,_⟩:=ZL he
  have hn:=RH h1
  have:=Nox (m:=P) (a.way.nodup hn.fine a.few) fun x hx=>by
   rcases Nn.1 hx with rfl | hx
   ·exact hp
   ·obtain ⟨y,c,rfl⟩:=List.mem_map.1 hx
    exact hn.dst _ (a.way.mem y c)
  have b:=(TA h1).1
  simp at this
  omega
 ·unfold Ncj;rw [dif_neg h];simp
theorem Nky {P:List Int} {L:List Leg} {es:List Ev} {s:Stp}:(UL P L es s).length<=50:=by
 unfold UL
 simp only
 have hm:(TE P L es s).length<=50:=by
  unfold TE;rw [Nw,List.length_dropLast]
  have:=Nv4 (P:=P) (L:=L) (p:=(gt es s.1.toNat).place) (q:=(gt es s.2.1.toNat).place) (t:=(gt es s.1.toNat).time)
  omega
 repeat' split
 all_goals first | exact hm | simp
theorem Nde {P:List Int} {L:List Leg} {es:List Ev} {ss:List Stp} {i:Nat}:(Ya P L es ss i).length<=50:=by
 unfold Ya
 split
 ·exact Nky
 ·simp
theorem N3z {P:List Int} {L:List Leg} {es tw:List Ev} {ks:List Int} {ss:List Stp} {i:Nat}:(atN P L es tw ks ss i).length<=51+tw.length:=by
 have e:atN P L es tw ks ss i=Nda es ks i++(Ya P L es ss i++QU es tw i):=rfl
 have h1:(Nda es ks i).length<=1:=by unfold Nda;split<;>simp
 have h2:=Nde (P:=P) (L:=L) (es:=es) (ss:=ss) (i:=i)
 have a:(QU es tw i).length<=tw.length:=by unfold QU;rw [Nw];exact Qo ..
 rw [e,Ni,Ni];omega
theorem Ngw {P:List Int} {L:List Leg} {es tw:List Ev} {ks:List Int} {ss:List Stp} {m:Nat}:Nf0 P L es tw ks ss (m+1)=Nf0 P L es tw ks ss m++atN P L es tw ks ss m:=by
 unfold Nf0;rw [Po,Qi,Om,List.flatMap_nil,Nc]
theorem Mw {P:List Int} {L:List Leg} {es tw:List Ev} {ks:List Int} {ss:List Stp}:∀m,(Nf0 P L es tw ks ss m).length<=m*(51+tw.length)
 | 0=>by simp [Nf0]
 | m+1=>by
   have h:=Mw (P:=P) (L:=L) (es:=es) (tw:=tw) (ks:=ks) (ss:=ss) m
   have h2:=N3z (P:=P) (L:=L) (es:=es) (tw:=tw) (ks:=ks) (ss:=ss) (i:=m)
   rw [Ngw,Ni,Pq];omega
theorem Ntx [OB] {lim ce cq cr ct cp cL:Nat} {pe q r pt pp pL:Option Addr} {P:List Int} {L:List Leg} {es tw:List Ev} {ks:List Int} {ss:List Stp} {c now:Int} {H:NA} {Q:Value->NA->Prop} (hev:Sl H encE 7 pe es) (hce:Ve 7 ce es.length) (htw:Sl H encE 7 pt tw) (u:NetIn H pp pL P L) (Z:Sl H encI 1 q ks) (hr:Sl H enc3 3 r ss) (hl:lim<=H.length)
  (ne:es.length<=2000) (nt:tw.length<=2000) (te:UR es) (tt:UR tw) (so:∀s∈ss,Uz es.length s) (di:Njl ss) (hk:∀k∈ks,0<=k/\k<es.length) (t:ks.length<2 ^ 40) (K:ss.length<2 ^ 40) (v:0<=now/\now<=NT)
  (hQ:∀G p U,Chg [] H G->Own H.length G V6 5 p U (We P L es tw ks ss now)->Q (.slice p (We P L es tw ks ss now).length U) G) :
  NP E false lim 38 [.agg (UV pe es.length ce q ks.length cq r ss.length cr c none 0 0).toArray,.agg (RX pp P.length cp pL L.length cL).toArray,.slice pt tw.length ct,Vi now] H Q:=by
 refine Rm (by decide) e38 rfl ?_
 rw [b38,c38]
 simp only [n38,r38,Uo,PW,NM,SB,seval,NF,NJ,NK,QY,reduceCtorEq,NE,place,NB,ND]
 refine Nno (lim:=lim) (Z.app _) (hr.app _) (by omega) t K (by simp;omega) hk so fun G1 A T b hA hT kA kT=>?_
 have C:=b.len
 simp at C hA hT
 have hB:=b.cells (NR (X:=[Vc (UV pe es.length ce q ks.length cq r ss.length cr c none 0 0),Vc (RX pp P.length cp pL L.length cL),Vc [Vz]]) (j:=2)) (by simp)
 have D:D38 lim (H.length+2) A T ce cq cr ct cp cL pe q r pt pp pL P L es tw ks ss c H G1 H.length (H.length+1):=⟨hev,hce,htw,u,b.pre,b.cells (NQ (X:=[Vc (UV pe es.length ce q ks.length cq r ss.length cr c none 0 0),Vc (RX pp P.length cp pL L.length cL),Vc [Vz]])) (by simp),b.cells (NR (X:=[Vc (UV pe es.length ce q ks.length cq r ss.length cr c none 0 0),Vc (RX pp P.length cp pL L.length cL),Vc [Vz]]) (j:=1)) (by simp),kA,kT,by omega,by omega,by omega,by omega,by omega,hl,by omega,ne,nt,te,tt,so,di⟩
 have xR:=fun X=>(OM.refl.app (X:=X)).cells D.rep
 refine NL ?_
 simp only [n38,r38,xR,TN,SB,seval,NF,NJ,NK,QY,reduceCtorEq,NE,place,NB,ND]
 have B:G38 G1 (H.length+2) G1 [] none 0:=⟨Chg.refl,hB,.nil⟩
 refine NZ (fun j:Nat×Option Addr×Nat=>es.length-j.1) (fun j fr G=>j.1<=es.length/\FR38 (H.length+2) A T ct es.length pt tw.length now H.length (H.length+1) fr/\fr 22=.slice pe es.length ce/\fr 23=Vi es.length/\fr 24=Vi j.1/\G38 G1 (H.length+2) G (Nf0 P L es tw ks ss j.1) j.2.1 j.2.2) (0,none,0)
  ⟨Nv _,⟨rfl,rfl,rfl,rfl,rfl,rfl,rfl,rfl⟩,rfl,rfl,by rfl,B.grow Chg.refl.app⟩ ?_
 rintro ⟨i,p,cap⟩ fr G ⟨hi,F,g,l,e,n⟩ W
 simp only at hi e n W
 rw [OD N22]
 refine NL ?_
 have hC:=D.old n
 have Y:=hC.len
 by_cases d:i<es.length
 case neg=>
  obtain rfl:i=es.length:=by omega
  have S:=fun X=>(OM.refl.app (X:=X)).cells (n.chg.cells D.rep (by simp))
  simp only [hdC,YF,Wh,n38,r38,F.f4,F.f10,F.f9,F.f3,g,l,e,NW,d,S,Uo,NM,SB,seval,NF,NJ,NK,QY,reduceCtorEq,NE,place,NB,ND]
  have m:=Mw (P:=P) (L:=L) (es:=es) (tw:=tw) (ks:=ks) (ss:=ss) es.length
  have z:(Nf0 P L es tw ks ss es.length).length<=2000*2051:=Qc m (Nat.mul_le_mul (by omega) (by omega))
  have ab:(WR es ks now).length<=1:=by
   rcases Nli (es:=es) (ks:=ks) (now:=now) with h | ⟨k,_,h,_⟩<;>rw [h]<;>simp
  have V:We P L es tw ks ss now=Nf0 P L es tw ks ss es.length++WR es ks now:=rfl
  refine N2y ((hC.sl hev (fun a _ _ h=>(by cases h))).app _) ((hC.sl Z (fun a _ _ h=>(by cases h))).app _) (by omega) t (by simp;omega) hk te v fun G2 px cx x y=>?_
  have h2:=n.grow x.pre
  refine NL ?_
  simp only [n38,r38,SB,seval,NF,NJ,NK,QY,reduceCtorEq,NE,place,NB,ND]
  rw [Nc]
  refine h2.add (lim:=lim) y (by omega) D.lG (by omega) fun G' p' f aa w=>?_
  have xB:=fun X=>(OM.refl.app (X:=X)).cells w.cell
  refine NL ?_
  simp only [n38,r38,F.f9,xB,SB,seval,NF,NJ,NK,QY,reduceCtorEq,NE,place,NB,ND]
  rw [<-Ni,<-V]
  rw [<-V] at w
  exact hQ _ _ _ (D.old w).app ((w.own.le (by omega)).app _)
 have sE:=hC.sl hev (fun a _ _ h=>(by cases h))
 have J:=fun X=>(sE.app X).loadCells OE d
 have o:=fun c (k:IntKind) (H1:NA)=>sE.idx (c:=c) (k:=k) (H1:=H1) d
 have M:IntKind.i64.wrap ((i:Int)+1)=((i+1:Nat):Int):=OV (by omega)
 have I:lim<=G.length:=by omega
 have m:=Mw (P:=P) (L:=L) (es:=es) (tw:=tw) (ks:=ks) (ss:=ss) i
 have ac:=Nde (P:=P) (L:=L) (es:=es) (ss:=ss) (i:=i)
 have z:(Nf0 P L es tw ks ss i).length<=2000*2051:=Qc m (Nat.mul_le_mul (by omega) (by omega))
 simp only [hdC,YF,Wh,YC,Nqe,n38,r38,g,l,e,NW,d,J,o,I,OE,NM,NH,SB,seval,NF,NJ,NK,QY,reduceCtorEq,NE,place,NB,ND]
 refine D.first (now:=now) (i:=i) (n.grow (G2:=G++[Vc (encE (gt es i))]) Chg.refl.app) ⟨(by simp only [F.f2,ne_eq,FB,Nat.reduceEqDiff]),(by simp only [F.f3,ne_eq,FB,Nat.reduceEqDiff]),(by simp only [F.f4,ne_eq,FB,Nat.reduceEqDiff]),(by simp only [F.f5,ne_eq,FB,Nat.reduceEqDiff]),(by simp only [F.f9,ne_eq,FB,Nat.reduceEqDiff]),(by simp only [F.f10,ne_eq,FB,Nat.reduceEqDiff]),(by simp only [F.f11,ne_eq,FB,Nat.reduceEqDiff]),(by simp only [F.f12,ne_eq,FB,Nat.reduceEqDiff])⟩ rfl rfl NQ d (by omega) fun fr' G' p' f k1 k2 k3 k4 k5=>?_
 rw [<-Ngw] at k1
 have R:fr' 24=Vi i:=k5.trans e
 have N:fr' 22=.slice pe es.length ce:=k3.trans g
 have O:fr' 23=Vi es.length:=k4.trans l
 unfold N1l
 simp only [YF,Wh,n38,r38,R,M,SB,seval,NF,NJ,NK,QY,reduceCtorEq,NE,place,NB,ND]
 exact W (i+1,p',f) _ _ ⟨by omega,⟨(by simp only [k2.f2,ne_eq,FB,Nat.reduceEqDiff]),(by simp only [k2.f3,ne_eq,FB,Nat.reduceEqDiff]),(by simp only [k2.f4,ne_eq,FB,Nat.reduceEqDiff]),(by simp only [k2.f5,ne_eq,FB,Nat.reduceEqDiff]),(by simp only [k2.f9,ne_eq,FB,Nat.reduceEqDiff]),(by simp only [k2.f10,ne_eq,FB,Nat.reduceEqDiff]),(by simp only [k2.f11,ne_eq,FB,Nat.reduceEqDiff]),(by simp only [k2.f12,ne_eq,FB,Nat.reduceEqDiff])⟩,N,O,rfl,k1.grow Chg.refl.app⟩ (by simp only;omega)
end Go.Proofs.YtkppjkkkdpcgiaaGreat.Fn


namespace Go.Proofs.YtkppjkkkdpcgiaaGreat.Fn
open Go.AM Go.AM.Sym Go.Scan
theorem Nxh [OB] {lim c:Nat} {p:Option Addr} {K:List Ev} {item:Int} {H:NA} {Q:Value->NA->Prop} (hs:Sl H encE 7 p K) (hn:K.length<4000) (hl:lim<=H.length)
  (T:∀G z,NC G H.length=Vc ((Sv K item).flatMap encE++z)->Chg [] H G->Q (.slice (Sa H.length) (Sv K item).length K.length) (G++[])) :
  NP E false lim 28 [.slice p K.length c,Vi item] H Q:=by
 refine Rm (by decide) e28 rfl ?_
 rw [b28,c28]
 have J:(K.length:Int)*56<=2 ^ 45:=by omega
 have L:(K.length:Int)<2 ^ 62:=by omega
 have M:(0:Int)<=(K.length:Int):=by omega
 simp only [n28,J,L,M,N7,Int.toNat_zero,SB,Nat.reduceLT,NJ,reduceCtorEq,NE,place,Nat.reduceAdd,Int.reduceLE]
 refine NZ (fun i=>K.length-i) (fun i fr G=>i<=K.length/\fr 1=Vi item/\fr 5=.slice (Sa H.length) (Sv (K.take i) item).length K.length/\fr 11=.slice p K.length c/\fr 12=Vi K.length/\fr 13=Vi i/\
   (∃z,z.length=(K.length-(Sv (K.take i) item).length)*7/\NC G H.length=Vc ((Sv (K.take i) item).flatMap encE++z))/\Chg [] H G) 0
  ⟨Nv _,rfl,(by simp only [Q1,Sv,List.filter_nil,No,FB,Nat.reduceEqDiff]),rfl,rfl,by rfl,⟨(List.range (K.length*7)).map fun j=>[Value.int .i64 0,Vi 0,Vi 0,.int .u8 0,Vi 0,Vi 0,Vi 0].getD (j % 7) undef,by simp [Sv],by rw [NQ,Q1];rfl⟩,Chg.refl.app⟩ ?_
 rintro i fr G ⟨hi,v,y,g,e,n,⟨z,F,A⟩,hC⟩ I
 rw [OD N40.eq_1]
 refine NL ?_
 have S:=hC.len
 have s:=NG A
 by_cases d:i<K.length
 ·have P:=hC.sl hs (fun a _ _ h=>(by cases h))
  have t:=fun X=>(P.app X).loadCells OE d
  have l:=fun c (k:IntKind) (H1:NA)=>P.idx (c:=c) (k:=k) (H1:=H1) d
  have u:IntKind.i64.wrap ((i:Int)+1)=((i+1:Nat):Int):=OV (by omega)
  have hle:(Sv (K.take i) item).length<=i:=by
   unfold Sv
   refine Qc (Qo ..) ?_
   rw [O6];omega
  have f:Sv (K.take (i+1)) item=if (item == 0||(gt K i).item == item)=true then Sv (K.take i) item++[gt K i] else Sv (K.take i) item:=by
   unfold Sv
   rw [Oe d,List.filter_append,PU d]
   by_cases h:(item == 0||K[i].item == item)=true
   ·rw [Nh h];simp only [List.filter_cons,h,if_true,List.filter_nil]
   ·rw [Ng h];simp only [List.filter_cons,h,if_false,List.filter_nil,Nc,Nz]
  generalize hx:gt K i=x at *
  generalize Sv (K.take i) item=O at *
  have m:lim<=G.length:=by omega
  have C:(item == 0||x.item == item)=true->∃G3,OU lim none 7 56 false (.slice (Sa H.length) O.length K.length) (.slice (Sa (G.length+1)) 1 1) (G++[Vc (encE x),Vc (encE x)])=some (.slice (Sa H.length) (O.length+1) K.length,G3++[Vc (encE x),Vc (encE x)])/\
    NC G3 H.length=Vc ((Sv (K.take (i+1)) item).flatMap encE++z.drop 7)/\(Sv (K.take (i+1)) item).length=O.length+1/\Chg [] H G3:=fun h=>by
   rw [Nh h] at f
   obtain ⟨G3,e3,q,U⟩:=OP (G:=G) (R:=H.length) s (Vc ((O++[x]).flatMap encE++z.drop 7))
   have o:=Naf (lim:=lim) (R:=H.length) (bytes:=56) (cap:=K.length) (k:=1) (b:=G.length+1) (dest:=none) (H:=G++[Vc (encE x),Vc (encE x)]) (enc:=encE) (old:=O) (x:=x) (ro:=false) (rest:=z) OE (by decide)
    (by rw [NR];rfl) (by rw [NI s];exact A) hl (by omega) F (by omega) (by unfold PM;omega)
   rw [e3] at o
   exact ⟨G3,o,by rw [f];exact q,by rw [f];simp,hC.mut U (.inr (Nd _))⟩
  by_cases w:item=0
  ·obtain ⟨G3,e3,q,B,r⟩:=C (by simp [w])
   simp only [n28,v,y,g,e,n,NW,d,l,t,OE,NM,NH,u,m,N3 w,e3,SB,Nat.reduceLT,NJ,Nat.reduceEqDiff,NK,place,NB,Nat.reduceAdd]
   exact I (i+1) _ _ ⟨by omega,v,(by simp only [B,ne_eq,FB,Nat.reduceEqDiff]),g,e,rfl,⟨z.drop 7,by rw [Pj,F,B];omega,by rw [NI (NG q)];exact q⟩,r.app⟩ (by omega)
  by_cases D:x.item=item
  ·obtain ⟨G3,e3,q,B,r⟩:=C (by simp [D])
   simp only [n28,v,y,g,e,n,NW,d,l,t,OE,VN,NM,NH,u,m,Np w,N3 D,e3,SB,Nat.reduceLT,NJ,Nat.reduceEqDiff,NK,place,NB,Nat.reduceAdd]
   exact I (i+1) _ _ ⟨by omega,v,(by simp only [B,ne_eq,FB,Nat.reduceEqDiff]),g,e,rfl,⟨z.drop 7,by rw [Pj,F,B];omega,by rw [NI (NG q)];exact q⟩,r.app⟩ (by omega)
  ·have N:¬(item == 0||x.item == item)=true:=by simp [w,D]
   rw [Ng N] at f
   simp only [n28,v,g,e,n,NW,d,l,t,OE,VN,NH,u,m,Np w,Np D,SB,Nat.reduceLT,NJ,Nat.reduceEqDiff,NK,place,NB,Nat.reduceAdd]
   exact I (i+1) _ _ ⟨by omega,v,(by simp only [y,f,FB,Nat.reduceEqDiff]),g,e,rfl,⟨z,by rw [f];exact F,by rw [NI s,f];exact A⟩,hC.app⟩ (by omega)
 ·obtain rfl:i=K.length:=by omega
  rw [Ol] at y A
  simp only [n28,r28,y,e,n,NW,d,SB,Nat.reduceLT,NJ,Nat.reduceEqDiff,NK,ND]
  exact T G z A hC
end Go.Proofs.YtkppjkkkdpcgiaaGreat.Fn


namespace Go.Scan
theorem Ngp (S:List Ev):NY (S.map bare)=NY S:=by
 have h1:UC (S.map bare)=UC S:=by unfold UC;rw [List.foldl_map];rfl
 have h2:QG (S.map bare)=QG S:=by unfold QG;rw [h1]
 have a:∀M,RQ M (S.map bare)=RQ M S:=fun M=>by unfold RQ;rw [List.map_map];rfl
 unfold NY
 rw [h2,a]
theorem Ndt {S:List Ev}:QQ (S.map bare)↔QQ S:=by
 unfold QQ
 rw [Nw]
 exact and_congr Iff.rfl ⟨fun h s hs=>(h (bare s) (List.mem_map.2 ⟨s,hs,rfl⟩):RG (bare s)),fun h s hs=>by
  obtain ⟨x,hx,rfl⟩:=List.mem_map.1 hs
  exact h x hx⟩
end Go.Scan
namespace Go.Proofs.YtkppjkkkdpcgiaaGreat.Fn
open Go.AM Go.AM.Sym Go.Scan
def effL (n:Nat) (L:List Ev):Value×List (List Value):=if L=[] then (.tuple #[Vz,Vi 0],[]) else (.tuple #[.slice (Sa n) L.length (loose 7),Vi 0],[L.flatMap encE])
def effR (a:Bool) (n:Nat) (S:List Ev):Value×List (List Value):=if QQ S then effL n (if a then (NY S).1 else (NY S).2) else (.tuple #[Vz,Vi 2],[])
theorem Nuy {a:Bool} {n:Nat} {S S':List Ev} (h:S.map bare=S'.map bare):effR a n S=effR a n S':=by
 have h1:NY S=NY S':=by rw [<-Ngp S,<-Ngp S',h]
 have h2:QQ S↔QQ S':=by rw [<-Ndt,<-Ndt (S:=S'),h]
 unfold effR
 rw [h1]
 by_cases b:QQ S
 ·rw [Nh b,Nh (h2.1 b)]
 ·rw [Ng b,Ng fun h=>b (h2.2 h)]
theorem Nuu {x y:Ev} (h:QE x=QE y):bare x=bare y:=by
 obtain ⟨a,b,c,d,e,f,g⟩:=x
 obtain ⟨a',b',i,j,k,l,m⟩:=y
 simp only [QE,List.cons.injEq,Value.int.injEq,Rd,and_true] at h
 obtain ⟨rfl,rfl,rfl,rfl,rfl,rfl⟩:=h
 rfl
theorem Nhi:∀{S S':List Ev},S.length=S'.length->S.flatMap QE=S'.flatMap QE->S.map bare=S'.map bare
 | [],[],_,_=>rfl
 | [],_::_,h,_=>by cases h
 | _::_,[],h,_=>by cases h
 | x::S,y::S',h,e=>by
   rw [Om,Om] at e
   obtain ⟨e1,e2⟩:=List.append_inj e rfl
   rw [N9,N9,Nuu e1,Nhi (by simpa using h) e2]
theorem N10 {H:NA} {p:Option Addr} {S S':List Ev} (hl:S.length=S'.length) (h:Sl H QE 6 p S) (h':Sl H QE 6 p S'):S.map bare=S'.map bare:=by
 cases p with
 | none=>
   have e1:S=[]:=h
   have e2:S'=[]:=h'
   rw [e1,e2]
 | some a=>
   by_cases h0:S=[]
   ·subst h0
    cases S' with
    | nil=>rfl
    | cons _ _=>cases hl
   have b:S'≠[]:=fun e=>h0 (List.length_eq_zero_iff.1 (by rw [hl,e];rfl))
   obtain ⟨ro,c,k1,_,k3⟩:=h.2 h0
   obtain ⟨g,i,d,_,f⟩:=h'.2 b
   rw [k1] at d;cases d
   exact Nhi hl (k3.symm.trans (by rw [hl];exact f))
open Classical in
noncomputable def effO (g:FuncId) (as:List Value) (H:NA):Option (Value×List (List Value)):=
 if g=36\/g=27 then match as with
  | [.slice p n c]=>if h:∃S:List Ev,S.length=n/\n<2 ^ 63/\Sl H QE 6 p S then some (effR (decide (g=36)) H.length h.choose) else none
  | _=>none
 else none
theorem effO_no (g:FuncId) (as:List Value) (H:NA) (h1:g≠36) (h2:g≠27):effO g as H=none:=by
 unfold effO
 exact Ng (by rintro (h | h);exact h1 h;exact h2 h)
theorem Nz7 {g:FuncId} (a:g=36\/g=27) {p:Option Addr} {c:Nat} {S:List Ev} {H:NA} (hs:Sl H QE 6 p S) (hn:S.length<2 ^ 63):effO g [.slice p S.length c] H=some (effR (decide (g=36)) H.length S):=by
 have hex:∃S':List Ev,S'.length=S.length/\S.length<2 ^ 63/\Sl H QE 6 p S':=⟨S,rfl,hn,hs⟩
 unfold effO
 rw [Nh a]
 simp only
 rw [dif_pos hex]
 obtain ⟨k1,_,k3⟩:=hex.choose_spec
 rw [Nuy (N10 k1 k3 hs)]
theorem effO_some {g:FuncId} {as:List Value} {H:NA} {r} (h:effO g as H=some r):(g=36\/g=27)/\∃p c S,as=[.slice p S.length c]/\S.length<2 ^ 63/\Sl H QE 6 p S/\r=effR (decide (g=36)) H.length S:=by
 unfold effO at h
 split at h
 case isFalse=>cases h
 rename_i a
 refine ⟨a, ?_⟩
 split at h
 ·rename_i p n c
  split at h
  ·rename_i hex
   obtain ⟨k1,k2,k3⟩:=hex.choose_spec
   simp only [Option.some.injEq] at h
   exact ⟨p,c,hex.choose,by rw [k1],by omega,k3,h.symm⟩
  ·cases h
 ·cases h
def EffOk [OB]:Prop:=∀g as H,OA.eff g as H=effO g as H
theorem Npz [OB] (b:EffOk) {g:FuncId} (a:g=36\/g=27) {lim c:Nat} {p:Option Addr} {S:List Ev} {H:NA} {Q:Value->NA->Prop} (hs:Sl H QE 6 p S) (hn:S.length<2 ^ 63) :
  NP E false lim g [.slice p S.length c] H Q=Q (effR (decide (g=36)) H.length S).1 (H++news (effR (decide (g=36)) H.length S).2):=
 Nbl (r:=((effR (decide (g=36)) H.length S).1,(effR (decide (g=36)) H.length S).2,none)) (by rcases a with rfl | rfl<;>simp [E,orc]) (by show effS g _ H=_;unfold effS;rw [show OA.eff g _ H=_ from (b _ _ _).trans (Nz7 a hs hn)]) rfl
theorem effR_no {a:Bool} {n:Nat} {S:List Ev} (h:¬QQ S):effR a n S=(.tuple #[Vz,Vi 2],[]):=Ng h
theorem Nmh {H:NA} (L:List Ev):∃p c,effL H.length L=(.tuple #[.slice p L.length c,Vi 0],(effL H.length L).2)/\Own H.length (H++news (effL H.length L).2) encE 7 p c L/\Chg [] H (H++news (effL H.length L).2):=by
 unfold effL
 by_cases h:L=[]
 ·rw [Nh h]
  exact ⟨none,0,by rw [h];rfl,.inl ⟨h,rfl,rfl⟩,Chg.refl.app⟩
 ·rw [Ng h]
  exact ⟨_,_,rfl,.inr ⟨H.length,rfl,rfl,NQ,Nd _⟩,Chg.refl.app⟩
theorem N38 [OB] (a:EffOk) {lim c:Nat} {p:Option Addr} {S:List Ev} {H:NA} {Q:Value->NA->Prop} (hs:Sl H QE 6 p S) (hS:QQ S)
  (b:∀G kp kc,Own H.length G encE 7 kp kc (NY S).1->Chg [] H G->Q (.tuple #[.slice kp (NY S).1.length kc,Vi 0]) (G++[])) :
  NP E false lim 36 [.slice p S.length c] H Q:=by
 rw [Npz a (.inl rfl) hs (by have:=hS.1;omega)]
 have e:effR (decide ((36:Nat)=36)) H.length S=effL H.length (NY S).1:=Nh hS
 rw [e]
 obtain ⟨f,d,e1,e2,e3⟩:=Nmh (H:=H) (NY S).1
 rw [e1]
 have:=b _ _ _ e2 e3
 rwa [Nc] at this
theorem Nqu [OB] (a:EffOk) {lim c:Nat} {p:Option Addr} {S:List Ev} {H:NA} {Q:Value->NA->Prop} (hs:Sl H QE 6 p S) (hn:S.length<2 ^ 63) (hS:¬QQ S) :
  NP E false lim 36 [.slice p S.length c] H Q=Q (.tuple #[Vz,Vi 2]) H:=by
 rw [Npz a (.inl rfl) hs hn,effR_no hS]
 simp [news]
theorem Nvz [OB] (a:EffOk) {lim c:Nat} {p:Option Addr} {S:List Ev} {H:NA} {Q:Value->NA->Prop} (hs:Sl H QE 6 p S) (hS:QQ S)
  (b:∀G kp kc,Own H.length G encE 7 kp kc (NY S).2->Chg [] H G->Q (.tuple #[.slice kp (NY S).2.length kc,Vi 0]) (G++[])) :
  NP E false lim 27 [.slice p S.length c] H Q:=by
 rw [Npz a (.inr rfl) hs (by have:=hS.1;omega)]
 have e:effR (decide ((27:Nat)=36)) H.length S=effL H.length (NY S).2:=Nh hS
 rw [e]
 obtain ⟨f,d,e1,e2,e3⟩:=Nmh (H:=H) (NY S).2
 rw [e1]
 have:=b _ _ _ e2 e3
 rwa [Nc] at this
end Go.Proofs.YtkppjkkkdpcgiaaGreat.Fn


namespace Go.Proofs.YtkppjkkkdpcgiaaGreat.Fn
open Go.AM Go.AM.Sym Go.Net Go.Scan
def N7g:List Value:=UV none 0 0 none 0 0 none 0 0 0 none 0 0
theorem N16:N7g=[Vz,Vz,Vz,Vi 0,Vz]:=rfl
theorem Ntv {P:List Int} {L:List Leg} {S:List Ev} {item now:Int} (h:QP P L=0) (hS:QQ S) (h1:1<=item) (h2:item<=999999) (b:0<=now) (c:now<=NT) (h5:Sv (NY S).1 item≠[]) :
  XM P L S item now=XP P L (Sv (NY S).1 item):=by
 have a:¬(¬QQ S\/item<1\/999999<item\/now<0\/NT<now):=by
  rintro (h | h | h | h | h)
  ·exact h hS
  all_goals omega
 unfold XM
 rw [Ng (by simpa using h),Ng a,Ng h5]
theorem Nm5 {α:Type} {H:NA} {enc:α->List Value} {e R:Nat} {l:List α} {z:List Value} (he:∀x,(enc x).length=e) {ro:Bool} (h:NC H R=.cells ro (l.flatMap enc++z)):Sl H enc e (Sa R) l:=
 ⟨rfl,fun _=>⟨ro,_,h,by rw [Ni,PK he];simp,by rw [Ox,<-PK he,List.take_left]⟩⟩
theorem N39 [OB] (hE:EffOk) {lim c cp cL:Nat} {p pp pL:Option Addr} {P:List Int} {L:List Leg} {S:List Ev} {item now:Int} {H:NA} {Q:Value->NA->Prop} (hN:NetIn H pp pL P L) (hs:Sl H QE 6 p S) (hn:S.length<2 ^ 63) (hl:lim<=H.length)
  (d:∀G,XM P L S item now≠0->Chg [] H G->Q (.tuple #[.agg N7g.toArray,Vi (XM P L S item now)]) G)
  (ac:∀G pe ce q cq r cr pl cl (es tw:List Ev) (ks:List Int) (ss:List Stp),es=Sv (NY S).1 item->tw=Sv (NY S).2 item->ks=QV P L es->ss=Rn P L es ks->XM P L S item now=0->Chg [] H G->VT H.length G encE 7 pe es->Ve 7 ce es.length->VT H.length G encI 1 q ks->VT H.length G enc3 3 r ss->VT H.length G V6 5 pl (We P L es tw ks ss now)->
   Q (.tuple #[.agg (UV pe es.length ce q ks.length cq r ss.length cr (Tf P L es ks) pl (We P L es tw ks ss now).length cl).toArray,Vi 0]) G) :
  NP E false lim 17 [.agg (RX pp P.length cp pL L.length cL).toArray,.slice p S.length c,Vi item,Vi now] H Q:=by
 refine Rm (by decide) e17 rfl ?_
 rw [b17,c17]
 have hv:=fun X (mp:Bool) (lim:Nat) (Q:Value->NA->Prop)=>XR (mp:=mp) (lim:=lim) (cp:=cp) (cl:=cL) (Q:=Q) (hN.app X)
 rw [N16] at d
 by_cases h0:QP P L=0
 case neg=>
  rw [Ntu h0] at d
  simp only [n17,r17,PW,NM,hv,Np h0,hl,SB,seval,NF,NJ,NK,NE,place,NB,ND]
  exact d _ h0 Chg.refl.app
 simp only [n17,PW,NM,hv,N3 h0,SB,seval,NF,NJ,NK,NE,place,NB]
 by_cases hS:QQ S
 case neg=>
  rw [Ng3 h0 (.inl hS)] at d
  rw [Nqu hE (hs.app _) hn hS]
  simp only [n17,r17,hl,SB,seval,NJ,NK,NB,ND]
  exact d _ (by decide) Chg.refl.app
 refine N38 hE (hs.app _) hS fun G1 kp kc hO l=>?_
 have ar:=l.len
 simp at ar
 have bd:lim<=G1.length:=by omega
 have o:=fun h=>Ng3 (P:=P) (L:=L) (S:=S) (item:=item) (now:=now) h0 (.inr h)
 have k8:=l.cells (NR (X:=[Vc (RX pp P.length cp pL L.length cL),Vc [Vz,Vz,Vz,Vi 0,Vz]]) (j:=1)) (by simp)
 have x8:=fun X=>(OM.refl.app (X:=X)).cells k8
 obtain ⟨G8,e8,h8,m8⟩:=OP (NG k8) (Vc [Vz,Vz,Vz,Vi 0,Vz])
 have y8:=fun X=>(OM.refl.app (X:=X)).cells h8
 have w:Chg [] H G8:=l.pre.mut m8 (.inr (by omega))
 have n:lim<=H.length+1:=by omega
 refine NL ?_
 unfold NT at o
 by_cases R:item<1
 ·rw [o (.inl R)] at d
  simp only [n17,r17,x8,e8,y8,n,N3 R,SB,seval,NJ,NK,NE,NB,ND]
  exact d _ (by decide) w.app
 by_cases U:999999<item
 ·rw [o (.inr (.inl U))] at d
  simp only [n17,r17,x8,e8,y8,n,Np R,N3 U,SB,seval,NJ,NK,NE,NB,ND]
  exact d _ (by decide) w.app
 by_cases c3:now<0
 ·rw [o (.inr (.inr (.inl c3)))] at d
  simp only [n17,r17,x8,e8,y8,n,Np R,Np U,N3 c3,SB,seval,NJ,NK,NE,NB,ND]
  exact d _ (by decide) w.app
 by_cases c4:1051898399<now
 ·rw [o (.inr (.inr (.inr c4)))] at d
  simp only [n17,r17,x8,e8,y8,n,Np R,Np U,Np c3,N3 c4,SB,seval,NJ,NK,NE,NB,ND]
  exact d _ (by decide) w.app
 simp only [n17,Np R,Np U,Np c3,Np c4,SB,seval,NF,NJ,NK,NE]
 have bx:=Ndk S
 have bm:=hS.1
 have aw:=N2f (S:=S) (item:=item)
 have C:=Ng2 (P:=P) (L:=L) (S:=S) (item:=item) (now:=now) h0 hS (by omega) (by omega) (by omega) (by unfold NT;omega)
 refine Nxh (lim:=lim) ((hO.sl OE).app _) (by omega) (by simp;omega) fun G2 z hz t=>?_
 have hle:=Ntv (P:=P) (L:=L) (S:=S) (item:=item) (now:=now) h0 hS (by omega) (by omega) (by omega) (by unfold NT;omega)
 have ag:UR (Sv (NY S).1 item):=fun e he=>⟨(Nic hS (by omega) he).2.1,(Nic hS (by omega) he).2.2.1⟩
 obtain ⟨es,J⟩:∃es,es=Sv (NY S).1 item:=⟨_,rfl⟩
 have bq:es.length<=(NY S).1.length:=by rw [J];exact (Xn _ _).length_le
 rw [<-J] at hz C aw hle ag⊢
 rw [Nc] at hz t⊢
 have sE:Sl G2 encE 7 (Sa G1.length) es:=Nm5 OE hz
 have s:=t.cells k8 (by simp)
 have i:=l.pre.trans t
 have bw:=t.len
 have bb:=fun X=>(OM.refl.app (X:=X)).cells s
 obtain ⟨G9,e9,h9,m9⟩:=OP (NG s) (Vc [Vz,Vz,Vz,Vi 0,Vz])
 have y9:=fun X=>(OM.refl.app (X:=X)).cells h9
 have an:Chg [] H G9:=i.mut m9 (.inr (by omega))
 refine NL ?_
 by_cases V:es=[]
 ·rw [Nh V] at C
  rw [C] at d
  subst V
  simp only [n17,r17,bb,e9,y9,n,No,show lim<=G2.length by omega,SB,seval,NJ,NK,place,NB,ND]
  exact d _ (by decide) an.app
 have bo:0<es.length:=List.length_pos_iff.2 V
 have av:¬((es.length:Nat):Int)=0:=by omega
 rw [Ng V] at C
 have k4:=l.cells (NQ (X:=[Vc (RX pp P.length cp pL L.length cL),Vc [Vz,Vz,Vz,Vi 0,Vz]])) (by simp)
 have O:=t.cells k4 (by simp)
 have ba:=fun X=>(OM.refl.app (X:=X)).cells O
 simp only [n17,ba,PW,NM,Np av,show lim<=G2.length by omega,SB,seval,NF,NJ,NK,place,NB]
 replace hle:=hle V
 rw [hle] at d ac
 have ab:=hN.sim fun b ro x hb=>i.cells hb (by simp)
 refine N4d (lim:=lim) (ab.app _) (by simp;omega) (sE.app _) (by omega) (fun G3 herr f=>?_) (fun G3 q cq r cr herr f hq hr=>?_)
 ·have z8:=f.pre.cells s (by simp)
  have b0:=fun X=>(OM.refl.app (X:=X)).cells z8
  have u:=f.cells NQ (by simp)
  have v:=fun X=>(OM.refl.app (X:=X)).cells u
  obtain ⟨Ga,ea,ha,F⟩:=OP (NG u) (Vc [.slice (Sa G1.length) es.length (NY S).1.length,Vz,Vz,Vi 0,Vz])
  have ak:=F.cells z8 (by have:=NG s;omega)
  have al:=fun X=>(OM.refl.app (X:=X)).cells ak
  obtain ⟨Gb,eb,hb,mb⟩:=OP (NG ak) (Vc [Vz,Vz,Vz,Vi 0,Vz])
  have zb:=fun X=>(OM.refl.app (X:=X)).cells hb
  refine NL ?_
  simp only [n17,r17,v,ea,al,eb,zb,n,Np herr,show lim<=G2.length by omega,SB,seval,NJ,NK,NB,ND]
  exact d _ herr ((i.trans f.pre).mut F (.inr (by have:=i.len;omega)) |>.mut mb (.inr (by omega))).app
 obtain ⟨ks,K⟩:∃ks,ks=QV P L es:=⟨_,rfl⟩
 obtain ⟨ss,D⟩:∃ss,ss=Rn P L es ks:=⟨_,rfl⟩
 rw [<-K] at hq hr⊢
 rw [<-D] at hr⊢
 have z8:=f.pre.cells s (by simp)
 have z4:=f.pre.cells O (by simp)
 have u:=f.cells NQ (by simp)
 have v:=fun X=>(OM.refl.app (X:=X)).cells u
 obtain ⟨Ga,ea,ha,F⟩:=OP (NG u) (Vc [.slice (Sa G1.length) es.length (NY S).1.length,.slice q ks.length cq,.slice r ss.length cr,Vi (Tf P L es ks),Vz])
 have au:=f.len
 simp at au
 have bk:H.length+2<=G2.length:=by have:=l.len;simp at this;omega
 have I:Chg [] H Ga:=(i.trans f.pre).mut F (.inr (by have:=i.len;omega))
 have o:=I.len
 have a8:=F.cells z8 (by have:=NG s;omega)
 have a4:=F.cells z4 (by have:=NG O;omega)
 have ax:=hq.mut F (by simp)
 have az:=hr.mut F (by simp)
 have bh:=NG hz
 have a2:=(Chg.refl.mut (A:=[G2.length]) F (.inl (by simp))).sl (f.pre.sl sE (fun a _ _ h=>(by cases h))) (fun a ha _=>by cases ha;simp;omega)
 refine NL ?_
 simp only [n17,v,ea,show lim<=G2.length by omega,SB,seval,NF,NJ,NK,NE,NB]
 refine Nvz hE ((I.sl hs (fun a _ _ h=>(by cases h))).app _) hS fun G4 tp tc hT k=>?_
 have b8:=k.pre.cells a8 (by simp)
 have b4:=k.pre.cells a4 (by simp)
 have b13:=k.pre.cells ha (by simp)
 have bz:=fun X=>(OM.refl.app (X:=X)).cells b8
 have a7:=fun X=>(OM.refl.app (X:=X)).cells b4
 have aj:=fun X=>(OM.refl.app (X:=X)).cells b13
 have r13:R9 (Vc [.slice (Sa G1.length) es.length (NY S).1.length,.slice q ks.length cq,.slice r ss.length cr,Vi (Tf P L es ks),Vz])=true:=by simp [R9]
 have r4:R9 (Vc (RX pp P.length cp pL L.length cL))=true:=by simp [R9,RX]
 refine NL ?_
 simp only [n17,a7,aj,r13,r4,PW,NM,SB,seval,NF,NJ,NK,NE]
 have ah:UR (Sv (NY S).2 item):=fun e he=>by
  have hm:=((Xo (show item≠0 by omega)).1 he).1
  have ht:=Nap hS.2 (.inr hm)
  obtain ⟨s0,a1,e0⟩:=Yb (.inr hm)
  have h6:=(hS.2 s0 a1).2.2.2.2.2.2
  have e6:e.seen=s0.seen:=by rw [<-e0]
  unfold Vx at h6
  unfold NT
  omega
 refine Nxh (lim:=lim) ((hT.sl OE).app _) (by omega) (by simp;have:=k.pre.len;omega) fun G5 z' N g=>?_
 obtain ⟨tw,htw⟩:∃tw,tw=Sv (NY S).2 item:=⟨_,rfl⟩
 have bu:tw.length<=(NY S).2.length:=by rw [htw];exact (Xn _ _).length_le
 rw [<-htw] at N ah⊢
 rw [Nc] at N g⊢
 refine ⟨Nkj fun j hj=>?_, ?_⟩
 ·have am:NU (List.length G4) [] G4=G4:=rfl
  rw [am] at hj⊢
  obtain ⟨ro,x,hx⟩:=SA hj
  rw [Nc,g.other j (NG hx) (by simp)]
 have c8:=g.cells b8 (by simp)
 have bf:=g.cells b4 (by simp)
 have c13:=g.cells b13 (by simp)
 have l4:=k.pre.len
 have l5:=g.len
 have aa:Chg [] H G5:=(I.trans k.pre).trans g
 have ad:=(ax.chg (A:=[]) k.pre (by simp)).chg (A:=[]) g (by simp)
 have ae:=(az.chg (A:=[]) k.pre (by simp)).chg (A:=[]) g (by simp)
 have ai:=g.sl (k.pre.sl a2 (fun a _ _ h=>(by cases h))) (fun a _ _ h=>(by cases h))
 have a6:Sl G5 encE 7 (Sa G4.length) tw:=Nm5 OE N
 have B:=Nac (P:=P) (L:=L) (es:=es)
 rw [<-K] at B
 have M:=Nj4 (P:=P) (L:=L) B
 rw [<-D] at M
 have bv:ks.length<=es.length:=Njg B.2
 have be:ss.length<=ks.length:=by rw [D];unfold Rn;rw [Nw,Ps];omega
 refine NL ?_
 simp only [n17,SB,seval,NF]
 have ap:=hN.sim fun b ro x hb=>aa.cells hb (by simp)
 refine Ntx (lim:=lim) (ct:=(NY S).2.length) (c:=Tf P L es ks) (ai.app _) (.inr ⟨by omega,by omega⟩) (a6.app _) (ap.app _) (ad.1.app _) (ae.1.app _) (by simp;omega) (by omega) (by omega) ag ah M.1 M.2 B.mem (by omega) (by omega) ⟨by omega,by unfold NT;omega⟩ fun G6 pl cl m y=>?_
 have d8:=m.pre.cells c8 (by simp)
 have W:=m.pre.cells c13 (by simp)
 have Y:=fun X=>(OM.refl.app (X:=X)).cells W
 have bg:=fun X=>(OM.refl.app (X:=X)).cells d8
 obtain ⟨Ge,ee,he,T⟩:=OP (NG W) (Vc (UV (Sa G1.length) es.length (NY S).1.length q ks.length cq r ss.length cr (Tf P L es ks) pl (We P L es tw ks ss now).length cl))
 have Z:=T.cells d8 (by omega)
 have xe:=fun X=>(OM.refl.app (X:=X)).cells he
 have a9:=fun X=>(OM.refl.app (X:=X)).cells Z
 obtain ⟨Gf,ef,hf,mf⟩:=OP (NG Z) (Vc (UV (Sa G1.length) es.length (NY S).1.length q ks.length cq r ss.length cr (Tf P L es ks) pl (We P L es tw ks ss now).length cl))
 have xf:=fun X=>(OM.refl.app (X:=X)).cells hf
 simp only [UV] at ee xe ef xf
 refine NL ?_
 simp only [n17,r17,Y,ee,xe,a9,ef,xf,n,show lim<=G2.length by omega,SB,seval,NJ,NB,ND]
 have l6:=m.pre.len
 have ao:H.length<=G1.length:=by have:=l.pre.len;omega
 have a5:=(((Chg.refl.mut (A:=[G2.length,H.length+1]) T (.inl (by simp))).mut mf (.inl (by simp))).sl (m.pre.sl ai (fun a _ _ h=>(by cases h))) (fun a ha _=>by cases ha;simp;omega)).app []
 have ay:=((((ad.chg (A:=[]) m.pre (by simp)).mut T (by simp)).mut mf (by simp;omega)).le (n':=H.length) (by simp;omega)).app []
 have a0:=((((ae.chg (A:=[]) m.pre (by simp)).mut T (by simp)).mut mf (by simp;omega)).le (n':=H.length) (by simp;omega)).app []
 have bc:=NG c13
 have bn:=NG c8
 have aq:=((y.mut T (fun a ha=>by have:=(y.block ha).1;simp at this;omega)).mut mf (fun a ha=>by have:=(y.block ha).1;simp at this;omega)).app []
 refine ac _ _ _ q cq r cr pl cl es tw ks ss J htw K D (herr) (((aa.trans m.pre).mut T (.inr (by omega))).mut mf (.inr (by omega))).app ⟨a5,fun a ha=>by cases ha;exact ao⟩ (.inr ⟨by omega,by omega⟩) ay a0 ⟨aq.sl SG,fun a ha=>by have:=(y.block ha).1;simp at this;omega⟩
def Nci (L:List Leg):Prop:=(∀l∈L,l.dst=l.frm+1)/\∀a∈L,∀b∈L,a.frm=b.frm->a=b
section
variable {L:List Leg} (hL:Nci L)
include hL
theorem Nci.len:∀{w:List (Leg×Int)} {p t q u:Int},Ro L p t w q u->q=p+w.length
 | [],p,t,q,u,h=>by obtain ⟨rfl,_⟩:=h;simp
 | (l,a)::w,p,t,q,u,h=>by
   obtain ⟨h1,h2,b,c,h5⟩:=h
   have d:=hL.1 l h1
   have:=Nci.len h5
   simp only [Nk]
   omega
theorem Nci.first:∀{w w':List (Leg×Int)} {p t b q u c:Int},Ro L p t w q u->Naj t w->Ro L p b w' q c->t<=b->u<=c/\w.map (·.1)=w'.map (·.1)
 | [],w',p,t,b,q,u,c,h,_,h',ht=>by
   have e:=hL.len h'
   obtain ⟨rfl,rfl⟩:=h
   have:w'=[]:=List.length_eq_zero_iff.1 (by omega)
   subst this
   obtain ⟨_,rfl⟩:=h'
   exact ⟨ht,rfl⟩
 | (l,a)::w,[],p,t,b,q,u,c,h,_,h',ht=>by
   have e:=hL.len h
   obtain ⟨rfl,_⟩:=h'
   simp only [Nk] at e
   omega
 | (l,a)::w,(l',a')::w',p,t,b,q,u,c,h,hn,h',ht=>by
   obtain ⟨h1,h2,k,m,h5⟩:=h
   obtain ⟨d,i,f,j,g⟩:=h'
   obtain ⟨n1,n2⟩:=hn
   obtain rfl:l=l':=hL.2 l h1 l' d (by omega)
   have:=(Sg n1).2.2 a' f (by omega)
   obtain ⟨k1,k2⟩:=Nci.first h5 n2 g (by omega)
   exact ⟨k1,by rw [N9,N9,k2]⟩
theorem Nci.best {w:List (Leg×Int)} {p t q u:Int} (h:Ro L p t w q u) (hn:Naj t w) (f:u<=t+86400):Tq L p t q u/\BestW L p t q u w:=by
 have key:∀j v',Go.Net.Way L j p t q v'->u<=v'/\w.length=j:=fun j v' hw=>by
  obtain ⟨w',e,b⟩:=hw.isWay
  have k:=hL.first h hn b (Oj _)
  have:=P3 List.length k.2
  rw [Nw,Nw] at this
  exact ⟨k.1,by omega⟩
 refine ⟨.inr ⟨⟨⟨_,h.way⟩,f⟩,fun v ⟨⟨j,hw⟩,_⟩=>(key j v hw).1⟩,h,fun j v' hw _=>by have:=(key j v' hw).2;omega,fun w' v' b _ _ c=>?_,hn⟩
 have k:=hL.first h hn b (Oj _)
 have e:Zf w'=Zf w:=by
  unfold Zf
  have:=P3 (List.map fun l:Leg=>l.id) k.2
  rw [List.map_map,List.map_map] at this
  exact this.symm
 rw [e] at c
 exact d _ c
where
 d:∀x:List Int,¬Nln x x
 | [],h=>by cases h
 | a::x,h=>by rcases h with h | ⟨_,h⟩;omega;exact d x h
theorem Nci.way {P:List Int} {w:List (Leg×Int)} {p t q u:Int} (h:Ro L p t w q u) (hn:Naj t w) (a:u<=t+86400) (h0:0<=u) (he:Uk P L p q t=0):Ncj P L p q t=w:=
 Nc3 ⟨he,u,h0,(hL.best h hn a).1,(hL.best h hn a).2⟩
theorem Nci.arr {P:List Int} {w:List (Leg×Int)} {p t q u:Int} (h:Ro L p t w q u) (hn:Naj t w) (a:u<=t+86400) (he:Uk P L p q t=0):Nco P L p t q=u:=by
 obtain ⟨hv,hp,b,ht,_⟩:=ZL he
 exact Sb.uniq (Nad (RH hv) hp b ht) (hL.best h hn a).1
end
section
variable {P:List Int} {L:List Leg} {es:List Ev}
theorem Ni8 {ks:List Int} (h:Nft es.length ks):0<=Tf P L es ks:=by
 have h1:=Njg h.2
 have h2:=Z6 (P:=P) (L:=L) (es:=es) (ks:=ks) (ks.length-1)
 unfold Tf Rn
 omega
def N0n (P:List Int) (L:List Leg) (es:List Ev):Int:=Tf P L es (QV P L es)
theorem Njf:0<=N0n P L es:=Ni8 Nac
def VY (n:Nat):List Int:=(List.range n).map Int.ofNat
theorem TB {n:Nat}:(VY n).length=n:=by simp [VY]
theorem XG {n i:Nat} (h:i<n):gt (VY n) i=(i:Int):=by rw [PU (by simpa [VY] using h)];simp [VY]
theorem Nro {n:Nat}:Nft n (VY n):=⟨fun h=>by rwa [TB] at h,fun i hi=>by
 rw [TB] at hi
 unfold Ncf
 rw [XG hi]
 refine ⟨by omega,by omega,fun h=>?_⟩
 rw [XG (by omega)]
 omega⟩
theorem Ngk:∀(l:List (Int×Int×Int)),(∀x∈l,x.2.2=0)->VW l=0
 | [],_=>rfl
 | x::l,h=>by rw [VW,h x (by simp),Ngk l fun y a=>h y (by simp [a])];rfl
theorem N0r (h:∀i,i+1<es.length->QI P L (gt es i) (gt es (i+1))=0):Tf P L es (VY es.length)=0:=by
 unfold Tf
 rw [TB,Ngk]
 ·omega
 ·intro x hx
  unfold Rn at hx
  obtain ⟨i,hi,rfl⟩:=List.mem_map.1 hx
  have hi:=List.mem_range.1 hi
  rw [TB] at hi
  unfold TZ
  rw [XG (by omega),XG (by omega)]
  exact h i (by omega)
theorem Nve (h:∀i,i+1<es.length->QI P L (gt es i) (gt es (i+1))=0):N0n P L es=0/\(QV P L es).length=es.length:=by
 have h0:=N0r h
 have h1:=Njf (P:=P) (L:=L) (es:=es)
 have h2:=Njg (Nac (P:=P) (L:=L) (es:=es)).2
 rcases N0m (P:=P) (L:=L) (Nro (n:=es.length)) with a | ⟨a,hc | ⟨hc,_⟩⟩
 ·rw [h0] at a;exact absurd a (by unfold N0n at h1;omega)
 ·rw [TB] at hc;rw [h0] at a;exact ⟨a,by omega⟩
 ·rw [TB] at hc;rw [h0] at a;exact ⟨a,by omega⟩
end
theorem Nqf {P:List Int} {L:List Leg} {es:List Ev} (h:∀i,i+1<es.length->QI P L (gt es i) (gt es (i+1))=0):QV P L es=VY es.length/\Tf P L es (QV P L es)=0:=by
 obtain ⟨h1,h2⟩:=Nve h
 have hk:=Nac (P:=P) (L:=L) (es:=es)
 refine ⟨?_,h1⟩
 refine Pe (by rw [TB,h2]) fun i hi hi'=>?_
 rw [<-PU hi,<-PU hi',XG (by rw [TB] at hi';exact hi')]
 have mono:∀d i,i+d<(QV P L es).length->gt (QV P L es) i+d<=gt (QV P L es) (i+d):=fun d=>by
  induction d with
  | zero=>intro i _;simp
  | succ d ih=>
    intro i hd
    have k1:=ih i (by omega)
    have k2:gt (QV P L es) (i+(d+1)-1)<gt (QV P L es) (i+(d+1)):=(hk.2 (i+(d+1)) hd).2.2 (by omega)
    rw [show i+(d+1)-1=i+d by omega] at k2
    omega
 have a:=Nqi hk.2 i hi
 have b:=mono (es.length-1-i) i (by omega)
 have a3:=(hk.2 (i+(es.length-1-i)) (by omega)).2.1
 omega
def Nwv (p t k:Int):Ev:=⟨7,p,p,k,t,t,0⟩
def SBx:List Ev:=[Nwv 1 500 2,Nwv 3 800 2,Nwv 1 501 2]
def N8i:An:=⟨5,1,0,2,0⟩
def Oa3:An:=⟨6,0,0,1,1⟩
def Nd4:List Value:=[.string ⟨#[]⟩,.string ⟨#[115,116,114,97,121]⟩,.string ⟨#[97,102,116,101,114]⟩,.string ⟨#[106,117,109,112]⟩,.string ⟨#[101,97,114,108,121]⟩,.string ⟨#[109,105,115,115,101,100]⟩,.string ⟨#[100,111,117,98,108,101,100]⟩,.string ⟨#[108,111,115,116]⟩]
theorem YO:Nd4.length=8:=id rfl
theorem Nla [OB] {mp:Bool} {lim:Nat} {H:NA} {Q:Value->NA->Prop}:NP E mp lim 35 [] H Q=Q (.agg Nd4.toArray) H:=by
 refine pc (by decide) e35 rfl rfl ?_
 rw [b35,c35]
 simp only [n35,r35,SB,seval,NJ,reduceCtorEq,place,NB,ND]
 rfl
def Nbw (n:Nat):Value:=Nd4.getD n (.string ⟨#[]⟩)
theorem No0 (n:Nat):flat 4 (Nbw n)=true:=by
 unfold Nbw Nd4
 rcases n with _ | _ | _ | _ | _ | _ | _ | _ | n<;>rfl
theorem N2x [OB] {mp:Bool} {lim n:Nat} {H:NA} {Q:Value->NA->Prop} (hn:n<256):NP E mp lim 13 [.int .u8 (n:Int)] H Q=Q (Nbw n) H:=by
 refine pc (by decide) e13 rfl (No0 n) ?_
 rw [b13,c13]
 have hw:IntKind.i64.wrap ((n:Nat):Int)=n:=NN (by omega) (by omega)
 by_cases b:8<=(n:Int)
 ·have e:Nbw n=.string ⟨#[]⟩:=by unfold Nbw;rw [Na,Nu (by rw [YO];omega)];rfl
  simp only [n13,r13,Nla,NH,hw,N3 b,YO,e,SB,seval,NF,NJ,NK,reduceCtorEq,NE,place,NB,ND]
 ·have e:∀(v:Value),Nd4[n]? = some v->v=Nbw n:=fun v hv=>by unfold Nbw;rw [Na,hv];rfl
  have a:n<Nd4.length:=by rw [YO];omega
  have e2:Nd4[n]? = some (Nbw n):=by rw [Nf a];congr 1;exact e _ (Nf a)
  simp only [n13,r13,Nla,NH,hw,Np b,YO,e2,N3 (show (0:Int)<=n by omega),N3 (show (n:Int)<8 by omega),and_self,Pc,SB,seval,NF,NJ,NK,reduceCtorEq,NE,place,NB,ND]
def N1i (G:NA) (b:Nat) (A:List An):Prop:=∃pe n ce q nk cq r ns cr c pl cl,NC G b=Vc (UV pe n ce q nk cq r ns cr c pl A.length cl)/\Sl G V6 5 pl A
theorem N1i.ext {G G':NA} {b:Nat} {A:List An} (h:N1i G b A) (e:OM G G'):N1i G' b A:=by
 obtain ⟨pe,n,ce,q,nk,cq,r,ns,cr,c,pl,cl,h1,h2⟩:=h
 exact ⟨pe,n,ce,q,nk,cq,r,ns,cr,c,pl,cl,e.cells h1,e.sl h2⟩
structure A18 (b1 b2 b3:Nat) (G:NA) (fr:Nat->Value):Prop where
 f1:fr 1=.slice (Sa b1) 3 3
 f2:fr 2=Vp b2
 f3:fr 3=Vp b3
 k1:NC G b1=Vc (SBx.flatMap QE)
 k2:NC G b2=Vc (V6 N8i)
 k3:NC G b3=Vc (V6 Oa3)
section
variable {lim b1 b2 b3:Nat} {fr:Nat->Value} {G:NA} {Q:Value->NA->Prop}
theorem A18.next {G':NA} {fr':Nat->Value} (h:A18 b1 b2 b3 G fr) (e:OM G G') (h1:fr' 1=fr 1) (h2:fr' 2=fr 2) (a:fr' 3=fr 3):A18 b1 b2 b3 G' fr':=
 ⟨h1.trans h.f1,h2.trans h.f2,a.trans h.f3,e.cells h.k1,e.cells h.k2,e.cells h.k3⟩
end
end Go.Proofs.YtkppjkkkdpcgiaaGreat.Fn


namespace Go.AM
open Go.AM.Sym
section
variable {P:Program} {E:Env} {W:Nat->Prop} {lim:Nat} {σ:PH} {H:NA} {w:World}
theorem Inv.shut (a:Inv (Prg.mk P (Env.pure E)) W lim σ H w):Inv (Prg.mk P (Env.pure E)) (fun k=>w.heap.size<=k) H.length σ H w:=
 ⟨a.blk,a.inj,fun i b L c ho d hL=>by
  have:=(List.getElem?_eq_some_iff.1 c).1
  omega,fun b c=>c,a.dom⟩
theorem Nwn {w':World} (b:Inv (Prg.mk P (Env.pure E)) W lim σ H w) (a:Stp (fun k=>w.heap.size<=k) w w'):Stp W w w'/\∀k,k<w.heap.size->w'.heap[k]? = w.heap[k]?:=by
 have c:∀k,k<w.heap.size->w'.heap[k]? = w.heap[k]?:=fun k hk=>a.block k (by omega)
 refine ⟨⟨a.os,a.tape,a.output,a.size,fun k hk=>c k ?_⟩,c⟩
 rcases Ou k w.heap.size with h | h
 ·exact h
 ·exact absurd (b.fresh k h) hk
theorem Ney (f:EnvOk P E) {g:FuncId} {as:List Value} {b:Value} (i:flat 4 b=true) (h:NP E false H.length g as H fun v _=>v=b) {as':List Value}
  (a:Inv (Prg.mk P (Env.pure E)) W lim σ H w) (ha:OG σ as as'):Calls P g as'.toArray w (R8 (Prg.mk P (Env.pure E)) W lim σ H b (H++news []) w):=by
 obtain ⟨n,L,h1,h2⟩:=h
 refine ((Nc0 f n).calls _ _ _ _ _ _ h1 (Nd _) _ _ w as' a.shut ha).mono fun e w' hp=>?_
 obtain ⟨r,hr,v',s,rfl,c,o,d,p,q⟩:=hp
 obtain ⟨l,m⟩:=Nwn a d
 rw [h2.2 r hr] at c
 rw [show H++news []=H from Nc H]
 exact ⟨v',σ,rfl,c.flat_self 4 i,a.world d.size m,l,PH.le_refl _,fun j k=>absurd rfl k⟩
theorem Nuw (O:EnvOk P E) {g:FuncId} {as:List Value} {n e:Nat} {c:List Value} (hc:∀x∈c,atom x=true) (h:NP E false H.length g as H fun v H'=>∃R,v=.tuple #[.slice (Sa R) n (loose e),Vi 0]/\NC H' R=Vc c/\H.length<=R) {as':List Value}
  (d:Inv (Prg.mk P (Env.pure E)) W lim σ H w) (ha:OG σ as as'):Calls P g as'.toArray w (R8 (Prg.mk P (Env.pure E)) W lim σ H (.tuple #[.slice (Sa H.length) n (loose e),Vi 0]) (H++news [c]) w):=by
 obtain ⟨k,L,h1,h2⟩:=h
 refine ((Nc0 O k).calls _ _ _ _ _ _ h1 (Nd _) _ _ w as' d.shut ha).mono fun en w' hp=>?_
 obtain ⟨r,hr,v',σ',rfl,D,F,G,q4,q5⟩:=hp
 obtain ⟨U,V⟩:=Nwn d G
 obtain ⟨R,e1,e2,e3⟩:=h2.2 r hr
 rw [e1] at D
 obtain ⟨f,hL,hB⟩:=F.blk R _ (QX e2 rfl) rfl
 have p:w.heap.size<=f.blk:=F.wr R _ f (QX e2 rfl) rfl e3 hL
 have B:Inv (Prg.mk P (Env.pure E)) W lim σ H w':=d.world G.size V
 have hd:σ H.length=none:=d.dom _ (Nd _)
 have hle:=PH.le_put (L:=f) hd
 have t:U1 (Prg.mk P (Env.pure E)) (σ.put H.length f) w' f (Vc c):=by
  obtain ⟨cs,el,fz,K,M,N⟩:=hB
  refine ⟨cs,el,fz,K,fun j v hv=>?_,N⟩
  obtain ⟨u,k1,k2,k3⟩:=M j v hv
  have o:=hc v (N8 hv)
  rw [k2.eq_of_atom o] at k1 k3
  exact ⟨v,k1,.atom o,k3⟩
 have Q:Inv (Prg.mk P (Env.pure E)) W lim (σ.put H.length f) (H++news [c]) w':=by
  refine B.adopt (i:=H.length) (b:=Vc c) (L:=f) ?_ (fun j q=>?_) (fun j q=>?_) hd t rfl (d.fresh _ p) fun j bj Lj S z m y e=>?_
  ·show (H++[Vc c])[H.length]? = _
   simp
  ·show (H++[Vc c])[j]? = _
   rcases Ou j H.length with h | h
   ·rw [N4 h]
   ·rw [Nu (by simp;omega),Nu h]
  ·simp [news] at q;omega
  ·obtain ⟨I,k1,k2⟩:=d.blk j bj z m
   rw [y] at k1;cases k1
   have:=k2.lt m
   omega
 refine ⟨v',σ.put H.length f,rfl, ?_,Q,U,hle,fun j q=>?_⟩
 ·obtain ⟨ys,rfl,hl⟩:=D.tuple_left
  obtain ⟨C,s⟩:=hl
  match ys,C,s with
  | ⟨[y0,y1]⟩,C,s=>
    have X:=s 0 _ _ rfl rfl
    have Y:=s 1 _ _ rfl rfl
    rw [Y.int_left]
    refine VRel.tuple_iff.2 (OG.cons ?_ (OG.cons (.atom rfl) OG.nil))
    have hp:(σ.put H.length f) H.length=some f:=PH.put_same
    obtain ⟨_,I,l,A⟩:=X.slice_left
    rw [hL] at l;cases l
    rcases A with ⟨h,_⟩ | ⟨J,he,Z,hn,hr,rfl⟩ | ⟨a,h,rfl,rfl⟩
    ·unfold loose at h;omega
    ·have:J=e:=by unfold loose at he;omega
     subst this
     exact .lslice hp hn hr
    ·exact .eslice hp h
 ·apply Ok
  intro T
  refine q ?_
  simp only [PH.put]
  rw [Ng (by omega)]
end
end Go.AM


namespace Go.Proofs.YtkppjkkkdpcgiaaGreat.Fn
open Go.AM Go.AM.Sym Go.Scan Go.Sort
structure Fo where
 (item place scanner kind at' late:Int)
 deriving Inhabited
structure BSt (H:NA) (S:List Ev) (T:List Int) (sp tp:Option Addr) (sc tc:Nat) (G:NA):Prop where
 so:Own H.length G QE 6 sp sc S
 to:Own H.length G encI 1 tp tc T
 ne:∀a b,sp=some a->tp=some b->a.block≠b.block
 old:∀j,j<H.length->NC G j=NC H j
 len:H.length<=G.length
theorem BSt.step {H:NA} {S:List Ev} {T:List Int} {sp tp:Option Addr} {sc tc lim:Nat} {G:NA} (h:BSt H S T sp tp sc tc G) (hl:lim<=H.length) (hS:S.length<1000) (hT:T.length<1000) (s:Ev) (t:Int) (x y:Blk) :
  ∃G2,OU lim none 6 48 false (.slice sp S.length sc) (.slice (Sa (G.length+2)) 1 1) (G++[x,y,Vc (QE s)])=some (.slice (Sa (G.length+3)) (S.length+1) (loose 6),G2++[])/\
   ∃k,OU lim none 1 8 false (.slice tp T.length tc) (.slice (Sa G2.length) 1 1) (G2++[Vc [Vi t]])=some (.slice (Sa (G2.length+1)) (T.length+1) (loose 1),k++[])/\
   BSt H (S++[s]) (T++[t]) (Sa (G.length+3)) (Sa (G2.length+1)) (loose 6) (loose 1) (k++[]):=by
 have len:=h.len
 obtain ⟨G2,e2,f,_,c,m,_⟩:=h.so.step (lim':=lim) (bytes:=48) hl PN (by decide) s (by unfold PM;omega) (by omega) len [x,y,Vc (QE s)] (G.length+2) 1 (by rw [NR];rfl)
 simp only [Nk,No,N5,Nat.reduceAdd] at e2 f m
 have p:Chg (Nkn sp) G (G2++[]):=⟨by simp;omega,fun j g hA=>c j g (M3 hA)⟩
 have o:Own H.length (G2++[]) encI 1 tp tc T:=h.to.chg p fun a ha r=>by
  obtain ⟨b,l,e⟩:=UK r
  exact h.ne b a l ha e.symm
 rw [Nc] at f o
 obtain ⟨k,e3,i,_,d,n,_⟩:=o.step (lim':=lim) (bytes:=8) hl PQ (by decide) t (by unfold PM;omega) (by omega) (by omega) [Vc (encI t)] G2.length 1 (by rw [NQ];rfl)
 simp only [Nk,No,N5] at e3 i n
 have q:Chg (Nkn tp) G2 (k++[]):=⟨by simp;omega,fun j g hA=>d j g (M3 hA)⟩
 have np:∀j,j<H.length->(∀a,sp=some a->j≠a.block)/\(∀a,tp=some a->j≠a.block):=fun j g=>⟨fun a ha=>by have:=(h.so.block ha).1;omega,fun a ha=>by have:=(h.to.block ha).1;omega⟩
 refine ⟨G2,e2,k,e3,f.chg q fun a ha r=>?_,i,fun a b ha l=>?_,fun j g=>?_,by simp;omega⟩
 ·cases ha
  obtain ⟨b,l,e⟩:=UK r
  have:=(h.to.block l).2
  have u:G.length+3=b.block:=e
  omega
 ·cases ha;cases l
  show G.length+3≠G2.length+1
  omega
 ·rw [d j (by omega) (np j g).2]
  have:=c j (by omega) (np j g).1
  rw [Nc] at this
  rw [this];exact h.old j g
end Go.Proofs.YtkppjkkkdpcgiaaGreat.Fn


namespace Go.Proofs.YtkppjkkkdpcgiaaGreat.Fn
open Go.AM Go.AM.Sym Go.Net Go.Scan
structure RL where
 (a b c d e f:Int)
 deriving DecidableEq,Inhabited
def encR (x:RL):List Value:=[.int .u8 x.a,.int .u8 x.b,.int .u8 x.c,.int .u8 x.d,.int .u8 x.e,.int .u8 x.f]
theorem Nmf (x:RL):(encR x).length=6:=id rfl
def ByR (x:RL):Prop:=(0<=x.a/\x.a<=255)/\(0<=x.b/\x.b<=255)/\(0<=x.c/\x.c<=255)/\(0<=x.d/\x.d<=255)/\(0<=x.e/\x.e<=255)/\(0<=x.f/\x.f<=255)
def P5:List Int:=[3,1,5,2,4]
def Yn (i:Nat) (x:RL):Leg:=⟨(i:Int)+1,1+x.a.tmod 5,1+x.b.tmod 5,x.c*5,1+x.d,x.e.tmod 60,1000,x.f.tmod 127+1⟩
def Uj (a:List RL):Nat->List Leg
 | 0=>[]
 | n+1=>if (Yn n (gt a n)).frm≠(Yn n (gt a n)).dst then Uj a n++[Yn n (gt a n)] else Uj a n
theorem WQ (a:List RL):∀n,(Uj a n).length<=n
 | 0=>Nd _
 | n+1=>by
   have:=WQ a n
   rw [Uj]
   split
   ·simp;omega
   ·omega
theorem M5 {b:List RL} {l:Leg}:∀{n},l∈Uj b n->∃i,i<n/\l=Yn i (gt b i)/\l.frm≠l.dst
 | 0,h=>by cases h
 | n+1,h=>by
   rw [Uj] at h
   split at h
   ·rename_i a
    rcases N0.1 h with h | h
    ·obtain ⟨i,h1,h2⟩:=M5 h;exact ⟨i,by omega,h2⟩
    ·rw [Nl] at h;subst h;exact ⟨n,by omega,rfl,a⟩
   ·obtain ⟨i,h1,h2⟩:=M5 h;exact ⟨i,by omega,h2⟩
theorem N2w {a:List RL} {n:Nat} (b:∀x∈a,ByR x) (hn:min a.length 10=n):∀l∈Uj a n,By l:=fun l hl=>by
 obtain ⟨i,hi,rfl,_⟩:=M5 hl
 have h1:=b _ (QJ (l:=a) (i:=i) (by omega))
 have h2:=h1.2.2.2.2.2
 unfold By Yn
 simp only
 have c:=Int.tmod_lt_of_pos (gt a i).f (show (0:Int)<127 by decide)
 have d:=Int.tmod_nonneg (127:Int) h2.1
 omega
theorem N3c {α:Type} [Inhabited α] {l:List α} {n i:Nat} (h:i<n):gt (l.take n) i=gt l i:=by
 unfold gt
 rw [Na,Na,Py,Nh h]
theorem N7b [OA] {lim c:Nat} {p:Option Addr} {g:List RL} {H:NA} {Q:Value->NA->Prop} (hs:Sl H encR 6 p g) (hb:∀x∈g,ByR x) (hl:g.length<2 ^ 63) (hc:Ve 6 c g.length) (y:lim<=H.length)
  (hQ:∀G pp pl cl,Chg [] H G->NetIn G pp pl P5 (Uj g (min g.length 10))->Q (.agg (RX pp 5 5 pl (Uj g (min g.length 10)).length cl).toArray) G) :
  NP E false lim 10 [.slice p g.length c] H Q:=by
 refine Rm (by decide) e10 rfl ?_
 rw [b10,c10]
 obtain ⟨n,hn⟩:∃n,min g.length 10=n:=⟨_,rfl⟩
 rw [hn] at hQ
 have D:min (g.length:Int) 10=(n:Int):=by omega
 obtain ⟨q1,k1,x1,s1,_,_,_⟩:=YI (vlo:=none) (vhi:=some (Vi n)) (lo:=0) (hi:=n) hs hc Nmf (fun cap ah=>by rw [Njd (by omega) (by omega),N7]) (Nv _) (by omega) (by omega)
 rw [Ox] at s1
 simp only [Nat.sub_zero] at x1
 have ag:(g.take n).length=n:=by rw [O6];omega
 simp only [n10,y,Nrb,D,x1,SB,seval,NJ,reduceCtorEq,NE,place,NB]
 refine NZ (fun s:Nat×Option Addr×Nat=>n-s.1) (fun s fr G=>s.1<=n/\fr 2=Vp H.length/\fr 3=Vp (H.length+2)/\fr 13=.slice q1 n k1/\fr 14=Vi n/\fr 15=Vi s.1/\Chg [] H G/\NC G H.length=Vc [Vz,Vz]/\NC G (H.length+1)=Vc (P5.flatMap encI)/\NC G (H.length+2)=Vc [.slice (Sa (H.length+1)) 5 5,.slice s.2.1 (Uj g s.1).length s.2.2]/\Own (H.length+3) G PO 8 s.2.1 s.2.2 (Uj g s.1)) (0,none,0)
  ⟨Nv _,rfl,rfl,rfl,rfl,by rfl,Chg.refl.app,by rw [NQ];rfl,by rw [NR];rfl,by rw [NR];rfl,.nil⟩ ?_
 rintro ⟨i,M,Y⟩ fr G ⟨hi,Z,U,q,h,t,hC,hA,hP,hB,B⟩ hN
 simp only at hi t hB B
 rw [OD N42.eq_1]
 refine NL ?_
 have hl:=hC.len
 have ai:=NG hB
 have I:=fun X=>(OM.refl.app (X:=X)).cells hB
 by_cases u:i<n
 case neg=>
  obtain rfl:i=n:=by omega
  obtain ⟨G2,e2,h2,m2⟩:=OP (NG hA) (Vc [.slice (Sa (H.length+1)) 5 5,.slice M (Uj g i).length Y])
  have XA:=fun X=>(OM.refl.app (X:=X)).cells hA
  have X2:=fun X=>(OM.refl.app (X:=X)).cells h2
  simp only [n10,r10,Z,U,h,t,u,I,XA,e2,X2,y,SB,seval,NJ,NK,NB,ND]
  have S1:Sl G2 encI 1 (Sa (H.length+1)) P5:=Sl.row (ro:=false) PQ (m2.cells hP (by omega))
  have S2:=(B.mut m2 fun a ha e=>by have:=(B.block ha).1;omega).sl OL
  exact hQ _ (Sa (H.length+1)) M Y (hC.mut m2 (.inr (Nd _))).app ⟨S1.app _,S2.app _,by decide,by have:=WQ g i;omega,N2w hb hn⟩
 have K:=(hC.sl s1 (by simp))
 have L:=fun X=>(K.app X).loadCells Nmf (i:=i) (by omega)
 have ix:=fun c (k:IntKind) (H1:NA)=>K.idx (c:=c) (k:=k) (H1:=H1) (i:=i) (by omega)
 have eg:gt (g.take n) i=gt g i:=N3c u
 rw [eg] at L
 rw [ag] at ix
 simp only [encR] at L
 have o:lim<=G.length:=by omega
 have J:=hb _ (QJ (l:=g) (i:=i) (by omega))
 generalize hx:gt g i=x at L J
 obtain ⟨ha,ac,aj,hd,he,hf⟩:=J
 have am:=Int.tmod_lt_of_pos x.a (show (0:Int)<5 by decide)
 have an:=Int.tmod_nonneg (5:Int) ha.1
 have ao:=Int.tmod_lt_of_pos x.b (show (0:Int)<5 by decide)
 have ap:=Int.tmod_nonneg (5:Int) ac.1
 have aq:=Int.tmod_lt_of_pos x.f (show (0:Int)<127 by decide)
 have ar:=Int.tmod_nonneg (127:Int) hf.1
 have wa:IntKind.i64.wrap x.a=x.a:=NN (by omega) (by omega)
 have wb:IntKind.i64.wrap x.b=x.b:=NN (by omega) (by omega)
 have wc:IntKind.i64.wrap x.c=x.c:=NN (by omega) (by omega)
 have wd:IntKind.i64.wrap x.d=x.d:=NN (by omega) (by omega)
 have we:IntKind.i64.wrap x.e=x.e:=NN (by omega) (by omega)
 have N:IntKind.i64.wrap (1+x.a.tmod 5)=1+x.a.tmod 5:=NN (by omega) (by omega)
 have O:IntKind.i64.wrap (1+x.b.tmod 5)=1+x.b.tmod 5:=NN (by omega) (by omega)
 have P:IntKind.i64.wrap (x.c*5)=x.c*5:=NN (by omega) (by omega)
 have R:IntKind.i64.wrap (1+x.d)=1+x.d:=NN (by omega) (by omega)
 have wf:IntKind.u8.wrap (x.f.tmod 127+1)=x.f.tmod 127+1:=by
  simp only [IntKind.wrap,IntKind.bits,IntKind.signed,Bool.false_and,Nz,if_false]
  omega
 have wi:IntKind.i64.wrap ((i:Int)+1)=(i:Int)+1:=NN (by omega) (by omega)
 have A:Uj g (i+1)=if 1+x.a.tmod 5=1+x.b.tmod 5 then Uj g i else Uj g i++[Yn i x]:=by
  rw [Uj,hx,ite_not];rfl
 by_cases v:1+x.a.tmod 5=1+x.b.tmod 5
 ·rw [Nh v] at A
  simp only [n10,q,h,t,u,L,ix,o,wa,wb,wc,wd,we,N,O,P,R,wf,wi,N3 v,SB,seval,NJ,NK,place,NB]
  exact hN (i+1,M,Y) _ _ ⟨by show i+1<=n;omega,Z,U,q,h,by rfl,hC.app,(OM.refl.app).cells hA,(OM.refl.app).cells hP,by simp only [A];exact (OM.refl.app).cells hB,by simp only [A];exact B.app _⟩ (by show n-(i+1)<n-i;omega)
 rw [Ng v] at A
 obtain ⟨G4,T,W,S,ad⟩:=Own.moreF B (lim':=lim) (bytes:=64) (by omega) OL (by decide) [Yn i x] (by simp) (by have:=WQ g i;unfold PM;simp;omega) (by have:=WQ g i;simp;omega) [Vc [.int .u8 x.a,.int .u8 x.b,.int .u8 x.c,.int .u8 x.d,.int .u8 x.e,.int .u8 x.f],Vc (PO (Yn i x)),Vc (PO (Yn i x))] (x:=.slice (Sa (G.length+2)) 1 1) (str:=false)
  (Ue (m:=[Yn i x]) (Sl.row (ro:=false) OL (by rw [NR];rfl))) rfl
 have w:∀j,j∈opB M->H.length+3<=j:=fun j C=>by
  cases hpe:M with
  | none=>rw [hpe] at C;cases C
  | some a=>rw [hpe] at C;have:=B.block hpe;simp [opB] at C;omega
 generalize ae:(G++[Vc [.int .u8 x.a,.int .u8 x.b,.int .u8 x.c,.int .u8 x.d,.int .u8 x.e,.int .u8 x.f],Vc (PO (Yn i x)),Vc (PO (Yn i x))]).length=r at T W ad
 have al:G.length<=r:=by rw [<-ae];simp
 generalize loose 8=c' at T W
 simp only [Nk,No,N5,PO,Yn] at T
 have F:=S.cells hB fun hm=>by have:=w _ hm;omega
 have aa:=S.cells hA fun hm=>by have:=w _ hm;omega
 have ab:=S.cells hP fun hm=>by have:=w _ hm;omega
 obtain ⟨G5,e5,h5,V⟩:=OP (NG F) (Vc [.slice (Sa (H.length+1)) 5 5,.slice (Sa r) ((Uj g i).length+1) c'])
 have X4:=fun X=>(OM.refl.app (X:=X)).cells F
 have z:lim<=H.length+2:=by omega
 simp only [n10,U,q,h,t,u,L,ix,o,wa,wb,wc,wd,we,N,O,P,R,wf,wi,Np v,I,T,X4,e5,z,SB,seval,NJ,NK,place,NB]
 exact hN (i+1,Sa r,c') _ _ ⟨by show i+1<=n;omega,Z,U,q,h,by rfl,((hC.trans' S fun j C ak=>by have:=w j C;omega).mut V (.inr (by omega))).app,(OM.refl.app).cells (V.cells aa (by omega)),(OM.refl.app).cells (V.cells ab (by omega)),
  by simp only [A,Ni,Qa];exact (OM.refl.app).cells h5,by simp only [A];exact ((W.mut V fun a ha e=>by cases ha;simp at e;omega).le (by omega)).app _⟩ (by show n-(i+1)<n-i;omega)
theorem Nud {α:Type} [Inhabited α] {l m:List α} {i:Nat} (h:i<l.length):gt (l++m) i=gt l i:=by
 rw [PU (by simp;omega),PU h,Qv h]
theorem Nue {α:Type} [Inhabited α] {l:List α} {x:α}:gt (l++[x]) l.length=x:=by
 rw [PU (by simp),Q7 (Nd _)]
 simp
theorem Nty {P:List Int} {M:List Leg} {l:Leg} (h:VU P M) (h1:Fine l) (h2:l.id∉M.map (·.id)) (a:l.frm∈P) (b:l.dst∈P):VU P (M++[l]):=fun i hi=>by
 rw [Ni,Qa] at hi
 rcases Ou i M.length with h5 | h5
 ·have:=h i h5
  unfold lOk at *
  rw [Nud h5,Qh (by omega)]
  exact this
 ·obtain rfl:i=M.length:=by omega
  unfold lOk
  rw [Nue,Qh (Nd _),Ol]
  exact ⟨h1,h2,a,b⟩
theorem Ny7 {a:Int} (h1:1<=a) (h2:a<=5):a∈P5:=by
 have:a=1\/a=2\/a=3\/a=4\/a=5:=by omega
 rcases this with rfl | rfl | rfl | rfl | rfl<;>decide
theorem Nra {c:List RL} (g:∀x∈c,ByR x):∀n,n<=c.length->n<=10->VU P5 (Uj c n)
 | 0,_,_=>fun i hi=>by cases hi
 | n+1,hn,h10=>by
   have ih:=Nra g n (by omega) (by omega)
   rw [Uj]
   split
   ·rename_i j
    obtain ⟨ha,d,hc,hd,he,h⟩:=g _ (QJ (l:=c) (i:=n) (by omega))
    have k:=Int.tmod_lt_of_pos (gt c n).a (show (0:Int)<5 by decide)
    have m:=Int.tmod_nonneg (5:Int) ha.1
    have o:=Int.tmod_lt_of_pos (gt c n).b (show (0:Int)<5 by decide)
    have p:=Int.tmod_nonneg (5:Int) d.1
    have q:=Int.tmod_lt_of_pos (gt c n).e (show (0:Int)<60 by decide)
    have r:=Int.tmod_nonneg (60:Int) he.1
    have s:=Int.tmod_lt_of_pos (gt c n).f (show (0:Int)<127 by decide)
    have t:=Int.tmod_nonneg (127:Int) h.1
    refine Nty ih ?_ ?_ ?_ ?_
    ·unfold Fine Yn at *
     simp only at *
     omega
    ·intro hm
     obtain ⟨l,h1,h2⟩:=List.mem_map.1 hm
     obtain ⟨i,u,rfl,_⟩:=M5 h1
     unfold Yn at h2
     simp only at h2
     omega
    ·refine Ny7 ?_ ?_<;>(unfold Yn;simp only;omega)
    ·refine Ny7 ?_ ?_<;>(unfold Yn;simp only;omega)
   ·exact ih
theorem N2b:TC P5:=by decide
theorem Noz {a:List RL} (c:∀x∈a,ByR x) {n:Nat} (hn:n<=a.length) (b:n<=10):QP P5 (Uj a n)=0:=by
 have h1:=WQ a n
 unfold QP
 rw [Ng (by have:P5.length=5:=rfl;omega),Ng (by simpa using N2b),Ng (by simpa using Nra c n hn b)]
section
variable {lim n ce cq cr cl B:Nat} {pe q r pl:Option Addr} {ks:List Int} {ss:List Stp} {c:Int} {A:List An} {H:NA} {Q:Value->NA->Prop}
end
def evK (p t k:Int):Ev:=⟨7,p,p,k,t,t,0⟩
def N93 (d t:Int):Int:=if t / 1440*1440+d*5<t then t / 1440+1 else t / 1440
def tmC (ds:List Int) (mn:Int):Nat->Int
 | 0=>14400
 | i+1=>N93 (gt ds i) (tmC ds mn i)*1440+gt ds i*5+(1+mn)
def lgC (ds:List Int) (mn:Int) (i:Nat):Leg:=⟨(i:Int)+1,(i:Int)+1,(i:Int)+2,gt ds i*5,1+mn,0,1,127⟩
def N73 (ds:List Int) (mn:Int) (m:Nat):List Leg:=(List.range m).map (lgC ds mn)
def plC (m:Nat):List Int:=(List.range (m+1)).map fun (i:Nat)=>(i:Int)+1
def scC (ds:List Int) (mn:Int) (m:Nat):List Ev:=(List.range (m+1)).map fun (i:Nat)=>evK ((i:Int)+1) (tmC ds mn i) 1
section
variable {ds:List Int} {mn:Int} {m:Nat}
variable (hd:∀d∈ds,0<=d/\d<=255) (hm:0<=mn/\mn<=255)
include hd hm
end
section
variable {ds:List Int} {mn:Int} {m:Nat} (hd:∀d∈ds,0<=d/\d<=255) (hm:0<=mn/\mn<=255) (h5:ds.length<=5)
include hd hm h5
end
section
variable {P:List Int} {L:List Leg} {es:List Ev} {k:Nat} {now:Int}
theorem Npl (hn:es.length=k+1) (h:∀i,i<k->QI P L (gt es i) (gt es (i+1))=0):Rn P L es (VY (k+1))=(List.range k).map fun (i:Nat)=>((i:Int),((i+1:Nat):Int),(0:Int)):=by
 unfold Rn
 rw [TB,Pt]
 refine Pv fun i hi=>?_
 have hi':=List.mem_range.1 hi
 unfold TZ
 rw [XG (by omega),XG (by omega),N7,N7,h i hi']
end
section
variable {P:List Int} {L:List Leg} {es tw:List Ev} {k:Nat} {now:Int}
theorem Nlb {s:Stp} {a:An} (h:a∈TE P L es s):a.kind=5:=by
 unfold TE at h
 obtain ⟨x,_,rfl⟩:=List.mem_map.1 h
 rfl
theorem MU {i:Nat} {a:An} (h:a∈QU es tw i):a.kind=6:=by
 unfold QU at h
 obtain ⟨x,_,rfl⟩:=List.mem_map.1 h
 rfl
theorem free_at (hn:es.length=k+1) (h:∀i,i<k->QI P L (gt es i) (gt es (i+1))=0) (hk:∀i,i<k->(gt es i).kind≠4) {i:Nat} (hi:i<k+1) :
  ∃M,(∀a∈M,a.kind=5)/\atN P L es tw (VY (k+1)) (Rn P L es (VY (k+1))) i=M++QU es tw i:=by
 have b:Nft es.length (VY (k+1)):=by rw [hn];exact Nro
 obtain ⟨hs,hd⟩:=Nj4 (P:=P) (L:=L) (es:=es) b
 have e:=Npl hn h
 rw [e] at hs hd⊢
 have kept:gt (Vn es.length (VY (k+1))) i=true:=by
  rw [Nyx (fun x hx=>b.mem x hx) (by omega)]
  exact Ns (List.mem_map.2 ⟨i,List.mem_range.2 hi,rfl⟩)
 unfold atN
 rw [kept]
 cases i with
 | zero=>
   rw [Nwi hs (by omega) (fun s d=>by obtain ⟨i,_,rfl⟩:=List.mem_map.1 d;show ((i+1:Nat):Int)≠((0:Nat):Int);omega)]
   exact ⟨[],fun a ha=>(O1 ha).elim,by simp⟩
 | succ i=>
   have hi':i<k:=by omega
   have c:((i:Int),((i+1:Nat):Int),(0:Int))∈(List.range k).map fun (i:Nat)=>((i:Int),((i+1:Nat):Int),(0:Int)):=List.mem_map.2 ⟨i,List.mem_range.2 hi',rfl⟩
   have ht:=Nwj hs hd c
   simp only [N7] at ht
   rw [ht]
   simp only [if_true,On]
   rw [Nh (by omega)]
   refine ⟨UL P L es ((i:Int),((i+1:Nat):Int),(0:Int)),fun a ha=>?_,rfl⟩
   unfold UL at ha
   simp only [N7] at ha
   rw [Ng (hk i hi'),Ng (by decide),Ng (by decide)] at ha
   split at ha
   ·exact Nlb ha
   ·cases ha
theorem Nzf (hn:es.length=k+1) (h:∀i,i<k->QI P L (gt es i) (gt es (i+1))=0) (hk:∀i,i<k->(gt es i).kind≠4) (hl:(gt es k).kind=4)
  (ht:∀d∈tw,∃q,q<es.length/\∀i,i<es.length->(atE es d i↔i=q)) :
  (∀a∈We P L es tw (VY (k+1)) (Rn P L es (VY (k+1))) now,a.kind=5\/a.kind=6)/\
   ((We P L es tw (VY (k+1)) (Rn P L es (VY (k+1))) now).filter fun a=>a.kind == 6).length=tw.length:=by
 have b:WR es (VY (k+1)) now=[]:=by
  have g:(VY (k+1)).getLast? = some (k:Int):=by
   unfold VY
   rw [Po,Oq,List.getLast?_append]
   rfl
  unfold WR
  rw [g]
  simp only [N7]
  rw [Nh (.inl hl)]
 unfold We
 rw [b,Nc]
 constructor
 ·intro a ha
  obtain ⟨i,hi,ha⟩:=List.mem_flatMap.1 ha
  obtain ⟨M,hM,e⟩:=free_at (tw:=tw) hn h hk (i:=i) (by have:=List.mem_range.1 hi;omega)
  rw [e] at ha
  rcases N0.1 ha with ha | ha
  ·exact .inl (hM a ha)
  ·exact .inr (MU ha)
 ·have key:∀l:List Nat,(∀i∈l,i<k+1)->((l.flatMap (atN P L es tw (VY (k+1)) (Rn P L es (VY (k+1))))).filter fun a=>a.kind == 6).length=(l.map fun i=>(QU es tw i).length).sum:=by
   intro l
   induction l with
   | nil=>intro _;rfl
   | cons i l ih=>
     intro hl
     obtain ⟨M,hM,e⟩:=free_at (tw:=tw) hn h hk (hl i (by simp))
     have e1:M.filter (fun a=>a.kind == 6)=[]:=List.filter_eq_nil_iff.2 fun a ha=>by rw [hM a ha];decide
     have e2:(QU es tw i).filter (fun a=>a.kind == 6)=QU es tw i:=List.filter_eq_self.2 fun a ha=>by rw [MU ha];decide
     rw [Om,List.filter_append,Ni,ih fun j c=>hl j (Nj _ c),e,List.filter_append,e1,e2,N9,List.sum_cons]
     rfl
  rw [key _ fun i hi=>by have:=List.mem_range.1 hi;omega]
  exact Nrm es tw ht
end
theorem Nn6 {P:List Int} {L:List Leg} {a b a' b':Ev} (h1:a.place=a'.place) (h2:a.time=a'.time) (c:a.kind=a'.kind) (d:b.place=b'.place) (h5:b.time=b'.time):QI P L a b=QI P L a' b':=by
 unfold QI
 rw [h1,h2,c,d,h5]
theorem Nn5 {P:List Int} {L:List Leg} {a b:Ev} (h1:a.kind≠4) (h2:a.place=b.place):QI P L a b=0:=by
 unfold QI
 rw [Ng h1,Nh h2]
theorem Ngl {α:Type} (f:α->Int):∀{A B:List α},A.Pairwise (fun a b=>f a<f b)->B.Pairwise (fun a b=>f a<f b)->(∀x,x∈A↔x∈B)->A=B
 | [],[],_,_,_=>rfl
 | [],b::B,_,_,h=>by have:=(h b).2 (by simp);cases this
 | a::A,[],_,_,h=>by have:=(h a).1 (by simp);cases this
 | a::A,b::B,hA,hB,h=>by
   obtain ⟨c,d⟩:=List.pairwise_cons.1 hA
   obtain ⟨b1,b2⟩:=List.pairwise_cons.1 hB
   have e:a=b:=by
    rcases Nn.1 ((h a).1 (by simp)) with e | e
    ·exact e
    ·rcases Nn.1 ((h b).2 (by simp)) with e2 | e2
     ·exact e2.symm
     ·have:=c b e2
      have:=b1 a e
      omega
   subst e
   rw [Ngl f d b2 fun x=>⟨fun hx=>?_,fun hx=>?_⟩]
   ·rcases Nn.1 ((h x).1 (Nj _ hx)) with e | e
    ·subst e;have:=c x hx;omega
    ·exact e
   ·rcases Nn.1 ((h x).2 (Nj _ hx)) with e | e
    ·subst e;have:=b1 x hx;omega
    ·exact e
structure Trace (S:List Ev) (n:Nat) (T Pl Kd:Nat->Int) (c:Int->Int) (t:Ev->Int):Prop where
 once:AtOnce S c t
 nn:∀s∈S,0<=t s
 own:∀s∈S,s.item=7->∃i,i<n/\s.place=Pl i/\s.kind=Kd i/\T i<=t s/\t s<=T i+5
 all:∀i,i<n->∃s∈S,s.item=7/\s.place=Pl i/\s.kind=Kd i/\t s=T i
 apart:∀i j,i<n->j<n->Pl i=Pl j->Kd i=Kd j->i=j
 rise:∀i j,i<j->j<n->T i<T j
section
variable {S:List Ev} {n:Nat} {T Pl Kd:Nat->Int} {c:Int->Int} {t:Ev->Int} (h:Trace S n T Pl Kd c t)
include h
theorem Trace.mem {x:Ev} (hx:x∈(NY S).1\/x∈(NY S).2) (c:x.item=7):∃i,i<n/\x.place=Pl i/\x.kind=Kd i/\T i<=x.time/\x.time<=T i+5:=by
 obtain ⟨s,hs,rfl⟩:=Yb hx
 obtain ⟨i,h1,h2,a,b,h5⟩:=h.own s hs c
 have e:=Ngy h.once hs (h.nn s hs)
 exact ⟨i,h1,h2,a,by show T i<=TW _ s;rw [e];exact b,by show TW _ s<=_;rw [e];exact h5⟩
theorem Trace.idx {i j:Nat} {x y:Ev} (hi:i<n) (a:j<n) (h1:x.place=Pl i) (h2:x.kind=Kd i) (b:y.place=Pl j) (c:y.kind=Kd j) (h5:QR x=QR y):i=j:=by
 unfold QR at h5
 simp only [Prod.mk.injEq] at h5
 exact h.apart i j hi a (by omega) (by omega)
theorem Trace.has {i:Nat} (hi:i<n):∃e∈(NY S).1,e.item=7/\e.place=Pl i/\e.kind=Kd i/\e.time=T i:=by
 obtain ⟨s,hs,h1,h2,b,l⟩:=h.all i hi
 have e:=Ngy h.once hs (h.nn s hs)
 have hm:{ s with time:=TW (QG S) s }∈(NY S).1++(NY S).2:=by
  refine (VZ (RQ (QG S) S) [] []).mem_iff.2 ?_
  simp only [On]
  exact Xw.2 ⟨s,hs,rfl⟩
 rcases N0.1 hm with hm | hm
 ·exact ⟨_,hm,h1,h2,b,by show TW _ s=_;rw [e,l]⟩
 ·obtain ⟨y,c,a,o,r⟩:=(VG S).2 _ hm
  have g:y.item=7:=by unfold QR at a;simp only [Prod.mk.injEq] at a;omega
  obtain ⟨j,m,d,f,p,q⟩:=h.mem (.inl c) g
  have k:=h.idx hi m h2 b d f a
  subst k
  have:TW (QG S) s>=y.time:=o
  exact ⟨y,c,g,d,f,by omega⟩
theorem Trace.two {x y:Ev} {i:Nat} (hx:x∈(NY S).1) (l:y∈(NY S).1) (f:x.item=7) (g:y.item=7) (hi:i<n) (h1:x.place=Pl i) (h2:x.kind=Kd i) (d:y.place=Pl i) (e:y.kind=Kd i):x=y:=by
 obtain ⟨a,ha,rfl⟩:=List.mem_iff_getElem.1 hx
 obtain ⟨b,k,rfl⟩:=List.mem_iff_getElem.1 l
 have c:∀{z:Ev},z∈(NY S).1->z.item=7->z.place=Pl i->z.kind=Kd i->T i<=z.time/\z.time<=T i+5:=fun {z} m s A B=>by
  obtain ⟨j,o,t,u,p,r⟩:=h.mem (.inl m) s
  have:=h.apart i j hi o (by omega) (by omega)
  subst this
  exact ⟨p,r⟩
 have v:=c hx f h1 h2
 have w:=c l g d e
 have hp:=O9.1 (VG S).1
 rcases Nat.lt_trichotomy a b with q | q | q
 ·have:=hp a b ha k q (by unfold QR;rw [f,g,h1,h2,d,e])
  omega
 ·subst q;rfl
 ·have:=hp b a k ha q (by unfold QR;rw [f,g,h1,h2,d,e])
  omega
theorem Trace.at_ {x:Ev} (hx:x∈(NY S).1) (b:x.item=7):∃i,i<n/\x.place=Pl i/\x.kind=Kd i/\x.time=T i:=by
 obtain ⟨i,h1,h2,a,_,_⟩:=h.mem (.inl hx) b
 obtain ⟨e,e1,e2,e3,c,d⟩:=h.has h1
 have:=h.two hx e1 b e2 h1 h2 a e3 c
 exact ⟨i,h1,h2,a,by rw [this];exact d⟩
def N23 (e:Ev):Int×Int×Int:=(e.time,e.place,e.kind)
theorem Trace.list:(Sv (NY S).1 7).map N23=(List.range n).map fun i=>(T i,Pl i,Kd i):=by
 have d:∀{x:Ev},x∈Sv (NY S).1 7↔x∈(NY S).1/\x.item=7:=fun {x}=>Xo (by decide)
 refine Ngl (·.1) ?_ ?_ fun x=>⟨fun hx=>?_,fun hx=>?_⟩
 ·rw [List.pairwise_map]
  have h1:=ZE S 7
  have h2:=(VG S).1.sublist (Xn (NY S).1 7)
  unfold Y8 at h1
  rw [O9] at h1 h2⊢
  intro a b ha g c
  have F:=h1 a b ha g c
  have D:=h2 a b ha g c
  obtain ⟨B,p⟩:=d.1 (P6 ha)
  obtain ⟨C,r⟩:=d.1 (P6 g)
  obtain ⟨i,l,m,o,s⟩:=h.at_ B p
  obtain ⟨j,y,z,A,E⟩:=h.at_ C r
  show (Sv (NY S).1 7)[a].time<(Sv (NY S).1 7)[b].time
  by_cases e:(Sv (NY S).1 7)[a].time=(Sv (NY S).1 7)[b].time
  ·have f:i=j:=by
    rcases Nat.lt_trichotomy i j with q | q | q
    ·have:=h.rise i j q y;omega
    ·exact q
    ·have:=h.rise j i q l;omega
   subst f
   have:=D (by unfold QR;rw [p,r,m,o,z,A])
   omega
  ·omega
 ·rw [List.pairwise_map]
  exact List.Pairwise.imp_of_mem (fun {i j} hi w k=>h.rise i j k (List.mem_range.1 w)) (List.pairwise_lt_range (n:=n))
 ·obtain ⟨e,he,rfl⟩:=List.mem_map.1 hx
  obtain ⟨he,v⟩:=d.1 he
  obtain ⟨i,l,m,o,s⟩:=h.at_ he v
  exact List.mem_map.2 ⟨i,List.mem_range.2 l,by unfold N23;rw [m,o,s]⟩
 ·obtain ⟨i,hi,rfl⟩:=List.mem_map.1 hx
  obtain ⟨e,e1,e2,e3,t,u⟩:=h.has (List.mem_range.1 hi)
  exact List.mem_map.2 ⟨e,d.2 ⟨e1,e2⟩,by unfold N23;rw [e3,t,u]⟩
theorem Trace.len:(Sv (NY S).1 7).length=n:=by
 have:=P3 List.length h.list
 rwa [Nw,Nw,Ps] at this
theorem Trace.gt_ {i:Nat} (hi:i<n):(gt (Sv (NY S).1 7) i).time=T i/\(gt (Sv (NY S).1 7) i).place=Pl i/\(gt (Sv (NY S).1 7) i).kind=Kd i:=by
 have e:=P3 (fun l=>l[i]?) h.list
 simp only [O0,List.getElem?_range hi,Nr] at e
 have a:i<(Sv (NY S).1 7).length:=by rw [h.len];exact hi
 rw [Nf a] at e
 simp only [Nr,Option.some.injEq,N23,Prod.mk.injEq] at e
 rw [PU a]
 exact e
end
theorem Nsw (S:List Ev):(Sv (NY S).1 7).length+(Sv (NY S).2 7).length=(S.filter fun s=>s.item == 7).length:=by
 have h:=((Ngo S).filter fun s=>s.item == 7).length_eq
 rw [Oq,List.filter_append,Ni] at h
 have e:∀l:List Ev,((l.map bare).filter fun s=>s.item == 7).length=(l.filter fun s=>s.item == 7).length:=fun l=>by
  rw [List.filter_map,Nw]
  rfl
 rw [e,e,e] at h
 have e2:∀l:List Ev,Sv l 7=l.filter fun s=>s.item == 7:=fun l=>by
  unfold Sv
  congr 1
 rw [e2,e2]
 exact h
section
variable {ds:List Int} {mn:Int} {m:Nat} (hd:∀d∈ds,0<=d/\d<=255) (hm:0<=mn/\mn<=255) (h5:ds.length<=5) (hk:m<=ds.length)
include hd hm h5 hk
end
section
variable {ds:List Int} {mn now:Int} {m:Nat} (hd:∀d∈ds,0<=d/\d<=255) (hm:0<=mn/\mn<=255) (h5:ds.length<=5) (hk:m<=ds.length)
include hd hm h5 hk
end
section
variable {ds:List Int} {mn now:Int} {m:Nat} (hd:∀d∈ds,0<=d/\d<=255) (hm:0<=mn/\mn<=255) (h5:ds.length<=5) (hk:m<=ds.length) (h1:1<=m)
include hd hm h5 hk h1
end
def Vo (l:List Int) (i:Nat):Int:=if l.length=0 then 0 else gt l (i % l.length)
theorem ZT {l:List Int} (h:∀x∈l,0<=x/\x<=255) (i:Nat):0<=Vo l i/\Vo l i<=255:=by
 unfold Vo
 split
 ·omega
 ·exact h _ (QJ (Pr _ (by omega)))
def RB (C:List Int) (s:Int):Int:=if s-1<C.length then gt C (s-1).toNat else 0
theorem Ncz {C:List Int} (h:∀x∈C,-128<=x/\x<=127) {s:Int} (hs:1<=s):-128<=RB C s/\RB C s<=127:=by
 unfold RB
 split
 ·exact h _ (QJ (by omega))
 ·omega
structure TripOk (n:Nat) (T Pl:Nat->Int):Prop where
 low:2<=n
 few:n<=8
 time:∀i,i<n->14400<=T i/\T i<=100860
 place:∀i,i<n->1<=Pl i/\Pl i<=5
 rise:∀i j,i<j->j<n->T i<T j
 apart:∀i j,i<j->j+1<n->Pl i≠Pl j
def kdT (n i:Nat):Int:=if i+1=n then 4 else 2
section
variable (n:Nat) (T Pl:Nat->Int) (C La Tw:List Int)
def Zc (i:Nat):Ev:=⟨7,Pl i,Pl i,kdT n i,T i-RB C (Pl i),T i+Vo La i,0⟩
def twB (i:Nat):Prop:=(Vo Tw i).tmod 3=0/\0<Tw.length
instance (i:Nat):Decidable (twB Tw i):=by unfold twB;infer_instance
def N11 (i:Nat):Ev:=⟨7,Pl i,Pl i,kdT n i,T i+(Vo Tw i).tmod 6-RB C (Pl i),T i+(Vo Tw i).tmod 6+Vo La (i+1),0⟩
def U2:Nat->List Ev
 | 0=>[]
 | i+1=>U2 i++(Zc n T Pl C La i::if twB Tw i then [N11 n T Pl C La Tw i] else [])
def V7:Nat->Nat
 | 0=>0
 | i+1=>V7 i+if twB Tw i then 1 else 0
def Uq (S:List Ev) (s d:Int):Prop:=∃x∈S,RU x=(s,d)
instance (S:List Ev) (s d:Int):Decidable (Uq S s d):=by unfold Uq;infer_instance
def atO (d:Int):Int:=d*1440+700
def exO (s d:Int):Ev:=⟨9,40+s,s,2,atO d-RB C s,atO d,0⟩
def exD (S:List Ev) (s:Int):Nat->List Ev
 | 0=>[]
 | j+1=>exD S s j++if Uq S s ((j:Int)+10) then [exO C s ((j:Int)+10)] else []
def exS (S:List Ev):Nat->List Ev
 | 0=>[]
 | k+1=>exS S k++exD C S ((k:Int)+1) 66
def Y6:List Ev:=(U2 n T Pl C La Tw n++exS C (U2 n T Pl C La Tw n) 5).reverse
end
theorem Nrl {C:List Int} {S:List Ev} {s:Int} {x:Ev}:∀{j:Nat},x∈exD C S s j↔∃i:Nat,i<j/\Uq S s ((i:Int)+10)/\x=exO C s ((i:Int)+10)
 | 0=>⟨fun h=>(by cases h),fun ⟨_,h,_⟩=>absurd h (Nat.not_lt_zero _)⟩
 | j+1=>by
   rw [exD,N0,Nrl]
   constructor
   ·rintro (⟨i,h1,h2⟩ | h)
    ·exact ⟨i,by omega,h2⟩
    ·split at h
     ·rename_i hd
      rw [Nl] at h
      exact ⟨j,by omega,hd,h⟩
     ·cases h
   ·rintro ⟨i,h1,h2,a⟩
    by_cases e:i=j
    ·subst e;rw [Nh h2];exact .inr (by rw [a];simp)
    ·exact .inl ⟨i,by omega,h2,a⟩
theorem MQ {C:List Int} {S:List Ev} {x:Ev}:∀{k:Nat},x∈exS C S k↔∃q i:Nat,q<k/\i<66/\Uq S ((q:Int)+1) ((i:Int)+10)/\x=exO C ((q:Int)+1) ((i:Int)+10)
 | 0=>⟨fun h=>(by cases h),fun ⟨_,_,h,_⟩=>absurd h (Nat.not_lt_zero _)⟩
 | k+1=>by
   rw [exS,N0,MQ,Nrl]
   constructor
   ·rintro (⟨q,i,h1,h2⟩ | ⟨i,h1,h2⟩)
    ·exact ⟨q,i,by omega,h2⟩
    ·exact ⟨k,i,by omega,h1,h2⟩
   ·rintro ⟨q,i,h1,h2⟩
    by_cases e:q=k
    ·subst e;exact .inr ⟨i,h2⟩
    ·exact .inl ⟨q,i,by omega,h2⟩
theorem Ni5 {C:List Int} {S:List Ev} {s:Int}:∀j,(exD C S s j).length<=j
 | 0=>Nd _
 | j+1=>by
   have:=Ni5 (C:=C) (S:=S) (s:=s) j
   rw [exD,Ni]
   split
   ·simp only [Qa];omega
   ·simp only [No];omega
theorem MR {C:List Int} {S:List Ev}:∀k,(exS C S k).length<=k*66
 | 0=>Nd _
 | k+1=>by
   have:=MR (C:=C) (S:=S) k
   have:=Ni5 (C:=C) (S:=S) (s:=(k:Int)+1) 66
   rw [exS,Ni]
   omega
section
variable {n:Nat} {T Pl:Nat->Int} {C La Tw:List Int}
theorem Nh2 {x:Ev}:∀{k:Nat},x∈U2 n T Pl C La Tw k↔∃i,i<k/\(x=Zc n T Pl C La i\/(twB Tw i/\x=N11 n T Pl C La Tw i))
 | 0=>⟨fun h=>(by cases h),fun ⟨_,h,_⟩=>absurd h (Nat.not_lt_zero _)⟩
 | k+1=>by
   rw [U2,N0,Nh2,Nn]
   constructor
   ·rintro (⟨i,h1,h2⟩ | h | h)
    ·exact ⟨i,by omega,h2⟩
    ·exact ⟨k,by omega,.inl h⟩
    ·split at h
     ·rename_i hd
      rw [Nl] at h
      exact ⟨k,by omega,.inr ⟨hd,h⟩⟩
     ·cases h
   ·rintro ⟨i,h1,h2⟩
    by_cases e:i=k
    ·subst e
     rcases h2 with h2 | ⟨h2,a⟩
     ·exact .inr (.inl h2)
     ·exact .inr (.inr (by rw [Nh h2];simp [a]))
    ·exact .inl ⟨i,by omega,h2⟩
theorem Xk:∀k,(U2 n T Pl C La Tw k).length=k+V7 Tw k/\V7 Tw k<=k
 | 0=>⟨rfl,Nd _⟩
 | k+1=>by
   obtain ⟨h1,h2⟩:=Xk k
   rw [U2,Ni,Nk,h1,V7]
   split
   ·simp only [Qa];omega
   ·simp only [No];omega
variable (h:TripOk n T Pl) (hC:∀x∈C,-128<=x/\x<=127) (hL:∀x∈La,0<=x/\x<=255) (hT:∀x∈Tw,0<=x/\x<=255)
include h hC hL hT
theorem WL {x:Ev} (hx:x∈U2 n T Pl C La Tw n):∃i e l,i<n/\0<=e/\e<=5/\0<=l/\l<=255/\x=⟨7,Pl i,Pl i,kdT n i,T i+e-RB C (Pl i),T i+e+l,0⟩:=by
 obtain ⟨i,hi,hx⟩:=Nh2.1 hx
 have a:=ZT hL i
 have b:=ZT hL (i+1)
 have c:=ZT hT i
 rcases hx with rfl | ⟨_,rfl⟩
 ·exact ⟨i,0,Vo La i,hi,by omega,by omega,a.1,a.2,by simp [Zc]⟩
 ·have:=Int.tmod_lt_of_pos (Vo Tw i) (show (0:Int)<6 by decide)
  have:=Int.tmod_nonneg (6:Int) c.1
  exact ⟨i,_,Vo La (i+1),hi,this,by omega,b.1,b.2,rfl⟩
theorem Y5 {x:Ev} (hx:x∈Y6 n T Pl C La Tw):(x∈U2 n T Pl C La Tw n\/∃q i:Nat,q<5/\i<66/\x=exO C ((q:Int)+1) ((i:Int)+10)):=by
 unfold Y6 at hx
 rw [List.mem_reverse,N0] at hx
 rcases hx with hx | hx
 ·exact .inl hx
 ·obtain ⟨q,i,h1,h2,_,a⟩:=MQ.1 hx
  exact .inr ⟨q,i,h1,h2,a⟩
theorem Nqn:QQ (Y6 n T Pl C La Tw):=by
 have mt:Vx=1051898399:=rfl
 constructor
 ·have h1:=(Xk (n:=n) (T:=T) (Pl:=Pl) (C:=C) (La:=La) (Tw:=Tw) n)
  have h2:=MR (C:=C) (S:=U2 n T Pl C La Tw n) 5
  have:=h.few
  unfold Y6
  rw [List.length_reverse,Ni]
  omega
 ·intro x hx
  rcases Y5 h hC hL hT hx with hx | ⟨q,i,b,hi,rfl⟩
  ·obtain ⟨i,e,l,hi,e0,a,c,d,rfl⟩:=WL h hC hL hT hx
   have ht:=h.time i hi
   have hp:=h.place i hi
   have hc:=Ncz hC hp.1
   have hk:kdT n i=4\/kdT n i=2:=by unfold kdT;split<;>simp
   unfold RG
   simp only
   omega
  ·have hc:=Ncz hC (s:=(q:Int)+1) (by omega)
   unfold RG exO atO
   simp only
   omega
theorem Nqm:Trace (Y6 n T Pl C La Tw) n T Pl (kdT n) (RB C) fun s=>s.at'+RB C s.scanner:=by
 have b:∀{x:Ev},x∈U2 n T Pl C La Tw n->x∈Y6 n T Pl C La Tw:=fun {x} hx=>by
  unfold Y6;rw [List.mem_reverse,N0];exact .inl hx
 refine ⟨⟨fun s hs=>by show s.at'=s.at'+RB C s.scanner-RB C s.scanner;omega,fun s hs=>?_,fun s hs=>?_⟩,fun s hs=>?_,fun s hs m=>?_,fun i hi=>?_,fun i j hi o h1 h2=>?_,h.rise⟩
 ·rcases Y5 h hC hL hT hs with hs | ⟨q,i,a,hi,rfl⟩
  ·obtain ⟨i,e,l,hi,e0,c,g,k,rfl⟩:=WL h hC hL hT hs
   show T i+e-RB C (Pl i)+RB C (Pl i)<=T i+e+l
   omega
  ·show atO ((i:Int)+10)-RB C ((q:Int)+1)+RB C ((q:Int)+1)<=atO ((i:Int)+10)
   omega
 ·have f:=hs
  rcases Y5 h hC hL hT hs with hs | ⟨q,i,a,hi,rfl⟩
  ·obtain ⟨i,e,l,hi,e0,c,g,k,hx⟩:=WL h hC hL hT hs
   have ht:=h.time i hi
   have hp:=h.place i hi
   have hk:RU s=(Pl i,(T i+e+l) / 1440):=by rw [hx];rfl
   obtain ⟨d,hd⟩:∃d:Nat,(T i+e+l) / 1440=(d:Int)+10:=⟨((T i+e+l) / 1440-10).toNat,by omega⟩
   obtain ⟨q,a⟩:∃q:Nat,Pl i=(q:Int)+1:=⟨(Pl i-1).toNat,by omega⟩
   refine ⟨exO C ((q:Int)+1) ((d:Int)+10), ?_, ?_, ?_⟩
   ·unfold Y6
    rw [List.mem_reverse,N0]
    exact .inr (MQ.2 ⟨q,d,by omega,by omega,⟨s,hs,by rw [hk,a,hd]⟩,rfl⟩)
   ·rw [hk,a,hd]
    show (((q:Int)+1,(((d:Int)+10)*1440+700) / 1440):Int×Int)=_
    congr 1
    omega
   ·show atO ((d:Int)+10)=atO ((d:Int)+10)-RB C ((q:Int)+1)+RB C ((q:Int)+1)
    omega
  ·exact ⟨_,f,rfl,by show atO ((i:Int)+10)=atO ((i:Int)+10)-RB C ((q:Int)+1)+RB C ((q:Int)+1);omega⟩
 ·rcases Y5 h hC hL hT hs with hs | ⟨q,i,a,hi,rfl⟩
  ·obtain ⟨i,e,l,hi,e0,c,g,k,rfl⟩:=WL h hC hL hT hs
   have ht:=h.time i hi
   show 0<=T i+e-RB C (Pl i)+RB C (Pl i)
   omega
  ·show 0<=atO ((i:Int)+10)-RB C ((q:Int)+1)+RB C ((q:Int)+1)
   unfold atO
   omega
 ·rcases Y5 h hC hL hT hs with hs | ⟨q,i,a,hi,rfl⟩
  ·obtain ⟨i,e,l,hi,e0,c,g,k,rfl⟩:=WL h hC hL hT hs
   refine ⟨i,hi,rfl,rfl, ?_, ?_⟩
   ·show T i<=T i+e-RB C (Pl i)+RB C (Pl i);omega
   ·show T i+e-RB C (Pl i)+RB C (Pl i)<=T i+5;omega
  ·exact absurd m (by show ¬(9:Int)=7;decide)
 ·refine ⟨Zc n T Pl C La i,b (Nh2.2 ⟨i,hi,.inl rfl⟩),rfl,rfl,rfl, ?_⟩
  show T i-RB C (Pl i)+RB C (Pl i)=T i
  omega
 ·unfold kdT at h2
  by_cases e1:i+1=n
  ·rw [Nh e1] at h2
   by_cases e2:j+1=n
   ·omega
   ·rw [Ng e2] at h2;omega
  ·rw [Ng e1] at h2
   by_cases e2:j+1=n
   ·rw [Nh e2] at h2;omega
   ·rcases Nat.lt_trichotomy i j with q | q | q
    ·exact absurd h1 (h.apart i j q (by omega))
    ·exact q
    ·exact absurd h1.symm (h.apart j i q (by omega))
theorem Nqo:((Y6 n T Pl C La Tw).filter fun s=>s.item == 7).length=n+V7 Tw n:=by
 unfold Y6
 rw [List.filter_reverse,List.length_reverse,List.filter_append,Ni]
 have e1:(U2 n T Pl C La Tw n).filter (fun s=>s.item == 7)=U2 n T Pl C La Tw n:=List.filter_eq_self.2 fun x hx=>by
  obtain ⟨i,e,l,_,_,_,_,_,rfl⟩:=WL h hC hL hT hx
  rfl
 have e2:(exS C (U2 n T Pl C La Tw n) 5).filter (fun s=>s.item == 7)=[]:=List.filter_eq_nil_iff.2 fun x hx=>by
  obtain ⟨q,i,_,_,_,rfl⟩:=MQ.1 hx
  show ¬((9:Int) == 7)=true
  decide
 rw [e1,e2,(Xk n).1]
 rfl
end
def Nq4 (p t:Int):Ev:=⟨7,p,1,2,t,t,t⟩
theorem Nhj {p t:Int} (h1:1<=p) (h2:p<=999999) (a:0<=t) (b:t<=NT):RG (Nq4 p t):=
 ⟨by show (1:Int)<=7/\(7:Int)<=999999;decide,⟨h1,h2⟩,by show (1:Int)<=1/\(1:Int)<=999999;decide,by show (1:Int)<=2/\(2:Int)<=4;decide,⟨a,b⟩,⟨a,b⟩⟩
theorem Ni2 {α β:Type} [Inhabited α] [Inhabited β] {f:α->β} {l:List α} {i:Nat} (h:i<l.length):gt (l.map f) i=f (gt l i):=by
 rw [PU (by simpa using h),PU h];simp
instance:Inhabited (Leg×Int):=⟨(default,0)⟩
def QL (w:List (Leg×Int)) (i:Nat):Int:=(gt w i).2+(gt w i).1.mins
theorem VI {L:List Leg}:∀{w:List (Leg×Int)} {p t q u:Int},Ro L p t w q u->
  (∀i,i<w.length->(gt w i).1∈L/\Dep (gt w i).1 (gt w i).2/\(i=0->(gt w i).1.frm=p/\t<=(gt w i).2-(gt w i).1.cut)/\(i+1<w.length->(gt w (i+1)).1.frm=(gt w i).1.dst/\QL w i<=(gt w (i+1)).2-(gt w (i+1)).1.cut)/\(i+1=w.length->(gt w i).1.dst=q/\QL w i=u))
 | [],_,_,_,_,_=>fun i hi=>by cases hi
 | [(l,a)],p,t,q,u,h=>fun i hi=>by
   obtain rfl:i=0:=by simp at hi;omega
   obtain ⟨h1,h2,c,d,h5,e⟩:=h
   exact ⟨h1,c,fun _=>⟨h2,d⟩,fun h=>by simp at h,fun _=>⟨h5,e⟩⟩
 | (l,a)::(m,b)::w,p,t,q,u,h=>fun i hi=>by
   obtain ⟨h1,h2,c,d,h5⟩:=h
   have hr:=VI h5
   cases i with
   | zero=>
     have h0:=hr 0 (by simp)
     exact ⟨h1,c,fun _=>⟨h2,d⟩,fun _=>h0.2.2.1 rfl,fun h=>by simp at h⟩
   | succ i=>
     have h0:=hr i (by simpa using hi)
     exact ⟨h0.1,h0.2.1,fun h=>by omega,fun h=>h0.2.2.2.1 (by simpa using h),fun h=>h0.2.2.2.2 (by simpa using h)⟩
def U4 (w:List (Leg×Int)) (i:Nat):Int:=(gt w (i+1)).2-(gt w (i+1)).1.cut
def SX (ds:List Int) (w:List (Leg×Int)) (i:Nat):Int:=
 if i+1<w.length/\0<ds.length/\QL w i<U4 w i then min (QL w i+gt ds (i % ds.length)) (U4 w i) else QL w i
def evC (ds:List Int) (w:List (Leg×Int)) (i:Nat):Ev:=Nq4 (gt w i).1.dst (SX ds w i)
def QD (p ready:Int) (ds:List Int) (w:List (Leg×Int)) (n:Nat):List Ev:=Nq4 p ready::(List.range n).map (evC ds w)
theorem TU {p ready:Int} {ds:List Int} {w:List (Leg×Int)} {n:Nat}:(QD p ready ds w n).length=n+1:=by simp [QD]
theorem Nca {p ready:Int} {ds:List Int} {w:List (Leg×Int)} {n:Nat}:QD p ready ds w (n+1)=QD p ready ds w n++[evC ds w n]:=by
 simp [QD,Po]
theorem VO {p ready:Int} {ds:List Int} {w:List (Leg×Int)} {n i:Nat} (h:i<n):gt (QD p ready ds w n) (i+1)=evC ds w i:=by
 rw [QD,Ti,PU (by simpa using h)];simp
theorem Nr7 {ds:List Int} {w:List (Leg×Int)} {i:Nat} (hd:∀x∈ds,0<=x) (hl:i+1<w.length->QL w i<=U4 w i):QL w i<=SX ds w i/\(i+1<w.length->SX ds w i<=U4 w i):=by
 unfold SX
 split
 ·rename_i h
  have:=hd _ (QJ (l:=ds) (i:=i % ds.length) (Pr _ h.2.1))
  omega
 ·exact ⟨Oj _,hl⟩
def N8k (e:Ev):Prop:=RG e/\0<=e.time/\e.time<=NT/\e.item=7
section
variable {P:List Int} {L:List Leg} {p q ready v:Int} {w:List (Leg×Int)} {ds:List Int}
theorem U6 (a:∀l∈L,Fine l) (hw:Ro L p ready w q v) (hr:0<=ready) (hd:∀x∈ds,0<=x):∀i,i<w.length->ready<=QL w i/\QL w i<=SX ds w i/\(i+1<w.length->SX ds w i<=U4 w i/\U4 w i<=QL w (i+1))/\SX ds w i<=v
 | i,hi=>by
   have ha:=VI hw
   have step:∀k,k<w.length->ready<=QL w k:=fun k=>by
    induction k with
    | zero=>
      intro hk
      have h:=ha 0 hk
      have f:=a _ h.1
      have:=(h.2.2.1 rfl).2
      unfold QL;unfold Fine at f;omega
    | succ k ih=>
      intro hk
      have h0:=ih (by omega)
      have h:=ha k (by omega)
      have f:=a _ (ha (k+1) hk).1
      have:=(h.2.2.2.1 hk).2
      unfold QL at *;unfold Fine at f;omega
   have hl:∀k,k+1<w.length->QL w k<=U4 w k/\U4 w k<=QL w (k+1):=fun k hk=>by
    have h:=ha k (by omega)
    have f:=a _ (ha (k+1) hk).1
    have:=(h.2.2.2.1 hk).2
    unfold QL U4 at *;unfold Fine at f;omega
   have up:∀m k,k+m+1=w.length->QL w k<=v:=fun m=>by
    induction m with
    | zero=>intro k hk;exact Int.le_of_eq ((ha k (by omega)).2.2.2.2 (by omega)).2
    | succ m ih=>intro k hk;have:=hl k (by omega);have:=ih (k+1) (by omega);omega
   have b:=Nr7 (ds:=ds) (w:=w) (i:=i) hd fun h=>(hl i h).1
   refine ⟨step i hi,b.1,fun h=>⟨b.2 h,(hl i h).2⟩, ?_⟩
   by_cases h:i+1<w.length
   ·have h1:=b.2 h
    have h2:=(hl i h).2
    have d:=up (w.length-(i+2)) (i+1) (by omega)
    omega
   ·have h1:=up 0 i (by omega)
    unfold SX
    rw [Ng (fun c=>h c.1)]
    exact h1
variable (hv:QP P L=0) (hp:p∈P) (hw:Ro L p ready w q v) (hr:0<=ready) (hv2:v<=ready+86400) (hmax:v<=NT) (hd:∀x∈ds,0<=x)
include hv hp hw hr hv2 hmax hd
omit hp in
theorem Nqa {i:Nat} (hi:i<w.length):QI P L (gt (QD p ready ds w w.length) i) (gt (QD p ready ds w w.length) (i+1))=0:=by
 have hn:=RH hv
 have ha:=VI hw
 have hi':=ha i hi
 have ht:=U6 hn.fine hw hr hd i hi
 rw [VO hi]
 obtain ⟨x,t,he,hx,ht0,htl⟩:∃x t,gt (QD p ready ds w w.length) i=Nq4 x t/\(gt w i).1.frm=x/\ready<=t/\t<=(gt w i).2-(gt w i).1.cut:=by
  cases i with
  | zero=>exact ⟨p,ready,rfl,(hi'.2.2.1 rfl).1,Oj _,(hi'.2.2.1 rfl).2⟩
  | succ k=>
    have hk:=ha k (by omega)
    have htk:=U6 hn.fine hw hr hd k (by omega)
    rw [VO (by omega)]
    exact ⟨_,_,rfl,(hk.2.2.2.1 hi).1,by omega,(htk.2.2.1 hi).1⟩
 rw [he]
 have hdP:(gt w i).1.dst∈P:=hn.dst _ hi'.1
 have hxP:x∈P:=hx▸hn.frm _ hi'.1
 have f:=hn.fine _ hi'.1
 have hta:t<=QL w i:=by unfold QL;unfold Fine at f;omega
 have herr:Uk P L x x t=0:=by
  unfold Uk
  rw [Ng (by rw [hv];simp),Nh ⟨hxP,hxP,by omega,by omega⟩]
 have hA:=Nad (t:=t) hn hxP hdP (by omega)
 have hway:Go.Net.Way L 1 x t (gt w i).1.dst (QL w i):=.cons hi'.1 hx hi'.2.1 htl (.nil _ _)
 have hle:Nco P L x t (gt w i).1.dst<=QL w i:=hA.le ⟨⟨1,hway⟩,by omega⟩
 unfold QI evC
 rw [Ng (by show ¬(2:Int)=4;decide)]
 show (if x=(gt w i).1.dst then (0:Int) else if (gt w i).1.dst∉P then 80 else if Uk P L x x t≠0 then 80 else if Nco P L x t (gt w i).1.dst<0 then 80 else min (max (Nco P L x t (gt w i).1.dst-SX ds w i) 0) 60)=0
 split
 ·rfl
 ·have h0:=hA.nonneg hn.fine (by omega) hway (by omega)
  first | rw [Ng (by simpa using hdP),Ng (by simpa using herr),Ng (by omega)] | rw [Ng (by simpa using herr),Ng (by omega)]
  omega
theorem Nu4:∀e∈QD p ready ds w w.length,N8k e:=fun e he=>by
 have hn:=RH hv
 have mt:NT=1051898399:=rfl
 have c:=(TA hv).2.2.1
 have b:∀a∈P,1<=a/\a<=999999:=fun a ha=>by
  obtain ⟨i,hi,rfl⟩:=List.mem_iff_getElem.1 ha
  have:=c i hi
  unfold pOk at this
  rw [PU hi] at this
  exact ⟨this.1,this.2.1⟩
 rcases Nn.1 he with rfl | he
 ·have:=hw.later hn.fine
  exact ⟨Nhj (b _ hp).1 (b _ hp).2 hr (by omega),hr,by show ready<=_;omega,rfl⟩
 ·obtain ⟨i,hi,rfl⟩:=List.mem_map.1 he
  have hi:=List.mem_range.1 hi
  have ht:=U6 hn.fine hw hr hd i hi
  have hdP:=b _ (hn.dst _ (VI hw i hi).1)
  exact ⟨Nhj hdP.1 hdP.2 (by omega) (by omega),by show 0<=SX ds w i;omega,by show SX ds w i<=_;omega,rfl⟩
end
theorem Ntn {m:List Int}:∀{l:List Int},l.Nodup->(∀x∈l,x∈m)->l.length<=m.length:=by
 intro l
 induction l generalizing m with
 | nil=>intro _ _;exact Nv _
 | cons a l ih=>
   intro hn hs
   rw [List.nodup_cons] at hn
   have h1:=hs a (by simp)
   have h2:=ih (m:=m.erase a) hn.2 fun x hx=>(List.mem_erase_of_ne (fun e=>hn.1 (by rw [<-e];exact hx))).2 (hs x (by simp [hx]))
   rw [List.length_erase_of_mem h1] at h2
   have:=List.length_pos_of_mem h1
   simp only [Nk]
   omega
theorem Nmv {P:List Int} {L:List Leg} {p t q v:Int} {w:List (Leg×Int)} (hn:NetOk 50 P L (OJ P)) (hp:p∈P) (h:BestW L p t q v w):w.length<P.length:=by
 have:=Ntn (m:=P) (h.way.nodup hn.fine h.few) fun x hx=>by
  rcases Nn.1 hx with rfl | hx
  ·exact hp
  ·obtain ⟨y,a,rfl⟩:=List.mem_map.1 hx
   exact hn.dst _ (h.way.mem y a)
 simp at this
 omega
section
variable {P:List Int} {L:List Leg} {a q v:Int} {w:List (Leg×Int)} {ds:List Int}
def tmT (a:Int) (ds:List Int) (w:List (Leg×Int)):List Int:=(QD a 14400 ds w w.length).map (·.time)
def plT (a:Int) (ds:List Int) (w:List (Leg×Int)):List Int:=(QD a 14400 ds w w.length).map (·.place)
def Sc (a:Int) (ds:List Int) (w:List (Leg×Int)):List Int:=tmT a ds w++[gt (tmT a ds w) w.length+60]
def TQ (a:Int) (ds:List Int) (w:List (Leg×Int)):List Int:=plT a ds w++[gt (plT a ds w) w.length]
theorem Ncr:(tmT a ds w).length=w.length+1:=by unfold tmT;rw [Nw,TU]
theorem Nia:(plT a ds w).length=w.length+1:=by unfold plT;rw [Nw,TU]
theorem Nnn {i:Nat} (hi:i<w.length+1):gt (tmT a ds w) i=(gt (QD a 14400 ds w w.length) i).time:=Ni2 (by rw [TU];exact hi)
theorem Nib {i:Nat} (hi:i<w.length+1):gt (plT a ds w) i=(gt (QD a 14400 ds w w.length) i).place:=Ni2 (by rw [TU];exact hi)
theorem Wi {α:Type} [Inhabited α] {l:List α} {x:α} {i:Nat}:gt (l++[x]) i=if i<l.length then gt l i else if i=l.length then x else default:=by
 unfold gt
 rw [Na,Na]
 split
 ·rename_i h;rw [N4 h]
 ·rename_i h
  rw [Oc (by omega)]
  split
  ·rename_i e;subst e;simp
  ·rw [Nu (by simp;omega)];rfl
variable (hv:QP P L=0) (hp:a∈P) (hw:BestW L a 14400 q v w) (hv2:v<=14400+86400) (hd:∀x∈ds,0<=x)
include hv hp hw hv2 hd
theorem Njx {i:Nat} (hi:i<w.length):(gt (QD a 14400 ds w w.length) i).time<(gt (QD a 14400 ds w w.length) (i+1)).time:=by
 have hn:=RH hv
 have b:=VI hw.way
 have f:=hn.fine _ (b i hi).1
 have ht:=U6 hn.fine hw.way (by decide) hd i hi
 rw [VO hi]
 have e:(evC ds w i).time=SX ds w i:=rfl
 rw [e]
 cases i with
 | zero=>
   have h0:=(b 0 hi).2.2.1 rfl
   have e0:(gt (QD a 14400 ds w w.length) 0).time=14400:=rfl
   rw [e0]
   have:=ht.2.1
   unfold QL at this
   unfold Fine at f
   omega
 | succ k=>
   rw [VO (by omega)]
   have e2:(evC ds w k).time=SX ds w k:=rfl
   rw [e2]
   have htk:=U6 hn.fine hw.way (by decide) hd k (by omega)
   have h1:=(htk.2.2.1 hi).1
   have:=ht.2.1
   unfold U4 at h1
   unfold QL at this
   unfold Fine at f
   omega
theorem Nr2:∀i j,i<j->j<w.length+1->(gt (QD a 14400 ds w w.length) i).time<(gt (QD a 14400 ds w w.length) j).time:=fun i j b c=>by
 induction j with
 | zero=>omega
 | succ j ih=>
   have:=Njx hv hp hw hv2 hd (i:=j) (by omega)
   by_cases e:i=j
   ·subst e;exact this
   ·have:=ih (by omega) (by omega);omega
theorem Njy:∀i j,i<j->j<w.length+1->(gt (QD a 14400 ds w w.length) i).place≠(gt (QD a 14400 ds w w.length) j).place:=fun i j b c=>by
 have hn:=RH hv
 have h:=hw.way.nodup hn.fine hw.few
 have e:(QD a 14400 ds w w.length).map (·.place)=a::w.map (fun x=>x.1.dst):=by
  unfold QD
  rw [N9,List.map_map]
  congr 1
  refine Pe (by simp) fun k h1 h2=>?_
  simp only [Nw,Ps] at h1
  rw [Pz,Pz,List.getElem_range]
  show (gt w k).1.dst=_
  rw [PU h1]
 rw [<-e] at h
 have hl:(QD a 14400 ds w w.length).length=w.length+1:=TU
 have h2:=O9.1 h i j (by simp;omega) (by simp;omega) b
 rw [Pz,Pz] at h2
 rw [PU (by omega),PU (by omega)]
 exact h2
theorem Nqw (l:P=P5):TripOk (w.length+2) (gt (Sc a ds w)) (gt (TQ a ds w)):=by
 have hn:=RH hv
 have m:=Nmv hn hp hw
 have p:P.length=5:=by rw [l];rfl
 have mt:NT=1051898399:=rfl
 have n:=Nu4 (ds:=ds) hv hp hw.way (by decide) hv2 (by omega) hd
 have f:∀x∈P,1<=x/\x<=5:=by rw [l];decide
 have b:∀i,i<w.length+1->(gt (QD a 14400 ds w w.length) i).place∈P:=fun i hi=>by
  cases i with
  | zero=>exact hp
  | succ k=>rw [VO (by omega)];exact hn.dst _ (VI hw.way k (by omega)).1
 have c:∀i,i<w.length+1->14400<=(gt (QD a 14400 ds w w.length) i).time/\(gt (QD a 14400 ds w w.length) i).time<=100800:=fun i hi=>by
  cases i with
  | zero=>exact ⟨Oj _,by show (14400:Int)<=100800;decide⟩
  | succ k=>
    rw [VO (by omega)]
    have ht:=U6 hn.fine hw.way (by decide) hd k (by omega)
    exact ⟨by show 14400<=SX ds w k;omega,by show SX ds w k<=100800;omega⟩
 have s:(tmT a ds w).length=w.length+1:=Ncr
 have pl:(plT a ds w).length=w.length+1:=Nia
 have h:∀i,i<w.length+1->gt (Sc a ds w) i=(gt (QD a 14400 ds w w.length) i).time:=fun i hi=>by
  unfold Sc;rw [Wi,Nh (by omega),Nnn hi]
 have g:∀i,i<w.length+1->gt (TQ a ds w) i=(gt (QD a 14400 ds w w.length) i).place:=fun i hi=>by
  unfold TQ;rw [Wi,Nh (by omega),Nib hi]
 have o:gt (Sc a ds w) (w.length+1)=(gt (QD a 14400 ds w w.length) w.length).time+60:=by
  unfold Sc;rw [Wi,Ng (by omega),Nh (by omega),Nnn (by omega)]
 have r:gt (TQ a ds w) (w.length+1)=(gt (QD a 14400 ds w w.length) w.length).place:=by
  unfold TQ;rw [Wi,Ng (by omega),Nh (by omega),Nib (by omega)]
 have rise:=Nr2 hv hp hw hv2 hd
 refine ⟨by omega,by omega,fun i hi=>?_,fun i hi=>?_,fun i j d q=>?_,fun i j d q=>?_⟩
 ·by_cases e:i<w.length+1
  ·rw [h i e];have:=c i e;omega
  ·have:i=w.length+1:=by omega
   subst this
   rw [o];have:=c w.length (by omega);omega
 ·by_cases e:i<w.length+1
  ·rw [g i e];exact f _ (b i e)
  ·have:i=w.length+1:=by omega
   subst this
   rw [r];exact f _ (b _ (by omega))
 ·rw [h i (by omega)]
  by_cases e:j<w.length+1
  ·rw [h j e];exact rise i j d e
  ·have:j=w.length+1:=by omega
   subst this
   rw [o]
   by_cases e2:i=w.length
   ·subst e2;omega
   ·have:=rise i w.length (by omega) (by omega);omega
 ·rw [g i (by omega),g j (by omega)]
  exact Njy hv hp hw hv2 hd i j d (by omega)
end
structure Seen (P:List Int) (L:List Leg) (S:List Ev) (now:Int) (n d:Nat) (T Pl:Nat->Int):Prop where
 look:XM P L S 7 now=0
 len:(Sv (NY S).1 7).length=n
 at_:∀i,i<n->(gt (Sv (NY S).1 7) i).time=T i/\(gt (Sv (NY S).1 7) i).place=Pl i
 best:(QV P L (Sv (NY S).1 7)).length=n
 cost:Tf P L (Sv (NY S).1 7) (QV P L (Sv (NY S).1 7))=0
 kinds:∀a∈We P L (Sv (NY S).1 7) (Sv (NY S).2 7) (QV P L (Sv (NY S).1 7)) (Rn P L (Sv (NY S).1 7) (QV P L (Sv (NY S).1 7))) now,a.kind=5\/a.kind=6
 dbl:((We P L (Sv (NY S).1 7) (Sv (NY S).2 7) (QV P L (Sv (NY S).1 7)) (Rn P L (Sv (NY S).1 7) (QV P L (Sv (NY S).1 7))) now).filter fun a=>a.kind == 6).length=d
theorem Nr1 {P:List Int} {L:List Leg} {a q v:Int} {w:List (Leg×Int)} {ds C La Tw:List Int} (hv:QP P L=0) (hp:a∈P) (hw:BestW L a 14400 q v w) (hv2:v<=14400+86400) (hd:∀x∈ds,0<=x) (z:P=P5)
  (hC:∀x∈C,-128<=x/\x<=127) (hL:∀x∈La,0<=x/\x<=255) (hT:∀x∈Tw,0<=x/\x<=255) :
  Seen P L (Y6 (w.length+2) (gt (Sc a ds w)) (gt (TQ a ds w)) C La Tw) (gt (Sc a ds w) (w.length+1)) (w.length+2) (V7 Tw (w.length+2)) (gt (Sc a ds w)) (gt (TQ a ds w)):=by
 have g:=Nqw hv hp hw hv2 hd z
 have o:=Nqm g hC hL hT
 have n:=Nqn g hC hL hT
 have A:=Nqo g hC hL hT
 have B:=Nsw (Y6 (w.length+2) (gt (Sc a ds w)) (gt (TQ a ds w)) C La Tw)
 have b:=o.len
 have f:=fun i (hi:i<w.length+2)=>o.gt_ hi
 have l:=fun d (hd:d∈Sv (NY (Y6 (w.length+2) (gt (Sc a ds w)) (gt (TQ a ds w)) C La Tw)).2 7)=>Nw2 n (by decide) hd
 have t:=g.time (w.length+1) (by omega)
 have j:XM P L (Y6 (w.length+2) (gt (Sc a ds w)) (gt (TQ a ds w)) C La Tw) 7 (gt (Sc a ds w) (w.length+1))=0:=by
  rw [Ng2 hv n (by decide) (by decide) (by omega) (by unfold NT;omega),Ng (fun h=>by rw [h] at b;simp at b),Ng (by have:=g.few;omega)]
 have mt:NT=1051898399:=rfl
 have F:(tmT a ds w).length=w.length+1:=Ncr
 have pl:(plT a ds w).length=w.length+1:=Nia
 have u:∀i,i<w.length+1->gt (Sc a ds w) i=(gt (QD a 14400 ds w w.length) i).time:=fun i hi=>by
  unfold Sc;rw [Wi,Nh (by omega),Nnn hi]
 have p:∀i,i<w.length+1->gt (TQ a ds w) i=(gt (QD a 14400 ds w w.length) i).place:=fun i hi=>by
  unfold TQ;rw [Wi,Nh (by omega),Nib hi]
 have E:gt (TQ a ds w) (w.length+1)=(gt (QD a 14400 ds w w.length) w.length).place:=by
  unfold TQ;rw [Wi,Ng (by omega),Nh (by omega),Nib (by omega)]
 have D:∀i,i<w.length+1->(gt (QD a 14400 ds w w.length) i).kind=2:=fun i hi=>by
  cases i with
  | zero=>rfl
  | succ k=>rw [VO (by omega)];rfl
 generalize Y6 (w.length+2) (gt (Sc a ds w)) (gt (TQ a ds w)) C La Tw=S at *
 have hk:∀i,i<w.length+1->(gt (Sv (NY S).1 7) i).kind=2:=fun i hi=>by
  rw [(f i (by omega)).2.2];unfold kdT;rw [Ng (by omega)]
 have c:∀i,i<w.length+1->QI P L (gt (Sv (NY S).1 7) i) (gt (Sv (NY S).1 7) (i+1))=0:=fun i hi=>by
  obtain ⟨y,r,_⟩:=f i (by omega)
  obtain ⟨b1,b2,_⟩:=f (i+1) (by omega)
  by_cases e:i<w.length
  ·rw [Nn6 (a':=gt (QD a 14400 ds w w.length) i) (b':=gt (QD a 14400 ds w w.length) (i+1)) (by rw [r,p i hi]) (by rw [y,u i hi]) (by rw [hk i hi,D i hi]) (by rw [b2,p (i+1) (by omega)]) (by rw [b1,u (i+1) (by omega)])]
   exact Nqa hv hw.way (by decide) hv2 (by omega) hd e
  ·have:i=w.length:=by omega
   subst this
   exact Nn5 (by rw [hk _ hi];decide) (by rw [r,b2,p _ hi,E])
 have m:=Nqf (P:=P) (L:=L) (es:=Sv (NY S).1 7) fun i hi=>c i (by omega)
 rw [b] at m
 have s:=Nzf (P:=P) (L:=L) (es:=Sv (NY S).1 7) (tw:=Sv (NY S).2 7) (now:=gt (Sc a ds w) (w.length+1)) (k:=w.length+1) b c (fun i hi=>by rw [hk i hi];decide) (by rw [(f _ (by omega)).2.2];unfold kdT;rw [Nh rfl]) fun d hd=>by
  obtain ⟨k,k1,k2,_⟩:=l d hd
  exact ⟨k,k1,k2⟩
 refine ⟨j,b,fun i hi=>⟨(f i hi).1,(f i hi).2.1⟩,by rw [m.1,TB],m.2, ?_, ?_⟩
 ·rw [m.1];exact s.1
 ·rw [m.1,s.2];omega
def encU (x:Int):List Value:=[.int .u8 x]
theorem Nzv (x:Int):(encU x).length=1:=rfl
def encY (x:Int):List Value:=[.int .i8 x]
theorem Nzu (x:Int):(encY x).length=1:=rfl
theorem Nbi [OB] {lim c:Nat} {p:Option Addr} {l:List Int} {i:Nat} {H:NA} {Q:Value->NA->Prop} (hs:Sl H encU 1 p l) (hl:l.length<2 ^ 63) (hi:i<2 ^ 63) (d:∀x∈l,0<=x/\x<=255) :
  NP E false lim 16 [.slice p l.length c,Vi i] H Q=Q (Vi (Vo l i)) H:=by
 refine NP.eq (Rm (by decide) e16 rfl ?_)
 rw [b16,c16]
 by_cases h0:l.length=0
 ·have e:Vo l i=0:=Nh h0
  have a:(l.length:Int)=0:=by omega
  simp only [n16,r16,h0,a,e,and_self,Nc,SB,seval,NF,NJ,NK,QY,reduceCtorEq,NE,place,NB,ND]
 have a:¬(l.length:Int)=0:=by omega
 have hm:i % l.length<l.length:=Pr _ (by omega)
 have e:Vo l i=gt l (i % l.length):=Ng h0
 have hx:=d _ (QJ hm)
 have b:=hs.loadCell0 Nzv hm (by decide)
 simp only [encU,Od] at b
 have f:=fun c (k:IntKind) (H1:NA)=>hs.idx (c:=c) (k:=k) (H1:=H1) hm
 have g:((i:Int).tmod (l.length:Int))=((i % l.length:Nat):Int):=rfl
 have j:IntKind.i64.wrap ((i % l.length:Nat):Int)=((i % l.length:Nat):Int):=NN (by omega) (by omega)
 have h:IntKind.i64.wrap (gt l (i % l.length))=gt l (i % l.length):=NN (by omega) (by omega)
 simp only [n16,r16,Np a,b,f,g,j,h,e,and_self,Nc,SB,seval,NF,NJ,NK,QY,reduceCtorEq,NE,place,NB,ND]
theorem Nmn [OB] {mp:Bool} {lim B j l c3 m:Nat} {f p q r:Option Addr} {t u:Int} {n2 n3 n4:Nat} {C:List Int} {s:Int} {H:NA} {Q:Value->NA->Prop} (hB:NC H B=Vc [.int .u8 t,.int .u8 u,.slice f C.length j,.slice p n2 l,.slice q n3 c3,.slice r n4 m]) (hs:Sl H encY 1 f C) (hl:C.length<2 ^ 63) (h1:1<=s) (h2:s<=1000) (n:∀x∈C,-128<=x/\x<=127) :
  NP E mp lim 14 [Vi s,Vp B] H Q=Q (Vi (RB C s)) H:=by
 refine pc (by decide) e14 rfl rfl ?_
 rw [b14,c14]
 have g:=fun X=>(OM.refl.app (X:=X)).cells hB
 have b:IntKind.i64.wrap (s-1)=s-1:=NN (by omega) (by omega)
 by_cases h:s-1<C.length
 case neg=>
  have e:RB C s=0:=Ng h
  simp only [n14,r14,g,b,h,e,SB,seval,NF,NJ,NK,QY,reduceCtorEq,NE,place,NB,ND]
 obtain ⟨i,hi⟩:∃i:Nat,s-1=(i:Int):=⟨(s-1).toNat,by omega⟩
 have a:i<C.length:=by omega
 have e:RB C s=gt C i:=by unfold RB;rw [Nh h,hi,N7]
 have hx:=n _ (QJ a)
 have d:=fun X=>(hs.app X).loadCell0 Nzu a (by decide)
 simp only [encY,Od] at d
 have o:=fun c (k:IntKind) (H1:NA)=>hs.idx (c:=c) (k:=k) (H1:=H1) a
 have v:IntKind.i64.wrap (gt C i)=gt C i:=NN (by omega) (by omega)
 rw [hi] at b h
 simp only [n14,r14,g,hi,b,h,d,o,v,e,SB,seval,NF,NJ,NK,QY,reduceCtorEq,NE,place,NB,ND]
def bump (k:Int×Int) (D:List ((Int×Int)×Int)):List ((Int×Int)×Int):=Vu k ((UZ k D).getD 0+1) D
structure Box (B3 B9 B10 B11 M:Nat) (c3:List Value) (S:List Ev) (sp:Option Addr) (sc:Nat) (D:List ((Int×Int)×Int)) (G:NA):Prop where
 k3:NC G B3=Vc c3
 k9:NC G B9=Vc [.func (.func 14) #[] #[Vp B3]]
 k10:NC G B10=Vc [.slice sp S.length sc]
 k11:NC G B11=Vc [.map (some M)]
 km:NC G M=.map (Rv kM vI D)
 own:Own (B11+1) G QE 6 sp sc S
 o1:B3<B9
 o2:B9<B10
 o3:B10<M
 o4:M<B11
theorem Box.app {B3 B9 B10 B11 M:Nat} {c3:List Value} {S:List Ev} {sp:Option Addr} {sc:Nat} {D:List ((Int×Int)×Int)} {G:NA} (h:Box B3 B9 B10 B11 M c3 S sp sc D G) (X:NA):Box B3 B9 B10 B11 M c3 S sp sc D (G++X):=by
 have a3:=NG h.k3
 have a:=NG h.k9
 have a10:=NG h.k10
 have a11:=NG h.k11
 have:=h.o4
 exact ⟨by rw [NI a3];exact h.k3,by rw [NI a];exact h.k9,by rw [NI a10];exact h.k10,by rw [NI a11];exact h.k11,by rw [NI (by omega)];exact h.km,h.own.app X,h.o1,h.o2,h.o3,h.o4⟩
theorem Nzh {κ ν:Type} [DecidableEq κ] {k:κ} {v:ν}:∀{l:List (κ×ν)} {i j:Nat},fk k l i=some (j,v)->l[j-i]? = some (k,v)
 | [],_,_,h=>by cases h
 | (k',v')::l,i,j,h=>by
   unfold fk at h
   split at h
   ·rename_i e;cases h;rw [Qr,<-e];rfl
   ·have h1:=(MK (v':=v) h).1
    have:=Nzh h
    have e:j-i=(j-(i+1))+1:=by omega
    rw [e,P1];exact this
theorem Njh [OB] {lim B3 B9 B10 B11 M c1 c2 c3 c4:Nat} {U p2 p3 p4:Option Addr} {u1 u2:Int} {n2 n3 n4:Nat} {C:List Int} {S:List Ev} {sp:Option Addr} {sc:Nat} {D:List ((Int×Int)×Int)} {s:Ev} {t u:Int} {G:NA} {Q:Value->NA->Prop}
  (h:Box B3 B9 B10 B11 M [.int .u8 u1,.int .u8 u2,.slice U C.length c1,.slice p2 n2 c2,.slice p3 n3 c3,.slice p4 n4 c4] S sp sc D G) (hs:Sl G encY 1 U C) (hl:C.length<2 ^ 63) (hb:∀x∈C,-128<=x/\x<=127) (h1:1<=s.scanner) (h2:s.scanner<=1000) (hS:S.length<1000) (ht:0<=t/\t<=1000000) (hu:0<=u/\u<=1000000) (hD:∀n,UZ (s.scanner,u / 1440) D=some n->0<=n/\n<=1000) (an:D.length<1000) (al:lim<=B3) (ao:∀a,U=some a->C≠[]->a.block<B3)
  (hQ:∀G' ah ag,Chg (opB sp++[B10,M]) G G'->Box B3 B9 B10 B11 M [.int .u8 u1,.int .u8 u2,.slice U C.length c1,.slice p2 n2 c2,.slice p3 n3 c3,.slice p4 n4 c4] (S++[{ s with at':=t-RB C s.scanner,seen:=u,time:=0 }]) ah ag (bump (s.scanner,u / 1440) D) G'->Q (.tuple #[]) G') :
  NP E false lim 15 [.agg (QE s).toArray,Vi t,Vi u,Vp B9,Vp B10,Vp B11] G Q:=by
 refine Rm (by decide) e15 rfl ?_
 rw [b15,c15]
 have x9:=fun X=>(OM.refl.app (X:=X)).cells h.k9
 have ai:=fun X=>(OM.refl.app (X:=X)).cells h.k10
 have aj:=fun X=>(OM.refl.app (X:=X)).cells h.k11
 have ck:=fun (X:NA) (mp:Bool) (lim:Nat) (Q:Value->NA->Prop)=>Nmn (mp:=mp) (lim:=lim) (s:=s.scanner) (Q:=Q) ((OM.refl.app (X:=X)).cells h.k3) (hs.app X) hl h1 h2 hb
 have hc:=Ncz hb h1
 have wt:IntKind.i64.wrap (t-RB C s.scanner)=t-RB C s.scanner:=NN (by omega) (by omega)
 have a3:=NG h.k3
 have o1:=h.o1
 have o2:=h.o2
 have o3:=h.o3
 have o4:=h.o4
 have a11:=NG h.k11
 have hle:lim<=G.length:=by omega
 have eN:QE s=[Vi s.item,Vi s.place,Vi s.scanner,.int .u8 s.kind,Vi s.at',Vi s.seen]:=rfl
 have e':QE { s with at':=t-RB C s.scanner,seen:=u,time:=0 }=[Vi s.item,Vi s.place,Vi s.scanner,.int .u8 s.kind,Vi (t-RB C s.scanner),Vi u]:=rfl
 obtain ⟨G2,e2,r,ak,b,I,J⟩:=h.own.step (lim':=lim) (bytes:=48) (by omega) PN (by decide) { s with at':=t-RB C s.scanner,seen:=u,time:=0 } (by unfold PM;omega) (by omega) (by omega) [Vc (QE { s with at':=t-RB C s.scanner,seen:=u,time:=0 }),Vc (QE { s with at':=t-RB C s.scanner,seen:=u,time:=0 })] (G.length+1) 1 (by rw [NR];rfl)
 have ne:∀j,j<=B11->∀a,sp=some a->j≠a.block:=fun j v a ha=>by have:=(h.own.block ha).1;omega
 have k10:NC G2 B10=Vc [.slice sp S.length sc]:=by have:=b B10 (by omega) (ne _ (by omega));rw [Nc] at this;rw [this];exact h.k10
 obtain ⟨o,e3,h3,q⟩:=OP (G:=G2) (NG k10) (Vc [.slice (Sa (G.length+2)) (S.length+1) (loose 6)])
 have kb:NC G2 G.length=Vc (QE { s with at':=t-RB C s.scanner,seen:=u,time:=0 }):=by have:=J 0 (by simp);rw [Nc] at this;exact this
 have H:NC o G.length=Vc (QE { s with at':=t-RB C s.scanner,seen:=u,time:=0 }):=q.cells kb (by omega)
 have k11:NC o B11=Vc [.map (some M)]:=by
  have:=b B11 (by omega) (ne _ (by omega));rw [Nc] at this
  exact q.cells (by rw [this];exact h.k11) (by omega)
 have km:NC o M=.map (Rv kM vI D):=by
  have:=b M (by omega) (ne _ (by omega));rw [Nc] at this
  rw [q.other M (by omega),this];exact h.km
 rw [e'] at e2 H
 simp only [Nk,No,N5,Nat.reduceAdd] at e2
 rw [eN]
 have L:=fun X=>(OM.refl.app (X:=X)).cells k10
 have xb:=fun X=>(OM.refl.app (X:=X)).cells H
 have l:=fun X=>(OM.refl.app (X:=X)).cells k11
 simp only [n15,r15,x9,ai,aj,ck,wt,NH,hle,e2,L,e3,xb,l,SB,seval,NF,NJ,NK,QY,reduceCtorEq,NE,place,NB,ND]
 have p:lim<=B10:=by omega
 have F:lim<=M:=by omega
 have xM:=fun X=>(show NC (o++X) M=.map (Rv kM vI D) by rw [NI (by rw [q.len];omega)];exact km)
 have hd:u.tdiv 1440=u / 1440:=P4 hu.1
 have wd:IntKind.i64.wrap (u / 1440)=u / 1440:=NN (by omega) (by omega)
 have c:=Va (vv:=vI) Nyz (s.scanner,u / 1440) D 0
 have w:=Nyy (k:=(s.scanner,u / 1440))
 simp only [kM] at c w
 have am:o.length=G.length+3:=by rw [q.len,I];simp
 have fin:∀(V:List ((Int×Int)×Int)) (m:NA),NC m M=.map (Rv kM vI V)->Mut o m M->V=bump (s.scanner,u / 1440) D->Q (.tuple #[]) (m++[]):=fun V m O i y=>by
  have K:Own (B11+1) m QE 6 (Sa (G.length+2)) (loose 6) (S++[{ s with at':=t-RB C s.scanner,seen:=u,time:=0 }]):=by
   rw [Nc] at r
   exact (r.mut q fun a ha e=>by cases ha;have:G.length+2=B10:=e;omega).mut i fun a ha e=>by cases ha;have:G.length+2=M:=e;omega
  have d:∀j,j<=B11->j≠B10->j≠M->NC m j=NC G j:=fun j v Z hM=>by
   rw [i.other j hM,q.other j Z]
   have:=b j (by omega) (ne j v)
   rwa [Nc] at this
  refine hQ _ _ (loose 6) ⟨by simp [i.len];omega,fun j v hA=>?_⟩ (Box.app (B3:=B3) (B9:=B9) (sp:=Sa (G.length+2)) (D:=bump (s.scanner,u / 1440) D) ⟨by rw [d _ (by omega) (by omega) (by omega)];exact h.k3,by rw [d _ (by omega) (by omega) (by omega)];exact h.k9,by rw [i.other _ (by omega),h3,Ni];rfl,by rw [d _ (by omega) (by omega) (by omega)];exact h.k11,by rw [<-y];exact O,by simpa using K,o1,o2,o3,o4⟩ [])
  have q1:j≠B10:=fun e=>hA (by simp [e])
  have q2:j≠M:=fun e=>hA (by simp [e])
  have q3:∀a,sp=some a->j≠a.block:=M3 fun e=>hA (N0.2 (.inl e))
  rw [Nc,i.other j q2,q.other j q1]
  have:=b j v q3
  rwa [Nc] at this
 cases hf:fk (s.scanner,u / 1440) D 0 with
 | none=>
   rw [hf] at c
   have y:=Ncx (v':=(0:Int)+1) hf
   have P:UZ (s.scanner,u / 1440) D=none:=by rw [<-ZK _ D 0,hf];rfl
   have g:∀n:Int,Rv kM vI (D++[((s.scanner,u / 1440),n)])=Rv kM vI D++[((Value.agg #[Vi s.scanner,Vi (u / 1440)],Value.int .i64 n):Value×Value)]:=fun n=>by simp [Rv,kM,vI]
   obtain ⟨m,e4,O,i⟩:=OP (G:=o) (R:=M) (by omega) (.map (Rv kM vI D++[((Value.agg #[Vi s.scanner,Vi (u / 1440)],Value.int .i64 0):Value×Value)]))
   obtain ⟨W,Y,h5,T⟩:=OP (G:=m) (R:=M) (by rw [i.len];omega) (.map (Rv kM vI D++[((Value.agg #[Vi s.scanner,Vi (u / 1440)],Value.int .i64 1):Value×Value)]))
   have N:=fun X=>(OM.refl.app (X:=X)).cells (i.cells k11 (by omega))
   have aa:=fun X=>(show NC (m++X) M=.map (Rv kM vI D++[((Value.agg #[Vi s.scanner,Vi (u / 1440)],Value.int .i64 0):Value×Value)]) by rw [NI (by rw [i.len];omega),O])
   have w1:IntKind.i64.wrap 1=1:=by decide
   have f:=fin (D++[((s.scanner,u / 1440),(1:Int))]) W (by rw [h5,g]) ⟨by rw [T.len,i.len],fun j v=>by rw [T.other j v,i.other j v]⟩ (by unfold bump;rw [P];exact y)
   generalize Rv kM vI D=es at *
   have ab:(es++[((Value.agg #[Vi s.scanner,Vi (u / 1440)],Value.int .i64 0):Value×Value)]).getD es.length (undef,undef)=(Value.agg #[Vi s.scanner,Vi (u / 1440)],Value.int .i64 0):=by simp
   have ae:(es++[((Value.agg #[Vi s.scanner,Vi (u / 1440)],Value.int .i64 0):Value×Value)]).set es.length (Value.agg #[Vi s.scanner,Vi (u / 1440)],Value.int .i64 1)=es++[((Value.agg #[Vi s.scanner,Vi (u / 1440)],Value.int .i64 1):Value×Value)]:=by simp
   have ac:es.length<(es++[((Value.agg #[Vi s.scanner,Vi (u / 1440)],Value.int .i64 0):Value×Value)]).length:=by simp
   have hz:(0:Int)<=(es.length:Int):=by omega
   have ad:es.length<es.length+1:=by omega
   simp only [n15,r15,p,F,l,xb,hd,wd,xM,c,w,e4,O,aa,ad,N,and_self,Oh,w1,ab,ae,ac,hz,Y,SB,seval,NF,NJ,NK,QY,reduceCtorEq,NE,place,NB,ND]
   exact f
 | some x=>
   obtain ⟨j,n⟩:=x
   rw [hf] at c
   simp only [Nr] at c
   have P:UZ (s.scanner,u / 1440) D=some n:=by rw [<-ZK _ D 0,hf];rfl
   have hn:=hD n P
   obtain ⟨_,z,y⟩:=MK (v':=n+1) hf
   rw [Nat.sub_zero] at z y
   obtain ⟨W,Y,h5,T⟩:=OP (G:=o) (R:=M) (by omega) (.map ((Rv kM vI D).set j ((Value.agg #[Vi s.scanner,Vi (u / 1440)],Value.int .i64 (n+1)):Value×Value)))
   have g:Rv kM vI (D.set j ((s.scanner,u / 1440),n+1))=(Rv kM vI D).set j ((Value.agg #[Vi s.scanner,Vi (u / 1440)],Value.int .i64 (n+1)):Value×Value):=by
    unfold Rv
    rw [List.map_set]
    rfl
   have f:=fin (D.set j ((s.scanner,u / 1440),n+1)) W (by rw [h5,g]) T (by unfold bump;rw [P];exact y)
   have B:(((Rv kM vI D).getD j (undef,undef)).1,Value.int .i64 (n+1))=((Value.agg #[Vi s.scanner,Vi (u / 1440)],Value.int .i64 (n+1)):Value×Value):=by
    have hk:=Nzh hf
    rw [Nat.sub_zero] at hk
    congr 1
    unfold Rv
    rw [Na,O0,hk]
    rfl
   have A:j<(Rv kM vI D).length:=by unfold Rv;rw [Nw];exact z
   have wn:IntKind.i64.wrap (n+1)=n+1:=NN (by omega) (by omega)
   have hz:(0:Int)<=(j:Int):=by omega
   simp only [vI] at c
   generalize Rv kM vI D=es at *
   simp only [n15,r15,p,F,l,xb,hd,wd,xM,km,c,w,and_self,Nr,wn,B,A,hz,Y,SB,seval,NF,NJ,NK,QY,reduceCtorEq,NE,place,NB,ND]
   exact f
end Go.Proofs.YtkppjkkkdpcgiaaGreat.Fn


namespace Go.Scan
section
variable {item:Int}
end
end Go.Scan


namespace Go.Proofs.YtkppjkkkdpcgiaaGreat.Fn
open Go.AM Go.AM.Sym Go.Net Go.Scan
structure F7 (p r2 sp:Option Addr) (n m s ca cm sc B:Nat) (item now:Int) (fr:Nat->Value):Prop where
 f0:fr 0=.slice p n ca
 f2:fr 2=.slice r2 m cm
 f4:fr 4=.int .u8 item
 f5:fr 5=.int .u16 now
 f13:fr 13=Vp B
 f14:fr 14=.slice sp s sc
theorem F7.next {p r2 sp:Option Addr} {n m s ca cm sc B:Nat} {item now:Int} {fr fr':Nat->Value} (h:F7 p r2 sp n m s ca cm sc B item now fr) (e:∀t,t<15->fr' t=fr t):F7 p r2 sp n m s ca cm sc B item now fr':=
 ⟨(e 0 (by decide)).trans h.f0,(e 2 (by decide)).trans h.f2,(e 4 (by decide)).trans h.f4,(e 5 (by decide)).trans h.f5,(e 13 (by decide)).trans h.f13,(e 14 (by decide)).trans h.f14⟩
def Vd {α:Type} (lim:Nat) (G:NA) (enc:α->List Value) (e:Nat) (p:Option Addr) (cap:Nat) (l:List α):Prop:=Own lim G enc e p cap l\/∃R,p=Sa R/\cap=l.length/\NC G R=Vc (l.flatMap enc)/\lim<=R/\l≠[]
section
variable {α:Type} {lim lim' e bytes cap b d k:Nat} {G G':NA} {enc:α->List Value} {p:Option Addr} {l:List α}
theorem Vd.same (h:Vd lim G enc e p cap l) (c:∀a,p=some a->NC G' a.block=NC G a.block):Vd lim G' enc e p cap l:=by
 rcases h with h | ⟨R,rfl,h1,h2,b,d⟩
 ·rcases h with h | ⟨R,rfl,h1,h2,b⟩
  ·exact .inl (.inl h)
  ·exact .inl (.inr ⟨R,rfl,h1,by rw [c _ rfl];exact h2,b⟩)
 ·exact .inr ⟨R,rfl,h1,by rw [c _ rfl];exact h2,b,d⟩
theorem Vd.block (h:Vd lim G enc e p cap l) {a:Addr} (ha:p=some a):lim<=a.block/\a.block<G.length:=by
 rcases h with h | ⟨R,h1,_,h2,b,_⟩
 ·exact h.block ha
 ·rw [h1] at ha;cases ha;exact ⟨b,NG h2⟩
theorem Vd.app (h:Vd lim G enc e p cap l) (X:NA):Vd lim (G++X) enc e p cap l:=h.same fun a ha=>NI (h.block ha).2
theorem Vd.sl (h:Vd lim G enc e p cap l) (he:∀x,(enc x).length=e):Sl G enc e p l:=by
 rcases h with h | ⟨R,rfl,_,h2,_,_⟩
 ·exact h.sl he
 ·exact Sl.row he h2
theorem Vd.capOk (h:Vd lim G enc e p cap l) (hn:l.length<2 ^ 62):Ve e cap l.length:=by
 rcases h with h | ⟨R,_,h1,_,_,_⟩
 ·exact h.capOk
 ·exact .inr ⟨by omega,by omega⟩
theorem Vd.step (h:Vd lim G enc e p cap l) (s:lim'<=lim) (he:∀x,(enc x).length=e) (o:e≠0) (n:(l.length+1)*bytes<=PM) (hn:l.length+1<2 ^ 61) :
  ∃G',G'.length=G.length/\(∀j,j∉opB p->NC G' j=NC G j)/\∀(X:NA) (b k:Nat) (x:α) (dest:Option Nat),NC (G++X) b=Vc (enc x)->OU lim' dest e bytes false (.slice p l.length cap) (.slice (Sa b) 1 k) (G++X)=some (.slice (Sa ((place dest (Vc ((l++[x]).flatMap enc)) (G'++X)).1)) (l.length+1) (loose e),(place dest (Vc ((l++[x]).flatMap enc)) (G'++X)).2):=by
 have h1:∀(X:NA) (b k:Nat) (x:α),NC (G++X) b=Vc (enc x)->firstCells (G++X) e false (.slice (Sa b) 1 k)=some ([x].flatMap enc):=fun X b k x hx=>Ue (m:=[x]) (Sl.row (ro:=false) he (by rw [hx];simp))
 have h2:∀b k,lenOf (.slice (Sa b) 1 k)=some 1:=fun _ _=>rfl
 rcases h with (⟨rfl,rfl,rfl⟩ | ⟨R,rfl,rfl,d,i⟩) | ⟨R,rfl,rfl,d,i,h5⟩
 ·refine ⟨G,rfl,fun _ _=>rfl,fun X b k x dest hx=>?_⟩
  simp only [No,N5] at n hn⊢
  simp only [OU,h1 X b k x hx,h2,Nat.one_ne_zero,if_false,N5]
  rw [Ng (by omega)]
  simp
 ·have c:=NG d
  have f:∀X,NC (G++X) R=Vc (l.flatMap enc):=fun X=>by rw [NI c];exact d
  have a:∀X,AM.loadCells (G++X) ⟨R,0,none⟩ (l.length*e)=some (l.flatMap enc):=fun X=>by
   simp only [QA,f,N5,PK he,Nd,if_true,Ox]
   rw [Og (by rw [PK he];exact Nd _)]
  refine ⟨G.set R .dead,by simp,fun j q=>PS (by simpa [opB] using q),fun X b k x dest hx=>?_⟩
  simp only [OU,h1 X b k x hx,h2,a,f,Nat.one_ne_zero,if_false,if_true]
  rw [Ng (by unfold loose;omega)]
  simp [show lim'<=R by omega,Qe _ _ c]
 ·have c:=NG d
  have a:∀X,AM.loadCells (G++X) ⟨R,0,none⟩ (l.length*e)=some (l.flatMap enc):=fun X=>by
   simp only [QA,NI c,d,N5,PK he,Nd,if_true,Ox]
   rw [Og (by rw [PK he];exact Nd _)]
  have g:¬l.length=loose e:=by unfold loose;omega
  have r:0<l.length:=List.length_pos_iff.2 h5
  refine ⟨G,rfl,fun _ _=>rfl,fun X b k x dest hx=>?_⟩
  simp only [OU,h1 X b k x hx,h2,a,g,Nat.one_ne_zero,if_false]
  rw [Ng (by omega),Nh (by omega),Ng (by omega)]
  simp
end
structure C8 (B7 bp bs cp cs cl:Nat) (pl:Option Addr) (dl:List Int) (mn:Int) (j:Nat) (M:Nat) (G:NA):Prop where
 k7:NC G B7=Vc [.slice (Sa bp) (j+1) cp,.slice pl j cl]
 hp:Vd M G encI 1 (Sa bp) cp (plC j)
 hL:Own M G PO 8 pl cl (N73 dl mn j)
 hs:Vd M G QE 6 (Sa bs) cs (scC dl mn j)
 n1:bp≠B7
 n2:bs≠B7
 n3:bp≠bs
 n4:∀a,pl=some a->a.block≠B7/\a.block≠bp/\a.block≠bs
 hM:M<=B7
theorem Nc8 {ds:List Int} {w:List (Leg×Int)} {i:Nat}:SX ds w i=if i+1<w.length/\QL w i<U4 w i then min (QL w i+Vo ds i) (U4 w i) else QL w i:=by
 unfold SX Vo
 by_cases h:i+1<w.length/\QL w i<U4 w i
 ·rw [Nh h]
  by_cases h0:ds.length=0
  ·rw [Ng (by omega),Nh h0];omega
  ·rw [Nh ⟨h.1,by omega,h.2⟩,Ng h0]
 ·rw [Ng h,Ng (fun q=>h ⟨q.1,q.2.2⟩)]
def YE (a:Int) (ds:List Int) (w:List (Leg×Int)) (i:Nat):List Int:=(QD a 14400 ds w i).map (·.time)
def plI (a:Int) (ds:List Int) (w:List (Leg×Int)) (i:Nat):List Int:=(QD a 14400 ds w i).map (·.place)
theorem Um {a:Int} {ds:List Int} {w:List (Leg×Int)} {i:Nat}:(YE a ds w i).length=i+1:=by unfold YE;rw [Nw,TU]
theorem Vw {a:Int} {ds:List Int} {w:List (Leg×Int)} {i:Nat}:(plI a ds w i).length=i+1:=by unfold plI;rw [Nw,TU]
theorem Nc7 {a:Int} {ds:List Int} {w:List (Leg×Int)} {i:Nat}:YE a ds w (i+1)=YE a ds w i++[SX ds w i]:=by unfold YE;rw [Nca,Oq];rfl
theorem Ndw {a:Int} {ds:List Int} {w:List (Leg×Int)} {i:Nat}:plI a ds w (i+1)=plI a ds w i++[(gt w i).1.dst]:=by unfold plI;rw [Nca,Oq];rfl
theorem Ny8 {L:List Leg} (h:L.Pairwise (fun a b=>a.id≠b.id)) {l:Leg} (hl:l∈L):L.find? (fun x=>x.id=l.id)=some l:=by
 cases hf:L.find? (fun x=>x.id=l.id) with
 | none=>have:=List.find?_eq_none.1 hf l hl;simp at this
 | some m=>
   have h1:=Rh hf
   have h2:=Q6 hf
   simp at h1
   rw [Nej h m h2 l hl h1]
structure TP (M:Nat) (G:NA) (a:Int) (ds:List Int) (w:List (Leg×Int)) (i bt bp ct cp:Nat):Prop where
 ht:Vd M G encI 1 (Sa bt) ct (YE a ds w i)
 hp:Vd M G encI 1 (Sa bp) cp (plI a ds w i)
 ne:bt≠bp
theorem Nr3 [OB] {lim RN cl cd:Nat} {pp pl pw pd:Option Addr} {cw bt0 bp0:Nat} {L:List Leg} {w:List (Leg×Int)} {ds:List Int} {a q v:Int} {G:NA} {fr:Nat->Value} {K:List AItem} {Z:Value->NA->Prop} {M:Nat} (hN:NetIn G pp pl P5 L) (kN:NC G RN=Vc (RX pp 5 5 pl L.length cl)) (aa:QP P5 L=0)
  (hw:Sl G enc3 3 pw (w.map TM)) (a9:w.length<10) (hd:Sl G encU 1 pd ds) (a1:ds.length<2 ^ 63) (ad:∀x∈ds,0<=x/\x<=255) (hway:Ro L a 14400 w q v) (hv:v<=100800) (V:lim<=M) (hM:M<=G.length) (hT:TP M G a ds w 0 bt0 bp0 1 1)
  (aw:RN<M) (a4:∀x,pw=some x->x.block<M) (a0:∀x,pd=some x->ds≠[]->x.block<M) (al:∀x,(pp=some x->x.block<M)/\(pl=some x->L≠[]->x.block<M))
  (f3:fr 3=.slice pd ds.length cd) (f4:fr 4=Vp RN) (f11:fr 11=.slice pw w.length cw) (f13:fr 13=.slice (Sa bt0) 1 1) (f14:fr 14=.slice (Sa bp0) 1 1) (ap:fr 37=.slice pw w.length cw) (aq:fr 38=Vi w.length) (ar:fr 39=Vi 0)
  (hR:∀fr' G' bt bp ct cp,(∀j,j<M->NC G' j=NC G j)->M<=G'.length->TP M G' a ds w w.length bt bp ct cp->fr' 13=.slice (Sa bt) (w.length+1) ct->fr' 14=.slice (Sa bp) (w.length+1) cp->QC E a11 lim K fr' G' Z) :
  QC E a11 lim (.code (.loop Nyq)::.inBlock 0::K) fr (G++[]) Z:=by
 refine NZ (fun s:Nat×Nat×Nat×Nat×Nat=>w.length-s.1) (fun s fr' G'=>s.1<=w.length/\(∀j,j<M->NC G' j=NC G j)/\M<=G'.length/\TP M G' a ds w s.1 s.2.1 s.2.2.1 s.2.2.2.1 s.2.2.2.2/\fr' 13=.slice (Sa s.2.1) (s.1+1) s.2.2.2.1/\fr' 14=.slice (Sa s.2.2.1) (s.1+1) s.2.2.2.2/\fr' 37=.slice pw w.length cw/\fr' 38=Vi w.length/\fr' 39=Vi s.1/\fr' 3=.slice pd ds.length cd/\fr' 4=Vp RN/\fr' 11=.slice pw w.length cw) (0,bt0,bp0,1,1)
  ⟨Nv _,fun j I=>by rw [Nc],by simpa using hM,by rw [Nc];exact hT,f13,f14,ap,aq,by rw [ar];rfl,f3,f4,f11⟩ ?_
 rintro ⟨i,bt,bp,ct,cp⟩ fr' G' ⟨hi,hC,a7,P,F,H,r,y,o,g3,g4,D⟩ ab
 simp only at hi P F H o
 rw [OD Nyq.eq_1]
 refine NL ?_
 by_cases A:i<w.length
 case neg=>
  obtain rfl:i=w.length:=by omega
  simp only [n11,r11,F,H,r,y,o,A,SB,seval,NF,NJ,NK,QY,reduceCtorEq,NE,place,NB,ND]
  exact hR _ _ bt bp ct cp (fun j I=>by rw [NI (by omega)];exact hC j I) (by simp;omega) ⟨P.ht.app _,P.hp.app _,P.ne⟩ F H
 have hn:=RH aa
 have aj:=M8 (TA aa).2.2.2
 have ax:=VI hway
 have ai:∀x∈ds,0<=x:=fun x hx=>(ad x hx).1
 have ao:=fun k (hk:k<w.length)=>U6 hn.fine hway (by decide) ai k hk
 have ak:(w.map TM).length=w.length:=by simp
 have U:∀{α:Type} {enc:α->List Value} {e:Nat} {p:Option Addr} {l:List α},Sl G enc e p l->(∀x,p=some x->l≠[]->x.block<M)->Sl G' enc e p l:=fun h hp=>Tu h fun x hx hn ro c hc=>by rw [hC _ (hp x hx hn)];exact hc
 have av:NetIn G' pp pl P5 L:=⟨U hN.sp fun x hx _=>(al x).1 hx,U hN.sl fun x hx hn=>(al x).2 hx hn,hN.np,hN.nl,hN.bys⟩
 have ae:=fun X=>(OM.refl.app (X:=X)).cells ((hC RN aw).trans kN)
 have sW:=U hw fun x hx _=>a4 x hx
 have sD:=U hd a0
 have O:=fun X=>(sW.app X).loadCells PD (i:=i) (by omega)
 rw [Ni2 A] at O
 have T:=fun c (k:IntKind) (H1:NA)=>sW.idx (c:=c) (k:=k) (H1:=H1) (i:=i) (by omega)
 rw [ak] at T
 have ah:∀k,k<w.length->∀X (mp:Bool) (lim:Nat) (Q:Value->NA->Prop),NP E mp lim 33 [.agg (RX pp 5 5 pl L.length cl).toArray,Vi (gt w k).1.id] (G'++X) Q=Q (.tuple #[.agg (PO (gt w k).1).toArray,.bool true]) (G'++X):=fun k hk X mp lim Q=>by
  have:=find_ok (mp:=mp) (lim:=lim) (cp:=5) (cl:=cl) (a:=(gt w k).1.id) (Q:=Q) (av.app X)
  rw [Ny8 aj (ax k hk).1] at this
  exact this
 have fi:=ah i A
 have am:∀k,enc3 (TM (gt w k))=[Vi (gt w k).1.id,Vi (gt w k).2,Vi (QL w k)]:=fun _=>rfl
 rw [am] at O
 have an:=ao i A
 have wi:IntKind.i64.wrap ((i:Int)+1)=((i+1:Nat):Int):=OV (by omega)
 have z:lim<=G'.length:=by omega
 have eL:PO (gt w i).1=[Vi (gt w i).1.id,Vi (gt w i).1.frm,Vi (gt w i).1.dst,Vi (gt w i).1.dep,Vi (gt w i).1.mins,Vi (gt w i).1.cut,Vi (gt w i).1.grams,.int .u8 (gt w i).1.days]:=rfl
 have az:=P.ht.block rfl
 have ay:=P.hp.block rfl
 simp only at az ay
 have ac:ct=loose 1\/ct=i+1:=by
  rcases P.ht with h | ⟨R,_,h1,_⟩
  ·rcases h with ⟨h1,_⟩ | ⟨R,_,h1,_⟩
   ·cases h1
   ·exact .inl h1
  ·exact .inr (by rw [h1,Um])
 obtain ⟨G1,b,q1,e1⟩:=P.ht.step (lim':=lim) (bytes:=8) V PQ (by decide) (by rw [Um];unfold PM;omega) (by rw [Um];omega)
 have a2:Vd M G1 encI 1 (Sa bp) cp (plI a ds w i):=P.hp.same fun x hx=>by cases hx;exact q1 _ (by simpa [opB] using P.ne.symm)
 obtain ⟨G2,S,q2,e2⟩:=a2.step (lim':=lim) (bytes:=8) V PQ (by decide) (by rw [Vw];unfold PM;omega) (by rw [Vw];omega)
 have f:G2.length=G'.length:=S.trans b
 have a5:∀j,j<M->NC G2 j=NC G j:=fun j I=>by
  rw [q2 j (by simp [opB];omega),q1 j (by simp [opB];omega)];exact hC j I
 have J:∀(Y:NA) (u:Unit) j,j<M->NC (G2++Y) j=NC G j:=fun Y _ j I=>by rw [NI (by omega)];exact a5 j I
 by_cases d:i+1<w.length
 case neg=>
  have m:¬((i+1:Nat):Int)<(w.length:Int):=by omega
  have n:SX ds w i=QL w i:=by rw [Nc8,Ng fun h=>d h.1]
  have e1:=e1 [Vc [Vi (gt w i).1.id,Vi (gt w i).2,Vi (QL w i)],Vc (PO (gt w i).1),Vc [Vi (QL w i)],.dead,.dead,.dead] (G'.length+2) 1 (QL w i) (some (G'.length+3)) (by rw [NR];rfl)
  rw [Um,<-n,<-Nc7,n] at e1
  have s1:(G1++[Vc [Vi (gt w i).1.id,Vi (gt w i).2,Vi (QL w i)],Vc (PO (gt w i).1),Vc [Vi (QL w i)],.dead,.dead,.dead]).set (G'.length+3) (Vc ((YE a ds w (i+1)).flatMap encI))=G1++[Vc [Vi (gt w i).1.id,Vi (gt w i).2,Vi (QL w i)],Vc (PO (gt w i).1),Vc [Vi (QL w i)],Vc ((YE a ds w (i+1)).flatMap encI),.dead,.dead]:=by rw [<-b];simp
  simp only [place,Oo,Nat.reduceAdd,s1] at e1
  have e2:=e2 [Vc [Vi (gt w i).1.id,Vi (gt w i).2,Vi (QL w i)],Vc (PO (gt w i).1),Vc [Vi (QL w i)],Vc ((YE a ds w (i+1)).flatMap encI),Vc [Vi (gt w i).1.dst],.dead] (G'.length+4) 1 (gt w i).1.dst (some (G'.length+5)) (by rw [<-b,NR];rfl)
  rw [Vw,<-Ndw] at e2
  have s2:(G1++[Vc [Vi (gt w i).1.id,Vi (gt w i).2,Vi (QL w i)],Vc (PO (gt w i).1),Vc [Vi (QL w i)],Vc ((YE a ds w (i+1)).flatMap encI),.dead,.dead]).set (G'.length+4) (Vc [Vi (gt w i).1.dst])=G1++[Vc [Vi (gt w i).1.id,Vi (gt w i).2,Vi (QL w i)],Vc (PO (gt w i).1),Vc [Vi (QL w i)],Vc ((YE a ds w (i+1)).flatMap encI),Vc [Vi (gt w i).1.dst],.dead]:=by rw [<-b];simp
  have s3:(G2++[Vc [Vi (gt w i).1.id,Vi (gt w i).2,Vi (QL w i)],Vc (PO (gt w i).1),Vc [Vi (QL w i)],Vc ((YE a ds w (i+1)).flatMap encI),Vc [Vi (gt w i).1.dst],.dead]).set (G'.length+5) (Vc ((plI a ds w (i+1)).flatMap encI))=G2++[Vc [Vi (gt w i).1.id,Vi (gt w i).2,Vi (QL w i)],Vc (PO (gt w i).1),Vc [Vi (QL w i)],Vc ((YE a ds w (i+1)).flatMap encI),Vc [Vi (gt w i).1.dst],Vc ((plI a ds w (i+1)).flatMap encI)]:=by rw [<-b,<-S];simp
  simp only [place,Oo,Nat.reduceAdd,s3] at e2
  simp only [n11,r11,g3,g4,D,F,H,r,y,o,A,O,T,ae,fi,wi,PW,UB,TR,OL,Us,Sr,Sq,Xz,Xy,VM,Nbd,ZO,NH,z,Np m,Np d,N3 ac,e1,SB,seval,NF,NJ,NK,QY,reduceCtorEq,NE,place,NB,ND]
  rw [<-b]
  simp only [n11,r11,OL,Us,Sr,Sq,Xz,Xy,VM,Nbd,ZO,SB,seval,NF,NJ,NK,QY,reduceCtorEq,NE,place,NB,ND]
  rw [b,s2,e2]
  simp only [n11,r11,o,wi,SB,seval,NF,NJ,NK,QY,reduceCtorEq,NE,place,NB,ND]
  refine ab (i+1,G'.length+3,G'.length+5,loose 1,loose 1) _ _ ⟨by show i+1<=w.length;omega,fun j I=>?_,by simp;omega, ?_,rfl,rfl,r,y,by rfl,g3,g4,D⟩ (by show w.length-(i+1)<w.length-i;omega)
  ·exact J _ () j I
  ·exact ⟨.inl (Own.new (by rw [show G'.length=G2.length from f.symm,NR];rfl) (by show M<=G'.length+3;omega)),.inl (Own.new (by rw [show G'.length=G2.length from f.symm,NR];rfl) (by show M<=G'.length+5;omega)),by show G'.length+3≠G'.length+5;omega⟩
 have B:=fun X=>(sW.app X).loadCell PD (i:=i+1) (j:=0) (by omega) (by decide)
 have C:=fun X=>(sW.app X).loadCell PD (i:=i+1) (j:=1) (by omega) (by decide)
 rw [Ni2 d,am] at B C
 simp only [Od,P1] at B C
 have N:=fun c (k:IntKind) (H1:NA)=>sW.idx (c:=c) (k:=k) (H1:=H1) (i:=i+1) (by omega)
 rw [ak] at N
 have ag:=ah (i+1) d
 have m:((i+1:Nat):Int)<(w.length:Int):=by omega
 have a6:=ao (i+1) d
 have wl:IntKind.i64.wrap ((gt w (i+1)).2-(gt w (i+1)).1.cut)=U4 w i:=by
  have:(gt w (i+1)).2-(gt w (i+1)).1.cut=U4 w i:=rfl
  rw [this]
  exact NN (by have:=an.2.2.1 d;omega) (by have:=an.2.2.1 d;omega)
 have tl:∀x:Int,x=SX ds w i->∃t,SX ds w i=t/\x=t:=fun x hx=>⟨_,rfl,hx⟩
 have au:=fun (X:NA) (lim:Nat) (Q:Value->NA->Prop)=>Nbi (lim:=lim) (c:=cd) (i:=i) (Q:=Q) (sD.app X) a1 (by omega) ad
 have a8:=ZT ad i
 by_cases g:QL w i<U4 w i
 case neg=>
  have n:SX ds w i=QL w i:=by rw [Nc8,Ng fun h=>g h.2]
  have e1:=e1 ([Vc [Vi (gt w i).1.id,Vi (gt w i).2,Vi (QL w i)],Vc (PO (gt w i).1),Vc (PO (gt w (i+1)).1),Vc [Vi (QL w i)],.dead,.dead,.dead]) (G'.length+3) 1 (QL w i) (some (G'.length+4)) (by rw [NR];rfl)
  rw [Um,<-n,<-Nc7,n] at e1
  have s1:(G1++[Vc [Vi (gt w i).1.id,Vi (gt w i).2,Vi (QL w i)],Vc (PO (gt w i).1),Vc (PO (gt w (i+1)).1),Vc [Vi (QL w i)],.dead,.dead,.dead]).set (G'.length+4) (Vc ((YE a ds w (i+1)).flatMap encI))=G1++[Vc [Vi (gt w i).1.id,Vi (gt w i).2,Vi (QL w i)],Vc (PO (gt w i).1),Vc (PO (gt w (i+1)).1),Vc [Vi (QL w i)],Vc ((YE a ds w (i+1)).flatMap encI),.dead,.dead]:=by rw [<-b];simp
  simp only [place,Oo,Nat.reduceAdd,s1] at e1
  have e2:=e2 ([Vc [Vi (gt w i).1.id,Vi (gt w i).2,Vi (QL w i)],Vc (PO (gt w i).1),Vc (PO (gt w (i+1)).1),Vc [Vi (QL w i)],Vc ((YE a ds w (i+1)).flatMap encI),Vc [Vi (gt w i).1.dst],.dead]) (G'.length+5) 1 (gt w i).1.dst (some (G'.length+6)) (by rw [<-b,NR];rfl)
  rw [Vw,<-Ndw] at e2
  have s2:(G1++[Vc [Vi (gt w i).1.id,Vi (gt w i).2,Vi (QL w i)],Vc (PO (gt w i).1),Vc (PO (gt w (i+1)).1),Vc [Vi (QL w i)],Vc ((YE a ds w (i+1)).flatMap encI),.dead,.dead]).set (G'.length+5) (Vc [Vi (gt w i).1.dst])=G1++[Vc [Vi (gt w i).1.id,Vi (gt w i).2,Vi (QL w i)],Vc (PO (gt w i).1),Vc (PO (gt w (i+1)).1),Vc [Vi (QL w i)],Vc ((YE a ds w (i+1)).flatMap encI),Vc [Vi (gt w i).1.dst],.dead]:=by rw [<-b];simp
  have s3:(G2++[Vc [Vi (gt w i).1.id,Vi (gt w i).2,Vi (QL w i)],Vc (PO (gt w i).1),Vc (PO (gt w (i+1)).1),Vc [Vi (QL w i)],Vc ((YE a ds w (i+1)).flatMap encI),Vc [Vi (gt w i).1.dst],.dead]).set (G'.length+6) (Vc ((plI a ds w (i+1)).flatMap encI))=G2++[Vc [Vi (gt w i).1.id,Vi (gt w i).2,Vi (QL w i)],Vc (PO (gt w i).1),Vc (PO (gt w (i+1)).1),Vc [Vi (QL w i)],Vc ((YE a ds w (i+1)).flatMap encI),Vc [Vi (gt w i).1.dst],Vc ((plI a ds w (i+1)).flatMap encI)]:=by rw [<-b,<-S];simp
  simp only [place,Oo,Nat.reduceAdd,s3] at e2
  simp only [n11,r11,g3,g4,D,F,H,r,y,o,A,O,T,ae,fi,wi,PW,UB,TR,OL,Us,Sr,Sq,Xz,Xy,VM,Nbd,ZO,NH,z,N3 m,N3 d,B,C,N,ag,wl,Np g,N3 ac,e1,SB,seval,NF,NJ,NK,QY,reduceCtorEq,NE,place,NB,ND]
  rw [<-b]
  simp only [n11,r11,OL,Us,Sr,Sq,Xz,Xy,VM,Nbd,ZO,SB,seval,NF,NJ,NK,QY,reduceCtorEq,NE,place,NB,ND]
  rw [b,s2,e2]
  simp only [n11,r11,o,wi,SB,seval,NF,NJ,NK,QY,reduceCtorEq,NE,place,NB,ND]
  refine ab (i+1,G'.length+4,G'.length+6,loose 1,loose 1) _ _ ⟨by show i+1<=w.length;omega,fun j I=>?_,by simp;omega, ?_,rfl,rfl,r,y,by rfl,g3,g4,D⟩ (by show w.length-(i+1)<w.length-i;omega)
  ·exact J _ () j I
  ·exact ⟨.inl (Own.new (by rw [show G'.length=G2.length from f.symm,NR];rfl) (by show M<=G'.length+4;omega)),.inl (Own.new (by rw [show G'.length=G2.length from f.symm,NR];rfl) (by show M<=G'.length+6;omega)),by show G'.length+4≠G'.length+6;omega⟩
 have n:SX ds w i=min (QL w i+Vo ds i) (U4 w i):=by rw [Nc8,Nh ⟨d,g⟩]
 have wa:IntKind.i64.wrap (QL w i+Vo ds i)=QL w i+Vo ds i:=NN (by omega) (by omega)
 obtain ⟨tt,W⟩:∃tt,min (QL w i+Vo ds i) (U4 w i)=tt:=⟨_,rfl⟩
 rw [W] at n
 have e1:=e1 ([Vc [Vi (gt w i).1.id,Vi (gt w i).2,Vi (QL w i)],Vc (PO (gt w i).1),Vc (PO (gt w (i+1)).1),Vc [Vi tt],.dead,.dead,.dead]) (G'.length+3) 1 tt (some (G'.length+4)) (by rw [NR];rfl)
 rw [Um,<-n,<-Nc7,n] at e1
 have s1:(G1++[Vc [Vi (gt w i).1.id,Vi (gt w i).2,Vi (QL w i)],Vc (PO (gt w i).1),Vc (PO (gt w (i+1)).1),Vc [Vi tt],.dead,.dead,.dead]).set (G'.length+4) (Vc ((YE a ds w (i+1)).flatMap encI))=G1++[Vc [Vi (gt w i).1.id,Vi (gt w i).2,Vi (QL w i)],Vc (PO (gt w i).1),Vc (PO (gt w (i+1)).1),Vc [Vi tt],Vc ((YE a ds w (i+1)).flatMap encI),.dead,.dead]:=by rw [<-b];simp
 simp only [place,Oo,Nat.reduceAdd,s1] at e1
 have e2:=e2 ([Vc [Vi (gt w i).1.id,Vi (gt w i).2,Vi (QL w i)],Vc (PO (gt w i).1),Vc (PO (gt w (i+1)).1),Vc [Vi tt],Vc ((YE a ds w (i+1)).flatMap encI),Vc [Vi (gt w i).1.dst],.dead]) (G'.length+5) 1 (gt w i).1.dst (some (G'.length+6)) (by rw [<-b,NR];rfl)
 rw [Vw,<-Ndw] at e2
 have s2:(G1++[Vc [Vi (gt w i).1.id,Vi (gt w i).2,Vi (QL w i)],Vc (PO (gt w i).1),Vc (PO (gt w (i+1)).1),Vc [Vi tt],Vc ((YE a ds w (i+1)).flatMap encI),.dead,.dead]).set (G'.length+5) (Vc [Vi (gt w i).1.dst])=G1++[Vc [Vi (gt w i).1.id,Vi (gt w i).2,Vi (QL w i)],Vc (PO (gt w i).1),Vc (PO (gt w (i+1)).1),Vc [Vi tt],Vc ((YE a ds w (i+1)).flatMap encI),Vc [Vi (gt w i).1.dst],.dead]:=by rw [<-b];simp
 have s3:(G2++[Vc [Vi (gt w i).1.id,Vi (gt w i).2,Vi (QL w i)],Vc (PO (gt w i).1),Vc (PO (gt w (i+1)).1),Vc [Vi tt],Vc ((YE a ds w (i+1)).flatMap encI),Vc [Vi (gt w i).1.dst],.dead]).set (G'.length+6) (Vc ((plI a ds w (i+1)).flatMap encI))=G2++[Vc [Vi (gt w i).1.id,Vi (gt w i).2,Vi (QL w i)],Vc (PO (gt w i).1),Vc (PO (gt w (i+1)).1),Vc [Vi tt],Vc ((YE a ds w (i+1)).flatMap encI),Vc [Vi (gt w i).1.dst],Vc ((plI a ds w (i+1)).flatMap encI)]:=by rw [<-b,<-S];simp
 simp only [place,Oo,Nat.reduceAdd,s3] at e2
 simp only [n11,r11,g3,g4,D,F,H,r,y,o,A,O,T,ae,fi,wi,PW,UB,TR,OL,Us,Sr,Sq,Xz,Xy,VM,Nbd,ZO,NH,z,N3 m,N3 d,B,C,N,ag,wl,N3 g,N3 ac,au,wa,Nrb,W,e1,SB,seval,NF,NJ,NK,QY,reduceCtorEq,NE,place,NB,ND]
 rw [<-b]
 simp only [n11,r11,OL,Us,Sr,Sq,Xz,Xy,VM,Nbd,ZO,SB,seval,NF,NJ,NK,QY,reduceCtorEq,NE,place,NB,ND]
 rw [b,s2,e2]
 simp only [n11,r11,o,wi,SB,seval,NF,NJ,NK,QY,reduceCtorEq,NE,place,NB,ND]
 refine ab (i+1,G'.length+4,G'.length+6,loose 1,loose 1) _ _ ⟨by show i+1<=w.length;omega,fun j I=>?_,by simp;omega, ?_,rfl,rfl,r,y,by rfl,g3,g4,D⟩ (by show w.length-(i+1)<w.length-i;omega)
 ·exact J _ () j I
 ·exact ⟨.inl (Own.new (by rw [show G'.length=G2.length from f.symm,NR];rfl) (by show M<=G'.length+4;omega)),.inl (Own.new (by rw [show G'.length=G2.length from f.symm,NR];rfl) (by show M<=G'.length+6;omega)),by show G'.length+4≠G'.length+6;omega⟩
theorem Vd.leB {α:Type} {lim lim' e cap:Nat} {G:NA} {enc:α->List Value} {p:Option Addr} {l:List α} (h:Vd lim G enc e p cap l) (hl:lim'<=lim):Vd lim' G enc e p cap l:=by
 rcases h with h | ⟨R,h1,h2,a,b,h5⟩
 ·exact .inl (h.le hl)
 ·exact .inr ⟨R,h1,h2,a,by omega,h5⟩
theorem N1t [OB] {lim cl cd:Nat} {pp pl pd:Option Addr} {L:List Leg} {ds:List Int} {a q:Int} {H:NA} {Q:Value->NA->Prop} (D:NetIn H pp pl P5 L) (e:QP P5 L=0) (ha:a∈P5) (K:q∈P5) (hd:Sl H encU 1 pd ds) (t:ds.length<2 ^ 63) (u:∀x∈ds,0<=x/\x<=255) (k:lim<=H.length)
  (s:∀x,pd=some x->ds≠[]->x.block<H.length) (l:∀x,(pp=some x->x.block<H.length)/\(pl=some x->L≠[]->x.block<H.length))
  (g:∀G,Chg [] H G->Q (.tuple #[Vz,Vz,.bool true]) G)
  (A:∀G v w bt bp ct cp,Chg [] H G->0<=v->v<=100800->BestW L a 14400 q v w->w.length<5->TP H.length G a ds w w.length bt bp ct cp->Q (.tuple #[.slice (Sa bt) (w.length+1) ct,.slice (Sa bp) (w.length+1) cp,.bool true]) G) :
  NP E false lim 11 [.agg (RX pp 5 5 pl L.length cl).toArray,Vi a,Vi q,.slice pd ds.length cd] H Q:=by
 refine Rm (by decide) e11 rfl ?_
 rw [b11,c11]
 have hn:=RH e
 have herr:Uk P5 L a q 14400=0:=by
  unfold Uk
  rw [Ng (by rw [e];simp),Nh ⟨ha,K,by decide,by decide⟩]
 simp only [n11,r11,NH,k,PW,UB,TR,NM,SB,seval,NF,NJ,NK,QY,reduceCtorEq,NE,place,NB,ND]
 refine N1b (P:=P5) (cp:=5) (cl:=cl) (D.app _) (by simp;omega) (fun _ h=>absurd herr h) (fun G1 _ _ d=>?_) (fun G1 v w S R _ d m B f _ i=>?_)
 ·refine NL ?_
  simp only [n11,r11,SB,seval,NF,NJ,NK,QY,reduceCtorEq,NE,place,NB,ND]
  exact g _ d.pre.app
 have hv2:=(B.ge hn.fine m).2
 have C:w.length<5:=Nmv hn ha f
 have N:NC G1 H.length=Vc (RX pp 5 5 pl L.length cl):=d.cells (by rw [NQ];rfl) (by simp)
 have r:=D.sim (G:=G1) fun b ro c I=>d.pre.cells I (by simp)
 have y:=d.len
 simp only [Ni,Nk,No] at y
 have O:=i.sl PD
 refine NL ?_
 have z:lim<=G1.length:=by omega
 simp only [n11,r11,NH,z,SB,seval,NF,NJ,NK,QY,reduceCtorEq,NE,place,NB,ND]
 have F:G1++[Vc [Value.int IntKind.i64 14400],Vc [Value.int IntKind.i64 a]] = (G1++[Vc [Value.int IntKind.i64 14400],Vc [Value.int IntKind.i64 a]])++[]:=(Nc _).symm
 rw [F]
 refine Nr3 (M:=G1.length) (RN:=H.length) (bt0:=G1.length) (bp0:=G1.length+1) (q:=q) (v:=v) (cd:=cd) (cl:=cl) (pp:=pp) (pl:=pl) (pd:=pd) (ds:=ds) (L:=L) (a:=a) (r.app _) (by rw [NI (by omega)];exact N) e (O.app _) (by omega) ((d.pre.sl hd (by simp)).app _) t u f.way (by omega) (by omega) (by simp) ?_ (by omega) (fun x hx=>(i.block hx).2) (fun x hx hn=>by have:=s x hx hn;omega) (fun x=>⟨fun hx=>by have:=(l x).1 hx;omega,fun hx hn=>by have:=(l x).2 hx hn;omega⟩) rfl rfl rfl rfl rfl rfl rfl rfl ?_
 ·refine ⟨.inr ⟨G1.length,rfl,rfl,by rw [NQ];rfl,Nd _,by simp [YE,QD]⟩,.inr ⟨G1.length+1,rfl,rfl,by rw [NR];rfl,by omega,by simp [plI,QD]⟩,by omega⟩
 intro fr' G' bt bp ct cp hC hM hT n o
 refine NL ?_
 simp only [n11,r11,n,o,SB,seval,NF,NJ,NK,QY,reduceCtorEq,NE,place,NB,ND]
 have p:Chg [] H (G'++[]):=⟨by rw [Nc];omega,fun j J _=>by
  rw [Nc,hC j (by omega),NI (by omega)]
  exact d.pre.other j J (by simp)⟩
 refine A _ v w bt bp ct cp p m (by omega) f C ⟨Vd.leB (hT.ht.app _) (by omega),Vd.leB (hT.hp.app _) (by omega),hT.ne⟩
def SH (S:List Ev):List ((Int×Int)×Int):=S.foldl (fun D x=>bump (RU x) D) []
theorem VD {S:List Ev} {x:Ev}:SH (S++[x])=bump (RU x) (SH S):=by unfold SH;rw [List.foldl_append];rfl
theorem N0i {k k':Int×Int} {D:List ((Int×Int)×Int)}:UZ k' (bump k D)=if k'=k then some ((UZ k D).getD 0+1) else UZ k' D:=Nel
theorem Nez (k:Int×Int):∀l:List Ev,UZ k (SH l.reverse)=if Uq l k.1 k.2 then some ((l.filter fun x=>RU x == k).length:Int) else none
 | []=>by
   have:¬Uq [] k.1 k.2:=fun ⟨x,hx,_⟩=>O1 hx
   rw [Ng this];rfl
 | x::l=>by
   rw [List.reverse_cons,VD,N0i,Nez k l]
   have a:Uq (x::l) k.1 k.2↔RU x=k\/Uq l k.1 k.2:=by
    unfold Uq
    simp
   by_cases e:k=RU x
   ·rw [Nh e,Nh (a.2 (.inl e.symm)),Qg (by simp [e])]
    subst e
    rw [Nez (RU x) l]
    by_cases ho:Uq l (RU x).1 (RU x).2
    ·rw [Nh ho];simp
    ·rw [Ng ho]
     have:(l.filter fun y=>RU y == RU x)=[]:=List.filter_eq_nil_iff.2 fun y c b=>ho ⟨y,c,by simpa using b⟩
     rw [this];simp
   ·rw [Ng e,P2 (by simpa using fun h=>e h.symm)]
    by_cases ho:Uq l k.1 k.2
    ·rw [Nh ho,Nh (a.2 (.inr ho))]
    ·rw [Ng ho,Ng fun h=>(a.1 h).elim (fun h=>e h.symm) ho]
theorem MX {S:List Ev} {k:Int×Int}:(∀n,UZ k (SH S)=some n->1<=n/\n<=S.length)/\(Uq S k.1 k.2↔UZ k (SH S)≠none):=by
 have h:=Nez k S.reverse
 rw [List.reverse_reverse] at h
 have a:Uq S.reverse k.1 k.2↔Uq S k.1 k.2:=by unfold Uq;simp
 by_cases ho:Uq S k.1 k.2
 ·rw [Nh (a.2 ho)] at h
  refine ⟨fun n hn=>?_,by simp [h,ho]⟩
  rw [h] at hn
  cases hn
  obtain ⟨x,hx,hk⟩:=ho
  have h1:0<(S.reverse.filter fun x=>RU x == k).length:=List.length_pos_of_mem (Oy.2 ⟨by simpa using hx,by simp [hk]⟩)
  have h2:=Qo (fun x=>RU x == k) S.reverse
  rw [List.length_reverse] at h2
  omega
 ·rw [Ng fun q=>ho (a.1 q)] at h
  exact ⟨fun n hn=>(by rw [h] at hn;cases hn),by simp [h,ho]⟩
theorem Nsp {k:Int×Int} {v:Int} {D:List ((Int×Int)×Int)}:(Vu k v D).length<=D.length+1:=Mt
theorem Nmi:∀l:List Ev,(SH l.reverse).length<=l.length
 | []=>Nd _
 | x::l=>by
   have:=Nmi l
   have h2:=Nsp (k:=RU x) (v:=(UZ (RU x) (SH l.reverse)).getD 0+1) (D:=SH l.reverse)
   rw [List.reverse_cons,VD]
   unfold bump
   simp only [Nk]
   omega
theorem Ni7 (S:List Ev):(SH S).length<=S.length:=by
 have:=Nmi S.reverse
 rwa [List.reverse_reverse,List.length_reverse] at this
def sc0 (n:Nat) (Pl:Nat->Int) (i:Nat):Ev:=⟨7,Pl i,Pl i,kdT n i,0,0,0⟩
theorem Nsa [OB] {lim B3 B9 B10 B11 M c1 N r c4 n4 n kt kp:Nat} {W Y p3 p4 pt pq:Option Addr} {u1 u2:Int} {C La Tw TL PL:List Int} {A:NA} {a6:Option Addr} {ae:Nat} {fr:Nat->Value} {K:List AItem} {Z:Value->NA->Prop}
  (h0:Box B3 B9 B10 B11 M [.int .u8 u1,.int .u8 u2,.slice W C.length c1,.slice Y La.length N,.slice p3 Tw.length r,.slice p4 n4 c4] [] a6 ae [] A) (L:TripOk n (gt TL) (gt PL)) (bb:TL.length=n) (ba:PL.length=n)
  (am:Sl A encY 1 W C) (an:Sl A encU 1 Y La) (ao:Sl A encU 1 p3 Tw) (be:Sl A encI 1 pt TL) (bd:Sl A encI 1 pq PL) (ad:C.length<2 ^ 63) (al:La.length<2 ^ 63) (a5:Tw.length<2 ^ 63)
  (hC:∀x∈C,-128<=x/\x<=127) (hL:∀x∈La,0<=x/\x<=255) (hT:∀x∈Tw,0<=x/\x<=255) (b1:∀a,W=some a->C≠[]->a.block<B3) (b2:∀a,Y=some a->La≠[]->a.block<B3) (b3:∀a,p3=some a->Tw≠[]->a.block<B3) (bt:∀a,pt=some a->a.block<B9) (bp:∀a,pq=some a->a.block<B9) (I:lim<=B3)
  (f3:fr 3=Vp B3) (f6:fr 6=.slice pt n kt) (f7:fr 7=.slice pq n kp) (f12:fr 12=.func (.func 15) #[] #[Vp B9,Vp B10,Vp B11]) (f13:fr 13=Vi 0) (a7:fr 83=.slice pt n kt) (a8:fr 84=Vi n) (a9:fr 85=Vi 0)
  (hR:∀fr' G' sp sc,(∀j,j<B10->NC G' j=NC A j)->Box B3 B9 B10 B11 M [.int .u8 u1,.int .u8 u2,.slice W C.length c1,.slice Y La.length N,.slice p3 Tw.length r,.slice p4 n4 c4] (U2 n (gt TL) (gt PL) C La Tw n) sp sc (SH (U2 n (gt TL) (gt PL) C La Tw n)) G'->fr' 13=Vi (V7 Tw n:Int)->(∀j,j<=12->fr' j=fr j)->QC E a3 lim K fr' G' Z) :
  QC E a3 lim (.code (.loop N5x)::.inBlock 0::K) fr (A++[]) Z:=by
 refine NZ (fun s:Nat×Option Addr×Nat=>n-s.1) (fun s fr' G'=>s.1<=n/\(∀j,j<B10->NC G' j=NC A j)/\Box B3 B9 B10 B11 M [.int .u8 u1,.int .u8 u2,.slice W C.length c1,.slice Y La.length N,.slice p3 Tw.length r,.slice p4 n4 c4] (U2 n (gt TL) (gt PL) C La Tw s.1) s.2.1 s.2.2 (SH (U2 n (gt TL) (gt PL) C La Tw s.1)) G'/\fr' 13=Vi (V7 Tw s.1:Int)/\fr' 83=.slice pt n kt/\fr' 84=Vi n/\fr' 85=Vi s.1/\(∀j,j<=12->fr' j=fr j)) (0,a6,ae)
  ⟨Nv _,fun j d=>by rw [Nc],by rw [Nc];exact h0,f13,a7,a8,by rw [a9];rfl,fun _ _=>rfl⟩ ?_
 rintro ⟨i,sp,sc⟩ fr' G' ⟨hi,hK,hB,o,f,g,q,u⟩ J
 simp only at hi hB o q
 rw [OD N5x.eq_1]
 refine NL ?_
 have g3:=(u 3 (by decide)).trans f3
 have g6:=(u 6 (by decide)).trans f6
 have g7:=(u 7 (by decide)).trans f7
 have v:=(u 12 (by decide)).trans f12
 by_cases U:i<n
 case neg=>
  obtain rfl:i=n:=by omega
  simp only [n3,r3,f,g,q,U,SB,seval,NF,NJ,NK,QY,reduceCtorEq,NE,place,NB,ND]
  exact hR _ _ sp sc (fun j d=>by rw [Nc];exact hK j d) (hB.app _) o fun j d=>by
   rw [<-u j d]
   simp only [upd]
   repeat rw [Ng (by omega)]
 have o1:=hB.o1
 have o2:=hB.o2
 have o3:=hB.o3
 have o4:=hB.o4
 have a3:=NG hB.k3
 have a11:=NG hB.k11
 have ab:∀{α:Type} {enc:α->List Value} {e:Nat} {p:Option Addr} {l:List α},Sl A enc e p l->(∀x,p=some x->l≠[]->x.block<B10)->Sl G' enc e p l:=fun h hp=>Tu h fun x hx hn ro c hc=>by rw [hK _ (hp x hx hn)];exact hc
 have sT:=ab be fun x hx _=>by have:=bt x hx;omega
 have sP:=ab bd fun x hx _=>by have:=bp x hx;omega
 have sC:=ab am fun x hx hn=>by have:=b1 x hx hn;omega
 have sL:=ab an fun x hx hn=>by have:=b2 x hx hn;omega
 have sW:=ab ao fun x hx hn=>by have:=b3 x hx hn;omega
 have au:=fun X=>(sT.app X).loadCell0 PQ (i:=i) (by omega) (by decide)
 have ar:=fun X=>(sP.app X).loadCell0 PQ (i:=i) (by omega) (by decide)
 simp only [encI,Od] at au ar
 have aq:=fun c (k:IntKind) (H1:NA)=>sT.idx (c:=c) (k:=k) (H1:=H1) (i:=i) (by omega)
 have ap:=fun c (k:IntKind) (H1:NA)=>sP.idx (c:=c) (k:=k) (H1:=H1) (i:=i) (by omega)
 rw [bb] at aq
 rw [ba] at ap
 have x3:=fun X=>(OM.refl.app (X:=X)).cells hB.k3
 have w1:IntKind.i64.wrap ((n:Int)-1)=(n:Int)-1:=NN (by omega) (by have:=L.few;omega)
 have wi:IntKind.i64.wrap ((i:Int)+1)=((i+1:Nat):Int):=OV (by have:=L.few;omega)
 have bu:=L.time i U
 have bq:=L.place i U
 have aL:=ZT hL i
 have bk:=ZT hL (i+1)
 have aT:=ZT hT i
 have fL:=fun (j:Nat) (d:j<100) (X:NA) (lim:Nat) (Q:Value->NA->Prop)=>Nbi (lim:=lim) (c:=N) (i:=j) (Q:=Q) (sL.app X) al (by omega) hL
 have S:lim<=G'.length:=by omega
 have wt:IntKind.i64.wrap (gt TL i+Vo La i)=gt TL i+Vo La i:=NN (by omega) (by omega)
 have a4:=fL i (by have:=L.few;omega)
 have a2:=(Xk (n:=n) (T:=gt TL) (Pl:=gt PL) (C:=C) (La:=La) (Tw:=Tw) i)
 have bh:=L.few
 have bo:=Ni7 (U2 n (gt TL) (gt PL) C La Tw i)
 have bm:=Int.tmod_lt_of_pos (Vo Tw i) (show (0:Int)<3 by decide)
 have bf:=Int.tmod_nonneg (3:Int) aT.1
 have bn:=Int.tmod_lt_of_pos (Vo Tw i) (show (0:Int)<6 by decide)
 have bg:=Int.tmod_nonneg (6:Int) aT.1
 by_cases R:i+1=n
 case pos=>
  have ak:(i:Int)=(n:Int)-1:=by omega
  have F:QE (sc0 n (gt PL) i)=[Vi 7,Vi (gt PL i),Vi (gt PL i),.int .u8 4,Vi 0,Vi 0]:=by
   have:kdT n i=4:=Nh R
   unfold sc0
   rw [this];rfl
  simp only [n3,r3,g3,g6,g7,v,f,g,q,U,au,ar,aq,ap,x3,w1,wi,NH,S,a4,wt,N3 ak,SB,seval,NF,NJ,NK,QY,reduceCtorEq,NE,place,NB,ND]
  rw [<-F]
  refine Njh (D:=SH (U2 n (gt TL) (gt PL) C La Tw i)) (s:=sc0 n (gt PL) i) (hB.app _) (sC.app _) ad hC (by show 1<=gt PL i;omega) (by show gt PL i<=1000;omega) (by omega) (by omega) (by omega) (fun m hm=>by have:=MX.1 m hm;omega) (by omega) I b1 fun G2 z y P b=>?_
  have eS:U2 n (gt TL) (gt PL) C La Tw i++[{ sc0 n (gt PL) i with at':=gt TL i-RB C (sc0 n (gt PL) i).scanner,seen:=gt TL i+Vo La i,time:=0 }]=U2 n (gt TL) (gt PL) C La Tw i++[Zc n (gt TL) (gt PL) C La i]:=rfl
  have eD:bump ((sc0 n (gt PL) i).scanner,(gt TL i+Vo La i) / 1440) (SH (U2 n (gt TL) (gt PL) C La Tw i))=SH (U2 n (gt TL) (gt PL) C La Tw i++[Zc n (gt TL) (gt PL) C La i]):=by rw [VD];rfl
  rw [eS,eD] at b
  have w:∀j,j<B10->NC G2 j=NC A j:=fun j d=>by
   rw [P.other j (by simp;omega) (by
    intro hm
    rcases N0.1 hm with hm | hm
    ·obtain ⟨x,hx,e⟩:=UK hm;have:=(hB.own.block hx).1;omega
    ·simp at hm;omega),NI (by omega)]
   exact hK j d
  have V:NC G2 G'.length=Vc (QE (sc0 n (gt PL) i)):=P.cells (by rw [NQ];rfl) (by
   intro hm
   rcases N0.1 hm with hm | hm
   ·obtain ⟨x,hx,e⟩:=UK hm;have:=(hB.own.block hx).2;omega
   ·simp at hm;omega)
  have G:∀{α:Type} {enc:α->List Value} {e:Nat} {p:Option Addr} {l:List α},Sl A enc e p l->(∀x,p=some x->l≠[]->x.block<B10)->Sl G2 enc e p l:=fun h hp=>Tu h fun x hx hn ro c hc=>by rw [w _ (hp x hx hn)];exact hc
  have aw:=G an fun x hx hn=>by have:=b2 x hx hn;omega
  have ax:=G ao fun x hx hn=>by have:=b3 x hx hn;omega
  have av:=G am fun x hx hn=>by have:=b1 x hx hn;omega
  have H:=fun X=>(OM.refl.app (X:=X)).cells b.k3
  have fW:=fun (X:NA) (lim:Nat) (Q:Value->NA->Prop)=>Nbi (lim:=lim) (c:=r) (i:=i) (Q:=Q) (ax.app X) a5 (by omega) hT
  have ag:=fun (X:NA) (lim:Nat) (Q:Value->NA->Prop)=>Nbi (lim:=lim) (c:=N) (i:=i+1) (Q:=Q) (aw.app X) al (by omega) hL
  have wr:IntKind.i64.wrap ((Vo Tw i).tmod 3)=(Vo Tw i).tmod 3:=NN (by omega) (by omega)
  rw [F] at V
  have az:=fun X=>(OM.refl.app (X:=X)).cells V
  refine NL ?_
  by_cases h1:(Vo Tw i).tmod 3=0
  case neg=>
   have t:Box B3 B9 B10 B11 M [.int .u8 u1,.int .u8 u2,.slice W C.length c1,.slice Y La.length N,.slice p3 Tw.length r,.slice p4 n4 c4] (U2 n (gt TL) (gt PL) C La Tw (i+1)) z y (SH (U2 n (gt TL) (gt PL) C La Tw (i+1))) G2:=by rw [U2,Ng fun h=>h1 h.1];exact b
   simp only [n3,r3,g3,v,o,f,g,q,H,fW,wr,h1,wi,SB,seval,NF,NJ,NK,QY,reduceCtorEq,NE,place,NB,ND]
   exact J (i+1,z,y) _ _ ⟨by show i+1<=n;omega,fun j d=>by rw [NI (by have:=NG b.k11;omega)];exact w j d,t.app _,by show _=Value.int .i64 (V7 Tw (i+1):Int);rw [V7,Ng fun h=>h1 h.1];exact o,f,g,by rfl,fun j d=>by
    rw [<-u j d]
    simp only [upd]
    repeat rw [Ng (by omega)]⟩ (by show n-(i+1)<n-i;omega)
  have ah:IntKind.i64.wrap ((Vo Tw i).tmod 6)=(Vo Tw i).tmod 6:=NN (by omega) (by omega)
  by_cases h2:0<Tw.length
  case neg=>
   have t:Box B3 B9 B10 B11 M [.int .u8 u1,.int .u8 u2,.slice W C.length c1,.slice Y La.length N,.slice p3 Tw.length r,.slice p4 n4 c4] (U2 n (gt TL) (gt PL) C La Tw (i+1)) z y (SH (U2 n (gt TL) (gt PL) C La Tw (i+1))) G2:=by rw [U2,Ng fun h=>h2 h.2];exact b
   have B:¬(0:Int)<(Tw.length:Int):=by omega
   simp only [n3,r3,g3,v,o,f,g,q,H,fW,wr,h1,h2,B,wi,SB,seval,NF,NJ,NK,QY,reduceCtorEq,NE,place,NB,ND]
   exact J (i+1,z,y) _ _ ⟨by show i+1<=n;omega,fun j d=>by rw [NI (by have:=NG b.k11;omega)];exact w j d,t.app _,by show _=Value.int .i64 (V7 Tw (i+1):Int);rw [V7,Ng fun h=>h2 h.2];exact o,f,g,by rfl,fun j d=>by
    rw [<-u j d]
    simp only [upd]
    repeat rw [Ng (by omega)]⟩ (by show n-(i+1)<n-i;omega)
  have B:(0:Int)<(Tw.length:Int):=by omega
  have w6:IntKind.i64.wrap (gt TL i+(Vo Tw i).tmod 6)=gt TL i+(Vo Tw i).tmod 6:=NN (by omega) (by omega)
  have w7:IntKind.i64.wrap (gt TL i+(Vo Tw i).tmod 6+Vo La (i+1))=gt TL i+(Vo Tw i).tmod 6+Vo La (i+1):=NN (by omega) (by omega)
  simp only [n3,r3,g3,v,o,f,g,q,H,fW,wr,h1,h2,B,wi,az,ag,ah,w6,w7,SB,seval,NF,NJ,NK,QY,reduceCtorEq,NE,place,NB,ND]
  rw [<-F]
  have bc:(U2 n (gt TL) (gt PL) C La Tw i++[Zc n (gt TL) (gt PL) C La i]).length<=20:=by rw [Ni,a2.1];simp;omega
  have a1:=Ni7 (U2 n (gt TL) (gt PL) C La Tw i++[Zc n (gt TL) (gt PL) C La i])
  refine Njh (D:=SH (U2 n (gt TL) (gt PL) C La Tw i++[Zc n (gt TL) (gt PL) C La i])) (s:=sc0 n (gt PL) i) (b.app _) (av.app _) ad hC (by show 1<=gt PL i;omega) (by show gt PL i<=1000;omega) (by omega) (by omega) (by omega) (fun m hm=>by have:=MX.1 m hm;omega) (by omega) I b1 fun G3 ac aa ai t=>?_
  have O:Box B3 B9 B10 B11 M [.int .u8 u1,.int .u8 u2,.slice W C.length c1,.slice Y La.length N,.slice p3 Tw.length r,.slice p4 n4 c4] (U2 n (gt TL) (gt PL) C La Tw (i+1)) ac aa (SH (U2 n (gt TL) (gt PL) C La Tw (i+1))) G3:=by
   have e4:U2 n (gt TL) (gt PL) C La Tw (i+1)=(U2 n (gt TL) (gt PL) C La Tw i++[Zc n (gt TL) (gt PL) C La i])++[N11 n (gt TL) (gt PL) C La Tw i]:=by rw [U2,Nh ⟨h1,h2⟩];simp
   rw [e4,VD]
   exact t
  have aj:∀j,j<B10->NC G3 j=NC A j:=fun j d=>by
   have a0:=NG b.k11
   rw [ai.other j (by simp;omega) (by
    intro hm
    rcases N0.1 hm with hm | hm
    ·obtain ⟨x,hx,e⟩:=UK hm;have:=(b.own.block hx).1;omega
    ·simp at hm;omega),NI (by omega)]
   exact w j d
  refine NL ?_
  have ay:IntKind.i64.wrap ((V7 Tw i:Int)+1)=((V7 Tw i+1:Nat):Int):=OV (by omega)
  simp only [n3,r3,g3,v,o,f,g,q,wi,ay,SB,seval,NF,NJ,NK,QY,reduceCtorEq,NE,place,NB,ND]
  exact J (i+1,ac,aa) _ _ ⟨by show i+1<=n;omega,fun j d=>by rw [NI (by have:=NG O.k11;omega)];exact aj j d,O.app _,by show _=Value.int .i64 (V7 Tw (i+1):Int);rw [V7,Nh ⟨h1,h2⟩];exact rfl,f,g,by rfl,fun j d=>by
   rw [<-u j d]
   simp only [upd]
   repeat rw [Ng (by omega)]⟩ (by show n-(i+1)<n-i;omega)
 case neg=>
  have ak:¬(i:Int)=(n:Int)-1:=by omega
  have F:QE (sc0 n (gt PL) i)=[Vi 7,Vi (gt PL i),Vi (gt PL i),.int .u8 2,Vi 0,Vi 0]:=by
   have:kdT n i=2:=Ng R
   unfold sc0
   rw [this];rfl
  simp only [n3,r3,g3,g6,g7,v,f,g,q,U,au,ar,aq,ap,x3,w1,wi,NH,S,a4,wt,Np ak,SB,seval,NF,NJ,NK,QY,reduceCtorEq,NE,place,NB,ND]
  rw [<-F]
  refine Njh (D:=SH (U2 n (gt TL) (gt PL) C La Tw i)) (s:=sc0 n (gt PL) i) (hB.app _) (sC.app _) ad hC (by show 1<=gt PL i;omega) (by show gt PL i<=1000;omega) (by omega) (by omega) (by omega) (fun m hm=>by have:=MX.1 m hm;omega) (by omega) I b1 fun G2 z y P b=>?_
  have eS:U2 n (gt TL) (gt PL) C La Tw i++[{ sc0 n (gt PL) i with at':=gt TL i-RB C (sc0 n (gt PL) i).scanner,seen:=gt TL i+Vo La i,time:=0 }]=U2 n (gt TL) (gt PL) C La Tw i++[Zc n (gt TL) (gt PL) C La i]:=rfl
  have eD:bump ((sc0 n (gt PL) i).scanner,(gt TL i+Vo La i) / 1440) (SH (U2 n (gt TL) (gt PL) C La Tw i))=SH (U2 n (gt TL) (gt PL) C La Tw i++[Zc n (gt TL) (gt PL) C La i]):=by rw [VD];rfl
  rw [eS,eD] at b
  have w:∀j,j<B10->NC G2 j=NC A j:=fun j d=>by
   rw [P.other j (by simp;omega) (by
    intro hm
    rcases N0.1 hm with hm | hm
    ·obtain ⟨x,hx,e⟩:=UK hm;have:=(hB.own.block hx).1;omega
    ·simp at hm;omega),NI (by omega)]
   exact hK j d
  have V:NC G2 G'.length=Vc (QE (sc0 n (gt PL) i)):=P.cells (by rw [NQ];rfl) (by
   intro hm
   rcases N0.1 hm with hm | hm
   ·obtain ⟨x,hx,e⟩:=UK hm;have:=(hB.own.block hx).2;omega
   ·simp at hm;omega)
  have G:∀{α:Type} {enc:α->List Value} {e:Nat} {p:Option Addr} {l:List α},Sl A enc e p l->(∀x,p=some x->l≠[]->x.block<B10)->Sl G2 enc e p l:=fun h hp=>Tu h fun x hx hn ro c hc=>by rw [w _ (hp x hx hn)];exact hc
  have aw:=G an fun x hx hn=>by have:=b2 x hx hn;omega
  have ax:=G ao fun x hx hn=>by have:=b3 x hx hn;omega
  have av:=G am fun x hx hn=>by have:=b1 x hx hn;omega
  have H:=fun X=>(OM.refl.app (X:=X)).cells b.k3
  have fW:=fun (X:NA) (lim:Nat) (Q:Value->NA->Prop)=>Nbi (lim:=lim) (c:=r) (i:=i) (Q:=Q) (ax.app X) a5 (by omega) hT
  have ag:=fun (X:NA) (lim:Nat) (Q:Value->NA->Prop)=>Nbi (lim:=lim) (c:=N) (i:=i+1) (Q:=Q) (aw.app X) al (by omega) hL
  have wr:IntKind.i64.wrap ((Vo Tw i).tmod 3)=(Vo Tw i).tmod 3:=NN (by omega) (by omega)
  rw [F] at V
  have az:=fun X=>(OM.refl.app (X:=X)).cells V
  refine NL ?_
  by_cases h1:(Vo Tw i).tmod 3=0
  case neg=>
   have t:Box B3 B9 B10 B11 M [.int .u8 u1,.int .u8 u2,.slice W C.length c1,.slice Y La.length N,.slice p3 Tw.length r,.slice p4 n4 c4] (U2 n (gt TL) (gt PL) C La Tw (i+1)) z y (SH (U2 n (gt TL) (gt PL) C La Tw (i+1))) G2:=by rw [U2,Ng fun h=>h1 h.1];exact b
   simp only [n3,r3,g3,v,o,f,g,q,H,fW,wr,h1,wi,SB,seval,NF,NJ,NK,QY,reduceCtorEq,NE,place,NB,ND]
   exact J (i+1,z,y) _ _ ⟨by show i+1<=n;omega,fun j d=>by rw [NI (by have:=NG b.k11;omega)];exact w j d,t.app _,by show _=Value.int .i64 (V7 Tw (i+1):Int);rw [V7,Ng fun h=>h1 h.1];exact o,f,g,by rfl,fun j d=>by
    rw [<-u j d]
    simp only [upd]
    repeat rw [Ng (by omega)]⟩ (by show n-(i+1)<n-i;omega)
  have ah:IntKind.i64.wrap ((Vo Tw i).tmod 6)=(Vo Tw i).tmod 6:=NN (by omega) (by omega)
  by_cases h2:0<Tw.length
  case neg=>
   have t:Box B3 B9 B10 B11 M [.int .u8 u1,.int .u8 u2,.slice W C.length c1,.slice Y La.length N,.slice p3 Tw.length r,.slice p4 n4 c4] (U2 n (gt TL) (gt PL) C La Tw (i+1)) z y (SH (U2 n (gt TL) (gt PL) C La Tw (i+1))) G2:=by rw [U2,Ng fun h=>h2 h.2];exact b
   have B:¬(0:Int)<(Tw.length:Int):=by omega
   simp only [n3,r3,g3,v,o,f,g,q,H,fW,wr,h1,h2,B,wi,SB,seval,NF,NJ,NK,QY,reduceCtorEq,NE,place,NB,ND]
   exact J (i+1,z,y) _ _ ⟨by show i+1<=n;omega,fun j d=>by rw [NI (by have:=NG b.k11;omega)];exact w j d,t.app _,by show _=Value.int .i64 (V7 Tw (i+1):Int);rw [V7,Ng fun h=>h2 h.2];exact o,f,g,by rfl,fun j d=>by
    rw [<-u j d]
    simp only [upd]
    repeat rw [Ng (by omega)]⟩ (by show n-(i+1)<n-i;omega)
  have B:(0:Int)<(Tw.length:Int):=by omega
  have w6:IntKind.i64.wrap (gt TL i+(Vo Tw i).tmod 6)=gt TL i+(Vo Tw i).tmod 6:=NN (by omega) (by omega)
  have w7:IntKind.i64.wrap (gt TL i+(Vo Tw i).tmod 6+Vo La (i+1))=gt TL i+(Vo Tw i).tmod 6+Vo La (i+1):=NN (by omega) (by omega)
  simp only [n3,r3,g3,v,o,f,g,q,H,fW,wr,h1,h2,B,wi,az,ag,ah,w6,w7,SB,seval,NF,NJ,NK,QY,reduceCtorEq,NE,place,NB,ND]
  rw [<-F]
  have bc:(U2 n (gt TL) (gt PL) C La Tw i++[Zc n (gt TL) (gt PL) C La i]).length<=20:=by rw [Ni,a2.1];simp;omega
  have a1:=Ni7 (U2 n (gt TL) (gt PL) C La Tw i++[Zc n (gt TL) (gt PL) C La i])
  refine Njh (D:=SH (U2 n (gt TL) (gt PL) C La Tw i++[Zc n (gt TL) (gt PL) C La i])) (s:=sc0 n (gt PL) i) (b.app _) (av.app _) ad hC (by show 1<=gt PL i;omega) (by show gt PL i<=1000;omega) (by omega) (by omega) (by omega) (fun m hm=>by have:=MX.1 m hm;omega) (by omega) I b1 fun G3 ac aa ai t=>?_
  have O:Box B3 B9 B10 B11 M [.int .u8 u1,.int .u8 u2,.slice W C.length c1,.slice Y La.length N,.slice p3 Tw.length r,.slice p4 n4 c4] (U2 n (gt TL) (gt PL) C La Tw (i+1)) ac aa (SH (U2 n (gt TL) (gt PL) C La Tw (i+1))) G3:=by
   have e4:U2 n (gt TL) (gt PL) C La Tw (i+1)=(U2 n (gt TL) (gt PL) C La Tw i++[Zc n (gt TL) (gt PL) C La i])++[N11 n (gt TL) (gt PL) C La Tw i]:=by rw [U2,Nh ⟨h1,h2⟩];simp
   rw [e4,VD]
   exact t
  have aj:∀j,j<B10->NC G3 j=NC A j:=fun j d=>by
   have a0:=NG b.k11
   rw [ai.other j (by simp;omega) (by
    intro hm
    rcases N0.1 hm with hm | hm
    ·obtain ⟨x,hx,e⟩:=UK hm;have:=(b.own.block hx).1;omega
    ·simp at hm;omega),NI (by omega)]
   exact w j d
  refine NL ?_
  have ay:IntKind.i64.wrap ((V7 Tw i:Int)+1)=((V7 Tw i+1:Nat):Int):=OV (by omega)
  simp only [n3,r3,g3,v,o,f,g,q,wi,ay,SB,seval,NF,NJ,NK,QY,reduceCtorEq,NE,place,NB,ND]
  exact J (i+1,ac,aa) _ _ ⟨by show i+1<=n;omega,fun j d=>by rw [NI (by have:=NG O.k11;omega)];exact aj j d,O.app _,by show _=Value.int .i64 (V7 Tw (i+1):Int);rw [V7,Nh ⟨h1,h2⟩];exact rfl,f,g,by rfl,fun j d=>by
   rw [<-u j d]
   simp only [upd]
   repeat rw [Ng (by omega)]⟩ (by show n-(i+1)<n-i;omega)
end Go.Proofs.YtkppjkkkdpcgiaaGreat.Fn


