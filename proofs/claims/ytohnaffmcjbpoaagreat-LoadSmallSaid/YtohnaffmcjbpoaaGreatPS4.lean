/-
  Joined texts, 4 of 10. A part of the claim that the last text states.
-/
import Derived.Test.YtohnaffmcjbpoaaGreatPS3
set_option linter.unusedVariables false
set_option linter.unusedSimpArgs false
set_option linter.defProp false
set_option linter.unusedSectionVars false
set_option maxRecDepth 100000
set_option maxHeartbeats 4000000
namespace Go.Flow
open Go.AM Go.Net
theorem Nxd {T:Int->Option Int} {C D:List (Leg×Int)} (h:C.Perm D):wC T C=wC T D:=by
 induction h with
 | nil=>rfl
 | cons x _ ih=>rw [SY,SY,ih]
 | swap x y l=>simp only [SY];omega
 | trans _ _ a b=>rw [a,b]
theorem BestC.perm {s:List Src} {C D:List (Leg×Int)} {to dl v:Int} {T:Int->Option Int} (h:BestC s C to dl T v) (p:C.Perm D):BestC s D to dl T v:=by
 have e:∀U,wt U s D dl=wt U s C dl:=fun U=>by unfold wt;rw [Nxd p]
 exact ⟨h.no,fun U a=>by rw [e];exact h.le U a,by rw [e];exact h.eq,fun U a he=>h.first U a (by rw [<-e];exact he)⟩
def addN (PL:List (Int×Int)) (x:Int×Int):List (Int×Int):=if x∈PL then PL else PL++[x]
theorem Ndl {PL:List (Int×Int)} {x y:Int×Int}:y∈addN PL x↔y∈PL\/y=x:=by
 unfold addN
 by_cases h:x∈PL
 ·rw [Nk h];exact ⟨.inl,fun h'=>h'.elim id fun e=>by rw [e];exact h⟩
 ·rw [Nf h,Nw,Ni]
theorem Ndm (PL:List (Int×Int)) (x:Int×Int):∃Y,addN PL x=PL++Y:=by
 unfold addN
 by_cases h:x∈PL
 ·exact ⟨[],by rw [Nk h,Na]⟩
 ·exact ⟨[x],by rw [Nf h]⟩
theorem Nbb {PL Y:List (Int×Int)} {x:Int×Int} (h:x∈PL):(PL++Y).idxOf x=PL.idxOf x:=by
 rw [List.idxOf_append,Nk h]
structure PlR (PL:List (Int×Int)) (to:Int):Prop where
 two:2<=PL.length
 g0:gt PL 0=(0,0)
 g1:gt PL 1=(-1,0)
 nd:PL.Nodup
 no:∀v,2<=v->v<PL.length->(gt PL v).1≠to/\1<=(gt PL v).1/\0<=(gt PL v).2
theorem PlR.first {to:Int}:PlR [(0,0),(-1,0)] to:=⟨by simp,rfl,rfl,by simp,fun v h1 h2=>by simp at h2;omega⟩
theorem PlR.add {PL:List (Int×Int)} {to p t:Int} (h:PlR PL to) (h1:p≠to) (h2:1<=p) (m:0<=t):PlR (addN PL (p,t)) to:=by
 unfold addN
 by_cases d:(p,t)∈PL
 ·rw [Nk d];exact h
 ·rw [Nf d]
  have c:∀j,j<PL.length->gt (PL++[(p,t)]) j=gt PL j:=fun j o=>Tk o
  have g:=h.two
  refine ⟨by simp;omega,by rw [c 0 (by omega)];exact h.g0,by rw [c 1 (by omega)];exact h.g1, ?_,fun v a b=>?_⟩
  ·rw [Qa]
   exact ⟨h.nd,by simp,fun a n b f e=>d (by rw [Ni] at f;rw [<-f,<-e];exact n)⟩
  ·rw [Nb,Ow] at b
   by_cases k:v<PL.length
   ·rw [c v k];exact h.no v a k
   ·obtain rfl:v=PL.length:=by omega
    have:=Ww (l:=PL) (r:=[(p,t)]) (i:=0)
    rw [Oj] at this
    rw [this];exact ⟨h1,h2,m⟩
theorem PlR.at {PL:List (Int×Int)} {to p t:Int} (h:PlR PL to) (hp:1<=p) (b:(p,t)∈PL):2<=PL.idxOf (p,t)/\PL.idxOf (p,t)<PL.length/\gt PL (PL.idxOf (p,t))=(p,t):=by
 have hi:=List.idxOf_lt_length_iff.mpr b
 have a:gt PL (PL.idxOf (p,t))=(p,t):=by rw [OJ hi,Qs]
 refine ⟨?_,hi,a⟩
 apply Ns
 intro hc
 rcases (by omega:PL.idxOf (p,t)=0\/PL.idxOf (p,t)=1) with e | e
 ·rw [e,h.g0] at a
  have:=Rw Prod.fst a
  simp at this;omega
 ·rw [e,h.g1] at a
  have:=Rw Prod.fst a
  simp at this;omega
def X3 (PL:List (Int×Int)) (to p t:Int):Nat:=if p=to then 1 else PL.idxOf (p,t)
def XA (PL:List (Int×Int)) (to:Int) (c:Leg×Int):Pr:=⟨X3 PL to c.1.dst (c.2+c.1.mins),PL.idxOf (c.1.frm,c.2-c.1.cut),c.1.grams,0⟩
def Vx (PL:List (Int×Int)) (to dl:Int):List Src->List Pr
 | []=>[]
 | x::s=>(if x.rd<=dl/\x.pl≠to then [⟨PL.idxOf (x.pl,x.rd),0,x.gr,0⟩] else [])++Vx PL to dl s
def U3 (to dl:Int):List Src->Int
 | []=>0
 | x::s=>(if x.rd<=dl/\x.pl=to then x.gr else 0)+U3 to dl s
def TP (PL:List (Int×Int)) (i:Nat):Nat->Int
 | 0=>-1
 | k+1=>if 2<=k/\(gt PL k).1=(gt PL i).1/\(gt PL i).2<(gt PL k).2/\(TP PL i k<0\/(gt PL k).2<(gt PL (TP PL i k).toNat).2) then (k:Int) else TP PL i k
def Ng3 (PL:List (Int×Int)) (i:Nat):List Pr:=if 0<=TP PL i PL.length then [⟨(TP PL i PL.length).toNat,i,VW,0⟩] else []
def Sv (PL:List (Int×Int)):Nat->List Pr
 | 0=>[]
 | i+1=>Sv PL i++(if 2<=i then Ng3 PL i else [])
def grR (PL:List (Int×Int)) (to dl:Int) (s:List Src) (C:List (Leg×Int)):List Pr:=C.map (XA PL to)++Vx PL to dl s++Sv PL PL.length
theorem ZV {PL:List (Int×Int)} {i:Nat}:∀{n:Nat},(TP PL i n=-1/\∀k,2<=k->k<n->¬((gt PL k).1=(gt PL i).1/\(gt PL i).2<(gt PL k).2))\/
  (∃b:Nat,TP PL i n=b/\2<=b/\b<n/\(gt PL b).1=(gt PL i).1/\(gt PL i).2<(gt PL b).2/\∀k,2<=k->k<n->(gt PL k).1=(gt PL i).1->(gt PL i).2<(gt PL k).2->(gt PL b).2<=(gt PL k).2)
 | 0=>.inl ⟨rfl,fun k _ h=>by omega⟩
 | n+1=>by
   have ih:=ZV (PL:=PL) (i:=i) (n:=n)
   unfold TP
   split
   ·rename_i hc
    obtain ⟨m,o,p,c4⟩:=hc
    refine .inr ⟨n,rfl,m,by omega,o,p,fun k h1 h2 a c=>?_⟩
    by_cases d:k=n
    ·rw [d];exact Oa _
    ·rcases ih with ⟨e,h⟩ | ⟨b,e,g,q,j,l,f⟩
     ·exact absurd ⟨a,c⟩ (h k h1 (by omega))
     ·have:=f k h1 (by omega) a c
      rw [e] at c4
      have:((b:Int)).toNat=b:=by omega
      rw [this] at c4
      omega
   ·rename_i hc
    rcases ih with ⟨e,h⟩ | ⟨b,e,g,q,j,l,f⟩
    ·refine .inl ⟨e,fun k h1 h2 a=>?_⟩
     by_cases d:k=n
     ·rw [d] at h1 a
      exact hc ⟨h1,a.1,a.2,.inl (by rw [e];omega)⟩
     ·exact h k h1 (by omega) a
    ·refine .inr ⟨b,e,g,by omega,j,l,fun k h1 h2 a c=>?_⟩
     by_cases d:k=n
     ·rw [d] at h1 a c⊢
      apply Ns
      intro hn
      refine hc ⟨h1,a,c,.inr ?_⟩
      rw [e]
      have:((b:Int)).toNat=b:=by omega
      rw [this];omega
     ·exact f k h1 (by omega) a c
theorem VM {PL:List (Int×Int)} {p:Pr}:∀{n:Nat},p∈Sv PL n↔∃i b:Nat,2<=i/\i<n/\TP PL i PL.length=b/\p=⟨b,i,VW,0⟩
 | 0=>by simp [Sv]
 | n+1=>by
   unfold Sv
   rw [Nw,VM (n:=n)]
   constructor
   ·rintro (⟨i,b,h1,h2,a,c⟩ | h)
    ·exact ⟨i,b,h1,by omega,a,c⟩
    ·split at h
     ·rename_i h2
      unfold Ng3 at h
      split at h
      ·rename_i a
       rw [Ni] at h
       exact ⟨n,(TP PL n PL.length).toNat,h2,by omega,by omega,h⟩
      ·cases h
     ·cases h
   ·rintro ⟨i,b,h1,h2,a,c⟩
    by_cases hi:i=n
    ·right
     rw [hi] at h1 a c
     rw [Nk h1]
     unfold Ng3
     rw [Nk (by omega),a,Ni,c]
     congr 1
    ·exact .inl ⟨i,b,h1,by omega,a,c⟩
theorem Nbw {PL:List (Int×Int)} {to dl:Int} {p:Pr}:∀{s:List Src},p∈Vx PL to dl s->∃x∈s,(x.rd<=dl/\x.pl≠to)/\p=⟨PL.idxOf (x.pl,x.rd),0,x.gr,0⟩
 | [],h=>by cases h
 | x::s,h=>by
   unfold Vx at h
   rcases Nw.1 h with h | h
   ·split at h
    ·rename_i hc
     exact ⟨x,Nm,hc,Ni.1 h⟩
    ·cases h
   ·obtain ⟨y,h1,h2⟩:=Nbw h
    exact ⟨y,Nh _ h1,h2⟩
structure GrR (PL:List (Int×Int)) (to dl:Int) (s:List Src) (C:List (Leg×Int)):Prop where
 pl:PlR PL to
 src:∀x∈s,x.rd<=dl->x.pl≠to->1<=x.pl/\(x.pl,x.rd)∈PL
 way:∀c∈C,(c.1.frm≠to/\1<=c.1.frm/\(c.1.frm,c.2-c.1.cut)∈PL)/\(c.1.dst≠to->1<=c.1.dst/\(c.1.dst,c.2+c.1.mins)∈PL)
section
variable {PL:List (Int×Int)} {to dl:Int} {s:List Src} {C:List (Leg×Int)} {T:Int->Option Int}
theorem Nb2 (h:PlR PL to) {p t:Int} (hp:1<=p) (b:(p,t)∈PL):XB PL T (PL.idxOf (p,t))=!late T p t:=by
 obtain ⟨h1,h2,a⟩:=h.at hp b
 rw [Z8 h1 h2,a]
theorem No2 (b:T to=none) (h:PlR PL to) {p t:Int} (a:p≠to->1<=p/\(p,t)∈PL):XB PL T (X3 PL to p t)=!late T p t:=by
 unfold X3
 by_cases e:p=to
 ·subst e
  unfold late
  rw [Nk rfl,b];rfl
 ·rw [Nf e];exact Nb2 h (a e).1 (a e).2
theorem Nef (a:T to=none) (h:PlR PL to):∀{C:List (Leg×Int)},(∀c∈C,(c.1.frm≠to/\1<=c.1.frm/\(c.1.frm,c.2-c.1.cut)∈PL)/\(c.1.dst≠to->1<=c.1.dst/\(c.1.dst,c.2+c.1.mins)∈PL))->cut (XB PL T) (C.map (XA PL to))=wC T C
 | [],_=>rfl
 | c::C,hC=>by
   have ih:=Nef a h (C:=C) fun y b=>hC y (Nh _ b)
   obtain ⟨h1,h2⟩:=hC c Nm
   unfold wC
   simp only [Pi,cut,ih,XA,No2 a h h2,Nb2 h h1.2.1 h1.2.2]
   cases late T c.1.frm (c.2-c.1.cut)<;>cases late T c.1.dst (c.2+c.1.mins)<;>simp
theorem Nho (a:T to=none) (h:PlR PL to):∀{s:List Src},(∀x∈s,x.rd<=dl->x.pl≠to->1<=x.pl/\(x.pl,x.rd)∈PL)->cut (XB PL T) (Vx PL to dl s)+U3 to dl s=wS T dl s
 | [],_=>rfl
 | x::s,hs=>by
   have ih:=Nho a h (s:=s) fun y b=>hs y (Nh _ b)
   unfold Vx U3 wS
   rw [Xo]
   by_cases hr:x.rd<=dl
   ·by_cases hp:x.pl=to
    ·rw [Nf fun q=>q.2 hp,Nk ⟨hr,hp⟩,Nk ⟨hr,by unfold late;rw [hp,a]⟩]
     simp only [cut];omega
    ·obtain ⟨q1,q2⟩:=hs x Nm hr hp
     rw [Nk ⟨hr,hp⟩,Nf fun q=>hp q.2]
     simp only [cut,Nb2 h q1 q2,hr,Rt]
     cases late T x.pl x.rd
     ·simp;omega
     ·simp [XB];omega
   ·rw [Nf fun q=>hr q.1,Nf fun q=>hr q.1,Nf fun q=>hr q.1]
    simp only [cut];omega
theorem Njh {S:Nat->Bool}:∀{l:List Pr},(∀p∈l,S p.tail=true->S p.head=true)->cut S l=0
 | [],_=>rfl
 | p::l,h=>by
   unfold cut
   rw [Njh fun q a=>h q (Nh _ a)]
   have:=h p Nm
   cases e:S p.tail
   ·simp
   ·rw [this e];simp
theorem Njn (hp:2<=PL.length) {i b:Nat} (h:TP PL i PL.length=(b:Int)):2<=b/\b<PL.length/\(gt PL b).1=(gt PL i).1/\(gt PL i).2<(gt PL b).2:=by
 rcases ZV (PL:=PL) (i:=i) (n:=PL.length) with ⟨e,_⟩ | ⟨b',e,h1,h2,a,c,_⟩
 ·rw [e] at h;omega
 ·have:b'=b:=by omega
  subst this
  exact ⟨h1,h2,a,c⟩
theorem Nl8 (h:PlR PL to):cut (XB PL T) (Sv PL PL.length)=0:=Njh fun p hp a=>by
 obtain ⟨i,b,h1,h2,e,rfl⟩:=VM.1 hp
 obtain ⟨b1,c,d,b4⟩:=Njn h.two e
 change XB PL T i=true at a
 show XB PL T b=true
 rw [Z8 h1 h2] at a
 rw [Z8 b1 c,d]
 unfold late at a⊢
 split at a
 ·rename_i u f
  simp at a⊢;omega
 ·cases a
theorem Nnz (a:T to=none) (h:GrR PL to dl s C):cut (XB PL T) (grR PL to dl s C)+U3 to dl s=wt T s C dl:=by
 unfold grR wt
 rw [Xo,Xo,Nef a h.pl h.way,Nl8 h.pl]
 have:=Nho a h.pl (dl:=dl) h.src
 omega
theorem XZ (h:GrR PL to dl s C) (n:∀x∈s,0<=x.gr) (m:∀c∈C,0<=c.1.grams) {p:Pr} (hp:p∈grR PL to dl s C):p.head<PL.length/\p.tail<PL.length/\0<=p.room/\p.flow=0:=by
 have h2:=h.pl.two
 unfold grR at hp
 rcases Nw.1 hp with hp | hp
 ·rcases Nw.1 hp with hp | hp
  ·obtain ⟨c,hc,rfl⟩:=List.mem_map.1 hp
   obtain ⟨⟨_,a,d⟩,g⟩:=h.way c hc
   refine ⟨?_,(h.pl.at a d).2.1,m c hc,rfl⟩
   show X3 _ _ _ _<_
   unfold X3
   by_cases e:c.1.dst=to
   ·rw [Nk e];omega
   ·rw [Nf e];exact (h.pl.at (g e).1 (g e).2).2.1
  ·obtain ⟨x,f,⟨j,k⟩,rfl⟩:=Nbw hp
   obtain ⟨a,d⟩:=h.src x f j k
   exact ⟨(h.pl.at a d).2.1,by show 0<_;omega,n x f,rfl⟩
 ·obtain ⟨i,b,h1,h2,l,rfl⟩:=VM.1 hp
  exact ⟨(Njn h.pl.two l).2.1,h2,by show 0<=VW;decide,rfl⟩
theorem Nvx (h:GrR PL to dl s C) (b:∀x∈s,0<=x.gr) (a:∀c∈C,0<=c.1.grams):IsFlow PL.length (grR PL to dl s C):=
 ⟨h.pl.two,fun p hp=>⟨(XZ h b a hp).1,(XZ h b a hp).2.1⟩,fun p hp=>⟨(XZ h b a hp).2.2.1,by rw [(XZ h b a hp).2.2.2];exact Oa _⟩,fun v _=>by
  have:∀{l:List Pr},(∀p∈l,p.flow=0)->exc v l=0:=fun {l}=>by
   induction l with
   | nil=>intro _;rfl
   | cons p l ih=>
     intro h
     have:=ih fun q d=>h q (Nh _ d)
     have:=h p Nm
     unfold exc;split<;>split<;>omega
  exact this fun p hp=>(XZ h b a hp).2.2.2⟩
end
def U0 (PL:List (Int×Int)) (R:Nat->Bool) (p:Int):Nat->Int
 | 0=>-1
 | k+1=>if 2<=k/\(gt PL k).1=p/\R k=true/\(U0 PL R p k<0\/(gt PL k).2<U0 PL R p k) then (gt PL k).2 else U0 PL R p k
theorem XK {PL:List (Int×Int)} {R:Nat->Bool} {p:Int} (i:∀v,2<=v->v<PL.length->0<=(gt PL v).2):∀{n:Nat},n<=PL.length->(U0 PL R p n=-1/\∀k,2<=k->k<n->¬((gt PL k).1=p/\R k=true))\/
  (∃b:Nat,U0 PL R p n=(gt PL b).2/\2<=b/\b<n/\(gt PL b).1=p/\R b=true/\∀k,2<=k->k<n->(gt PL k).1=p->R k=true->(gt PL b).2<=(gt PL k).2)
 | 0,_=>.inl ⟨rfl,fun k _ h=>by omega⟩
 | n+1,hn=>by
   have ih:=XK (R:=R) (p:=p) i (n:=n) (by omega)
   unfold U0
   split
   ·rename_i hc
    obtain ⟨m,o,q,c4⟩:=hc
    refine .inr ⟨n,rfl,m,by omega,o,q,fun k h1 h2 a c=>?_⟩
    by_cases d:k=n
    ·rw [d];exact Oa _
    ·rcases ih with ⟨e,h⟩ | ⟨b,e,f,r,j,l,g⟩
     ·exact absurd ⟨a,c⟩ (h k h1 (by omega))
     ·have:=g k h1 (by omega) a c
      have:=i b f (by omega)
      rw [e] at c4
      omega
   ·rename_i hc
    rcases ih with ⟨e,h⟩ | ⟨b,e,f,r,j,l,g⟩
    ·refine .inl ⟨e,fun k h1 h2 a=>?_⟩
     by_cases d:k=n
     ·rw [d] at h1 a
      exact hc ⟨h1,a.1,a.2,.inl (by rw [e];omega)⟩
     ·exact h k h1 (by omega) a
    ·refine .inr ⟨b,e,f,by omega,j,l,fun k h1 h2 a c=>?_⟩
     by_cases d:k=n
     ·rw [d] at h1 a c⊢
      apply Ns
      intro s
      refine hc ⟨h1,a,c,.inr ?_⟩
      rw [e];omega
     ·exact g k h1 (by omega) a c
theorem Nnw {l:List (Int×Int)} (h:l.Nodup) {i j:Nat} {hi:i<l.length} {a:j<l.length} (e:l[i]=l[j]):i=j:=by
 rcases Nat.lt_trichotomy i j with g | g | g
 ·exact absurd e (N5.1 h i j hi a g)
 ·exact g
 ·exact absurd e.symm (N5.1 h j i a hi g)
def tmT (PL:List (Int×Int)) (R:Nat->Bool) (p:Int):Option Int:=if 0<=U0 PL R p PL.length then some (U0 PL R p PL.length) else none
theorem Nwf {S:Nat->Bool}:∀{l:List Pr},(∀p∈l,0<=p.room/\0<=p.flow)->∀p∈l,S p.tail=true->S p.head=false->p.room+p.flow<=cut S l
 | [],_,p,hp,_,_=>by cases hp
 | x::l,h,p,hp,h1,h2=>by
   have hn:=h x Nm
   have hl:0<=cut S l:=by
    have:∀{m:List Pr},(∀p∈m,0<=p.room/\0<=p.flow)->0<=cut S m:=fun {m}=>by
     induction m with
     | nil=>intro _;exact Oa _
     | cons y m ih=>
       intro h
       have:=ih fun q a=>h q (Nh _ a)
       have:=h y Nm
       unfold cut;split<;>omega
    exact this fun q a=>h q (Nh _ a)
   unfold cut
   rcases Nu.1 hp with e | hp
   ·subst e
    rw [h1,h2];simp;omega
   ·have:=Nwf (S:=S) (fun q a=>h q (Nh _ a)) p hp h1 h2
    split<;>omega
theorem Nsu {PL:List (Int×Int)} {to dl:Int} {s:List Src} {C:List (Leg×Int)} {l:List Pr} {R:Nat->Bool} (h:GrR PL to dl s C) (M:Alike (grR PL to dl s C) l) (H:IsFlow PL.length l)
  (B:∀x∈s,0<=x.gr) (N:∀c∈C,0<=c.1.grams) (P:ZY s<VW)
  (L:R 0=true) (h1:R 1=false) (hc:Closed R l) (k:∀S:Nat->Bool,S 0=true->Closed S l->∀v,v<PL.length->R v=true->S v=true) :
  BestC s C to dl (tmT PL R) (exc 1 l+U3 to dl s)/\∀v,2<=v->v<PL.length->R v=!late (tmT PL R) (gt PL v).1 (gt PL v).2:=by
 have Q:=h.pl.two
 have o:∀U,U to=none->cut (XB PL U) l+U3 to dl s=wt U s C dl:=fun U W=>by rw [M.cut,Nnz W h]
 have f:∀v,2<=v->v<PL.length->0<=(gt PL v).2:=fun v a b=>(h.pl.no v a b).2.2
 have Y:0<=U3 to dl s:=by
  have:∀{s:List Src},(∀x∈s,0<=x.gr)->0<=U3 to dl s:=fun {s}=>by
   induction s with
   | nil=>intro _;exact Oa _
   | cons x s ih=>
     intro h
     have:=ih fun y hy=>h y (Nh _ hy)
     have:=h x Nm
     unfold U3;split<;>omega
  exact this B
 have z:∀i b:Nat,2<=i->i<PL.length->TP PL i PL.length=b->R i=true->R b=true:=fun i b h2 hi X j=>by
  cases e:R b with
  | true=>rfl
  | false=>
    exfalso
    have Z:(⟨b,i,VW,0⟩:Pr)∈grR PL to dl s C:=N1 _ (VM.2 ⟨i,b,h2,hi,X,rfl⟩)
    have I:=Nwf (S:=R) (fun p hp=>⟨(XZ h B N hp).2.2.1,by rw [(XZ h B N hp).2.2.2];exact Oa _⟩) _ Z j e
    simp only at I
    have q:=H.eq_cut L h1 hc
    rw [M.cut] at q
    have J:=H.le_cut (S:=XB PL noT) rfl rfl
    have hw:=o noT rfl
    have ac:=Mi (T:=noT) (dl:=dl) B
    unfold wt at hw
    rw [Nbm] at hw
    omega
 have K:∀(m v v':Nat),2<=v->v<PL.length->2<=v'->v'<PL.length->(gt PL v').1=(gt PL v).1->(gt PL v).2<(gt PL v').2->((gt PL v').2-(gt PL v).2).toNat<=m->R v=true->R v'=true:=by
  intro m
  induction m with
  | zero=>intro v v' _ _ _ _ _ r G;omega
  | succ m ih=>
    intro v v' h2 V F A r G h8 j
    rcases ZV (PL:=PL) (i:=v) (n:=PL.length) with ⟨_,hn⟩ | ⟨b,e,b1,d,g,b4,E⟩
    ·exact absurd ⟨r,G⟩ (hn v' F A)
    ·have u:=z v b h2 V e j
     have J:=E v' F A r G
     by_cases ht:(gt PL b).2=(gt PL v').2
     ·have w:gt PL b=gt PL v':=R4 (g.trans r.symm) ht
      rw [OJ d,OJ A] at w
      have:=Nnw h.pl.nd w
      rw [<-this];exact u
     ·exact ih b v' b1 d F A (r.trans g.symm) (by omega) (by omega) u
 have O:∀v,2<=v->v<PL.length->R v=!late (tmT PL R) (gt PL v).1 (gt PL v).2:=fun v h2 D=>by
  unfold late tmT
  rcases XK (R:=R) (p:=(gt PL v).1) f (Ng _) with ⟨e,hn⟩ | ⟨b,e,b1,d,g,b4,E⟩
  ·rw [e]
   cases j:R v with
   | false=>rfl
   | true=>exact absurd ⟨rfl,j⟩ (hn v h2 D)
  ·rw [e,Nk (f b b1 d)]
   cases j:R v with
   | true=>have:=E v h2 D rfl j;simp;omega
   | false=>
     simp only [Bool.false_eq,Bool.not_eq_false',N3]
     apply Ns
     intro aa
     by_cases q:(gt PL b).2=(gt PL v).2
     ·have w:gt PL b=gt PL v:=R4 g q
      rw [OJ d,OJ D] at w
      have:=Nnw h.pl.nd w
      rw [this,j] at b4;cases b4
     ·have:=K _ b v b1 d h2 D g.symm (by omega) (Ng _) b4
      rw [j] at this;cases this
 refine ⟨Nw2 H o L h1 hc k ?_ O (fun p t hp=>?_),O⟩
 ·unfold tmT
  rcases XK (R:=R) (p:=to) f (Ng _) with ⟨e,_⟩ | ⟨b,_,b1,d,g,_⟩
  ·rw [e];rfl
  ·exact absurd g (h.pl.no b b1 d).1
 ·unfold tmT at hp
  rcases XK (R:=R) (p:=p) f (Ng _) with ⟨e,_⟩ | ⟨b,e,b1,d,g,b4,_⟩
  ·rw [e] at hp;cases hp
  ·rw [e,Nk (f b b1 d)] at hp
   cases hp
   exact ⟨b,b1,d,b4,R4 g rfl⟩
theorem Closed.arc {S:Nat->Bool} {l:List Pr} (h:Closed S l) {i:Nat} (hi:i / 2<l.length) (h1:S (tl l i)=true) (h2:S (hd l i)=false):rm l i=0:=by
 obtain ⟨a,b⟩:=h _ (PK hi)
 unfold tl at h1;unfold hd at h2;unfold rm
 by_cases e:i % 2=0
 ·rw [Nk e] at h1 h2⊢;exact a h1 h2
 ·rw [Nf e] at h1 h2⊢;exact b h2 h1
theorem Nq9 {S:Nat->Bool} {l:List Pr} (hn:∀p∈l,0<=p.room/\0<=p.flow) (h:∀i,i / 2<l.length->S (tl l i)=true->0<rm l i->S (hd l i)=true):Closed S l:=fun p hp=>by
 obtain ⟨j,d,rfl⟩:=List.mem_iff_getElem.1 hp
 obtain ⟨e,f⟩:=hn _ hp
 have a:=h (2*j) (by omega)
 have b:=h (2*j+1) (by omega)
 have e1:(2*j+1) / 2=j:=by omega
 have e2:¬(2*j+1) % 2=0:=by omega
 rw [Na4,Nbc,Xc,OJ d] at a
 unfold tl hd rm at b
 rw [Nf e2,Nf e2,Nf e2,e1,OJ d] at b
 refine ⟨fun x y=>?_,fun x y=>?_⟩
 ·apply Ns
  intro c
  rw [a x (by omega)] at y;cases y
 ·apply Ns
  intro c
  rw [b y (by omega)] at x;cases x
structure Rch (l:List Pr) (n:Nat) (hw:List (Option Nat)) (q:List Nat) (qi k:Nat):Prop where
 len:hw.length=n
 nd:q.Nodup
 ne:0<q.length
 z:gt q 0=0
 lt:∀v∈q,v<n
 iff:∀v,v<n->((gt hw v).isSome=true↔v∈q)
 par:∀j,0<j->j<q.length->∃i j',gt hw (gt q j)=some i/\i / 2<l.length/\hd l i=gt q j/\0<rm l i/\j'<j/\tl l i=gt q j'
 cl:∀j i,j<q.length->i / 2<l.length->(j<qi\/j=qi/\i / 2<k)->tl l i=gt q j->0<rm l i->hd l i∈q
section
variable {l:List Pr} {n:Nat} {hw:List (Option Nat)} {q:List Nat} {qi k:Nat}
theorem Rch.start (hn:0<n):Rch l n ((List.replicate n none).set 0 (some (2*l.length))) [0] 0 0:=by
 refine ⟨by simp,by simp,by simp,rfl,fun v a=>by rw [Ni.1 a];exact hn,fun v a=>?_,fun j h1 h2=>by simp at h2;omega,fun j i h1 h2 b=>by omega⟩
 rw [gt_set (by simpa using hn),Ni]
 by_cases e:v=0
 ·rw [Nk e];simp [e]
 ·rw [Nf e,OJ (by simpa using a)];simp [e]
theorem Rch.add (h:Rch l n hw q qi k) (p:qi<q.length) {i:Nat} (hi:i / 2<l.length) (w:tl l i=gt q qi) (hr:0<rm l i) (hn:hd l i∉q) (hl:hd l i<n):Rch l n (hw.set (hd l i) (some i)) (q++[hd l i]) qi k:=by
 have f:∀j,j<q.length->gt (q++[hd l i]) j=gt q j:=fun j c=>Tk c
 have g:gt (q++[hd l i]) q.length=hd l i:=by
  have:=Ww (l:=q) (r:=[hd l i]) (i:=0)
  rw [Oj] at this;exact this
 have d:hd l i<hw.length:=by rw [h.len];exact hl
 refine ⟨by rw [Pd];exact h.len, ?_,by simp,by rw [f 0 h.ne];exact h.z,fun v hv=>?_,fun v hv=>?_,fun j h1 h2=>?_,fun j x h1 h2 s m t=>?_⟩
 ·rw [Qa]
  exact ⟨h.nd,by simp,fun a u b o e=>hn (by rw [Ni] at o;rw [<-o,<-e];exact u)⟩
 ·rcases Nw.1 hv with hv | hv
  ·exact h.lt v hv
  ·rw [Ni.1 hv];exact hl
 ·rw [gt_set d,Nw,Ni]
  by_cases e:v=hd l i
  ·rw [Nk e];simp [e]
  ·rw [Nf e,h.iff v hv];simp [e]
 ·rw [Nb,Ow] at h2
  by_cases c:j<q.length
  ·obtain ⟨x,j',p1,p2,p3,p4,p5,p6⟩:=h.par j h1 c
   refine ⟨x,j', ?_,p2, ?_,p4,p5, ?_⟩
   ·rw [f j c,gt_set d,Nf fun e=>hn (by rw [<-e];exact PK c)];exact p1
   ·rw [f j c];exact p3
   ·rw [f j' (by omega)];exact p6
  ·obtain rfl:j=q.length:=by omega
   refine ⟨i,qi, ?_,hi,g.symm,hr,p,by rw [f _ p];exact w⟩
   rw [g,gt_set d,Nk rfl]
 ·rw [Nb,Ow] at h1
  have c:j<q.length:=by omega
  rw [f j c] at m
  exact Ny _ (h.cl j x c h2 s m t)
theorem Rch.next (h:Rch l n hw q qi k) (d:∀i,i / 2=k->tl l i=gt q qi->0<rm l i->hd l i∈q):Rch l n hw q qi (k+1):=
 { h with
   cl:=fun j i h1 h2 a b c=>by
    rcases a with a | ⟨a,e⟩
    ·exact h.cl j i h1 h2 (.inl a) b c
    ·rcases Om (i / 2) k with h7 | h7
     ·exact h.cl j i h1 h2 (.inr ⟨a,h7⟩) b c
     ·rw [a] at b
      exact d i (by omega) b c }
theorem Rch.turn (h:Rch l n hw q qi k) (d:l.length<=k):Rch l n hw q (qi+1) 0:=
 { h with
   cl:=fun j i h1 h2 c a b=>by
    rcases (by omega:j<qi\/j=qi) with h6 | h6
    ·exact h.cl j i h1 h2 (.inl h6) a b
    ·exact h.cl j i h1 h2 (.inr ⟨h6,by omega⟩) a b }
theorem Rch.len_le (h:Rch l n hw q qi k):q.length<=n:=by
 have:=List.Nodup.length_le_of_subset h.nd (fun v a=>List.mem_range.2 (h.lt v a):q ⊆ List.range n)
 simpa using this
theorem Rch.closed (h:Rch l n hw q qi k) (b:q.length<=qi) (hn:∀p∈l,0<=p.room/\0<=p.flow):Closed (fun v=>decide (v∈q)) l:=Nq9 hn fun i hi h1 h2=>by
 have h1:=Ru h1
 obtain ⟨j,a,e⟩:=List.mem_iff_getElem.1 h1
 exact No (h.cl j i a hi (.inl (by omega)) (by rw [OJ a];exact e.symm) h2)
theorem Rch.all (h:Rch l n hw q qi k) {S:Nat->Bool} (a:S 0=true) (hc:Closed S l):∀(m j:Nat),j<=m->j<q.length->S (gt q j)=true
 | 0,j,hm,hj=>by
   obtain rfl:j=0:=by omega
   rw [h.z];exact a
 | m+1,j,hm,hj=>by
   by_cases b:j=0
   ·rw [b,h.z];exact a
   ·obtain ⟨i,j',_,p2,p3,p4,p5,p6⟩:=h.par j (by omega) hj
    have ih:=h.all a hc m j' (by omega) (by omega)
    rw [<-p6] at ih
    rw [<-p3]
    cases e:S (hd l i) with
    | true=>rfl
    | false=>have:=hc.arc p2 ih e;omega
theorem Rch.reach (h:Rch l n hw q qi k) {S:Nat->Bool} (b:S 0=true) (hc:Closed S l) {v:Nat} (c:v∈q):S v=true:=by
 obtain ⟨j,a,e⟩:=List.mem_iff_getElem.1 c
 have:=h.all b hc j j (Ng _) a
 rw [OJ a,e] at this;exact this
def arN (hw:List (Option Nat)) (v:Nat):Nat:=(gt hw v).getD 0
def M3 (l:List Pr) (hw:List (Option Nat)) (v:Nat):Nat:=tl l (arN hw v)
def Mw (l:List Pr) (hw:List (Option Nat)):Nat->Nat
 | 0=>1
 | m+1=>M3 l hw (Mw l hw m)
theorem ME:∀{q:List Nat} {j:Nat},q.Nodup->j<q.length->q.idxOf (gt q j)=j
 | [],j,_,h=>by simp at h
 | a::q,0,_,_=>by show (a::q).idxOf a=0;simp
 | a::q,j+1,h,hj=>by
   obtain ⟨h1,h2⟩:=List.nodup_cons.1 h
   have b:j<q.length:=by simpa using hj
   rw [OT,List.idxOf_cons,cond_eq_ite,Nf,ME h2 b]
   intro e
   rw [beq_iff_eq] at e
   exact h1 (by rw [e];exact PK b)
theorem Rch.up (h:Rch l n hw q qi k) {v:Nat} (f:v∈q) (g:v≠0):gt hw v=some (arN hw v)/\arN hw v / 2<l.length/\hd l (arN hw v)=v/\0<rm l (arN hw v)/\M3 l hw v∈q/\q.idxOf (M3 l hw v)<q.idxOf v:=by
 obtain ⟨j,b,e⟩:=List.mem_iff_getElem.1 f
 have a:gt q j=v:=by rw [OJ b];exact e
 have c:0<j:=by
  apply Ns
  intro hc
  obtain rfl:j=0:=by omega
  rw [h.z] at a;exact g a.symm
 obtain ⟨i,j',p1,p2,p3,p4,p5,p6⟩:=h.par j c b
 rw [a] at p1 p3
 have d:arN hw v=i:=by unfold arN;rw [p1];rfl
 unfold M3
 rw [d,p6,ME h.nd (by omega),<-a,ME h.nd b]
 exact ⟨by rw [a];exact p1,p2,by rw [a];exact p3,p4,PK (by omega),p5⟩
structure Aug (l l':List Pr) (hw:List (Option Nat)) (q:List Nat) (d:Int) (v:Nat):Prop where
 mem:v∈q
 same:Alike l l'
 nn:∀i,i / 2<l.length->0<=rm l' i
 exc:∀u,exc u l'=Flow.exc u l+(if u=1 then d else 0)-(if u=v then d else 0)
 keep:∀u∈q,q.idxOf u<=q.idxOf v->u≠0->rm l' (arN hw u)=rm l (arN hw u)
theorem rm_nn {l:List Pr} (hn:∀p∈l,0<=p.room/\0<=p.flow) {i:Nat} (hi:i / 2<l.length):0<=rm l i:=by
 obtain ⟨a,b⟩:=hn _ (PK hi)
 unfold rm;split<;>omega
theorem Aug.start (hn:∀p∈l,0<=p.room/\0<=p.flow) (h1:1∈q) {d:Int}:Aug l l hw q d 1:=⟨h1,.refl,fun i hi=>rm_nn hn hi,fun u=>by omega,fun _ _ _ _=>rfl⟩
theorem Aug.step {l':List Pr} {d:Int} {v:Nat} (h:Aug l l' hw q d v) (p:Rch l n hw q qi k) (s:v≠0) (x:0<=d) (y:d<=rm l (arN hw v)):Aug l (RB l' (arN hw v) d) hw q d (M3 l hw v):=by
 obtain ⟨C,z,g,D,A,E⟩:=p.up h.mem s
 have hi:arN hw v / 2<l'.length:=by rw [h.same.len];exact z
 have f:=h.keep v h.mem (Ng _) s
 refine ⟨A,h.same.trans (.push hi),fun i b=>?_,fun u=>?_,fun u r c a=>?_⟩
 ·have:=h.nn i b
  rw [VZ hi]
  split
  ·rw [f];omega
  ·split<;>omega
 ·rw [Nje hi,h.exc u,h.same.hd,h.same.tl,g]
  unfold M3
  by_cases j:u=v<;>by_cases m:u=1<;>by_cases o:u=tl l (arN hw v)
  all_goals
   have b1:(v=u)=(u=v):=propext ⟨Rs,Rs⟩
   have w:(tl l (arN hw v)=u)=(u=tl l (arN hw v)):=propext ⟨Rs,Rs⟩
   simp only [b1,w,j,m,o,if_true,if_false]
  all_goals (try simp only [j,m,o,if_true,if_false])
  all_goals (first | omega | skip)
 ·obtain ⟨F,G,t,H,I,B⟩:=p.up r a
  rw [VZ hi,Nf fun e=>?_,Nf fun e=>?_]
  ·exact h.keep u r (by omega) a
  ·have:M3 l hw u=v:=by unfold M3;rw [e,Nmt];exact g
   rw [this] at B;omega
  ·rw [e,g] at t
   rw [<-t] at c;omega
theorem Aug.fin {l':List Pr} {d:Int} (h:Aug l l' hw q d 0) (c:IsFlow n l):IsFlow n l'/\Flow.exc 1 l'=Flow.exc 1 l+d:=by
 refine ⟨⟨c.two,fun p hp=>?_,fun p hp=>?_,fun v e=>?_⟩, ?_⟩
 ·obtain ⟨j,b,rfl⟩:=List.mem_iff_getElem.1 hp
  have a:j<l.length:=by have:=h.same.len;omega
  obtain ⟨e1,e2⟩:=h.same.gts j
  have:=c.lt _ (PK (l:=l) a)
  rw [OJ b] at e1 e2
  rw [e1,e2];exact this
 ·obtain ⟨j,b,rfl⟩:=List.mem_iff_getElem.1 hp
  have a:j<l.length:=by have:=h.same.len;omega
  have h1:=h.nn (2*j) (by omega)
  have h2:=h.nn (2*j+1) (by omega)
  rw [Xc,OJ b] at h1
  rw [YY,OJ b] at h2
  exact ⟨h1,h2⟩
 ·rw [h.exc,Nf (by omega),Nf (by omega),c.bal v e];rfl
 ·rw [h.exc,Nk rfl,Nf (by omega)];omega
end
end Go.Flow


