/-
  Joined texts, 4 of 10. A part of the claim that the last text states.
-/
import Derived.Test.YtohnaffmcjbpoaaGreatPT3
set_option linter.unusedVariables false
set_option linter.unusedSimpArgs false
set_option linter.defProp false
set_option linter.unusedSectionVars false
set_option maxRecDepth 100000
set_option maxHeartbeats 4000000
namespace Go.Flow
open Go.AM Go.Net
theorem Nx1 {T:Int->Option Int} {C D:List (Leg×Int)} (h:C.Perm D):wC T C=wC T D:=by
 induction h with
 | nil=>rfl
 | cons x _ ih=>rw [SY,SY,ih]
 | swap x y l=>simp only [SY];omega
 | trans _ _ a b=>rw [a,b]
theorem BestC.perm {s:List Src} {C D:List (Leg×Int)} {to dl v:Int} {T:Int->Option Int} (h:BestC s C to dl T v) (p:C.Perm D):BestC s D to dl T v:=by
 have e:∀U,wt U s D dl=wt U s C dl:=fun U=>by unfold wt;rw [Nx1 p]
 exact ⟨h.no,fun U a=>by rw [e];exact h.le U a,by rw [e];exact h.eq,fun U a he=>h.first U a (by rw [<-e];exact he)⟩
def addN (PL:List (Int×Int)) (x:Int×Int):List (Int×Int):=if x∈PL then PL else PL++[x]
theorem Nds {PL:List (Int×Int)} {x y:Int×Int}:y∈addN PL x↔y∈PL\/y=x:=by
 unfold addN
 by_cases h:x∈PL
 ·rw [Nh h];exact ⟨.inl,fun h'=>h'.elim id fun e=>by rw [e];exact h⟩
 ·rw [Nf h,Nv,Nj]
theorem Ndt (PL:List (Int×Int)) (x:Int×Int):∃Y,addN PL x=PL++Y:=by
 unfold addN
 by_cases h:x∈PL
 ·exact ⟨[],by rw [Nh h,Na]⟩
 ·exact ⟨[x],by rw [Nf h]⟩
theorem Nbh {PL Y:List (Int×Int)} {x:Int×Int} (h:x∈PL):(PL++Y).idxOf x=PL.idxOf x:=by
 rw [List.idxOf_append,Nh h]
structure PlR (PL:List (Int×Int)) (to:Int):Prop where
 two:2<=PL.length
 g0:gt PL 0=(0,0)
 g1:gt PL 1=(-1,0)
 nd:PL.Nodup
 no:∀v,2<=v->v<PL.length->(gt PL v).1≠to/\1<=(gt PL v).1/\0<=(gt PL v).2
theorem PlR.first {to:Int}:PlR [(0,0),(-1,0)] to:=⟨by simp,rfl,rfl,by simp,fun v h1 h2=>by simp at h2;omega⟩
theorem PlR.add {PL:List (Int×Int)} {to p t:Int} (h:PlR PL to) (h1:p≠to) (h2:1<=p) (m:0<=t):PlR (addN PL (p,t)) to:=by
 unfold addN
 by_cases d:(p,t)∈PL
 ·rw [Nh d];exact h
 ·rw [Nf d]
  have c:∀j,j<PL.length->gt (PL++[(p,t)]) j=gt PL j:=fun j o=>Sk o
  have g:=h.two
  refine ⟨by simp;omega,by rw [c 0 (by omega)];exact h.g0,by rw [c 1 (by omega)];exact h.g1, ?_,fun v a b=>?_⟩
  ·rw [Qa]
   exact ⟨h.nd,by simp,fun a n b f e=>d (by rw [Nj] at f;rw [<-f,<-e];exact n)⟩
  ·rw [Nb,Ow] at b
   by_cases k:v<PL.length
   ·rw [c v k];exact h.no v a k
   ·obtain rfl:v=PL.length:=by omega
    have:=Uj (l:=PL) (r:=[(p,t)]) (i:=0)
    rw [Od] at this
    rw [this];exact ⟨h1,h2,m⟩
theorem PlR.at {PL:List (Int×Int)} {to p t:Int} (h:PlR PL to) (hp:1<=p) (b:(p,t)∈PL):2<=PL.idxOf (p,t)/\PL.idxOf (p,t)<PL.length/\gt PL (PL.idxOf (p,t))=(p,t):=by
 have hi:=List.idxOf_lt_length_iff.mpr b
 have a:gt PL (PL.idxOf (p,t))=(p,t):=by rw [OI hi,Qr]
 refine ⟨?_,hi,a⟩
 apply Ns
 intro hc
 rcases (by omega:PL.idxOf (p,t)=0\/PL.idxOf (p,t)=1) with e | e
 ·rw [e,h.g0] at a
  have:=Rw Prod.fst a
  simp at this;omega
 ·rw [e,h.g1] at a
  have:=Rw Prod.fst a
  simp at this;omega
def X5 (PL:List (Int×Int)) (to p t:Int):Nat:=if p=to then 1 else PL.idxOf (p,t)
def XB (PL:List (Int×Int)) (to:Int) (c:Leg×Int):Pr:=⟨X5 PL to c.1.dst (c.2+c.1.mins),PL.idxOf (c.1.frm,c.2-c.1.cut),c.1.grams,0⟩
def Vv (PL:List (Int×Int)) (to dl:Int):List Src->List Pr
 | []=>[]
 | x::s=>(if x.rd<=dl/\x.pl≠to then [⟨PL.idxOf (x.pl,x.rd),0,x.gr,0⟩] else [])++Vv PL to dl s
def U4 (to dl:Int):List Src->Int
 | []=>0
 | x::s=>(if x.rd<=dl/\x.pl=to then x.gr else 0)+U4 to dl s
def TR (PL:List (Int×Int)) (i:Nat):Nat->Int
 | 0=>-1
 | k+1=>if 2<=k/\(gt PL k).1=(gt PL i).1/\(gt PL i).2<(gt PL k).2/\(TR PL i k<0\/(gt PL k).2<(gt PL (TR PL i k).toNat).2) then (k:Int) else TR PL i k
def Nhh (PL:List (Int×Int)) (i:Nat):List Pr:=if 0<=TR PL i PL.length then [⟨(TR PL i PL.length).toNat,i,VW,0⟩] else []
def Sr (PL:List (Int×Int)):Nat->List Pr
 | 0=>[]
 | i+1=>Sr PL i++(if 2<=i then Nhh PL i else [])
def grR (PL:List (Int×Int)) (to dl:Int) (s:List Src) (C:List (Leg×Int)):List Pr:=C.map (XB PL to)++Vv PL to dl s++Sr PL PL.length
theorem ZX {PL:List (Int×Int)} {i:Nat}:∀{n:Nat},(TR PL i n=-1/\∀k,2<=k->k<n->¬((gt PL k).1=(gt PL i).1/\(gt PL i).2<(gt PL k).2))\/
  (∃b:Nat,TR PL i n=b/\2<=b/\b<n/\(gt PL b).1=(gt PL i).1/\(gt PL i).2<(gt PL b).2/\∀k,2<=k->k<n->(gt PL k).1=(gt PL i).1->(gt PL i).2<(gt PL k).2->(gt PL b).2<=(gt PL k).2)
 | 0=>.inl ⟨rfl,fun k _ h=>by omega⟩
 | n+1=>by
   have ih:=ZX (PL:=PL) (i:=i) (n:=n)
   unfold TR
   split
   ·rename_i hc
    obtain ⟨c1,c2,c3,c4⟩:=hc
    refine .inr ⟨n,rfl,c1,by omega,c2,c3,fun k h1 h2 a c=>?_⟩
    by_cases d:k=n
    ·rw [d];exact Oc _
    ·rcases ih with ⟨e,h⟩ | ⟨b,e,g,m,j,l,f⟩
     ·exact absurd ⟨a,c⟩ (h k h1 (by omega))
     ·have:=f k h1 (by omega) a c
      rw [e] at c4
      have:((b:Int)).toNat=b:=by omega
      rw [this] at c4
      omega
   ·rename_i hc
    rcases ih with ⟨e,h⟩ | ⟨b,e,g,m,j,l,f⟩
    ·refine .inl ⟨e,fun k h1 h2 a=>?_⟩
     by_cases d:k=n
     ·rw [d] at h1 a
      exact hc ⟨h1,a.1,a.2,.inl (by rw [e];omega)⟩
     ·exact h k h1 (by omega) a
    ·refine .inr ⟨b,e,g,by omega,j,l,fun k h1 h2 a c=>?_⟩
     by_cases d:k=n
     ·rw [d] at h1 a c⊢
      apply Ns
      intro hn
      refine hc ⟨h1,a,c,.inr ?_⟩
      rw [e]
      have:((b:Int)).toNat=b:=by omega
      rw [this];omega
     ·exact f k h1 (by omega) a c
theorem VM {PL:List (Int×Int)} {p:Pr}:∀{n:Nat},p∈Sr PL n↔∃i b:Nat,2<=i/\i<n/\TR PL i PL.length=b/\p=⟨b,i,VW,0⟩
 | 0=>by simp [Sr]
 | n+1=>by
   unfold Sr
   rw [Nv,VM (n:=n)]
   constructor
   ·rintro (⟨i,b,h1,h2,a,c⟩ | h)
    ·exact ⟨i,b,h1,by omega,a,c⟩
    ·split at h
     ·rename_i h2
      unfold Nhh at h
      split at h
      ·rename_i a
       rw [Nj] at h
       exact ⟨n,(TR PL n PL.length).toNat,h2,by omega,by omega,h⟩
      ·cases h
     ·cases h
   ·rintro ⟨i,b,h1,h2,a,c⟩
    by_cases hi:i=n
    ·right
     rw [hi] at h1 a c
     rw [Nh h1]
     unfold Nhh
     rw [Nh (by omega),a,Nj,c]
     congr 1
    ·exact .inl ⟨i,b,h1,by omega,a,c⟩
theorem Nb2 {PL:List (Int×Int)} {to dl:Int} {p:Pr}:∀{s:List Src},p∈Vv PL to dl s->∃x∈s,(x.rd<=dl/\x.pl≠to)/\p=⟨PL.idxOf (x.pl,x.rd),0,x.gr,0⟩
 | [],h=>by cases h
 | x::s,h=>by
   unfold Vv at h
   rcases Nv.1 h with h | h
   ·split at h
    ·rename_i hc
     exact ⟨x,Nn,hc,Nj.1 h⟩
    ·cases h
   ·obtain ⟨y,h1,h2⟩:=Nb2 h
    exact ⟨y,Ni _ h1,h2⟩
structure GrR (PL:List (Int×Int)) (to dl:Int) (s:List Src) (C:List (Leg×Int)):Prop where
 pl:PlR PL to
 src:∀x∈s,x.rd<=dl->x.pl≠to->1<=x.pl/\(x.pl,x.rd)∈PL
 way:∀c∈C,(c.1.frm≠to/\1<=c.1.frm/\(c.1.frm,c.2-c.1.cut)∈PL)/\(c.1.dst≠to->1<=c.1.dst/\(c.1.dst,c.2+c.1.mins)∈PL)
section
variable {PL:List (Int×Int)} {to dl:Int} {s:List Src} {C:List (Leg×Int)} {T:Int->Option Int}
theorem Nb8 (h:PlR PL to) {p t:Int} (hp:1<=p) (b:(p,t)∈PL):XD PL T (PL.idxOf (p,t))=!late T p t:=by
 obtain ⟨h1,h2,a⟩:=h.at hp b
 rw [Z9 h1 h2,a]
theorem Npo (b:T to=none) (h:PlR PL to) {p t:Int} (a:p≠to->1<=p/\(p,t)∈PL):XD PL T (X5 PL to p t)=!late T p t:=by
 unfold X5
 by_cases e:p=to
 ·subst e
  unfold late
  rw [Nh rfl,b];rfl
 ·rw [Nf e];exact Nb8 h (a e).1 (a e).2
theorem Nen (a:T to=none) (h:PlR PL to):∀{C:List (Leg×Int)},(∀c∈C,(c.1.frm≠to/\1<=c.1.frm/\(c.1.frm,c.2-c.1.cut)∈PL)/\(c.1.dst≠to->1<=c.1.dst/\(c.1.dst,c.2+c.1.mins)∈PL))->cut (XD PL T) (C.map (XB PL to))=wC T C
 | [],_=>rfl
 | c::C,hC=>by
   have ih:=Nen a h (C:=C) fun y b=>hC y (Ni _ b)
   obtain ⟨h1,h2⟩:=hC c Nn
   unfold wC
   simp only [Pk,cut,ih,XB,Npo a h h2,Nb8 h h1.2.1 h1.2.2]
   cases late T c.1.frm (c.2-c.1.cut)<;>cases late T c.1.dst (c.2+c.1.mins)<;>simp
theorem Nh5 (a:T to=none) (h:PlR PL to):∀{s:List Src},(∀x∈s,x.rd<=dl->x.pl≠to->1<=x.pl/\(x.pl,x.rd)∈PL)->cut (XD PL T) (Vv PL to dl s)+U4 to dl s=wS T dl s
 | [],_=>rfl
 | x::s,hs=>by
   have ih:=Nh5 a h (s:=s) fun y b=>hs y (Ni _ b)
   unfold Vv U4 wS
   rw [Xp]
   by_cases hr:x.rd<=dl
   ·by_cases hp:x.pl=to
    ·rw [Nf fun q=>q.2 hp,Nh ⟨hr,hp⟩,Nh ⟨hr,by unfold late;rw [hp,a]⟩]
     simp only [cut];omega
    ·obtain ⟨q1,q2⟩:=hs x Nn hr hp
     rw [Nh ⟨hr,hp⟩,Nf fun q=>hp q.2]
     simp only [cut,Nb8 h q1 q2,hr,Rt]
     cases late T x.pl x.rd
     ·simp;omega
     ·simp [XD];omega
   ·rw [Nf fun q=>hr q.1,Nf fun q=>hr q.1,Nf fun q=>hr q.1]
    simp only [cut];omega
theorem Njy {S:Nat->Bool}:∀{l:List Pr},(∀p∈l,S p.tail=true->S p.head=true)->cut S l=0
 | [],_=>rfl
 | p::l,h=>by
   unfold cut
   rw [Njy fun q a=>h q (Ni _ a)]
   have:=h p Nn
   cases e:S p.tail
   ·simp
   ·rw [this e];simp
theorem Nj4 (hp:2<=PL.length) {i b:Nat} (h:TR PL i PL.length=(b:Int)):2<=b/\b<PL.length/\(gt PL b).1=(gt PL i).1/\(gt PL i).2<(gt PL b).2:=by
 rcases ZX (PL:=PL) (i:=i) (n:=PL.length) with ⟨e,_⟩ | ⟨b',e,h1,h2,a,c,_⟩
 ·rw [e] at h;omega
 ·have:b'=b:=by omega
  subst this
  exact ⟨h1,h2,a,c⟩
theorem Nms (h:PlR PL to):cut (XD PL T) (Sr PL PL.length)=0:=Njy fun p hp a=>by
 obtain ⟨i,b,h1,h2,c,rfl⟩:=VM.1 hp
 obtain ⟨b1,b2,b3,d⟩:=Nj4 h.two c
 change XD PL T i=true at a
 show XD PL T b=true
 rw [Z9 h1 h2] at a
 rw [Z9 b1 b2,b3]
 unfold late at a⊢
 split at a
 ·rename_i u e
  simp at a⊢;omega
 ·cases a
theorem Nol (a:T to=none) (h:GrR PL to dl s C):cut (XD PL T) (grR PL to dl s C)+U4 to dl s=wt T s C dl:=by
 unfold grR wt
 rw [Xp,Xp,Nen a h.pl h.way,Nms h.pl]
 have:=Nh5 a h.pl (dl:=dl) h.src
 omega
theorem XY (h:GrR PL to dl s C) (l:∀x∈s,0<=x.gr) (k:∀c∈C,0<=c.1.grams) {p:Pr} (hp:p∈grR PL to dl s C):p.head<PL.length/\p.tail<PL.length/\0<=p.room/\p.flow=0:=by
 have h2:=h.pl.two
 unfold grR at hp
 rcases Nv.1 hp with hp | hp
 ·rcases Nv.1 hp with hp | hp
  ·obtain ⟨c,hc,rfl⟩:=List.mem_map.1 hp
   obtain ⟨⟨_,a,d⟩,g⟩:=h.way c hc
   refine ⟨?_,(h.pl.at a d).2.1,k c hc,rfl⟩
   show X5 _ _ _ _<_
   unfold X5
   by_cases e:c.1.dst=to
   ·rw [Nh e];omega
   ·rw [Nf e];exact (h.pl.at (g e).1 (g e).2).2.1
  ·obtain ⟨x,f,⟨c1,c2⟩,rfl⟩:=Nb2 hp
   obtain ⟨a,d⟩:=h.src x f c1 c2
   exact ⟨(h.pl.at a d).2.1,by show 0<_;omega,l x f,rfl⟩
 ·obtain ⟨i,b,h1,h2,j,rfl⟩:=VM.1 hp
  exact ⟨(Nj4 h.pl.two j).2.1,h2,by show 0<=VW;decide,rfl⟩
theorem Nwl (h:GrR PL to dl s C) (b:∀x∈s,0<=x.gr) (a:∀c∈C,0<=c.1.grams):IsFlow PL.length (grR PL to dl s C):=
 ⟨h.pl.two,fun p hp=>⟨(XY h b a hp).1,(XY h b a hp).2.1⟩,fun p hp=>⟨(XY h b a hp).2.2.1,by rw [(XY h b a hp).2.2.2];exact Oc _⟩,fun v _=>by
  have:∀{l:List Pr},(∀p∈l,p.flow=0)->exc v l=0:=fun {l}=>by
   induction l with
   | nil=>intro _;rfl
   | cons p l ih=>
     intro h
     have:=ih fun q d=>h q (Ni _ d)
     have:=h p Nn
     unfold exc;split<;>split<;>omega
  exact this fun p hp=>(XY h b a hp).2.2.2⟩
end
def U1 (PL:List (Int×Int)) (R:Nat->Bool) (p:Int):Nat->Int
 | 0=>-1
 | k+1=>if 2<=k/\(gt PL k).1=p/\R k=true/\(U1 PL R p k<0\/(gt PL k).2<U1 PL R p k) then (gt PL k).2 else U1 PL R p k
theorem XK {PL:List (Int×Int)} {R:Nat->Bool} {p:Int} (i:∀v,2<=v->v<PL.length->0<=(gt PL v).2):∀{n:Nat},n<=PL.length->(U1 PL R p n=-1/\∀k,2<=k->k<n->¬((gt PL k).1=p/\R k=true))\/
  (∃b:Nat,U1 PL R p n=(gt PL b).2/\2<=b/\b<n/\(gt PL b).1=p/\R b=true/\∀k,2<=k->k<n->(gt PL k).1=p->R k=true->(gt PL b).2<=(gt PL k).2)
 | 0,_=>.inl ⟨rfl,fun k _ h=>by omega⟩
 | n+1,hn=>by
   have ih:=XK (R:=R) (p:=p) i (n:=n) (by omega)
   unfold U1
   split
   ·rename_i hc
    obtain ⟨c1,c2,c3,c4⟩:=hc
    refine .inr ⟨n,rfl,c1,by omega,c2,c3,fun k h1 h2 a c=>?_⟩
    by_cases d:k=n
    ·rw [d];exact Oc _
    ·rcases ih with ⟨e,h⟩ | ⟨b,e,f,m,j,l,g⟩
     ·exact absurd ⟨a,c⟩ (h k h1 (by omega))
     ·have:=g k h1 (by omega) a c
      have:=i b f (by omega)
      rw [e] at c4
      omega
   ·rename_i hc
    rcases ih with ⟨e,h⟩ | ⟨b,e,f,m,j,l,g⟩
    ·refine .inl ⟨e,fun k h1 h2 a=>?_⟩
     by_cases d:k=n
     ·rw [d] at h1 a
      exact hc ⟨h1,a.1,a.2,.inl (by rw [e];omega)⟩
     ·exact h k h1 (by omega) a
    ·refine .inr ⟨b,e,f,by omega,j,l,fun k h1 h2 a c=>?_⟩
     by_cases d:k=n
     ·rw [d] at h1 a c⊢
      apply Ns
      intro o
      refine hc ⟨h1,a,c,.inr ?_⟩
      rw [e];omega
     ·exact g k h1 (by omega) a c
theorem Noi {l:List (Int×Int)} (h:l.Nodup) {i j:Nat} {hi:i<l.length} {a:j<l.length} (e:l[i]=l[j]):i=j:=by
 rcases Nat.lt_trichotomy i j with g | g | g
 ·exact absurd e (N5.1 h i j hi a g)
 ·exact g
 ·exact absurd e.symm (N5.1 h j i a hi g)
def tmT (PL:List (Int×Int)) (R:Nat->Bool) (p:Int):Option Int:=if 0<=U1 PL R p PL.length then some (U1 PL R p PL.length) else none
theorem Nw4 {S:Nat->Bool}:∀{l:List Pr},(∀p∈l,0<=p.room/\0<=p.flow)->∀p∈l,S p.tail=true->S p.head=false->p.room+p.flow<=cut S l
 | [],_,p,hp,_,_=>by cases hp
 | x::l,h,p,hp,h1,h2=>by
   have hn:=h x Nn
   have hl:0<=cut S l:=by
    have:∀{m:List Pr},(∀p∈m,0<=p.room/\0<=p.flow)->0<=cut S m:=fun {m}=>by
     induction m with
     | nil=>intro _;exact Oc _
     | cons y m ih=>
       intro h
       have:=ih fun q a=>h q (Ni _ a)
       have:=h y Nn
       unfold cut;split<;>omega
    exact this fun q a=>h q (Ni _ a)
   unfold cut
   rcases Nu.1 hp with e | hp
   ·subst e
    rw [h1,h2];simp;omega
   ·have:=Nw4 (S:=S) (fun q a=>h q (Ni _ a)) p hp h1 h2
    split<;>omega
theorem Nth {PL:List (Int×Int)} {to dl:Int} {s:List Src} {C:List (Leg×Int)} {l:List Pr} {R:Nat->Bool} (h:GrR PL to dl s C) (L:Alike (grR PL to dl s C) l) (G:IsFlow PL.length l)
  (A:∀x∈s,0<=x.gr) (M:∀c∈C,0<=c.1.grams) (O:Me s<VW)
  (K:R 0=true) (h1:R 1=false) (hc:Closed R l) (g:∀S:Nat->Bool,S 0=true->Closed S l->∀v,v<PL.length->R v=true->S v=true) :
  BestC s C to dl (tmT PL R) (exc 1 l+U4 to dl s)/\∀v,2<=v->v<PL.length->R v=!late (tmT PL R) (gt PL v).1 (gt PL v).2:=by
 have P:=h.pl.two
 have j:∀U,U to=none->cut (XD PL U) l+U4 to dl s=wt U s C dl:=fun U V=>by rw [L.cut,Nol V h]
 have d:∀v,2<=v->v<PL.length->0<=(gt PL v).2:=fun v a b=>(h.pl.no v a b).2.2
 have X:0<=U4 to dl s:=by
  have:∀{s:List Src},(∀x∈s,0<=x.gr)->0<=U4 to dl s:=fun {s}=>by
   induction s with
   | nil=>intro _;exact Oc _
   | cons x s ih=>
     intro h
     have:=ih fun y hy=>h y (Ni _ hy)
     have:=h x Nn
     unfold U4;split<;>omega
  exact this A
 have w:∀i b:Nat,2<=i->i<PL.length->TR PL i PL.length=b->R i=true->R b=true:=fun i b h2 hi W f=>by
  cases e:R b with
  | true=>rfl
  | false=>
    exfalso
    have Y:(⟨b,i,VW,0⟩:Pr)∈grR PL to dl s C:=N1 _ (VM.2 ⟨i,b,h2,hi,W,rfl⟩)
    have H:=Nw4 (S:=R) (fun p hp=>⟨(XY h A M hp).2.2.1,by rw [(XY h A M hp).2.2.2];exact Oc _⟩) _ Y f e
    simp only at H
    have k:=G.eq_cut K h1 hc
    rw [L.cut] at k
    have I:=G.le_cut (S:=XD PL noT) rfl rfl
    have hw:=j noT rfl
    have aa:=Ml (T:=noT) (dl:=dl) A
    unfold wt at hw
    rw [Nbs] at hw
    omega
 have J:∀(m v v':Nat),2<=v->v<PL.length->2<=v'->v'<PL.length->(gt PL v').1=(gt PL v).1->(gt PL v).2<(gt PL v').2->((gt PL v').2-(gt PL v).2).toNat<=m->R v=true->R v'=true:=by
  intro m
  induction m with
  | zero=>intro v v' _ _ _ _ _ q F;omega
  | succ m ih=>
    intro v v' h2 Q E z q F h8 f
    rcases ZX (PL:=PL) (i:=v) (n:=PL.length) with ⟨_,hn⟩ | ⟨b,e,b1,b2,b3,o,D⟩
    ·exact absurd ⟨q,F⟩ (hn v' E z)
    ·have r:=w v b h2 Q e f
     have I:=D v' E z q F
     by_cases ht:(gt PL b).2=(gt PL v').2
     ·have u:gt PL b=gt PL v':=R6 (b3.trans q.symm) ht
      rw [OI b2,OI z] at u
      have:=Noi h.pl.nd u
      rw [<-this];exact r
     ·exact ih b v' b1 b2 E z (q.trans b3.symm) (by omega) (by omega) r
 have N:∀v,2<=v->v<PL.length->R v=!late (tmT PL R) (gt PL v).1 (gt PL v).2:=fun v h2 B=>by
  unfold late tmT
  rcases XK (R:=R) (p:=(gt PL v).1) d (Ng _) with ⟨e,hn⟩ | ⟨b,e,b1,b2,b3,o,D⟩
  ·rw [e]
   cases f:R v with
   | false=>rfl
   | true=>exact absurd ⟨rfl,f⟩ (hn v h2 B)
  ·rw [e,Nh (d b b1 b2)]
   cases f:R v with
   | true=>have:=D v h2 B rfl f;simp;omega
   | false=>
     simp only [Bool.false_eq,Bool.not_eq_false',N3]
     apply Ns
     intro Z
     by_cases k:(gt PL b).2=(gt PL v).2
     ·have u:gt PL b=gt PL v:=R6 b3 k
      rw [OI b2,OI B] at u
      have:=Noi h.pl.nd u
      rw [this,f] at o;cases o
     ·have:=J _ b v b1 b2 h2 B b3.symm (by omega) (Ng _) o
      rw [f] at this;cases this
 refine ⟨Nxr G j K h1 hc g ?_ N (fun p t hp=>?_),N⟩
 ·unfold tmT
  rcases XK (R:=R) (p:=to) d (Ng _) with ⟨e,_⟩ | ⟨b,_,b1,b2,b3,_⟩
  ·rw [e];rfl
  ·exact absurd b3 (h.pl.no b b1 b2).1
 ·unfold tmT at hp
  rcases XK (R:=R) (p:=p) d (Ng _) with ⟨e,_⟩ | ⟨b,e,b1,b2,b3,o,_⟩
  ·rw [e] at hp;cases hp
  ·rw [e,Nh (d b b1 b2)] at hp
   cases hp
   exact ⟨b,b1,b2,o,R6 b3 rfl⟩
theorem Closed.arc {S:Nat->Bool} {l:List Pr} (h:Closed S l) {i:Nat} (hi:i / 2<l.length) (h1:S (tl l i)=true) (h2:S (hd l i)=false):rm l i=0:=by
 obtain ⟨c1,c2⟩:=h _ (PW hi)
 unfold tl at h1;unfold hd at h2;unfold rm
 by_cases e:i % 2=0
 ·rw [Nh e] at h1 h2⊢;exact c1 h1 h2
 ·rw [Nf e] at h1 h2⊢;exact c2 h2 h1
theorem Nru {S:Nat->Bool} {l:List Pr} (hn:∀p∈l,0<=p.room/\0<=p.flow) (h:∀i,i / 2<l.length->S (tl l i)=true->0<rm l i->S (hd l i)=true):Closed S l:=fun p hp=>by
 obtain ⟨j,d,rfl⟩:=List.mem_iff_getElem.1 hp
 obtain ⟨e,f⟩:=hn _ hp
 have a:=h (2*j) (by omega)
 have b:=h (2*j+1) (by omega)
 have e1:(2*j+1) / 2=j:=by omega
 have e2:¬(2*j+1) % 2=0:=by omega
 rw [Nba,Nbi,Xd,OI d] at a
 unfold tl hd rm at b
 rw [Nf e2,Nf e2,Nf e2,e1,OI d] at b
 refine ⟨fun x y=>?_,fun x y=>?_⟩
 ·apply Ns
  intro c
  rw [a x (by omega)] at y;cases y
 ·apply Ns
  intro c
  rw [b y (by omega)] at x;cases x
structure Rch (l:List Pr) (n:Nat) (hw:List (Option Nat)) (q:List Nat) (qi k:Nat):Prop where
 len:hw.length=n
 nd:q.Nodup
 ne:0<q.length
 z:gt q 0=0
 lt:∀v∈q,v<n
 iff:∀v,v<n->((gt hw v).isSome=true↔v∈q)
 par:∀j,0<j->j<q.length->∃i j',gt hw (gt q j)=some i/\i / 2<l.length/\hd l i=gt q j/\0<rm l i/\j'<j/\tl l i=gt q j'
 cl:∀j i,j<q.length->i / 2<l.length->(j<qi\/j=qi/\i / 2<k)->tl l i=gt q j->0<rm l i->hd l i∈q
section
variable {l:List Pr} {n:Nat} {hw:List (Option Nat)} {q:List Nat} {qi k:Nat}
theorem Rch.start (hn:0<n):Rch l n ((List.replicate n none).set 0 (some (2*l.length))) [0] 0 0:=by
 refine ⟨by simp,by simp,by simp,rfl,fun v a=>by rw [Nj.1 a];exact hn,fun v a=>?_,fun j h1 h2=>by simp at h2;omega,fun j i h1 h2 b=>by omega⟩
 rw [gt_set (by simpa using hn),Nj]
 by_cases e:v=0
 ·rw [Nh e];simp [e]
 ·rw [Nf e,OI (by simpa using a)];simp [e]
theorem Rch.add (h:Rch l n hw q qi k) (p:qi<q.length) {i:Nat} (hi:i / 2<l.length) (w:tl l i=gt q qi) (hr:0<rm l i) (hn:hd l i∉q) (hl:hd l i<n):Rch l n (hw.set (hd l i) (some i)) (q++[hd l i]) qi k:=by
 have f:∀j,j<q.length->gt (q++[hd l i]) j=gt q j:=fun j c=>Sk c
 have g:gt (q++[hd l i]) q.length=hd l i:=by
  have:=Uj (l:=q) (r:=[hd l i]) (i:=0)
  rw [Od] at this;exact this
 have d:hd l i<hw.length:=by rw [h.len];exact hl
 refine ⟨by rw [Ph];exact h.len, ?_,by simp,by rw [f 0 h.ne];exact h.z,fun v hv=>?_,fun v hv=>?_,fun j h1 h2=>?_,fun j x h1 h2 s m t=>?_⟩
 ·rw [Qa]
  exact ⟨h.nd,by simp,fun a u b o e=>hn (by rw [Nj] at o;rw [<-o,<-e];exact u)⟩
 ·rcases Nv.1 hv with hv | hv
  ·exact h.lt v hv
  ·rw [Nj.1 hv];exact hl
 ·rw [gt_set d,Nv,Nj]
  by_cases e:v=hd l i
  ·rw [Nh e];simp [e]
  ·rw [Nf e,h.iff v hv];simp [e]
 ·rw [Nb,Ow] at h2
  by_cases c:j<q.length
  ·obtain ⟨x,j',p1,p2,p3,p4,p5,p6⟩:=h.par j h1 c
   refine ⟨x,j', ?_,p2, ?_,p4,p5, ?_⟩
   ·rw [f j c,gt_set d,Nf fun e=>hn (by rw [<-e];exact PW c)];exact p1
   ·rw [f j c];exact p3
   ·rw [f j' (by omega)];exact p6
  ·obtain rfl:j=q.length:=by omega
   refine ⟨i,qi, ?_,hi,g.symm,hr,p,by rw [f _ p];exact w⟩
   rw [g,gt_set d,Nh rfl]
 ·rw [Nb,Ow] at h1
  have c:j<q.length:=by omega
  rw [f j c] at m
  exact Nz _ (h.cl j x c h2 s m t)
theorem Rch.next (h:Rch l n hw q qi k) (d:∀i,i / 2=k->tl l i=gt q qi->0<rm l i->hd l i∈q):Rch l n hw q qi (k+1):=
 { h with
   cl:=fun j i h1 h2 a b c=>by
    rcases a with a | ⟨a,e⟩
    ·exact h.cl j i h1 h2 (.inl a) b c
    ·rcases Oo (i / 2) k with h7 | h7
     ·exact h.cl j i h1 h2 (.inr ⟨a,h7⟩) b c
     ·rw [a] at b
      exact d i (by omega) b c }
theorem Rch.turn (h:Rch l n hw q qi k) (d:l.length<=k):Rch l n hw q (qi+1) 0:=
 { h with
   cl:=fun j i h1 h2 c a b=>by
    rcases (by omega:j<qi\/j=qi) with h6 | h6
    ·exact h.cl j i h1 h2 (.inl h6) a b
    ·exact h.cl j i h1 h2 (.inr ⟨h6,by omega⟩) a b }
theorem Rch.len_le (h:Rch l n hw q qi k):q.length<=n:=by
 have:=List.Nodup.length_le_of_subset h.nd (fun v a=>List.mem_range.2 (h.lt v a):q ⊆ List.range n)
 simpa using this
theorem Rch.closed (h:Rch l n hw q qi k) (b:q.length<=qi) (hn:∀p∈l,0<=p.room/\0<=p.flow):Closed (fun v=>decide (v∈q)) l:=Nru hn fun i hi h1 h2=>by
 have h1:=Ru h1
 obtain ⟨j,a,e⟩:=List.mem_iff_getElem.1 h1
 exact No (h.cl j i a hi (.inl (by omega)) (by rw [OI a];exact e.symm) h2)
theorem Rch.all (h:Rch l n hw q qi k) {S:Nat->Bool} (a:S 0=true) (hc:Closed S l):∀(m j:Nat),j<=m->j<q.length->S (gt q j)=true
 | 0,j,hm,hj=>by
   obtain rfl:j=0:=by omega
   rw [h.z];exact a
 | m+1,j,hm,hj=>by
   by_cases b:j=0
   ·rw [b,h.z];exact a
   ·obtain ⟨i,j',_,p2,p3,p4,p5,p6⟩:=h.par j (by omega) hj
    have ih:=h.all a hc m j' (by omega) (by omega)
    rw [<-p6] at ih
    rw [<-p3]
    cases e:S (hd l i) with
    | true=>rfl
    | false=>have:=hc.arc p2 ih e;omega
theorem Rch.reach (h:Rch l n hw q qi k) {S:Nat->Bool} (b:S 0=true) (hc:Closed S l) {v:Nat} (c:v∈q):S v=true:=by
 obtain ⟨j,a,e⟩:=List.mem_iff_getElem.1 c
 have:=h.all b hc j j (Ng _) a
 rw [OI a,e] at this;exact this
def arN (hw:List (Option Nat)) (v:Nat):Nat:=(gt hw v).getD 0
def M7 (l:List Pr) (hw:List (Option Nat)) (v:Nat):Nat:=tl l (arN hw v)
def M4 (l:List Pr) (hw:List (Option Nat)):Nat->Nat
 | 0=>1
 | m+1=>M7 l hw (M4 l hw m)
theorem MJ:∀{q:List Nat} {j:Nat},q.Nodup->j<q.length->q.idxOf (gt q j)=j
 | [],j,_,h=>by simp at h
 | a::q,0,_,_=>by show (a::q).idxOf a=0;simp
 | a::q,j+1,h,hj=>by
   obtain ⟨h1,h2⟩:=List.nodup_cons.1 h
   have b:j<q.length:=by simpa using hj
   rw [OV,List.idxOf_cons,cond_eq_ite,Nf,MJ h2 b]
   intro e
   rw [beq_iff_eq] at e
   exact h1 (by rw [e];exact PW b)
theorem Rch.up (h:Rch l n hw q qi k) {v:Nat} (f:v∈q) (g:v≠0):gt hw v=some (arN hw v)/\arN hw v / 2<l.length/\hd l (arN hw v)=v/\0<rm l (arN hw v)/\M7 l hw v∈q/\q.idxOf (M7 l hw v)<q.idxOf v:=by
 obtain ⟨j,b,e⟩:=List.mem_iff_getElem.1 f
 have a:gt q j=v:=by rw [OI b];exact e
 have c:0<j:=by
  apply Ns
  intro hc
  obtain rfl:j=0:=by omega
  rw [h.z] at a;exact g a.symm
 obtain ⟨i,j',p1,p2,p3,p4,p5,p6⟩:=h.par j c b
 rw [a] at p1 p3
 have d:arN hw v=i:=by unfold arN;rw [p1];rfl
 unfold M7
 rw [d,p6,MJ h.nd (by omega),<-a,MJ h.nd b]
 exact ⟨by rw [a];exact p1,p2,by rw [a];exact p3,p4,PW (by omega),p5⟩
structure Aug (l l':List Pr) (hw:List (Option Nat)) (q:List Nat) (d:Int) (v:Nat):Prop where
 mem:v∈q
 same:Alike l l'
 nn:∀i,i / 2<l.length->0<=rm l' i
 exc:∀u,exc u l'=Flow.exc u l+(if u=1 then d else 0)-(if u=v then d else 0)
 keep:∀u∈q,q.idxOf u<=q.idxOf v->u≠0->rm l' (arN hw u)=rm l (arN hw u)
theorem rm_nn {l:List Pr} (hn:∀p∈l,0<=p.room/\0<=p.flow) {i:Nat} (hi:i / 2<l.length):0<=rm l i:=by
 obtain ⟨a,b⟩:=hn _ (PW hi)
 unfold rm;split<;>omega
theorem Aug.start (hn:∀p∈l,0<=p.room/\0<=p.flow) (h1:1∈q) {d:Int}:Aug l l hw q d 1:=⟨h1,.refl,fun i hi=>rm_nn hn hi,fun u=>by omega,fun _ _ _ _=>rfl⟩
theorem Aug.step {l':List Pr} {d:Int} {v:Nat} (h:Aug l l' hw q d v) (o:Rch l n hw q qi k) (r:v≠0) (t:0<=d) (w:d<=rm l (arN hw v)):Aug l (QZ l' (arN hw v) d) hw q d (M7 l hw v):=by
 obtain ⟨A,x,g,B,y,C⟩:=o.up h.mem r
 have hi:arN hw v / 2<l'.length:=by rw [h.same.len];exact x
 have f:=h.keep v h.mem (Ng _) r
 refine ⟨y,h.same.trans (.push hi),fun i b=>?_,fun u=>?_,fun u p c a=>?_⟩
 ·have:=h.nn i b
  rw [Wd hi]
  split
  ·rw [f];omega
  ·split<;>omega
 ·rw [Njv hi,h.exc u,h.same.hd,h.same.tl,g]
  unfold M7
  by_cases j:u=v<;>by_cases m:u=1<;>by_cases a3:u=tl l (arN hw v)
  all_goals
   have b1:(v=u)=(u=v):=propext ⟨Rs,Rs⟩
   have b3:(tl l (arN hw v)=u)=(u=tl l (arN hw v)):=propext ⟨Rs,Rs⟩
   simp only [b1,b3,j,m,a3,if_true,if_false]
  all_goals (try simp only [j,m,a3,if_true,if_false])
  all_goals (first | omega | skip)
 ·obtain ⟨D,E,s,F,G,z⟩:=o.up p a
  rw [Wd hi,Nf fun e=>?_,Nf fun e=>?_]
  ·exact h.keep u p (by omega) a
  ·have:M7 l hw u=v:=by unfold M7;rw [e,Nnf];exact g
   rw [this] at z;omega
  ·rw [e,g] at s
   rw [<-s] at c;omega
theorem Aug.fin {l':List Pr} {d:Int} (h:Aug l l' hw q d 0) (c:IsFlow n l):IsFlow n l'/\Flow.exc 1 l'=Flow.exc 1 l+d:=by
 refine ⟨⟨c.two,fun p hp=>?_,fun p hp=>?_,fun v e=>?_⟩, ?_⟩
 ·obtain ⟨j,b,rfl⟩:=List.mem_iff_getElem.1 hp
  have a:j<l.length:=by have:=h.same.len;omega
  obtain ⟨e1,e2⟩:=h.same.gts j
  have:=c.lt _ (PW (l:=l) a)
  rw [OI b] at e1 e2
  rw [e1,e2];exact this
 ·obtain ⟨j,b,rfl⟩:=List.mem_iff_getElem.1 hp
  have a:j<l.length:=by have:=h.same.len;omega
  have h1:=h.nn (2*j) (by omega)
  have h2:=h.nn (2*j+1) (by omega)
  rw [Xd,OI b] at h1
  rw [YZ,OI b] at h2
  exact ⟨h1,h2⟩
 ·rw [h.exc,Nf (by omega),Nf (by omega),c.bal v e];rfl
 ·rw [h.exc,Nh rfl,Nf (by omega)];omega
end
end Go.Flow


