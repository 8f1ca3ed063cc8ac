/-
  Joined texts, 7 of 8. A part of the claim that the last text states.
-/
import Derived.Test.YtancgcogjokfcaaGreatDoorPD6
set_option linter.unusedVariables false
set_option linter.unusedSimpArgs false
set_option linter.defProp false
set_option linter.unusedSectionVars false
set_option maxRecDepth 100000
set_option maxHeartbeats 4000000
namespace Go.Proofs.YtancgcogjokfcaaGreatDoor.Fn
open Go.AM Go.AM.Sym
def be4 (n:Nat):List UInt8:=[Xh n 0,Xh n 1,Xh n 2,Xh n 3]
theorem Zo {n:Nat} (h:n<2 ^ 32):numOf (be4 n)=n:=by
 simp only [numOf,be4,Pd,List.foldl_nil,Xh,UInt8.toNat_ofNat']
 simp only [Nat.reducePow,Nat.reduceMul,Nat.reduceSub] at h⊢
 omega
theorem TN {e lf n:Nat} {x:Nat×List UInt8} (h:x.2.length<=18):(Un e lf n x).toList=be4 e++(be4 lf++(be4 n++(UInt8.ofNat x.1::UInt8.ofNat x.2.length::(x.2++List.replicate (18-x.2.length) 0)))):=by
 unfold Un
 rw [Noy (by rw [Tk,Tk,Tk,UB h])]
 have e1:Us x=0::0::0::0::0::0::0::0::0::0::0::0::UInt8.ofNat x.1::UInt8.ofNat x.2.length::(x.2++List.replicate (18-x.2.length) 0):=by
  unfold Us
  rw [Nl]
  rfl
 rw [e1]
 generalize UInt8.ofNat x.1::UInt8.ofNat x.2.length::(x.2++List.replicate (18-x.2.length) 0)=r
 simp [Um,be4]
section
variable {e lf n:Nat} {x:Nat×List UInt8}
theorem Tm (h:x.2.length<=18) (he:e<2 ^ 32):Rf (Un e lf n x) 0=e:=by
 unfold Rf;rw [TN h];exact Zo he
theorem Sd (h:x.2.length<=18) (he:lf<2 ^ 32):Rf (Un e lf n x) 4=lf:=by
 unfold Rf;rw [TN h];exact Zo he
theorem Nir (h:x.2.length<=18) (he:n<2 ^ 32):Rf (Un e lf n x) 8=n:=by
 unfold Rf;rw [TN h];exact Zo he
theorem WV (h:x.2.length<=18) (he:x.1<256):fl (Un e lf n x)=x.1:=by
 unfold fl;rw [TN h]
 show (UInt8.ofNat x.1).toNat=_
 rw [UInt8.toNat_ofNat_of_lt' (by show _<256;exact he)]
theorem Ngh (h:x.2.length<=18):ln (Un e lf n x)=x.2.length:=by
 unfold ln;rw [TN h]
 show (UInt8.ofNat x.2.length).toNat=_
 rw [UInt8.toNat_ofNat_of_lt' (by show _<256;omega)]
theorem Nc0 (h:x.2.length<=18):pay (Un e lf n x)=x.2:=by
 unfold pay;rw [Ngh h,TN h]
 show (x.2++List.replicate (18-x.2.length) 0).take x.2.length=_
 rw [List.take_left]
theorem VZ (h:x.2.length<=18) (h1:x.1<=3) (h2:x.1<2->x.2.length=18) (e1:1<=e) (e2:e<=1073741824) (l1:1<=lf) (l2:lf<=1073741824) (hn:n<2 ^ 32):QG (Un e lf n x) n=true:=by
 unfold QG
 rw [Tm h (by omega),Sd h (by omega),Nir h hn,WV h (by omega),Ngh h]
 rw [Nq,Nx,Nx]
 refine ⟨⟨e1,e2,l1,l2,rfl,h1,h,h2⟩, ?_⟩
 rw [TN h]
 rw [<-List.drop_drop]
 show (x.2++List.replicate (18-x.2.length) 0).drop x.2.length=_
 rw [List.drop_left]
end
def SA (e lf:Nat):Nat->List (Nat×List UInt8)->List QY
 | _,[]=>[]
 | n,x::r=>Un e lf n x::SA e lf (n+1) r
theorem Vl {e lf:Nat}:∀(r:List (Nat×List UInt8)) (n:Nat),(SA e lf n r).length=r.length
 | [],_=>rfl
 | x::r,n=>by rw [SA,Nn,Nn,Vl r]
theorem ZX {e lf:Nat}:∀(a b:List (Nat×List UInt8)) (n:Nat),SA e lf n (a++b)=SA e lf n a++SA e lf (n+a.length) b
 | [],b,n=>rfl
 | x::a,b,n=>by
   rw [N2,SA,SA,ZX a b,N2,Nn]
   congr 3;omega
theorem Yt {base e lf:Nat}:∀(a b:List (Nat×List UInt8)) (n:Nat),Rs base e lf n (a++b)=Rs base e lf n a++Rs base e lf (n+a.length) b
 | [],b,n=>rfl
 | x::a,b,n=>by
   rw [N2,Rs,Rs,Yt a b,N2,Nn]
   congr 3;omega
theorem Nem {e lf n life:Nat} {ins:Bool} {x:Nat×List UInt8} (h:x.2.length<=18) (h1:x.1<=3) (h2:x.1<2->x.2.length=18) (e1:1<=e) (e2:e<=1073741824) (l1:1<=lf) (l2:lf<=1073741824) (hn:n<2 ^ 32) (hi:ins=decide (x.1 % 2=0)) (hl:life<=lf) (b:ins=true->life=lf):Sg e n ins life (Un e lf n x)=true:=by
 unfold Sg
 rw [VZ h h1 h2 e1 e2 l1 l2 hn,Tm h (by omega),WV h (by omega),Sd h (by omega)]
 cases ins with
 | true=>
   have c:x.1 % 2=0:=Pc hi.symm
   have a:¬x.1 % 2=1:=by omega
   have:=b rfl
   simp [a,this]
 | false=>
   have c:¬x.1 % 2=0:=of_decide_eq_false hi.symm
   have a:x.1 % 2=1:=by omega
   simp [a,hl]
theorem Nfi {e lf:Nat} (e1:1<=e) (e2:e<=1073741824) (l1:1<=lf) (l2:lf<=1073741824):∀(f a:Nat) (b:List UInt8) (i life:Nat) (rec:List UInt8) (l:List (List UInt8)) (d:Nat) (r:List QY),b.length<f->a<=1->i+f<2 ^ 31->life<=lf->(a=0->life=lf)->
  TH e i (SA e lf i (Sk f a b)++r) (decide (a=0)) life rec l d=TH e (i+(Sk f a b).length) r false lf [] (l++[rec++b]) (i+(Sk f a b).length)
 | 0,a,b,i,life,rec,l,d,r,h,_,_,_,_=>by omega
 | f+1,a,b,i,life,rec,l,d,r,h,hf,hi,hl,hl2=>by
   simp only [Sk]
   split
   ·rename_i c
    rw [SA,SA,N2,N6,TH,Nk (Nem c (by show a+2<=3;omega) (by show a+2<2->_;omega) e1 e2 l1 l2 (by omega) (by show _=decide ((a+2) % 2=0);congr 1;apply propext;omega) hl (by intro h;exact hl2 (Pc h)))]
    rw [WV c (by show a+2<256;omega),Ni (by show ¬a+2<2;omega),Sd c (by omega),Nc0 c]
    rfl
   ·rename_i c
    have g:(b.take 18).length=18:=by rw [N0];omega
    rw [SA,N2,TH,Nk (Nem (by show (b.take 18).length<=18;omega) (by show a<=3;omega) (fun _=>g) e1 e2 l1 l2 (by omega) (by show _=decide (a % 2=0);congr 1;apply propext;omega) hl (by intro h;exact hl2 (Pc h)))]
    rw [WV (by show (b.take 18).length<=18;omega) (by show a<256;omega),Nk (by show a<2;omega),Sd (by show (b.take 18).length<=18;omega) (by omega),Nc0 (by show (b.take 18).length<=18;omega)]
    have:=Nfi e1 e2 l1 l2 f 0 (b.drop 18) (i+1) lf (rec++b.take 18) l d r (by simp;omega) (by omega) (by omega) (Nd _) (fun _=>rfl)
    rw [show (decide ((0:Nat)=0))=true from rfl] at this
    rw [this,Nn,Nl,Pj,On,Q4 1]
def TB (e:Nat):Nat->List QY->Bool->Nat->Bool
 | _,[],_,_=>true
 | i,s::r,ins,life=>if Sg e i ins life s then decide (fl s<2)&&TB e (i+1) r true (Rf s 4) else true
theorem WO {e:Nat}:∀(s:List QY) (i:Nat) (ins:Bool) (life:Nat) (rec:List UInt8) (l:List (List UInt8)) (a:Nat),TB e i s ins life=true->TH e i s ins life rec l a=(l,a)
 | [],_,_,_,_,_,_,_=>rfl
 | s::r,i,ins,life,rec,l,a,h=>by
   rw [TH]
   rw [TB] at h
   split
   ·rename_i b
    rw [Nk b,Nq,Nx] at h
    rw [Nk h.1]
    exact WO r _ _ _ _ _ _ h.2
   ·rfl
def VR (e lf i:Nat) (s:QY):Prop:=QG s i=true->Rf s 0=e->Rf s 4<lf
theorem Yd {e lf i:Nat} {ins:Bool} {s:QY} (h:VR e lf i s):Sg e i ins lf s=false:=by
 cases hg:Sg e i ins lf s with
 | false=>rfl
 | true=>
   simp only [Sg,Nq,Nx] at hg
   have:=h hg.1.1.1.1 hg.1.1.1.2
   omega
theorem Ncx {e lf:Nat} (e1:1<=e) (e2:e<=1073741824) (l1:1<=lf) (l2:lf<=1073741824):∀(f a:Nat) (b:List UInt8) (i life q:Nat) (s:QY) (r:List QY),b.length<f->a<=1->i+f<2 ^ 31->life<=lf->(a=0->life=lf)->q<(Sk f a b).length->(q=0->life=lf)->VR e lf (i+q) s->
  TB e i ((SA e lf i (Sk f a b)).take q++s::r) (decide (a=0)) life=true
 | 0,a,b,i,life,q,s,r,h,_,_,_,_,_,_,_=>by omega
 | f+1,a,b,i,life,0,s,r,h,hf,hi,hl,hl2,hq,hq0,hs=>by
   have d:VR e lf i s:=hs
   rw [Qa,N6,TB,hq0 rfl,Yd d]
   rfl
 | f+1,a,b,i,life,q+1,s,r,h,hf,hi,hl,hl2,hq,hq0,hs=>by
   simp only [Sk] at hq⊢
   split
   ·rename_i c
    rw [Nk c] at hq
    simp at hq
   ·rename_i c
    rw [Ni c,Nn] at hq
    have g:(b.take 18).length=18:=by rw [N0];omega
    rw [SA,Pu,N2,TB,Nk (Nem (by show (b.take 18).length<=18;omega) (by show a<=3;omega) (fun _=>g) e1 e2 l1 l2 (by omega) (by show _=decide (a % 2=0);congr 1;apply propext;omega) hl (by intro h;exact hl2 (Pc h)))]
    rw [WV (by show (b.take 18).length<=18;omega) (by show a<256;omega),Sd (by show (b.take 18).length<=18;omega) (by omega)]
    have:=Ncx e1 e2 l1 l2 f 0 (b.drop 18) (i+1) lf q s r (by simp;omega) (by omega) (by omega) (Nd _) (fun _=>rfl) (by omega) (fun _=>rfl) (by rw [show i+1+q=i+(q+1) by omega];exact hs)
    rw [show (decide ((0:Nat)=0))=true from rfl] at this
    rw [this]
    simp;omega
theorem Ncz {e L:Nat}:∀(r r':List QY) (i life:Nat),r.length=r'.length->TB e i r true life=true->(∀j,j<r.length->gt r' j=gt r j\/Rf (gt r' j) 4=L)->(∀j,j<r.length->VR e L (i+j) (gt r j))->life<L->TB e i r' true life=true
 | [],[],i,life,hl,h,h1,h2,h3=>rfl
 | s::r,s'::r',i,life,hl,h,h1,h2,h3=>by
   have k1:=h1 0 (by simp)
   have k2:=h2 0 (by simp)
   rw [RX] at k1 k2
   rw [RX] at k1
   rw [TB]
   split
   ·rename_i b
    rcases k1 with rfl | k1
    ·rw [TB,Nk b,Nq] at h
     rw [h.1,Bool.true_and]
     have a:=b
     simp only [Sg,Nq,Nx] at a
     refine Ncz r r' (i+1) _ (by simpa using hl) h.2 (fun j c=>?_) (fun j c=>?_) (k2 a.1.1.1.1 a.1.1.1.2)
     ·have:=h1 (j+1) (by simp;omega)
      rwa [Rx,Rx] at this
     ·have:=h2 (j+1) (by simp;omega)
      rwa [Rx,show i+(j+1)=i+1+j by omega] at this
    ·simp only [Sg,Nq,Nx,Bool.true_and,Bool.not_eq_true',Bool.not_eq_false'] at b
     omega
   ·rfl
theorem Niq {e L i life:Nat} {s:QY} {r r':List QY} (hl:r.length=r'.length) (h:TB e i (s::r) false life=true) (h1:∀j,j<r.length->gt r' j=gt r j\/Rf (gt r' j) 4=L) (h2:∀j,j<(s::r).length->VR e L (i+j) (gt (s::r) j)):TB e i (s::r') false life=true:=by
 rw [TB] at h⊢
 split
 ·rename_i a
  rw [Nk a,Nq] at h
  rw [h.1,Bool.true_and]
  simp only [Sg,Nq,Nx] at a
  have k2:=h2 0 (by simp)
  rw [RX] at k2
  refine Ncz r r' (i+1) _ hl h.2 h1 (fun j b=>?_) (k2 a.1.1.1.1 a.1.1.1.2)
  have:=h2 (j+1) (by simp;omega)
  rwa [Rx,show i+(j+1)=i+1+j by omega] at this
 ·rfl
abbrev LR:=List (Nat×List UInt8)
def OB:LR->Nat
 | []=>0
 | x::r=>OQ x.2.length+OB r
def QR (e:Nat):Nat->LR->List QY
 | _,[]=>[]
 | i,x::r=>SA e x.1 i (WC x.2)++QR e (i+OQ x.2.length) r
def Ug:Nat->LR->Nat
 | l,[]=>l
 | _,x::r=>Ug x.1 r
def upL (b:Nat):Nat->LR->Prop
 | l,[]=>l<=b
 | l,x::r=>l<=x.1/\1<=x.1/\upL b x.1 r
theorem RB {e:Nat}:∀(r:LR) (i:Nat),(QR e i r).length=OB r
 | [],_=>rfl
 | x::r,i=>by rw [QR,Nj,RB r,Vl,SX,OB]
theorem RV:∀(a b:LR),OB (a++b)=OB a+OB b
 | [],b=>by simp [OB]
 | x::a,b=>by rw [N2,OB,OB,RV a b];omega
theorem We {e:Nat}:∀(a b:LR) (i:Nat),QR e i (a++b)=QR e i a++QR e (i+OB a) b
 | [],b,i=>rfl
 | x::a,b,i=>by rw [N2,QR,QR,We a b,OB,Nl,On]
theorem MH {b:Nat}:∀(a:LR) (l:Nat) (x:Nat×List UInt8),upL x.1 l a->1<=x.1->x.1<=b->upL b l (a++[x])
 | [],l,x,h,h1,h2=>⟨h,h1,h2⟩
 | y::a,l,x,h,h1,h2=>⟨h.1,h.2.1,MH a _ x h.2.2 h1 h2⟩
theorem Ne2 {b b':Nat} (hb:b<=b'):∀(a:LR) (l:Nat),upL b l a->upL b' l a
 | [],l,h=>P9 h hb
 | y::a,l,h=>⟨h.1,h.2.1,Ne2 hb a _ h.2.2⟩
theorem MG {b:Nat}:∀(a:LR) (l:Nat),upL b l a->upL (Ug l a) l a/\Ug l a<=b
 | [],l,h=>⟨Nd _,h⟩
 | y::a,l,h=>by
   have:=MG a _ h.2.2
   exact ⟨⟨h.1,h.2.1,this.1⟩,this.2⟩
theorem Nhk {b:Nat}:∀(a:LR) (l:Nat),upL b l a->l<=b
 | [],l,h=>h
 | y::a,l,h=>P9 h.1 (Nhk a _ h.2.2)
theorem XY {e b:Nat} (e1:1<=e) (e2:e<=1073741824) (hb:b<=1073741824):∀(rl:LR) (i life:Nat) (l:List (List UInt8)) (r:List QY),i+OB rl<2 ^ 30->(∀x∈rl,x.2.length<2 ^ 20)->upL b life rl->
  TH e i (QR e i rl++r) false life [] l i=TH e (i+OB rl) r false (Ug life rl) [] (l++rl.map (·.2)) (i+OB rl)
 | [],i,life,l,r,_,_,_=>by simp [QR,OB,Ug]
 | x::rl,i,life,l,r,hi,hx,hu=>by
   have h1:=Nhk rl _ hu.2.2
   have a:=hx x (by simp)
   simp only [OB] at hi
   rw [QR,Nl]
   have h2:=Nfi (e:=e) (lf:=x.1) e1 e2 hu.2.1 (by omega) (x.2.length+1) 1 x.2 i life [] l i (QR e (i+OQ x.2.length) rl++r) (Nat.lt_succ_self _) (Nd _) (by omega) hu.1 (by intro h;cases h)
   rw [show (decide ((1:Nat)=0))=false from rfl] at h2
   have hp:(Sk (x.2.length+1) 1 x.2).length=OQ x.2.length:=SX x.2
   rw [hp] at h2
   unfold WC
   rw [h2,XY e1 e2 hb rl (i+OQ x.2.length) x.1 _ r (by omega) (fun y c=>hx y (by simp [c])) hu.2.2]
   simp only [OB,Ug,Oh,N6,Nl,List.singleton_append,On]
def ov (lost:List Bool):Nat->List QY->List QY->List QY
 | _,[],old=>old
 | _,_,[]=>[]
 | i,x::xs,o::os=>(if lost.getD i false then o else x)::ov lost (i+1) xs os
theorem Nd4 {lost:List Bool} {i:Nat} {old:List QY}:ov lost i [] old=old:=by cases old<;>rfl
theorem Nh8 {lost:List Bool}:∀(a old:List QY) (i:Nat),(ov lost i a old).length=old.length
 | [],old,i=>by rw [Nd4]
 | x::xs,[],i=>rfl
 | x::xs,o::os,i=>by rw [ov,Nn,Nn,Nh8 xs os]
theorem Nd5 {lost:List Bool}:∀(a old:List QY) (i j:Nat),a.length<=old.length->(ov lost i a old)[j]? = if j<a.length/\lost.getD (i+j) false=false then a[j]? else old[j]?
 | [],old,i,j,h=>by rw [Nd4];simp
 | x::xs,[],i,j,h=>by simp at h
 | x::xs,o::os,i,0,h=>by
   rw [ov]
   cases hl:lost.getD i false<;>simp [hl]
 | x::xs,o::os,i,j+1,h=>by
   rw [ov,Ou,Nd5 xs os (i+1) j (by simpa using h)]
   simp only [Ou,Nn,Nat.add_lt_add_iff_right]
   rw [show i+1+j=i+(j+1) by omega]
theorem Zn {lost:List Bool}:∀(a b old:List QY) (i:Nat),a.length<=old.length->ov lost i (a++b) old=ov lost i a (old.take a.length)++ov lost (i+a.length) b (old.drop a.length)
 | [],b,old,i,h=>by simp [ov]
 | x::xs,b,[],i,h=>by simp at h
 | x::xs,b,o::os,i,h=>by
   rw [N2,ov,Zn xs b os (i+1) (by simpa using h)]
   simp only [Nn,Pu,List.drop_succ_cons,ov,N2]
   rw [show i+1+xs.length=i+(xs.length+1) by omega]
theorem Nh9 {lost:List Bool}:∀(a old:List QY) (i:Nat),a.length=old.length->(∀j,j<a.length->lost.getD (i+j) false=false)->ov lost i a old=a
 | [],[],i,h,_=>rfl
 | x::xs,o::os,i,h,hl=>by
   rw [ov,Nh9 xs os (i+1) (by simpa using h) fun j b=>by rw [show i+1+j=i+(j+1) by omega];exact hl (j+1) (by simpa using b)]
   rw [show lost.getD i false=false from hl 0 (by simp)]
   simp
theorem Nfr {lost:List Bool}:∀(a old:List QY) (i q:Nat),a.length<=old.length->q<a.length->(∀j,j<q->lost.getD (i+j) false=false)->lost.getD (i+q) false=true->∃r r',old.drop q=gt old q::r/\ov lost i a old=a.take q++gt old q::r'/\r.length=r'.length/\∀j,j<r.length->gt r' j=gt r j\/gt r' j∈a
 | [],old,i,q,h,hq,_,_=>by simp at hq
 | x::xs,[],i,q,h,_,_,_=>by simp at h
 | x::xs,o::os,i,0,h,hq,hl,hl2=>by
   have h':xs.length<=os.length:=by simpa using h
   refine ⟨os,ov lost (i+1) xs os,rfl, ?_,(Nh8 _ _ _).symm,fun j b=>?_⟩
   ·rw [ov,show lost.getD i false=true from hl2];rfl
   ·have c:=Nd5 (lost:=lost) xs os (i+1) j h'
    have e1:gt (ov lost (i+1) xs os) j=((ov lost (i+1) xs os)[j]?).getD default:=by unfold gt;rw [Nb]
    rw [c] at e1
    split at e1
    ·rename_i hc
     refine .inr ?_
     rw [e1,Nf hc.1]
     simp
    ·refine .inl ?_
     rw [e1];unfold gt;rw [Nb]
 | x::xs,o::os,i,q+1,h,hq,hl,hl2=>by
   obtain ⟨r,r',k1,k2,k3,d⟩:=Nfr xs os (i+1) q (by simpa using h) (by simpa using hq) (fun j b=>by rw [show i+1+j=i+(j+1) by omega];exact hl (j+1) (by omega)) (by rw [show i+1+q=i+(q+1) by omega];exact hl2)
   refine ⟨r,r',by rw [List.drop_succ_cons,Rx];exact k1, ?_,k3,fun j b=>(d j b).imp_right fun h=>by simp [h]⟩
   rw [ov,k2,show lost.getD i false=false from hl 0 (by omega),Rx]
   simp
structure Ar (e lf:Nat) (S:List QY) (rl:LR):Prop where
 lay:∃T,S=QR e 0 rl++T/\TB e (OB rl) T false (Ug 0 rl)=true/\∀j,j<T.length->VR e lf (OB rl+j) (gt T j)
 up:upL lf 0 rl
 short:∀x∈rl,x.2.length<2 ^ 20
 ne:rl≠[]
theorem Nc9 {e lf:Nat} (hl:lf<=1073741824):∀(f a:Nat) (b:List UInt8) (i:Nat),a<=1->∀s∈SA e lf i (Sk f a b),Rf s 4=lf
 | 0,_,_,_,_,s,h=>by simp [Sk,SA] at h
 | f+1,a,b,i,hf,s,h=>by
   simp only [Sk] at h
   split at h
   ·rename_i c
    simp only [SA,Nh,No,or_false] at h
    rw [h,Sd c (by omega)]
   ·simp only [SA,Nh] at h
    rcases h with h | h
    ·rw [h,Sd (by show (b.take 18).length<=18;rw [N0];omega) (by omega)]
    ·exact Nc9 hl f 0 _ _ (by omega) s h
theorem Nax {lost:List Bool} {i:Nat}:∀n,(∀j,j<n->lost.getD (i+j) false=false)\/∃q,q<n/\(∀j,j<q->lost.getD (i+j) false=false)/\lost.getD (i+q) false=true
 | 0=>.inl fun j h=>by omega
 | n+1=>by
   rcases Nax (lost:=lost) (i:=i) n with h | ⟨q,h1,h2,a⟩
   ·cases hl:lost.getD (i+n) false with
    | true=>exact .inr ⟨n,by omega,h,hl⟩
    | false=>
      refine .inl fun j b=>?_
      rcases Ol j n with h1 | h1
      ·exact h j h1
      ·rw [show j=n by omega];exact hl
   ·exact .inr ⟨q,by omega,h2,a⟩
theorem Nj5 {e lf:Nat} {lost:List Bool} (e1:1<=e) (e2:e<=1073741824) (l1:1<=lf) (l2:lf<=1073741824):∀(bs:LR) (i:Nat) (m life:Nat) (T:List QY),(∀x∈bs,x.1=lf/\x.2.length<2 ^ 20)->OB bs<=T.length->m+T.length<2 ^ 30->life<=lf->TB e m T false life=true->(∀j,j<T.length->VR e lf (m+j) (gt T j))->
  ∃k f,k<=bs.length/\ov lost i (QR e m bs) T=QR e m (bs.take k)++f/\TB e (m+OB (bs.take k)) f false (Ug life (bs.take k))=true/\
   ((∀j,j<OB bs->lost.getD (i+j) false=false)->k=bs.length/\f=T.drop (OB bs))
 | [],i,m,life,T,hb,hT,t,hl,hn,hs=>⟨0,T,Nd _,by rw [QR,Nd4];rfl,hn,fun _=>⟨rfl,rfl⟩⟩
 | x::bs,i,m,life,T,hb,hT,t,hl,hn,hs=>by
   obtain ⟨b,a⟩:=x
   obtain ⟨n,D⟩:=hb _ (Oy ..)
   simp only at n D
   subst n
   simp only [OB] at hT
   have c:(SA e b m (WC a)).length=OQ a.length:=by rw [Vl,SX]
   have v:=Zn (lost:=lost) (SA e b m (WC a)) (QR e (m+OQ a.length) bs) T i (by omega)
   have B:(T.take (OQ a.length)).length=OQ a.length:=by rw [N0];omega
   rcases Nax (lost:=lost) (i:=i) (OQ a.length) with g | ⟨q,G,z,d⟩
   ·
    have F:∀j,j<(T.drop (OQ a.length)).length->VR e b (m+OQ a.length+j) (gt (T.drop (OQ a.length)) j):=fun j p=>by
     have:=hs (OQ a.length+j) (by rw [Ow] at p;omega)
     rw [<-On] at this
     rw [show gt (T.drop (OQ a.length)) j=gt T (OQ a.length+j) by unfold gt;rw [Nb,Nb,Pn]]
     exact this
    have u:TB e (m+OQ a.length) (T.drop (OQ a.length)) false b=true:=by
     cases hc:T.drop (OQ a.length) with
     | nil=>rfl
     | cons s r=>
       have h0:=F 0 (by rw [hc];simp)
       rw [hc,RX,Oq] at h0
       rw [TB,Yd h0];rfl
    obtain ⟨k,f,k1,k2,k3,E⟩:=Nj5 e1 e2 l1 l2 bs (i+OQ a.length) (m+OQ a.length) b (T.drop (OQ a.length)) (fun y o=>hb y (by simp [o])) (by rw [Ow];omega) (by rw [Ow];omega) (Nd _) u F
    refine ⟨k+1,f,by simp;omega, ?_, ?_,fun hl=>?_⟩
    ·rw [QR,v,c,Nh9 _ _ _ (by rw [c,B]) (by rw [c];exact g),k2,Pu,QR,Nl]
    ·rw [Pu,OB,Ug,<-On];exact k3
    ·have:=E fun j p=>by rw [On];exact hl (OQ a.length+j) (by simp only [OB];omega)
     exact ⟨by rw [this.1];rfl,by rw [this.2,List.drop_drop];rfl⟩
   ·
    refine ⟨0,ov lost i (QR e m ((b,a)::bs)) T,N3 _,rfl, ?_,fun hl=>?_⟩
    ·show TB e m _ false life=true
     have w:q<(QR e m ((b,a)::bs)).length:=by rw [RB,OB];show q<OQ a.length+_;omega
     obtain ⟨r,r',k1,k2,k3,E⟩:=Nfr (lost:=lost) (QR e m ((b,a)::bs)) T i q (by rw [RB];simp only [OB];omega) w z d
     rw [k2,QR,Qn (by rw [c];omega)]
     have A:q<T.length:=by omega
     by_cases h0:q=0
     ·subst h0
      rw [Og] at k1
      rw [Qa,N6]
      refine Niq (L:=b) (r:=r) k3 (by rw [<-k1];exact hn) (fun j p=>(E j p).imp_right fun t=>?_) (by rw [<-k1];exact hs)
      have key:∀(l:LR) (m:Nat),(∀x∈l,x.1=b)->∀s∈QR e m l,Rf s 4=b:=by
       intro l
       induction l with
       | nil=>intro m _ s h;simp [QR] at h
       | cons y l ih=>
         intro m o s h
         rw [QR,Ob] at h
         rcases h with h | h
         ·have:=Nc9 (e:=e) (lf:=y.1) (by rw [o y (by simp)];exact l2) _ 1 y.2 m (Nd _) s h
          rw [this];exact o y (by simp)
         ·exact ih _ (fun x C=>o x (by simp [C])) s h
      exact key _ _ (fun x C=>(hb x C).1) _ t
     ·have:=Ncx (e:=e) (lf:=b) e1 e2 l1 l2 (a.length+1) 1 a m life q (gt T q) r' (Nat.lt_succ_self _) (Nd _) (by omega) hl (by intro h;cases h) (by have hp:(Sk (a.length+1) 1 a).length=OQ a.length:=SX a;omega) (by omega) (hs q A)
      exact this
    ·have:=hl q (by simp only [OB];omega)
     rw [this] at d;cases d
theorem Ar.recs {e lf:Nat} {S:List QY} {rl:LR} (h:Ar e lf S rl) (e1:1<=e) (e2:e<=1073741824) (l2:lf<=1073741824) (hS:S.length<2 ^ 30):recs S=(rl.map (·.2),OB rl)/\Q9 S=e:=by
 obtain ⟨T,k1,k2,k3⟩:=h.lay
 have he:Q9 S=e:=by
  rw [k1]
  match rl,h.ne,h.up,h.short with
  | x::r,_,hu,hx=>
    have:=hx x (by simp)
    have hl:=Nhk r _ hu.2.2
    rw [QR]
    unfold WC
    rw [Sk]
    split
    ·rename_i a
     exact Tm a (by omega)
    ·rw [SA]
     exact Tm (by show (x.2.take 18).length<=18;rw [N0];omega) (by omega)
 refine ⟨?_,he⟩
 have hl:OB rl<=S.length:=by rw [k1,Nj,RB];omega
 unfold Go.Proofs.YtancgcogjokfcaaGreatDoor.Fn.recs
 rw [he]
 have:=XY (e:=e) (b:=lf) e1 e2 l2 rl 0 0 [] T (by omega) h.short h.up
 rw [k1,this,Nr,N6]
 exact WO _ _ _ _ _ _ _ k2
def OX (safe:List QY) (a:Nat):List QY:=(safe.drop (a*(safe.length / 2))).take (safe.length / 2)
theorem SC {safe:List QY} {a:Nat} (h:a<=1):(OX safe a).length=safe.length / 2:=by
 unfold OX
 rw [N0,Ow]
 rcases (show a=0\/a=1 by omega) with rfl | rfl<;>omega
theorem Nbk {pend:List Wr} {safe:List QY} {a:Nat}:TI pend safe a=OX (QP [] pend safe) a:=by
 unfold TI OX XE
 rw [QX]
theorem Vs {safe:List QY} {a j:Nat} (b:j<safe.length / 2):(OX safe a)[j]? = safe[a*(safe.length / 2)+j]?:=by
 unfold OX
 rw [O9,Nk b,Pn]
theorem YT {lost:List Bool} {base e lf:Nat}:∀(r:List (Nat×List UInt8)) (n i:Nat) (s:List QY) (k:Nat),k<r.length->base+n+r.length<=s.length->(RN lost i (Rs base e lf n r) s)[base+n+k]? = if lost.getD (i+k) false=false then (SA e lf n r)[k]? else s[base+n+k]?
 | [],n,i,s,k,h,_=>by simp at h
 | x::r,n,i,s,0,h,hs=>by
   have hl:(x::r).length=r.length+1:=rfl
   rw [Rs,RN,Oq,Oq,RU r (n+1) (i+1) _ _ (by omega),SA]
   have b:UE s.length ((base+n:Nat):Int)=true:=by unfold UE;rw [Nx];omega
   rw [b]
   cases hl:lost.getD i false with
   | true=>simp
   | false=>
     simp only [Bool.not_false,Bool.and_self,if_true,O1]
     show (s.set (base+n) (Un e lf n x))[base+n]? = _
     rw [Qw (by omega)]
     rfl
 | x::r,n,i,s,k+1,h,hs=>by
   have hl:(x::r).length=r.length+1:=rfl
   rw [Rs,RN,SA,Ou]
   have:=YT (lost:=lost) (base:=base) (e:=e) (lf:=lf) r (n+1) (i+1) (if UE s.length ((base+n:Nat):Int)&&!lost.getD i false then s.set ((base+n:Nat):Int).toNat (Un e lf n x) else s) k (by omega) (by
    have a:(if UE s.length ((base+n:Nat):Int)&&!lost.getD i false then s.set ((base+n:Nat):Int).toNat (Un e lf n x) else s).length=s.length:=by
     split
     ·rw [P0]
     ·rfl
    rw [a];omega)
   rw [show base+(n+1)+k=base+n+(k+1) by omega,show i+1+k=i+(k+1) by omega] at this
   simp only at this⊢
   rw [this]
   split
   ·rfl
   ·split
    ·rw [P1 (by simp only [O1];omega)]
    ·rfl
theorem Na6 {lost:List Bool} {area e lf m:Nat} {r:List (Nat×List UInt8)} {safe:List QY} (a:area<=1) (c:m+r.length<=safe.length / 2) :
  OX (QP lost (Rs (area*(safe.length / 2)) e lf m r) safe) area=(OX safe area).take m++ov lost 0 (SA e lf m r) ((OX safe area).drop m):=by
 have hb:area*(safe.length / 2)+safe.length / 2<=safe.length:=by rcases (show area=0\/area=1 by omega) with rfl | rfl<;>omega
 have hl:=SC (safe:=safe) a
 apply List.ext_getElem?
 intro j
 by_cases b:j<safe.length / 2
 ·rw [Vs (by rw [QX];exact b),QX]
  by_cases h1:j<m
  ·rw [Ny (by rw [N0];omega),O9,Nk h1,Vs b]
   exact RU r m 0 safe _ (by omega)
  ·rw [N1 (by rw [N0];omega),N0,hl,Pi (by omega),Nd5 _ _ _ _ (by rw [Vl,Ow];omega),Vl,Pn,Nat.add_sub_cancel' (by omega),Vs b,Nr]
   by_cases h2:j-m<r.length
   ·have:=YT (lost:=lost) (base:=area*(safe.length / 2)) (e:=e) (lf:=lf) r m 0 safe (j-m) h2 (by omega)
    rw [show area*(safe.length / 2)+m+(j-m)=area*(safe.length / 2)+j by omega,Nr] at this
    unfold QP
    rw [this]
    simp only [h2,Qr]
   ·rw [Ni (by omega)]
    exact RU r m 0 safe _ (by omega)
 ·rw [Nv (by rw [SC a,QX];omega),Nv (by rw [Nj,N0,Nh8,Ow];omega)]
theorem Ma {lost:List Bool} {area e lf m:Nat} {r:List (Nat×List UInt8)} {safe:List QY} (b:area<=1) (c:m+r.length<=safe.length / 2) :
  OX (QP lost (Rs (area*(safe.length / 2)) e lf m r) safe) (1-area)=OX safe (1-area):=by
 apply List.ext_getElem?
 intro j
 by_cases a:j<safe.length / 2
 ·rw [Vs (by rw [QX];exact a),QX,Vs a]
  refine RU r m 0 safe _ ?_
  rcases (show area=0\/area=1 by omega) with rfl | rfl
  ·simp only [Nat.sub_zero,Nat.one_mul,Ov];omega
  ·simp only [Qg,Nat.one_mul,Ov];omega
 ·rw [Nv (by rw [SC (by omega),QX];omega),Nv (by rw [SC (by omega)];omega)]
def X6 (bs:LR):List (Nat×List UInt8):=bs.flatMap fun x=>WC x.2
theorem VN:∀(bs:LR),(X6 bs).length=OB bs
 | []=>rfl
 | x::bs=>by
   have:=VN bs
   unfold X6 at this⊢
   rw [Oi,Nj,this,SX,OB]
theorem Ndh {e lf:Nat}:∀(bs:LR) (m:Nat),(∀x∈bs,x.1=lf)->SA e lf m (X6 bs)=QR e m bs
 | [],m,_=>rfl
 | x::bs,m,h=>by
   have:=Ndh (e:=e) (lf:=lf) bs (m+OQ x.2.length) fun y a=>h y (by simp [a])
   unfold X6 at this⊢
   rw [Oi,ZX,SX,this,QR,h x (by simp)]
theorem Nni {bs:LR} {x:Nat×List UInt8}:X6 (bs++[x])=X6 bs++WC x.2:=by simp [X6]
def Sz (S:List QY) (a lf:Nat):Prop:=∀j,j<S.length->QG (gt S j) j=true->Rf (gt S j) 0<a/\Rf (gt S j) 4<=lf
theorem Sz.mono {S:List QY} {b a lf lf':Nat} (h:Sz S b lf) (he:b<=a) (hl:lf<=lf'):Sz S a lf':=fun j c d=>by
 have:=h j c d;omega
theorem XZ {e lf:Nat} (e2:e<=1073741824) (l2:lf<=1073741824):∀(f a:Nat) (b:List UInt8) (i:Nat),a<=1->∀s∈SA e lf i (Sk f a b),Rf s 0=e/\Rf s 4=lf
 | 0,_,_,_,_,s,h=>by simp [Sk,SA] at h
 | f+1,a,b,i,hf,s,h=>by
   simp only [Sk] at h
   split at h
   ·rename_i c
    simp only [SA,Nh,No,or_false] at h
    rw [h,Sd c (by omega),Tm c (by omega)]
    exact ⟨rfl,rfl⟩
   ·have d:(a,b.take 18).2.length<=18:=by show (b.take 18).length<=18;rw [N0];omega
    simp only [SA,Nh] at h
    rcases h with h | h
    ·rw [h,Sd d (by omega),Tm d (by omega)]
     exact ⟨rfl,rfl⟩
    ·exact XZ e2 l2 f 0 _ _ (by omega) s h
theorem Mk {e lf:Nat} (e2:e<=1073741824) (l2:lf<=1073741824):∀(bs:LR) (i:Nat),(∀x∈bs,x.1=lf)->∀s∈QR e i bs,Rf s 0=e/\Rf s 4=lf
 | [],i,_,s,h=>by simp [QR] at h
 | x::bs,i,hb,s,h=>by
   rw [QR,Ob,hb x (by simp)] at h
   rcases h with h | h
   ·exact XZ e2 l2 _ 1 _ _ (Nd _) s h
   ·exact Mk e2 l2 bs _ (fun y a=>hb y (by simp [a])) s h
theorem ZP {e b:Nat} (e1:1<=e) (e2:e<=1073741824) (hb:b<=1073741824):∀(rl:LR) (i l:Nat),i+OB rl<2 ^ 30->(∀x∈rl,x.2.length<2 ^ 20)->upL b l rl->rl≠[]->∃j,j<(QR e i rl).length/\QG (gt (QR e i rl) j) (i+j)=true/\Rf (gt (QR e i rl) j) 4=Ug l rl
 | [],i,l,_,_,_,h=>absurd rfl h
 | x::rl,i,l,hi,hx,hu,_=>by
   have a:(SA e x.1 i (WC x.2)).length=OQ x.2.length:=by rw [Vl,SX]
   simp only [OB] at hi
   cases rl with
   | nil=>
     have h1:x.1<=b:=hu.2.2
     have d:0<OQ x.2.length:=by unfold OQ;omega
     refine ⟨0,by rw [RB,OB];omega, ?_⟩
     rw [QR,QW (by omega)]
     show QG (gt (SA e x.1 i (Sk (x.2.length+1) 1 x.2)) 0) (i+0)=true/\Rf (gt (SA e x.1 i (Sk (x.2.length+1) 1 x.2)) 0) 4=x.1
     rw [Sk]
     have:=hu.2.1
     split
     ·rename_i c
      rw [SA,RX]
      exact ⟨VZ c (by show 1+2<=3;omega) (by show 1+2<2->_;omega) e1 e2 hu.2.1 (by omega) (by omega),Sd c (by omega)⟩
     ·have g:(x.2.take 18).length=18:=by rw [N0];omega
      rw [SA,RX]
      exact ⟨VZ (by show (x.2.take 18).length<=18;omega) (by show 1<=3;omega) (fun _=>g) e1 e2 hu.2.1 (by omega) (by omega),Sd (by show (x.2.take 18).length<=18;omega) (by omega)⟩
   | cons y rl=>
     obtain ⟨j,h1,h2,f⟩:=ZP e1 e2 hb (y::rl) (i+OQ x.2.length) x.1 (by omega) (fun z k=>hx z (by simp [k])) hu.2.2 (by simp)
     refine ⟨OQ x.2.length+j,by rw [QR,Nj,a];omega, ?_⟩
     rw [QR,<-a,Rj,a]
     exact ⟨by rw [<-On];exact h2,f⟩
structure KD (area e lf:Nat) (safe:List QY) (rl:LR):Prop where
 ar:Ar e lf (OX safe area) rl
 cur:Sz (OX safe area) (e+1) lf
 oth:Sz (OX safe (1-area)) e lf
 e1:1<=e
 e2:e<=1073741824
 l1:1<=lf
 l2:lf<=1073741824
 a1:area<=1
 sz:safe.length<2 ^ 20
structure KO (area e lf:Nat) (safe:List QY) (rl:LR):Prop where
 lay:∃T,OX safe area=QR e 0 rl++T/\TB e (OB rl) T false (Ug 0 rl)=true
 up:upL lf 0 rl
 short:∀x∈rl,x.2.length<2 ^ 20
 ne:rl≠[]
 cur:Sz (OX safe area) (e+1) lf
 oth:Sz (OX safe (1-area)) e lf
 e1:1<=e
 e2:e<=1073741824
 l1:1<=lf
 l2:lf<=1073741824
 a1:area<=1
 sz:safe.length<2 ^ 20
theorem KD.ko {area e lf:Nat} {safe:List QY} {rl:LR} (h:KD area e lf safe rl):KO area e lf safe rl:=by
 obtain ⟨T,k1,k2,_⟩:=h.ar.lay
 exact ⟨⟨T,k1,k2⟩,h.ar.up,h.ar.short,h.ar.ne,h.cur,h.oth,h.e1,h.e2,h.l1,h.l2,h.a1,h.sz⟩
theorem KD.recs {area e lf:Nat} {safe:List QY} {rl:LR} (h:KD area e lf safe rl):recs (OX safe area)=(rl.map (·.2),OB rl):=
 (h.ar.recs h.e1 h.e2 h.l2 (by rw [SC h.a1];have:=h.sz;omega)).1
theorem X7 {b:Nat}:∀(bs rl:LR) (l:Nat),upL b l rl->(∀x∈bs,x.1=b)->1<=b->upL b l (rl++bs)
 | [],rl,l,h,_,_=>by rw [Na];exact h
 | x::bs,rl,l,h,hx,hb=>by
   have e1:rl++x::bs=(rl++[x])++bs:=by simp
   rw [e1]
   refine X7 bs _ l (MH rl l x ?_ (by rw [hx x (by simp)];exact hb) (by rw [hx x (by simp)];exact Nd _)) (fun y a=>hx y (by simp [a])) hb
   rw [hx x (by simp)];exact h
theorem UM:∀(rl bs:LR) (l:Nat),Ug l (rl++bs)=Ug (Ug l rl) bs
 | [],bs,l=>rfl
 | x::rl,bs,l=>by rw [N2,Ug,UM rl bs];rfl
theorem Nl3 {lost:List Bool} {a old:List QY} {i j:Nat} (hl:a.length<=old.length) (c:j<old.length):gt (ov lost i a old) j=gt old j\/gt (ov lost i a old) j∈a:=by
 have b:=Nd5 (lost:=lost) a old i j hl
 have e1:gt (ov lost i a old) j=((ov lost i a old)[j]?).getD default:=by unfold gt;rw [Nb]
 rw [b] at e1
 split at e1
 ·rename_i hc
  refine .inr ?_
  rw [e1,Nf hc.1]
  simp
 ·refine .inl ?_
  rw [e1];unfold gt;rw [Nb]
theorem KD.crash {area e lf:Nat} {safe:List QY} {rl bs:LR} {lost:List Bool} (h:KD area e lf safe rl) (hb:∀x∈bs,x.1=lf/\x.2.length<2 ^ 20) (L:OB rl+OB bs<=safe.length / 2) :
  ∃k,k<=bs.length/\KO area e lf (QP lost (Rs (area*(safe.length / 2)) e lf (OB rl) (X6 bs)) safe) (rl++bs.take k)/\
   ((∀j,j<OB bs->lost.getD j false=false)->k=bs.length/\KD area e lf (QP lost (Rs (area*(safe.length / 2)) e lf (OB rl) (X6 bs)) safe) (rl++bs)):=by
 have a1:=h.a1
 have Q:=h.sz
 have e1:=h.e1
 have e2:=h.e2
 have l1:=h.l1
 have l2:=h.l2
 obtain ⟨T,k1,k2,k3⟩:=h.ar.lay
 have t:=SC (safe:=safe) a1
 have P:OB rl+T.length=safe.length / 2:=by rw [<-t,k1,Nj,RB]
 have v:=Na6 (lost:=lost) (e:=e) (lf:=lf) (m:=OB rl) (r:=X6 bs) (safe:=safe) a1 (by rw [VN];exact L)
 have J:=Ma (lost:=lost) (e:=e) (lf:=lf) (m:=OB rl) (r:=X6 bs) (safe:=safe) a1 (by rw [VN];exact L)
 have y:(QP lost (Rs (area*(safe.length / 2)) e lf (OB rl) (X6 bs)) safe).length=safe.length:=QX
 generalize QP lost (Rs (area*(safe.length / 2)) e lf (OB rl) (X6 bs)) safe=c at v J y⊢
 rw [Ndh bs _ fun x hx=>(hb x hx).1] at v
 have q:(OX safe area).drop (OB rl)=T:=by rw [k1];rw [<-RB (e:=e) rl 0,List.drop_left]
 have u:(OX safe area).take (OB rl)=QR e 0 rl:=by rw [k1];rw [<-RB (e:=e) rl 0,List.take_left]
 rw [q,u] at v
 obtain ⟨V,U⟩:=MG rl 0 h.ar.up
 obtain ⟨k,I,R,G,H,S⟩:=Nj5 (lost:=lost) e1 e2 l1 l2 bs 0 (OB rl) (Ug 0 rl) T hb (by omega) (by omega) U k2 k3
 have D:∀n,∀x∈rl++bs.take n,x.2.length<2 ^ 20:=fun n x hx=>by
  rcases Ob.1 hx with hx | hx
  ·exact h.ar.short x hx
  ·exact (hb x (Ps hx)).2
 have E:∀n,upL lf 0 (rl++bs.take n):=fun n=>X7 _ _ _ h.ar.up (fun x hx=>(hb x (Ps hx)).1) l1
 have C:∀n,rl++bs.take n≠[]:=fun n K=>h.ar.ne (by simp at K;exact K.1)
 have f:Sz (OX c area) (e+1) lf:=fun j w b=>by
  have z:j<safe.length / 2:=by rw [SC a1,y] at w;exact w
  rw [v] at b⊢
  rcases Ol j (OB rl) with B | hge
  ·have e3:gt (QR e 0 rl++ov lost 0 (QR e (OB rl) bs) T) j=gt (OX safe area) j:=by
    rw [k1,QW (by rw [RB];exact B),QW (by rw [RB];exact B)]
   rw [e3] at b⊢
   exact h.cur j (by rw [t];exact z) b
  ·obtain ⟨d,rfl⟩:∃d,j=OB rl+d:=⟨j-OB rl,by omega⟩
   have e3:gt (QR e 0 rl++ov lost 0 (QR e (OB rl) bs) T) (OB rl+d)=gt (ov lost 0 (QR e (OB rl) bs) T) d:=by
    rw [<-RB (e:=e) rl 0,Rj]
   rw [e3] at b⊢
   rcases Nl3 (lost:=lost) (a:=QR e (OB rl) bs) (old:=T) (i:=0) (j:=d) (by rw [RB];omega) (by omega) with hm1 | hm1
   ·rw [hm1] at b⊢
    have O:gt (OX safe area) (OB rl+d)=gt T d:=by rw [k1,<-RB (e:=e) rl 0,Rj]
    have:=h.cur (OB rl+d) (by rw [t];exact z)
    rw [O] at this
    exact this b
   ·have:=Mk e2 l2 bs _ (fun x hx=>(hb x hx).1) _ hm1
    omega
 have l:Sz (OX c (1-area)) e lf:=by rw [J];exact h.oth
 have A:∀n,OB (rl++bs.take n)=OB rl+OB (bs.take n):=fun n=>RV _ _
 refine ⟨k,R,⟨⟨I, ?_, ?_⟩,E k,D k,C k,f,l,e1,e2,l1,l2,a1,by omega⟩,fun hl=>?_⟩
 ·rw [v,G,We,Nr,Nl]
 ·rw [A,UM];exact H
 ·obtain ⟨M,N⟩:=S fun j w=>by rw [Nr];exact hl j w
  refine ⟨M, ?_⟩
  have s:bs.take k=bs:=by rw [M];exact Pa
  have F:=A k
  have p:=E k
  have o:=D k
  have g:=C k
  rw [s] at G H F p o g
  refine ⟨⟨⟨I, ?_, ?_,fun j w=>?_⟩,p,o,g⟩,f,l,e1,e2,l1,l2,a1,by omega⟩
  ·rw [v,G,We,Nr,Nl]
  ·rw [F,UM];exact H
  ·rw [F]
   have:=k3 (OB bs+j) (by rw [N,Ow] at w;omega)
   rw [<-On] at this
   rw [N,show gt (T.drop (OB bs)) j=gt T (OB bs+j) by unfold gt;rw [Nb,Nb,Pn]]
   exact this
theorem KD.sync {area e lf:Nat} {safe:List QY} {rl bs:LR} (h:KD area e lf safe rl) (hb:∀x∈bs,x.1=lf/\x.2.length<2 ^ 20) (b:OB rl+OB bs<=safe.length / 2):KD area e lf (QP [] (Rs (area*(safe.length / 2)) e lf (OB rl) (X6 bs)) safe) (rl++bs):=by
 obtain ⟨k,_,_,a⟩:=h.crash (lost:=[]) hb b
 exact (a fun j _=>by simp).2
theorem M4:∀(a:List QY) (i:Nat) (x:Nat×Nat),x.2<=(Vk i a x).2/\∀j,j<a.length->QG (gt a j) (i+j)=true->Rf (gt a j) 4<=(Vk i a x).2
 | [],i,x=>⟨Nd _,fun j h=>by simp at h⟩
 | s::r,i,x=>by
   rw [Vk]
   obtain ⟨h1,h2⟩:=M4 r (i+1) (if QG s i then (max x.1 (Rf s 0),max x.2 (Rf s 4)) else x)
   refine ⟨P9 ?_ h1,fun j c b=>?_⟩
   ·split
    ·exact Py _ _
    ·exact Nd _
   ·match j,c,b with
    | 0,c,b=>
      rw [RX,Oq] at b
      rw [RX]
      rw [Nk b] at h1⊢
      exact P9 (O8 x.2 _) h1
    | j+1,c,b=>
      rw [Rx] at b⊢
      exact h2 j (by simpa using c) (by rw [show i+1+j=i+(j+1) by omega];exact b)
theorem Nel {b:Nat}:∀(a:List QY) (i:Nat) (x:Nat×Nat),x.2<=b->(∀j,j<a.length->QG (gt a j) (i+j)=true->Rf (gt a j) 4<=b)->(Vk i a x).2<=b
 | [],i,x,h,_=>h
 | s::r,i,x,h,ha=>by
   rw [Vk]
   refine Nel r (i+1) _ ?_ fun j d c=>?_
   ·split
    ·rename_i c
     exact Nat.max_le.2 ⟨h,ha 0 (by simp) c⟩
    ·exact h
   ·have:=ha (j+1) (by simpa using d)
    rw [Rx] at this
    exact this (by rw [show i+(j+1)=i+1+j by omega];exact c)
theorem Ncv {safe:List QY}:QP [] [] safe=safe:=rfl
theorem Nib {safe:List QY}:opA safe=OX safe 0:=by unfold opA;rw [Nbk,Ncv]
theorem Nia {safe:List QY}:Nft safe=OX safe 1:=by unfold Nft;rw [Nbk,Ncv]
theorem Nfs {a:List QY} {e lf:Nat} (h:Sz a e lf) (hr:0<(recs a).1.length):Q9 a<e:=by
 match a,h,hr with
 | [],_,hr=>simp [recs,TH] at hr
 | s::r,h,hr=>
   unfold recs at hr
   rw [TH] at hr
   split at hr
   ·rename_i b
    simp only [Sg,Nq,Nx] at b
    exact (h 0 (by simp) b.1.1.1.1).1
   ·simp at hr
theorem WT {i:Nat} {a:List QY} {x:OpS} (h1:0<(recs a).1.length) (h2:x.1=false\/x.2.2.1<Q9 a):QU i a x=(true,i,Q9 a,(recs a).2):=by
 unfold QU Uf
 rw [Nk]
 rcases h2 with h2 | h2<;>simp [h1,h2]
theorem YD {i:Nat} {a:List QY} {x:OpS} (h:0<(recs a).1.length->x.1=true/\¬x.2.2.1<Q9 a):QU i a x=x:=by
 unfold QU Uf
 by_cases h1:0<(recs a).1.length
 ·have:=h h1
  rw [Ni]
  simp [h1,this]
 ·rw [Ni]
  simp only [h1,decide_false,Bool.false_and]
  decide
theorem KO.opened {area e lf:Nat} {safe:List QY} {rl:LR} (h:KO area e lf safe rl):opX safe=(true,area,e,OB rl)/\(VX safe).2<=lf/\((VX safe).2<1073741824->KD area e ((VX safe).2+1) safe rl):=by
 have a1:=h.a1
 have e1:=h.e1
 have e2:=h.e2
 have l2:=h.l2
 have s:=h.sz
 obtain ⟨T,k1,k2⟩:=h.lay
 have p:=SC (safe:=safe) a1
 have y:=SC (safe:=safe) (a:=1-area) (by omega)
 have A:OB rl<=safe.length / 2:=by rw [<-p,k1,Nj,RB];omega
 have g:∀a,a<=1->∀j,j<(OX safe a).length->QG (gt (OX safe a) j) j=true->Rf (gt (OX safe a) j) 4<=(VX safe).2:=fun a v j f d=>by
  unfold VX
  rw [Nib,Nia]
  rcases (show a=0\/a=1 by omega) with rfl | rfl
  ·exact P9 ((M4 (OX safe 0) 0 (0,0)).2 j f (by rw [Nr];exact d)) (M4 _ _ _).1
  ·exact (M4 (OX safe 1) 0 _).2 j f (by rw [Nr];exact d)
 have m:∀a,a<=1->∀j,j<(OX safe a).length->QG (gt (OX safe a) j) (0+j)=true->Rf (gt (OX safe a) j) 4<=lf:=fun a v j f d=>by
  rw [Nr] at d
  rcases (show a=area\/a=1-area by omega) with rfl | rfl
  ·exact (h.cur j f d).2
  ·exact (h.oth j f d).2
 have w:(VX safe).2<=lf:=by
  unfold VX
  rw [Nib,Nia]
  exact Nel _ _ _ (Nel _ _ _ (N3 _) (m 0 (by omega))) (m 1 (by omega))
 obtain ⟨j,B,t,C⟩:=ZP e1 e2 l2 rl 0 0 (by omega) h.short h.up h.ne
 have q:Ug 0 rl<=(VX safe).2:=by
  have:=g area a1 j (by rw [k1,Nj];omega)
  rw [k1,QW B,C] at this
  rw [Nr] at t
  exact this t
 obtain ⟨u,D⟩:=MG rl 0 h.up
 have k:Ar e ((VX safe).2+1) (OX safe area) rl:=⟨⟨T,k1,k2,fun j f d _=>by
  have:=g area a1 (OB rl+j) (by rw [k1,Nj,RB];omega)
  have e3:gt (OX safe area) (OB rl+j)=gt T j:=by rw [k1,<-RB (e:=e) rl 0,Rj]
  rw [e3] at this
  have:=this d
  omega⟩,Ne2 (by omega) _ _ u,h.short,h.ne⟩
 have c:recs (OX safe area)=(rl.map (·.2),OB rl)/\Q9 (OX safe area)=e:=by
  rcases Ol (VX safe).2 1073741824 with hb | hb
  ·exact k.recs e1 e2 (by omega) (by omega)
  ·have z:(VX safe).2=1073741824:=by omega
   have he:Ug 0 rl<=1073741824:=by omega
   have hl:=XY (e:=e) (b:=Ug 0 rl) e1 e2 he rl 0 0 [] T (by omega) h.short u
   have l:Q9 (OX safe area)=e:=by
    rw [k1]
    match rl,h.ne,h.up,h.short with
    | x::r,_,hu,hx=>
      rw [QR]
      unfold WC
      rw [Sk]
      split
      ·rename_i o
       exact Tm o (by omega)
      ·rw [SA]
       exact Tm (by show (x.2.take 18).length<=18;rw [N0];omega) (by omega)
   refine ⟨?_,l⟩
   unfold Go.Proofs.YtancgcogjokfcaaGreatDoor.Fn.recs
   rw [l,k1,hl,Nr,N6]
   exact WO _ _ _ _ _ _ _ k2
 have i:0<(recs (OX safe area)).1.length:=by
  rw [c.1]
  have:=List.length_pos_iff.2 h.ne
  simpa using this
 have n:=Nfs h.oth
 refine ⟨?_,w,fun hb=>⟨k,fun j f d=>?_,fun j f d=>?_,e1,e2,by omega,by omega,a1,s⟩⟩
 ·unfold opX
  rw [Nib,Nia]
  rcases (show area=0\/area=1 by omega) with rfl | rfl
  ·rw [WT i (.inl rfl),YD,c.1,c.2]
   intro hr
   refine ⟨rfl, ?_⟩
   have:=n hr
   rw [c.2]
   simp only [Nat.sub_zero] at this⊢
   omega
  ·rw [WT (a:=OX safe 1) i,c.1,c.2]
   by_cases hr:0<(recs (OX safe 0)).1.length
   ·rw [WT hr (.inl rfl),c.2]
    exact .inr (n hr)
   ·rw [YD fun h=>absurd h hr]
    exact .inl rfl
 ·exact ⟨(h.cur j f d).1,Nat.le_succ_of_le (g area a1 j f d)⟩
 ·exact ⟨(h.oth j f d).1,Nat.le_succ_of_le (g (1-area) (by omega) j f d)⟩
theorem KD.fresh {area e lf:Nat} {safe:List QY} {b:List UInt8} (e1:1<=e) (e2:e<=1073741824) (l1:1<=lf) (l2:lf<=1073741824) (a1:area<=1) (B:safe.length<2 ^ 20) (u:Sz (OX safe area) e lf) (y:Sz (OX safe (1-area)) e lf) (hb:OQ b.length<=safe.length / 2) (k:b.length<2 ^ 20) :
  KD area e lf (QP [] (Rs (area*(safe.length / 2)) e lf 0 (WC b)) safe) [(lf,b)]:=by
 have z:=SC (safe:=safe) a1
 have h1:=Na6 (lost:=[]) (e:=e) (lf:=lf) (m:=0) (r:=WC b) (safe:=safe) a1 (by rw [SX];omega)
 have h2:=Ma (lost:=[]) (e:=e) (lf:=lf) (m:=0) (r:=WC b) (safe:=safe) a1 (by rw [SX];omega)
 have n:(QP [] (Rs (area*(safe.length / 2)) e lf 0 (WC b)) safe).length=safe.length:=QX
 generalize QP [] (Rs (area*(safe.length / 2)) e lf 0 (WC b)) safe=f at h1 h2 n⊢
 rw [Qa,Og,N6] at h1
 have o:(SA e lf 0 (WC b)).length=OQ b.length:=by rw [Vl,SX]
 have q:ov [] 0 (SA e lf 0 (WC b)) (OX safe area)=SA e lf 0 (WC b)++(OX safe area).drop (OQ b.length):=by
  have t:=Zn (lost:=[]) (SA e lf 0 (WC b)) [] (OX safe area) 0 (by omega)
  rw [Na] at t
  rw [t,Nd4,Nh9 _ _ _ (by rw [N0];omega) (fun j _=>by simp),o]
 rw [q] at h1
 have p:OB [(lf,b)]=OQ b.length:=rfl
 have v:∀j,j<((OX safe area).drop (OQ b.length)).length->gt ((OX safe area).drop (OQ b.length)) j=gt (OX safe area) (OQ b.length+j):=fun j a=>by
  unfold gt;rw [Nb,Nb,Pn]
 have h:∀j,j<((OX safe area).drop (OQ b.length)).length->VR e lf (OQ b.length+j) (gt ((OX safe area).drop (OQ b.length)) j):=fun j a c he=>by
  rw [v j a] at c he
  rw [Ow] at a
  have:=u (OQ b.length+j) (by omega) c
  omega
 have g:Sz (OX f area) (e+1) lf:=fun j a c=>by
  rw [h1] at a c⊢
  rw [Nj,o] at a
  rcases Ol j (OQ b.length) with A | hge
  ·rw [QW (by omega)] at c⊢
   have:=XZ e2 l2 (b.length+1) 1 b 0 (Nd _) _ (Xb (l:=SA e lf 0 (WC b)) (i:=j) (by omega))
   omega
  ·obtain ⟨d,rfl⟩:∃d,j=OQ b.length+d:=⟨j-OQ b.length,by omega⟩
   have e3:gt (SA e lf 0 (WC b)++(OX safe area).drop (OQ b.length)) (OQ b.length+d)=gt (OX safe area) (OQ b.length+d):=by
    rw [<-v d (by omega)]
    rw [<-o,Rj]
   rw [e3] at c⊢
   rw [Ow] at a
   have:=u _ (by omega) c
   omega
 refine ⟨⟨⟨(OX safe area).drop (OQ b.length), ?_, ?_,h⟩,⟨N3 _,l1,Nd _⟩, ?_,by simp⟩,g,by rw [h2];exact y,e1,e2,l1,l2,a1,by omega⟩
 ·rw [h1];simp [QR]
 ·rw [p]
  show TB e (OQ b.length) _ false lf=true
  cases hc:(OX safe area).drop (OQ b.length) with
  | nil=>rfl
  | cons s r=>
    have h0:=h 0 (by rw [hc];simp)
    rw [hc,RX,Oq] at h0
    rw [TB,Yd h0];rfl
 ·intro x w
  simp only [Ng] at w
  subst w
  exact k
theorem KD.begun (n:Nat) (hn:4<=n) (h2:n<2 ^ 20):KD 0 1 1 (Nfd n) [(1,[])]:=by
 have key:∀a,Sz (OX (List.replicate n V7) a) 1 1:=fun a j d c=>by
  have:gt (OX (List.replicate n V7) a) j=V7:=by
   have:=Xb d
   unfold OX at this
   exact List.eq_of_mem_replicate (List.mem_of_mem_drop (Ps this))
  rw [this,Zb] at c
  cases c
 have:=KD.fresh (area:=0) (e:=1) (lf:=1) (safe:=List.replicate n V7) (b:=[]) (by omega) (by omega) (by omega) (by omega) (by omega) (by rw [Pk];exact h2) (key 0) (key 1) (by rw [Pk];show OQ 0<=n / 2;unfold OQ;omega) (by simp)
 rw [Ov] at this
 exact this
structure RowsR (G:NB) (p:Option Addr) (ds:List Vu) (l:List (List UInt8)):Prop where
 sl:Sl G Ux 1 p ds
 len:ds.length=l.length
 row:∀k,k<l.length->(gt ds k).2.1=(gt l k).length/\Sl G Uc 1 (gt ds k).1 (gt l k)
theorem RowsR.ext {G G':NB} {p:Option Addr} {ds:List Vu} {l:List (List UInt8)} (h:RowsR G p ds l) (he:QL G G'):RowsR G' p ds l:=
 ⟨he.sl h.sl,h.len,fun k a=>⟨(h.row k a).1,he.sl (h.row k a).2⟩⟩
theorem Neq {d:Vu}:(Ux d)[0]? = some (.slice d.1 d.2.1 d.2.2):=id rfl
structure Mod (h0:Nat) (G:NB) (R cq:Nat) (ds:List Vu) (l:List (List UInt8)) (A:List Nat):Prop where
 blkR:∃rest,NF G R=Vc (ds.flatMap Ux++rest)
 cap:cq=loose 1\/(cq=1/\l.length=1)
 pos:0<l.length
 len:ds.length=l.length
 row:∀k,k<l.length->(gt ds k).2.1=(gt l k).length/\Sl G Uc 1 (gt ds k).1 (gt l k)/\∀a,(gt ds k).1=some a->a.block∉A/\a.block≠R/\h0<=a.block
 lo:h0<=R
 out:R∉A
theorem Nc8 (ds:List Vu):(ds.flatMap Ux).length=ds.length:=by rw [QJ Ta,N9]
theorem Mod.chg {h0:Nat} {G G':NB} {R cq:Nat} {ds:List Vu} {l:List (List UInt8)} {A B:List Nat} (h:Mod h0 G R cq ds l A) (hc:Chg B G G') (e:∀j∈B,j∈A\/j<h0):Mod h0 G' R cq ds l A:=by
 obtain ⟨rest,hr⟩:=h.blkR
 have b:∀j,j∉A->h0<=j->j∉B:=fun j h1 h2 d=>by rcases e j d with h4 | h4;exact h1 h4;omega
 refine ⟨⟨rest,hc.cells hr (b _ h.out h.lo)⟩,h.cap,h.pos,h.len,fun k f=>?_,h.lo,h.out⟩
 obtain ⟨k1,k2,k3⟩:=h.row k f
 exact ⟨k1,hc.sl k2 fun a c _=>b _ (k3 a c).1 (k3 a c).2.2,k3⟩
theorem Mod.cut {h0:Nat} {G:NB} {R cq:Nat} {ds:List Vu} {l:List (List UInt8)} {A:List Nat} (h:Mod h0 G R cq ds l A) {k:Nat} (c:0<k) (b:k<=l.length):Mod h0 G R cq (ds.take k) (l.take k) A:=by
 obtain ⟨rest,hr⟩:=h.blkR
 have hl:=h.len
 refine ⟨⟨(ds.drop k).flatMap Ux++rest, ?_⟩, ?_,by rw [N0];omega,by rw [N0,N0,hl],fun j a=>?_,h.lo,h.out⟩
 ·rw [hr,<-Nl,<-P5,Pj]
 ·rcases h.cap with h1 | ⟨h1,h2⟩
  ·exact .inl h1
  ·refine .inr ⟨h1, ?_⟩
   rw [N0];omega
 ·rw [N0] at a
  have e1:gt (ds.take k) j=gt ds j:=by unfold gt;rw [Nb,Nb,O9,Nk (by omega)]
  have e2:gt (l.take k) j=gt l j:=by unfold gt;rw [Nb,Nb,O9,Nk (by omega)]
  rw [e1,e2]
  exact h.row j (by omega)
theorem Mod.snoc {h0 lim:Nat} {G:NB} {R cq:Nat} {ds:List Vu} {l:List (List UInt8)} {A:List Nat} (h:Mod h0 G R cq ds l A) (w:lim<=h0) {q:Option Addr} {c:Nat} {r:List UInt8} (E:Sl G Uc 1 q r) (s:∀a,q=some a->a.block∉A/\a.block≠R/\h0<=a.block/\a.block<G.length) (u:∀k,k<l.length->∀a,(gt ds k).1=some a->a.block<G.length) (y:∀j∈A,j<G.length) (hl:l.length<2 ^ 30) (H:h0<=G.length) (X:NB) (b k:Nat) (F:NF (G++X) b=Vc (Ux (q,r.length,c))) :
  ∃f,OG lim none 1 24 false (.slice (Sa R) l.length cq) (.slice (Sa b) 1 k) (G++X)=some (.slice (Sa (G.length+X.length)) (l.length+1) (loose 1),f)/\Mod h0 f (G.length+X.length) (loose 1) (ds++[(q,r.length,c)]) (l++[r]) A/\Chg [R] G f/\f.length=G.length+X.length+1:=by
 obtain ⟨rest,hr⟩:=h.blkR
 have p:=NJ hr
 have x:=h.pos
 have e:=h.len
 have D:=h.lo
 have hb:AM.loadCells (G++X) ⟨b,0,none⟩ (1*1)=some (Ux (q,r.length,c)):=by
  rw [NV,F];rfl
 have o:NF (G++X) R=Vc (ds.flatMap Ux++rest):=by rw [NY p];exact hr
 have g:AM.loadCells (G++X) ⟨R,0,none⟩ (l.length*1)=some (ds.flatMap Ux):=by
  rw [NV,o]
  simp only [Nr,Og,N9,Nj,Nc8]
  rw [Nk (by omega),<-e,<-Nc8 ds,List.take_left]
 have m:(ds++[(q,r.length,c)]).flatMap Ux=ds.flatMap Ux++Ux (q,r.length,c):=by simp
 have fin:∀f:NB,Chg [R] G f->NF f (G.length+X.length)=Vc (ds.flatMap Ux++Ux (q,r.length,c))->Mod h0 f (G.length+X.length) (loose 1) (ds++[(q,r.length,c)]) (l++[r]) A:=fun f v z=>by
  refine ⟨⟨[],by rw [Na,m];exact z⟩,.inl rfl,by simp,by simp [e],fun j C=>?_,by omega,fun B=>by have:=y _ B;omega⟩
  by_cases n:j<l.length
  ·rw [QW (by omega),QW n]
   obtain ⟨k1,k2,k3⟩:=h.row j n
   exact ⟨k1,v.sl k2 fun a d _=>by simpa using (k3 a d).2.1,fun a d=>⟨(k3 a d).1,by have:=u j n a d;omega,(k3 a d).2.2⟩⟩
  ·have:j=l.length:=by simp at C;omega
   subst this
   rw [show gt (ds++[(q,r.length,c)]) l.length=(q,r.length,c) by rw [<-e];exact Rj (i:=0),show gt (l++[r]) l.length=r from Rj (i:=0)]
   exact ⟨rfl,v.sl E fun a d _=>by simpa using (s a d).2.1,fun a d=>⟨(s a d).1,by have:=(s a d).2.2.2;show a.block≠_;omega,(s a d).2.2.1⟩⟩
 have t:(G++X).length=G.length+X.length:=Nj
 rcases h.cap with h1 | ⟨h1,h2⟩
 ·refine ⟨(G.set R .dead++X)++[Vc (ds.flatMap Ux++Ux (q,r.length,c))], ?_,fin _ ?_ ?_, ?_, ?_⟩
  ·subst h1
   have hc:¬((l.length+1)*24 > PR\/l.length+1>=2 ^ 62\/loose 1<l.length):=by unfold loose PR;omega
   unfold OG
   simp only [firstCells,lenOf,hb,Np,if_false,show ((1:Nat)=0)=False from Q2 (by decide),false_or]
   rw [Ni hc,g]
   dsimp only
   rw [Nk trivial,o]
   dsimp only
   rw [Nk (by omega)]
   simp [place,O3 _ _ p,Nl]
  ·exact ((Chg.refl.set (.inl (by simp))).app).app
  ·rw [show G.length+X.length=(G.set R .dead++X).length by simp];exact NU
  ·exact ((Chg.refl.set (.inl (by simp))).app).app
  ·simp;omega
 ·refine ⟨(G++X)++[Vc (ds.flatMap Ux++Ux (q,r.length,c))], ?_,fin _ ?_ ?_, ?_, ?_⟩
  ·subst h1
   have hc:¬((l.length+1)*24 > PR\/l.length+1>=2 ^ 62\/1<l.length):=by unfold PR;omega
   unfold OG
   simp only [firstCells,lenOf,hb,Np,if_false,show ((1:Nat)=0)=False from Q2 (by decide),false_or]
   rw [Ni hc,g]
   dsimp only
   rw [Ni (by unfold loose;omega),Nk (by decide),Ni (by omega)]
   simp [place,Nl]
  ·exact (Chg.refl.app).app
  ·rw [<-t];exact NU
  ·exact (Chg.refl.app).app
  ·simp;omega
structure RLies (lim:Nat) (H:NB) (J D S area e lf n sc:Nat) (pp:Option Addr) (cp:Nat) (safe:List QY) (pend:List Wr):Prop where
 j:NF H J=Vc [Vp D,Vi area,Vi e,Vi lf,Vi n]
 d:NF H D=Vc [.slice (Sa S) safe.length sc,.slice pp pend.length cp]
 s:NF H S=Vc (safe.flatMap Si)
 sl:Sl H Wn 33 pp pend
 lJ:lim<=J
 lD:lim<=D
 lS:lim<=S
 JD:J≠D
 SD:S≠D
 SJ:S≠J
 ps:∀a,pp=some a->a.block≠S/\a.block≠D/\a.block≠J
 ne:safe≠[]
section
variable {lim J D S area e lf n sc cp:Nat} {pp:Option Addr} {safe:List QY} {pend:List Wr} {H:NB} {Q:Value->NB->Prop}
theorem Lies.r (h:Lies lim H J D S area e lf n sc pp cp safe pend):RLies lim H J D S area e lf n sc pp cp safe pend:=
 ⟨h.jl.j,h.jl.d,h.s,h.jl.own.sl Rz,h.jl.lJ,h.jl.lD,h.lS,h.jl.JD,h.SD,h.SJ,fun a b=>⟨h.ps a b,(h.jl.ap a b).2,(h.jl.ap a b).1⟩,h.ne⟩
theorem RLies.chg {H':NB} {L:List Nat} (h:RLies lim H J D S area e lf n sc pp cp safe pend) (hc:Chg L H H') (c:∀j∈L,j≠J/\j≠D/\j≠S/\∀a,pp=some a->a.block≠j):RLies lim H' J D S area e lf n sc pp cp safe pend:=by
 have b:∀j,(j=J\/j=D\/j=S)->j∉L:=fun j h1 h2=>by have:=c j h2;omega
 exact ⟨hc.cells h.j (b _ (by omega)),hc.cells h.d (b _ (by omega)),hc.cells h.s (b _ (by omega)),hc.sl h.sl fun a f _ g=>(c _ g).2.2.2 a f rfl,h.lJ,h.lD,h.lS,h.JD,h.SD,h.SJ,h.ps,h.ne⟩
end
structure SJ where
 area:Nat
 e:Nat
 lf:Nat
 nn:Nat
 pp:Option Addr
 cp:Nat
 safe:List QY
 pend:List Wr
 rl:LR
 bs:LR
structure KJ (lim n J D S:Nat) (H:NB) (i:Nat) (s:SJ) (G:NB):Prop where
 li:Lies lim G J D S s.area s.e s.lf s.nn n s.pp s.cp s.safe s.pend
 kd:KD s.area s.e s.lf s.safe s.rl
 hb:∀x∈s.bs,x.1=s.lf/\x.2.length<2 ^ 20
 len:s.safe.length=n
 nn:s.nn=OB s.rl+OB s.bs
 fits:s.nn<=n / 2
 pend:s.pend=Rs (s.area*(n / 2)) s.e s.lf (OB s.rl) (X6 s.bs)
 lf:s.lf<=i+1
 e:s.e<=i+1
 chg:Chg [] H G
 new:∀a,s.pp=some a->H.length<=a.block
 jn:H.length<=J
 dn:H.length<=D
 sn:H.length<=S
section
variable {lim n J D S i h cb:Nat} {H G:NB} {s:SJ} {q:Option Addr} {b:List UInt8} {Q:Value->NB->Prop}
theorem KJ.plen (I:KJ lim n J D S H i s G):s.pend.length=OB s.bs:=by rw [I.pend,Zc,VN]
theorem KJ.step {a:Nat} (I:KJ lim n J D S H i s G) (h:i<=a):KJ lim n J D S H a s G:=
 ⟨I.li,I.kd,I.hb,I.len,I.nn,I.fits,I.pend,by have:=I.lf;omega,by have:=I.e;omega,I.chg,I.new,I.jn,I.dn,I.sn⟩
theorem KJ.to {G':NB} {B:List Nat} (I:KJ lim n J D S H i s G) (hc:Chg B G G') (b:∀j∈B,H.length<=j/\j≠J/\j≠D/\j≠S/\∀a,s.pp=some a->a.block≠j):KJ lim n J D S H i s G':=
 ⟨Chg.lies I.li hc fun j c=>(b j c).2,I.kd,I.hb,I.len,I.nn,I.fits,I.pend,I.lf,I.e,I.chg.trans' hc fun j h1 h2=>absurd (b j h1).1 (by omega),I.new,I.jn,I.dn,I.sn⟩
theorem KJ.sync (I:KJ lim n J D S H i s G):KD s.area s.e s.lf (QP [] s.pend s.safe) (s.rl++s.bs):=by
 have:=I.kd.sync I.hb (by rw [<-I.nn,I.len];exact I.fits)
 rwa [I.len,<-I.pend] at this
theorem KJ.recs (I:KJ lim n J D S H i s G):(recs (TI s.pend s.safe s.area)).1=(s.rl++s.bs).map (·.2):=by
 rw [Nbk,I.sync.recs]
theorem KJ.lives (I:KJ lim n J D S H i s G):J<G.length/\D<G.length/\S<G.length/\∀a,s.pp=some a->a.block<G.length:=
 ⟨NJ I.li.jl.j,NJ I.li.jl.d,NJ I.li.s,fun a b=>(I.li.jl.own.block b).2⟩
theorem Nrc {L:List Nat} (e:Fresh h G q cb b) (c:∀j∈L,j<h):∀a,q=some a->a.block∉L:=fun a d f=>by
 have:=(e.own.block d).1
 have:=c _ f
 omega
theorem KJ.append [OA] (I:KJ lim n J D S H i s G) (hn:n<2 ^ 19) (hi:i<1000) (k:Fresh h G q cb b) (t:∀j∈J::D::S::blk s.pp,j<h)
  (z:n / 2<s.nn+OQ b.length->Q (Vi 4) G)
  (h0:∀s' G',KJ lim n J D S H (i+1) s' G'->s'.rl=s.rl->s'.bs=s.bs++[(s.lf,b)]->s'.lf=s.lf->Chg (J::D::blk s.pp) G G'->(∀a,s'.pp=some a->a.block∈blk s.pp\/G.length<=a.block)->Q (Vi 0) G') :
  NN E false lim 36 [Vp J,.slice q b.length cb] G Q:=by
 have F:=I.fits
 have o:=I.nn
 have B:=I.plen
 have c:=I.len
 have v:=k.len
 have A:=Nqe b.length
 have a1:=I.kd.a1
 have r:=Nrc k t
 refine Noj I.li (k.own.sl Rp) k.own.capOk k.nil (fun a f _=>by
  have:=r a f
  simp only [Nh,not_or] at this
  exact ⟨this.1,this.2.1,this.2.2.2⟩) (by omega) (by omega) (by omega) (by omega) a1 (fun hr=>z (by omega)) fun w u p hr g m d=>?_
 rw [c] at hr d
 refine h0 ⟨s.area,s.e,s.lf,s.nn+OQ b.length,u,p,s.safe,s.pend++Rs (s.area*(n / 2)) s.e s.lf s.nn (WC b),s.rl,s.bs++[(s.lf,b)]⟩ w ⟨d,I.kd, ?_,c, ?_, ?_, ?_,by have:=I.lf;show s.lf<=_;omega,by have:=I.e;show s.e<=_;omega, ?_, ?_,I.jn,I.dn,I.sn⟩ rfl rfl rfl g (fun a f=>by
  by_cases l:a.block∈blk s.pp
  ·exact .inl l
  ·exact .inr (m a f l))
 ·intro x hx
  rcases Ob.1 hx with hx | hx
  ·exact I.hb x hx
  ·simp only [Ng] at hx
   subst hx
   exact ⟨rfl,by show b.length<_;omega⟩
 ·show s.nn+OQ b.length=OB s.rl+OB (s.bs++[(s.lf,b)])
  rw [RV,o]
  simp only [OB];omega
 ·show s.nn+OQ b.length<=n / 2
  omega
 ·show s.pend++_=Rs _ _ _ _ (X6 (s.bs++[(s.lf,b)]))
  rw [Nni,Yt,VN,<-o,I.pend]
 ·refine I.chg.trans' g fun j h1 h2=>?_
  have:=I.jn
  have:=I.dn
  simp only [Nh] at h1
  rcases h1 with h1 | h1 | h1
  ·omega
  ·omega
  ·obtain ⟨a',e1,e2⟩:=Sy.1 h1
   have:=I.new a' e1
   omega
 ·intro a f
  by_cases l:a.block∈blk s.pp
  ·obtain ⟨y,e3,C⟩:=Sy.1 l
   have:=I.new y e3
   omega
  ·have:=m a f l
   have:=I.chg.len
   omega
theorem KJ.commit [OA] (I:KJ lim n J D S H i s G) (hn:n<2 ^ 19)
  (h0:∀s' G',KJ lim n J D S H i s' G'->s'.rl=s.rl++s.bs->s'.bs=[]->s'.pp=none->s'.pend=[]->s'.safe=QP [] s.pend s.safe->s'.lf=s.lf->Chg [S,D] G G'->Q (Vi 0) G') :
  NN E false lim 66 [Vp J] G Q:=by
 have h:=I.fits
 have d:=I.nn
 have k:=I.plen
 have b:=I.len
 refine Nog I.li (by omega) (by omega) fun H' f c=>?_
 refine h0 ⟨s.area,s.e,s.lf,s.nn,none,0,QP [] s.pend s.safe,[],s.rl++s.bs,[]⟩ H' ⟨c,I.sync,by simp,by rw [QX];exact b,by rw [RV];exact d,h,rfl,I.lf,I.e,I.chg.trans' f (fun j h1 h2=>by
  have:=I.dn
  have:=I.sn
  simp only [Nh,No,or_false] at h1;omega),(by intro a g;cases g),I.jn,I.dn,I.sn⟩ rfl rfl rfl rfl rfl rfl f
theorem KJ.right (I:KJ lim n J D S H i s G) (hn:4<=n) (b:n<=32768):WL s.safe.length s.pend=true:=by
 have d:=I.fits
 have c:=I.nn
 have a1:=I.kd.a1
 have key:∀(r:List (Nat×List UInt8)) (k:Nat),s.area*(n / 2)+k+r.length<=n->(Rs (s.area*(n / 2)) s.e s.lf k r).all (fun w=>UE n w.pos)=true:=by
  intro r
  induction r with
  | nil=>intro k _;rfl
  | cons x r ih=>
    intro k a
    simp only [Nn] at a
    rw [Rs,List.all_cons,ih (k+1) (by omega),Bool.and_true]
    unfold UE
    rw [Nx]
    show 0<=((s.area*(n / 2)+k:Nat):Int)/\((s.area*(n / 2)+k:Nat):Int)<(n:Int)
    omega
 unfold WL
 rw [I.len,I.pend,key _ _ (by rw [VN];rcases (show s.area=0\/s.area=1 by omega) with h | h<;>rw [h]<;>omega),Bool.and_true,Nx]
 omega
theorem KJ.begun (c:4<=n) (hn:n<2 ^ 15) (b:Chg [] H G) (f:H.length<=J) (e:H.length<=D) (hS:H.length<=S) (g:Lies lim G J D S 0 1 1 1 n none 0 (Nfd n) []):KJ lim n J D S H 0 ⟨0,1,1,1,none,0,Nfd n,[],[(1,[])],[]⟩ G:=
 ⟨g,KD.begun n c (by omega),by simp,Nk6 n,rfl,by show 1<=n / 2;omega,rfl,Nd _,Nd _,b,(by intro a d;cases d),f,e,hS⟩
end
def BU0:BU:=⟨[],[],[],[]⟩
def Rm:List (List ByteArray)->BU->Option BU
 | [],u=>some u
 | c::cs,u=>if Sq u c=0 then Rm cs (doneD u c) else none
theorem U3:∀{a b:List (List ByteArray)} {u:BU},Rm (a++b) u=(Rm a u).bind (Rm b)
 | [],b,u=>rfl
 | c::a,b,u=>by
   rw [N2,Rm,Rm]
   split
   ·exact U3
   ·rfl
theorem V3 {u:BU} {c:List ByteArray} (h:Sq u c=0):(doneD u c).calls=u.calls++[c]:=by
 unfold Sq at h
 unfold doneD
 cases e:Rl c with
 | none=>rw [e] at h;cases h
 | some x=>rfl
theorem UU:∀{cs:List (List ByteArray)} {u v:BU},Rm cs u=some v->v.calls=u.calls++cs
 | [],u,v,h=>by cases h;simp
 | c::cs,u,v,h=>by
   rw [Rm] at h
   split at h
   ·rename_i h1
    rw [UU h,V3 h1,Nl];rfl
   ·cases h
theorem Wf.stepD {n:Nat} {u:BU} {c:List ByteArray} (h:Wf n u) (he:Sq u c=0):Wf (n+1) (doneD u c):=by
 have e1:=V3 he
 unfold Sq at he
 unfold doneD at e1⊢
 cases e:Rl c with
 | none=>rw [e] at he;cases he
 | some x=>
   rw [e] at he
   have h1:=h.step he
   have hc:=h.calls
   rw [e] at e1
   exact ⟨by rw [e1,Nj];show u.calls.length+1<=_;omega,h1.ents,h1.frm,h1.sc⟩
theorem VF:∀{cs:List (List ByteArray)} {u v:BU} {n:Nat},Rm cs u=some v->Wf n u->Wf (n+cs.length) v
 | [],u,v,n,h,hw=>by cases h;exact hw
 | c::cs,u,v,n,h,hw=>by
   rw [Rm] at h
   split at h
   ·rename_i h1
    have:=VF h (hw.stepD h1)
    rw [show (c::cs).length=cs.length+1 from rfl,show n+(cs.length+1)=n+1+cs.length by omega]
    exact this
   ·cases h
theorem ZG {cs:List (List ByteArray)} {u v:BU} (k:Nat) (h:Rm cs u=some v):∃v',Rm (cs.take k) u=some v':=by
 rw [<-Pj k cs,U3] at h
 cases e:Rm (cs.take k) u with
 | none=>rw [e] at h;cases h
 | some v'=>exact ⟨v',rfl⟩
theorem ZH {cs:List (List ByteArray)} {c:List ByteArray} {u v:BU} (h:Rm cs u=some v) (he:Sq v c=0):Rm (cs++[c]) u=some (doneD v c):=by
 rw [U3,h]
 show Rm [c] v=_
 rw [Rm,Nk he];rfl
structure Fine (l:List ByteArray):Prop where
 ne:l≠[]
 len:l.length<=7
 size:∀s∈l,s.size<=40
theorem RH {t:ByteArray} {v:Int} (h:Rw t=some v):t.size<=40:=by
 unfold Rw at h
 split at h
 ·split at h
  ·rename_i e
   have:=Vh (n:=v)
   first | (rw [<-e];rename_i v' _;have:=Vh (n:=v');omega) | (rw [e];rename_i v' _;have:=Vh (n:=v');omega)
  ·cases h
 ·cases h
theorem YN {l:List ByteArray} (h0:l≠[]) (h1:l.length<=7) (h2:∀s∈l,s.size<=40):Fine l:=⟨h0,h1,h2⟩
theorem Nkd {u:BU} {l:List ByteArray} {g:Cl} (hr:Rl l=some g) (he:Rt u g=0):Fine l:=by
 have j:Tf.size<=40:=by decide
 have m:Ud.size<=40:=by decide
 have k:SN.size<=40:=by decide
 have o:TG.size<=40:=by decide
 have n:Rq.size<=40:=by decide
 unfold Rl at hr
 split at hr
 ·rename_i w a b
  split at hr
  ·rename_i e
   obtain ⟨id,h1,rfl⟩:=Nc.1 hr
   have hb:b.size<=40:=by
    unfold Rt at he
    simp only at he
    split at he
    ·cases he
    ·rename_i q;omega
   refine YN (by simp) (by simp) fun s c=>?_
   simp only [Nh,No,or_false] at c
   rcases c with rfl | rfl | rfl
   ·rw [e];exact j
   ·exact RH h1
   ·exact hb
  split at hr
  ·rename_i e
   split at hr
   ·rename_i h1 h2
    refine YN (by simp) (by simp) fun s c=>?_
    simp only [Nh,No,or_false] at c
    rcases c with rfl | rfl | rfl
    ·rw [e];exact m
    ·exact RH h1
    ·exact RH h2
   ·cases hr
  split at hr
  ·rename_i e
   split at hr
   ·rename_i h1 h2
    refine YN (by simp) (by simp) fun s c=>?_
    simp only [Nh,No,or_false] at c
    rcases c with rfl | rfl | rfl
    ·rw [e];exact n
    ·exact RH h1
    ·exact RH h2
   ·cases hr
  ·cases hr
 ·split at hr
  ·rename_i e
   split at hr
   ·rename_i h1 h2 d f
    refine YN (by simp) (by simp) fun s c=>?_
    simp only [Nh,No,or_false] at c
    rcases c with rfl | rfl | rfl | rfl | rfl
    ·rw [e];exact k
    ·exact RH h1
    ·exact RH h2
    ·exact RH d
    ·exact RH f
   ·cases hr
  ·cases hr
 ·split at hr
  ·rename_i e
   split at hr
   ·rename_i h1 h2 d f h i
    refine YN (by simp) (by simp) fun s c=>?_
    simp only [Nh,No,or_false] at c
    rcases c with rfl | rfl | rfl | rfl | rfl | rfl | rfl
    ·rw [e];exact o
    ·exact RH h1
    ·exact RH h2
    ·exact RH d
    ·exact RH f
    ·exact RH h
    ·exact RH i
   ·cases hr
  ·cases hr
 ·cases hr
theorem VJ {u:BU} {c:List ByteArray} (h:Sq u c=0):Fine c:=by
 unfold Sq at h
 cases e:Rl c with
 | none=>rw [e] at h;cases h
 | some x=>rw [e] at h;exact Nkd e h
theorem Fine.pack {l:List ByteArray} (h:Fine l):VH l=(Ra l,0)/\(Ra l).length<=300:=by
 have key:∀l:List ByteArray,(∀s∈l,s.size<=40)->(Ra l).length<=l.length*42:=fun l=>by
  induction l with
  | nil=>intro _;simp [Ra]
  | cons s l ih=>
    intro h
    have h1:=ih fun x c=>h x (by simp [c])
    have h2:=h s (by simp)
    simp only [Ra,Oi,Nj,Vj,Nn,Nm,Vf] at h1⊢
    omega
 have h1:=key l h.size
 have h2:=h.len
 have a:(Ra l).length<=300:=by omega
 refine ⟨?_,a⟩
 unfold VH
 rw [Ni (by omega),Ni,Ni (by omega)]
 rw [Bool.not_eq_true,List.any_eq_false]
 intro s b
 have:=h.size s b
 simp;omega
theorem Nl2 {s:ByteArray} (h:s.size<65536):SE (UInt8.ofNat (s.size / 256)) (UInt8.ofNat s.size)=s.size:=by
 unfold SE
 rw [UInt8.toNat_ofNat',UInt8.toNat_ofNat']
 omega
theorem Naf {s:ByteArray} {l:List ByteArray}:Ra (s::l)=UInt8.ofNat (s.size / 256)::UInt8.ofNat s.size::(s.data.toList++Ra l):=by
 simp [Ra,Vj]
theorem Nr2 {s:ByteArray}:(⟨s.data.toList.toArray⟩:ByteArray)=s:=by cases s;simp
theorem ZJ:∀(l:List ByteArray) (c:Nat),l.length<=c->(∀s∈l,s.size<=1000)->UK c (Ra l)=some l
 | [],c,_,_=>by cases c<;>rfl
 | s::l,0,h,_=>by simp at h
 | s::l,c+1,h,hs=>by
   have h1:=hs s (by simp)
   have hl:=Vf s
   rw [Naf,UK,Nl2 (by omega),Nk ⟨h1,by rw [Nj,hl];omega⟩]
   rw [show s.size=s.data.toList.length from hl.symm,List.drop_left,List.take_left,ZJ l c (by simp at h;omega) fun x a=>hs x (by simp [a]),Nr2]
   rfl
theorem Fine.unp {l:List ByteArray} (h:Fine l):Mm (Ra l)=(l,0):=by
 have h1:=h.pack.2
 have h2:=h.len
 unfold Mm
 rw [Ni (by omega),ZJ l 100 (by omega) fun s a=>by have:=h.size s a;omega]
theorem Ni9 {α β:Type} [Inhabited α] [Inhabited β] {f:α->β} {l:List α} {k:Nat} (h:k<l.length):gt (l.map f) k=f (gt l k):=by
 rw [UO (by simpa using h),UO h,Q6]
theorem No8 [OA] {mp:Bool} {lim k1 k2 w x:Nat} {p q:Option Addr} {a b:List ByteArray} {H:NB} {Q:Value->NB->Prop} (v:Sl H SI 1 p a) (hb:Sl H SI 1 q b) (e1:w=a.length) (e2:x=b.length) (h1:a.length<2 ^ 60) :
  NN E mp lim 72 [.slice p w k1,.slice q x k2] H Q=Q (.bool (decide (a=b))) H:=by
 subst e1;subst e2
 refine pc (by decide) e72 rfl rfl ?_
 rw [b72,c72]
 by_cases hl:a.length=b.length
 case neg=>
  simp only [n72,r72,hl,SB,Nat.reduceLT,NC,NI,Nat.reduceEqDiff,NG,NQ,reduceCtorEq,ND,place,NA,Nat.reduceAdd,Nat.reduceLeDiff,NE,Int.reduceEq,Int.reduceLT,Int.reduceLE]
  have:¬a=b:=fun h=>hl (by rw [h])
  simp [this]
 simp only [n72,r72,hl,SB,Nat.reduceLT,NC,NI,Nat.reduceEqDiff,NG,NQ,reduceCtorEq,ND,place,NA,Nat.reduceAdd,Nat.reduceLeDiff,NE,Int.reduceEq,Int.reduceLT,Int.reduceLE]
 refine QB (fun i=>a.length-i) (fun i fr G=>i<=a.length/\fr 0=.slice p a.length k1/\fr 1=.slice q a.length k2/\fr 5=Vi i/\QL H G/\∀j,j<i->gt a j=gt b j) 0
  ⟨N3 _,by rw [hl];exact (by simp only [FB,Nat.reduceEqDiff]),by rw [hl];exact (by simp only [FB,Nat.reduceEqDiff]),by rfl,QL.refl.app,fun j z=>by omega⟩ ?_
 intro i fr G ⟨hi,r,s,t,g,e⟩ y
 rw [QE Nuk.eq_1]
 refine NH ?_
 by_cases d:i<a.length
 ·have m:=fun X=>((g.sl v).app X).loadCell0 Ry d (by decide)
  have l:=fun c (k:IntKind) (H1:NB)=>(g.sl v).idx (c:=c) (k:=k) (H1:=H1) d
  have n:=fun X=>((g.sl hb).app X).loadCell0 Ry (hl▸d) (by decide)
  have f:=fun c (k:IntKind) (H1:NB)=>(g.sl hb).idx (c:=c) (k:=k) (H1:=H1) (hl▸d)
  rw [<-hl] at f
  have o:IntKind.i64.wrap ((i:Int)+1)=((i+1:Nat):Int):=QT (by omega)
  by_cases he:gt a i=gt b i
  ·simp only [n72,r72,r,s,t,d,m,n,l,f,o,Tt,he,Yz,decide_true,SB,Nat.reduceLT,NC,NI,Nat.reduceEqDiff,NG,NQ,reduceCtorEq,ND,place,NA,Nat.reduceAdd,Nat.reduceLeDiff,NE,Int.reduceEq,Int.reduceLT,Int.reduceLE]
   exact y (i+1) _ _ ⟨by omega,(by simp only [r,FB,Nat.reduceEqDiff]),(by simp only [s,FB,Nat.reduceEqDiff]),(by simp only [FB,Nat.reduceEqDiff]),g.app,fun j z=>by
    rcases Ol j i with h | h
    ·exact e j h
    ·have:j=i:=by omega
     subst this;exact he⟩ (by omega)
  ·simp only [n72,r72,r,s,t,d,m,n,l,f,o,Tt,he,Yz,decide_false,Bool.not_false,SB,Nat.reduceLT,NC,NI,Nat.reduceEqDiff,NG,NQ,reduceCtorEq,ND,place,NA,Nat.reduceAdd,Nat.reduceLeDiff,NE,Int.reduceEq,Int.reduceLT,Int.reduceLE]
   have:¬a=b:=fun h=>he (by rw [h])
   simp [this]
 obtain rfl:i=a.length:=by omega
 have u:a=b:=Nra hl e
 simp only [n72,r72,r,s,t,d,SB,Nat.reduceLT,NC,NI,Nat.reduceEqDiff,NG,NQ,reduceCtorEq,ND,place,NA,Nat.reduceAdd,Nat.reduceLeDiff,NE,Int.reduceEq,Int.reduceLT,Int.reduceLE]
 simp [u]
instance:Inhabited PC:=⟨⟨[],none,0⟩⟩
structure TRows (G:NB) (p:Option Addr) (ds:List Vu) (l:List (List ByteArray)):Prop where
 sl:Sl G Ux 1 p ds
 len:ds.length=l.length
 row:∀k,k<l.length->(gt ds k).2.1=(gt l k).length/\Sl G SI 1 (gt ds k).1 (gt l k)
theorem TRows.app {G:NB} {p:Option Addr} {ds:List Vu} {l:List (List ByteArray)} (h:TRows G p ds l) (X:NB):TRows (G++X) p ds l:=⟨h.sl.app X,h.len,fun k a=>⟨(h.row k a).1,(h.row k a).2.app X⟩⟩
structure CRows (h0:Nat) (G:NB) (R:Nat) (ds:List Vu) (l:List (List ByteArray)):Prop where
 blk:NF G R=Vc (ds.flatMap Ux)
 len:ds.length=l.length
 row:∀k,k<l.length->(gt ds k).2.1=(gt l k).length/\Sl G SI 1 (gt ds k).1 (gt l k)/\∀a,(gt ds k).1=some a->h0<=a.block/\a.block<G.length
 cap:∀k,k<l.length->(gt ds k).2.2=loose 1
 lo:h0<=R
theorem CRows.rows {h0 R:Nat} {G:NB} {ds:List Vu} {l:List (List ByteArray)} (h:CRows h0 G R ds l):TRows G (Sa R) ds l:=
 ⟨Sl.row Ta h.blk,h.len,fun k a=>⟨(h.row k a).1,(h.row k a).2.1⟩⟩
theorem CRows.chg {h0 R:Nat} {G G':NB} {A:List Nat} {ds:List Vu} {l:List (List ByteArray)} (h:CRows h0 G R ds l) (hc:Chg A G G') (d:∀j∈A,j<h0):CRows h0 G' R ds l:=
 ⟨hc.cells h.blk fun q=>by have:=d _ q;have:=h.lo;omega,h.len,fun k b=>⟨(h.row k b).1,hc.sl (h.row k b).2.1 fun a c _ q=>by have:=d _ q;have:=(h.row k b).2.2 a c;omega,fun a c=>by have:=(h.row k b).2.2 a c;have:=hc.len;omega⟩,h.cap,h.lo⟩
section
variable {mp:Bool} {lim l0 B:Nat} {jv:Value} {s:SU} {G:NB} {Q:Value->NB->Prop}
theorem Ngm [OA] {k1 k2 C D:Nat} {p q:Option Addr} {B db:List Vu} {a b:List (List ByteArray)} {H:NB} (o:TRows H p B a) (hb:TRows H q db b) (e1:C=a.length) (e2:D=b.length) (h1:a.length<2 ^ 40) (J:∀k,k<a.length->(gt a k).length<2 ^ 60) :
  NN E mp lim 30 [.slice p C k1,.slice q D k2] H Q=Q (.bool (decide (a=b))) H:=by
 subst e1;subst e2
 refine pc (by decide) e30 rfl rfl ?_
 rw [b30,c30]
 by_cases hl:a.length=b.length
 case neg=>
  simp only [n30,r30,hl,SB,seval,NC,NI,NG,NQ,reduceCtorEq,ND,place,NA,NE]
  have:¬a=b:=fun h=>hl (by rw [h])
  simp [this]
 simp only [n30,r30,hl,SB,seval,NC,NI,NG,NQ,reduceCtorEq,ND,place,NA,NE]
 refine QB (fun i=>a.length-i) (fun i fr G=>i<=a.length/\fr 0=.slice p a.length k1/\fr 1=.slice q a.length k2/\fr 12=Vi a.length/\fr 13=Vi i/\QL H G/\∀j,j<i->gt a j=gt b j) 0
  ⟨N3 _,by rw [hl];exact rfl,by rw [hl];exact rfl,by rw [hl];exact rfl,by rfl,QL.refl.app,fun j I=>by omega⟩ ?_
 intro i fr G ⟨hi,v,w,e,g,l,f⟩ F
 rw [QE Nuq.eq_1]
 refine NH ?_
 by_cases d:i<a.length
 ·have r:=fun X=>((l.sl o.sl).app X).loadCell0 Ta (i:=i) (by rw [o.len];exact d) (by decide)
  have m:=fun c (k:IntKind) (H1:NB)=>(l.sl o.sl).idx (c:=c) (k:=k) (H1:=H1) (i:=i) (by rw [o.len];exact d)
  have s:=fun X=>((l.sl hb.sl).app X).loadCell0 Ta (i:=i) (by rw [hb.len];omega) (by decide)
  have n:=fun c (k:IntKind) (H1:NB)=>(l.sl hb.sl).idx (c:=c) (k:=k) (H1:=H1) (i:=i) (by rw [hb.len];omega)
  rw [o.len] at m
  rw [hb.len,<-hl] at n
  obtain ⟨x,y⟩:=o.row i d
  obtain ⟨z,A⟩:=hb.row i (by omega)
  have t:=fun X (mp:Bool) (lim:Nat) (Q:Value->NB->Prop)=>No8 (mp:=mp) (lim:=lim) (k1:=(gt B i).2.2) (k2:=(gt db i).2.2) (Q:=Q) ((l.sl y).app X) ((l.sl A).app X) x z (J i d)
  have u:IntKind.i64.wrap ((i:Int)+1)=((i+1:Nat):Int):=QT (by omega)
  by_cases he:gt a i=gt b i
  ·simp only [n30,r30,v,w,e,g,d,r,s,m,n,u,Neq,t,Pz he,decide_true,Of,SB,seval,NC,NI,NG,NQ,reduceCtorEq,ND,place,NA,NE]
   exact F (i+1) _ _ ⟨by omega,v,w,e,rfl,l.app,fun j I=>by
    rcases Ol j i with h | h
    ·exact f j h
    ·have:j=i:=by omega
     subst this;exact he⟩ (by omega)
  ·simp only [n30,r30,v,w,e,g,d,r,s,m,n,u,Neq,t,Q2 he,decide_false,Bool.not_false,SB,seval,NC,NI,NG,NQ,reduceCtorEq,ND,place,NA,NE]
   have:¬a=b:=fun h=>he (by rw [h])
   simp [this]
 ·obtain rfl:i=a.length:=by omega
  simp only [n30,r30,v,w,e,g,d,SB,seval,NC,NI,NG,NQ,reduceCtorEq,ND,place,NA,NE]
  have:a=b:=Nra hl f
  simp [this]
theorem Nvy {c:PC}:(Njh c)[0]? = some (.slice c.p c.c.length c.k):=id rfl
theorem UG [OA] (h:KB l0 B jv s G) (hl:lim<=G.length) (hn:s.calls.length<2 ^ 30) (W:∀c∈s.calls,c.c≠[]/\c.c.length<2 ^ 40)
  (hQ:∀G' R ds,Chg [] G G'->CRows G.length G' R ds s.st.calls->Q (.slice (Sa R) s.calls.length s.calls.length) G') :
  NN E false lim 23 [Vp B] G Q:=by
 refine runs (by decide) e23 rfl ?_
 rw [b23,c23]
 have w:=fun X=>(QL.refl.app (X:=X)).cells h.b
 have y:=fun X (mp:Bool) (lim:Nat) (Q:Value->NB->Prop)=>VI (mp:=mp) (lim:=lim) (Q:=Q) (w X)
 obtain ⟨N,D⟩:∃N,N=s.calls.length:=⟨_,rfl⟩
 rw [<-D] at hn w hQ
 have V:=Pz (show 0<=(N:Int)/\(N:Int)*24<=35184372088832/\(N:Int)<4611686018427387904 by omega)
 have d:s.st.calls=s.calls.map (·.c):=rfl
 simp only [n23,r23,y,w,V,Nu1,hl,SB,seval,NC,NI,NG,NQ,reduceCtorEq,ND,place,NA,NE]
 refine QB (fun x:Nat×List Vu=>N-x.1) (fun x fr G1=>x.1<=N/\fr 3=.slice (Sa G.length) x.1 N/\fr 17=.slice s.cp N s.cc/\fr 18=Vi N/\fr 19=Vi x.1/\
   Chg [] G G1/\NF G1 G.length=Vc (x.2.flatMap Ux++List.replicate (N-x.1) Vz)/\x.2.length=x.1/\
   ∀k,k<x.1->(gt x.2 k).2.1=(gt s.st.calls k).length/\Sl G1 SI 1 (gt x.2 k).1 (gt s.st.calls k)/\(gt x.2 k).2.2=loose 1/\∀a,(gt x.2 k).1=some a->G.length+1<=a.block/\a.block<G1.length) (0,[])
  ⟨N3 _,rfl,rfl,rfl,rfl,Chg.refl.app,by rw [NU];rfl,rfl,fun k T=>absurd T (by simp)⟩ ?_
 rintro ⟨k,ds⟩ fr G1 ⟨T,L,n,o,t,C,F,g,e⟩ hN
 simp only at T L t F g e
 rw [QE Nuv.eq_1]
 refine NH ?_
 have aa:=C.len
 by_cases ab:k<N
 ·have m:(k:Int)<(N:Int):=by omega
  have Y:IntKind.i64.wrap ((k:Int)+1)=((k+1:Nat):Int):=QT (by omega)
  have J:Sl G1 Njh 1 s.cp s.calls:=C.sl (h.oc.sl Na2) fun _ _ _ q=>by cases q
  have U:=fun X=>(J.app X).loadCell0 Na2 (i:=k) (by omega) (by decide)
  have u:=fun c (kk:IntKind) (H1:NB)=>J.idx (c:=c) (k:=kk) (H1:=H1) (i:=k) (by omega)
  rw [<-D] at u
  have I:gt s.calls k∈s.calls:=by rw [UO (by omega)];exact Qc _
  obtain ⟨n1,n2⟩:=W _ I
  have z:=C.sl (h.cs _ I).1 fun _ _ _ q=>by cases q
  obtain ⟨a,ha⟩:=z.some n1
  rw [ha] at z
  simp only [n23,r23,L,n,o,t,m,U,u,Nvy,ha,SB,seval,NC,NI,NG,NQ,reduceCtorEq,ND,place,NA,NE]
  rw [Na]
  refine Ndc z n1 (by omega) ?_
  refine NH ?_
  have O:=NJ F
  have f:=Nex (lim:=lim) (R:=G.length) (bytes:=24) (cap:=N) (k:=1) (H:=G1++[Vc [],Vc ((gt s.calls k).c.flatMap SI),Vc [.slice (Sa (G1.length+1)) (gt s.calls k).c.length (loose 1)]]) (enc:=Ux) (old:=ds) (l:=[(Sa (G1.length+1),(gt s.calls k).c.length,loose 1)]) (p:=Sa (G1.length+2)) (rest:=List.replicate (N-k) Vz) Ta (by decide) (Sl.row Ta (ro:=false) (by rw [NP];rfl)) (by rw [NY O];exact F) hl (by simp;omega) (by simp;omega) (by omega) (by simp;unfold PR;omega)
  rw [g] at f
  simp only [Nn,Nm,Nr,Nat.reduceAdd] at f
  simp only [n23,r23,L,n,o,t,Y,f,SB,seval,NC,NI,NG,NQ,reduceCtorEq,ND,place,NA,NE]
  have K:gt s.st.calls k=(gt s.calls k).c:=by rw [d,Ni9 (by omega)]
  refine hN (k+1,ds++[(Sa (G1.length+1),(gt s.calls k).c.length,loose 1)]) _ _ ⟨by show k+1<=N;omega,rfl,n,o,rfl,C.app.set (.inr (Nd _)), ?_,by simp [g],fun j S=>?_⟩ (by show N-(k+1)<N-k;omega)
  ·rw [Rc (by simp;omega)]
   congr 2
   rw [List.drop_replicate]
   rfl
  ·change j<k+1 at S
   simp only
   rcases Ol j k with q | q
   ·obtain ⟨Z,r2,r4,M⟩:=e j q
    rw [QW (by omega)]
    refine ⟨Z,Chg.sl (A:=[G.length]) ((Chg.refl.app).set (.inl (by simp))) r2 fun a v _ q=>?_,r4,fun a v=>?_⟩
    ·rw [Ng] at q
     have:=M a v;omega
    ·have:=M a v
     simp;omega
   ·obtain rfl:j=k:=by omega
    have e1:gt (ds++[((Sa (G1.length+1):Option Addr),(gt s.calls j).c.length,loose 1)]) j=(Sa (G1.length+1),(gt s.calls j).c.length,loose 1):=by
     have:=Rj (l:=ds) (r:=[((Sa (G1.length+1):Option Addr),(gt s.calls j).c.length,loose 1)]) (i:=0);simp only [Oq,g] at this;rw [this];rfl
    rw [e1,K]
    refine ⟨rfl,Sl.row Ry (ro:=false) (by rw [PZ (by omega),NP];rfl),rfl,fun a v=>?_⟩
    cases v
    simp;omega
 ·obtain rfl:k=N:=by omega
  have m:¬((k:Int)<(k:Int)):=by omega
  simp only [n23,r23,L,n,o,t,m,SB,seval,NC,NI,NG,NQ,reduceCtorEq,ND,place,NA,NE]
  rw [Na]
  have P:s.st.calls.length=k:=by rw [d,Nz];omega
  refine hQ G1 G.length ds C ⟨?_,by rw [P];exact g,fun j S=>?_,fun j S=>(e j (by omega)).2.2.1,Nd _⟩
  ·rw [Qg,List.replicate_zero,Na] at F;exact F
  ·obtain ⟨Z,r2,_,M⟩:=e j (by omega)
   exact ⟨Z,r2,fun a v=>by have:=M a v;omega⟩
end
section
variable {lim l0 B:Nat} {jv:Value} {s:SU} {G:NB} {Q:Value->NB->Prop}
theorem Ndd [OA] {p:Option Addr} {c:Nat} {l:List Ent} (g:Own l0 G Xe 4 p c l) (hb:l.length<2 ^ 40)
  (f:∀q c' G',Chg [] G G'->Sl G' Xe 4 q l->(∀a,q=some a->G.length<=a.block)->Q (.slice q l.length c') G'):NN E false lim 50 [.slice p l.length c] G Q:=by
 refine runs (by decide) e50 rfl ?_
 rw [b50,c50]
 rcases g with ⟨rfl,rfl,rfl⟩ | ⟨R,rfl,rfl,i,_⟩
 ·simp only [n50,r50,VB,Nm,SB,seval,NC,NI,NG,NQ,reduceCtorEq,ND,place,NA,NE]
  exact f none 0 _ Chg.refl.app rfl (fun a e=>by cases e)
 ·have j:Sl G Xe 4 (Sa R) l:=Sl.row SK i
  by_cases hn:l=[]
  ·subst hn
   have d:∀X,OG lim none 4 32 false (.slice (Sa G.length) 0 0) (.slice (Sa R) 0 (loose 4)) X=some (.slice (Sa G.length) 0 0,X):=fun X=>Mj (by decide)
   simp only [n50,r50,VB,Nm,d,SB,seval,NC,NI,NG,NQ,reduceCtorEq,ND,place,NA,NE]
   exact f (Sa G.length) 0 _ Chg.refl.app ⟨rfl,fun h=>absurd rfl h⟩ (fun a e=>by cases e;exact Nd _)
  ·have d:=V4 (lim:=lim) (b:=G.length) (bytes:=32) (c:=loose 4) (H:=G++[Vc []]) (by rw [NU];rfl) (j.app _) (by decide) (by unfold PR;omega) (by omega) hn
   simp only [Nj,Nn,Nm,Nr,Nl,N2,N6] at d
   simp only [n50,r50,VB,d,SB,seval,NC,NI,NG,NQ,reduceCtorEq,ND,place,NA,NE]
   exact f (Sa (G.length+1)) (loose 4) _ Chg.refl.app (Sl.row (ro:=false) SK (by rw [NP];rfl)) (fun a e=>by cases e;show G.length<=G.length+1;omega)
theorem Nde [OA] {p:Option Addr} {c:Nat} {l:List Int} (g:Own l0 G Yi 1 p c l) (hb:l.length<2 ^ 40)
  (f:∀q c' G',Chg [] G G'->Sl G' Yi 1 q l->(∀a,q=some a->G.length<=a.block)->Q (.slice q l.length c') G'):NN E false lim 52 [.slice p l.length c] G Q:=by
 refine runs (by decide) e52 rfl ?_
 rw [b52,c52]
 rcases g with ⟨rfl,rfl,rfl⟩ | ⟨R,rfl,rfl,i,_⟩
 ·simp only [n52,r52,VB,Nm,SB,seval,NC,NI,NG,NQ,reduceCtorEq,ND,place,NA,NE]
  exact f none 0 _ Chg.refl.app rfl (fun a e=>by cases e)
 ·have j:Sl G Yi 1 (Sa R) l:=Sl.row Tu i
  by_cases hn:l=[]
  ·subst hn
   have d:∀X,OG lim none 1 8 false (.slice (Sa G.length) 0 0) (.slice (Sa R) 0 (loose 1)) X=some (.slice (Sa G.length) 0 0,X):=fun X=>Mj (by decide)
   simp only [n52,r52,VB,Nm,d,SB,seval,NC,NI,NG,NQ,reduceCtorEq,ND,place,NA,NE]
   exact f (Sa G.length) 0 _ Chg.refl.app ⟨rfl,fun h=>absurd rfl h⟩ (fun a e=>by cases e;exact Nd _)
  ·have d:=V4 (lim:=lim) (b:=G.length) (bytes:=8) (c:=loose 1) (H:=G++[Vc []]) (by rw [NU];rfl) (j.app _) (by decide) (by unfold PR;omega) (by omega) hn
   simp only [Nj,Nn,Nm,Nr,Nl,N2,N6] at d
   simp only [n52,r52,VB,d,SB,seval,NC,NI,NG,NQ,reduceCtorEq,ND,place,NA,NE]
   exact f (Sa (G.length+1)) (loose 1) _ Chg.refl.app (Sl.row (ro:=false) Tu (by rw [NP];rfl)) (fun a e=>by cases e;show G.length<=G.length+1;omega)
theorem Z8 [OA] {id:Int} (h:KB l0 B jv s G) (d:lim<=G.length) (hn:∀m,PD id s.ms=some m->m.m.ents.length<2 ^ 40)
  (b:∀q c' G',Chg [] G G'->Sl G' Xe 4 q (((PD id s.st.ms).getD noM).ents)->(∀a,q=some a->G.length<=a.block)->Q (.tuple #[.slice q (((PD id s.st.ms).getD noM).ents).length c',Vi (if (PD id s.st.ms).isSome then 0 else 6)]) G') :
  NN E false lim 13 [Vp B,Vi id] G Q:=by
 refine runs (by decide) e13 rfl ?_
 rw [b13,c13]
 rw [RG] at b
 have j:=fun X=>(h.new (Chg.refl.app (X:=X)))
 cases hg:PD id s.ms with
 | none=>
   rw [hg] at b
   have g:=fun X (mp:Bool) (lim:Nat) (Q:Value->NB->Prop)=>M6 (mp:=mp) (lim:=lim) (Q:=Q) (j X) hg
   simp only [n13,r13,g,d,SB,seval,NC,NI,NG,NQ,reduceCtorEq,ND,place,NA,NE]
   refine Ndd (p:=none) (c:=0) (l:=[]) (l0:=0) Own.nil (by decide) fun q c' G' f hS i=>?_
   refine NH ?_
   simp only [n13,r13,Nm,SB,seval,NC,NI,NG,NQ,reduceCtorEq,ND,place,NA,NE]
   rw [Na]
   exact b q c' G' f.pre hS (fun a e=>by have:=i a e;simp at this;omega)
 | some m=>
   rw [hg] at b
   have g:=fun X (mp:Bool) (lim:Nat) (Q:Value->NB->Prop)=>find_ok (mp:=mp) (lim:=lim) (Q:=Q) (j X) hg
   simp only [n13,r13,g,d,Ti,SB,seval,NC,NI,NG,NQ,reduceCtorEq,ND,place,NA,NE]
   refine Ndd (l:=m.m.ents) ((h.oe id m hg).app _) (hn m hg) fun q c' G' f hS i=>?_
   refine NH ?_
   simp only [n13,r13,SB,seval,NC,NI,NG,NQ,reduceCtorEq,ND,place,NA,NE]
   rw [Na]
   exact b q c' G' f.pre hS (fun a e=>by have:=i a e;simp at this;omega)
theorem Nhg [OA] {id:Int} (h:KB l0 B jv s G) (d:lim<=G.length) (hn:∀m,PD id s.ms=some m->m.m.its.length<2 ^ 40)
  (b:∀q c' G',Chg [] G G'->Sl G' Yi 1 q (((PD id s.st.ms).getD noM).its)->(∀a,q=some a->G.length<=a.block)->Q (.tuple #[.slice q (((PD id s.st.ms).getD noM).its).length c',Vi (if (PD id s.st.ms).isSome then 0 else 6)]) G') :
  NN E false lim 15 [Vp B,Vi id] G Q:=by
 refine runs (by decide) e15 rfl ?_
 rw [b15,c15]
 rw [RG] at b
 have j:=fun X=>(h.new (Chg.refl.app (X:=X)))
 cases hg:PD id s.ms with
 | none=>
   rw [hg] at b
   have g:=fun X (mp:Bool) (lim:Nat) (Q:Value->NB->Prop)=>M6 (mp:=mp) (lim:=lim) (Q:=Q) (j X) hg
   simp only [n15,r15,g,d,SB,seval,NC,NI,NG,NQ,reduceCtorEq,ND,place,NA,NE]
   refine Nde (p:=none) (c:=0) (l:=[]) (l0:=0) Own.nil (by decide) fun q c' G' f hS i=>?_
   refine NH ?_
   simp only [n15,r15,Nm,SB,seval,NC,NI,NG,NQ,reduceCtorEq,ND,place,NA,NE]
   rw [Na]
   exact b q c' G' f.pre hS (fun a e=>by have:=i a e;simp at this;omega)
 | some m=>
   rw [hg] at b
   have g:=fun X (mp:Bool) (lim:Nat) (Q:Value->NB->Prop)=>find_ok (mp:=mp) (lim:=lim) (Q:=Q) (j X) hg
   simp only [n15,r15,g,d,Ti,SB,seval,NC,NI,NG,NQ,reduceCtorEq,ND,place,NA,NE]
   refine Nde (l:=m.m.its) ((h.oi id m hg).app _) (hn m hg) fun q c' G' f hS i=>?_
   refine NH ?_
   simp only [n15,r15,SB,seval,NC,NI,NG,NQ,reduceCtorEq,ND,place,NA,NE]
   rw [Na]
   exact b q c' G' f.pre hS (fun a e=>by have:=i a e;simp at this;omega)
end
section
variable {mp:Bool} {lim l0 l1 A B:Nat} {jv jw:Value} {s r:SU} {G:NB} {Q:Value->NB->Prop}
theorem Nhw [OA] {k1 k2:Nat} {p q:Option Addr} {a:List Int} {H:NB} (s:Sl H Yi 1 p a) (hb:Sl H Yi 1 q a) (h1:a.length<2 ^ 60) :
  NN E mp lim 43 [.slice p a.length k1,.slice q a.length k2] H Q=Q (.bool true) H:=by
 refine pc (by decide) e43 rfl rfl ?_
 rw [b43,c43]
 simp only [n43,r43,SB,seval,NC,NI,NG,NQ,reduceCtorEq,ND,place,NA,NE]
 refine QB (fun i=>a.length-i) (fun i fr G=>i<=a.length/\fr 0=.slice p a.length k1/\fr 1=.slice q a.length k2/\fr 5=Vi i/\QL H G) 0
  ⟨N3 _,rfl,rfl,by rfl,QL.refl.app⟩ ?_
 intro i fr G ⟨hi,f,g,r,e⟩ t
 rw [QE Nuo.eq_1]
 refine NH ?_
 by_cases d:i<a.length
 ·have b:(i:Int)<(a.length:Int):=by omega
  have m:=fun X=>((e.sl s).app X).loadCell0 Tu d (by decide)
  have j:=fun c (k:IntKind) (H1:NB)=>(e.sl s).idx (c:=c) (k:=k) (H1:=H1) d
  have n:=fun X=>((e.sl hb).app X).loadCell0 Tu d (by decide)
  have l:=fun c (k:IntKind) (H1:NB)=>(e.sl hb).idx (c:=c) (k:=k) (H1:=H1) d
  have o:IntKind.i64.wrap ((i:Int)+1)=((i+1:Nat):Int):=QT (by omega)
  have h:(Yi (gt a i))[0]? = some (Vi (gt a i)):=id rfl
  simp only [n43,r43,f,g,r,b,m,n,j,l,o,h,SB,seval,NC,NI,NG,NQ,reduceCtorEq,ND,place,NA,NE]
  exact t (i+1) _ _ ⟨by omega,f,g,rfl,e.app⟩ (by omega)
 obtain rfl:i=a.length:=by omega
 have b:¬((a.length:Int)<(a.length:Int)):=by omega
 simp only [n43,r43,f,g,r,b,SB,seval,NC,NI,NG,NQ,reduceCtorEq,ND,place,NA,NE]
def Nqg (u:BU) (id:Int):ByteArray×Int:=match PD id u.ms with
 | some m=>(m.name,0)
 | none=>(⟨#[]⟩,6)
theorem Nkq [OA] {id:Int} (h:KB l0 B jv s G):NN E mp lim 113 [Vp B,Vi id] G Q=Q (.tuple #[.string (Nqg s.st id).1,Vi (Nqg s.st id).2]) G:=by
 refine pc (by decide) Nzc rfl rfl ?_
 rw [Nz6,Nwe]
 unfold Nqg
 rw [RG]
 have b:=fun X=>(h.new (Chg.refl.app (X:=X)))
 cases hg:PD id s.ms with
 | none=>
   have a:=fun X (mp:Bool) (lim:Nat) (Q:Value->NB->Prop)=>M6 (mp:=mp) (lim:=lim) (Q:=Q) (b X) hg
   simp only [n113,Nw1,a,SB,seval,NC,NI,NG,NQ,reduceCtorEq,ND,place,NA,NE]
 | some m=>
   have a:=fun X (mp:Bool) (lim:Nat) (Q:Value->NB->Prop)=>find_ok (mp:=mp) (lim:=lim) (Q:=Q) (b X) hg
   simp only [n113,Nw1,a,Ti,SB,seval,NC,NI,NG,NQ,reduceCtorEq,ND,place,NA,NE]
theorem eqQ (e:Ent):VB (.agg [.int .u8,.int .i64,.int .i64,.int .i64]) (.agg (Xe e).toArray) (.agg (Xe e).toArray)=some true:=by
 simp [VB,Xe,PQ,TQ]
def Bnd (u:BU):Prop:=u.calls.length<2 ^ 30/\(∀c∈u.calls,c≠[]/\c.length<2 ^ 40)/\∀id m,PD id u.ms=some m->m.ents.length<2 ^ 40/\m.its.length<2 ^ 40
theorem Bnd.ents (h:Bnd s.st):∀id m,PD id s.ms=some m->m.m.ents.length<2 ^ 40:=fun id m a=>(h.2.2 id m.m (by rw [RG,a];rfl)).1
theorem Bnd.its (h:Bnd s.st):∀id m,PD id s.ms=some m->m.m.its.length<2 ^ 40:=fun id m a=>(h.2.2 id m.m (by rw [RG,a];rfl)).2
theorem No9 [OA] {id:Int} (H:KB l0 A jv s G) (hb:KB l1 B jw r G) (o:r.st=s.st) (d:Bnd s.st) (ab:lim<=G.length)
  (hQ:∀G',Chg [] G G'->Q (.bool true) G') :
  NN E false lim 70 [Vp A,Vp B,Vi id] G Q:=by
 have e:Bnd r.st:=by rw [o];exact d
 refine runs (by decide) e70 rfl ?_
 rw [b70,c70]
 have na:=fun X (mp:Bool) (lim:Nat) (Q:Value->NB->Prop)=>Nkq (id:=id) (mp:=mp) (lim:=lim) (Q:=Q) (H.new (Chg.refl.app (X:=X)))
 have Y:=fun X (mp:Bool) (lim:Nat) (Q:Value->NB->Prop)=>Nkq (id:=id) (mp:=mp) (lim:=lim) (Q:=Q) (hb.new (Chg.refl.app (X:=X)))
 have ba:=fun X (mp:Bool) (lim:Nat) (Q:Value->NB->Prop)=>Yn (id:=id) (mp:=mp) (lim:=lim) (Q:=Q) (H.new (Chg.refl.app (X:=X))) (d.ents _)
 have W:=fun X (mp:Bool) (lim:Nat) (Q:Value->NB->Prop)=>Yn (id:=id) (mp:=mp) (lim:=lim) (Q:=Q) (hb.new (Chg.refl.app (X:=X))) (e.ents _)
 rw [o] at Y W
 simp only [n70,r70,na,Y,ba,W,SB,seval,NC,NI,NG,NQ,reduceCtorEq,ND,place,NA,NE]
 rw [Na]
 refine Z8 H (by omega) (d.ents _) fun q1 c1 G1 u K _=>?_
 have l1:=u.len
 refine NH ?_
 simp only [n70,r70,SB,seval,NC,NI,NG,NQ,reduceCtorEq,ND,place,NA,NE]
 rw [Na]
 refine Z8 (hb.new u) (by omega) (e.ents _) fun q2 c2 Z v D _=>?_
 rw [o] at D⊢
 have l2:=v.len
 have x:Chg [] G Z:=u.trans' v fun _ F=>by cases F
 refine NH ?_
 simp only [n70,r70,SB,seval,NC,NI,NG,NQ,reduceCtorEq,ND,place,NA,NE]
 rw [Na]
 refine Nhg (H.new x) (by omega) (d.its _) fun q3 c3 G3 l M _=>?_
 have l3:=l.len
 have y:Chg [] G G3:=x.trans' l fun _ F=>by cases F
 refine NH ?_
 simp only [n70,r70,SB,seval,NC,NI,NG,NQ,reduceCtorEq,ND,place,NA,NE]
 rw [Na]
 refine Nhg (hb.new y) (by omega) (e.its _) fun q4 c4 P b w _=>?_
 rw [o] at w⊢
 have l4:=b.len
 have J:Chg [] G P:=y.trans' b fun _ F=>by cases F
 have no:∀{j:Nat} {A:Prop},j∈([]:List Nat)->A:=fun h=>by cases h
 have R:=(b.sl (l.sl (v.sl K fun _ _ _ h=>no h) fun _ _ _ h=>no h) fun _ _ _ h=>no h)
 have S:=(b.sl (l.sl D fun _ _ _ h=>no h) fun _ _ _ h=>no h)
 have T:=b.sl M fun _ _ _ h=>no h
 obtain ⟨L,C⟩:∃L,L=((PD id s.st.ms).getD noM).ents:=⟨_,rfl⟩
 obtain ⟨I,z⟩:∃I,I=((PD id s.st.ms).getD noM).its:=⟨_,rfl⟩
 have aa:L.length<2 ^ 40/\I.length<2 ^ 40:=by
  cases hg:PD id s.st.ms with
  | none=>rw [hg] at C z;rw [C,z];decide
  | some m=>rw [hg] at C z;rw [C,z];exact d.2.2 id m hg
 rw [<-C] at R S⊢
 rw [<-z] at T w⊢
 have N:=fun X (mp:Bool) (lim:Nat) (Q:Value->NB->Prop)=>Nhw (mp:=mp) (lim:=lim) (k1:=c3) (k2:=c4) (Q:=Q) (T.app X) (w.app X) (by omega)
 refine NH ?_
 simp only [n70,r70,N,Yz,decide_true,Of,SB,seval,NC,NI,NG,NQ,reduceCtorEq,ND,place,NA,NE]
 refine QB (fun i=>L.length-i) (fun i fr G'=>i<=L.length/\fr 15=.slice q1 L.length c1/\fr 17=.slice q2 L.length c2/\fr 114=Vi L.length/\fr 115=Vi i/\Chg [] P G') 0
  ⟨N3 _,rfl,rfl,rfl,by rfl,Chg.refl.app⟩ ?_
 intro i fr G' ⟨hi,q,t,a,p,g⟩ hN
 rw [QE Nul.eq_1]
 refine NH ?_
 by_cases n:i<L.length
 ·have f:(i:Int)<(L.length:Int):=by omega
  have U:=g.sl R fun _ _ _ h=>no h
  have V:=g.sl S fun _ _ _ h=>no h
  have la:=fun X=>(U.app X).loadCells SK n
  have ia:=fun c (k:IntKind) (H1:NB)=>U.idx (c:=c) (k:=k) (H1:=H1) n
  have lb:=fun X=>(V.app X).loadCells SK n
  have ib:=fun c (k:IntKind) (H1:NB)=>V.idx (c:=c) (k:=k) (H1:=H1) n
  have O:IntKind.i64.wrap ((i:Int)+1)=((i+1:Nat):Int):=QT (by omega)
  simp only [n70,r70,q,t,a,p,f,la,ia,lb,ib,O,eqQ,Of,SB,seval,NC,NI,NG,NQ,reduceCtorEq,ND,place,NA,NE]
  exact hN (i+1) _ _ ⟨by omega,q,t,a,rfl,g.app⟩ (by omega)
 obtain rfl:i=L.length:=by omega
 have f:¬((L.length:Int)<(L.length:Int)):=by omega
 simp only [n70,r70,q,t,a,p,f,SB,seval,NC,NI,NG,NQ,reduceCtorEq,ND,place,NA,NE]
 exact hQ _ (J.trans' g.app fun _ h=>no h)
theorem Ndt [OA] (y:KB l0 A jv s G) (hb:KB l1 B jw r G) (d:r.st=s.st) (b:Bnd s.st) (D:lim<=G.length)
  (M:∀G',Chg [] G G'->Q (.bool true) G') :
  NN E false lim 28 [Vp A,Vp B] G Q:=by
 have no:∀{j:Nat} {A:Prop},j∈([]:List Nat)->A:=fun h=>by cases h
 have C:s.calls.length=s.st.calls.length:=by simp [SU.st]
 have z:r.calls.length=s.st.calls.length:=by rw [<-d];simp [SU.st]
 have F:∀c∈s.calls,c.c≠[]/\c.c.length<2 ^ 40:=fun c hc=>b.2.1 _ (List.mem_map.2 ⟨c,hc,rfl⟩)
 have t:∀c∈r.calls,c.c≠[]/\c.c.length<2 ^ 40:=fun c hc=>b.2.1 _ (by rw [<-d];exact List.mem_map.2 ⟨c,hc,rfl⟩)
 have N:=b.1
 refine runs (by decide) e28 rfl ?_
 rw [b28,c28]
 simp only [n28,r28,SB,seval,NC,NI,NG,NQ,reduceCtorEq,ND,place,NA,NE]
 rw [Na]
 refine UG y D (by omega) F fun G1 S U g x=>?_
 have l1:=g.len
 refine NH ?_
 simp only [n28,r28,SB,seval,NC,NI,NG,NQ,reduceCtorEq,ND,place,NA,NE]
 rw [Na]
 refine UG (hb.new g) (by omega) (by omega) t fun L T V l q=>?_
 have l2:=l.len
 rw [d] at q
 have w:Chg [] G L:=g.trans' l fun _ h=>no h
 have p:=x.chg l fun _ h=>no h
 rw [C,z]
 have lX:=fun X (mp:Bool) (lim:Nat) (Q:Value->NB->Prop)=>Ngm (mp:=mp) (lim:=lim) (k1:=s.st.calls.length) (k2:=s.st.calls.length) (Q:=Q) (p.rows.app X) (q.rows.app X) rfl rfl (by omega) (fun k O=>by
  have:=(b.2.1 (gt s.st.calls k) (by rw [UO O];exact Qc _)).2;omega)
 refine NH ?_
 simp only [n28,r28,lX,decide_true,Of,SB,seval,NC,NI,NG,NQ,reduceCtorEq,ND,place,NA,NE]
 refine QB (fun i=>18-i) (fun i fr G'=>i<=18/\fr 0=Vp A/\fr 1=Vp B/\fr 5=Vi i/\Chg [] G G') 0
  ⟨by decide,rfl,rfl,by rfl,w.app⟩ ?_
 intro i fr G' ⟨hi,m,n,v,a⟩ I
 rw [QE Nur.eq_1]
 refine NH ?_
 have P:=a.len
 by_cases R:i<18
 ·have e:(i:Int)<18:=by omega
  have J:=fun X (mp:Bool) (lim:Nat) (Q:Value->NB->Prop)=>Nhf (id:=(i:Int)) (mp:=mp) (lim:=lim) (Q:=Q) ((y.new a).new (Chg.refl.app (X:=X)))
  have H:=fun X (mp:Bool) (lim:Nat) (Q:Value->NB->Prop)=>Nhf (id:=(i:Int)) (mp:=mp) (lim:=lim) (Q:=Q) ((hb.new a).new (Chg.refl.app (X:=X)))
  rw [d] at H
  have u:IntKind.i64.wrap ((i:Int)+1)=((i+1:Nat):Int):=QT (by omega)
  by_cases W:i<8
  ·have f:(i:Int)<8:=by omega
   simp only [n28,r28,m,n,v,e,J,H,f,Of,SB,seval,NC,NI,NG,NQ,reduceCtorEq,ND,place,NA,NE]
   rw [Na]
   refine No9 (y.new a) (hb.new a) d b (by omega) fun K o=>?_
   refine NH ?_
   simp only [n28,r28,m,n,v,u,Of,SB,seval,NC,NI,NG,NQ,reduceCtorEq,ND,place,NA,NE]
   exact I (i+1) _ _ ⟨by omega,m,n,rfl,(a.trans' o fun _ h=>no h).app⟩ (by omega)
  ·have f:¬((i:Int)<8):=by omega
   simp only [n28,r28,m,n,v,e,J,H,f,u,Of,SB,seval,NC,NI,NG,NQ,reduceCtorEq,ND,place,NA,NE]
   exact I (i+1) _ _ ⟨by omega,m,n,rfl,a.app⟩ (by omega)
 obtain rfl:i=18:=by omega
 simp only [n28,r28,m,n,v,N5,SB,seval,NC,NI,NG,NQ,reduceCtorEq,ND,place,NA,NE]
 exact M _ a.app
end
section
variable {lim:Nat} {H:NB} {Q:Value->NB->Prop}
end
section
variable {lim l0 n J D S iv B:Nat} {H0:NB} {s:SU} {sj:SJ} {G:NB} {Q:Value->NB->Prop}
structure JB (lim l0 n J D S:Nat) (H0:NB) (iv B:Nat) (s:SU) (sj:SJ) (G:NB):Prop where
 kb:KB l0 B (Vp J) s G
 kj:KJ lim n J D S H0 iv sj G
 sep:∀j∈J::D::S::blk sj.pp,(∀r,s.ptr B r≠some j)/\∀c∈s.calls,∀a,c.p=some a->a.block≠j
 rcs:(sj.rl++sj.bs).map (·.2)=[]::s.st.calls.map Ra
 val:Rm s.st.calls BU0=some s.st
theorem Zr:∀(l:LR),l.length<=OB l
 | []=>by simp [OB]
 | x::l=>by
   have:=Zr l
   have h:1<=OQ x.2.length:=by unfold OQ;omega
   simp only [OB,Nn];omega
theorem JB.many (h:JB lim l0 n J D S H0 iv B s sj G):s.calls.length+1<=n / 2:=by
 have h1:=Zr (sj.rl++sj.bs)
 rw [RV,<-h.kj.nn] at h1
 have h2:=Qd List.length h.rcs
 simp only [Nz,Nn,SU.st] at h2
 have:=h.kj.fits
 omega
theorem JB.wf (h:JB lim l0 n J D S H0 iv B s sj G):Wf s.calls.length s.st:=by
 have:=VF (n:=0) h.val ⟨by simp [BU0],(fun id m a=>by cases a),(fun id m a=>by cases a),by simp [BU0]⟩
 rw [Nr] at this
 simpa [SU.st] using this
theorem JB.lives (h:JB lim l0 n J D S H0 iv B s sj G):∀j∈J::D::S::blk sj.pp,j<G.length:=fun j hj=>by
 obtain ⟨k1,k2,k3,b⟩:=h.kj.lives
 simp only [Nh] at hj
 rcases hj with hj | hj | hj | hj
 ·omega
 ·omega
 ·omega
 ·obtain ⟨a,e1,e2⟩:=Sy.1 hj
  have:=b a e1;omega
theorem JB.to {G':NB} {A:List Nat} (h:JB lim l0 n J D S H0 iv B s sj G) (hc:Chg A G G') (f:∀j∈A,H0.length<=j/\(∀r,s.ptr B r≠some j)/\(∀c∈s.calls,∀a,c.p=some a->a.block≠j)/\j∉J::D::S::blk sj.pp):JB lim l0 n J D S H0 iv B s sj G':=
 ⟨h.kb.to hc fun j d=>⟨(f j d).2.1,(f j d).2.2.1⟩,h.kj.to hc fun j d=>by
  obtain ⟨i,_,_,b⟩:=f j d
  simp only [Nh,not_or] at b
  exact ⟨i,b.1,b.2.1,b.2.2.1,fun a g e=>b.2.2.2 (Sy.2 ⟨a,g,e⟩)⟩,h.sep,h.rcs,h.val⟩
theorem JB.new {G':NB} (h:JB lim l0 n J D S H0 iv B s sj G) (hc:Chg [] G G'):JB lim l0 n J D S H0 iv B s sj G':=h.to hc fun _ a=>by cases a
theorem JB.step {a:Nat} (h:JB lim l0 n J D S H0 iv B s sj G) (hi:iv<=a):JB lim l0 n J D S H0 a B s sj G:=⟨h.kb,h.kj.step hi,h.sep,h.rcs,h.val⟩
theorem Nwq [OA] {fr:Nat->Value} {H:NB} {g:FuncId} {cs:Array Value} {p:Option Addr} {c:List ByteArray} {k N:Nat} {u:BU} {v1 v2 v3 v4:Value} (r:fr 0=Vp B) (t:fr 1=.slice p c.length k) (hl:lim<=l0) (F:lim<=H.length)
  (w:NF H B=Vc [Vp J,v1,v2,v3,v4]) (Y:B∉J::D::blk sj.pp) (hs:Sl H SI 1 p c) (f:Fine c) (I:KJ lim n J D S H0 iv sj H) (hn:n<2 ^ 19) (hi:iv<1000)
  (C:∀H',Chg (J::D::blk sj.pp) H H'->∀L:Value->NB->Prop,(∀s1 G1,Mid l0 B (Vp J) s N H.length H' p c u s1 G1->L (.tuple #[]) G1)->NN E false lim g cs.toList H' L)
  (U:∀H',n / 2<sj.nn+OQ (Ra c).length->Chg [] H H'->Q (Vi 4) H')
  (Z:∀b H' s1 G1 s' G',KJ lim n J D S H0 (iv+1) b H'->b.rl=sj.rl->b.bs=sj.bs++[(sj.lf,Ra c)]->b.lf=sj.lf->Chg (J::D::blk sj.pp) H H'->(∀a,b.pp=some a->a.block∈blk sj.pp\/H.length<=a.block)->
   Mid l0 B (Vp J) s N H.length H' p c u s1 G1->Aft l0 B (Vp J) s1 G1 { s1.st with calls:=s1.st.calls++[c] } s' G'->Q (Vi 0) G') :
  QZ E a18 lim [.ops none [mT 26 31,Et 32 0 26,Et 33 1 26,mT 7 32,mT 8 33],.code R18] (upd fr 31 (.tuple #[.func (.func g) #[] cs,Vi 0])) H Q:=by
 simp only [R18,c18,Ve]
 have W:=fun X=>(QL.refl.app (X:=X)).cells w
 simp only [n18,r18,r,t,w,VB,Na,SB,seval,NC,NI,NG,NQ,reduceCtorEq,ND,place,NA,NE]
 refine Nud hs rfl F fun q cq K d m=>?_
 rw [f.pack.1] at m⊢
 simp only at m⊢
 have y:=d.cells w (by simp)
 have v:=fun X=>(QL.refl.app (X:=X)).cells y
 refine NH ?_
 simp only [n18,r18,r,t,v,SB,seval,NC,NI,NG,NQ,reduceCtorEq,ND,place,NA,NE]
 rw [Na]
 have O:KJ lim n J D S H0 iv sj K:=I.to d fun _ hj=>by cases hj
 obtain ⟨b1,b2,b3,R⟩:=I.lives
 have A:Ra c=[]->q=none:=fun e=>by
  obtain ⟨x,l,rfl⟩:=List.exists_cons_of_ne_nil f.ne
  rw [Naf] at e;cases e
 have ab:=f.pack.2
 refine O.append hn hi (h:=H.length) ⟨m,A,by omega⟩ (fun j hj=>?_) (fun o=>?_) fun b H' P e1 e2 e3 z G=>?_
 ·simp only [Nh] at hj
  rcases hj with hj | hj | hj | hj
  ·omega
  ·omega
  ·omega
  ·obtain ⟨a,e1,e2⟩:=Sy.1 hj
   have:=R a e1;omega
 ·refine NH ?_
  simp only [n18,r18,r,t,SB,seval,NC,NI,NG,NQ,reduceCtorEq,ND,place,NA,NE]
  rw [Na]
  exact U K o d
 ·have i:Chg (J::D::blk sj.pp) H H':=(d.mono fun _ _ hj=>by cases hj).trans' z fun j hj _=>hj
  refine NH ?_
  simp only [n18,r18,r,t,SB,seval,NC,NI,NG,NQ,reduceCtorEq,ND,place,NA,NE]
  rw [Na]
  refine C H' i _ fun s1 G1 M=>?_
  refine NH ?_
  have aa:=d.len
  exact Nuf (fr:=upd _ _ _) r t hl f.ne (by have:=f.len;omega) M.kb M.arg M.len M.big fun s' G' V=>Z b H' s1 G1 s' G' P e1 e2 e3 i (fun a T=>(G a T).imp (fun q=>q) fun q=>by omega) M V
theorem Nvz [OA] {k:Nat} {p:Option Addr} {c:List ByteArray} (h:JB lim l0 n J D S H0 iv B s sj G) (hn:n<2 ^ 19) (hi:iv<1000) (hl:lim<=l0) (N:l0<=G.length) (W:Sl G SI 1 p c) (y:Ul 1 k c.length) (P:∀a,p=some a->a.block<G.length) (z:∀a,p=some a->(∀r,s.ptr B r≠some a.block)/\a.block∉J::D::S::blk sj.pp) (hz:∀t∈c,t.size<=281474976710656) (hc:c.length<2 ^ 30) (aa:H0.length<=l0)
  (hE:∀G',Sq s.st c≠0->Chg [] G G'->Q (Vi (Sq s.st c)) G')
  (h4:∀G',Sq s.st c=0->n / 2<sj.nn+OQ (Ra c).length->Chg [] G G'->Q (Vi 4) G')
  (h0:∀s' d G',Sq s.st c=0->JB lim l0 n J D S H0 (iv+1) B s' d G'->s'.st=doneD s.st c->d.rl=sj.rl->d.bs=sj.bs++[(sj.lf,Ra c)]->(∃A,(∀j∈A,(∃r,s.ptr B r=some j)\/j∈J::D::blk sj.pp)/\Chg A G G')->
   (∀r j,s'.ptr B r=some j->s.ptr B r=some j\/G.length<=j)->(∀x∈s'.calls,x∈s.calls\/∀a,x.p=some a->G.length<=a.block)->(∀a,d.pp=some a->a.block∈blk sj.pp\/G.length<=a.block)->Q (Vi 0) G') :
  NN E false lim 18 [Vp B,.slice p c.length k] G Q:=by
 have O:=h.many
 have sub:∀j,j∈J::D::blk sj.pp->j∈J::D::S::blk sj.pp:=fun j hj=>by
  simp only [Nh] at hj⊢
  rcases hj with hj | hj | hj<;>simp [hj]
 have o:∀j∈J::D::blk sj.pp,j<G.length/\(∀r,s.ptr B r≠some j)/\(∀x∈s.calls,∀a,x.p=some a->a.block≠j)/\∀a,p=some a->a.block≠j:=fun j hj=>⟨h.lives j (sub j hj),(h.sep j (sub j hj)).1,(h.sep j (sub j hj)).2,fun a f e=>(z a f).2 (e▸sub j hj)⟩
 refine Nux (A:=J::D::blk sj.pp) h.kb h.wf (by omega) hl N W y P (fun a f=>(z a f).1) hz hc o (fun G' l he=>hE G' he l) fun cl hr he fr H g cs f0 f1 l L=>?_
 have e0:Sq s.st c=0:=by unfold Sq;rw [hr];exact he
 have ab:=l.len
 refine Nwq f0 f1 hl (by omega) (h.new l).kb.b (fun hB=>(h.sep B (sub B hB)).1 .b rfl) (l.sl W fun _ _ _ hj=>by cases hj) (Nkd hr he) (h.kj.to l fun _ hj=>by cases hj) hn hi L (fun H' w K=>h4 H' e0 w (l.trans' K fun _ hj=>by cases hj)) fun d H' s1 G1 s' G' I e1 e2 e3 v C M F=>?_
 have U:=v.len
 obtain ⟨q1,q2,X,Y,A',T,Z⟩:=M.aft (fun j hj=>(o j hj).1) l v F
 have u:s'.st=doneD s.st c:=by rw [q2,M.st];unfold doneD;rw [hr];simp only [ZZ]
 have i:∀j∈J::D::S::blk d.pp,j∈J::D::S::blk sj.pp\/H.length<=j/\j<H'.length:=fun j hj=>by
  simp only [Nh] at hj⊢
  rcases hj with hj | hj | hj | hj
  ·simp [hj]
  ·simp [hj]
  ·simp [hj]
  ·obtain ⟨a,f,e⟩:=Sy.1 hj
   have h1:=I.lives.2.2.2 a f
   rcases C a f with q | q
   ·rw [e] at q;simp [q]
   ·omega
 refine h0 s' d G' e0 ⟨q1,I.to Z fun j hj=>?_,fun j hj=>⟨fun r hr=>?_,fun x R a f e=>?_⟩, ?_, ?_⟩ u e1 e2 ⟨(J::D::blk sj.pp++A').filter (fun j=>decide (j<G.length)),fun j hj=>?_, ?_⟩ (fun r j hr=>(X r j hr).imp (fun q=>q) fun q=>by omega) (fun x R=>(Y x R).imp (fun q=>q) fun q a f=>by have:=q a f;omega) (fun a f=>(C a f).imp (fun q=>q) fun q=>by omega)
 ·have key:∀m,m∈J::D::S::blk d.pp->j≠m:=fun m V e=>by
   subst e
   rcases T j hj with ⟨r,q⟩ | q
   ·rcases i j V with k | k
    ·exact (h.sep j k).1 r q
    ·have:=(h.kb.lt q).2;omega
   ·rcases i j V with k | k
    ·have:=h.lives j k;omega
    ·omega
  refine ⟨?_,key J (by simp),key D (by simp),key S (by simp),fun a f e=>key a.block (by simp [Sy.2 ⟨a,f,rfl⟩]) e.symm⟩
  rcases T j hj with ⟨r,q⟩ | q
  ·have:=(h.kb.lt q).1;omega
  ·omega
 ·rcases X r j hr with q | q
  ·rcases i j hj with k | k
   ·exact (h.sep j k).1 r q
   ·have:=(h.kb.lt q).2;omega
  ·rcases i j hj with k | k
   ·have:=h.lives j k;omega
   ·omega
 ·rcases Y x R with q | q
  ·rcases i j hj with k | k
   ·exact (h.sep j k).2 x q a f e
   ·have:=(h.kb.cs x q).2 a f;omega
  ·have q:=q a f
   rcases i j hj with k | k
   ·have:=h.lives j k;omega
   ·omega
 ·rw [e1,e2,<-Nl,Pv,h.rcs,u,V3 e0,Pv]
  rfl
 ·rw [u,V3 e0]
  exact ZH h.val e0
 ·simp only [Oo,Ob,Nx] at hj
  rcases hj.1 with q | q
  ·exact .inr q
  ·rcases T j q with r | r
   ·exact .inl r
   ·omega
 ·refine ((l.mono fun _ _ hj=>by cases hj).trans' v fun j hj hl=>?_).trans' Z fun j hj hl=>?_
  ·exact Oo.2 ⟨Ox _ hj,by simpa using hl⟩
  ·exact Oo.2 ⟨Pr _ hj,by simpa using hl⟩
end
section
variable {lim l0 n J D S iv B:Nat} {H0:NB} {jv:Value} {s:SU} {sj:SJ} {G:NB} {Q:Value->NB->Prop}
theorem KB.le {l1:Nat} (h:KB l0 B jv s G) (hl:l1<=l0):KB l1 B jv s G:=
 ⟨h.b,h.m,h.x,h.oc.le hl,h.os.le hl,fun id m a=>(h.oe id m a).le hl,fun id m a=>(h.oi id m a).le hl,h.cs,by have:=h.lB;omega,by have:=h.lM;omega,by have:=h.lX;omega,h.inj,h.cf⟩
theorem KB.swap {l:Value} {G':NB} (h:KB l0 B jv s G) (hc:Chg [B] G G') (hb:NF G' B=Vc [l,.slice s.cp s.calls.length s.cc,.map (some s.M),.map (some s.X),.slice s.sp s.sc.length s.sk]):KB l0 B l s G':=by
 have hn:∀{r:Ro} {j:Nat},s.ptr B r=some j->r≠.b->j∉[B]:=fun {r j} hr f n=>by
  rw [Ng.1 n] at hr
  exact f (h.inj r .b B hr rfl)
 have hp:∀{p:Option Addr} {r:Ro},s.ptr B r=bk p->r≠.b->∀a,p=some a->a.block∉[B]:=fun {p r} e f a g=>hn (r:=r) (by rw [e,g];rfl) f
 exact ⟨hb,hc.get h.m (h.lt (r:=.m) rfl).2 (hn (r:=.m) rfl (by simp)),hc.get h.x (h.lt (r:=.x) rfl).2 (hn (r:=.x) rfl (by simp)),h.oc.chg hc (hp (r:=.c) rfl (by simp)),h.os.chg hc (hp (r:=.s) rfl (by simp)),fun id m k=>(h.oe id m k).chg hc (hp (r:=.e id) (by simp [SU.ptr,k]) (by simp)),fun id m k=>(h.oi id m k).chg hc (hp (r:=.i id) (by simp [SU.ptr,k]) (by simp)),fun c d=>⟨hc.sl (h.cs c d).1 fun a g _ n=>h.cf c d a g .b (by rw [Ng.1 n];rfl),fun a g=>by have:=(h.cs c d).2 a g;have:=hc.len;omega⟩,h.lB,h.lM,h.lX,h.inj,h.cf⟩
theorem Aft.sep {u:BU} {s':SU} {G':NB} {A:Nat->Prop} (h:Aft l0 B jv s G u s' G') (f:∀j,A j->j<G.length/\(∀r,s.ptr B r≠some j)/\∀c∈s.calls,∀a,c.p=some a->a.block≠j):∀j,A j->(∀r,s'.ptr B r≠some j)/\∀c∈s'.calls,∀a,c.p=some a->a.block≠j:=fun j g=>by
 obtain ⟨h1,h2,d⟩:=f j g
 refine ⟨fun r hr=>?_,fun x i a b e=>?_⟩
 ·rcases h.ptr r j hr with q | q
  ·exact h2 r q
  ·omega
 ·rcases h.calls x i with q | q
  ·exact d x q a b e
  ·have:=q a b;omega
theorem Nwm:Wf 0 BU0:=⟨by simp [BU0],(fun id m a=>by cases a),(fun id m a=>by cases a),by simp [BU0]⟩
theorem Zk {cs:List (List ByteArray)} {u v w:BU} {k:Nat} (h:Rm cs w=some u) (b:k<cs.length) (a:Rm (cs.take k) w=some v):Sq v (gt cs k)=0/\Rm (cs.take (k+1)) w=some (doneD v (gt cs k)):=by
 have e:cs.take (k+1)=cs.take k++[gt cs k]:=TU b
 have he:Sq v (gt cs k)=0:=by
  rw [<-Pj (k+1) cs,e,Nl,U3,a] at h
  change Rm (gt cs k::cs.drop (k+1)) v=some u at h
  rw [Rm] at h
  split at h
  ·assumption
  ·cases h
 exact ⟨he,by rw [e];exact ZH a he⟩
theorem Nsb [OA] {cs:List (List ByteArray)} {u:BU} {H:NB} (hl:lim<=H0.length) (a9:H0.length<=H.length) (hn:n<2 ^ 19) (C:Rm cs BU0=some u)
  (hO:∀Q':Value->NB->Prop,(∀J sj G1,KJ lim n J D S H0 iv sj G1->sj.bs=[]->sj.rl.map (·.2)=[]::cs.map Ra->sj.pend.length<2 ^ 30->Chg [S,D] H G1->Q' (.tuple #[Vp J,Vi 0]) G1)->NN E false lim 33 [Vp D] H Q')
  (hQ:∀s sj J B G',JB lim H0.length n J D S H0 iv B s sj G'->s.st=u->sj.bs=[]->Chg [S,D] H G'->Q (.tuple #[Vp B,Vi 0]) G') :
  NN E false lim 26 [Vp D] H Q:=by
 refine runs (by decide) e26 rfl ?_
 rw [b26,c26]
 simp only [n26,r26,SB,seval,NC,NI,NG,NQ,reduceCtorEq,ND,place,NA,NE]
 rw [Na]
 refine hO _ fun J sj G1 I U ag a2 ai=>?_
 have bd:=ai.len
 refine NH ?_
 simp only [n26,r26,SB,seval,NC,NI,NG,NQ,reduceCtorEq,ND,place,NA,NE]
 rw [Na]
 refine Nsc (by omega) fun G2 K2 aa=>?_
 have be:=aa.len
 refine NH ?_
 simp only [n26,r26,SB,seval,NC,NI,NG,NQ,reduceCtorEq,ND,place,NA,NE]
 rw [Na]
 have I2:=I.to aa fun _ hj=>by cases hj
 have a4:=I.kd.sz
 have aj:(recs (TI sj.pend sj.safe sj.area)).1=[]::cs.map Ra:=by rw [I.recs,U,Na,ag]
 refine Njy I2.li a4 a2 I.kd.a1 (by omega) fun G3 h3 q cq ds R bc hR=>?_
 rw [aj] at hR⊢
 have bf:=R.len
 have K3:=K2.new R
 have I3:=I2.to R fun _ hj=>by cases hj
 have ah:Chg [S,D] H G3:=(ai.trans' aa fun _ hj=>by cases hj).trans' R fun _ hj=>by cases hj
 have bb:cs.length<2 ^ 30:=by
  have h1:=Zr sj.rl
  have h2:=Qd List.length ag
  have h3:=I.nn
  have h4:=I.fits
  simp only [Nz,Nn] at h2
  rw [U] at h3
  simp only [OB] at h3
  omega
 obtain ⟨L,hL⟩:∃L,L=[]::cs.map Ra:=⟨_,rfl⟩
 rw [<-hL] at hR⊢
 have au:L.length=cs.length+1:=by rw [hL];simp
 have lv:=I.lives
 have ad:∀j,j∈J::D::S::blk sj.pp->j<G1.length:=fun j hj=>by
  simp only [Nh] at hj
  rcases hj with hj | hj | hj | hj
  ·omega
  ·omega
  ·omega
  ·obtain ⟨a,e1,e2⟩:=Sy.1 hj
   have:=lv.2.2.2 a e1;omega
 have av:∀k a,k<L.length->(gt ds k).1=some a->h3<=a.block/\a.block<G3.length:=fun k a hk N=>((hR.row k hk).2.block N)
 refine NH ?_
 simp only [n26,r26,SB,seval,NC,NI,NG,NQ,reduceCtorEq,ND,place,NA,NE]
 refine QB (fun x:Nat×SU=>L.length-x.1) (fun x fr G=>x.1<=L.length/\fr 4=Vp J/\fr 6=Vp (G1.length+2)/\fr 21=.slice q L.length cq/\fr 22=Vi L.length/\fr 23=Vi x.1/\
   KB G1.length (G1.length+2) (.pointer none) x.2 G/\Rm (cs.take (x.1-1)) BU0=some x.2.st/\RowsAt h3 G q cq ds L/\KJ lim n J D S H0 iv sj G/\Chg [S,D] H G/\G3.length<=G.length/\
   ∀j,(j<G1.length\/h3<=j/\j<G3.length)->(∀r,x.2.ptr (G1.length+2) r≠some j)/\∀c∈x.2.calls,∀a,c.p=some a->a.block≠j) (0,SU0 G1.length)
  ⟨N3 _,rfl,rfl,rfl,rfl,rfl,by rw [Na];exact K3,rfl,by rw [Na];exact hR,by rw [Na];exact I3,by rw [Na];exact ah,by simp,fun j hj=>⟨fun r hr=>?_,fun c hc=>by cases hc⟩⟩ ?_
 ·have:=K2.lt hr
  omega
 rintro ⟨k,s⟩ fr G ⟨hk,Y,Z,g,l,o,K,F,y,Ik,ac,a8,f⟩ hN
 simp only at hk o K F f
 rw [QE Nut.eq_1]
 refine NH ?_
 by_cases a0:k<L.length
 ·have O:(k:Int)<(L.length:Int):=by omega
  have aw:=y.len
  have ak:=y.own.sl Ta
  have az:=fun X=>(ak.app X).loadCell0 Ta (i:=k) (by omega) (by decide)
  have W:=fun c (kk:IntKind) (H1:NB)=>ak.idx (c:=c) (k:=kk) (H1:=H1) (i:=k) (by omega)
  rw [aw] at W
  obtain ⟨r1,r2⟩:=y.row k a0
  have al:IntKind.i64.wrap ((k:Int)+1)=((k+1:Nat):Int):=QT (by omega)
  simp only [n26,r26,Y,Z,g,l,o,O,az,W,Neq,SB,seval,NC,NI,NG,NQ,reduceCtorEq,ND,place,NA,NE]
  rw [r1,Na]
  have aq:(gt L k).length<2 ^ 60:=by
   have:=r2.capOk
   have h1:k=0\/∃m,k=m+1/\m<cs.length:=by
    cases k with
    | zero=>exact .inl rfl
    | succ m=>exact .inr ⟨m,rfl,by omega⟩
   rcases h1 with rfl | ⟨m,rfl,hm⟩
   ·rw [hL];show 0<_;decide
   ·obtain ⟨v,hv⟩:=ZG m C
    have hf:=(VJ (Zk C hm hv).1).pack.2
    have e:gt L (m+1)=Ra (gt cs m):=by rw [hL,Rx,Ni9 hm]
    rw [e];omega
  refine Nn6 (r2.sl Rp) r2.capOk rfl (by omega) aq fun p c G5 d w=>?_
  have bg:=d.len
  cases k with
  | zero=>
    have e0:gt L 0=[]:=by rw [hL];rfl
    have eu:Mm []=([],0):=rfl
    rw [e0,eu]
    refine NH ?_
    simp only [n26,r26,Y,Z,g,l,o,al,e0,Nm,N5,SB,seval,NC,NI,NG,NQ,reduceCtorEq,ND,place,NA,NE]
    refine hN (1,s) _ _ ⟨by omega,Y,Z,g,l,rfl,by rw [Na];exact K.new d,F,by rw [Na];exact y.chg d (fun _ _ h=>by cases h) (fun _ _ _ _ h=>by cases h),by rw [Na];exact Ik.to d fun _ hj=>(by cases hj),by rw [Na];exact ac.trans' d fun _ hj=>(by cases hj),by rw [Na];omega,f⟩ (by show L.length-1<L.length-0;omega)
  | succ m=>
    have hm:m<cs.length:=by omega
    have e0:gt L (m+1)=Ra (gt cs m):=by rw [hL,Rx,Ni9 hm]
    obtain ⟨he,a3⟩:=Zk C hm F
    have ae:=VJ he
    rw [e0,ae.unp] at w⊢
    simp only at w⊢
    have ax:¬(((m+1:Nat):Int)=0):=by omega
    refine NH ?_
    simp only [n26,r26,Y,Z,g,l,o,ax,SB,seval,NC,NI,NG,NQ,reduceCtorEq,ND,place,NA,NE]
    rw [Na]
    have a7:=VF (n:=0) F Nwm
    refine Nru (K.new d) a7 (by rw [N0];omega) (by omega) (by omega) (w.sl Ry) w.capOk (fun a N=>(w.block N).2) (fun a N r hr=>by have:=(w.block N).1;have:=(K.lt hr).2;omega) (fun t ht=>by have:=ae.size t ht;omega) (by have:=ae.len;omega) fun s' G6 hA=>?_
    rw [Nk he] at hA
    rw [he]
    obtain ⟨A,am,T⟩:=hA.chg
    have bh:=T.len
    have P:∀j∈A,G1.length<=j/\¬(h3<=j/\j<G3.length):=fun j hj=>by
     obtain ⟨r,hr⟩:=am j hj
     exact ⟨(K.lt hr).1,fun q=>(f j (.inr q)).1 r hr⟩
    refine NH ?_
    simp only [n26,r26,Y,Z,g,l,o,al,SB,seval,NC,NI,NG,NQ,reduceCtorEq,ND,place,NA,NE]
    rw [Na]
    have ba:=y.own
    refine hN (m+1+1,s') _ _ ⟨by show m+1+1<=_;omega,Y,Z,g,l,rfl,hA.kb,by rw [hA.st];exact a3,(y.chg d (fun _ _ h=>by cases h) (fun _ _ _ _ h=>by cases h)).chg T (fun b eb hb=>?_) (fun i hi a N hb=>(P _ hb).2 (av i a hi N)),(Ik.to d fun _ hj=>(by cases hj)).to T fun j hj=>?_,(ac.trans' d fun _ hj=>(by cases hj)).trans' T fun j hj h2=>absurd (P j hj).1 (by omega),by omega,hA.sep fun j hj=>⟨?_,f j hj⟩⟩ (by show L.length-(m+1+1)<L.length-(m+1);omega)
    ·have q:=hR.own.block eb
     exact (P _ hb).2 q
    ·have q:=(P j hj).1
     have z:∀x,x∈J::D::S::blk sj.pp->j≠x:=fun x hx e=>by have:=ad x hx;omega
     exact ⟨by omega,z J (by simp),z D (by simp),z S (by simp),fun a N e=>z a.block (by simp [Sy.2 ⟨a,N,rfl⟩]) e.symm⟩
    ·rcases hj with q | q<;>omega
 ·obtain rfl:k=L.length:=by omega
  have O:¬((L.length:Int)<(L.length:Int)):=by omega
  have an:=fun X=>(QL.refl.app (X:=X)).cells K.b
  have lB:=K.lB
  have ao:=(K.lt (r:=.b) rfl).2
  obtain ⟨G',s1,g1,m1⟩:=RL ao (Vc [Vp J,.slice s.cp s.calls.length s.cc,.map (some s.M),.map (some s.X),.slice s.sp s.sc.length s.sk])
  have ay:lim<=G1.length+2:=by omega
  simp only [n26,r26,Y,Z,g,l,o,O,an,ay,s1,SB,seval,NC,NI,NG,NQ,reduceCtorEq,ND,place,NA,NE]
  rw [Na]
  have a6:cs.take (L.length-1)=cs:=by rw [au];exact Pa
  rw [a6,C] at F
  have hu:s.st=u:=(Option.some.inj F).symm
  have V:s.st.calls=cs:=by rw [hu,UU C];rfl
  have ab:Chg [G1.length+2] G G':=Chg.refl.mut m1 (.inl (by simp))
  refine hQ s sj J (G1.length+2) G' ⟨(K.swap ab g1).le (by omega),Ik.to ab fun j hj=>?_,fun j hj=>f j (.inl (ad j hj)),by rw [U,Na,ag,V],by rw [V,hu];exact C⟩ hu U (ac.trans' ab fun j hj h2=>by rw [Ng.1 hj] at h2;omega)
  rw [Ng.1 hj]
  have z:∀x,x∈J::D::S::blk sj.pp->G1.length+2≠x:=fun x hx e=>by have:=ad x hx;omega
  exact ⟨by omega,z J (by simp),z D (by simp),z S (by simp),fun a N e=>z a.block (by simp [Sy.2 ⟨a,N,rfl⟩]) e.symm⟩
end
theorem Nka [OA] {lim n:Nat} {m:Int} {H:NB} {Q:Value->NB->Prop} (hl:lim<=H.length) (hn:n<2 ^ 40) (q:∀p cap H',Chg [] H H'->Own H.length H' Ner 1 p cap (Wy m n)->Q (.slice p n cap) H'):NN E false lim 25 [.int .u64 m,Vi n] H Q:=by
 refine runs (by decide) e25 rfl ?_
 rw [b25,c25]
 simp only [n25,r25,SB,seval,NC,NI,NG,NQ,reduceCtorEq,ND,place,NA,NE]
 refine QB (fun s:Nat×Option Addr×Nat=>n-s.1) (fun s fr G=>s.1<=n/\fr 0=.int .u64 m/\fr 1=Vi n/\fr 5=.slice s.2.1 s.1 s.2.2/\fr 6=Vi s.1/\Chg [] H G/\Own H.length G Ner 1 s.2.1 s.2.2 (Wy m s.1)) (0,none,0) ⟨N3 _,rfl,rfl,rfl,by rfl,Chg.refl.app,Own.nil⟩ ?_
 rintro ⟨i,p,cap⟩ fr G ⟨hi,h0,h1,e,f,g,d⟩ l
 simp only at hi e f d
 rw [QE Nuu.eq_1]
 refine NH ?_
 by_cases a:i<n
 ·have k:IntKind.i64.wrap ((i:Int)+1)=((i+1:Nat):Int):=QT (by omega)
  have b:Int.tmod (i:Int) 64=((i % 64:Nat):Int):=rfl
  have c:(((i % 64:Nat):Int)<0)=False:=by simp;omega
  have o:=d
  obtain ⟨r,hp,j,h,_⟩:=d.step (lim':=lim) (bytes:=1) hl YR (by decide) (U4 m i) (by rw [Uv];unfold PR;omega) (by rw [Uv];omega) g.len [Vc [.bool (U4 m i)]] G.length 1 (by rw [NU];rfl)
  rw [Uv] at hp
  simp only [n25,r25,h0,h1,e,f,a,b,k,c,O1,Nix,hp,SB,seval,NC,NI,NG,NQ,reduceCtorEq,ND,place,NA,NE]
  exact l (i+1,Sa (G.length+1),loose 1) _ _ ⟨by show i+1<=_;omega,h0,h1,rfl,rfl,h _ _ (Nd _) g,by rw [Niw];exact j⟩ (by show _-(i+1)<_;omega)
 ·obtain rfl:i=n:=by omega
  simp only [n25,r25,h0,h1,e,f,a,SB,seval,NC,NI,NG,NQ,reduceCtorEq,ND,place,NA,NE]
  exact q _ _ _ g.app (d.app _)
section
variable {lim l0 n J D S iv B:Nat} {H0:NB} {jv:Value} {s:SU} {sj:SJ} {G:NB} {Q:Value->NB->Prop}
structure CD (lim n D S:Nat) (H0:NB) (iv area e lf:Nat) (safe:List QY) (rl:LR) (G:NB):Prop where
 d:NF G D=Vc [.slice (Sa S) safe.length n,Vz]
 s:NF G S=Vc (safe.flatMap Si)
 lD:lim<=D
 lS:lim<=S
 SD:S≠D
 ko:KO area e lf safe rl
 len:safe.length=n
 fits:OB rl<=n / 2
 lf:lf<=iv+1
 e:e<=iv+1
 chg:Chg [] H0 G
 dn:H0.length<=D
 sn:H0.length<=S
def OpJ [OA] (lim n D S:Nat) (H0:NB) (iv:Nat) (cs:List (List ByteArray)) (G:NB):Prop:=
 ∀a:Value->NB->Prop,(∀J sj G1,KJ lim n J D S H0 iv sj G1->sj.bs=[]->sj.rl.map (·.2)=[]::cs.map Ra->sj.pend.length<2 ^ 30->Chg [S,D] G G1->a (.tuple #[Vp J,Vi 0]) G1)->NN E false lim 33 [Vp D] G a
theorem CD.opj [OA] {area e lf:Nat} {safe:List QY} {rl:LR} {cs:List (List ByteArray)} (c:CD lim n D S H0 iv area e lf safe rl G) (w:4<=n) (hn:n<2 ^ 15) (hi:iv<2000) (k:rl.map (·.2)=[]::cs.map Ra):OpJ lim n D S H0 (iv+1) cs G:=fun y t=>by
 obtain ⟨m,z,x⟩:=c.ko.opened
 have v:=c.lf
 have he:=c.e
 have g:=c.len
 have i:=x (by omega)
 refine Nkp c.d c.s c.lD c.lS c.SD (by omega) (by omega) (by omega) (fun h=>by rw [m] at h;cases h) (fun o p l f r b=>?_) (fun o p l _ _ _=>by rw [m] at l;cases l)
 rw [m] at b
 simp only at b
 have u:=c.chg.len
 refine t p ⟨area,e,(VX safe).2+1,OB rl,none,0,safe,[],rl,[]⟩ o ⟨b,i,by simp,g,by simp [OB],c.fits,rfl,by show (VX safe).2+1<=_;omega,by show e<=_;omega,c.chg.trans' f (fun j h1 h2=>?_),(by intro a q;cases q),by omega,c.dn,c.sn⟩ rfl k (by simp) (f.mono fun j _ h=>by simp only [Ng] at h;simp [h])
 rw [Ng.1 h1] at h2
 have:=c.dn
 omega
theorem Me {lost:List Bool}:∀(a:List Wr) (i:Nat) (s:List QY),(∀j,j<a.length->lost.getD (i+j) false=true)->RN lost i a s=s
 | [],_,_,_=>rfl
 | w::a,i,s,h=>by
   have h0:=h 0 (by simp)
   rw [Oq] at h0
   rw [RN,h0]
   simp only [Of,Bool.and_false,Np,if_false]
   exact Me a (i+1) s fun j b=>by
    have:=h (j+1) (by simp;omega)
    rw [<-this];congr 1;omega
theorem Ndb [OA] {pl:Option Addr} {lc:Nat} {lost:List Bool} (I:KJ lim n J D S H0 iv sj G) (hn:n<2 ^ 15) (q:Sl G Ner 1 pl lost) (l:∀a,pl=some a->lost≠[]->a.block≠S/\a.block≠D) (u:lost.length=sj.pend.length)
  (p:∀G' f k,Chg [S,D] G G'->k<=sj.bs.length->CD lim n D S H0 iv sj.area sj.e sj.lf f (sj.rl++sj.bs.take k) G'->((∀j,j<lost.length->lost.getD j false=true)->k=0)->Q (.tuple #[]) G') :
  NN E false lim 24 [Vp D,.slice pl lost.length lc] G Q:=by
 have t:=I.fits
 have o:=I.nn
 have v:=I.plen
 have b:=I.len
 refine Nhh I.li.jl.d I.li.jl.lD (fun _=>⟨rfl,I.li.s,I.li.lS⟩) I.li.SD (I.li.jl.own.sl Rz) (fun a e _=>⟨I.li.ps a e,(I.li.jl.ap a e).2⟩) q l (by omega) (by omega) (by omega) rfl fun H' g i m=>?_
 have hl:(QP lost sj.pend sj.safe).length=sj.safe.length:=QX
 have r:=I.dn
 have w:=I.sn
 have mk:∀k,k<=sj.bs.length->KO sj.area sj.e sj.lf (QP lost sj.pend sj.safe) (sj.rl++sj.bs.take k)->CD lim n D S H0 iv sj.area sj.e sj.lf (QP lost sj.pend sj.safe) (sj.rl++sj.bs.take k) H':=fun k y ko=>
  ⟨by rw [hl];exact i,m I.li.ne,I.li.jl.lD,I.li.lS,I.li.SD,ko,by rw [hl];exact b,by
   have h2:OB sj.bs=OB (sj.bs.take k)+OB (sj.bs.drop k):=by rw [<-RV,Pj]
   rw [RV];omega,I.lf,I.e,I.chg.trans' g (fun j h1 h2=>by simp only [Nh,No,or_false] at h1;omega),I.dn,I.sn⟩
 by_cases c:∀j,j<lost.length->lost.getD j false=true
 ·refine p H' _ 0 g (by omega) (mk 0 (by omega) ?_) fun _=>rfl
  have e:QP lost sj.pend sj.safe=sj.safe:=Me _ _ _ fun j x=>by rw [Nr];exact c j (by omega)
  rw [e,Qa,Na]
  exact I.kd.ko
 ·obtain ⟨k,k1,k2,_⟩:=I.kd.crash (lost:=lost) I.hb (by rw [<-o,b];exact t)
  rw [b,<-I.pend] at k2
  exact p H' _ k g k1 (mk k k1 k2) fun h=>absurd h c
theorem Nxc [OA] {H:NB} (hl:lim<=H.length) (c:4<=n) (hn:n<2 ^ 15):OpJ lim n (H.length+1) H.length H 0 [] (H++[Vc ((List.replicate n V7).flatMap Si),Vc [.slice (Sa H.length) n n,Vz]]):=fun i g=>by
 have b:(List.replicate n V7).length=n:=Pk
 refine Nkp (D:=H.length+1) (S:=H.length) (sc:=n) (safe:=List.replicate n V7) (by rw [NP,b];rfl) (by rw [NU];rfl) (by omega) (by omega) (by omega) (by omega) (by omega) (by rw [Npo];decide) (fun _=>by rw [Npo];decide) (fun H' J h _ _ _=>by rw [Nw8] at h;cases h) fun H' J _ d f e=>?_
 rw [Npo] at e
 have a:Chg [] H H':=(Chg.refl.app (X:=[_,_]):Chg [] H _).trans' d fun j h1 h2=>by
  simp only [Nh,No,or_false] at h1;omega
 exact g J _ H' (KJ.begun c hn a (by simp at f;omega) (by omega) (Nd _) e) rfl rfl (by simp) d
theorem YZ [OA] {cs:List (List ByteArray)} {u:BU} {H:NB} (hl:lim<=H0.length) (a:H0.length<=H.length) (hn:n<2 ^ 19) (b:Rm cs BU0=some u) (c:OpJ lim n D S H0 iv cs H)
  (d:∀s sj J B G',JB lim H0.length n J D S H0 iv B s sj G'->s.st=u->sj.bs=[]->Chg [S,D] H G'->Q (.tuple #[Vp B,Vi 0]) G') :
  NN E false lim 26 [Vp D] H Q:=Nsb hl a hn b c d
theorem Nb0 [OA] (h:JB lim l0 n J D S H0 iv B s sj G) (hn:n<2 ^ 15)
  (i:∀a G',JB lim l0 n J D S H0 iv B s a G'->a.rl=sj.rl++sj.bs->a.bs=[]->Chg [S,D] G G'->Q (Vi 0) G') :
  NN E false lim 22 [Vp B] G Q:=by
 refine runs (by decide) e22 rfl ?_
 rw [b22,c22]
 have d:=fun X=>(QL.refl.app (X:=X)).cells h.kb.b
 have c:=fun X (mp:Bool) (lim:Nat) (Q:Value->NB->Prop)=>VI (mp:=mp) (lim:=lim) (Q:=Q) (d X)
 simp only [n22,r22,c,d,VB,SB,seval,NC,NI,NG,NQ,reduceCtorEq,ND,place,NA,NE]
 rw [Na]
 have e:∀j∈[S,D],j∈J::D::S::blk sj.pp:=fun j hj=>by
  simp only [Nh,No,or_false] at hj⊢
  rcases hj with hj | hj<;>simp [hj]
 refine h.kj.commit (by omega) fun a G' g e1 e2 e3 k e5 l f=>?_
 refine NH ?_
 simp only [n22,r22,SB,seval,NC,NI,NG,NQ,reduceCtorEq,ND,place,NA,NE]
 rw [Na]
 refine i a G' ⟨h.kb.to f fun j hj=>h.sep j (e j hj),g,fun j hj=>h.sep j ?_,by rw [e1,e2,Na];exact h.rcs,h.val⟩ e1 e2 f
 rw [e3] at hj
 simp only [blk,Nh,No,or_false] at hj⊢
 rcases hj with hj | hj | hj<;>simp [hj]
end
section
variable {lim l0 n J D S iv B:Nat} {H0:NB} {jv:Value} {s:SU} {sj:SJ} {G:NB} {Q:Value->NB->Prop}
def N0d (lim l0 n J D S:Nat) (H0:NB) (iv B:Nat) (s:SU) (sj:SJ) (G:NB) (l:List ByteArray) (e:Int) (G':NB):Prop:=
 (Sq s.st l≠0/\e=Sq s.st l/\JB lim l0 n J D S H0 iv B s sj G'/\Chg [] G G')\/
 (Sq s.st l=0/\e=4/\n / 2<sj.nn+OQ (Ra l).length/\JB lim l0 n J D S H0 iv B s sj G'/\Chg [] G G')\/
 (Sq s.st l=0/\e=0/\∃s' a,JB lim l0 n J D S H0 (iv+1) B s' a G'/\s'.st=doneD s.st l/\a.rl=sj.rl/\a.bs=sj.bs++[(sj.lf,Ra l)]/\a.nn=sj.nn+OQ (Ra l).length/\
  ∃A,(∀j∈A,(∃r,s.ptr B r=some j)\/j∈J::D::blk sj.pp)/\Chg A G G')
theorem DoR.ofJ [OA] {l:List ByteArray} (h:JB lim l0 n J D S H0 iv B s sj G) (hn:n<2 ^ 19) (hi:iv<1000) (hl:lim<=l0) (z:l0<=G.length) (o:H0.length<=l0) :
  DoR lim B G l (N0d lim l0 n J D S H0 iv B s sj G l):=fun p c G1 Q d f C u t=>by
 have y:=d.len
 refine Nvz (h.new d) hn hi hl (by omega) (f.sl Ry) f.capOk (fun a k=>(f.block k).2) (fun a k=>⟨fun r hr=>by have:=(f.block k).1;have:=(h.kb.lt hr).2;omega,fun q=>by have:=(f.block k).1;have:=h.lives _ q;omega⟩) C u o
  (fun G' he b=>t _ G' (.inl ⟨he,rfl,(h.new d).new b,d.trans' b fun _ e=>by cases e⟩)) (fun G' he hr b=>t _ G' (.inr (.inl ⟨he,rfl,hr,(h.new d).new b,d.trans' b fun _ e=>by cases e⟩)))
  fun s' w G' he h' v i g ⟨A,x,m⟩ _ _ _=>t _ G' (.inr (.inr ⟨he,rfl,s',w,h',v,i,g, ?_,A,x,(d.mono fun _ _ e=>by cases e).trans' m fun j e _=>e⟩))
 have h1:=h'.kj.nn
 have h2:=h.kj.nn
 rw [i,g,RV] at h1
 simp only [OB] at h1
 omega
theorem Naj {l:List ByteArray} (h:Fine l):OQ (Ra l).length<=17:=by
 have:=h.pack.2
 unfold OQ;omega
theorem JB.does [OA] {l:List ByteArray} {u:BU} (h:JB lim l0 n J D S H0 iv B s sj G) (hn:n<2 ^ 19) (hi:iv<1000) (hl:lim<=l0) (d:l0<=G.length) (b:H0.length<=l0) (o:s.st=u) (he:Sq u l=0) (hr:sj.nn+17<=n / 2) :
  DoR lim B G l fun e G'=>e=0/\∃s' a,JB lim l0 n J D S H0 (iv+1) B s' a G'/\s'.st=doneD u l/\a.nn<=sj.nn+17/\G.length<=G'.length/\a.rl=sj.rl:=fun p c G1 Q g i q f j=>by
 subst o
 have w:=Naj (VJ he)
 refine DoR.ofJ h hn hi hl d b p c G1 Q g i q f fun e G' m=>?_
 rcases m with ⟨k,_⟩ | ⟨_,_,k,_⟩ | ⟨_,k2,s',a,k3,r,t,_,x,A,_,v⟩
 ·exact absurd he k
 ·omega
 ·exact j e G' ⟨k2,s',a,k3,r,by omega,v.len,t⟩
theorem JB.fails [OA] {l:List ByteArray} {u:BU} {e0:Int} (h:JB lim l0 n J D S H0 iv B s sj G) (hn:n<2 ^ 19) (hi:iv<1000) (hl:lim<=l0) (b:l0<=G.length) (a:H0.length<=l0) (m:s.st=u) (he:Sq u l=e0) (h0:e0≠0) :
  DoR lim B G l fun e G'=>e=e0/\JB lim l0 n J D S H0 iv B s sj G'/\Chg [] G G':=fun p c G1 Q f g o d i=>by
 subst m
 refine DoR.ofJ h hn hi hl b a p c G1 Q f g o d fun e G' j=>?_
 rcases j with ⟨_,k1,k2,k3⟩ | ⟨k,_⟩ | ⟨k,_⟩
 ·exact i e G' ⟨by rw [k1,he],k2,k3⟩
 ·exact absurd (he.symm.trans k) h0
 ·exact absurd (he.symm.trans k) h0
theorem Nc2:∀(l:LR),OB l=((l.map (·.2)).map fun b=>OQ b.length).sum
 | []=>rfl
 | x::l=>by simp only [OB,Oh,List.sum_cons,Nc2 l]
theorem Vw:∀{cs:List (List ByteArray)} {u v:BU},Rm cs u=some v->∀c∈cs,Fine c
 | [],u,v,h,c,hc=>by cases hc
 | c::cs,u,v,h,x,hx=>by
   rw [Rm] at h
   split at h
   ·rename_i he
    rcases Nh.1 hx with rfl | hx
    ·exact VJ he
    ·exact Vw h x hx
   ·cases h
theorem No0:∀{l:List (List ByteArray)},(∀c∈l,Fine c)->((l.map Ra).map fun b=>OQ b.length).sum<=17*l.length
 | [],_=>by simp
 | c::l,h=>by
   have h1:=Naj (h c (by simp))
   have h2:=No0 (l:=l) fun x a=>h x (by simp [a])
   simp only [Oh,List.sum_cons,Nn]
   omega
theorem JB.fine (h:JB lim l0 n J D S H0 iv B s sj G):∀c∈s.calls,c.c≠[]/\c.c.length<2 ^ 40:=fun c hc=>by
 have a:=Vw h.val c.c (List.mem_map.2 ⟨c,hc,rfl⟩)
 exact ⟨a.ne,by have:=a.len;omega⟩
theorem JB.room {u:BU} (h:JB lim l0 n J D S H0 iv B s sj G) (b:s.st=u):sj.nn<=1+17*u.calls.length:=by
 subst b
 have h1:=h.kj.nn
 rw [<-RV,Nc2,h.rcs] at h1
 have h2:=No0 (Vw h.val)
 have a:OQ ([]:List UInt8).length=1:=by decide
 simp only [Oh,List.sum_cons,a] at h1
 omega
end
def Nsd:ByteArray:=⟨#[65,110,110]⟩
def cx1:List ByteArray:=[Tf,OC 5,Nsd]
def cx2:List ByteArray:=[Ud,OC 5,OC 1000]
def cx3:List ByteArray:=[SN,OC 77,OC 5,OC 12,OC 300]
def cx4:List ByteArray:=[SN,OC 78,OC 5,OC 12,OC 701]
def cx5:List ByteArray:=[Rq,OC 77,OC 50]
def cx6:List ByteArray:=[Ud,⟨#[48,53]⟩,⟨#[49]⟩]
def cx7:List ByteArray:=[Ud,⟨#[53]⟩,⟨#[48]⟩]
def cx8:List ByteArray:=[Ud,⟨#[54]⟩,⟨#[49]⟩]
def cx9:List ByteArray:=[Ud,OC 5,OC 1]
def ux1:BU:=doneD BU0 cx1
def ux2:BU:=doneD ux1 cx2
def ux3:BU:=doneD ux2 cx3
def ux4:BU:=doneD ux3 cx5
theorem ex1:Sq BU0 cx1=0:=by decide +kernel
theorem ex2:Sq ux1 cx2=0:=by decide +kernel
theorem ex3:Sq ux2 cx3=0:=by decide +kernel
theorem ex4:Sq ux3 cx4=431:=by decide +kernel
theorem ex5:Sq ux3 cx5=0:=by decide +kernel
theorem Nyn:Sq ux4 cx5=430:=by decide +kernel
theorem ex6:Sq ux4 cx6=432:=by decide +kernel
theorem ex7:Sq ux4 cx7=2:=by decide +kernel
theorem ex8:Sq ux4 cx8=6:=by decide +kernel
theorem ex9:Sq ux4 cx9=0:=by decide +kernel
theorem exL:((PD 5 ux3.ms).getD noM).ents=[⟨1,0,1000,1000⟩,⟨2,77,300,700⟩]/\(PD 5 ux3.ms).isSome=true:=by decide +kernel
theorem exC:ux4.calls=[[Tf,⟨#[53]⟩,Nsd],[Ud,⟨#[53]⟩,⟨#[49,48,48,48]⟩],[SN,⟨#[55,55]⟩,⟨#[53]⟩,⟨#[49,50]⟩,⟨#[51,48,48]⟩],[Rq,⟨#[55,55]⟩,⟨#[53,48]⟩]]:=by decide +kernel
theorem exB:Rk ((PD 5 ux4.ms).getD noM).ents=750/\(PD 5 ux4.ms).isSome=true:=by decide +kernel
theorem Rn {n:Int} (h0:0<=n) (h1:n<=1000000):XO n:=⟨by omega,by omega⟩
theorem Nl7:∀m:Fin 64,U4 18446744073709551615 m.val=true:=by decide +kernel
theorem Nqj {k:Nat}:∀j,j<(Wy 18446744073709551615 k).length->(Wy 18446744073709551615 k).getD j false=true:=fun j b=>by
 have a:j<k:=by rwa [Uv] at b
 have e:U4 18446744073709551615 j=U4 18446744073709551615 (j % 64):=by
  unfold U4
  rw [Nat.mod_mod]
 unfold Wy
 rw [Nb,O0,List.getElem?_range a]
 show U4 18446744073709551615 j=true
 rw [e]
 exact Nl7 ⟨j % 64,P3 _ (by decide)⟩
theorem Nr3 [OA] {mp:Bool} {lim:Nat} {H:NB} {Q:Value->NB->Prop} (W:OA.on=false):NN E mp lim 17 [] H Q=Q (.bool true) H:=by
 refine Nb1 (E:=E) (by simp [E,orc,effP,W]) (show E.tr 17=some a17 from e17) rfl rfl (NH ?_)
 rw [b17,c17]
 simp only [n17,r17,SB,seval,NC,NI,NG,NQ,reduceCtorEq,ND,place,NA,NE]
 rw [Na]
 obtain ⟨n,hn⟩:∃n:Nat,n=200:=⟨_,rfl⟩
 rw [show Value.int .i64 200=Vi n by rw [hn];rfl]
 refine Nby (by omega) (by omega) ?_
 refine NH ?_
 simp only [n17,r17,VB,SB,seval,NC,NI,NG,NQ,reduceCtorEq,ND,place,NA,NE]
 refine YZ (H0:=H) (n:=n) (S:=H.length) (Nd _) (by simp) (by omega) (cs:=[]) (u:=BU0) rfl (Nxc (Nd _) (by omega) (by omega)) fun s0 j0 J B G0 h0 Y bo bn=>?_
 have g0:H.length<=G0.length:=h0.kj.chg.len
 have c0:BU0.calls.length=0:=rfl
 have c1:ux1.calls.length=1:=by decide +kernel
 have c2:ux2.calls.length=2:=by decide +kernel
 have c3:ux3.calls.length=3:=by decide +kernel
 have c4:ux4.calls.length=4:=by decide +kernel
 refine NH ?_
 simp only [n17,r17,SB,seval,NC,NI,NG,NQ,reduceCtorEq,ND,place,NA,NE]
 rw [Na]
 have r0:=h0.room Y
 refine Nkr (by omega) (Rn (by decide) (by decide)) (by decide) (h0.does (l:=cx1) (by omega) (by omega) (Nd _) (by omega) (Nd _) Y ex1 (by omega)) fun e1 G1 ⟨ao,s1,j1,h1,Z,_,bq,_⟩=>?_
 subst ao
 refine NH ?_
 simp only [n17,r17,SB,seval,NC,NI,NG,NQ,reduceCtorEq,ND,place,NA,NE]
 rw [Na]
 have r1:=h1.room (u:=ux1) Z
 refine Nez (by omega) (Rn (by decide) (by decide)) (Rn (by decide) (by decide)) (h1.does (l:=cx2) (by omega) (by omega) (Nd _) (by omega) (Nd _) Z ex2 (by omega)) fun e2 G2 ⟨aq,s2,j2,h2,ab,_,br,_⟩=>?_
 subst aq
 refine NH ?_
 simp only [n17,r17,SB,seval,NC,NI,NG,NQ,reduceCtorEq,ND,place,NA,NE]
 rw [Na]
 have r2:=h2.room (u:=ux2) ab
 refine M8 (by omega) (Rn (by decide) (by decide)) (Rn (by decide) (by decide)) (Rn (by decide) (by decide)) (Rn (by decide) (by decide)) (h2.does (l:=cx3) (by omega) (by omega) (Nd _) (by omega) (Nd _) ab ex3 (by omega)) fun e3 G3 ⟨au,s3,j3,h3,h,_,bt,_⟩=>?_
 subst au
 refine NH ?_
 simp only [n17,r17,SB,seval,NC,NI,NG,NQ,reduceCtorEq,ND,place,NA,NE]
 rw [Na]
 refine M8 (by omega) (Rn (by decide) (by decide)) (Rn (by decide) (by decide)) (Rn (by decide) (by decide)) (Rn (by decide) (by decide)) (h3.fails (l:=cx4) (by omega) (by omega) (Nd _) (by omega) (Nd _) h ex4 (by decide)) fun e4 G4 ⟨av,h4,ag⟩=>?_
 subst av
 have bu:=ag.len
 refine NH ?_
 simp only [n17,r17,SB,seval,NC,NI,NG,NQ,reduceCtorEq,ND,place,NA,NE]
 rw [Na]
 refine Z8 h4.kb (by omega) (fun m V=>by have:=(h4.wf.ents 5 m.m (by rw [RG,V];rfl)).1;have:=h4.many;omega) fun A c5 G5 K g _=>?_
 rw [show s3.st=ux3 from h,exL.1] at g⊢
 rw [exL.2]
 have bv:=K.len
 have i0:∀X,X5 4 (.slice A 2 c5) (Vi 0) X=some (.pointer (some (Xv A 4 0)),X):=fun X=>g.idx (i:=0) (by decide)
 have i1:∀X,X5 4 (.slice A 2 c5) (Vi 1) X=some (.pointer (some (Xv A 4 1)),X):=fun X=>g.idx (i:=1) (by decide)
 have l0:∀X,AM.loadCells (G5++X) (Xv A 4 0) 4=some [.int .u8 1,Vi 0,Vi 1000,Vi 1000]:=fun X=>(g.app X).loadCells SK (i:=0) (by decide)
 have l1:∀X,AM.loadCells (G5++X) (Xv A 4 1) 4=some [.int .u8 2,Vi 77,Vi 300,Vi 700]:=fun X=>(g.app X).loadCells SK (i:=1) (by decide)
 have q0:VB (.agg [.int .u8,.int .i64,.int .i64,.int .i64]) (.agg #[.int .u8 1,Vi 0,Vi 1000,Vi 1000]) (.agg #[.int .u8 1,Vi 0,Vi 1000,Vi 1000])=some true:=by rfl
 have q1:VB (.agg [.int .u8,.int .i64,.int .i64,.int .i64]) (.agg #[.int .u8 2,Vi 77,Vi 300,Vi 700]) (.agg #[.int .u8 2,Vi 77,Vi 300,Vi 700])=some true:=by rfl
 refine NH ?_
 simp only [n17,r17,i0,i1,l0,l1,q0,q1,Of,SB,seval,NC,NI,NG,NQ,reduceCtorEq,ND,place,NA,NE]
 rw [Na]
 have h5:=h4.new K
 refine Z7 (by omega) (Rn (by decide) (by decide)) (Rn (by decide) (by decide)) (h5.does (l:=cx5) (by omega) (by omega) (Nd _) (by omega) (Nd _) h ex5 (by have:=h5.room (u:=ux3) h;omega)) fun e6 G6 ⟨aw,s6,j6,h6,c,_,bw,_⟩=>?_
 subst aw
 refine NH ?_
 simp only [n17,r17,SB,seval,NC,NI,NG,NQ,reduceCtorEq,ND,place,NA,NE]
 rw [Na]
 refine Z7 (by omega) (Rn (by decide) (by decide)) (Rn (by decide) (by decide)) (h6.fails (l:=cx5) (by omega) (by omega) (Nd _) (by omega) (Nd _) c Nyn (by decide)) fun e7 G7 ⟨ax,h7,ah⟩=>?_
 subst ax
 have bx:=ah.len
 refine NH ?_
 simp only [n17,r17,SB,seval,NC,NI,NG,NQ,reduceCtorEq,ND,place,NA,NE]
 rw [Na]
 refine UG h7.kb (by omega) (by have:=h7.many;omega) h7.fine fun f R8 d8 L M=>?_
 have bz:=L.len
 have h8:=h7.new L
 have an:s6.calls.length=4:=by
  have:=Qd (fun u:BU=>u.calls.length) c
  simp only [SU.st,Nz] at this
  rw [this];exact c4
 rw [show s6.st=ux4 from c,exC] at M
 rw [an]
 have lX:=fun X=>Ngm (mp:=false) (lim:=H.length) (k1:=4) (k2:=4) (Q:=X) (M.rows.app [Vc [.string Tf,.string ⟨#[53]⟩,.string Nsd],Vc [.string Ud,.string ⟨#[53]⟩,.string ⟨#[49,48,48,48]⟩],Vc [.string SN,.string ⟨#[55,55]⟩,.string ⟨#[53]⟩,.string ⟨#[49,50]⟩,.string ⟨#[51,48,48]⟩],Vc [.string Rq,.string ⟨#[55,55]⟩,.string ⟨#[53,48]⟩],Vc [.slice (Sa f.length) 3 3,.slice (Sa (f.length+1)) 3 3,.slice (Sa (f.length+2)) 5 5,.slice (Sa (f.length+3)) 3 3]])
  (q:=Sa (f.length+4)) (db:=[(Sa f.length,3,3),(Sa (f.length+1),3,3),(Sa (f.length+2),5,5),(Sa (f.length+3),3,3)]) (b:=[[Tf,⟨#[53]⟩,Nsd],[Ud,⟨#[53]⟩,⟨#[49,48,48,48]⟩],[SN,⟨#[55,55]⟩,⟨#[53]⟩,⟨#[49,50]⟩,⟨#[51,48,48]⟩],[Rq,⟨#[55,55]⟩,⟨#[53,48]⟩]])
  ⟨Sl.row Ta (ro:=false) (by rw [NP];rfl),rfl,fun k hk=>by
   rcases (show k=0\/k=1\/k=2\/k=3 by simp at hk;omega) with rfl | rfl | rfl | rfl
   ·exact ⟨rfl,Sl.row Ry (ro:=false) (by rw [NU];rfl)⟩
   ·exact ⟨rfl,Sl.row Ry (ro:=false) (by rw [NP];rfl)⟩
   ·exact ⟨rfl,Sl.row Ry (ro:=false) (by rw [NP];rfl)⟩
   ·exact ⟨rfl,Sl.row Ry (ro:=false) (by rw [NP];rfl)⟩⟩ rfl rfl (by decide) (fun k hk=>by
   rcases (show k=0\/k=1\/k=2\/k=3 by simp at hk;omega) with rfl | rfl | rfl | rfl<;>decide)
 simp only [Nn,Nm,Nr,Nat.reduceAdd,eq_self,decide_true] at lX
 refine NH ?_
 simp only [n17,r17,SB,seval,NC,NI,NG,NQ,reduceCtorEq,ND,place,NA,NE]
 refine Eq.mpr (lX _) ?_
 have g8:∀X,f.length<=(f++X).length:=fun X=>by simp
 refine NH ?_
 simp only [n17,r17,Of,SB,seval,NC,NI,NG,NQ,reduceCtorEq,ND,place,NA,NE]
 refine h8.fails (l:=cx6) (by omega) (by omega) (Nd _) (by omega) (Nd _) c ex6 (by decide) _ _ _ _ Chg.refl.app (.inr ⟨f.length+5,rfl,rfl,by decide,by rw [NP];rfl,by omega⟩) (by decide +kernel) (by decide) fun e9 G9 ⟨ay,h9,ai⟩=>?_
 subst ay
 have b0:=ai.len
 refine NH ?_
 simp only [n17,r17,SB,seval,NC,NI,NG,NQ,reduceCtorEq,ND,place,NA,NE]
 refine h9.fails (l:=cx7) (by omega) (by omega) (Nd _) (by omega) (Nd _) c ex7 (by decide) _ _ _ _ Chg.refl.app (.inr ⟨G9.length,rfl,rfl,by decide,by rw [NU];rfl,by omega⟩) (by decide +kernel) (by decide) fun bm ac ⟨P,ad,D⟩=>?_
 subst P
 have a3:=D.len
 refine NH ?_
 simp only [n17,r17,SB,seval,NC,NI,NG,NQ,reduceCtorEq,ND,place,NA,NE]
 refine ad.fails (l:=cx8) (by omega) (by omega) (Nd _) (by omega) (Nd _) c ex8 (by decide) _ _ _ _ Chg.refl.app (.inr ⟨ac.length,rfl,rfl,by decide,by rw [NU];rfl,by omega⟩) (by decide +kernel) (by decide) fun e11 bc ⟨R,C,F⟩=>?_
 subst R
 have a4:=F.len
 refine NH ?_
 simp only [n17,r17,SB,seval,NC,NI,NG,NQ,reduceCtorEq,ND,place,NA,NE]
 rw [Na]
 refine Nb0 C (by omega) fun b3 bd w y am G=>?_
 have a6:=G.len
 have t:=C.rcs
 rw [<-y] at t
 refine NH ?_
 simp only [n17,r17,SB,seval,NC,NI,NG,NQ,reduceCtorEq,ND,place,NA,NE]
 rw [Na]
 have r12:=w.room (u:=ux4) c
 refine Nez (by omega) (Rn (by decide) (by decide)) (Rn (by decide) (by decide)) (w.does (l:=cx9) (by omega) (by omega) (Nd _) (by omega) (Nd _) c ex9 (by omega)) fun e13 be ⟨T,b6,o,e,ba,_,a7,z⟩=>?_
 subst T
 have ak:=fun X=>(QL.refl.app (X:=X)).cells e.kj.li.jl.d
 have b2:=e.kj.plen
 have b1:=e.kj.nn
 have bp:=e.kj.fits
 refine NH ?_
 simp only [n17,r17,ak,SB,seval,NC,NI,NG,NQ,reduceCtorEq,ND,place,NA,NE]
 rw [Na]
 refine Nka (by omega) (by omega) fun pl cl bf p r=>?_
 have a8:=p.len
 have ae:=e.new p
 have U:(Wy 18446744073709551615 o.pend.length).length=o.pend.length:=Uv
 refine NH ?_
 simp only [n17,r17,SB,seval,NC,NI,NG,NQ,reduceCtorEq,ND,place,NA,NE]
 rw [Na]
 have O:=fun Q hQ=>Ndb (lc:=cl) (Q:=Q) ae.kj (by omega) (r.sl YR) (fun a ea _=>by have:=(r.block ea).1;have:=e.kj.lives;omega) U hQ
 rw [U] at O
 refine O _ fun bg safe k I hk aj N=>?_
 have az:=N fun j hj=>Nqj j (by rw [Uv];exact hj)
 subst az
 have a9:=I.len
 have a0:(o.rl++o.bs.take 0).map (·.2)=[]::ux4.calls.map Ra:=by
  rw [Qa,Na,z,t,show s6.st=ux4 from c]
 have v:=w.val
 rw [show s6.st=ux4 from c] at v
 refine NH ?_
 simp only [n17,r17,SB,seval,NC,NI,NG,NQ,reduceCtorEq,ND,place,NA,NE]
 rw [Na]
 refine YZ (H0:=H) (n:=n) (Nd _) (by omega) (by omega) v (aj.opj (by omega) (by omega) (by omega) a0) fun a2 b4 bl bb bh x aa _ _=>?_
 have s:=fun X (mp:Bool) (lim:Nat) (Q:Value->NB->Prop)=>Yn (id:=5) (mp:=mp) (lim:=lim) (Q:=Q) (x.kb.new (Chg.refl.app (X:=X))) (fun m V=>by have:=(x.wf.ents 5 m.m (by rw [RG,V];rfl)).1;have:=x.many;omega)
 have al:Ng6 a2.st 5=(750,0):=by
  rw [aa]
  unfold Ng6
  obtain ⟨m,V⟩:=Option.isSome_iff_exists.1 exB.2
  have:=exB.1
  rw [V] at this⊢
  simp only [Ok] at this
  simp only [this]
 rw [al] at s
 refine NH ?_
 simp only [n17,r17,s,SB,seval,NC,NI,NG,NQ,reduceCtorEq,ND,place,NA,NE]
section
variable {lim l0 l1 A B:Nat} {jv jw:Value} {s r:SU} {G:NB} {Q:Value->NB->Prop}
theorem Bnd.of {cs:List (List ByteArray)} {u:BU} (h:Rm cs BU0=some u) (hn:cs.length<2 ^ 30):Bnd u:=by
 have hc:u.calls=cs:=by rw [UU h];rfl
 have d:=VF (n:=0) h Nwm
 rw [Nr] at d
 refine ⟨by rw [hc];exact hn,fun c a=>?_,fun id m e=>?_⟩
 ·rw [hc] at a
  have b:=Vw h c a
  exact ⟨b.ne,by have:=b.len;omega⟩
 ·have:=d.ents id m e
  omega
theorem Nbl [OA] {p:Option Addr} {ds:List Vu} {cs:List (List ByteArray)} {u:BU} {k n:Nat} {H:NB} (K:TRows H p ds cs) (r:∀k,k<cs.length->Ul 1 (gt ds k).2.2 (gt cs k).length) (v:Rm cs BU0=some u) (hn:cs.length<2 ^ 30) (hl:lim<=H.length) (e1:n=cs.length)
  (V:∀s B G,KB H.length B (.pointer none) s G->s.st=u->Chg [] H G->Q (.tuple #[Vp B,.bool true]) G):NN E false lim 27 [.slice p n k] H Q:=by
 subst e1
 refine runs (by decide) e27 rfl ?_
 rw [b27,c27]
 simp only [n27,r27,SB,seval,NC,NI,NG,NQ,reduceCtorEq,ND,place,NA,NE]
 rw [Na]
 refine Nsc hl fun G1 T J=>?_
 refine NH ?_
 simp only [n27,r27,SB,seval,NC,NI,NG,NQ,reduceCtorEq,ND,place,NA,NE]
 refine QB (fun x:Nat×SU=>cs.length-x.1) (fun x fr G=>x.1<=cs.length/\fr 4=Vp (H.length+2)/\fr 8=.slice p cs.length k/\fr 9=Vi cs.length/\fr 10=Vi x.1/\KB H.length (H.length+2) (.pointer none) x.2 G/\Rm (cs.take x.1) BU0=some x.2.st/\Chg [] H G) (0,SU0 H.length)
  ⟨N3 _,rfl,rfl,rfl,rfl,by rw [Na];exact T,rfl,J.app⟩ ?_
 rintro ⟨i,s⟩ fr G ⟨hi,y,z,C,f,q,e,o⟩ U
 simp only at hi f q e
 rw [QE Nus.eq_1]
 refine NH ?_
 have M:=o.len
 by_cases m:i<cs.length
 ·have d:(i:Int)<(cs.length:Int):=by omega
  have P:IntKind.i64.wrap ((i:Int)+1)=((i+1:Nat):Int):=QT (by omega)
  have no:∀{j:Nat} {A:Prop},j∈([]:List Nat)->A:=fun h=>by cases h
  have w:=o.sl K.sl fun _ _ _ h=>no h
  have L:=K.len
  have N:=fun X=>(w.app X).loadCell0 Ta (i:=i) (by omega) (by decide)
  have l:=fun c (kk:IntKind) (H1:NB)=>w.idx (c:=c) (k:=kk) (H1:=H1) (i:=i) (by omega)
  rw [L] at l
  obtain ⟨r1,F⟩:=K.row i m
  obtain ⟨he,O⟩:=Zk v m e
  have g:=VJ he
  obtain ⟨a,S⟩:=F.some g.ne
  rw [S] at F
  have W:=F.lt g.ne
  have R:=VF (n:=0) e Nwm
  simp only [n27,r27,y,z,C,f,d,N,l,Neq,S,SB,seval,NC,NI,NG,NQ,reduceCtorEq,ND,place,NA,NE]
  rw [r1,Na]
  refine Nru q R (by rw [N0];omega) hl M (o.sl F fun _ _ _ h=>no h) (r i m) (fun b I=>by cases I;omega) (fun b I x1 Z=>by cases I;have:=(q.lt Z).1;omega) (fun t Y=>by have:=g.size t Y;omega) (by have:=g.len;omega) fun s' G' D=>?_
  rw [Nk he] at D
  rw [he]
  refine NH ?_
  simp only [n27,r27,y,z,C,f,P,SB,seval,NC,NI,NG,NQ,reduceCtorEq,ND,place,NA,NE]
  rw [Na]
  exact U (i+1,s') _ _ ⟨by show i+1<=_;omega,y,z,C,rfl,D.kb,by rw [D.st];exact O,KB.chg q (Nd _) o D⟩ (by show cs.length-(i+1)<cs.length-i;omega)
 obtain rfl:i=cs.length:=by omega
 have d:¬((cs.length:Int)<(cs.length:Int)):=by omega
 rw [Pa,v] at e
 simp only [n27,r27,y,z,C,f,d,SB,seval,NC,NI,NG,NQ,reduceCtorEq,ND,place,NA,NE]
 rw [Na]
 exact V s _ G q (Option.some.inj e).symm o
structure Apart (A:Nat) (s:SU) (B:Nat) (r:SU):Prop where
 pp:∀x1 y1 j,s.ptr A x1=some j->r.ptr B y1≠some j
 pc:∀x1 j,s.ptr A x1=some j->∀c∈r.calls,∀a,c.p=some a->a.block≠j
 cp:∀y1 j,r.ptr B y1=some j->∀c∈s.calls,∀a,c.p=some a->a.block≠j
theorem Apart.symm (h:Apart A s B r):Apart B r A s:=⟨fun x1 y1 j h1 h2=>h.pp y1 x1 j h2 h1,h.cp,h.pc⟩
theorem Apart.aft {u:BU} {s':SU} {G':NB} (h:Apart A s B r) (F:Aft l0 A jv s G u s' G') (hb:KB l1 B jw r G):Apart A s' B r/\KB l1 B jw r G':=by
 obtain ⟨X,g,f⟩:=F.chg
 refine ⟨⟨fun x1 y1 j h1 h2=>?_,fun x1 j h1 c hc a b e=>?_,fun y1 j h1 c hc a b e=>?_⟩,hb.to f fun j i=>?_⟩
 ·rcases F.ptr x1 j h1 with q | q
  ·exact h.pp x1 y1 j q h2
  ·have:=(hb.lt h2).2;omega
 ·rcases F.ptr x1 j h1 with q | q
  ·exact h.pc x1 j q c hc a b e
  ·have:=(hb.cs c hc).2 a b;omega
 ·rcases F.calls c hc with q | q
  ·exact h.cp y1 j h1 c q a b e
  ·have:=q a b;have:=(hb.lt h1).2;omega
 ·obtain ⟨x1,d⟩:=g j i
  exact ⟨fun y1 k=>h.pp x1 y1 j d k,h.pc x1 j d⟩
theorem Wf.if {n:Nat} {u:BU} {c:List ByteArray} (h:Wf n u):Wf (n+1) (if Sq u c=0 then doneD u c else u):=by
 by_cases he:Sq u c=0
 ·rw [Nk he];exact h.stepD he
 ·rw [Ni he]
  exact ⟨by have:=h.calls;omega,(show Nco n u.ms from h.ents).le (by omega),h.frm,h.sc⟩
end
section
variable {lim:Nat} {H:NB} {Q:Value->NB->Prop}
theorem Nle [OA] {y:Int} (h0:0<=y) (h1:y<256) (hl:lim<=H.length)
  (f:∀n s sj J B G,20<=n->n<148->JB lim H.length n J (H.length+1) H.length H 0 B s sj G->s.st=BU0->sj.bs=[]->Q (.tuple #[Vp B,Vp (H.length+1),.bool true]) G) :
  NN E false lim 21 [.int .u8 y] H Q:=by
 refine runs (by decide) e21 rfl ?_
 rw [b21,c21]
 have a1:IntKind.i64.wrap (y % 128)=y % 128:=ME (by omega) (by omega)
 obtain ⟨n,hn⟩:∃n:Nat,(n:Int)=20+y % 128:=⟨(20+y % 128).toNat,by omega⟩
 have d:IntKind.i64.wrap (20+y % 128)=(n:Int):=by rw [hn];exact ME (by omega) (by omega)
 simp only [n21,r21,tm h0,a1,d,SB,seval,NC,NI,NG,NQ,reduceCtorEq,ND,place,NA,NE]
 rw [Na]
 refine Nby (by omega) (by omega) ?_
 refine NH ?_
 simp only [n21,r21,VB,SB,seval,NC,NI,NG,NQ,reduceCtorEq,ND,place,NA,NE]
 refine YZ (H0:=H) (n:=n) (S:=H.length) hl (by simp) (by omega) (cs:=[]) (u:=BU0) rfl (Nxc hl (by omega) (by omega)) fun h g J B c h0 b a e=>?_
 refine NH ?_
 simp only [n21,r21,VB,Bool.not_false,SB,seval,NC,NI,NG,NQ,reduceCtorEq,ND,place,NA,NE]
 rw [Na]
 exact f n h g J B c (by omega) (by omega) h0 b a
theorem JB.bnd {l0 n J D S iv B:Nat} {H0 G:NB} {s:SU} {sj:SJ} (h:JB lim l0 n J D S H0 iv B s sj G) (hn:n<2 ^ 19):Bnd s.st:=
 Bnd.of h.val (by have:=h.many;simp only [SU.st,Nz];omega)
end
section
variable {lim:Nat} {H:NB} {Q:Value->NB->Prop}
theorem JB.rlen {l0 n J D S iv B:Nat} {H0 G:NB} {s:SU} {sj:SJ} (h:JB lim l0 n J D S H0 iv B s sj G):sj.rl.length+sj.bs.length=s.calls.length+1:=by
 have:=Qd List.length h.rcs
 simpa [SU.st] using this
theorem JB.left {l0 n J D S iv B k:Nat} {H0 G:NB} {s:SU} {sj:SJ} (h:JB lim l0 n J D S H0 iv B s sj G) (a:k<=sj.bs.length) (hr:1<=sj.rl.length):(sj.rl++sj.bs.take k).map (·.2)=[]::(s.st.calls.take (sj.rl.length+k-1)).map Ra:=by
 have h1:=Qd (List.take (sj.rl.length+k)) h.rcs
 have e:sj.rl.length+k=(sj.rl.length+k-1)+1:=by omega
 rw [<-List.map_take,List.take_append,N8 (by omega),O7] at h1
 rw [h1]
 conv=>lhs;rw [e]
 rw [Pu,List.map_take]
theorem BureauKeeps_ok [OA] (hA:OA.on=false) {y:Int} {c:Nat} {p:Option Addr} {L:List Stp} (ba:0<=y) (bb:y<256) (hl:lim<=H.length) (hs:Sl H encU 5 p L) (hL:∀x∈L,StOk x) (hn:L.length<2 ^ 63)
  (hQ:∀G,Q (.bool true) G):NN E false lim 5 [.int .u8 y,.slice p L.length c] H Q:=by
 have no:∀{j:Nat} {A:Prop},j∈([]:List Nat)->A:=fun h=>by cases h
 refine runs (by decide) e5 rfl ?_
 rw [b5,c5]
 simp only [n5,r5,Nr3 hA,Of,SB,seval,NC,NI,NG,NQ,reduceCtorEq,ND,place,NA,NE]
 rw [Na]
 refine Nle ba bb hl fun n s0 j0 J0 B0 G0 bl bm h0 bp a3=>?_
 refine NH ?_
 simp only [n5,r5,Of,SB,seval,NC,NI,NG,NQ,reduceCtorEq,ND,place,NA,NE]
 refine QB (fun x:Nat×SU×SJ×Nat×Nat×Nat=>40-x.1) (fun x fr G=>x.1<=40/\x.1<=L.length/\fr 1=.slice p L.length c/\fr 5=Vp x.2.2.2.2.1/\fr 6=Vp (H.length+1)/\fr 8=Vi x.2.2.2.2.2/\fr 9=Vi x.1/\
   JB lim H.length n x.2.2.2.1 (H.length+1) H.length H x.1 x.2.2.2.2.1 x.2.1 x.2.2.1 G/\x.2.2.2.2.2+1<=x.2.2.1.rl.length) (0,s0,j0,J0,B0,0)
  ⟨N3 _,N3 _,rfl,rfl,rfl,rfl,rfl,by rw [Na];exact h0,by have:=h0.rlen;rw [a3] at this;simp only [Nm] at this;show 0+1<=j0.rl.length;omega⟩ ?_
 rintro ⟨i,s,sj,J,B,sf⟩ fr G ⟨hi,a7,K,w,D,S,T,u,an⟩ hN
 simp only at hi a7 w S T u an
 have hC:=u.kj.chg
 have bh:=hC.len
 have hm:=u.many
 have hb:=u.bnd (by omega)
 have ae:s.calls.length=s.st.calls.length:=by simp [SU.st]
 have ac:lim<=G.length:=by omega
 rw [QE Nxh.eq_1]
 refine NH ?_
 by_cases ad:i<L.length
 ·have r:(i:Int)<(L.length:Int):=by omega
  by_cases bd:i<40
  ·have v:(i:Int)<40:=by omega
   have ah:IntKind.i64.wrap ((i:Int)+1)=((i+1:Nat):Int):=QT (by omega)
   have hx:=hL _ (Xb ad)
   have hg:=hC.sl hs fun _ _ _ h=>no h
   have W:=fun X=>(hg.app X).loadCells Nrt ad
   have O:=fun c (kk:IntKind) (H1:NB)=>hg.idx (c:=c) (k:=kk) (H1:=H1) ad
   obtain ⟨x,a9⟩:∃x,x=gt L i:=⟨_,rfl⟩
   rw [<-a9] at hx W
   have hk:=hx.k
   have t1:Int.tdiv x.k 8=x.k / 8:=Qq hk.1
   have t2:IntKind.u8.wrap (x.k / 8)=x.k / 8:=w8 (by omega) (by omega)
   have t3:Int.tmod (x.k / 8) 8=x.k / 8 % 8:=tm (by omega)
   have t4:IntKind.u8.wrap (x.k / 8 % 8)=x.k / 8 % 8:=w8 (by omega) (by omega)
   by_cases c0:x.k / 8 % 8=0
   ·simp only [n5,r5,K,w,D,S,T,r,v,O,W,encU,ac,t1,t2,t3,t4,c0,SB,seval,NC,NI,NG,NQ,reduceCtorEq,ND,place,NA,NE]
    refine Nb0 (u.new Chg.refl.app) (by omega) fun o G1 g a8 a6 f=>?_
    have l1:=f.len
    refine NH ?_
    simp only [n5,r5,w,SB,seval,NC,NI,NG,NQ,reduceCtorEq,ND,place,NA,NE]
    rw [Na]
    refine UG g.kb (by simp at l1;omega) (by omega) g.fine fun G2 R2 d2 M be=>?_
    refine NH ?_
    simp only [n5,r5,K,w,D,T,ah,SB,seval,NC,NI,NG,NQ,reduceCtorEq,ND,place,NA,NE]
    refine hN (i+1,s,o,J,B,s.calls.length) _ _ ⟨by show i+1<=40;omega,by show i+1<=_;omega,K,w,D,rfl,rfl,by rw [Na];exact (g.new M).step (by omega),by have:=g.rlen;rw [a6] at this;simp only [Nm] at this;show s.calls.length+1<=o.rl.length;omega⟩ (by show 40-(i+1)<40-i;omega)
   by_cases c1:x.k / 8 % 8=1
   ·simp only [n5,r5,K,w,D,S,T,r,v,O,W,encU,ac,t1,t2,t3,t4,c1,SB,seval,NC,NI,NG,NQ,reduceCtorEq,ND,place,NA,NE]
    have ai:NF (G++[Vc [.int .u8 x.k,.int .u8 x.m,.int .u8 x.i,.int .u16 x.c,.int .u64 x.lo]]) G.length=Vc [.int .u8 x.k,.int .u8 x.m,.int .u8 x.i,.int .u16 x.c,.int .u64 x.lo]:=by rw [NU];rfl
    have g:=u.new (Chg.refl.app (X:=[Vc [.int .u8 x.k,.int .u8 x.m,.int .u8 x.i,.int .u16 x.c,.int .u64 x.lo]]))
    generalize G++[Vc [.int .u8 x.k,.int .u8 x.m,.int .u8 x.i,.int .u16 x.c,.int .u64 x.lo]] = Gx at ai g⊢
    have lx:=g.kj.chg.len
    refine UG g.kb (by omega) (by omega) g.fine fun G1 R1 d1 f C=>?_
    have l1:=f.len
    rw [ae]
    have I:=g.new f
    have av:=fun X=>(QL.refl.app (X:=X)).cells (f.cells ai (by simp))
    have az:=fun X=>(QL.refl.app (X:=X)).cells I.kj.li.jl.d
    refine NH ?_
    simp only [n5,r5,w,D,av,az,SB,seval,NC,NI,NG,NQ,reduceCtorEq,ND,place,NA,NE]
    rw [Na]
    have bo:=I.kj.plen
    have bn:=I.kj.nn
    have bg:=I.kj.fits
    refine Nka (by omega) (by omega) fun pl cl G2 M ak=>?_
    have l2:=M.len
    have a0:=I.new M
    have am:(Wy x.lo sj.pend.length).length=sj.pend.length:=Uv
    refine NH ?_
    simp only [n5,r5,D,SB,seval,NC,NI,NG,NQ,reduceCtorEq,ND,place,NA,NE]
    rw [Na]
    have al:=fun Q hQ=>Ndb (lc:=cl) (Q:=Q) a0.kj (by omega) (ak.sl YR) (fun a ea _=>by have:=(ak.block ea).1;have:=I.kj.lives;omega) am hQ
    rw [am] at al
    refine al _ fun G3 safe k U hk ay _=>?_
    have l3:=U.len
    obtain ⟨u',ag⟩:=ZG (sj.rl.length+k-1) u.val
    refine NH ?_
    simp only [n5,r5,D,SB,seval,NC,NI,NG,NQ,reduceCtorEq,ND,place,NA,NE]
    rw [Na]
    refine YZ (H0:=H) (n:=n) hl (by omega) (by omega) ag (ay.opj (by omega) (by omega) (by omega) (u.left hk (by omega))) fun s4 au J4 B4 G4 z aq a4 aj=>?_
    have l4:=aj.len
    have a8:=u.rlen
    have Z:s4.st.calls=s.st.calls.take (sj.rl.length+k-1):=by rw [aq,UU ag];rfl
    have P:s4.st.calls.length=sj.rl.length+k-1:=by rw [Z,N0];omega
    have ao:s4.calls.length=s4.st.calls.length:=by simp [SU.st]
    have bc:=z.step (Nd _)
    refine NH ?_
    simp only [n5,r5,VB,SB,seval,NC,NI,NG,NQ,reduceCtorEq,ND,place,NA,NE]
    rw [Na]
    refine UG z.kb (by omega) (by omega) z.fine fun G5 R5 d5 V bf=>?_
    have l5:=V.len
    rw [ao,P]
    have ax:Chg [H.length,H.length+1] G1 G5:=((M.mono fun _ _ h=>no h).trans' U fun j hj _=>hj).trans' (aj.trans' V fun _ h=>no h) fun j hj _=>hj
    have b:=C.chg ax fun j hj=>by
     have:=g.lives j (by simp only [Nh,No,or_false] at hj⊢;rcases hj with hj | hj<;>simp [hj])
     exact this
    have q1:¬(((sj.rl.length+k-1:Nat):Int)<(sf:Int)):=by omega
    have q2:¬((s.st.calls.length:Int)<((sj.rl.length+k-1:Nat):Int)):=by omega
    have a2:=b.rows.sl
    obtain ⟨q,cq,Y,aa,_⟩:=Td (c:=s.st.calls.length) (vlo:=none) (vhi:=some (Vi ((sj.rl.length+k-1:Nat):Int))) (lo:=0) (hi:=sj.rl.length+k-1) a2 (.inr ⟨by rw [b.len];exact Nd _,by omega⟩) Ta (fun cap hc=>by rw [b.len] at hc;rw [Nbe (by omega) (by omega),O1]) (N3 _) (by rw [b.len];omega) (by rw [b.len];omega)
    rw [b.len,Nat.sub_zero] at Y
    rw [Og] at aa
    refine NH ?_
    simp only [n5,r5,S,q1,q2,Y,SB,seval,NC,NI,NG,NQ,reduceCtorEq,ND,place,NA,NE]
    rw [Na]
    have ab:∀{α:Type} [Inhabited α] {l:List α} {j m:Nat},j<m->gt (l.take m) j=gt l j:=fun {α _ l j m} h=>by unfold gt;rw [Nb,Nb,O9,Nk h]
    have F:(s.st.calls.take (sj.rl.length+k-1)).length=sj.rl.length+k-1:=by rw [<-Z];exact P
    refine Nbl (cs:=s.st.calls.take (sj.rl.length+k-1)) ⟨aa,by rw [F,N0,b.len];omega,fun j hj=>?_⟩ (fun j hj=>?_) ag (by omega) (by omega) F.symm fun so Bo Go N R t=>?_
    ·rw [F] at hj
     obtain ⟨r1,r2,_⟩:=b.row j (by omega)
     rw [ab hj,ab hj]
     exact ⟨r1,r2⟩
    ·rw [F] at hj
     rw [ab hj]
     exact .inl (b.cap j (by omega))
    have l6:=t.len
    refine NH ?_
    simp only [n5,r5,Of,SB,seval,NC,NI,NG,NQ,reduceCtorEq,ND,place,NA,NE]
    rw [Na]
    refine Ndt ((z.kb.new V).new t) N (R.trans aq.symm) (z.bnd (by omega)) (by omega) fun G7 aw=>?_
    refine NH ?_
    simp only [n5,r5,K,D,T,ah,Of,SB,seval,NC,NI,NG,NQ,reduceCtorEq,ND,place,NA,NE]
    refine hN (i+1,s4,au,J4,B4,sj.rl.length+k-1) _ _ ⟨by show i+1<=40;omega,by show i+1<=_;omega,K,rfl,D,rfl,rfl,by rw [Na];exact ((z.new V).new t).new aw,by have:=z.rlen;rw [a4] at this;simp only [Nm] at this;show sj.rl.length+k-1+1<=au.rl.length;omega⟩ (by show 40-(i+1)<40-i;omega)
   ·simp only [n5,r5,K,w,D,S,T,r,v,O,W,encU,ac,t1,t2,t3,t4,c0,c1,SB,seval,NC,NI,NG,NQ,reduceCtorEq,ND,place,NA,NE]
    refine Nxn hx (by simp;omega) (DoR.ofJ (u.new Chg.refl.app) (by omega) (by omega) hl (by simp;omega) (Nd _)) fun e G2 hR=>?_
    refine NH ?_
    simp only [n5,r5,K,w,D,S,T,ah,SB,seval,NC,NI,NG,NQ,reduceCtorEq,ND,place,NA,NE]
    obtain ⟨s',o,h3,h5⟩:∃s' o,JB lim H.length n J (H.length+1) H.length H (i+1) B s' o G2/\o.rl=sj.rl:=by
     rcases hR with ⟨_,_,h3,_⟩ | ⟨_,_,_,h3,_⟩ | ⟨_,_,s',o,h3,_,h5,_⟩
     ·exact ⟨s,sj,h3.step (by omega),rfl⟩
     ·exact ⟨s,sj,h3.step (by omega),rfl⟩
     ·exact ⟨s',o,h3,h5⟩
    exact hN (i+1,s',o,J,B,sf) _ _ ⟨by show i+1<=40;omega,by show i+1<=_;omega,K,w,D,S,rfl,by rw [Na];exact h3,by show sf+1<=o.rl.length;rw [h5];exact an⟩ (by show 40-(i+1)<40-i;omega)
  ·have v:¬(i:Int)<40:=by omega
   simp only [n5,r5,K,w,D,S,T,r,v,SB,seval,NC,NI,NG,NQ,reduceCtorEq,ND,place,NA,NE]
   rw [Na]
   refine UG u.kb (by omega) (by omega) u.fine fun G1 R1 d1 f C=>?_
   have l1:=f.len
   rw [ae]
   refine NH ?_
   simp only [n5,r5,w,SB,seval,NC,NI,NG,NQ,reduceCtorEq,ND,place,NA,NE]
   rw [Na]
   refine Nbl C.rows (fun k hk=>.inl (C.cap k hk)) u.val (by omega) (by omega) rfl fun so Bo Go N R t=>?_
   refine NH ?_
   simp only [n5,r5,w,SB,seval,NC,NI,NG,NQ,reduceCtorEq,ND,place,NA,NE]
   rw [Na]
   refine Ndt ((u.kb.new f).new t) N R hb (by have:=t.len;omega) fun G3 U=>?_
   refine NH ?_
   simp only [n5,r5,SB,seval,NC,NI,NG,NQ,reduceCtorEq,ND,place,NA,NE]
   exact hQ _
 ·have r:¬(i:Int)<(L.length:Int):=by omega
  simp only [n5,r5,K,w,D,S,T,r,SB,seval,NC,NI,NG,NQ,reduceCtorEq,ND,place,NA,NE]
  rw [Na]
  refine UG u.kb (by omega) (by omega) u.fine fun G1 R1 d1 f C=>?_
  have l1:=f.len
  rw [ae]
  refine NH ?_
  simp only [n5,r5,w,SB,seval,NC,NI,NG,NQ,reduceCtorEq,ND,place,NA,NE]
  rw [Na]
  refine Nbl C.rows (fun k hk=>.inl (C.cap k hk)) u.val (by omega) (by omega) rfl fun so Bo Go N R t=>?_
  refine NH ?_
  simp only [n5,r5,w,SB,seval,NC,NI,NG,NQ,reduceCtorEq,ND,place,NA,NE]
  rw [Na]
  refine Ndt ((u.kb.new f).new t) N R hb (by have:=t.len;omega) fun G3 U=>?_
  refine NH ?_
  simp only [n5,r5,SB,seval,NC,NI,NG,NQ,reduceCtorEq,ND,place,NA,NE]
  exact hQ _
end
end Go.Proofs.YtancgcogjokfcaaGreatDoor.Fn


