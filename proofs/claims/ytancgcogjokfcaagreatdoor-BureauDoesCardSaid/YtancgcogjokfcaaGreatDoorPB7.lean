/-
  Joined texts, 7 of 8. A part of the claim that the last text states.
-/
import Derived.Test.YtancgcogjokfcaaGreatDoorPB6
set_option linter.unusedVariables false
set_option linter.unusedSimpArgs false
set_option linter.defProp false
set_option linter.unusedSectionVars false
set_option maxRecDepth 100000
set_option maxHeartbeats 4000000
namespace Go.Proofs.YtancgcogjokfcaaGreatDoor.Fn
open Go.AM Go.AM.Sym
def be4 (n:Nat):List UInt8:=[Xi n 0,Xi n 1,Xi n 2,Xi n 3]
theorem Zr {n:Nat} (h:n<2 ^ 32):numOf (be4 n)=n:=by
 simp only [numOf,be4,O9,List.foldl_nil,Xi,UInt8.toNat_ofNat']
 simp only [Nat.reducePow,Nat.reduceMul,Nat.reduceSub] at h⊢
 omega
theorem TT {e lf n:Nat} {x:Nat×List UInt8} (h:x.2.length<=18):(Un e lf n x).toList=be4 e++(be4 lf++(be4 n++(UInt8.ofNat x.1::UInt8.ofNat x.2.length::(x.2++List.replicate (18-x.2.length) 0)))):=by
 unfold Un
 rw [No4 (by rw [Tq,Tq,Tq,UC h])]
 have e1:Uu x=0::0::0::0::0::0::0::0::0::0::0::0::UInt8.ofNat x.1::UInt8.ofNat x.2.length::(x.2++List.replicate (18-x.2.length) 0):=by
  unfold Uu
  rw [Nl]
  rfl
 rw [e1]
 generalize UInt8.ofNat x.1::UInt8.ofNat x.2.length::(x.2++List.replicate (18-x.2.length) 0)=r
 simp [Um,be4]
section
variable {e lf n:Nat} {x:Nat×List UInt8}
theorem Tt (h:x.2.length<=18) (he:e<2 ^ 32):Ri (Un e lf n x) 0=e:=by
 unfold Ri;rw [TT h];exact Zr he
theorem Si (h:x.2.length<=18) (he:lf<2 ^ 32):Ri (Un e lf n x) 4=lf:=by
 unfold Ri;rw [TT h];exact Zr he
theorem Niq (h:x.2.length<=18) (he:n<2 ^ 32):Ri (Un e lf n x) 8=n:=by
 unfold Ri;rw [TT h];exact Zr he
theorem WU (h:x.2.length<=18) (he:x.1<256):fl (Un e lf n x)=x.1:=by
 unfold fl;rw [TT h]
 show (UInt8.ofNat x.1).toNat=_
 rw [UInt8.toNat_ofNat_of_lt' (by show _<256;exact he)]
theorem Ngd (h:x.2.length<=18):ln (Un e lf n x)=x.2.length:=by
 unfold ln;rw [TT h]
 show (UInt8.ofNat x.2.length).toNat=_
 rw [UInt8.toNat_ofNat_of_lt' (by show _<256;omega)]
theorem Ncx (h:x.2.length<=18):pay (Un e lf n x)=x.2:=by
 unfold pay;rw [Ngd h,TT h]
 show (x.2++List.replicate (18-x.2.length) 0).take x.2.length=_
 rw [List.take_left]
theorem VX (h:x.2.length<=18) (h1:x.1<=3) (h2:x.1<2->x.2.length=18) (e1:1<=e) (e2:e<=1073741824) (l1:1<=lf) (l2:lf<=1073741824) (hn:n<2 ^ 32):QH (Un e lf n x) n=true:=by
 unfold QH
 rw [Tt h (by omega),Si h (by omega),Niq h hn,WU h (by omega),Ngd h]
 rw [Nq,Nx,Nx]
 refine ⟨⟨e1,e2,l1,l2,rfl,h1,h,h2⟩, ?_⟩
 rw [TT h]
 rw [<-List.drop_drop]
 show (x.2++List.replicate (18-x.2.length) 0).drop x.2.length=_
 rw [List.drop_left]
end
def SF (e lf:Nat):Nat->List (Nat×List UInt8)->List QY
 | _,[]=>[]
 | n,x::r=>Un e lf n x::SF e lf (n+1) r
theorem Vm {e lf:Nat}:∀(r:List (Nat×List UInt8)) (n:Nat),(SF e lf n r).length=r.length
 | [],_=>rfl
 | x::r,n=>by rw [SF,Nm,Nm,Vm r]
theorem ZY {e lf:Nat}:∀(a b:List (Nat×List UInt8)) (n:Nat),SF e lf n (a++b)=SF e lf n a++SF e lf (n+a.length) b
 | [],b,n=>rfl
 | x::a,b,n=>by
   rw [N1,SF,SF,ZY a b,N1,Nm]
   congr 3;omega
theorem Yy {base e lf:Nat}:∀(a b:List (Nat×List UInt8)) (n:Nat),Ru base e lf n (a++b)=Ru base e lf n a++Ru base e lf (n+a.length) b
 | [],b,n=>rfl
 | x::a,b,n=>by
   rw [N1,Ru,Ru,Yy a b,N1,Nm]
   congr 3;omega
theorem Neg {e lf n life:Nat} {ins:Bool} {x:Nat×List UInt8} (h:x.2.length<=18) (h1:x.1<=3) (h2:x.1<2->x.2.length=18) (e1:1<=e) (e2:e<=1073741824) (l1:1<=lf) (l2:lf<=1073741824) (hn:n<2 ^ 32) (hi:ins=decide (x.1 % 2=0)) (hl:life<=lf) (b:ins=true->life=lf):Sj e n ins life (Un e lf n x)=true:=by
 unfold Sj
 rw [VX h h1 h2 e1 e2 l1 l2 hn,Tt h (by omega),WU h (by omega),Si h (by omega)]
 cases ins with
 | true=>
   have c:x.1 % 2=0:=O8 hi.symm
   have a:¬x.1 % 2=1:=by omega
   have:=b rfl
   simp [a,this]
 | false=>
   have c:¬x.1 % 2=0:=of_decide_eq_false hi.symm
   have a:x.1 % 2=1:=by omega
   simp [a,hl]
theorem Nfe {e lf:Nat} (e1:1<=e) (e2:e<=1073741824) (l1:1<=lf) (l2:lf<=1073741824):∀(f a:Nat) (b:List UInt8) (i life:Nat) (rec:List UInt8) (l:List (List UInt8)) (d:Nat) (r:List QY),b.length<f->a<=1->i+f<2 ^ 31->life<=lf->(a=0->life=lf)->
  TL e i (SF e lf i (Sn f a b)++r) (decide (a=0)) life rec l d=TL e (i+(Sn f a b).length) r false lf [] (l++[rec++b]) (i+(Sn f a b).length)
 | 0,a,b,i,life,rec,l,d,r,h,_,_,_,_=>by omega
 | f+1,a,b,i,life,rec,l,d,r,h,hf,hi,hl,hl2=>by
   simp only [Sn]
   split
   ·rename_i c
    rw [SF,SF,N1,N6,TL,Nk (Neg c (by show a+2<=3;omega) (by show a+2<2->_;omega) e1 e2 l1 l2 (by omega) (by show _=decide ((a+2) % 2=0);congr 1;apply propext;omega) hl (by intro h;exact hl2 (O8 h)))]
    rw [WU c (by show a+2<256;omega),Ni (by show ¬a+2<2;omega),Si c (by omega),Ncx c]
    rfl
   ·rename_i c
    have g:(b.take 18).length=18:=by rw [N7];omega
    rw [SF,N1,TL,Nk (Neg (by show (b.take 18).length<=18;omega) (by show a<=3;omega) (fun _=>g) e1 e2 l1 l2 (by omega) (by show _=decide (a % 2=0);congr 1;apply propext;omega) hl (by intro h;exact hl2 (O8 h)))]
    rw [WU (by show (b.take 18).length<=18;omega) (by show a<256;omega),Nk (by show a<2;omega),Si (by show (b.take 18).length<=18;omega) (by omega),Ncx (by show (b.take 18).length<=18;omega)]
    have:=Nfe e1 e2 l1 l2 f 0 (b.drop 18) (i+1) lf (rec++b.take 18) l d r (by simp;omega) (by omega) (by omega) (Nd _) (fun _=>rfl)
    rw [show (decide ((0:Nat)=0))=true from rfl] at this
    rw [this,Nm,Nl,Pe,On,Q4 1]
def TF (e:Nat):Nat->List QY->Bool->Nat->Bool
 | _,[],_,_=>true
 | i,s::r,ins,life=>if Sj e i ins life s then decide (fl s<2)&&TF e (i+1) r true (Ri s 4) else true
theorem WN {e:Nat}:∀(s:List QY) (i:Nat) (ins:Bool) (life:Nat) (rec:List UInt8) (l:List (List UInt8)) (a:Nat),TF e i s ins life=true->TL e i s ins life rec l a=(l,a)
 | [],_,_,_,_,_,_,_=>rfl
 | s::r,i,ins,life,rec,l,a,h=>by
   rw [TL]
   rw [TF] at h
   split
   ·rename_i b
    rw [Nk b,Nq,Nx] at h
    rw [Nk h.1]
    exact WN r _ _ _ _ _ _ h.2
   ·rfl
def VO (e lf i:Nat) (s:QY):Prop:=QH s i=true->Ri s 0=e->Ri s 4<lf
theorem Yi {e lf i:Nat} {ins:Bool} {s:QY} (h:VO e lf i s):Sj e i ins lf s=false:=by
 cases hg:Sj e i ins lf s with
 | false=>rfl
 | true=>
   simp only [Sj,Nq,Nx] at hg
   have:=h hg.1.1.1.1 hg.1.1.1.2
   omega
theorem Ncu {e lf:Nat} (e1:1<=e) (e2:e<=1073741824) (l1:1<=lf) (l2:lf<=1073741824):∀(f a:Nat) (b:List UInt8) (i life q:Nat) (s:QY) (r:List QY),b.length<f->a<=1->i+f<2 ^ 31->life<=lf->(a=0->life=lf)->q<(Sn f a b).length->(q=0->life=lf)->VO e lf (i+q) s->
  TF e i ((SF e lf i (Sn f a b)).take q++s::r) (decide (a=0)) life=true
 | 0,a,b,i,life,q,s,r,h,_,_,_,_,_,_,_=>by omega
 | f+1,a,b,i,life,0,s,r,h,hf,hi,hl,hl2,hq,hq0,hs=>by
   have d:VO e lf i s:=hs
   rw [Qc,N6,TF,hq0 rfl,Yi d]
   rfl
 | f+1,a,b,i,life,q+1,s,r,h,hf,hi,hl,hl2,hq,hq0,hs=>by
   simp only [Sn] at hq⊢
   split
   ·rename_i c
    rw [Nk c] at hq
    simp at hq
   ·rename_i c
    rw [Ni c,Nm] at hq
    have g:(b.take 18).length=18:=by rw [N7];omega
    rw [SF,P2,N1,TF,Nk (Neg (by show (b.take 18).length<=18;omega) (by show a<=3;omega) (fun _=>g) e1 e2 l1 l2 (by omega) (by show _=decide (a % 2=0);congr 1;apply propext;omega) hl (by intro h;exact hl2 (O8 h)))]
    rw [WU (by show (b.take 18).length<=18;omega) (by show a<256;omega),Si (by show (b.take 18).length<=18;omega) (by omega)]
    have:=Ncu e1 e2 l1 l2 f 0 (b.drop 18) (i+1) lf q s r (by simp;omega) (by omega) (by omega) (Nd _) (fun _=>rfl) (by omega) (fun _=>rfl) (by rw [show i+1+q=i+(q+1) by omega];exact hs)
    rw [show (decide ((0:Nat)=0))=true from rfl] at this
    rw [this]
    simp;omega
theorem Ncw {e L:Nat}:∀(r r':List QY) (i life:Nat),r.length=r'.length->TF e i r true life=true->(∀j,j<r.length->gt r' j=gt r j\/Ri (gt r' j) 4=L)->(∀j,j<r.length->VO e L (i+j) (gt r j))->life<L->TF e i r' true life=true
 | [],[],i,life,hl,h,h1,h2,h3=>rfl
 | s::r,s'::r',i,life,hl,h,h1,h2,h3=>by
   have k1:=h1 0 (by simp)
   have k2:=h2 0 (by simp)
   rw [RZ] at k1 k2
   rw [RZ] at k1
   rw [TF]
   split
   ·rename_i b
    rcases k1 with rfl | k1
    ·rw [TF,Nk b,Nq] at h
     rw [h.1,Bool.true_and]
     have a:=b
     simp only [Sj,Nq,Nx] at a
     refine Ncw r r' (i+1) _ (by simpa using hl) h.2 (fun j c=>?_) (fun j c=>?_) (k2 a.1.1.1.1 a.1.1.1.2)
     ·have:=h1 (j+1) (by simp;omega)
      rwa [Rz,Rz] at this
     ·have:=h2 (j+1) (by simp;omega)
      rwa [Rz,show i+(j+1)=i+1+j by omega] at this
    ·simp only [Sj,Nq,Nx,Bool.true_and,Bool.not_eq_true',Bool.not_eq_false'] at b
     omega
   ·rfl
theorem Nip {e L i life:Nat} {s:QY} {r r':List QY} (hl:r.length=r'.length) (h:TF e i (s::r) false life=true) (h1:∀j,j<r.length->gt r' j=gt r j\/Ri (gt r' j) 4=L) (h2:∀j,j<(s::r).length->VO e L (i+j) (gt (s::r) j)):TF e i (s::r') false life=true:=by
 rw [TF] at h⊢
 split
 ·rename_i a
  rw [Nk a,Nq] at h
  rw [h.1,Bool.true_and]
  simp only [Sj,Nq,Nx] at a
  have k2:=h2 0 (by simp)
  rw [RZ] at k2
  refine Ncw r r' (i+1) _ hl h.2 h1 (fun j b=>?_) (k2 a.1.1.1.1 a.1.1.1.2)
  have:=h2 (j+1) (by simp;omega)
  rwa [Rz,show i+(j+1)=i+1+j by omega] at this
 ·rfl
abbrev LR:=List (Nat×List UInt8)
def OC:LR->Nat
 | []=>0
 | x::r=>OT x.2.length+OC r
def QS (e:Nat):Nat->LR->List QY
 | _,[]=>[]
 | i,x::r=>SF e x.1 i (W9 x.2)++QS e (i+OT x.2.length) r
def Ui:Nat->LR->Nat
 | l,[]=>l
 | _,x::r=>Ui x.1 r
def upL (b:Nat):Nat->LR->Prop
 | l,[]=>l<=b
 | l,x::r=>l<=x.1/\1<=x.1/\upL b x.1 r
theorem RD {e:Nat}:∀(r:LR) (i:Nat),(QS e i r).length=OC r
 | [],_=>rfl
 | x::r,i=>by rw [QS,Nj,RD r,Vm,Td,OC]
theorem RY:∀(a b:LR),OC (a++b)=OC a+OC b
 | [],b=>by simp [OC]
 | x::a,b=>by rw [N1,OC,OC,RY a b];omega
theorem VZ {e:Nat}:∀(a b:LR) (i:Nat),QS e i (a++b)=QS e i a++QS e (i+OC a) b
 | [],b,i=>rfl
 | x::a,b,i=>by rw [N1,QS,QS,VZ a b,OC,Nl,On]
theorem MH {b:Nat}:∀(a:LR) (l:Nat) (x:Nat×List UInt8),upL x.1 l a->1<=x.1->x.1<=b->upL b l (a++[x])
 | [],l,x,h,h1,h2=>⟨h,h1,h2⟩
 | y::a,l,x,h,h1,h2=>⟨h.1,h.2.1,MH a _ x h.2.2 h1 h2⟩
theorem Nev {b b':Nat} (hb:b<=b'):∀(a:LR) (l:Nat),upL b l a->upL b' l a
 | [],l,h=>Qa h hb
 | y::a,l,h=>⟨h.1,h.2.1,Nev hb a _ h.2.2⟩
theorem MG {b:Nat}:∀(a:LR) (l:Nat),upL b l a->upL (Ui l a) l a/\Ui l a<=b
 | [],l,h=>⟨Nd _,h⟩
 | y::a,l,h=>by
   have:=MG a _ h.2.2
   exact ⟨⟨h.1,h.2.1,this.1⟩,this.2⟩
theorem Nhj {b:Nat}:∀(a:LR) (l:Nat),upL b l a->l<=b
 | [],l,h=>h
 | y::a,l,h=>Qa h.1 (Nhj a _ h.2.2)
theorem Yd {e b:Nat} (e1:1<=e) (e2:e<=1073741824) (hb:b<=1073741824):∀(rl:LR) (i life:Nat) (l:List (List UInt8)) (r:List QY),i+OC rl<2 ^ 30->(∀x∈rl,x.2.length<2 ^ 20)->upL b life rl->
  TL e i (QS e i rl++r) false life [] l i=TL e (i+OC rl) r false (Ui life rl) [] (l++rl.map (·.2)) (i+OC rl)
 | [],i,life,l,r,_,_,_=>by simp [QS,OC,Ui]
 | x::rl,i,life,l,r,hi,hx,hu=>by
   have h1:=Nhj rl _ hu.2.2
   have a:=hx x (by simp)
   simp only [OC] at hi
   rw [QS,Nl]
   have h2:=Nfe (e:=e) (lf:=x.1) e1 e2 hu.2.1 (by omega) (x.2.length+1) 1 x.2 i life [] l i (QS e (i+OT x.2.length) rl++r) (Nat.lt_succ_self _) (Nd _) (by omega) hu.1 (by intro h;cases h)
   rw [show (decide ((1:Nat)=0))=false from rfl] at h2
   have hp:(Sn (x.2.length+1) 1 x.2).length=OT x.2.length:=Td x.2
   rw [hp] at h2
   unfold W9
   rw [h2,Yd e1 e2 hb rl (i+OT x.2.length) x.1 _ r (by omega) (fun y c=>hx y (by simp [c])) hu.2.2]
   simp only [OC,Ui,Of,N6,Nl,List.singleton_append,On]
def ov (lost:List Bool):Nat->List QY->List QY->List QY
 | _,[],old=>old
 | _,_,[]=>[]
 | i,x::xs,o::os=>(if lost.getD i false then o else x)::ov lost (i+1) xs os
theorem Ndy {lost:List Bool} {i:Nat} {old:List QY}:ov lost i [] old=old:=by cases old<;>rfl
theorem Nh7 {lost:List Bool}:∀(a old:List QY) (i:Nat),(ov lost i a old).length=old.length
 | [],old,i=>by rw [Ndy]
 | x::xs,[],i=>rfl
 | x::xs,o::os,i=>by rw [ov,Nm,Nm,Nh7 xs os]
theorem Ndz {lost:List Bool}:∀(a old:List QY) (i j:Nat),a.length<=old.length->(ov lost i a old)[j]? = if j<a.length/\lost.getD (i+j) false=false then a[j]? else old[j]?
 | [],old,i,j,h=>by rw [Ndy];simp
 | x::xs,[],i,j,h=>by simp at h
 | x::xs,o::os,i,0,h=>by
   rw [ov]
   cases hl:lost.getD i false<;>simp [hl]
 | x::xs,o::os,i,j+1,h=>by
   rw [ov,Ou,Ndz xs os (i+1) j (by simpa using h)]
   simp only [Ou,Nm,Nat.add_lt_add_iff_right]
   rw [show i+1+j=i+(j+1) by omega]
theorem Zq {lost:List Bool}:∀(a b old:List QY) (i:Nat),a.length<=old.length->ov lost i (a++b) old=ov lost i a (old.take a.length)++ov lost (i+a.length) b (old.drop a.length)
 | [],b,old,i,h=>by simp [ov]
 | x::xs,b,[],i,h=>by simp at h
 | x::xs,b,o::os,i,h=>by
   rw [N1,ov,Zq xs b os (i+1) (by simpa using h)]
   simp only [Nm,P2,List.drop_succ_cons,ov,N1]
   rw [show i+1+xs.length=i+(xs.length+1) by omega]
theorem Nh8 {lost:List Bool}:∀(a old:List QY) (i:Nat),a.length=old.length->(∀j,j<a.length->lost.getD (i+j) false=false)->ov lost i a old=a
 | [],[],i,h,_=>rfl
 | x::xs,o::os,i,h,hl=>by
   rw [ov,Nh8 xs os (i+1) (by simpa using h) fun j b=>by rw [show i+1+j=i+(j+1) by omega];exact hl (j+1) (by simpa using b)]
   rw [show lost.getD i false=false from hl 0 (by simp)]
   simp
theorem Nfn {lost:List Bool}:∀(a old:List QY) (i q:Nat),a.length<=old.length->q<a.length->(∀j,j<q->lost.getD (i+j) false=false)->lost.getD (i+q) false=true->∃r r',old.drop q=gt old q::r/\ov lost i a old=a.take q++gt old q::r'/\r.length=r'.length/\∀j,j<r.length->gt r' j=gt r j\/gt r' j∈a
 | [],old,i,q,h,hq,_,_=>by simp at hq
 | x::xs,[],i,q,h,_,_,_=>by simp at h
 | x::xs,o::os,i,0,h,hq,hl,hl2=>by
   have h':xs.length<=os.length:=by simpa using h
   refine ⟨os,ov lost (i+1) xs os,rfl, ?_,(Nh7 _ _ _).symm,fun j b=>?_⟩
   ·rw [ov,show lost.getD i false=true from hl2];rfl
   ·have c:=Ndz (lost:=lost) xs os (i+1) j h'
    have e1:gt (ov lost (i+1) xs os) j=((ov lost (i+1) xs os)[j]?).getD default:=by unfold gt;rw [Na]
    rw [c] at e1
    split at e1
    ·rename_i hc
     refine .inr ?_
     rw [e1,Nf hc.1]
     simp
    ·refine .inl ?_
     rw [e1];unfold gt;rw [Na]
 | x::xs,o::os,i,q+1,h,hq,hl,hl2=>by
   obtain ⟨r,r',k1,k2,k3,d⟩:=Nfn xs os (i+1) q (by simpa using h) (by simpa using hq) (fun j b=>by rw [show i+1+j=i+(j+1) by omega];exact hl (j+1) (by omega)) (by rw [show i+1+q=i+(q+1) by omega];exact hl2)
   refine ⟨r,r',by rw [List.drop_succ_cons,Rz];exact k1, ?_,k3,fun j b=>(d j b).imp_right fun h=>by simp [h]⟩
   rw [ov,k2,show lost.getD i false=false from hl 0 (by omega),Rz]
   simp
structure Ar (e lf:Nat) (S:List QY) (rl:LR):Prop where
 lay:∃T,S=QS e 0 rl++T/\TF e (OC rl) T false (Ui 0 rl)=true/\∀j,j<T.length->VO e lf (OC rl+j) (gt T j)
 up:upL lf 0 rl
 short:∀x∈rl,x.2.length<2 ^ 20
 ne:rl≠[]
theorem Nc6 {e lf:Nat} (hl:lf<=1073741824):∀(f a:Nat) (b:List UInt8) (i:Nat),a<=1->∀s∈SF e lf i (Sn f a b),Ri s 4=lf
 | 0,_,_,_,_,s,h=>by simp [Sn,SF] at h
 | f+1,a,b,i,hf,s,h=>by
   simp only [Sn] at h
   split at h
   ·rename_i c
    simp only [SF,Nh,Np,or_false] at h
    rw [h,Si c (by omega)]
   ·simp only [SF,Nh] at h
    rcases h with h | h
    ·rw [h,Si (by show (b.take 18).length<=18;rw [N7];omega) (by omega)]
    ·exact Nc6 hl f 0 _ _ (by omega) s h
theorem Nax {lost:List Bool} {i:Nat}:∀n,(∀j,j<n->lost.getD (i+j) false=false)\/∃q,q<n/\(∀j,j<q->lost.getD (i+j) false=false)/\lost.getD (i+q) false=true
 | 0=>.inl fun j h=>by omega
 | n+1=>by
   rcases Nax (lost:=lost) (i:=i) n with h | ⟨q,h1,h2,a⟩
   ·cases hl:lost.getD (i+n) false with
    | true=>exact .inr ⟨n,by omega,h,hl⟩
    | false=>
      refine .inl fun j b=>?_
      rcases Ol j n with h1 | h1
      ·exact h j h1
      ·rw [show j=n by omega];exact hl
   ·exact .inr ⟨q,by omega,h2,a⟩
theorem Nkb {e lf:Nat} {lost:List Bool} (e1:1<=e) (e2:e<=1073741824) (l1:1<=lf) (l2:lf<=1073741824):∀(bs:LR) (i:Nat) (m life:Nat) (T:List QY),(∀x∈bs,x.1=lf/\x.2.length<2 ^ 20)->OC bs<=T.length->m+T.length<2 ^ 30->life<=lf->TF e m T false life=true->(∀j,j<T.length->VO e lf (m+j) (gt T j))->
  ∃k f,k<=bs.length/\ov lost i (QS e m bs) T=QS e m (bs.take k)++f/\TF e (m+OC (bs.take k)) f false (Ui life (bs.take k))=true/\
   ((∀j,j<OC bs->lost.getD (i+j) false=false)->k=bs.length/\f=T.drop (OC bs))
 | [],i,m,life,T,hb,hT,t,hl,hn,hs=>⟨0,T,Nd _,by rw [QS,Ndy];rfl,hn,fun _=>⟨rfl,rfl⟩⟩
 | x::bs,i,m,life,T,hb,hT,t,hl,hn,hs=>by
   obtain ⟨b,a⟩:=x
   obtain ⟨n,D⟩:=hb _ (Oy ..)
   simp only at n D
   subst n
   simp only [OC] at hT
   have c:(SF e b m (W9 a)).length=OT a.length:=by rw [Vm,Td]
   have v:=Zq (lost:=lost) (SF e b m (W9 a)) (QS e (m+OT a.length) bs) T i (by omega)
   have B:(T.take (OT a.length)).length=OT a.length:=by rw [N7];omega
   rcases Nax (lost:=lost) (i:=i) (OT a.length) with g | ⟨q,G,z,d⟩
   ·
    have F:∀j,j<(T.drop (OT a.length)).length->VO e b (m+OT a.length+j) (gt (T.drop (OT a.length)) j):=fun j p=>by
     have:=hs (OT a.length+j) (by rw [Ow] at p;omega)
     rw [<-On] at this
     rw [show gt (T.drop (OT a.length)) j=gt T (OT a.length+j) by unfold gt;rw [Na,Na,Pk]]
     exact this
    have u:TF e (m+OT a.length) (T.drop (OT a.length)) false b=true:=by
     cases hc:T.drop (OT a.length) with
     | nil=>rfl
     | cons s r=>
       have h0:=F 0 (by rw [hc];simp)
       rw [hc,RZ,Oq] at h0
       rw [TF,Yi h0];rfl
    obtain ⟨k,f,k1,k2,k3,E⟩:=Nkb e1 e2 l1 l2 bs (i+OT a.length) (m+OT a.length) b (T.drop (OT a.length)) (fun y o=>hb y (by simp [o])) (by rw [Ow];omega) (by rw [Ow];omega) (Nd _) u F
    refine ⟨k+1,f,by simp;omega, ?_, ?_,fun hl=>?_⟩
    ·rw [QS,v,c,Nh8 _ _ _ (by rw [c,B]) (by rw [c];exact g),k2,P2,QS,Nl]
    ·rw [P2,OC,Ui,<-On];exact k3
    ·have:=E fun j p=>by rw [On];exact hl (OT a.length+j) (by simp only [OC];omega)
     exact ⟨by rw [this.1];rfl,by rw [this.2,List.drop_drop];rfl⟩
   ·
    refine ⟨0,ov lost i (QS e m ((b,a)::bs)) T,N5 _,rfl, ?_,fun hl=>?_⟩
    ·show TF e m _ false life=true
     have w:q<(QS e m ((b,a)::bs)).length:=by rw [RD,OC];show q<OT a.length+_;omega
     obtain ⟨r,r',k1,k2,k3,E⟩:=Nfn (lost:=lost) (QS e m ((b,a)::bs)) T i q (by rw [RD];simp only [OC];omega) w z d
     rw [k2,QS,Qo (by rw [c];omega)]
     have A:q<T.length:=by omega
     by_cases h0:q=0
     ·subst h0
      rw [Og] at k1
      rw [Qc,N6]
      refine Nip (L:=b) (r:=r) k3 (by rw [<-k1];exact hn) (fun j p=>(E j p).imp_right fun t=>?_) (by rw [<-k1];exact hs)
      have key:∀(l:LR) (m:Nat),(∀x∈l,x.1=b)->∀s∈QS e m l,Ri s 4=b:=by
       intro l
       induction l with
       | nil=>intro m _ s h;simp [QS] at h
       | cons y l ih=>
         intro m o s h
         rw [QS,Ob] at h
         rcases h with h | h
         ·have:=Nc6 (e:=e) (lf:=y.1) (by rw [o y (by simp)];exact l2) _ 1 y.2 m (Nd _) s h
          rw [this];exact o y (by simp)
         ·exact ih _ (fun x C=>o x (by simp [C])) s h
      exact key _ _ (fun x C=>(hb x C).1) _ t
     ·have:=Ncu (e:=e) (lf:=b) e1 e2 l1 l2 (a.length+1) 1 a m life q (gt T q) r' (Nat.lt_succ_self _) (Nd _) (by omega) hl (by intro h;cases h) (by have hp:(Sn (a.length+1) 1 a).length=OT a.length:=Td a;omega) (by omega) (hs q A)
      exact this
    ·have:=hl q (by simp only [OC];omega)
     rw [this] at d;cases d
theorem Ar.recs {e lf:Nat} {S:List QY} {rl:LR} (h:Ar e lf S rl) (e1:1<=e) (e2:e<=1073741824) (l2:lf<=1073741824) (hS:S.length<2 ^ 30):recs S=(rl.map (·.2),OC rl)/\QA S=e:=by
 obtain ⟨T,k1,k2,k3⟩:=h.lay
 have he:QA S=e:=by
  rw [k1]
  match rl,h.ne,h.up,h.short with
  | x::r,_,hu,hx=>
    have:=hx x (by simp)
    have hl:=Nhj r _ hu.2.2
    rw [QS]
    unfold W9
    rw [Sn]
    split
    ·rename_i a
     exact Tt a (by omega)
    ·rw [SF]
     exact Tt (by show (x.2.take 18).length<=18;rw [N7];omega) (by omega)
 refine ⟨?_,he⟩
 have hl:OC rl<=S.length:=by rw [k1,Nj,RD];omega
 unfold Go.Proofs.YtancgcogjokfcaaGreatDoor.Fn.recs
 rw [he]
 have:=Yd (e:=e) (b:=lf) e1 e2 l2 rl 0 0 [] T (by omega) h.short h.up
 rw [k1,this,Nr,N6]
 exact WN _ _ _ _ _ _ _ k2
def OY (safe:List QY) (a:Nat):List QY:=(safe.drop (a*(safe.length / 2))).take (safe.length / 2)
theorem SG {safe:List QY} {a:Nat} (h:a<=1):(OY safe a).length=safe.length / 2:=by
 unfold OY
 rw [N7,Ow]
 rcases (show a=0\/a=1 by omega) with rfl | rfl<;>omega
theorem Nbi {pend:List Wr} {safe:List QY} {a:Nat}:TN pend safe a=OY (QQ [] pend safe) a:=by
 unfold TN OY XI
 rw [QX]
theorem Vt {safe:List QY} {a j:Nat} (b:j<safe.length / 2):(OY safe a)[j]? = safe[a*(safe.length / 2)+j]?:=by
 unfold OY
 rw [Pj,Nk b,Pk]
theorem YY {lost:List Bool} {base e lf:Nat}:∀(r:List (Nat×List UInt8)) (n i:Nat) (s:List QY) (k:Nat),k<r.length->base+n+r.length<=s.length->(RO lost i (Ru base e lf n r) s)[base+n+k]? = if lost.getD (i+k) false=false then (SF e lf n r)[k]? else s[base+n+k]?
 | [],n,i,s,k,h,_=>by simp at h
 | x::r,n,i,s,0,h,hs=>by
   have hl:(x::r).length=r.length+1:=rfl
   rw [Ru,RO,Oq,Oq,RX r (n+1) (i+1) _ _ (by omega),SF]
   have b:UF s.length ((base+n:Nat):Int)=true:=by unfold UF;rw [Nx];omega
   rw [b]
   cases hl:lost.getD i false with
   | true=>simp
   | false=>
     simp only [Bool.not_false,Bool.and_self,if_true,O1]
     show (s.set (base+n) (Un e lf n x))[base+n]? = _
     rw [Qy (by omega)]
     rfl
 | x::r,n,i,s,k+1,h,hs=>by
   have hl:(x::r).length=r.length+1:=rfl
   rw [Ru,RO,SF,Ou]
   have:=YY (lost:=lost) (base:=base) (e:=e) (lf:=lf) r (n+1) (i+1) (if UF s.length ((base+n:Nat):Int)&&!lost.getD i false then s.set ((base+n:Nat):Int).toNat (Un e lf n x) else s) k (by omega) (by
    have a:(if UF s.length ((base+n:Nat):Int)&&!lost.getD i false then s.set ((base+n:Nat):Int).toNat (Un e lf n x) else s).length=s.length:=by
     split
     ·rw [Pz]
     ·rfl
    rw [a];omega)
   rw [show base+(n+1)+k=base+n+(k+1) by omega,show i+1+k=i+(k+1) by omega] at this
   simp only at this⊢
   rw [this]
   split
   ·rfl
   ·split
    ·rw [P0 (by simp only [O1];omega)]
    ·rfl
theorem Na5 {lost:List Bool} {area e lf m:Nat} {r:List (Nat×List UInt8)} {safe:List QY} (a:area<=1) (c:m+r.length<=safe.length / 2) :
  OY (QQ lost (Ru (area*(safe.length / 2)) e lf m r) safe) area=(OY safe area).take m++ov lost 0 (SF e lf m r) ((OY safe area).drop m):=by
 have hb:area*(safe.length / 2)+safe.length / 2<=safe.length:=by rcases (show area=0\/area=1 by omega) with rfl | rfl<;>omega
 have hl:=SG (safe:=safe) a
 apply List.ext_getElem?
 intro j
 by_cases b:j<safe.length / 2
 ·rw [Vt (by rw [QX];exact b),QX]
  by_cases h1:j<m
  ·rw [Ny (by rw [N7];omega),Pj,Nk h1,Vt b]
   exact RX r m 0 safe _ (by omega)
  ·rw [N0 (by rw [N7];omega),N7,hl,Pd (by omega),Ndz _ _ _ _ (by rw [Vm,Ow];omega),Vm,Pk,Nat.add_sub_cancel' (by omega),Vt b,Nr]
   by_cases h2:j-m<r.length
   ·have:=YY (lost:=lost) (base:=area*(safe.length / 2)) (e:=e) (lf:=lf) r m 0 safe (j-m) h2 (by omega)
    rw [show area*(safe.length / 2)+m+(j-m)=area*(safe.length / 2)+j by omega,Nr] at this
    unfold QQ
    rw [this]
    simp only [h2,Qr]
   ·rw [Ni (by omega)]
    exact RX r m 0 safe _ (by omega)
 ·rw [Nv (by rw [SG a,QX];omega),Nv (by rw [Nj,N7,Nh7,Ow];omega)]
theorem Mc {lost:List Bool} {area e lf m:Nat} {r:List (Nat×List UInt8)} {safe:List QY} (b:area<=1) (c:m+r.length<=safe.length / 2) :
  OY (QQ lost (Ru (area*(safe.length / 2)) e lf m r) safe) (1-area)=OY safe (1-area):=by
 apply List.ext_getElem?
 intro j
 by_cases a:j<safe.length / 2
 ·rw [Vt (by rw [QX];exact a),QX,Vt a]
  refine RX r m 0 safe _ ?_
  rcases (show area=0\/area=1 by omega) with rfl | rfl
  ·simp only [Nat.sub_zero,Nat.one_mul,Ov];omega
  ·simp only [Qg,Nat.one_mul,Ov];omega
 ·rw [Nv (by rw [SG (by omega),QX];omega),Nv (by rw [SG (by omega)];omega)]
def XA (bs:LR):List (Nat×List UInt8):=bs.flatMap fun x=>W9 x.2
theorem VK:∀(bs:LR),(XA bs).length=OC bs
 | []=>rfl
 | x::bs=>by
   have:=VK bs
   unfold XA at this⊢
   rw [Oh,Nj,this,Td,OC]
theorem Ndc {e lf:Nat}:∀(bs:LR) (m:Nat),(∀x∈bs,x.1=lf)->SF e lf m (XA bs)=QS e m bs
 | [],m,_=>rfl
 | x::bs,m,h=>by
   have:=Ndc (e:=e) (lf:=lf) bs (m+OT x.2.length) fun y a=>h y (by simp [a])
   unfold XA at this⊢
   rw [Oh,ZY,Td,this,QS,h x (by simp)]
theorem Nno {bs:LR} {x:Nat×List UInt8}:XA (bs++[x])=XA bs++W9 x.2:=by simp [XA]
def S9 (S:List QY) (a lf:Nat):Prop:=∀j,j<S.length->QH (gt S j) j=true->Ri (gt S j) 0<a/\Ri (gt S j) 4<=lf
theorem S9.mono {S:List QY} {b a lf lf':Nat} (h:S9 S b lf) (he:b<=a) (hl:lf<=lf'):S9 S a lf':=fun j c d=>by
 have:=h j c d;omega
theorem Ye {e lf:Nat} (e2:e<=1073741824) (l2:lf<=1073741824):∀(f a:Nat) (b:List UInt8) (i:Nat),a<=1->∀s∈SF e lf i (Sn f a b),Ri s 0=e/\Ri s 4=lf
 | 0,_,_,_,_,s,h=>by simp [Sn,SF] at h
 | f+1,a,b,i,hf,s,h=>by
   simp only [Sn] at h
   split at h
   ·rename_i c
    simp only [SF,Nh,Np,or_false] at h
    rw [h,Si c (by omega),Tt c (by omega)]
    exact ⟨rfl,rfl⟩
   ·have d:(a,b.take 18).2.length<=18:=by show (b.take 18).length<=18;rw [N7];omega
    simp only [SF,Nh] at h
    rcases h with h | h
    ·rw [h,Si d (by omega),Tt d (by omega)]
     exact ⟨rfl,rfl⟩
    ·exact Ye e2 l2 f 0 _ _ (by omega) s h
theorem Ml {e lf:Nat} (e2:e<=1073741824) (l2:lf<=1073741824):∀(bs:LR) (i:Nat),(∀x∈bs,x.1=lf)->∀s∈QS e i bs,Ri s 0=e/\Ri s 4=lf
 | [],i,_,s,h=>by simp [QS] at h
 | x::bs,i,hb,s,h=>by
   rw [QS,Ob,hb x (by simp)] at h
   rcases h with h | h
   ·exact Ye e2 l2 _ 1 _ _ (Nd _) s h
   ·exact Ml e2 l2 bs _ (fun y a=>hb y (by simp [a])) s h
theorem ZQ {e b:Nat} (e1:1<=e) (e2:e<=1073741824) (hb:b<=1073741824):∀(rl:LR) (i l:Nat),i+OC rl<2 ^ 30->(∀x∈rl,x.2.length<2 ^ 20)->upL b l rl->rl≠[]->∃j,j<(QS e i rl).length/\QH (gt (QS e i rl) j) (i+j)=true/\Ri (gt (QS e i rl) j) 4=Ui l rl
 | [],i,l,_,_,_,h=>absurd rfl h
 | x::rl,i,l,hi,hx,hu,_=>by
   have a:(SF e x.1 i (W9 x.2)).length=OT x.2.length:=by rw [Vm,Td]
   simp only [OC] at hi
   cases rl with
   | nil=>
     have h1:x.1<=b:=hu.2.2
     have d:0<OT x.2.length:=by unfold OT;omega
     refine ⟨0,by rw [RD,OC];omega, ?_⟩
     rw [QS,QW (by omega)]
     show QH (gt (SF e x.1 i (Sn (x.2.length+1) 1 x.2)) 0) (i+0)=true/\Ri (gt (SF e x.1 i (Sn (x.2.length+1) 1 x.2)) 0) 4=x.1
     rw [Sn]
     have:=hu.2.1
     split
     ·rename_i c
      rw [SF,RZ]
      exact ⟨VX c (by show 1+2<=3;omega) (by show 1+2<2->_;omega) e1 e2 hu.2.1 (by omega) (by omega),Si c (by omega)⟩
     ·have g:(x.2.take 18).length=18:=by rw [N7];omega
      rw [SF,RZ]
      exact ⟨VX (by show (x.2.take 18).length<=18;omega) (by show 1<=3;omega) (fun _=>g) e1 e2 hu.2.1 (by omega) (by omega),Si (by show (x.2.take 18).length<=18;omega) (by omega)⟩
   | cons y rl=>
     obtain ⟨j,h1,h2,f⟩:=ZQ e1 e2 hb (y::rl) (i+OT x.2.length) x.1 (by omega) (fun z k=>hx z (by simp [k])) hu.2.2 (by simp)
     refine ⟨OT x.2.length+j,by rw [QS,Nj,a];omega, ?_⟩
     rw [QS,<-a,Rl,a]
     exact ⟨by rw [<-On];exact h2,f⟩
structure KD (area e lf:Nat) (safe:List QY) (rl:LR):Prop where
 ar:Ar e lf (OY safe area) rl
 cur:S9 (OY safe area) (e+1) lf
 oth:S9 (OY safe (1-area)) e lf
 e1:1<=e
 e2:e<=1073741824
 l1:1<=lf
 l2:lf<=1073741824
 a1:area<=1
 sz:safe.length<2 ^ 20
structure KO (area e lf:Nat) (safe:List QY) (rl:LR):Prop where
 lay:∃T,OY safe area=QS e 0 rl++T/\TF e (OC rl) T false (Ui 0 rl)=true
 up:upL lf 0 rl
 short:∀x∈rl,x.2.length<2 ^ 20
 ne:rl≠[]
 cur:S9 (OY safe area) (e+1) lf
 oth:S9 (OY safe (1-area)) e lf
 e1:1<=e
 e2:e<=1073741824
 l1:1<=lf
 l2:lf<=1073741824
 a1:area<=1
 sz:safe.length<2 ^ 20
theorem KD.ko {area e lf:Nat} {safe:List QY} {rl:LR} (h:KD area e lf safe rl):KO area e lf safe rl:=by
 obtain ⟨T,k1,k2,_⟩:=h.ar.lay
 exact ⟨⟨T,k1,k2⟩,h.ar.up,h.ar.short,h.ar.ne,h.cur,h.oth,h.e1,h.e2,h.l1,h.l2,h.a1,h.sz⟩
theorem KD.recs {area e lf:Nat} {safe:List QY} {rl:LR} (h:KD area e lf safe rl):recs (OY safe area)=(rl.map (·.2),OC rl):=
 (h.ar.recs h.e1 h.e2 h.l2 (by rw [SG h.a1];have:=h.sz;omega)).1
theorem XB {b:Nat}:∀(bs rl:LR) (l:Nat),upL b l rl->(∀x∈bs,x.1=b)->1<=b->upL b l (rl++bs)
 | [],rl,l,h,_,_=>by rw [Nb];exact h
 | x::bs,rl,l,h,hx,hb=>by
   have e1:rl++x::bs=(rl++[x])++bs:=by simp
   rw [e1]
   refine XB bs _ l (MH rl l x ?_ (by rw [hx x (by simp)];exact hb) (by rw [hx x (by simp)];exact Nd _)) (fun y a=>hx y (by simp [a])) hb
   rw [hx x (by simp)];exact h
theorem UN:∀(rl bs:LR) (l:Nat),Ui l (rl++bs)=Ui (Ui l rl) bs
 | [],bs,l=>rfl
 | x::rl,bs,l=>by rw [N1,Ui,UN rl bs];rfl
theorem Nl7 {lost:List Bool} {a old:List QY} {i j:Nat} (hl:a.length<=old.length) (c:j<old.length):gt (ov lost i a old) j=gt old j\/gt (ov lost i a old) j∈a:=by
 have b:=Ndz (lost:=lost) a old i j hl
 have e1:gt (ov lost i a old) j=((ov lost i a old)[j]?).getD default:=by unfold gt;rw [Na]
 rw [b] at e1
 split at e1
 ·rename_i hc
  refine .inr ?_
  rw [e1,Nf hc.1]
  simp
 ·refine .inl ?_
  rw [e1];unfold gt;rw [Na]
theorem KD.crash {area e lf:Nat} {safe:List QY} {rl bs:LR} {lost:List Bool} (h:KD area e lf safe rl) (hb:∀x∈bs,x.1=lf/\x.2.length<2 ^ 20) (L:OC rl+OC bs<=safe.length / 2) :
  ∃k,k<=bs.length/\KO area e lf (QQ lost (Ru (area*(safe.length / 2)) e lf (OC rl) (XA bs)) safe) (rl++bs.take k)/\
   ((∀j,j<OC bs->lost.getD j false=false)->k=bs.length/\KD area e lf (QQ lost (Ru (area*(safe.length / 2)) e lf (OC rl) (XA bs)) safe) (rl++bs)):=by
 have a1:=h.a1
 have Q:=h.sz
 have e1:=h.e1
 have e2:=h.e2
 have l1:=h.l1
 have l2:=h.l2
 obtain ⟨T,k1,k2,k3⟩:=h.ar.lay
 have t:=SG (safe:=safe) a1
 have P:OC rl+T.length=safe.length / 2:=by rw [<-t,k1,Nj,RD]
 have v:=Na5 (lost:=lost) (e:=e) (lf:=lf) (m:=OC rl) (r:=XA bs) (safe:=safe) a1 (by rw [VK];exact L)
 have J:=Mc (lost:=lost) (e:=e) (lf:=lf) (m:=OC rl) (r:=XA bs) (safe:=safe) a1 (by rw [VK];exact L)
 have y:(QQ lost (Ru (area*(safe.length / 2)) e lf (OC rl) (XA bs)) safe).length=safe.length:=QX
 generalize QQ lost (Ru (area*(safe.length / 2)) e lf (OC rl) (XA bs)) safe=c at v J y⊢
 rw [Ndc bs _ fun x hx=>(hb x hx).1] at v
 have q:(OY safe area).drop (OC rl)=T:=by rw [k1];rw [<-RD (e:=e) rl 0,List.drop_left]
 have u:(OY safe area).take (OC rl)=QS e 0 rl:=by rw [k1];rw [<-RD (e:=e) rl 0,List.take_left]
 rw [q,u] at v
 obtain ⟨V,U⟩:=MG rl 0 h.ar.up
 obtain ⟨k,I,R,G,H,S⟩:=Nkb (lost:=lost) e1 e2 l1 l2 bs 0 (OC rl) (Ui 0 rl) T hb (by omega) (by omega) U k2 k3
 have D:∀n,∀x∈rl++bs.take n,x.2.length<2 ^ 20:=fun n x hx=>by
  rcases Ob.1 hx with hx | hx
  ·exact h.ar.short x hx
  ·exact (hb x (Ps hx)).2
 have E:∀n,upL lf 0 (rl++bs.take n):=fun n=>XB _ _ _ h.ar.up (fun x hx=>(hb x (Ps hx)).1) l1
 have C:∀n,rl++bs.take n≠[]:=fun n K=>h.ar.ne (by simp at K;exact K.1)
 have f:S9 (OY c area) (e+1) lf:=fun j w b=>by
  have z:j<safe.length / 2:=by rw [SG a1,y] at w;exact w
  rw [v] at b⊢
  rcases Ol j (OC rl) with B | hge
  ·have e3:gt (QS e 0 rl++ov lost 0 (QS e (OC rl) bs) T) j=gt (OY safe area) j:=by
    rw [k1,QW (by rw [RD];exact B),QW (by rw [RD];exact B)]
   rw [e3] at b⊢
   exact h.cur j (by rw [t];exact z) b
  ·obtain ⟨d,rfl⟩:∃d,j=OC rl+d:=⟨j-OC rl,by omega⟩
   have e3:gt (QS e 0 rl++ov lost 0 (QS e (OC rl) bs) T) (OC rl+d)=gt (ov lost 0 (QS e (OC rl) bs) T) d:=by
    rw [<-RD (e:=e) rl 0,Rl]
   rw [e3] at b⊢
   rcases Nl7 (lost:=lost) (a:=QS e (OC rl) bs) (old:=T) (i:=0) (j:=d) (by rw [RD];omega) (by omega) with hm1 | hm1
   ·rw [hm1] at b⊢
    have O:gt (OY safe area) (OC rl+d)=gt T d:=by rw [k1,<-RD (e:=e) rl 0,Rl]
    have:=h.cur (OC rl+d) (by rw [t];exact z)
    rw [O] at this
    exact this b
   ·have:=Ml e2 l2 bs _ (fun x hx=>(hb x hx).1) _ hm1
    omega
 have l:S9 (OY c (1-area)) e lf:=by rw [J];exact h.oth
 have A:∀n,OC (rl++bs.take n)=OC rl+OC (bs.take n):=fun n=>RY _ _
 refine ⟨k,R,⟨⟨I, ?_, ?_⟩,E k,D k,C k,f,l,e1,e2,l1,l2,a1,by omega⟩,fun hl=>?_⟩
 ·rw [v,G,VZ,Nr,Nl]
 ·rw [A,UN];exact H
 ·obtain ⟨M,N⟩:=S fun j w=>by rw [Nr];exact hl j w
  refine ⟨M, ?_⟩
  have s:bs.take k=bs:=by rw [M];exact Pn
  have F:=A k
  have p:=E k
  have o:=D k
  have g:=C k
  rw [s] at G H F p o g
  refine ⟨⟨⟨I, ?_, ?_,fun j w=>?_⟩,p,o,g⟩,f,l,e1,e2,l1,l2,a1,by omega⟩
  ·rw [v,G,VZ,Nr,Nl]
  ·rw [F,UN];exact H
  ·rw [F]
   have:=k3 (OC bs+j) (by rw [N,Ow] at w;omega)
   rw [<-On] at this
   rw [N,show gt (T.drop (OC bs)) j=gt T (OC bs+j) by unfold gt;rw [Na,Na,Pk]]
   exact this
theorem KD.sync {area e lf:Nat} {safe:List QY} {rl bs:LR} (h:KD area e lf safe rl) (hb:∀x∈bs,x.1=lf/\x.2.length<2 ^ 20) (b:OC rl+OC bs<=safe.length / 2):KD area e lf (QQ [] (Ru (area*(safe.length / 2)) e lf (OC rl) (XA bs)) safe) (rl++bs):=by
 obtain ⟨k,_,_,a⟩:=h.crash (lost:=[]) hb b
 exact (a fun j _=>by simp).2
theorem M5:∀(a:List QY) (i:Nat) (x:Nat×Nat),x.2<=(Vl i a x).2/\∀j,j<a.length->QH (gt a j) (i+j)=true->Ri (gt a j) 4<=(Vl i a x).2
 | [],i,x=>⟨Nd _,fun j h=>by simp at h⟩
 | s::r,i,x=>by
   rw [Vl]
   obtain ⟨h1,h2⟩:=M5 r (i+1) (if QH s i then (max x.1 (Ri s 0),max x.2 (Ri s 4)) else x)
   refine ⟨Qa ?_ h1,fun j c b=>?_⟩
   ·split
    ·exact Px _ _
    ·exact Nd _
   ·match j,c,b with
    | 0,c,b=>
      rw [RZ,Oq] at b
      rw [RZ]
      rw [Nk b] at h1⊢
      exact Qa (O7 x.2 _) h1
    | j+1,c,b=>
      rw [Rz] at b⊢
      exact h2 j (by simpa using c) (by rw [show i+1+j=i+(j+1) by omega];exact b)
theorem Nef {b:Nat}:∀(a:List QY) (i:Nat) (x:Nat×Nat),x.2<=b->(∀j,j<a.length->QH (gt a j) (i+j)=true->Ri (gt a j) 4<=b)->(Vl i a x).2<=b
 | [],i,x,h,_=>h
 | s::r,i,x,h,ha=>by
   rw [Vl]
   refine Nef r (i+1) _ ?_ fun j d c=>?_
   ·split
    ·rename_i c
     exact Nat.max_le.2 ⟨h,ha 0 (by simp) c⟩
    ·exact h
   ·have:=ha (j+1) (by simpa using d)
    rw [Rz] at this
    exact this (by rw [show i+(j+1)=i+1+j by omega];exact c)
theorem Ncs {safe:List QY}:QQ [] [] safe=safe:=rfl
theorem Nia {safe:List QY}:opA safe=OY safe 0:=by unfold opA;rw [Nbi,Ncs]
theorem Nh9 {safe:List QY}:Nfp safe=OY safe 1:=by unfold Nfp;rw [Nbi,Ncs]
theorem Nfo {a:List QY} {e lf:Nat} (h:S9 a e lf) (hr:0<(recs a).1.length):QA a<e:=by
 match a,h,hr with
 | [],_,hr=>simp [recs,TL] at hr
 | s::r,h,hr=>
   unfold recs at hr
   rw [TL] at hr
   split at hr
   ·rename_i b
    simp only [Sj,Nq,Nx] at b
    exact (h 0 (by simp) b.1.1.1.1).1
   ·simp at hr
theorem WS {i:Nat} {a:List QY} {x:OpS} (h1:0<(recs a).1.length) (h2:x.1=false\/x.2.2.1<QA a):QU i a x=(true,i,QA a,(recs a).2):=by
 unfold QU Uh
 rw [Nk]
 rcases h2 with h2 | h2<;>simp [h1,h2]
theorem YI {i:Nat} {a:List QY} {x:OpS} (h:0<(recs a).1.length->x.1=true/\¬x.2.2.1<QA a):QU i a x=x:=by
 unfold QU Uh
 by_cases h1:0<(recs a).1.length
 ·have:=h h1
  rw [Ni]
  simp [h1,this]
 ·rw [Ni]
  simp only [h1,decide_false,Bool.false_and]
  decide
theorem KO.opened {area e lf:Nat} {safe:List QY} {rl:LR} (h:KO area e lf safe rl):opX safe=(true,area,e,OC rl)/\(VV safe).2<=lf/\((VV safe).2<1073741824->KD area e ((VV safe).2+1) safe rl):=by
 have a1:=h.a1
 have e1:=h.e1
 have e2:=h.e2
 have l2:=h.l2
 have s:=h.sz
 obtain ⟨T,k1,k2⟩:=h.lay
 have p:=SG (safe:=safe) a1
 have y:=SG (safe:=safe) (a:=1-area) (by omega)
 have A:OC rl<=safe.length / 2:=by rw [<-p,k1,Nj,RD];omega
 have g:∀a,a<=1->∀j,j<(OY safe a).length->QH (gt (OY safe a) j) j=true->Ri (gt (OY safe a) j) 4<=(VV safe).2:=fun a v j f d=>by
  unfold VV
  rw [Nia,Nh9]
  rcases (show a=0\/a=1 by omega) with rfl | rfl
  ·exact Qa ((M5 (OY safe 0) 0 (0,0)).2 j f (by rw [Nr];exact d)) (M5 _ _ _).1
  ·exact (M5 (OY safe 1) 0 _).2 j f (by rw [Nr];exact d)
 have m:∀a,a<=1->∀j,j<(OY safe a).length->QH (gt (OY safe a) j) (0+j)=true->Ri (gt (OY safe a) j) 4<=lf:=fun a v j f d=>by
  rw [Nr] at d
  rcases (show a=area\/a=1-area by omega) with rfl | rfl
  ·exact (h.cur j f d).2
  ·exact (h.oth j f d).2
 have w:(VV safe).2<=lf:=by
  unfold VV
  rw [Nia,Nh9]
  exact Nef _ _ _ (Nef _ _ _ (N5 _) (m 0 (by omega))) (m 1 (by omega))
 obtain ⟨j,B,t,C⟩:=ZQ e1 e2 l2 rl 0 0 (by omega) h.short h.up h.ne
 have q:Ui 0 rl<=(VV safe).2:=by
  have:=g area a1 j (by rw [k1,Nj];omega)
  rw [k1,QW B,C] at this
  rw [Nr] at t
  exact this t
 obtain ⟨u,D⟩:=MG rl 0 h.up
 have k:Ar e ((VV safe).2+1) (OY safe area) rl:=⟨⟨T,k1,k2,fun j f d _=>by
  have:=g area a1 (OC rl+j) (by rw [k1,Nj,RD];omega)
  have e3:gt (OY safe area) (OC rl+j)=gt T j:=by rw [k1,<-RD (e:=e) rl 0,Rl]
  rw [e3] at this
  have:=this d
  omega⟩,Nev (by omega) _ _ u,h.short,h.ne⟩
 have c:recs (OY safe area)=(rl.map (·.2),OC rl)/\QA (OY safe area)=e:=by
  rcases Ol (VV safe).2 1073741824 with hb | hb
  ·exact k.recs e1 e2 (by omega) (by omega)
  ·have z:(VV safe).2=1073741824:=by omega
   have he:Ui 0 rl<=1073741824:=by omega
   have hl:=Yd (e:=e) (b:=Ui 0 rl) e1 e2 he rl 0 0 [] T (by omega) h.short u
   have l:QA (OY safe area)=e:=by
    rw [k1]
    match rl,h.ne,h.up,h.short with
    | x::r,_,hu,hx=>
      rw [QS]
      unfold W9
      rw [Sn]
      split
      ·rename_i o
       exact Tt o (by omega)
      ·rw [SF]
       exact Tt (by show (x.2.take 18).length<=18;rw [N7];omega) (by omega)
   refine ⟨?_,l⟩
   unfold Go.Proofs.YtancgcogjokfcaaGreatDoor.Fn.recs
   rw [l,k1,hl,Nr,N6]
   exact WN _ _ _ _ _ _ _ k2
 have i:0<(recs (OY safe area)).1.length:=by
  rw [c.1]
  have:=List.length_pos_iff.2 h.ne
  simpa using this
 have n:=Nfo h.oth
 refine ⟨?_,w,fun hb=>⟨k,fun j f d=>?_,fun j f d=>?_,e1,e2,by omega,by omega,a1,s⟩⟩
 ·unfold opX
  rw [Nia,Nh9]
  rcases (show area=0\/area=1 by omega) with rfl | rfl
  ·rw [WS i (.inl rfl),YI,c.1,c.2]
   intro hr
   refine ⟨rfl, ?_⟩
   have:=n hr
   rw [c.2]
   simp only [Nat.sub_zero] at this⊢
   omega
  ·rw [WS (a:=OY safe 1) i,c.1,c.2]
   by_cases hr:0<(recs (OY safe 0)).1.length
   ·rw [WS hr (.inl rfl),c.2]
    exact .inr (n hr)
   ·rw [YI fun h=>absurd h hr]
    exact .inl rfl
 ·exact ⟨(h.cur j f d).1,Nat.le_succ_of_le (g area a1 j f d)⟩
 ·exact ⟨(h.oth j f d).1,Nat.le_succ_of_le (g (1-area) (by omega) j f d)⟩
theorem KD.fresh {area e lf:Nat} {safe:List QY} {b:List UInt8} (e1:1<=e) (e2:e<=1073741824) (l1:1<=lf) (l2:lf<=1073741824) (a1:area<=1) (B:safe.length<2 ^ 20) (u:S9 (OY safe area) e lf) (y:S9 (OY safe (1-area)) e lf) (hb:OT b.length<=safe.length / 2) (k:b.length<2 ^ 20) :
  KD area e lf (QQ [] (Ru (area*(safe.length / 2)) e lf 0 (W9 b)) safe) [(lf,b)]:=by
 have z:=SG (safe:=safe) a1
 have h1:=Na5 (lost:=[]) (e:=e) (lf:=lf) (m:=0) (r:=W9 b) (safe:=safe) a1 (by rw [Td];omega)
 have h2:=Mc (lost:=[]) (e:=e) (lf:=lf) (m:=0) (r:=W9 b) (safe:=safe) a1 (by rw [Td];omega)
 have n:(QQ [] (Ru (area*(safe.length / 2)) e lf 0 (W9 b)) safe).length=safe.length:=QX
 generalize QQ [] (Ru (area*(safe.length / 2)) e lf 0 (W9 b)) safe=f at h1 h2 n⊢
 rw [Qc,Og,N6] at h1
 have o:(SF e lf 0 (W9 b)).length=OT b.length:=by rw [Vm,Td]
 have q:ov [] 0 (SF e lf 0 (W9 b)) (OY safe area)=SF e lf 0 (W9 b)++(OY safe area).drop (OT b.length):=by
  have t:=Zq (lost:=[]) (SF e lf 0 (W9 b)) [] (OY safe area) 0 (by omega)
  rw [Nb] at t
  rw [t,Ndy,Nh8 _ _ _ (by rw [N7];omega) (fun j _=>by simp),o]
 rw [q] at h1
 have p:OC [(lf,b)]=OT b.length:=rfl
 have v:∀j,j<((OY safe area).drop (OT b.length)).length->gt ((OY safe area).drop (OT b.length)) j=gt (OY safe area) (OT b.length+j):=fun j a=>by
  unfold gt;rw [Na,Na,Pk]
 have h:∀j,j<((OY safe area).drop (OT b.length)).length->VO e lf (OT b.length+j) (gt ((OY safe area).drop (OT b.length)) j):=fun j a c he=>by
  rw [v j a] at c he
  rw [Ow] at a
  have:=u (OT b.length+j) (by omega) c
  omega
 have g:S9 (OY f area) (e+1) lf:=fun j a c=>by
  rw [h1] at a c⊢
  rw [Nj,o] at a
  rcases Ol j (OT b.length) with A | hge
  ·rw [QW (by omega)] at c⊢
   have:=Ye e2 l2 (b.length+1) 1 b 0 (Nd _) _ (Xb (l:=SF e lf 0 (W9 b)) (i:=j) (by omega))
   omega
  ·obtain ⟨d,rfl⟩:∃d,j=OT b.length+d:=⟨j-OT b.length,by omega⟩
   have e3:gt (SF e lf 0 (W9 b)++(OY safe area).drop (OT b.length)) (OT b.length+d)=gt (OY safe area) (OT b.length+d):=by
    rw [<-v d (by omega)]
    rw [<-o,Rl]
   rw [e3] at c⊢
   rw [Ow] at a
   have:=u _ (by omega) c
   omega
 refine ⟨⟨⟨(OY safe area).drop (OT b.length), ?_, ?_,h⟩,⟨N5 _,l1,Nd _⟩, ?_,by simp⟩,g,by rw [h2];exact y,e1,e2,l1,l2,a1,by omega⟩
 ·rw [h1];simp [QS]
 ·rw [p]
  show TF e (OT b.length) _ false lf=true
  cases hc:(OY safe area).drop (OT b.length) with
  | nil=>rfl
  | cons s r=>
    have h0:=h 0 (by rw [hc];simp)
    rw [hc,RZ,Oq] at h0
    rw [TF,Yi h0];rfl
 ·intro x w
  simp only [Ng] at w
  subst w
  exact k
theorem KD.begun (n:Nat) (hn:4<=n) (h2:n<2 ^ 20):KD 0 1 1 (Ne7 n) [(1,[])]:=by
 have key:∀a,S9 (OY (List.replicate n V7) a) 1 1:=fun a j d c=>by
  have:gt (OY (List.replicate n V7) a) j=V7:=by
   have:=Xb d
   unfold OY at this
   exact List.eq_of_mem_replicate (List.mem_of_mem_drop (Ps this))
  rw [this,Zf] at c
  cases c
 have:=KD.fresh (area:=0) (e:=1) (lf:=1) (safe:=List.replicate n V7) (b:=[]) (by omega) (by omega) (by omega) (by omega) (by omega) (by rw [Ph];exact h2) (key 0) (key 1) (by rw [Ph];show OT 0<=n / 2;unfold OT;omega) (by simp)
 rw [Ov] at this
 exact this
structure RowsR (G:NB) (p:Option Addr) (ds:List Vw) (l:List (List UInt8)):Prop where
 sl:Sl G Uy 1 p ds
 len:ds.length=l.length
 row:∀k,k<l.length->(gt ds k).2.1=(gt l k).length/\Sl G Uf 1 (gt ds k).1 (gt l k)
theorem RowsR.ext {G G':NB} {p:Option Addr} {ds:List Vw} {l:List (List UInt8)} (h:RowsR G p ds l) (he:QL G G'):RowsR G' p ds l:=
 ⟨he.sl h.sl,h.len,fun k a=>⟨(h.row k a).1,he.sl (h.row k a).2⟩⟩
theorem Njg {d:Vw}:(Uy d)[0]? = some (.slice d.1 d.2.1 d.2.2):=id rfl
structure Mod (h0:Nat) (G:NB) (R cq:Nat) (ds:List Vw) (l:List (List UInt8)) (A:List Nat):Prop where
 blkR:∃rest,NF G R=Vc (ds.flatMap Uy++rest)
 cap:cq=loose 1\/(cq=1/\l.length=1)
 pos:0<l.length
 len:ds.length=l.length
 row:∀k,k<l.length->(gt ds k).2.1=(gt l k).length/\Sl G Uf 1 (gt ds k).1 (gt l k)/\∀a,(gt ds k).1=some a->a.block∉A/\a.block≠R/\h0<=a.block
 lo:h0<=R
 out:R∉A
theorem Nc5 (ds:List Vw):(ds.flatMap Uy).length=ds.length:=by rw [QJ TM,N8]
theorem Mod.chg {h0:Nat} {G G':NB} {R cq:Nat} {ds:List Vw} {l:List (List UInt8)} {A B:List Nat} (h:Mod h0 G R cq ds l A) (hc:Chg B G G') (e:∀j∈B,j∈A\/j<h0):Mod h0 G' R cq ds l A:=by
 obtain ⟨rest,hr⟩:=h.blkR
 have b:∀j,j∉A->h0<=j->j∉B:=fun j h1 h2 d=>by rcases e j d with h4 | h4;exact h1 h4;omega
 refine ⟨⟨rest,hc.cells hr (b _ h.out h.lo)⟩,h.cap,h.pos,h.len,fun k f=>?_,h.lo,h.out⟩
 obtain ⟨k1,k2,k3⟩:=h.row k f
 exact ⟨k1,hc.sl k2 fun a c _=>b _ (k3 a c).1 (k3 a c).2.2,k3⟩
theorem Mod.cut {h0:Nat} {G:NB} {R cq:Nat} {ds:List Vw} {l:List (List UInt8)} {A:List Nat} (h:Mod h0 G R cq ds l A) {k:Nat} (c:0<k) (b:k<=l.length):Mod h0 G R cq (ds.take k) (l.take k) A:=by
 obtain ⟨rest,hr⟩:=h.blkR
 have hl:=h.len
 refine ⟨⟨(ds.drop k).flatMap Uy++rest, ?_⟩, ?_,by rw [N7];omega,by rw [N7,N7,hl],fun j a=>?_,h.lo,h.out⟩
 ·rw [hr,<-Nl,<-P5,Pe]
 ·rcases h.cap with h1 | ⟨h1,h2⟩
  ·exact .inl h1
  ·refine .inr ⟨h1, ?_⟩
   rw [N7];omega
 ·rw [N7] at a
  have e1:gt (ds.take k) j=gt ds j:=by unfold gt;rw [Na,Na,Pj,Nk (by omega)]
  have e2:gt (l.take k) j=gt l j:=by unfold gt;rw [Na,Na,Pj,Nk (by omega)]
  rw [e1,e2]
  exact h.row j (by omega)
theorem Mod.snoc {h0 lim:Nat} {G:NB} {R cq:Nat} {ds:List Vw} {l:List (List UInt8)} {A:List Nat} (h:Mod h0 G R cq ds l A) (w:lim<=h0) {q:Option Addr} {c:Nat} {r:List UInt8} (E:Sl G Uf 1 q r) (s:∀a,q=some a->a.block∉A/\a.block≠R/\h0<=a.block/\a.block<G.length) (u:∀k,k<l.length->∀a,(gt ds k).1=some a->a.block<G.length) (y:∀j∈A,j<G.length) (hl:l.length<2 ^ 30) (H:h0<=G.length) (X:NB) (b k:Nat) (F:NF (G++X) b=Vc (Uy (q,r.length,c))) :
  ∃f,OH lim none 1 24 false (.slice (Sa R) l.length cq) (.slice (Sa b) 1 k) (G++X)=some (.slice (Sa (G.length+X.length)) (l.length+1) (loose 1),f)/\Mod h0 f (G.length+X.length) (loose 1) (ds++[(q,r.length,c)]) (l++[r]) A/\Chg [R] G f/\f.length=G.length+X.length+1:=by
 obtain ⟨rest,hr⟩:=h.blkR
 have p:=NJ hr
 have x:=h.pos
 have e:=h.len
 have D:=h.lo
 have hb:AM.loadCells (G++X) ⟨b,0,none⟩ (1*1)=some (Uy (q,r.length,c)):=by
  rw [NW,F];rfl
 have o:NF (G++X) R=Vc (ds.flatMap Uy++rest):=by rw [NZ p];exact hr
 have g:AM.loadCells (G++X) ⟨R,0,none⟩ (l.length*1)=some (ds.flatMap Uy):=by
  rw [NW,o]
  simp only [Nr,Og,N8,Nj,Nc5]
  rw [Nk (by omega),<-e,<-Nc5 ds,List.take_left]
 have m:(ds++[(q,r.length,c)]).flatMap Uy=ds.flatMap Uy++Uy (q,r.length,c):=by simp
 have fin:∀f:NB,Chg [R] G f->NF f (G.length+X.length)=Vc (ds.flatMap Uy++Uy (q,r.length,c))->Mod h0 f (G.length+X.length) (loose 1) (ds++[(q,r.length,c)]) (l++[r]) A:=fun f v z=>by
  refine ⟨⟨[],by rw [Nb,m];exact z⟩,.inl rfl,by simp,by simp [e],fun j C=>?_,by omega,fun B=>by have:=y _ B;omega⟩
  by_cases n:j<l.length
  ·rw [QW (by omega),QW n]
   obtain ⟨k1,k2,k3⟩:=h.row j n
   exact ⟨k1,v.sl k2 fun a d _=>by simpa using (k3 a d).2.1,fun a d=>⟨(k3 a d).1,by have:=u j n a d;omega,(k3 a d).2.2⟩⟩
  ·have:j=l.length:=by simp at C;omega
   subst this
   rw [show gt (ds++[(q,r.length,c)]) l.length=(q,r.length,c) by rw [<-e];exact Rl (i:=0),show gt (l++[r]) l.length=r from Rl (i:=0)]
   exact ⟨rfl,v.sl E fun a d _=>by simpa using (s a d).2.1,fun a d=>⟨(s a d).1,by have:=(s a d).2.2.2;show a.block≠_;omega,(s a d).2.2.1⟩⟩
 have t:(G++X).length=G.length+X.length:=Nj
 rcases h.cap with h1 | ⟨h1,h2⟩
 ·refine ⟨(G.set R .dead++X)++[Vc (ds.flatMap Uy++Uy (q,r.length,c))], ?_,fin _ ?_ ?_, ?_, ?_⟩
  ·subst h1
   have hc:¬((l.length+1)*24 > PS\/l.length+1>=2 ^ 62\/loose 1<l.length):=by unfold loose PS;omega
   unfold OH
   simp only [firstCells,lenOf,hb,No,if_false,show ((1:Nat)=0)=False from Q2 (by decide),false_or]
   rw [Ni hc,g]
   dsimp only
   rw [Nk trivial,o]
   dsimp only
   rw [Nk (by omega)]
   simp [place,O3 _ _ p,Nl]
  ·exact ((Chg.refl.set (.inl (by simp))).app).app
  ·rw [show G.length+X.length=(G.set R .dead++X).length by simp];exact NU
  ·exact ((Chg.refl.set (.inl (by simp))).app).app
  ·simp;omega
 ·refine ⟨(G++X)++[Vc (ds.flatMap Uy++Uy (q,r.length,c))], ?_,fin _ ?_ ?_, ?_, ?_⟩
  ·subst h1
   have hc:¬((l.length+1)*24 > PS\/l.length+1>=2 ^ 62\/1<l.length):=by unfold PS;omega
   unfold OH
   simp only [firstCells,lenOf,hb,No,if_false,show ((1:Nat)=0)=False from Q2 (by decide),false_or]
   rw [Ni hc,g]
   dsimp only
   rw [Ni (by unfold loose;omega),Nk (by decide),Ni (by omega)]
   simp [place,Nl]
  ·exact (Chg.refl.app).app
  ·rw [<-t];exact NU
  ·exact (Chg.refl.app).app
  ·simp;omega
structure RLies (lim:Nat) (H:NB) (J D S area e lf n sc:Nat) (pp:Option Addr) (cp:Nat) (safe:List QY) (pend:List Wr):Prop where
 j:NF H J=Vc [Vp D,Vi area,Vi e,Vi lf,Vi n]
 d:NF H D=Vc [.slice (Sa S) safe.length sc,.slice pp pend.length cp]
 s:NF H S=Vc (safe.flatMap Sk)
 sl:Sl H Wj 33 pp pend
 lJ:lim<=J
 lD:lim<=D
 lS:lim<=S
 JD:J≠D
 SD:S≠D
 SJ:S≠J
 ps:∀a,pp=some a->a.block≠S/\a.block≠D/\a.block≠J
 ne:safe≠[]
section
variable {lim J D S area e lf n sc cp:Nat} {pp:Option Addr} {safe:List QY} {pend:List Wr} {H:NB} {Q:Value->NB->Prop}
theorem Lies.r (h:Lies lim H J D S area e lf n sc pp cp safe pend):RLies lim H J D S area e lf n sc pp cp safe pend:=
 ⟨h.jl.j,h.jl.d,h.s,h.jl.own.sl R6,h.jl.lJ,h.jl.lD,h.lS,h.jl.JD,h.SD,h.SJ,fun a b=>⟨h.ps a b,(h.jl.ap a b).2,(h.jl.ap a b).1⟩,h.ne⟩
theorem RLies.chg {H':NB} {L:List Nat} (h:RLies lim H J D S area e lf n sc pp cp safe pend) (hc:Chg L H H') (c:∀j∈L,j≠J/\j≠D/\j≠S/\∀a,pp=some a->a.block≠j):RLies lim H' J D S area e lf n sc pp cp safe pend:=by
 have b:∀j,(j=J\/j=D\/j=S)->j∉L:=fun j h1 h2=>by have:=c j h2;omega
 exact ⟨hc.cells h.j (b _ (by omega)),hc.cells h.d (b _ (by omega)),hc.cells h.s (b _ (by omega)),hc.sl h.sl fun a f _ g=>(c _ g).2.2.2 a f rfl,h.lJ,h.lD,h.lS,h.JD,h.SD,h.SJ,h.ps,h.ne⟩
end
structure SJ where
 area:Nat
 e:Nat
 lf:Nat
 nn:Nat
 pp:Option Addr
 cp:Nat
 safe:List QY
 pend:List Wr
 rl:LR
 bs:LR
structure KJ (lim n J D S:Nat) (H:NB) (i:Nat) (s:SJ) (G:NB):Prop where
 li:Lies lim G J D S s.area s.e s.lf s.nn n s.pp s.cp s.safe s.pend
 kd:KD s.area s.e s.lf s.safe s.rl
 hb:∀x∈s.bs,x.1=s.lf/\x.2.length<2 ^ 20
 len:s.safe.length=n
 nn:s.nn=OC s.rl+OC s.bs
 fits:s.nn<=n / 2
 pend:s.pend=Ru (s.area*(n / 2)) s.e s.lf (OC s.rl) (XA s.bs)
 lf:s.lf<=i+1
 e:s.e<=i+1
 chg:Chg [] H G
 new:∀a,s.pp=some a->H.length<=a.block
 jn:H.length<=J
 dn:H.length<=D
 sn:H.length<=S
section
variable {lim n J D S i h cb:Nat} {H G:NB} {s:SJ} {q:Option Addr} {b:List UInt8} {Q:Value->NB->Prop}
theorem KJ.plen (I:KJ lim n J D S H i s G):s.pend.length=OC s.bs:=by rw [I.pend,Zg,VK]
theorem KJ.step {a:Nat} (I:KJ lim n J D S H i s G) (h:i<=a):KJ lim n J D S H a s G:=
 ⟨I.li,I.kd,I.hb,I.len,I.nn,I.fits,I.pend,by have:=I.lf;omega,by have:=I.e;omega,I.chg,I.new,I.jn,I.dn,I.sn⟩
theorem KJ.to {G':NB} {B:List Nat} (I:KJ lim n J D S H i s G) (hc:Chg B G G') (b:∀j∈B,H.length<=j/\j≠J/\j≠D/\j≠S/\∀a,s.pp=some a->a.block≠j):KJ lim n J D S H i s G':=
 ⟨Chg.lies I.li hc fun j c=>(b j c).2,I.kd,I.hb,I.len,I.nn,I.fits,I.pend,I.lf,I.e,I.chg.trans' hc fun j h1 h2=>absurd (b j h1).1 (by omega),I.new,I.jn,I.dn,I.sn⟩
theorem KJ.sync (I:KJ lim n J D S H i s G):KD s.area s.e s.lf (QQ [] s.pend s.safe) (s.rl++s.bs):=by
 have:=I.kd.sync I.hb (by rw [<-I.nn,I.len];exact I.fits)
 rwa [I.len,<-I.pend] at this
theorem KJ.recs (I:KJ lim n J D S H i s G):(recs (TN s.pend s.safe s.area)).1=(s.rl++s.bs).map (·.2):=by
 rw [Nbi,I.sync.recs]
theorem KJ.lives (I:KJ lim n J D S H i s G):J<G.length/\D<G.length/\S<G.length/\∀a,s.pp=some a->a.block<G.length:=
 ⟨NJ I.li.jl.j,NJ I.li.jl.d,NJ I.li.s,fun a b=>(I.li.jl.own.block b).2⟩
theorem Nrj {L:List Nat} (e:Fresh h G q cb b) (c:∀j∈L,j<h):∀a,q=some a->a.block∉L:=fun a d f=>by
 have:=(e.own.block d).1
 have:=c _ f
 omega
theorem KJ.append [OA] (I:KJ lim n J D S H i s G) (hn:n<2 ^ 19) (hi:i<1000) (k:Fresh h G q cb b) (t:∀j∈J::D::S::blk s.pp,j<h)
  (z:n / 2<s.nn+OT b.length->Q (Vi 4) G)
  (h0:∀s' G',KJ lim n J D S H (i+1) s' G'->s'.rl=s.rl->s'.bs=s.bs++[(s.lf,b)]->s'.lf=s.lf->Chg (J::D::blk s.pp) G G'->(∀a,s'.pp=some a->a.block∈blk s.pp\/G.length<=a.block)->Q (Vi 0) G') :
  NP E false lim 36 [Vp J,.slice q b.length cb] G Q:=by
 have F:=I.fits
 have o:=I.nn
 have B:=I.plen
 have c:=I.len
 have v:=k.len
 have A:=Nql b.length
 have a1:=I.kd.a1
 have r:=Nrj k t
 refine Nop I.li (k.own.sl Rt) k.own.capOk k.nil (fun a f _=>by
  have:=r a f
  simp only [Nh,not_or] at this
  exact ⟨this.1,this.2.1,this.2.2.2⟩) (by omega) (by omega) (by omega) (by omega) a1 (fun hr=>z (by omega)) fun w u p hr g m d=>?_
 rw [c] at hr d
 refine h0 ⟨s.area,s.e,s.lf,s.nn+OT b.length,u,p,s.safe,s.pend++Ru (s.area*(n / 2)) s.e s.lf s.nn (W9 b),s.rl,s.bs++[(s.lf,b)]⟩ w ⟨d,I.kd, ?_,c, ?_, ?_, ?_,by have:=I.lf;show s.lf<=_;omega,by have:=I.e;show s.e<=_;omega, ?_, ?_,I.jn,I.dn,I.sn⟩ rfl rfl rfl g (fun a f=>by
  by_cases l:a.block∈blk s.pp
  ·exact .inl l
  ·exact .inr (m a f l))
 ·intro x hx
  rcases Ob.1 hx with hx | hx
  ·exact I.hb x hx
  ·simp only [Ng] at hx
   subst hx
   exact ⟨rfl,by show b.length<_;omega⟩
 ·show s.nn+OT b.length=OC s.rl+OC (s.bs++[(s.lf,b)])
  rw [RY,o]
  simp only [OC];omega
 ·show s.nn+OT b.length<=n / 2
  omega
 ·show s.pend++_=Ru _ _ _ _ (XA (s.bs++[(s.lf,b)]))
  rw [Nno,Yy,VK,<-o,I.pend]
 ·refine I.chg.trans' g fun j h1 h2=>?_
  have:=I.jn
  have:=I.dn
  simp only [Nh] at h1
  rcases h1 with h1 | h1 | h1
  ·omega
  ·omega
  ·obtain ⟨a',e1,e2⟩:=Sz.1 h1
   have:=I.new a' e1
   omega
 ·intro a f
  by_cases l:a.block∈blk s.pp
  ·obtain ⟨y,e3,C⟩:=Sz.1 l
   have:=I.new y e3
   omega
  ·have:=m a f l
   have:=I.chg.len
   omega
theorem KJ.commit [OA] (I:KJ lim n J D S H i s G) (hn:n<2 ^ 19)
  (h0:∀s' G',KJ lim n J D S H i s' G'->s'.rl=s.rl++s.bs->s'.bs=[]->s'.pp=none->s'.pend=[]->s'.safe=QQ [] s.pend s.safe->s'.lf=s.lf->Chg [S,D] G G'->Q (Vi 0) G') :
  NP E false lim 66 [Vp J] G Q:=by
 have h:=I.fits
 have d:=I.nn
 have k:=I.plen
 have b:=I.len
 refine Nom I.li (by omega) (by omega) fun H' f c=>?_
 refine h0 ⟨s.area,s.e,s.lf,s.nn,none,0,QQ [] s.pend s.safe,[],s.rl++s.bs,[]⟩ H' ⟨c,I.sync,by simp,by rw [QX];exact b,by rw [RY];exact d,h,rfl,I.lf,I.e,I.chg.trans' f (fun j h1 h2=>by
  have:=I.dn
  have:=I.sn
  simp only [Nh,Np,or_false] at h1;omega),(by intro a g;cases g),I.jn,I.dn,I.sn⟩ rfl rfl rfl rfl rfl rfl f
theorem KJ.right (I:KJ lim n J D S H i s G) (hn:4<=n) (b:n<=32768):WK s.safe.length s.pend=true:=by
 have d:=I.fits
 have c:=I.nn
 have a1:=I.kd.a1
 have key:∀(r:List (Nat×List UInt8)) (k:Nat),s.area*(n / 2)+k+r.length<=n->(Ru (s.area*(n / 2)) s.e s.lf k r).all (fun w=>UF n w.pos)=true:=by
  intro r
  induction r with
  | nil=>intro k _;rfl
  | cons x r ih=>
    intro k a
    simp only [Nm] at a
    rw [Ru,List.all_cons,ih (k+1) (by omega),Bool.and_true]
    unfold UF
    rw [Nx]
    show 0<=((s.area*(n / 2)+k:Nat):Int)/\((s.area*(n / 2)+k:Nat):Int)<(n:Int)
    omega
 unfold WK
 rw [I.len,I.pend,key _ _ (by rw [VK];rcases (show s.area=0\/s.area=1 by omega) with h | h<;>rw [h]<;>omega),Bool.and_true,Nx]
 omega
theorem KJ.begun (c:4<=n) (hn:n<2 ^ 15) (b:Chg [] H G) (f:H.length<=J) (e:H.length<=D) (hS:H.length<=S) (g:Lies lim G J D S 0 1 1 1 n none 0 (Ne7 n) []):KJ lim n J D S H 0 ⟨0,1,1,1,none,0,Ne7 n,[],[(1,[])],[]⟩ G:=
 ⟨g,KD.begun n c (by omega),by simp,Nlb n,rfl,by show 1<=n / 2;omega,rfl,Nd _,Nd _,b,(by intro a d;cases d),f,e,hS⟩
end
def BU0:BU:=⟨[],[],[],[]⟩
def Rq:List (List ByteArray)->BU->Option BU
 | [],u=>some u
 | c::cs,u=>if RU u c=0 then Rq cs (doneD u c) else none
theorem U4:∀{a b:List (List ByteArray)} {u:BU},Rq (a++b) u=(Rq a u).bind (Rq b)
 | [],b,u=>rfl
 | c::a,b,u=>by
   rw [N1,Rq,Rq]
   split
   ·exact U4
   ·rfl
theorem UG {u:BU} {c:List ByteArray} (h:RU u c=0):(doneD u c).calls=u.calls++[c]:=by
 unfold RU at h
 unfold doneD
 cases e:Rp c with
 | none=>rw [e] at h;cases h
 | some x=>rfl
theorem VS:∀{cs:List (List ByteArray)} {u v:BU},Rq cs u=some v->v.calls=u.calls++cs
 | [],u,v,h=>by cases h;simp
 | c::cs,u,v,h=>by
   rw [Rq] at h
   split at h
   ·rename_i h1
    rw [VS h,UG h1,Nl];rfl
   ·cases h
theorem Wf.stepD {n:Nat} {u:BU} {c:List ByteArray} (h:Wf n u) (he:RU u c=0):Wf (n+1) (doneD u c):=by
 have e1:=UG he
 unfold RU at he
 unfold doneD at e1⊢
 cases e:Rp c with
 | none=>rw [e] at he;cases he
 | some x=>
   rw [e] at he
   have h1:=h.step he
   have hc:=h.calls
   rw [e] at e1
   exact ⟨by rw [e1,Nj];show u.calls.length+1<=_;omega,h1.ents,h1.frm,h1.sc⟩
theorem Xr:∀{cs:List (List ByteArray)} {u v:BU} {n:Nat},Rq cs u=some v->Wf n u->Wf (n+cs.length) v
 | [],u,v,n,h,hw=>by cases h;exact hw
 | c::cs,u,v,n,h,hw=>by
   rw [Rq] at h
   split at h
   ·rename_i h1
    have:=Xr h (hw.stepD h1)
    rw [show (c::cs).length=cs.length+1 from rfl,show n+(cs.length+1)=n+1+cs.length by omega]
    exact this
   ·cases h
theorem Nfb {cs:List (List ByteArray)} {u v:BU} (k:Nat) (h:Rq cs u=some v):∃v',Rq (cs.take k) u=some v':=by
 rw [<-Pe k cs,U4] at h
 cases e:Rq (cs.take k) u with
 | none=>rw [e] at h;cases h
 | some v'=>exact ⟨v',rfl⟩
theorem WM {cs:List (List ByteArray)} {c:List ByteArray} {u v:BU} (h:Rq cs u=some v) (he:RU v c=0):Rq (cs++[c]) u=some (doneD v c):=by
 rw [U4,h]
 show Rq [c] v=_
 rw [Rq,Nk he];rfl
structure Fine (l:List ByteArray):Prop where
 ne:l≠[]
 len:l.length<=7
 size:∀s∈l,s.size<=40
theorem RI {t:ByteArray} {v:Int} (h:Ry t=some v):t.size<=40:=by
 unfold Ry at h
 split at h
 ·split at h
  ·rename_i e
   have:=Uw (n:=v)
   first | (rw [<-e];rename_i v' _;have:=Uw (n:=v');omega) | (rw [e];rename_i v' _;have:=Uw (n:=v');omega)
  ·cases h
 ·cases h
theorem YS {l:List ByteArray} (h0:l≠[]) (h1:l.length<=7) (h2:∀s∈l,s.size<=40):Fine l:=⟨h0,h1,h2⟩
theorem Nki {u:BU} {l:List ByteArray} {g:Cl} (hr:Rp l=some g) (he:Rv u g=0):Fine l:=by
 have j:SV.size<=40:=by decide
 have m:TK.size<=40:=by decide
 have k:SH.size<=40:=by decide
 have o:Tm.size<=40:=by decide
 have n:Rb.size<=40:=by decide
 unfold Rp at hr
 split at hr
 ·rename_i w a b
  split at hr
  ·rename_i e
   obtain ⟨id,h1,rfl⟩:=Nc.1 hr
   have hb:b.size<=40:=by
    unfold Rv at he
    simp only at he
    split at he
    ·cases he
    ·rename_i q;omega
   refine YS (by simp) (by simp) fun s c=>?_
   simp only [Nh,Np,or_false] at c
   rcases c with rfl | rfl | rfl
   ·rw [e];exact j
   ·exact RI h1
   ·exact hb
  split at hr
  ·rename_i e
   split at hr
   ·rename_i h1 h2
    refine YS (by simp) (by simp) fun s c=>?_
    simp only [Nh,Np,or_false] at c
    rcases c with rfl | rfl | rfl
    ·rw [e];exact m
    ·exact RI h1
    ·exact RI h2
   ·cases hr
  split at hr
  ·rename_i e
   split at hr
   ·rename_i h1 h2
    refine YS (by simp) (by simp) fun s c=>?_
    simp only [Nh,Np,or_false] at c
    rcases c with rfl | rfl | rfl
    ·rw [e];exact n
    ·exact RI h1
    ·exact RI h2
   ·cases hr
  ·cases hr
 ·split at hr
  ·rename_i e
   split at hr
   ·rename_i h1 h2 d f
    refine YS (by simp) (by simp) fun s c=>?_
    simp only [Nh,Np,or_false] at c
    rcases c with rfl | rfl | rfl | rfl | rfl
    ·rw [e];exact k
    ·exact RI h1
    ·exact RI h2
    ·exact RI d
    ·exact RI f
   ·cases hr
  ·cases hr
 ·split at hr
  ·rename_i e
   split at hr
   ·rename_i h1 h2 d f h i
    refine YS (by simp) (by simp) fun s c=>?_
    simp only [Nh,Np,or_false] at c
    rcases c with rfl | rfl | rfl | rfl | rfl | rfl | rfl
    ·rw [e];exact o
    ·exact RI h1
    ·exact RI h2
    ·exact RI d
    ·exact RI f
    ·exact RI h
    ·exact RI i
   ·cases hr
  ·cases hr
 ·cases hr
theorem Xx {u:BU} {c:List ByteArray} (h:RU u c=0):Fine c:=by
 unfold RU at h
 cases e:Rp c with
 | none=>rw [e] at h;cases h
 | some x=>rw [e] at h;exact Nki e h
theorem Fine.pack {l:List ByteArray} (h:Fine l):VF l=(Rc l,0)/\(Rc l).length<=300:=by
 have key:∀l:List ByteArray,(∀s∈l,s.size<=40)->(Rc l).length<=l.length*42:=fun l=>by
  induction l with
  | nil=>intro _;simp [Rc]
  | cons s l ih=>
    intro h
    have h1:=ih fun x c=>h x (by simp [c])
    have h2:=h s (by simp)
    simp only [Rc,Oh,Nj,Vk,Nm,Nn,Vg] at h1⊢
    omega
 have h1:=key l h.size
 have h2:=h.len
 have a:(Rc l).length<=300:=by omega
 refine ⟨?_,a⟩
 unfold VF
 rw [Ni (by omega),Ni,Ni (by omega)]
 rw [Bool.not_eq_true,List.any_eq_false]
 intro s b
 have:=h.size s b
 simp;omega
theorem Nl6 {s:ByteArray} (h:s.size<65536):SI (UInt8.ofNat (s.size / 256)) (UInt8.ofNat s.size)=s.size:=by
 unfold SI
 rw [UInt8.toNat_ofNat',UInt8.toNat_ofNat']
 omega
theorem Naf {s:ByteArray} {l:List ByteArray}:Rc (s::l)=UInt8.ofNat (s.size / 256)::UInt8.ofNat s.size::(s.data.toList++Rc l):=by
 simp [Rc,Vk]
theorem Nr8 {s:ByteArray}:(⟨s.data.toList.toArray⟩:ByteArray)=s:=by cases s;simp
theorem ZK:∀(l:List ByteArray) (c:Nat),l.length<=c->(∀s∈l,s.size<=1000)->UL c (Rc l)=some l
 | [],c,_,_=>by cases c<;>rfl
 | s::l,0,h,_=>by simp at h
 | s::l,c+1,h,hs=>by
   have h1:=hs s (by simp)
   have hl:=Vg s
   rw [Naf,UL,Nl6 (by omega),Nk ⟨h1,by rw [Nj,hl];omega⟩]
   rw [show s.size=s.data.toList.length from hl.symm,List.drop_left,List.take_left,ZK l c (by simp at h;omega) fun x a=>hs x (by simp [a]),Nr8]
   rfl
theorem Fine.unp {l:List ByteArray} (h:Fine l):Mo (Rc l)=(l,0):=by
 have h1:=h.pack.2
 have h2:=h.len
 unfold Mo
 rw [Ni (by omega),ZK l 100 (by omega) fun s a=>by have:=h.size s a;omega]
theorem Ni8 {α β:Type} [Inhabited α] [Inhabited β] {f:α->β} {l:List α} {k:Nat} (h:k<l.length):gt (l.map f) k=f (gt l k):=by
 rw [UQ (by simpa using h),UQ h,Q6]
theorem Npf [OA] {mp:Bool} {lim k1 k2 w x:Nat} {p q:Option Addr} {a b:List ByteArray} {H:NB} {Q:Value->NB->Prop} (v:Sl H SE 1 p a) (hb:Sl H SE 1 q b) (e1:w=a.length) (e2:x=b.length) (h1:a.length<2 ^ 60) :
  NP E mp lim 72 [.slice p w k1,.slice q x k2] H Q=Q (.bool (decide (a=b))) H:=by
 subst e1;subst e2
 refine pc (by decide) e72 rfl rfl ?_
 rw [b72,c72]
 by_cases hl:a.length=b.length
 case neg=>
  simp only [n72,r72,hl,SB,Nat.reduceLT,NC,NH,Nat.reduceEqDiff,NG,NQ,reduceCtorEq,ND,place,NA,Nat.reduceAdd,Nat.reduceLeDiff,NE,Int.reduceEq,Int.reduceLT,Int.reduceLE]
  have:¬a=b:=fun h=>hl (by rw [h])
  simp [this]
 simp only [n72,r72,hl,SB,Nat.reduceLT,NC,NH,Nat.reduceEqDiff,NG,NQ,reduceCtorEq,ND,place,NA,Nat.reduceAdd,Nat.reduceLeDiff,NE,Int.reduceEq,Int.reduceLT,Int.reduceLE]
 refine QC (fun i=>a.length-i) (fun i fr G=>i<=a.length/\fr 0=.slice p a.length k1/\fr 1=.slice q a.length k2/\fr 5=Vi i/\QL H G/\∀j,j<i->gt a j=gt b j) 0
  ⟨N5 _,by rw [hl];exact (by simp only [FB,Nat.reduceEqDiff]),by rw [hl];exact (by simp only [FB,Nat.reduceEqDiff]),by rfl,QL.refl.app,fun j z=>by omega⟩ ?_
 intro i fr G ⟨hi,r,s,t,g,e⟩ y
 rw [QF Nuq.eq_1]
 refine NI ?_
 by_cases d:i<a.length
 ·have m:=fun X=>((g.sl v).app X).loadCell0 Rm d (by decide)
  have l:=fun c (k:IntKind) (H1:NB)=>(g.sl v).idx (c:=c) (k:=k) (H1:=H1) d
  have n:=fun X=>((g.sl hb).app X).loadCell0 Rm (hl▸d) (by decide)
  have f:=fun c (k:IntKind) (H1:NB)=>(g.sl hb).idx (c:=c) (k:=k) (H1:=H1) (hl▸d)
  rw [<-hl] at f
  have o:IntKind.i64.wrap ((i:Int)+1)=((i+1:Nat):Int):=Ra (by omega)
  by_cases he:gt a i=gt b i
  ·simp only [n72,r72,r,s,t,d,m,n,l,f,o,Tx,he,Y4,decide_true,SB,Nat.reduceLT,NC,NH,Nat.reduceEqDiff,NG,NQ,reduceCtorEq,ND,place,NA,Nat.reduceAdd,Nat.reduceLeDiff,NE,Int.reduceEq,Int.reduceLT,Int.reduceLE]
   exact y (i+1) _ _ ⟨by omega,(by simp only [r,FB,Nat.reduceEqDiff]),(by simp only [s,FB,Nat.reduceEqDiff]),(by simp only [FB,Nat.reduceEqDiff]),g.app,fun j z=>by
    rcases Ol j i with h | h
    ·exact e j h
    ·have:j=i:=by omega
     subst this;exact he⟩ (by omega)
  ·simp only [n72,r72,r,s,t,d,m,n,l,f,o,Tx,he,Y4,decide_false,Bool.not_false,SB,Nat.reduceLT,NC,NH,Nat.reduceEqDiff,NG,NQ,reduceCtorEq,ND,place,NA,Nat.reduceAdd,Nat.reduceLeDiff,NE,Int.reduceEq,Int.reduceLT,Int.reduceLE]
   have:¬a=b:=fun h=>he (by rw [h])
   simp [this]
 obtain rfl:i=a.length:=by omega
 have u:a=b:=Nrh hl e
 simp only [n72,r72,r,s,t,d,SB,Nat.reduceLT,NC,NH,Nat.reduceEqDiff,NG,NQ,reduceCtorEq,ND,place,NA,Nat.reduceAdd,Nat.reduceLeDiff,NE,Int.reduceEq,Int.reduceLT,Int.reduceLE]
 simp [u]
instance:Inhabited PC:=⟨⟨[],none,0⟩⟩
structure TRows (G:NB) (p:Option Addr) (ds:List Vw) (l:List (List ByteArray)):Prop where
 sl:Sl G Uy 1 p ds
 len:ds.length=l.length
 row:∀k,k<l.length->(gt ds k).2.1=(gt l k).length/\Sl G SE 1 (gt ds k).1 (gt l k)
theorem TRows.app {G:NB} {p:Option Addr} {ds:List Vw} {l:List (List ByteArray)} (h:TRows G p ds l) (X:NB):TRows (G++X) p ds l:=⟨h.sl.app X,h.len,fun k a=>⟨(h.row k a).1,(h.row k a).2.app X⟩⟩
structure CRows (h0:Nat) (G:NB) (R:Nat) (ds:List Vw) (l:List (List ByteArray)):Prop where
 blk:NF G R=Vc (ds.flatMap Uy)
 len:ds.length=l.length
 row:∀k,k<l.length->(gt ds k).2.1=(gt l k).length/\Sl G SE 1 (gt ds k).1 (gt l k)/\∀a,(gt ds k).1=some a->h0<=a.block/\a.block<G.length
 cap:∀k,k<l.length->(gt ds k).2.2=loose 1
 lo:h0<=R
theorem CRows.rows {h0 R:Nat} {G:NB} {ds:List Vw} {l:List (List ByteArray)} (h:CRows h0 G R ds l):TRows G (Sa R) ds l:=
 ⟨Sl.row TM h.blk,h.len,fun k a=>⟨(h.row k a).1,(h.row k a).2.1⟩⟩
theorem CRows.chg {h0 R:Nat} {G G':NB} {A:List Nat} {ds:List Vw} {l:List (List ByteArray)} (h:CRows h0 G R ds l) (hc:Chg A G G') (d:∀j∈A,j<h0):CRows h0 G' R ds l:=
 ⟨hc.cells h.blk fun q=>by have:=d _ q;have:=h.lo;omega,h.len,fun k b=>⟨(h.row k b).1,hc.sl (h.row k b).2.1 fun a c _ q=>by have:=d _ q;have:=(h.row k b).2.2 a c;omega,fun a c=>by have:=(h.row k b).2.2 a c;have:=hc.len;omega⟩,h.cap,h.lo⟩
section
variable {mp:Bool} {lim l0 B:Nat} {jv:Value} {s:SU} {G:NB} {Q:Value->NB->Prop}
theorem Ngi [OA] {k1 k2 C D:Nat} {p q:Option Addr} {B db:List Vw} {a b:List (List ByteArray)} {H:NB} (o:TRows H p B a) (hb:TRows H q db b) (e1:C=a.length) (e2:D=b.length) (h1:a.length<2 ^ 40) (J:∀k,k<a.length->(gt a k).length<2 ^ 60) :
  NP E mp lim 30 [.slice p C k1,.slice q D k2] H Q=Q (.bool (decide (a=b))) H:=by
 subst e1;subst e2
 refine pc (by decide) e30 rfl rfl ?_
 rw [b30,c30]
 by_cases hl:a.length=b.length
 case neg=>
  simp only [n30,r30,hl,SB,seval,NC,NH,NG,NQ,reduceCtorEq,ND,place,NA,NE]
  have:¬a=b:=fun h=>hl (by rw [h])
  simp [this]
 simp only [n30,r30,hl,SB,seval,NC,NH,NG,NQ,reduceCtorEq,ND,place,NA,NE]
 refine QC (fun i=>a.length-i) (fun i fr G=>i<=a.length/\fr 0=.slice p a.length k1/\fr 1=.slice q a.length k2/\fr 12=Vi a.length/\fr 13=Vi i/\QL H G/\∀j,j<i->gt a j=gt b j) 0
  ⟨N5 _,by rw [hl];exact rfl,by rw [hl];exact rfl,by rw [hl];exact rfl,by rfl,QL.refl.app,fun j I=>by omega⟩ ?_
 intro i fr G ⟨hi,v,w,e,g,l,f⟩ F
 rw [QF Nuw.eq_1]
 refine NI ?_
 by_cases d:i<a.length
 ·have r:=fun X=>((l.sl o.sl).app X).loadCell0 TM (i:=i) (by rw [o.len];exact d) (by decide)
  have m:=fun c (k:IntKind) (H1:NB)=>(l.sl o.sl).idx (c:=c) (k:=k) (H1:=H1) (i:=i) (by rw [o.len];exact d)
  have s:=fun X=>((l.sl hb.sl).app X).loadCell0 TM (i:=i) (by rw [hb.len];omega) (by decide)
  have n:=fun c (k:IntKind) (H1:NB)=>(l.sl hb.sl).idx (c:=c) (k:=k) (H1:=H1) (i:=i) (by rw [hb.len];omega)
  rw [o.len] at m
  rw [hb.len,<-hl] at n
  obtain ⟨x,y⟩:=o.row i d
  obtain ⟨z,A⟩:=hb.row i (by omega)
  have t:=fun X (mp:Bool) (lim:Nat) (Q:Value->NB->Prop)=>Npf (mp:=mp) (lim:=lim) (k1:=(gt B i).2.2) (k2:=(gt db i).2.2) (Q:=Q) ((l.sl y).app X) ((l.sl A).app X) x z (J i d)
  have u:IntKind.i64.wrap ((i:Int)+1)=((i+1:Nat):Int):=Ra (by omega)
  by_cases he:gt a i=gt b i
  ·simp only [n30,r30,v,w,e,g,d,r,s,m,n,u,Njg,t,Py he,decide_true,Ok,SB,seval,NC,NH,NG,NQ,reduceCtorEq,ND,place,NA,NE]
   exact F (i+1) _ _ ⟨by omega,v,w,e,rfl,l.app,fun j I=>by
    rcases Ol j i with h | h
    ·exact f j h
    ·have:j=i:=by omega
     subst this;exact he⟩ (by omega)
  ·simp only [n30,r30,v,w,e,g,d,r,s,m,n,u,Njg,t,Q2 he,decide_false,Bool.not_false,SB,seval,NC,NH,NG,NQ,reduceCtorEq,ND,place,NA,NE]
   have:¬a=b:=fun h=>he (by rw [h])
   simp [this]
 ·obtain rfl:i=a.length:=by omega
  simp only [n30,r30,v,w,e,g,d,SB,seval,NC,NH,NG,NQ,reduceCtorEq,ND,place,NA,NE]
  have:a=b:=Nrh hl f
  simp [this]
theorem Nv3 {c:PC}:(Njh c)[0]? = some (.slice c.p c.c.length c.k):=id rfl
theorem Nbw [OA] (h:KB l0 B jv s G) (hl:lim<=G.length) (hn:s.calls.length<2 ^ 30) (W:∀c∈s.calls,c.c≠[]/\c.c.length<2 ^ 40)
  (hQ:∀G' R ds,Chg [] G G'->CRows G.length G' R ds s.st.calls->Q (.slice (Sa R) s.calls.length s.calls.length) G') :
  NP E false lim 23 [Vp B] G Q:=by
 refine runs (by decide) e23 rfl ?_
 rw [b23,c23]
 have w:=fun X=>(QL.refl.app (X:=X)).cells h.b
 have y:=fun X (mp:Bool) (lim:Nat) (Q:Value->NB->Prop)=>VG (mp:=mp) (lim:=lim) (Q:=Q) (w X)
 obtain ⟨N,D⟩:∃N,N=s.calls.length:=⟨_,rfl⟩
 rw [<-D] at hn w hQ
 have V:=Py (show 0<=(N:Int)/\(N:Int)*24<=35184372088832/\(N:Int)<4611686018427387904 by omega)
 have d:s.st.calls=s.calls.map (·.c):=rfl
 simp only [n23,r23,y,w,V,Nu6,hl,SB,seval,NC,NH,NG,NQ,reduceCtorEq,ND,place,NA,NE]
 refine QC (fun x:Nat×List Vw=>N-x.1) (fun x fr G1=>x.1<=N/\fr 3=.slice (Sa G.length) x.1 N/\fr 17=.slice s.cp N s.cc/\fr 18=Vi N/\fr 19=Vi x.1/\
   Chg [] G G1/\NF G1 G.length=Vc (x.2.flatMap Uy++List.replicate (N-x.1) Vz)/\x.2.length=x.1/\
   ∀k,k<x.1->(gt x.2 k).2.1=(gt s.st.calls k).length/\Sl G1 SE 1 (gt x.2 k).1 (gt s.st.calls k)/\(gt x.2 k).2.2=loose 1/\∀a,(gt x.2 k).1=some a->G.length+1<=a.block/\a.block<G1.length) (0,[])
  ⟨N5 _,rfl,rfl,rfl,rfl,Chg.refl.app,by rw [NU];rfl,rfl,fun k T=>absurd T (by simp)⟩ ?_
 rintro ⟨k,ds⟩ fr G1 ⟨T,L,n,o,t,C,F,g,e⟩ hN
 simp only at T L t F g e
 rw [QF Nu0.eq_1]
 refine NI ?_
 have aa:=C.len
 by_cases ab:k<N
 ·have m:(k:Int)<(N:Int):=by omega
  have Y:IntKind.i64.wrap ((k:Int)+1)=((k+1:Nat):Int):=Ra (by omega)
  have J:Sl G1 Njh 1 s.cp s.calls:=C.sl (h.oc.sl Na2) fun _ _ _ q=>by cases q
  have U:=fun X=>(J.app X).loadCell0 Na2 (i:=k) (by omega) (by decide)
  have u:=fun c (kk:IntKind) (H1:NB)=>J.idx (c:=c) (k:=kk) (H1:=H1) (i:=k) (by omega)
  rw [<-D] at u
  have I:gt s.calls k∈s.calls:=by rw [UQ (by omega)];exact Qd _
  obtain ⟨n1,n2⟩:=W _ I
  have z:=C.sl (h.cs _ I).1 fun _ _ _ q=>by cases q
  obtain ⟨a,ha⟩:=z.some n1
  rw [ha] at z
  simp only [n23,r23,L,n,o,t,m,U,u,Nv3,ha,SB,seval,NC,NH,NG,NQ,reduceCtorEq,ND,place,NA,NE]
  rw [Nb]
  refine Nc8 z n1 (by omega) ?_
  refine NI ?_
  have O:=NJ F
  have f:=Neq (lim:=lim) (R:=G.length) (bytes:=24) (cap:=N) (k:=1) (H:=G1++[Vc [],Vc ((gt s.calls k).c.flatMap SE),Vc [.slice (Sa (G1.length+1)) (gt s.calls k).c.length (loose 1)]]) (enc:=Uy) (old:=ds) (l:=[(Sa (G1.length+1),(gt s.calls k).c.length,loose 1)]) (p:=Sa (G1.length+2)) (rest:=List.replicate (N-k) Vz) TM (by decide) (Sl.row TM (ro:=false) (by rw [NK];rfl)) (by rw [NZ O];exact F) hl (by simp;omega) (by simp;omega) (by omega) (by simp;unfold PS;omega)
  rw [g] at f
  simp only [Nm,Nn,Nr,Nat.reduceAdd] at f
  simp only [n23,r23,L,n,o,t,Y,f,SB,seval,NC,NH,NG,NQ,reduceCtorEq,ND,place,NA,NE]
  have K:gt s.st.calls k=(gt s.calls k).c:=by rw [d,Ni8 (by omega)]
  refine hN (k+1,ds++[(Sa (G1.length+1),(gt s.calls k).c.length,loose 1)]) _ _ ⟨by show k+1<=N;omega,rfl,n,o,rfl,C.app.set (.inr (Nd _)), ?_,by simp [g],fun j S=>?_⟩ (by show N-(k+1)<N-k;omega)
  ·rw [Rf (by simp;omega)]
   congr 2
   rw [List.drop_replicate]
   rfl
  ·change j<k+1 at S
   simp only
   rcases Ol j k with q | q
   ·obtain ⟨Z,r2,r4,M⟩:=e j q
    rw [QW (by omega)]
    refine ⟨Z,Chg.sl (A:=[G.length]) ((Chg.refl.app).set (.inl (by simp))) r2 fun a v _ q=>?_,r4,fun a v=>?_⟩
    ·rw [Ng] at q
     have:=M a v;omega
    ·have:=M a v
     simp;omega
   ·obtain rfl:j=k:=by omega
    have e1:gt (ds++[((Sa (G1.length+1):Option Addr),(gt s.calls j).c.length,loose 1)]) j=(Sa (G1.length+1),(gt s.calls j).c.length,loose 1):=by
     have:=Rl (l:=ds) (r:=[((Sa (G1.length+1):Option Addr),(gt s.calls j).c.length,loose 1)]) (i:=0);simp only [Oq,g] at this;rw [this];rfl
    rw [e1,K]
    refine ⟨rfl,Sl.row Rm (ro:=false) (by rw [Q9 (by omega),NK];rfl),rfl,fun a v=>?_⟩
    cases v
    simp;omega
 ·obtain rfl:k=N:=by omega
  have m:¬((k:Int)<(k:Int)):=by omega
  simp only [n23,r23,L,n,o,t,m,SB,seval,NC,NH,NG,NQ,reduceCtorEq,ND,place,NA,NE]
  rw [Nb]
  have P:s.st.calls.length=k:=by rw [d,Nz];omega
  refine hQ G1 G.length ds C ⟨?_,by rw [P];exact g,fun j S=>?_,fun j S=>(e j (by omega)).2.2.1,Nd _⟩
  ·rw [Qg,List.replicate_zero,Nb] at F;exact F
  ·obtain ⟨Z,r2,_,M⟩:=e j (by omega)
   exact ⟨Z,r2,fun a v=>by have:=M a v;omega⟩
end
section
variable {lim l0 B:Nat} {jv:Value} {s:SU} {G:NB} {Q:Value->NB->Prop}
theorem Nc9 [OA] {p:Option Addr} {c:Nat} {l:List Ent} (g:Own l0 G Xe 4 p c l) (hb:l.length<2 ^ 40)
  (f:∀q c' G',Chg [] G G'->Sl G' Xe 4 q l->(∀a,q=some a->G.length<=a.block)->Q (.slice q l.length c') G'):NP E false lim 50 [.slice p l.length c] G Q:=by
 refine runs (by decide) e50 rfl ?_
 rw [b50,c50]
 rcases g with ⟨rfl,rfl,rfl⟩ | ⟨R,rfl,rfl,i,_⟩
 ·simp only [n50,r50,VM,Nn,SB,seval,NC,NH,NG,NQ,reduceCtorEq,ND,place,NA,NE]
  exact f none 0 _ Chg.refl.app rfl (fun a e=>by cases e)
 ·have j:Sl G Xe 4 (Sa R) l:=Sl.row SQ i
  by_cases hn:l=[]
  ·subst hn
   have d:∀X,OH lim none 4 32 false (.slice (Sa G.length) 0 0) (.slice (Sa R) 0 (loose 4)) X=some (.slice (Sa G.length) 0 0,X):=fun X=>Mk (by decide)
   simp only [n50,r50,VM,Nn,d,SB,seval,NC,NH,NG,NQ,reduceCtorEq,ND,place,NA,NE]
   exact f (Sa G.length) 0 _ Chg.refl.app ⟨rfl,fun h=>absurd rfl h⟩ (fun a e=>by cases e;exact Nd _)
  ·have d:=V4 (lim:=lim) (b:=G.length) (bytes:=32) (c:=loose 4) (H:=G++[Vc []]) (by rw [NU];rfl) (j.app _) (by decide) (by unfold PS;omega) (by omega) hn
   simp only [Nj,Nm,Nn,Nr,Nl,N1,N6] at d
   simp only [n50,r50,VM,d,SB,seval,NC,NH,NG,NQ,reduceCtorEq,ND,place,NA,NE]
   exact f (Sa (G.length+1)) (loose 4) _ Chg.refl.app (Sl.row (ro:=false) SQ (by rw [NK];rfl)) (fun a e=>by cases e;show G.length<=G.length+1;omega)
theorem Nda [OA] {p:Option Addr} {c:Nat} {l:List Int} (g:Own l0 G Yn 1 p c l) (hb:l.length<2 ^ 40)
  (f:∀q c' G',Chg [] G G'->Sl G' Yn 1 q l->(∀a,q=some a->G.length<=a.block)->Q (.slice q l.length c') G'):NP E false lim 52 [.slice p l.length c] G Q:=by
 refine runs (by decide) e52 rfl ?_
 rw [b52,c52]
 rcases g with ⟨rfl,rfl,rfl⟩ | ⟨R,rfl,rfl,i,_⟩
 ·simp only [n52,r52,VM,Nn,SB,seval,NC,NH,NG,NQ,reduceCtorEq,ND,place,NA,NE]
  exact f none 0 _ Chg.refl.app rfl (fun a e=>by cases e)
 ·have j:Sl G Yn 1 (Sa R) l:=Sl.row Tz i
  by_cases hn:l=[]
  ·subst hn
   have d:∀X,OH lim none 1 8 false (.slice (Sa G.length) 0 0) (.slice (Sa R) 0 (loose 1)) X=some (.slice (Sa G.length) 0 0,X):=fun X=>Mk (by decide)
   simp only [n52,r52,VM,Nn,d,SB,seval,NC,NH,NG,NQ,reduceCtorEq,ND,place,NA,NE]
   exact f (Sa G.length) 0 _ Chg.refl.app ⟨rfl,fun h=>absurd rfl h⟩ (fun a e=>by cases e;exact Nd _)
  ·have d:=V4 (lim:=lim) (b:=G.length) (bytes:=8) (c:=loose 1) (H:=G++[Vc []]) (by rw [NU];rfl) (j.app _) (by decide) (by unfold PS;omega) (by omega) hn
   simp only [Nj,Nm,Nn,Nr,Nl,N1,N6] at d
   simp only [n52,r52,VM,d,SB,seval,NC,NH,NG,NQ,reduceCtorEq,ND,place,NA,NE]
   exact f (Sa (G.length+1)) (loose 1) _ Chg.refl.app (Sl.row (ro:=false) Tz (by rw [NK];rfl)) (fun a e=>by cases e;show G.length<=G.length+1;omega)
theorem ZB [OA] {id:Int} (h:KB l0 B jv s G) (d:lim<=G.length) (hn:∀m,PE id s.ms=some m->m.m.ents.length<2 ^ 40)
  (b:∀q c' G',Chg [] G G'->Sl G' Xe 4 q (((PE id s.st.ms).getD noM).ents)->(∀a,q=some a->G.length<=a.block)->Q (.tuple #[.slice q (((PE id s.st.ms).getD noM).ents).length c',Vi (if (PE id s.st.ms).isSome then 0 else 6)]) G') :
  NP E false lim 13 [Vp B,Vi id] G Q:=by
 refine runs (by decide) e13 rfl ?_
 rw [b13,c13]
 rw [RH] at b
 have j:=fun X=>(h.new (Chg.refl.app (X:=X)))
 cases hg:PE id s.ms with
 | none=>
   rw [hg] at b
   have g:=fun X (mp:Bool) (lim:Nat) (Q:Value->NB->Prop)=>M7 (mp:=mp) (lim:=lim) (Q:=Q) (j X) hg
   simp only [n13,r13,g,d,SB,seval,NC,NH,NG,NQ,reduceCtorEq,ND,place,NA,NE]
   refine Nc9 (p:=none) (c:=0) (l:=[]) (l0:=0) Own.nil (by decide) fun q c' G' f hS i=>?_
   refine NI ?_
   simp only [n13,r13,Nn,SB,seval,NC,NH,NG,NQ,reduceCtorEq,ND,place,NA,NE]
   rw [Nb]
   exact b q c' G' f.pre hS (fun a e=>by have:=i a e;simp at this;omega)
 | some m=>
   rw [hg] at b
   have g:=fun X (mp:Bool) (lim:Nat) (Q:Value->NB->Prop)=>find_ok (mp:=mp) (lim:=lim) (Q:=Q) (j X) hg
   simp only [n13,r13,g,d,Tj,SB,seval,NC,NH,NG,NQ,reduceCtorEq,ND,place,NA,NE]
   refine Nc9 (l:=m.m.ents) ((h.oe id m hg).app _) (hn m hg) fun q c' G' f hS i=>?_
   refine NI ?_
   simp only [n13,r13,SB,seval,NC,NH,NG,NQ,reduceCtorEq,ND,place,NA,NE]
   rw [Nb]
   exact b q c' G' f.pre hS (fun a e=>by have:=i a e;simp at this;omega)
theorem Nhf [OA] {id:Int} (h:KB l0 B jv s G) (d:lim<=G.length) (hn:∀m,PE id s.ms=some m->m.m.its.length<2 ^ 40)
  (b:∀q c' G',Chg [] G G'->Sl G' Yn 1 q (((PE id s.st.ms).getD noM).its)->(∀a,q=some a->G.length<=a.block)->Q (.tuple #[.slice q (((PE id s.st.ms).getD noM).its).length c',Vi (if (PE id s.st.ms).isSome then 0 else 6)]) G') :
  NP E false lim 15 [Vp B,Vi id] G Q:=by
 refine runs (by decide) e15 rfl ?_
 rw [b15,c15]
 rw [RH] at b
 have j:=fun X=>(h.new (Chg.refl.app (X:=X)))
 cases hg:PE id s.ms with
 | none=>
   rw [hg] at b
   have g:=fun X (mp:Bool) (lim:Nat) (Q:Value->NB->Prop)=>M7 (mp:=mp) (lim:=lim) (Q:=Q) (j X) hg
   simp only [n15,r15,g,d,SB,seval,NC,NH,NG,NQ,reduceCtorEq,ND,place,NA,NE]
   refine Nda (p:=none) (c:=0) (l:=[]) (l0:=0) Own.nil (by decide) fun q c' G' f hS i=>?_
   refine NI ?_
   simp only [n15,r15,Nn,SB,seval,NC,NH,NG,NQ,reduceCtorEq,ND,place,NA,NE]
   rw [Nb]
   exact b q c' G' f.pre hS (fun a e=>by have:=i a e;simp at this;omega)
 | some m=>
   rw [hg] at b
   have g:=fun X (mp:Bool) (lim:Nat) (Q:Value->NB->Prop)=>find_ok (mp:=mp) (lim:=lim) (Q:=Q) (j X) hg
   simp only [n15,r15,g,d,Tj,SB,seval,NC,NH,NG,NQ,reduceCtorEq,ND,place,NA,NE]
   refine Nda (l:=m.m.its) ((h.oi id m hg).app _) (hn m hg) fun q c' G' f hS i=>?_
   refine NI ?_
   simp only [n15,r15,SB,seval,NC,NH,NG,NQ,reduceCtorEq,ND,place,NA,NE]
   rw [Nb]
   exact b q c' G' f.pre hS (fun a e=>by have:=i a e;simp at this;omega)
end
section
variable {mp:Bool} {lim l0 l1 A B:Nat} {jv jw:Value} {s r:SU} {G:NB} {Q:Value->NB->Prop}
theorem Nhv [OA] {k1 k2:Nat} {p q:Option Addr} {a:List Int} {H:NB} (s:Sl H Yn 1 p a) (hb:Sl H Yn 1 q a) (h1:a.length<2 ^ 60) :
  NP E mp lim 43 [.slice p a.length k1,.slice q a.length k2] H Q=Q (.bool true) H:=by
 refine pc (by decide) e43 rfl rfl ?_
 rw [b43,c43]
 simp only [n43,r43,SB,seval,NC,NH,NG,NQ,reduceCtorEq,ND,place,NA,NE]
 refine QC (fun i=>a.length-i) (fun i fr G=>i<=a.length/\fr 0=.slice p a.length k1/\fr 1=.slice q a.length k2/\fr 5=Vi i/\QL H G) 0
  ⟨N5 _,rfl,rfl,by rfl,QL.refl.app⟩ ?_
 intro i fr G ⟨hi,f,g,r,e⟩ t
 rw [QF Nuu.eq_1]
 refine NI ?_
 by_cases d:i<a.length
 ·have b:(i:Int)<(a.length:Int):=by omega
  have m:=fun X=>((e.sl s).app X).loadCell0 Tz d (by decide)
  have j:=fun c (k:IntKind) (H1:NB)=>(e.sl s).idx (c:=c) (k:=k) (H1:=H1) d
  have n:=fun X=>((e.sl hb).app X).loadCell0 Tz d (by decide)
  have l:=fun c (k:IntKind) (H1:NB)=>(e.sl hb).idx (c:=c) (k:=k) (H1:=H1) d
  have o:IntKind.i64.wrap ((i:Int)+1)=((i+1:Nat):Int):=Ra (by omega)
  have h:(Yn (gt a i))[0]? = some (Vi (gt a i)):=id rfl
  simp only [n43,r43,f,g,r,b,m,n,j,l,o,h,SB,seval,NC,NH,NG,NQ,reduceCtorEq,ND,place,NA,NE]
  exact t (i+1) _ _ ⟨by omega,f,g,rfl,e.app⟩ (by omega)
 obtain rfl:i=a.length:=by omega
 have b:¬((a.length:Int)<(a.length:Int)):=by omega
 simp only [n43,r43,f,g,r,b,SB,seval,NC,NH,NG,NQ,reduceCtorEq,ND,place,NA,NE]
def Nqn (u:BU) (id:Int):ByteArray×Int:=match PE id u.ms with
 | some m=>(m.name,0)
 | none=>(⟨#[]⟩,6)
theorem Nkv [OA] {id:Int} (h:KB l0 B jv s G):NP E mp lim 113 [Vp B,Vi id] G Q=Q (.tuple #[.string (Nqn s.st id).1,Vi (Nqn s.st id).2]) G:=by
 refine pc (by decide) Nzj rfl rfl ?_
 rw [N0d,Nwl]
 unfold Nqn
 rw [RH]
 have b:=fun X=>(h.new (Chg.refl.app (X:=X)))
 cases hg:PE id s.ms with
 | none=>
   have a:=fun X (mp:Bool) (lim:Nat) (Q:Value->NB->Prop)=>M7 (mp:=mp) (lim:=lim) (Q:=Q) (b X) hg
   simp only [n113,Nw8,a,SB,seval,NC,NH,NG,NQ,reduceCtorEq,ND,place,NA,NE]
 | some m=>
   have a:=fun X (mp:Bool) (lim:Nat) (Q:Value->NB->Prop)=>find_ok (mp:=mp) (lim:=lim) (Q:=Q) (b X) hg
   simp only [n113,Nw8,a,Tj,SB,seval,NC,NH,NG,NQ,reduceCtorEq,ND,place,NA,NE]
theorem eqQ (e:Ent):VM (.agg [.int .u8,.int .i64,.int .i64,.int .i64]) (.agg (Xe e).toArray) (.agg (Xe e).toArray)=some true:=by
 simp [VM,Xe,PR,TU]
def Bnd (u:BU):Prop:=u.calls.length<2 ^ 30/\(∀c∈u.calls,c≠[]/\c.length<2 ^ 40)/\∀id m,PE id u.ms=some m->m.ents.length<2 ^ 40/\m.its.length<2 ^ 40
theorem Bnd.ents (h:Bnd s.st):∀id m,PE id s.ms=some m->m.m.ents.length<2 ^ 40:=fun id m a=>(h.2.2 id m.m (by rw [RH,a];rfl)).1
theorem Bnd.its (h:Bnd s.st):∀id m,PE id s.ms=some m->m.m.its.length<2 ^ 40:=fun id m a=>(h.2.2 id m.m (by rw [RH,a];rfl)).2
theorem Npg [OA] {id:Int} (H:KB l0 A jv s G) (hb:KB l1 B jw r G) (o:r.st=s.st) (d:Bnd s.st) (ab:lim<=G.length)
  (hQ:∀G',Chg [] G G'->Q (.bool true) G') :
  NP E false lim 70 [Vp A,Vp B,Vi id] G Q:=by
 have e:Bnd r.st:=by rw [o];exact d
 refine runs (by decide) e70 rfl ?_
 rw [b70,c70]
 have na:=fun X (mp:Bool) (lim:Nat) (Q:Value->NB->Prop)=>Nkv (id:=id) (mp:=mp) (lim:=lim) (Q:=Q) (H.new (Chg.refl.app (X:=X)))
 have Y:=fun X (mp:Bool) (lim:Nat) (Q:Value->NB->Prop)=>Nkv (id:=id) (mp:=mp) (lim:=lim) (Q:=Q) (hb.new (Chg.refl.app (X:=X)))
 have ba:=fun X (mp:Bool) (lim:Nat) (Q:Value->NB->Prop)=>Yv (id:=id) (mp:=mp) (lim:=lim) (Q:=Q) (H.new (Chg.refl.app (X:=X))) (d.ents _)
 have W:=fun X (mp:Bool) (lim:Nat) (Q:Value->NB->Prop)=>Yv (id:=id) (mp:=mp) (lim:=lim) (Q:=Q) (hb.new (Chg.refl.app (X:=X))) (e.ents _)
 rw [o] at Y W
 simp only [n70,r70,na,Y,ba,W,SB,seval,NC,NH,NG,NQ,reduceCtorEq,ND,place,NA,NE]
 rw [Nb]
 refine ZB H (by omega) (d.ents _) fun q1 c1 G1 u K _=>?_
 have l1:=u.len
 refine NI ?_
 simp only [n70,r70,SB,seval,NC,NH,NG,NQ,reduceCtorEq,ND,place,NA,NE]
 rw [Nb]
 refine ZB (hb.new u) (by omega) (e.ents _) fun q2 c2 Z v D _=>?_
 rw [o] at D⊢
 have l2:=v.len
 have x:Chg [] G Z:=u.trans' v fun _ F=>by cases F
 refine NI ?_
 simp only [n70,r70,SB,seval,NC,NH,NG,NQ,reduceCtorEq,ND,place,NA,NE]
 rw [Nb]
 refine Nhf (H.new x) (by omega) (d.its _) fun q3 c3 G3 l M _=>?_
 have l3:=l.len
 have y:Chg [] G G3:=x.trans' l fun _ F=>by cases F
 refine NI ?_
 simp only [n70,r70,SB,seval,NC,NH,NG,NQ,reduceCtorEq,ND,place,NA,NE]
 rw [Nb]
 refine Nhf (hb.new y) (by omega) (e.its _) fun q4 c4 P b w _=>?_
 rw [o] at w⊢
 have l4:=b.len
 have J:Chg [] G P:=y.trans' b fun _ F=>by cases F
 have no:∀{j:Nat} {A:Prop},j∈([]:List Nat)->A:=fun h=>by cases h
 have R:=(b.sl (l.sl (v.sl K fun _ _ _ h=>no h) fun _ _ _ h=>no h) fun _ _ _ h=>no h)
 have S:=(b.sl (l.sl D fun _ _ _ h=>no h) fun _ _ _ h=>no h)
 have T:=b.sl M fun _ _ _ h=>no h
 obtain ⟨L,C⟩:∃L,L=((PE id s.st.ms).getD noM).ents:=⟨_,rfl⟩
 obtain ⟨I,z⟩:∃I,I=((PE id s.st.ms).getD noM).its:=⟨_,rfl⟩
 have aa:L.length<2 ^ 40/\I.length<2 ^ 40:=by
  cases hg:PE id s.st.ms with
  | none=>rw [hg] at C z;rw [C,z];decide
  | some m=>rw [hg] at C z;rw [C,z];exact d.2.2 id m hg
 rw [<-C] at R S⊢
 rw [<-z] at T w⊢
 have N:=fun X (mp:Bool) (lim:Nat) (Q:Value->NB->Prop)=>Nhv (mp:=mp) (lim:=lim) (k1:=c3) (k2:=c4) (Q:=Q) (T.app X) (w.app X) (by omega)
 refine NI ?_
 simp only [n70,r70,N,Y4,decide_true,Ok,SB,seval,NC,NH,NG,NQ,reduceCtorEq,ND,place,NA,NE]
 refine QC (fun i=>L.length-i) (fun i fr G'=>i<=L.length/\fr 15=.slice q1 L.length c1/\fr 17=.slice q2 L.length c2/\fr 114=Vi L.length/\fr 115=Vi i/\Chg [] P G') 0
  ⟨N5 _,rfl,rfl,rfl,by rfl,Chg.refl.app⟩ ?_
 intro i fr G' ⟨hi,q,t,a,p,g⟩ hN
 rw [QF Nus.eq_1]
 refine NI ?_
 by_cases n:i<L.length
 ·have f:(i:Int)<(L.length:Int):=by omega
  have U:=g.sl R fun _ _ _ h=>no h
  have V:=g.sl S fun _ _ _ h=>no h
  have la:=fun X=>(U.app X).loadCells SQ n
  have ia:=fun c (k:IntKind) (H1:NB)=>U.idx (c:=c) (k:=k) (H1:=H1) n
  have lb:=fun X=>(V.app X).loadCells SQ n
  have ib:=fun c (k:IntKind) (H1:NB)=>V.idx (c:=c) (k:=k) (H1:=H1) n
  have O:IntKind.i64.wrap ((i:Int)+1)=((i+1:Nat):Int):=Ra (by omega)
  simp only [n70,r70,q,t,a,p,f,la,ia,lb,ib,O,eqQ,Ok,SB,seval,NC,NH,NG,NQ,reduceCtorEq,ND,place,NA,NE]
  exact hN (i+1) _ _ ⟨by omega,q,t,a,rfl,g.app⟩ (by omega)
 obtain rfl:i=L.length:=by omega
 have f:¬((L.length:Int)<(L.length:Int)):=by omega
 simp only [n70,r70,q,t,a,p,f,SB,seval,NC,NH,NG,NQ,reduceCtorEq,ND,place,NA,NE]
 exact hQ _ (J.trans' g.app fun _ h=>no h)
theorem Nj9 [OA] (y:KB l0 A jv s G) (hb:KB l1 B jw r G) (d:r.st=s.st) (b:Bnd s.st) (D:lim<=G.length)
  (M:∀G',Chg [] G G'->Q (.bool true) G') :
  NP E false lim 28 [Vp A,Vp B] G Q:=by
 have no:∀{j:Nat} {A:Prop},j∈([]:List Nat)->A:=fun h=>by cases h
 have C:s.calls.length=s.st.calls.length:=by simp [SU.st]
 have z:r.calls.length=s.st.calls.length:=by rw [<-d];simp [SU.st]
 have F:∀c∈s.calls,c.c≠[]/\c.c.length<2 ^ 40:=fun c hc=>b.2.1 _ (List.mem_map.2 ⟨c,hc,rfl⟩)
 have t:∀c∈r.calls,c.c≠[]/\c.c.length<2 ^ 40:=fun c hc=>b.2.1 _ (by rw [<-d];exact List.mem_map.2 ⟨c,hc,rfl⟩)
 have N:=b.1
 refine runs (by decide) e28 rfl ?_
 rw [b28,c28]
 simp only [n28,r28,SB,seval,NC,NH,NG,NQ,reduceCtorEq,ND,place,NA,NE]
 rw [Nb]
 refine Nbw y D (by omega) F fun G1 S U g x=>?_
 have l1:=g.len
 refine NI ?_
 simp only [n28,r28,SB,seval,NC,NH,NG,NQ,reduceCtorEq,ND,place,NA,NE]
 rw [Nb]
 refine Nbw (hb.new g) (by omega) (by omega) t fun L T V l q=>?_
 have l2:=l.len
 rw [d] at q
 have w:Chg [] G L:=g.trans' l fun _ h=>no h
 have p:=x.chg l fun _ h=>no h
 rw [C,z]
 have lX:=fun X (mp:Bool) (lim:Nat) (Q:Value->NB->Prop)=>Ngi (mp:=mp) (lim:=lim) (k1:=s.st.calls.length) (k2:=s.st.calls.length) (Q:=Q) (p.rows.app X) (q.rows.app X) rfl rfl (by omega) (fun k O=>by
  have:=(b.2.1 (gt s.st.calls k) (by rw [UQ O];exact Qd _)).2;omega)
 refine NI ?_
 simp only [n28,r28,lX,decide_true,Ok,SB,seval,NC,NH,NG,NQ,reduceCtorEq,ND,place,NA,NE]
 refine QC (fun i=>18-i) (fun i fr G'=>i<=18/\fr 0=Vp A/\fr 1=Vp B/\fr 5=Vi i/\Chg [] G G') 0
  ⟨by decide,rfl,rfl,by rfl,w.app⟩ ?_
 intro i fr G' ⟨hi,m,n,v,a⟩ I
 rw [QF Nux.eq_1]
 refine NI ?_
 have P:=a.len
 by_cases R:i<18
 ·have e:(i:Int)<18:=by omega
  have J:=fun X (mp:Bool) (lim:Nat) (Q:Value->NB->Prop)=>Nhd (id:=(i:Int)) (mp:=mp) (lim:=lim) (Q:=Q) ((y.new a).new (Chg.refl.app (X:=X)))
  have H:=fun X (mp:Bool) (lim:Nat) (Q:Value->NB->Prop)=>Nhd (id:=(i:Int)) (mp:=mp) (lim:=lim) (Q:=Q) ((hb.new a).new (Chg.refl.app (X:=X)))
  rw [d] at H
  have u:IntKind.i64.wrap ((i:Int)+1)=((i+1:Nat):Int):=Ra (by omega)
  by_cases W:i<8
  ·have f:(i:Int)<8:=by omega
   simp only [n28,r28,m,n,v,e,J,H,f,Ok,SB,seval,NC,NH,NG,NQ,reduceCtorEq,ND,place,NA,NE]
   rw [Nb]
   refine Npg (y.new a) (hb.new a) d b (by omega) fun K o=>?_
   refine NI ?_
   simp only [n28,r28,m,n,v,u,Ok,SB,seval,NC,NH,NG,NQ,reduceCtorEq,ND,place,NA,NE]
   exact I (i+1) _ _ ⟨by omega,m,n,rfl,(a.trans' o fun _ h=>no h).app⟩ (by omega)
  ·have f:¬((i:Int)<8):=by omega
   simp only [n28,r28,m,n,v,e,J,H,f,u,Ok,SB,seval,NC,NH,NG,NQ,reduceCtorEq,ND,place,NA,NE]
   exact I (i+1) _ _ ⟨by omega,m,n,rfl,a.app⟩ (by omega)
 obtain rfl:i=18:=by omega
 simp only [n28,r28,m,n,v,N4,SB,seval,NC,NH,NG,NQ,reduceCtorEq,ND,place,NA,NE]
 exact M _ a.app
end
def MW (m:Nat):List UInt8:=if m=0 then [] else Lib.decDigits m
theorem Ngx {n:Nat}:Lib.decDigits n=MW (n / 10)++[UInt8.ofNat (48+n % 10)]:=by
 unfold MW
 rw [Lib.decDigits]
 by_cases h:n<10
 ·rw [dif_pos h,Nk (by omega),Qs h];rfl
 ·rw [dif_neg h,Ni (by omega)]
theorem Nmf {n:Nat} (h:n<10 ^ 19):NV (n:Int)=⟨(Lib.decDigits n).toArray⟩:=by
 unfold NV
 rw [Ni (by omega),O1,Xf 20 n (by omega) (by omega)]
theorem Nv7 [OA] {mp:Bool} {lim n:Nat} {H:NB} {Q:Value->NB->Prop} (hn:n<10 ^ 18):NP E mp lim 71 [Vi n] H Q=Q (.string (NV (n:Int))) H:=by
 refine pc (by decide) e71 rfl rfl ?_
 rw [b71,c71]
 have b:∀m:Nat,IntKind.u8.wrap (48+IntKind.u8.wrap (Int.tmod (m:Int) 10))=((48+m % 10:Nat):Int):=fun m=>by
  rw [tm (by omega),w8 (a:=(m:Int) % 10) (by omega) (by omega),w8 (by omega) (by omega)];omega
 have quo:∀m:Nat,Int.tdiv (m:Int) 10=((m / 10:Nat):Int):=fun m=>by rw [P8 (by omega)];omega
 have g:IntKind.i64.wrap ((n / 10:Nat):Int)=((n / 10:Nat):Int):=X7 (by omega) (by omega)
 have i:(Lib.decDigits n).length<=20:=by rw [<-Xf 20 n (by omega) (by omega)];exact YW 20 n
 rw [Nmf (by omega)]
 simp only [n71,r71,b,quo,g,SB,seval,NC,NH,NG,NQ,reduceCtorEq,ND,place,NA,NE]
 refine QC (fun s:Nat×ByteArray=>s.1) (fun s fr G=>s.1<10 ^ 18/\fr 0=Vi s.1/\fr 3=.string s.2/\MW s.1++s.2.data.toList=Lib.decDigits n/\H.length<=G.length) (n / 10,⟨#[UInt8.ofNat (48+n % 10)]⟩) ⟨by show n / 10<_;omega,rfl,rfl,Ngx.symm,by simp⟩ ?_
 rintro ⟨m,out⟩ fr G ⟨l,h0,c,he,p⟩ k
 simp only at l h0 c he
 rw [QF Nur.eq_1]
 refine NI ?_
 by_cases q:0<m
 ·have f:IntKind.i64.wrap ((m / 10:Nat):Int)=((m / 10:Nat):Int):=X7 (by omega) (by omega)
  have h:(0:Int)<(m:Int):=by omega
  have o:out.size<=20:=by
   have:(MW m++out.data.toList).length=(Lib.decDigits n).length:=by rw [he]
   rw [Nj] at this
   have e:out.size=out.data.toList.length:=by rw [Array.length_toList];rfl
   omega
  have d:¬((((⟨#[UInt8.ofNat (48+m % 10)]⟩:ByteArray).size+out.size:Nat):Int) > IntKind.i64.max):=by
   have e:(⟨#[UInt8.ofNat (48+m % 10)]⟩:ByteArray).size=1:=rfl
   rw [e]
   have:IntKind.i64.max=9223372036854775807:=by decide
   omega
  simp only [n71,r71,h0,c,b,quo,f,h,d,SB,seval,NC,NH,NG,NQ,reduceCtorEq,ND,place,NA,NE]
  refine k (m / 10,⟨#[UInt8.ofNat (48+m % 10)]⟩++out) _ _ ⟨by show m / 10<_;omega,rfl,rfl, ?_,by simp;omega⟩ (by show m / 10<m;omega)
  rw [<-he]
  have j:MW m=Lib.decDigits m:=by unfold MW;rw [Ni (by omega)]
  rw [j,Ngx (n:=m)]
  simp
 ·obtain rfl:m=0:=by omega
  simp only [n71,r71,h0,c,SB,seval,NC,NH,NG,NQ,reduceCtorEq,ND,place,NA,NE]
  have e:out=⟨(Lib.decDigits n).toArray⟩:=by rw [Xy];simpa [MW] using he
  rw [e]
section
variable {lim:Nat} {H:NB} {Q:Value->NB->Prop}
theorem TC [OA] {mp:Bool} {v:Int} (h0:0<=v) (h1:v<1000000000000000000):NP E mp lim 71 [Vi v] H Q=Q (.string (NV v)) H:=by
 have:=Nv7 (mp:=mp) (lim:=lim) (n:=v.toNat) (H:=H) (Q:=Q) (by omega)
 rwa [Int.toNat_of_nonneg h0] at this
theorem No6 [OA] {x:Stp} (L:StOk x) (hl:lim<=H.length) (a:∀R G,Chg [] H G->NF G R=Vc ((QM x).flatMap SE)->H.length<=R->Q (.slice (Sa R) (QM x).length (QM x).length) G) :
  NP E false lim 29 [.agg (encU x).toArray] H Q:=by
 have C:=L
 obtain ⟨n,o,hi,hc,s⟩:=L
 refine runs (by decide) e29 rfl ?_
 rw [b29,c29]
 have a1:IntKind.i64.wrap (x.m % 6)=x.m % 6:=X7 (by omega) (by omega)
 have b:IntKind.i64.wrap (1+x.m % 6)=1+x.m % 6:=X7 (by omega) (by omega)
 have d:IntKind.i64.wrap (x.i % 16)=x.i % 16:=X7 (by omega) (by omega)
 have f:IntKind.i64.wrap (1+x.i % 16)=1+x.i % 16:=X7 (by omega) (by omega)
 have q:IntKind.i64.wrap x.c=x.c:=X7 (by omega) (by omega)
 have g:=fun (mp:Bool) (lim:Nat) (H:NB) (Q:Value->NB->Prop)=>TC (mp:=mp) (lim:=lim) (H:=H) (Q:=Q) (v:=1+x.m % 6) (by omega) (by omega)
 have j:=fun (mp:Bool) (lim:Nat) (H:NB) (Q:Value->NB->Prop)=>TC (mp:=mp) (lim:=lim) (H:=H) (Q:=Q) (v:=1+x.i % 16) (by omega) (by omega)
 have l:∀X,Chg [] H (H++X):=fun X=>Chg.refl.app
 by_cases e0:x.k % 8=0
 ·have e:QM x=[SV,NV (1+x.m % 6),nameOf x]:=by unfold QM;rw [Nk e0]
  rw [e] at a
  have U:IntKind.u8.wrap (x.c % 26)=x.c % 26:=w8 (by omega) (by omega)
  have b7:IntKind.u8.wrap (97+x.c % 26)=97+x.c % 26:=w8 (by omega) (by omega)
  have B:¬((((⟨#[77]⟩:ByteArray).size+(⟨#[UInt8.ofNat (97+x.c % 26).toNat]⟩:ByteArray).size:Nat):Int) > IntKind.i64.max):=by show ¬(((2:Nat):Int) > _);decide
  have r:(⟨#[77]⟩:ByteArray)++(⟨#[UInt8.ofNat (97+x.c % 26).toNat]⟩:ByteArray)=nameOf x:=by
   unfold nameOf
   rw [Xy];simp
  simp only [n29,r29,encU,tm n.1,tm o.1,tm hi.1,a1,b,d,f,g,j,e0,tm hc.1,U,b7,B,r,hl,SB,seval,NC,NH,NG,NQ,reduceCtorEq,ND,place,NA,NE]
  refine a _ _ (l _) (by rw [NK];rfl) (by omega)
 by_cases e1:x.k % 8=1
 ·have e:QM x=[TK,NV (1+x.m % 6),NV x.c]:=by unfold QM;rw [Ni e0,Nk (.inl e1)]
  rw [e] at a
  have w:=fun (mp:Bool) (lim:Nat) (H:NB) (Q:Value->NB->Prop)=>TC (mp:=mp) (lim:=lim) (H:=H) (Q:=Q) (v:=x.c) (by omega) (by omega)
  simp only [n29,r29,encU,tm n.1,tm o.1,tm hi.1,a1,b,d,f,g,j,w,e1,q,hl,SB,seval,NC,NH,NG,NQ,reduceCtorEq,ND,place,NA,NE]
  refine a _ _ (l _) (by rw [NK];rfl) (by omega)
 by_cases e2:x.k % 8=2
 ·have e:QM x=[TK,NV (1+x.m % 6),NV x.c]:=by unfold QM;rw [Ni e0,Nk (.inr e2)]
  rw [e] at a
  have w:=fun (mp:Bool) (lim:Nat) (H:NB) (Q:Value->NB->Prop)=>TC (mp:=mp) (lim:=lim) (H:=H) (Q:=Q) (v:=x.c) (by omega) (by omega)
  simp only [n29,r29,encU,tm n.1,tm o.1,tm hi.1,a1,b,d,f,g,j,w,e2,q,hl,SB,seval,NC,NH,NG,NQ,reduceCtorEq,ND,place,NA,NE]
  refine a _ _ (l _) (by rw [NK];rfl) (by omega)
 have post:x.k % 8=3\/x.k % 8=4->QM x=[SH,NV (1+x.i % 16),NV (1+x.m % 6),NV (1+x.lo % 50),NV (x.c / 3)]:=fun h=>by unfold QM;rw [Ni e0,Ni (by omega),Nk h]
 have u:IntKind.i64.wrap (x.lo % 50)=x.lo % 50:=X7 (by omega) (by omega)
 have D:IntKind.i64.wrap (1+x.lo % 50)=1+x.lo % 50:=X7 (by omega) (by omega)
 have F:Int.tdiv x.c 3=x.c / 3:=P8 hc.1
 have I:IntKind.i64.wrap (x.c / 3)=x.c / 3:=X7 (by omega) (by omega)
 have J:=fun (mp:Bool) (lim:Nat) (H:NB) (Q:Value->NB->Prop)=>TC (mp:=mp) (lim:=lim) (H:=H) (Q:=Q) (v:=1+x.lo % 50) (by omega) (by omega)
 have K:=fun (mp:Bool) (lim:Nat) (H:NB) (Q:Value->NB->Prop)=>TC (mp:=mp) (lim:=lim) (H:=H) (Q:=Q) (v:=x.c / 3) (by omega) (by omega)
 by_cases e3:x.k % 8=3
 ·rw [post (.inl e3)] at a
  simp only [n29,r29,encU,tm n.1,tm o.1,tm hi.1,tm s.1,a1,b,d,f,g,j,J,K,e3,q,u,D,F,I,hl,SB,seval,NC,NH,NG,NQ,reduceCtorEq,ND,place,NA,NE]
  refine a _ _ (l _) (by rw [NK];rfl) (by omega)
 by_cases y:x.k % 8=4
 ·rw [post (.inr y)] at a
  simp only [n29,r29,encU,tm n.1,tm o.1,tm hi.1,tm s.1,a1,b,d,f,g,j,J,K,y,q,u,D,F,I,hl,SB,seval,NC,NH,NG,NQ,reduceCtorEq,ND,place,NA,NE]
  refine a _ _ (l _) (by rw [NK];rfl) (by omega)
 have p:=fun (mp:Bool) (lim:Nat) (H:NB) (Q:Value->NB->Prop)=>XY (mp:=mp) (lim:=lim) (H:=H) (Q:=Q) C
 simp only [encU] at p
 have t:x.k % 8=5\/x.k % 8=6->QM x=[Tm,NV (OD x).item,NV (OD x).place,NV (OD x).scanner,NV (OD x).kind,NV (OD x).at',NV (OD x).seen]:=fun h=>by unfold QM;rw [Ni e0,Ni (by omega),Ni (by omega),Nk h]
 have s1:=fun (mp:Bool) (lim:Nat) (H:NB) (Q:Value->NB->Prop)=>TC (mp:=mp) (lim:=lim) (H:=H) (Q:=Q) (v:=(OD x).item) (by unfold OD;simp only;omega) (by unfold OD;simp only;omega)
 have M:=fun (mp:Bool) (lim:Nat) (H:NB) (Q:Value->NB->Prop)=>TC (mp:=mp) (lim:=lim) (H:=H) (Q:=Q) (v:=(OD x).place) (by unfold OD;simp only;omega) (by unfold OD;simp only;omega)
 have N:=fun (mp:Bool) (lim:Nat) (H:NB) (Q:Value->NB->Prop)=>TC (mp:=mp) (lim:=lim) (H:=H) (Q:=Q) (v:=(OD x).scanner) (by unfold OD;simp only;omega) (by unfold OD;simp only;omega)
 have O:=fun (mp:Bool) (lim:Nat) (H:NB) (Q:Value->NB->Prop)=>TC (mp:=mp) (lim:=lim) (H:=H) (Q:=Q) (v:=(OD x).kind) (by unfold OD;simp only;omega) (by unfold OD;simp only;omega)
 have P:=fun (mp:Bool) (lim:Nat) (H:NB) (Q:Value->NB->Prop)=>TC (mp:=mp) (lim:=lim) (H:=H) (Q:=Q) (v:=(OD x).at') (by unfold OD;simp only;omega) (by unfold OD;simp only;omega)
 have S:=fun (mp:Bool) (lim:Nat) (H:NB) (Q:Value->NB->Prop)=>TC (mp:=mp) (lim:=lim) (H:=H) (Q:=Q) (v:=(OD x).seen) (by unfold OD;simp only;omega) (by unfold OD;simp only;omega)
 have T:IntKind.i64.wrap (OD x).kind=(OD x).kind:=X7 (by unfold OD;simp only;omega) (by unfold OD;simp only;omega)
 by_cases z:x.k % 8=5
 ·rw [t (.inl z)] at a
  simp only [n29,r29,encU,tm n.1,tm o.1,tm hi.1,a1,b,d,f,g,j,z,p,s1,M,N,O,P,S,T,hl,SB,seval,NC,NH,NG,NQ,reduceCtorEq,ND,place,NA,NE]
  refine a _ _ (l _) (by rw [NK];rfl) (by omega)
 by_cases A:x.k % 8=6
 ·rw [t (.inr A)] at a
  simp only [n29,r29,encU,tm n.1,tm o.1,tm hi.1,a1,b,d,f,g,j,A,p,s1,M,N,O,P,S,T,hl,SB,seval,NC,NH,NG,NQ,reduceCtorEq,ND,place,NA,NE]
  refine a _ _ (l _) (by rw [NK];rfl) (by omega)
 ·have e:QM x=[Rb,NV (1+x.i % 16),NV (x.c % 500)]:=by unfold QM;rw [Ni e0,Ni (by omega),Ni (by omega),Ni (by omega)]
  rw [e] at a
  have u:IntKind.i64.wrap (x.c % 500)=x.c % 500:=X7 (by omega) (by omega)
  have V:=fun (mp:Bool) (lim:Nat) (H:NB) (Q:Value->NB->Prop)=>TC (mp:=mp) (lim:=lim) (H:=H) (Q:=Q) (v:=x.c % 500) (by omega) (by omega)
  simp only [n29,r29,encU,tm n.1,tm o.1,tm hi.1,tm hc.1,a1,b,d,f,q,u,g,j,V,e0,e1,e2,e3,y,z,A,hl,SB,seval,NC,NH,NG,NQ,reduceCtorEq,ND,place,NA,NE]
  refine a _ _ (l _) (by rw [NK];rfl) (by omega)
end
section
variable {lim l0 n J D S iv B:Nat} {H0:NB} {s:SU} {sj:SJ} {G:NB} {Q:Value->NB->Prop}
structure JB (lim l0 n J D S:Nat) (H0:NB) (iv B:Nat) (s:SU) (sj:SJ) (G:NB):Prop where
 kb:KB l0 B (Vp J) s G
 kj:KJ lim n J D S H0 iv sj G
 sep:∀j∈J::D::S::blk sj.pp,(∀r,s.ptr B r≠some j)/\∀c∈s.calls,∀a,c.p=some a->a.block≠j
 rcs:(sj.rl++sj.bs).map (·.2)=[]::s.st.calls.map Rc
 val:Rq s.st.calls BU0=some s.st
theorem Zv:∀(l:LR),l.length<=OC l
 | []=>by simp [OC]
 | x::l=>by
   have:=Zv l
   have h:1<=OT x.2.length:=by unfold OT;omega
   simp only [OC,Nm];omega
theorem JB.many (h:JB lim l0 n J D S H0 iv B s sj G):s.calls.length+1<=n / 2:=by
 have h1:=Zv (sj.rl++sj.bs)
 rw [RY,<-h.kj.nn] at h1
 have h2:=Qn List.length h.rcs
 simp only [Nz,Nm,SU.st] at h2
 have:=h.kj.fits
 omega
theorem JB.wf (h:JB lim l0 n J D S H0 iv B s sj G):Wf s.calls.length s.st:=by
 have:=Xr (n:=0) h.val ⟨by simp [BU0],(fun id m a=>by cases a),(fun id m a=>by cases a),by simp [BU0]⟩
 rw [Nr] at this
 simpa [SU.st] using this
theorem JB.lives (h:JB lim l0 n J D S H0 iv B s sj G):∀j∈J::D::S::blk sj.pp,j<G.length:=fun j hj=>by
 obtain ⟨k1,k2,k3,b⟩:=h.kj.lives
 simp only [Nh] at hj
 rcases hj with hj | hj | hj | hj
 ·omega
 ·omega
 ·omega
 ·obtain ⟨a,e1,e2⟩:=Sz.1 hj
  have:=b a e1;omega
theorem JB.to {G':NB} {A:List Nat} (h:JB lim l0 n J D S H0 iv B s sj G) (hc:Chg A G G') (f:∀j∈A,H0.length<=j/\(∀r,s.ptr B r≠some j)/\(∀c∈s.calls,∀a,c.p=some a->a.block≠j)/\j∉J::D::S::blk sj.pp):JB lim l0 n J D S H0 iv B s sj G':=
 ⟨h.kb.to hc fun j d=>⟨(f j d).2.1,(f j d).2.2.1⟩,h.kj.to hc fun j d=>by
  obtain ⟨i,_,_,b⟩:=f j d
  simp only [Nh,not_or] at b
  exact ⟨i,b.1,b.2.1,b.2.2.1,fun a g e=>b.2.2.2 (Sz.2 ⟨a,g,e⟩)⟩,h.sep,h.rcs,h.val⟩
theorem JB.new {G':NB} (h:JB lim l0 n J D S H0 iv B s sj G) (hc:Chg [] G G'):JB lim l0 n J D S H0 iv B s sj G':=h.to hc fun _ a=>by cases a
theorem JB.step {a:Nat} (h:JB lim l0 n J D S H0 iv B s sj G) (hi:iv<=a):JB lim l0 n J D S H0 a B s sj G:=⟨h.kb,h.kj.step hi,h.sep,h.rcs,h.val⟩
theorem Nwx [OA] {fr:Nat->Value} {H:NB} {g:FuncId} {cs:Array Value} {p:Option Addr} {c:List ByteArray} {k N:Nat} {u:BU} {v1 v2 v3 v4:Value} (r:fr 0=Vp B) (t:fr 1=.slice p c.length k) (hl:lim<=l0) (F:lim<=H.length)
  (w:NF H B=Vc [Vp J,v1,v2,v3,v4]) (Y:B∉J::D::blk sj.pp) (hs:Sl H SE 1 p c) (f:Fine c) (I:KJ lim n J D S H0 iv sj H) (hn:n<2 ^ 19) (hi:iv<1000)
  (C:∀H',Chg (J::D::blk sj.pp) H H'->∀L:Value->NB->Prop,(∀s1 G1,Mid l0 B (Vp J) s N H.length H' p c u s1 G1->L (.tuple #[]) G1)->NP E false lim g cs.toList H' L)
  (U:∀H',n / 2<sj.nn+OT (Rc c).length->Chg [] H H'->Q (Vi 4) H')
  (Z:∀b H' s1 G1 s' G',KJ lim n J D S H0 (iv+1) b H'->b.rl=sj.rl->b.bs=sj.bs++[(sj.lf,Rc c)]->b.lf=sj.lf->Chg (J::D::blk sj.pp) H H'->(∀a,b.pp=some a->a.block∈blk sj.pp\/H.length<=a.block)->
   Mid l0 B (Vp J) s N H.length H' p c u s1 G1->Aft l0 B (Vp J) s1 G1 { s1.st with calls:=s1.st.calls++[c] } s' G'->Q (Vi 0) G') :
  QZ E a18 lim [.ops none [mT 26 31,Et 32 0 26,Et 33 1 26,mT 7 32,mT 8 33],.code R18] (upd fr 31 (.tuple #[.func (.func g) #[] cs,Vi 0])) H Q:=by
 simp only [R18,c18,Vf]
 have W:=fun X=>(QL.refl.app (X:=X)).cells w
 simp only [n18,r18,r,t,w,VM,Nb,SB,seval,NC,NH,NG,NQ,reduceCtorEq,ND,place,NA,NE]
 refine Nui hs rfl F fun q cq K d m=>?_
 rw [f.pack.1] at m⊢
 simp only at m⊢
 have y:=d.cells w (by simp)
 have v:=fun X=>(QL.refl.app (X:=X)).cells y
 refine NI ?_
 simp only [n18,r18,r,t,v,SB,seval,NC,NH,NG,NQ,reduceCtorEq,ND,place,NA,NE]
 rw [Nb]
 have O:KJ lim n J D S H0 iv sj K:=I.to d fun _ hj=>by cases hj
 obtain ⟨b1,b2,b3,R⟩:=I.lives
 have A:Rc c=[]->q=none:=fun e=>by
  obtain ⟨x,l,rfl⟩:=List.exists_cons_of_ne_nil f.ne
  rw [Naf] at e;cases e
 have ab:=f.pack.2
 refine O.append hn hi (h:=H.length) ⟨m,A,by omega⟩ (fun j hj=>?_) (fun o=>?_) fun b H' P e1 e2 e3 z G=>?_
 ·simp only [Nh] at hj
  rcases hj with hj | hj | hj | hj
  ·omega
  ·omega
  ·omega
  ·obtain ⟨a,e1,e2⟩:=Sz.1 hj
   have:=R a e1;omega
 ·refine NI ?_
  simp only [n18,r18,r,t,SB,seval,NC,NH,NG,NQ,reduceCtorEq,ND,place,NA,NE]
  rw [Nb]
  exact U K o d
 ·have i:Chg (J::D::blk sj.pp) H H':=(d.mono fun _ _ hj=>by cases hj).trans' z fun j hj _=>hj
  refine NI ?_
  simp only [n18,r18,r,t,SB,seval,NC,NH,NG,NQ,reduceCtorEq,ND,place,NA,NE]
  rw [Nb]
  refine C H' i _ fun s1 G1 M=>?_
  refine NI ?_
  have aa:=d.len
  exact Nuk (fr:=upd _ _ _) r t hl f.ne (by have:=f.len;omega) M.kb M.arg M.len M.big fun s' G' V=>Z b H' s1 G1 s' G' P e1 e2 e3 i (fun a T=>(G a T).imp (fun q=>q) fun q=>by omega) M V
theorem Nv4 [OA] {k:Nat} {p:Option Addr} {c:List ByteArray} (h:JB lim l0 n J D S H0 iv B s sj G) (hn:n<2 ^ 19) (hi:iv<1000) (hl:lim<=l0) (N:l0<=G.length) (W:Sl G SE 1 p c) (y:Uo 1 k c.length) (P:∀a,p=some a->a.block<G.length) (z:∀a,p=some a->(∀r,s.ptr B r≠some a.block)/\a.block∉J::D::S::blk sj.pp) (hz:∀t∈c,t.size<=281474976710656) (hc:c.length<2 ^ 30) (aa:H0.length<=l0)
  (hE:∀G',RU s.st c≠0->Chg [] G G'->Q (Vi (RU s.st c)) G')
  (h4:∀G',RU s.st c=0->n / 2<sj.nn+OT (Rc c).length->Chg [] G G'->Q (Vi 4) G')
  (h0:∀s' d G',RU s.st c=0->JB lim l0 n J D S H0 (iv+1) B s' d G'->s'.st=doneD s.st c->d.rl=sj.rl->d.bs=sj.bs++[(sj.lf,Rc c)]->(∃A,(∀j∈A,(∃r,s.ptr B r=some j)\/j∈J::D::blk sj.pp)/\Chg A G G')->
   (∀r j,s'.ptr B r=some j->s.ptr B r=some j\/G.length<=j)->(∀x∈s'.calls,x∈s.calls\/∀a,x.p=some a->G.length<=a.block)->(∀a,d.pp=some a->a.block∈blk sj.pp\/G.length<=a.block)->Q (Vi 0) G') :
  NP E false lim 18 [Vp B,.slice p c.length k] G Q:=by
 have O:=h.many
 have sub:∀j,j∈J::D::blk sj.pp->j∈J::D::S::blk sj.pp:=fun j hj=>by
  simp only [Nh] at hj⊢
  rcases hj with hj | hj | hj<;>simp [hj]
 have o:∀j∈J::D::blk sj.pp,j<G.length/\(∀r,s.ptr B r≠some j)/\(∀x∈s.calls,∀a,x.p=some a->a.block≠j)/\∀a,p=some a->a.block≠j:=fun j hj=>⟨h.lives j (sub j hj),(h.sep j (sub j hj)).1,(h.sep j (sub j hj)).2,fun a f e=>(z a f).2 (e▸sub j hj)⟩
 refine Nu2 (A:=J::D::blk sj.pp) h.kb h.wf (by omega) hl N W y P (fun a f=>(z a f).1) hz hc o (fun G' l he=>hE G' he l) fun cl hr he fr H g cs f0 f1 l L=>?_
 have e0:RU s.st c=0:=by unfold RU;rw [hr];exact he
 have ab:=l.len
 refine Nwx f0 f1 hl (by omega) (h.new l).kb.b (fun hB=>(h.sep B (sub B hB)).1 .b rfl) (l.sl W fun _ _ _ hj=>by cases hj) (Nki hr he) (h.kj.to l fun _ hj=>by cases hj) hn hi L (fun H' w K=>h4 H' e0 w (l.trans' K fun _ hj=>by cases hj)) fun d H' s1 G1 s' G' I e1 e2 e3 v C M F=>?_
 have U:=v.len
 obtain ⟨q1,q2,X,Y,A',T,Z⟩:=M.aft (fun j hj=>(o j hj).1) l v F
 have u:s'.st=doneD s.st c:=by rw [q2,M.st];unfold doneD;rw [hr];simp only [Ma]
 have i:∀j∈J::D::S::blk d.pp,j∈J::D::S::blk sj.pp\/H.length<=j/\j<H'.length:=fun j hj=>by
  simp only [Nh] at hj⊢
  rcases hj with hj | hj | hj | hj
  ·simp [hj]
  ·simp [hj]
  ·simp [hj]
  ·obtain ⟨a,f,e⟩:=Sz.1 hj
   have h1:=I.lives.2.2.2 a f
   rcases C a f with q | q
   ·rw [e] at q;simp [q]
   ·omega
 refine h0 s' d G' e0 ⟨q1,I.to Z fun j hj=>?_,fun j hj=>⟨fun r hr=>?_,fun x R a f e=>?_⟩, ?_, ?_⟩ u e1 e2 ⟨(J::D::blk sj.pp++A').filter (fun j=>decide (j<G.length)),fun j hj=>?_, ?_⟩ (fun r j hr=>(X r j hr).imp (fun q=>q) fun q=>by omega) (fun x R=>(Y x R).imp (fun q=>q) fun q a f=>by have:=q a f;omega) (fun a f=>(C a f).imp (fun q=>q) fun q=>by omega)
 ·have key:∀m,m∈J::D::S::blk d.pp->j≠m:=fun m V e=>by
   subst e
   rcases T j hj with ⟨r,q⟩ | q
   ·rcases i j V with k | k
    ·exact (h.sep j k).1 r q
    ·have:=(h.kb.lt q).2;omega
   ·rcases i j V with k | k
    ·have:=h.lives j k;omega
    ·omega
  refine ⟨?_,key J (by simp),key D (by simp),key S (by simp),fun a f e=>key a.block (by simp [Sz.2 ⟨a,f,rfl⟩]) e.symm⟩
  rcases T j hj with ⟨r,q⟩ | q
  ·have:=(h.kb.lt q).1;omega
  ·omega
 ·rcases X r j hr with q | q
  ·rcases i j hj with k | k
   ·exact (h.sep j k).1 r q
   ·have:=(h.kb.lt q).2;omega
  ·rcases i j hj with k | k
   ·have:=h.lives j k;omega
   ·omega
 ·rcases Y x R with q | q
  ·rcases i j hj with k | k
   ·exact (h.sep j k).2 x q a f e
   ·have:=(h.kb.cs x q).2 a f;omega
  ·have q:=q a f
   rcases i j hj with k | k
   ·have:=h.lives j k;omega
   ·omega
 ·rw [e1,e2,<-Nl,Pu,h.rcs,u,UG e0,Pu]
  rfl
 ·rw [u,UG e0]
  exact WM h.val e0
 ·simp only [Oo,Ob,Nx] at hj
  rcases hj.1 with q | q
  ·exact .inr q
  ·rcases T j q with r | r
   ·exact .inl r
   ·omega
 ·refine ((l.mono fun _ _ hj=>by cases hj).trans' v fun j hj hl=>?_).trans' Z fun j hj hl=>?_
  ·exact Oo.2 ⟨Ox _ hj,by simpa using hl⟩
  ·exact Oo.2 ⟨Pr _ hj,by simpa using hl⟩
end
section
variable {lim l0 n J D S iv B:Nat} {H0:NB} {jv:Value} {s:SU} {sj:SJ} {G:NB} {Q:Value->NB->Prop}
theorem KB.le {l1:Nat} (h:KB l0 B jv s G) (hl:l1<=l0):KB l1 B jv s G:=
 ⟨h.b,h.m,h.x,h.oc.le hl,h.os.le hl,fun id m a=>(h.oe id m a).le hl,fun id m a=>(h.oi id m a).le hl,h.cs,by have:=h.lB;omega,by have:=h.lM;omega,by have:=h.lX;omega,h.inj,h.cf⟩
theorem KB.swap {l:Value} {G':NB} (h:KB l0 B jv s G) (hc:Chg [B] G G') (hb:NF G' B=Vc [l,.slice s.cp s.calls.length s.cc,.map (some s.M),.map (some s.X),.slice s.sp s.sc.length s.sk]):KB l0 B l s G':=by
 have hn:∀{r:Ro} {j:Nat},s.ptr B r=some j->r≠.b->j∉[B]:=fun {r j} hr f n=>by
  rw [Ng.1 n] at hr
  exact f (h.inj r .b B hr rfl)
 have hp:∀{p:Option Addr} {r:Ro},s.ptr B r=bk p->r≠.b->∀a,p=some a->a.block∉[B]:=fun {p r} e f a g=>hn (r:=r) (by rw [e,g];rfl) f
 exact ⟨hb,hc.get h.m (h.lt (r:=.m) rfl).2 (hn (r:=.m) rfl (by simp)),hc.get h.x (h.lt (r:=.x) rfl).2 (hn (r:=.x) rfl (by simp)),h.oc.chg hc (hp (r:=.c) rfl (by simp)),h.os.chg hc (hp (r:=.s) rfl (by simp)),fun id m k=>(h.oe id m k).chg hc (hp (r:=.e id) (by simp [SU.ptr,k]) (by simp)),fun id m k=>(h.oi id m k).chg hc (hp (r:=.i id) (by simp [SU.ptr,k]) (by simp)),fun c d=>⟨hc.sl (h.cs c d).1 fun a g _ n=>h.cf c d a g .b (by rw [Ng.1 n];rfl),fun a g=>by have:=(h.cs c d).2 a g;have:=hc.len;omega⟩,h.lB,h.lM,h.lX,h.inj,h.cf⟩
theorem Aft.sep {u:BU} {s':SU} {G':NB} {A:Nat->Prop} (h:Aft l0 B jv s G u s' G') (f:∀j,A j->j<G.length/\(∀r,s.ptr B r≠some j)/\∀c∈s.calls,∀a,c.p=some a->a.block≠j):∀j,A j->(∀r,s'.ptr B r≠some j)/\∀c∈s'.calls,∀a,c.p=some a->a.block≠j:=fun j g=>by
 obtain ⟨h1,h2,d⟩:=f j g
 refine ⟨fun r hr=>?_,fun x i a b e=>?_⟩
 ·rcases h.ptr r j hr with q | q
  ·exact h2 r q
  ·omega
 ·rcases h.calls x i with q | q
  ·exact d x q a b e
  ·have:=q a b;omega
theorem Nwt:Wf 0 BU0:=⟨by simp [BU0],(fun id m a=>by cases a),(fun id m a=>by cases a),by simp [BU0]⟩
theorem Ncr {cs:List (List ByteArray)} {u v w:BU} {k:Nat} (h:Rq cs w=some u) (b:k<cs.length) (a:Rq (cs.take k) w=some v):RU v (gt cs k)=0/\Rq (cs.take (k+1)) w=some (doneD v (gt cs k)):=by
 have e:cs.take (k+1)=cs.take k++[gt cs k]:=TY b
 have he:RU v (gt cs k)=0:=by
  rw [<-Pe (k+1) cs,e,Nl,U4,a] at h
  change Rq (gt cs k::cs.drop (k+1)) v=some u at h
  rw [Rq] at h
  split at h
  ·assumption
  ·cases h
 exact ⟨he,by rw [e];exact WM a he⟩
theorem Nsg [OA] {cs:List (List ByteArray)} {u:BU} {H:NB} (hl:lim<=H0.length) (a9:H0.length<=H.length) (hn:n<2 ^ 19) (C:Rq cs BU0=some u)
  (hO:∀Q':Value->NB->Prop,(∀J sj G1,KJ lim n J D S H0 iv sj G1->sj.bs=[]->sj.rl.map (·.2)=[]::cs.map Rc->sj.pend.length<2 ^ 30->Chg [S,D] H G1->Q' (.tuple #[Vp J,Vi 0]) G1)->NP E false lim 33 [Vp D] H Q')
  (hQ:∀s sj J B G',JB lim H0.length n J D S H0 iv B s sj G'->s.st=u->sj.bs=[]->Chg [S,D] H G'->Q (.tuple #[Vp B,Vi 0]) G') :
  NP E false lim 26 [Vp D] H Q:=by
 refine runs (by decide) e26 rfl ?_
 rw [b26,c26]
 simp only [n26,r26,SB,seval,NC,NH,NG,NQ,reduceCtorEq,ND,place,NA,NE]
 rw [Nb]
 refine hO _ fun J sj G1 I U ag a2 ai=>?_
 have bd:=ai.len
 refine NI ?_
 simp only [n26,r26,SB,seval,NC,NH,NG,NQ,reduceCtorEq,ND,place,NA,NE]
 rw [Nb]
 refine Nj1 (by omega) fun G2 K2 aa=>?_
 have be:=aa.len
 refine NI ?_
 simp only [n26,r26,SB,seval,NC,NH,NG,NQ,reduceCtorEq,ND,place,NA,NE]
 rw [Nb]
 have I2:=I.to aa fun _ hj=>by cases hj
 have a4:=I.kd.sz
 have aj:(recs (TN sj.pend sj.safe sj.area)).1=[]::cs.map Rc:=by rw [I.recs,U,Nb,ag]
 refine Nj0 I2.li a4 a2 I.kd.a1 (by omega) fun G3 h3 q cq ds R bc hR=>?_
 rw [aj] at hR⊢
 have bf:=R.len
 have K3:=K2.new R
 have I3:=I2.to R fun _ hj=>by cases hj
 have ah:Chg [S,D] H G3:=(ai.trans' aa fun _ hj=>by cases hj).trans' R fun _ hj=>by cases hj
 have bb:cs.length<2 ^ 30:=by
  have h1:=Zv sj.rl
  have h2:=Qn List.length ag
  have h3:=I.nn
  have h4:=I.fits
  simp only [Nz,Nm] at h2
  rw [U] at h3
  simp only [OC] at h3
  omega
 obtain ⟨L,hL⟩:∃L,L=[]::cs.map Rc:=⟨_,rfl⟩
 rw [<-hL] at hR⊢
 have au:L.length=cs.length+1:=by rw [hL];simp
 have lv:=I.lives
 have ad:∀j,j∈J::D::S::blk sj.pp->j<G1.length:=fun j hj=>by
  simp only [Nh] at hj
  rcases hj with hj | hj | hj | hj
  ·omega
  ·omega
  ·omega
  ·obtain ⟨a,e1,e2⟩:=Sz.1 hj
   have:=lv.2.2.2 a e1;omega
 have av:∀k a,k<L.length->(gt ds k).1=some a->h3<=a.block/\a.block<G3.length:=fun k a hk N=>((hR.row k hk).2.block N)
 refine NI ?_
 simp only [n26,r26,SB,seval,NC,NH,NG,NQ,reduceCtorEq,ND,place,NA,NE]
 refine QC (fun x:Nat×SU=>L.length-x.1) (fun x fr G=>x.1<=L.length/\fr 4=Vp J/\fr 6=Vp (G1.length+2)/\fr 21=.slice q L.length cq/\fr 22=Vi L.length/\fr 23=Vi x.1/\
   KB G1.length (G1.length+2) (.pointer none) x.2 G/\Rq (cs.take (x.1-1)) BU0=some x.2.st/\RowsAt h3 G q cq ds L/\KJ lim n J D S H0 iv sj G/\Chg [S,D] H G/\G3.length<=G.length/\
   ∀j,(j<G1.length\/h3<=j/\j<G3.length)->(∀r,x.2.ptr (G1.length+2) r≠some j)/\∀c∈x.2.calls,∀a,c.p=some a->a.block≠j) (0,SU0 G1.length)
  ⟨N5 _,rfl,rfl,rfl,rfl,rfl,by rw [Nb];exact K3,rfl,by rw [Nb];exact hR,by rw [Nb];exact I3,by rw [Nb];exact ah,by simp,fun j hj=>⟨fun r hr=>?_,fun c hc=>by cases hc⟩⟩ ?_
 ·have:=K2.lt hr
  omega
 rintro ⟨k,s⟩ fr G ⟨hk,Y,Z,g,l,o,K,F,y,Ik,ac,a8,f⟩ hN
 simp only at hk o K F f
 rw [QF Nuy.eq_1]
 refine NI ?_
 by_cases a0:k<L.length
 ·have O:(k:Int)<(L.length:Int):=by omega
  have aw:=y.len
  have ak:=y.own.sl TM
  have az:=fun X=>(ak.app X).loadCell0 TM (i:=k) (by omega) (by decide)
  have W:=fun c (kk:IntKind) (H1:NB)=>ak.idx (c:=c) (k:=kk) (H1:=H1) (i:=k) (by omega)
  rw [aw] at W
  obtain ⟨r1,r2⟩:=y.row k a0
  have al:IntKind.i64.wrap ((k:Int)+1)=((k+1:Nat):Int):=Ra (by omega)
  simp only [n26,r26,Y,Z,g,l,o,O,az,W,Njg,SB,seval,NC,NH,NG,NQ,reduceCtorEq,ND,place,NA,NE]
  rw [r1,Nb]
  have aq:(gt L k).length<2 ^ 60:=by
   have:=r2.capOk
   have h1:k=0\/∃m,k=m+1/\m<cs.length:=by
    cases k with
    | zero=>exact .inl rfl
    | succ m=>exact .inr ⟨m,rfl,by omega⟩
   rcases h1 with rfl | ⟨m,rfl,hm⟩
   ·rw [hL];show 0<_;decide
   ·obtain ⟨v,hv⟩:=Nfb m C
    have hf:=(Xx (Ncr C hm hv).1).pack.2
    have e:gt L (m+1)=Rc (gt cs m):=by rw [hL,Rz,Ni8 hm]
    rw [e];omega
  refine Noc (r2.sl Rt) r2.capOk rfl (by omega) aq fun p c G5 d w=>?_
  have bg:=d.len
  cases k with
  | zero=>
    have e0:gt L 0=[]:=by rw [hL];rfl
    have eu:Mo []=([],0):=rfl
    rw [e0,eu]
    refine NI ?_
    simp only [n26,r26,Y,Z,g,l,o,al,e0,Nn,N4,SB,seval,NC,NH,NG,NQ,reduceCtorEq,ND,place,NA,NE]
    refine hN (1,s) _ _ ⟨by omega,Y,Z,g,l,rfl,by rw [Nb];exact K.new d,F,by rw [Nb];exact y.chg d (fun _ _ h=>by cases h) (fun _ _ _ _ h=>by cases h),by rw [Nb];exact Ik.to d fun _ hj=>(by cases hj),by rw [Nb];exact ac.trans' d fun _ hj=>(by cases hj),by rw [Nb];omega,f⟩ (by show L.length-1<L.length-0;omega)
  | succ m=>
    have hm:m<cs.length:=by omega
    have e0:gt L (m+1)=Rc (gt cs m):=by rw [hL,Rz,Ni8 hm]
    obtain ⟨he,a3⟩:=Ncr C hm F
    have ae:=Xx he
    rw [e0,ae.unp] at w⊢
    simp only at w⊢
    have ax:¬(((m+1:Nat):Int)=0):=by omega
    refine NI ?_
    simp only [n26,r26,Y,Z,g,l,o,ax,SB,seval,NC,NH,NG,NQ,reduceCtorEq,ND,place,NA,NE]
    rw [Nb]
    have a6:=Xr (n:=0) F Nwt
    refine Njk (K.new d) a6 (by rw [N7];omega) (by omega) (by omega) (w.sl Rm) w.capOk (fun a N=>(w.block N).2) (fun a N r hr=>by have:=(w.block N).1;have:=(K.lt hr).2;omega) (fun t ht=>by have:=ae.size t ht;omega) (by have:=ae.len;omega) fun s' G6 hA=>?_
    rw [Nk he] at hA
    rw [he]
    obtain ⟨A,am,T⟩:=hA.chg
    have bh:=T.len
    have P:∀j∈A,G1.length<=j/\¬(h3<=j/\j<G3.length):=fun j hj=>by
     obtain ⟨r,hr⟩:=am j hj
     exact ⟨(K.lt hr).1,fun q=>(f j (.inr q)).1 r hr⟩
    refine NI ?_
    simp only [n26,r26,Y,Z,g,l,o,al,SB,seval,NC,NH,NG,NQ,reduceCtorEq,ND,place,NA,NE]
    rw [Nb]
    have ba:=y.own
    refine hN (m+1+1,s') _ _ ⟨by show m+1+1<=_;omega,Y,Z,g,l,rfl,hA.kb,by rw [hA.st];exact a3,(y.chg d (fun _ _ h=>by cases h) (fun _ _ _ _ h=>by cases h)).chg T (fun b eb hb=>?_) (fun i hi a N hb=>(P _ hb).2 (av i a hi N)),(Ik.to d fun _ hj=>(by cases hj)).to T fun j hj=>?_,(ac.trans' d fun _ hj=>(by cases hj)).trans' T fun j hj h2=>absurd (P j hj).1 (by omega),by omega,hA.sep fun j hj=>⟨?_,f j hj⟩⟩ (by show L.length-(m+1+1)<L.length-(m+1);omega)
    ·have q:=hR.own.block eb
     exact (P _ hb).2 q
    ·have q:=(P j hj).1
     have z:∀x,x∈J::D::S::blk sj.pp->j≠x:=fun x hx e=>by have:=ad x hx;omega
     exact ⟨by omega,z J (by simp),z D (by simp),z S (by simp),fun a N e=>z a.block (by simp [Sz.2 ⟨a,N,rfl⟩]) e.symm⟩
    ·rcases hj with q | q<;>omega
 ·obtain rfl:k=L.length:=by omega
  have O:¬((L.length:Int)<(L.length:Int)):=by omega
  have an:=fun X=>(QL.refl.app (X:=X)).cells K.b
  have lB:=K.lB
  have ao:=(K.lt (r:=.b) rfl).2
  obtain ⟨G',s1,g1,m1⟩:=RN ao (Vc [Vp J,.slice s.cp s.calls.length s.cc,.map (some s.M),.map (some s.X),.slice s.sp s.sc.length s.sk])
  have ay:lim<=G1.length+2:=by omega
  simp only [n26,r26,Y,Z,g,l,o,O,an,ay,s1,SB,seval,NC,NH,NG,NQ,reduceCtorEq,ND,place,NA,NE]
  rw [Nb]
  have a5:cs.take (L.length-1)=cs:=by rw [au];exact Pn
  rw [a5,C] at F
  have hu:s.st=u:=(Option.some.inj F).symm
  have V:s.st.calls=cs:=by rw [hu,VS C];rfl
  have ab:Chg [G1.length+2] G G':=Chg.refl.mut m1 (.inl (by simp))
  refine hQ s sj J (G1.length+2) G' ⟨(K.swap ab g1).le (by omega),Ik.to ab fun j hj=>?_,fun j hj=>f j (.inl (ad j hj)),by rw [U,Nb,ag,V],by rw [V,hu];exact C⟩ hu U (ac.trans' ab fun j hj h2=>by rw [Ng.1 hj] at h2;omega)
  rw [Ng.1 hj]
  have z:∀x,x∈J::D::S::blk sj.pp->G1.length+2≠x:=fun x hx e=>by have:=ad x hx;omega
  exact ⟨by omega,z J (by simp),z D (by simp),z S (by simp),fun a N e=>z a.block (by simp [Sz.2 ⟨a,N,rfl⟩]) e.symm⟩
end
theorem Ntb [OA] {lim n:Nat} {m:Int} {H:NB} {Q:Value->NB->Prop} (hl:lim<=H.length) (hn:n<2 ^ 40) (q:∀p cap H',Chg [] H H'->Own H.length H' Nek 1 p cap (WW m n)->Q (.slice p n cap) H'):NP E false lim 25 [.int .u64 m,Vi n] H Q:=by
 refine runs (by decide) e25 rfl ?_
 rw [b25,c25]
 simp only [n25,r25,SB,seval,NC,NH,NG,NQ,reduceCtorEq,ND,place,NA,NE]
 refine QC (fun s:Nat×Option Addr×Nat=>n-s.1) (fun s fr G=>s.1<=n/\fr 0=.int .u64 m/\fr 1=Vi n/\fr 5=.slice s.2.1 s.1 s.2.2/\fr 6=Vi s.1/\Chg [] H G/\Own H.length G Nek 1 s.2.1 s.2.2 (WW m s.1)) (0,none,0) ⟨N5 _,rfl,rfl,rfl,by rfl,Chg.refl.app,Own.nil⟩ ?_
 rintro ⟨i,p,cap⟩ fr G ⟨hi,h0,h1,e,f,g,d⟩ l
 simp only at hi e f d
 rw [QF Nuz.eq_1]
 refine NI ?_
 by_cases a:i<n
 ·have k:IntKind.i64.wrap ((i:Int)+1)=((i+1:Nat):Int):=Ra (by omega)
  have b:Int.tmod (i:Int) 64=((i % 64:Nat):Int):=rfl
  have c:(((i % 64:Nat):Int)<0)=False:=by simp;omega
  have o:=d
  obtain ⟨r,hp,j,h,_⟩:=d.step (lim':=lim) (bytes:=1) hl Na3 (by decide) (U5 m i) (by rw [UZ];unfold PS;omega) (by rw [UZ];omega) g.len [Vc [.bool (U5 m i)]] G.length 1 (by rw [NU];rfl)
  rw [UZ] at hp
  simp only [n25,r25,h0,h1,e,f,a,b,k,c,O1,Niw,hp,SB,seval,NC,NH,NG,NQ,reduceCtorEq,ND,place,NA,NE]
  exact l (i+1,Sa (G.length+1),loose 1) _ _ ⟨by show i+1<=_;omega,h0,h1,rfl,rfl,h _ _ (Nd _) g,by rw [Niv];exact j⟩ (by show _-(i+1)<_;omega)
 ·obtain rfl:i=n:=by omega
  simp only [n25,r25,h0,h1,e,f,a,SB,seval,NC,NH,NG,NQ,reduceCtorEq,ND,place,NA,NE]
  exact q _ _ _ g.app (d.app _)
section
variable {lim l0 n J D S iv B:Nat} {H0:NB} {jv:Value} {s:SU} {sj:SJ} {G:NB} {Q:Value->NB->Prop}
structure CD (lim n D S:Nat) (H0:NB) (iv area e lf:Nat) (safe:List QY) (rl:LR) (G:NB):Prop where
 d:NF G D=Vc [.slice (Sa S) safe.length n,Vz]
 s:NF G S=Vc (safe.flatMap Sk)
 lD:lim<=D
 lS:lim<=S
 SD:S≠D
 ko:KO area e lf safe rl
 len:safe.length=n
 fits:OC rl<=n / 2
 lf:lf<=iv+1
 e:e<=iv+1
 chg:Chg [] H0 G
 dn:H0.length<=D
 sn:H0.length<=S
def OpJ [OA] (lim n D S:Nat) (H0:NB) (iv:Nat) (cs:List (List ByteArray)) (G:NB):Prop:=
 ∀a:Value->NB->Prop,(∀J sj G1,KJ lim n J D S H0 iv sj G1->sj.bs=[]->sj.rl.map (·.2)=[]::cs.map Rc->sj.pend.length<2 ^ 30->Chg [S,D] G G1->a (.tuple #[Vp J,Vi 0]) G1)->NP E false lim 33 [Vp D] G a
theorem CD.opj [OA] {area e lf:Nat} {safe:List QY} {rl:LR} {cs:List (List ByteArray)} (c:CD lim n D S H0 iv area e lf safe rl G) (w:4<=n) (hn:n<2 ^ 15) (hi:iv<2000) (k:rl.map (·.2)=[]::cs.map Rc):OpJ lim n D S H0 (iv+1) cs G:=fun y t=>by
 obtain ⟨m,z,x⟩:=c.ko.opened
 have v:=c.lf
 have he:=c.e
 have g:=c.len
 have i:=x (by omega)
 refine Nku c.d c.s c.lD c.lS c.SD (by omega) (by omega) (by omega) (fun h=>by rw [m] at h;cases h) (fun o p l f r b=>?_) (fun o p l _ _ _=>by rw [m] at l;cases l)
 rw [m] at b
 simp only at b
 have u:=c.chg.len
 refine t p ⟨area,e,(VV safe).2+1,OC rl,none,0,safe,[],rl,[]⟩ o ⟨b,i,by simp,g,by simp [OC],c.fits,rfl,by show (VV safe).2+1<=_;omega,by show e<=_;omega,c.chg.trans' f (fun j h1 h2=>?_),(by intro a q;cases q),by omega,c.dn,c.sn⟩ rfl k (by simp) (f.mono fun j _ h=>by simp only [Ng] at h;simp [h])
 rw [Ng.1 h1] at h2
 have:=c.dn
 omega
theorem Mf {lost:List Bool}:∀(a:List Wr) (i:Nat) (s:List QY),(∀j,j<a.length->lost.getD (i+j) false=true)->RO lost i a s=s
 | [],_,_,_=>rfl
 | w::a,i,s,h=>by
   have h0:=h 0 (by simp)
   rw [Oq] at h0
   rw [RO,h0]
   simp only [Ok,Bool.and_false,No,if_false]
   exact Mf a (i+1) s fun j b=>by
    have:=h (j+1) (by simp;omega)
    rw [<-this];congr 1;omega
theorem Nm5 [OA] {pl:Option Addr} {lc:Nat} {lost:List Bool} (I:KJ lim n J D S H0 iv sj G) (hn:n<2 ^ 15) (q:Sl G Nek 1 pl lost) (l:∀a,pl=some a->lost≠[]->a.block≠S/\a.block≠D) (u:lost.length=sj.pend.length)
  (p:∀G' f k,Chg [S,D] G G'->k<=sj.bs.length->CD lim n D S H0 iv sj.area sj.e sj.lf f (sj.rl++sj.bs.take k) G'->((∀j,j<lost.length->lost.getD j false=true)->k=0)->Q (.tuple #[]) G') :
  NP E false lim 24 [Vp D,.slice pl lost.length lc] G Q:=by
 have t:=I.fits
 have o:=I.nn
 have v:=I.plen
 have b:=I.len
 refine Nhg I.li.jl.d I.li.jl.lD (fun _=>⟨rfl,I.li.s,I.li.lS⟩) I.li.SD (I.li.jl.own.sl R6) (fun a e _=>⟨I.li.ps a e,(I.li.jl.ap a e).2⟩) q l (by omega) (by omega) (by omega) rfl fun H' g i m=>?_
 have hl:(QQ lost sj.pend sj.safe).length=sj.safe.length:=QX
 have r:=I.dn
 have w:=I.sn
 have mk:∀k,k<=sj.bs.length->KO sj.area sj.e sj.lf (QQ lost sj.pend sj.safe) (sj.rl++sj.bs.take k)->CD lim n D S H0 iv sj.area sj.e sj.lf (QQ lost sj.pend sj.safe) (sj.rl++sj.bs.take k) H':=fun k y ko=>
  ⟨by rw [hl];exact i,m I.li.ne,I.li.jl.lD,I.li.lS,I.li.SD,ko,by rw [hl];exact b,by
   have h2:OC sj.bs=OC (sj.bs.take k)+OC (sj.bs.drop k):=by rw [<-RY,Pe]
   rw [RY];omega,I.lf,I.e,I.chg.trans' g (fun j h1 h2=>by simp only [Nh,Np,or_false] at h1;omega),I.dn,I.sn⟩
 by_cases c:∀j,j<lost.length->lost.getD j false=true
 ·refine p H' _ 0 g (by omega) (mk 0 (by omega) ?_) fun _=>rfl
  have e:QQ lost sj.pend sj.safe=sj.safe:=Mf _ _ _ fun j x=>by rw [Nr];exact c j (by omega)
  rw [e,Qc,Nb]
  exact I.kd.ko
 ·obtain ⟨k,k1,k2,_⟩:=I.kd.crash (lost:=lost) I.hb (by rw [<-o,b];exact t)
  rw [b,<-I.pend] at k2
  exact p H' _ k g k1 (mk k k1 k2) fun h=>absurd h c
theorem Nyn [OA] {H:NB} (hl:lim<=H.length) (c:4<=n) (hn:n<2 ^ 15):OpJ lim n (H.length+1) H.length H 0 [] (H++[Vc ((List.replicate n V7).flatMap Sk),Vc [.slice (Sa H.length) n n,Vz]]):=fun i g=>by
 have b:(List.replicate n V7).length=n:=Ph
 refine Nku (D:=H.length+1) (S:=H.length) (sc:=n) (safe:=List.replicate n V7) (by rw [NK,b];rfl) (by rw [NU];rfl) (by omega) (by omega) (by omega) (by omega) (by omega) (by rw [Npv];decide) (fun _=>by rw [Npv];decide) (fun H' J h _ _ _=>by rw [Nxf] at h;cases h) fun H' J _ d f e=>?_
 rw [Npv] at e
 have a:Chg [] H H':=(Chg.refl.app (X:=[_,_]):Chg [] H _).trans' d fun j h1 h2=>by
  simp only [Nh,Np,or_false] at h1;omega
 exact g J _ H' (KJ.begun c hn a (by simp at f;omega) (by omega) (Nd _) e) rfl rfl (by simp) d
theorem Nhe [OA] {cs:List (List ByteArray)} {u:BU} {H:NB} (hl:lim<=H0.length) (a:H0.length<=H.length) (hn:n<2 ^ 19) (b:Rq cs BU0=some u) (c:OpJ lim n D S H0 iv cs H)
  (d:∀s sj J B G',JB lim H0.length n J D S H0 iv B s sj G'->s.st=u->sj.bs=[]->Chg [S,D] H G'->Q (.tuple #[Vp B,Vi 0]) G') :
  NP E false lim 26 [Vp D] H Q:=Nsg hl a hn b c d
theorem Nj3 [OA] (h:JB lim l0 n J D S H0 iv B s sj G) (hn:n<2 ^ 15)
  (i:∀a G',JB lim l0 n J D S H0 iv B s a G'->a.rl=sj.rl++sj.bs->a.bs=[]->Chg [S,D] G G'->Q (Vi 0) G') :
  NP E false lim 22 [Vp B] G Q:=by
 refine runs (by decide) e22 rfl ?_
 rw [b22,c22]
 have d:=fun X=>(QL.refl.app (X:=X)).cells h.kb.b
 have c:=fun X (mp:Bool) (lim:Nat) (Q:Value->NB->Prop)=>VG (mp:=mp) (lim:=lim) (Q:=Q) (d X)
 simp only [n22,r22,c,d,VM,SB,seval,NC,NH,NG,NQ,reduceCtorEq,ND,place,NA,NE]
 rw [Nb]
 have e:∀j∈[S,D],j∈J::D::S::blk sj.pp:=fun j hj=>by
  simp only [Nh,Np,or_false] at hj⊢
  rcases hj with hj | hj<;>simp [hj]
 refine h.kj.commit (by omega) fun a G' g e1 e2 e3 k l m f=>?_
 refine NI ?_
 simp only [n22,r22,SB,seval,NC,NH,NG,NQ,reduceCtorEq,ND,place,NA,NE]
 rw [Nb]
 refine i a G' ⟨h.kb.to f fun j hj=>h.sep j (e j hj),g,fun j hj=>h.sep j ?_,by rw [e1,e2,Nb];exact h.rcs,h.val⟩ e1 e2 f
 rw [e3] at hj
 simp only [blk,Nh,Np,or_false] at hj⊢
 rcases hj with hj | hj | hj<;>simp [hj]
end
section
variable {lim l0 n J D S iv B:Nat} {H0:NB} {jv:Value} {s:SU} {sj:SJ} {G:NB} {Q:Value->NB->Prop}
def N0k (lim l0 n J D S:Nat) (H0:NB) (iv B:Nat) (s:SU) (sj:SJ) (G:NB) (l:List ByteArray) (e:Int) (G':NB):Prop:=
 (RU s.st l≠0/\e=RU s.st l/\JB lim l0 n J D S H0 iv B s sj G'/\Chg [] G G')\/
 (RU s.st l=0/\e=4/\n / 2<sj.nn+OT (Rc l).length/\JB lim l0 n J D S H0 iv B s sj G'/\Chg [] G G')\/
 (RU s.st l=0/\e=0/\∃s' a,JB lim l0 n J D S H0 (iv+1) B s' a G'/\s'.st=doneD s.st l/\a.rl=sj.rl/\a.bs=sj.bs++[(sj.lf,Rc l)]/\a.nn=sj.nn+OT (Rc l).length/\
  ∃A,(∀j∈A,(∃r,s.ptr B r=some j)\/j∈J::D::blk sj.pp)/\Chg A G G')
theorem DoR.ofJ [OA] {l:List ByteArray} (h:JB lim l0 n J D S H0 iv B s sj G) (hn:n<2 ^ 19) (hi:iv<1000) (hl:lim<=l0) (z:l0<=G.length) (o:H0.length<=l0) :
  DoR lim B G l (N0k lim l0 n J D S H0 iv B s sj G l):=fun p c G1 Q d f C u t=>by
 have y:=d.len
 refine Nv4 (h.new d) hn hi hl (by omega) (f.sl Rm) f.capOk (fun a k=>(f.block k).2) (fun a k=>⟨fun r hr=>by have:=(f.block k).1;have:=(h.kb.lt hr).2;omega,fun q=>by have:=(f.block k).1;have:=h.lives _ q;omega⟩) C u o
  (fun G' he b=>t _ G' (.inl ⟨he,rfl,(h.new d).new b,d.trans' b fun _ e=>by cases e⟩)) (fun G' he hr b=>t _ G' (.inr (.inl ⟨he,rfl,hr,(h.new d).new b,d.trans' b fun _ e=>by cases e⟩)))
  fun s' w G' he h' v i g ⟨A,x,m⟩ _ _ _=>t _ G' (.inr (.inr ⟨he,rfl,s',w,h',v,i,g, ?_,A,x,(d.mono fun _ _ e=>by cases e).trans' m fun j e _=>e⟩))
 have h1:=h'.kj.nn
 have h2:=h.kj.nn
 rw [i,g,RY] at h1
 simp only [OC] at h1
 omega
theorem Naj {l:List ByteArray} (h:Fine l):OT (Rc l).length<=17:=by
 have:=h.pack.2
 unfold OT;omega
theorem JB.does [OA] {l:List ByteArray} {u:BU} (h:JB lim l0 n J D S H0 iv B s sj G) (hn:n<2 ^ 19) (hi:iv<1000) (hl:lim<=l0) (d:l0<=G.length) (b:H0.length<=l0) (o:s.st=u) (he:RU u l=0) (hr:sj.nn+17<=n / 2) :
  DoR lim B G l fun e G'=>e=0/\∃s' a,JB lim l0 n J D S H0 (iv+1) B s' a G'/\s'.st=doneD u l/\a.nn<=sj.nn+17/\G.length<=G'.length/\a.rl=sj.rl:=fun p c G1 Q g i q f j=>by
 subst o
 have w:=Naj (Xx he)
 refine DoR.ofJ h hn hi hl d b p c G1 Q g i q f fun e G' m=>?_
 rcases m with ⟨k,_⟩ | ⟨_,_,k,_⟩ | ⟨_,k2,s',a,k3,r,t,_,x,A,_,v⟩
 ·exact absurd he k
 ·omega
 ·exact j e G' ⟨k2,s',a,k3,r,by omega,v.len,t⟩
theorem JB.fails [OA] {l:List ByteArray} {u:BU} {e0:Int} (h:JB lim l0 n J D S H0 iv B s sj G) (hn:n<2 ^ 19) (hi:iv<1000) (hl:lim<=l0) (b:l0<=G.length) (a:H0.length<=l0) (m:s.st=u) (he:RU u l=e0) (h0:e0≠0) :
  DoR lim B G l fun e G'=>e=e0/\JB lim l0 n J D S H0 iv B s sj G'/\Chg [] G G':=fun p c G1 Q f g o d i=>by
 subst m
 refine DoR.ofJ h hn hi hl b a p c G1 Q f g o d fun e G' j=>?_
 rcases j with ⟨_,k1,k2,k3⟩ | ⟨k,_⟩ | ⟨k,_⟩
 ·exact i e G' ⟨by rw [k1,he],k2,k3⟩
 ·exact absurd (he.symm.trans k) h0
 ·exact absurd (he.symm.trans k) h0
theorem Ncz:∀(l:LR),OC l=((l.map (·.2)).map fun b=>OT b.length).sum
 | []=>rfl
 | x::l=>by simp only [OC,Of,List.sum_cons,Ncz l]
theorem Vx:∀{cs:List (List ByteArray)} {u v:BU},Rq cs u=some v->∀c∈cs,Fine c
 | [],u,v,h,c,hc=>by cases hc
 | c::cs,u,v,h,x,hx=>by
   rw [Rq] at h
   split at h
   ·rename_i he
    rcases Nh.1 hx with rfl | hx
    ·exact Xx he
    ·exact Vx h x hx
   ·cases h
theorem No7:∀{l:List (List ByteArray)},(∀c∈l,Fine c)->((l.map Rc).map fun b=>OT b.length).sum<=17*l.length
 | [],_=>by simp
 | c::l,h=>by
   have h1:=Naj (h c (by simp))
   have h2:=No7 (l:=l) fun x a=>h x (by simp [a])
   simp only [Of,List.sum_cons,Nm]
   omega
theorem JB.fine (h:JB lim l0 n J D S H0 iv B s sj G):∀c∈s.calls,c.c≠[]/\c.c.length<2 ^ 40:=fun c hc=>by
 have a:=Vx h.val c.c (List.mem_map.2 ⟨c,hc,rfl⟩)
 exact ⟨a.ne,by have:=a.len;omega⟩
theorem JB.room {u:BU} (h:JB lim l0 n J D S H0 iv B s sj G) (b:s.st=u):sj.nn<=1+17*u.calls.length:=by
 subst b
 have h1:=h.kj.nn
 rw [<-RY,Ncz,h.rcs] at h1
 have h2:=No7 (Vx h.val)
 have a:OT ([]:List UInt8).length=1:=by decide
 simp only [Of,List.sum_cons,a] at h1
 omega
end
def Nsh:ByteArray:=⟨#[65,110,110]⟩
def cx1:List ByteArray:=[SV,NV 5,Nsh]
def cx2:List ByteArray:=[TK,NV 5,NV 1000]
def cx3:List ByteArray:=[SH,NV 77,NV 5,NV 12,NV 300]
def cx4:List ByteArray:=[SH,NV 78,NV 5,NV 12,NV 701]
def cx5:List ByteArray:=[Rb,NV 77,NV 50]
def cx6:List ByteArray:=[TK,⟨#[48,53]⟩,⟨#[49]⟩]
def cx7:List ByteArray:=[TK,⟨#[53]⟩,⟨#[48]⟩]
def cx8:List ByteArray:=[TK,⟨#[54]⟩,⟨#[49]⟩]
def cx9:List ByteArray:=[TK,NV 5,NV 1]
def ux1:BU:=doneD BU0 cx1
def ux2:BU:=doneD ux1 cx2
def ux3:BU:=doneD ux2 cx3
def ux4:BU:=doneD ux3 cx5
theorem ex1:RU BU0 cx1=0:=by decide +kernel
theorem ex2:RU ux1 cx2=0:=by decide +kernel
theorem ex3:RU ux2 cx3=0:=by decide +kernel
theorem ex4:RU ux3 cx4=431:=by decide +kernel
theorem ex5:RU ux3 cx5=0:=by decide +kernel
theorem Nyu:RU ux4 cx5=430:=by decide +kernel
theorem ex6:RU ux4 cx6=432:=by decide +kernel
theorem ex7:RU ux4 cx7=2:=by decide +kernel
theorem ex8:RU ux4 cx8=6:=by decide +kernel
theorem ex9:RU ux4 cx9=0:=by decide +kernel
theorem exL:((PE 5 ux3.ms).getD noM).ents=[⟨1,0,1000,1000⟩,⟨2,77,300,700⟩]/\(PE 5 ux3.ms).isSome=true:=by decide +kernel
theorem exC:ux4.calls=[[SV,⟨#[53]⟩,Nsh],[TK,⟨#[53]⟩,⟨#[49,48,48,48]⟩],[SH,⟨#[55,55]⟩,⟨#[53]⟩,⟨#[49,50]⟩,⟨#[51,48,48]⟩],[Rb,⟨#[55,55]⟩,⟨#[53,48]⟩]]:=by decide +kernel
theorem exB:Rn ((PE 5 ux4.ms).getD noM).ents=750/\(PE 5 ux4.ms).isSome=true:=by decide +kernel
theorem Rs {n:Int} (h0:0<=n) (h1:n<=1000000):XT n:=⟨by omega,by omega⟩
theorem Nmb:∀m:Fin 64,U5 18446744073709551615 m.val=true:=by decide +kernel
theorem Nqq {k:Nat}:∀j,j<(WW 18446744073709551615 k).length->(WW 18446744073709551615 k).getD j false=true:=fun j b=>by
 have a:j<k:=by rwa [UZ] at b
 have e:U5 18446744073709551615 j=U5 18446744073709551615 (j % 64):=by
  unfold U5
  rw [Nat.mod_mod]
 unfold WW
 rw [Na,O0,List.getElem?_range a]
 show U5 18446744073709551615 j=true
 rw [e]
 exact Nmb ⟨j % 64,P3 _ (by decide)⟩
theorem Ng4 [OA] {mp:Bool} {lim:Nat} {H:NB} {Q:Value->NB->Prop} (W:OA.on=false):NP E mp lim 17 [] H Q=Q (.bool true) H:=by
 refine Nbx (E:=E) (by simp [E,orc,effP,W]) (show E.tr 17=some a17 from e17) rfl rfl (NI ?_)
 rw [b17,c17]
 simp only [n17,r17,SB,seval,NC,NH,NG,NQ,reduceCtorEq,ND,place,NA,NE]
 rw [Nb]
 obtain ⟨n,hn⟩:∃n:Nat,n=200:=⟨_,rfl⟩
 rw [show Value.int .i64 200=Vi n by rw [hn];rfl]
 refine Nj2 (by omega) (by omega) ?_
 refine NI ?_
 simp only [n17,r17,VM,SB,seval,NC,NH,NG,NQ,reduceCtorEq,ND,place,NA,NE]
 refine Nhe (H0:=H) (n:=n) (S:=H.length) (Nd _) (by simp) (by omega) (cs:=[]) (u:=BU0) rfl (Nyn (Nd _) (by omega) (by omega)) fun s0 j0 J B G0 h0 Y bo bn=>?_
 have g0:H.length<=G0.length:=h0.kj.chg.len
 have c0:BU0.calls.length=0:=rfl
 have c1:ux1.calls.length=1:=by decide +kernel
 have c2:ux2.calls.length=2:=by decide +kernel
 have c3:ux3.calls.length=3:=by decide +kernel
 have c4:ux4.calls.length=4:=by decide +kernel
 refine NI ?_
 simp only [n17,r17,SB,seval,NC,NH,NG,NQ,reduceCtorEq,ND,place,NA,NE]
 rw [Nb]
 have r0:=h0.room Y
 refine Nkw (by omega) (Rs (by decide) (by decide)) (by decide) (h0.does (l:=cx1) (by omega) (by omega) (Nd _) (by omega) (Nd _) Y ex1 (by omega)) fun e1 G1 ⟨ao,s1,j1,h1,Z,_,bq,_⟩=>?_
 subst ao
 refine NI ?_
 simp only [n17,r17,SB,seval,NC,NH,NG,NQ,reduceCtorEq,ND,place,NA,NE]
 rw [Nb]
 have r1:=h1.room (u:=ux1) Z
 refine Nes (by omega) (Rs (by decide) (by decide)) (Rs (by decide) (by decide)) (h1.does (l:=cx2) (by omega) (by omega) (Nd _) (by omega) (Nd _) Z ex2 (by omega)) fun e2 G2 ⟨aq,s2,j2,h2,ab,_,br,_⟩=>?_
 subst aq
 refine NI ?_
 simp only [n17,r17,SB,seval,NC,NH,NG,NQ,reduceCtorEq,ND,place,NA,NE]
 rw [Nb]
 have r2:=h2.room (u:=ux2) ab
 refine M9 (by omega) (Rs (by decide) (by decide)) (Rs (by decide) (by decide)) (Rs (by decide) (by decide)) (Rs (by decide) (by decide)) (h2.does (l:=cx3) (by omega) (by omega) (Nd _) (by omega) (Nd _) ab ex3 (by omega)) fun e3 G3 ⟨au,s3,j3,h3,h,_,bt,_⟩=>?_
 subst au
 refine NI ?_
 simp only [n17,r17,SB,seval,NC,NH,NG,NQ,reduceCtorEq,ND,place,NA,NE]
 rw [Nb]
 refine M9 (by omega) (Rs (by decide) (by decide)) (Rs (by decide) (by decide)) (Rs (by decide) (by decide)) (Rs (by decide) (by decide)) (h3.fails (l:=cx4) (by omega) (by omega) (Nd _) (by omega) (Nd _) h ex4 (by decide)) fun e4 G4 ⟨av,h4,ag⟩=>?_
 subst av
 have bu:=ag.len
 refine NI ?_
 simp only [n17,r17,SB,seval,NC,NH,NG,NQ,reduceCtorEq,ND,place,NA,NE]
 rw [Nb]
 refine ZB h4.kb (by omega) (fun m V=>by have:=(h4.wf.ents 5 m.m (by rw [RH,V];rfl)).1;have:=h4.many;omega) fun A c5 G5 K g _=>?_
 rw [show s3.st=ux3 from h,exL.1] at g⊢
 rw [exL.2]
 have bv:=K.len
 have i0:∀X,X9 4 (.slice A 2 c5) (Vi 0) X=some (.pointer (some (WA A 4 0)),X):=fun X=>g.idx (i:=0) (by decide)
 have i1:∀X,X9 4 (.slice A 2 c5) (Vi 1) X=some (.pointer (some (WA A 4 1)),X):=fun X=>g.idx (i:=1) (by decide)
 have l0:∀X,AM.loadCells (G5++X) (WA A 4 0) 4=some [.int .u8 1,Vi 0,Vi 1000,Vi 1000]:=fun X=>(g.app X).loadCells SQ (i:=0) (by decide)
 have l1:∀X,AM.loadCells (G5++X) (WA A 4 1) 4=some [.int .u8 2,Vi 77,Vi 300,Vi 700]:=fun X=>(g.app X).loadCells SQ (i:=1) (by decide)
 have q0:VM (.agg [.int .u8,.int .i64,.int .i64,.int .i64]) (.agg #[.int .u8 1,Vi 0,Vi 1000,Vi 1000]) (.agg #[.int .u8 1,Vi 0,Vi 1000,Vi 1000])=some true:=by rfl
 have q1:VM (.agg [.int .u8,.int .i64,.int .i64,.int .i64]) (.agg #[.int .u8 2,Vi 77,Vi 300,Vi 700]) (.agg #[.int .u8 2,Vi 77,Vi 300,Vi 700])=some true:=by rfl
 refine NI ?_
 simp only [n17,r17,i0,i1,l0,l1,q0,q1,Ok,SB,seval,NC,NH,NG,NQ,reduceCtorEq,ND,place,NA,NE]
 rw [Nb]
 have h5:=h4.new K
 refine ZA (by omega) (Rs (by decide) (by decide)) (Rs (by decide) (by decide)) (h5.does (l:=cx5) (by omega) (by omega) (Nd _) (by omega) (Nd _) h ex5 (by have:=h5.room (u:=ux3) h;omega)) fun e6 G6 ⟨aw,s6,j6,h6,c,_,bw,_⟩=>?_
 subst aw
 refine NI ?_
 simp only [n17,r17,SB,seval,NC,NH,NG,NQ,reduceCtorEq,ND,place,NA,NE]
 rw [Nb]
 refine ZA (by omega) (Rs (by decide) (by decide)) (Rs (by decide) (by decide)) (h6.fails (l:=cx5) (by omega) (by omega) (Nd _) (by omega) (Nd _) c Nyu (by decide)) fun e7 G7 ⟨ax,h7,ah⟩=>?_
 subst ax
 have bx:=ah.len
 refine NI ?_
 simp only [n17,r17,SB,seval,NC,NH,NG,NQ,reduceCtorEq,ND,place,NA,NE]
 rw [Nb]
 refine Nbw h7.kb (by omega) (by have:=h7.many;omega) h7.fine fun f R8 d8 L M=>?_
 have bz:=L.len
 have h8:=h7.new L
 have an:s6.calls.length=4:=by
  have:=Qn (fun u:BU=>u.calls.length) c
  simp only [SU.st,Nz] at this
  rw [this];exact c4
 rw [show s6.st=ux4 from c,exC] at M
 rw [an]
 have lX:=fun X=>Ngi (mp:=false) (lim:=H.length) (k1:=4) (k2:=4) (Q:=X) (M.rows.app [Vc [.string SV,.string ⟨#[53]⟩,.string Nsh],Vc [.string TK,.string ⟨#[53]⟩,.string ⟨#[49,48,48,48]⟩],Vc [.string SH,.string ⟨#[55,55]⟩,.string ⟨#[53]⟩,.string ⟨#[49,50]⟩,.string ⟨#[51,48,48]⟩],Vc [.string Rb,.string ⟨#[55,55]⟩,.string ⟨#[53,48]⟩],Vc [.slice (Sa f.length) 3 3,.slice (Sa (f.length+1)) 3 3,.slice (Sa (f.length+2)) 5 5,.slice (Sa (f.length+3)) 3 3]])
  (q:=Sa (f.length+4)) (db:=[(Sa f.length,3,3),(Sa (f.length+1),3,3),(Sa (f.length+2),5,5),(Sa (f.length+3),3,3)]) (b:=[[SV,⟨#[53]⟩,Nsh],[TK,⟨#[53]⟩,⟨#[49,48,48,48]⟩],[SH,⟨#[55,55]⟩,⟨#[53]⟩,⟨#[49,50]⟩,⟨#[51,48,48]⟩],[Rb,⟨#[55,55]⟩,⟨#[53,48]⟩]])
  ⟨Sl.row TM (ro:=false) (by rw [NK];rfl),rfl,fun k hk=>by
   rcases (show k=0\/k=1\/k=2\/k=3 by simp at hk;omega) with rfl | rfl | rfl | rfl
   ·exact ⟨rfl,Sl.row Rm (ro:=false) (by rw [NU];rfl)⟩
   ·exact ⟨rfl,Sl.row Rm (ro:=false) (by rw [NK];rfl)⟩
   ·exact ⟨rfl,Sl.row Rm (ro:=false) (by rw [NK];rfl)⟩
   ·exact ⟨rfl,Sl.row Rm (ro:=false) (by rw [NK];rfl)⟩⟩ rfl rfl (by decide) (fun k hk=>by
   rcases (show k=0\/k=1\/k=2\/k=3 by simp at hk;omega) with rfl | rfl | rfl | rfl<;>decide)
 simp only [Nm,Nn,Nr,Nat.reduceAdd,eq_self,decide_true] at lX
 refine NI ?_
 simp only [n17,r17,SB,seval,NC,NH,NG,NQ,reduceCtorEq,ND,place,NA,NE]
 refine Eq.mpr (lX _) ?_
 have g8:∀X,f.length<=(f++X).length:=fun X=>by simp
 refine NI ?_
 simp only [n17,r17,Ok,SB,seval,NC,NH,NG,NQ,reduceCtorEq,ND,place,NA,NE]
 refine h8.fails (l:=cx6) (by omega) (by omega) (Nd _) (by omega) (Nd _) c ex6 (by decide) _ _ _ _ Chg.refl.app (.inr ⟨f.length+5,rfl,rfl,by decide,by rw [NK];rfl,by omega⟩) (by decide +kernel) (by decide) fun e9 G9 ⟨ay,h9,ai⟩=>?_
 subst ay
 have b0:=ai.len
 refine NI ?_
 simp only [n17,r17,SB,seval,NC,NH,NG,NQ,reduceCtorEq,ND,place,NA,NE]
 refine h9.fails (l:=cx7) (by omega) (by omega) (Nd _) (by omega) (Nd _) c ex7 (by decide) _ _ _ _ Chg.refl.app (.inr ⟨G9.length,rfl,rfl,by decide,by rw [NU];rfl,by omega⟩) (by decide +kernel) (by decide) fun bm ac ⟨P,ad,D⟩=>?_
 subst P
 have a3:=D.len
 refine NI ?_
 simp only [n17,r17,SB,seval,NC,NH,NG,NQ,reduceCtorEq,ND,place,NA,NE]
 refine ad.fails (l:=cx8) (by omega) (by omega) (Nd _) (by omega) (Nd _) c ex8 (by decide) _ _ _ _ Chg.refl.app (.inr ⟨ac.length,rfl,rfl,by decide,by rw [NU];rfl,by omega⟩) (by decide +kernel) (by decide) fun e11 bc ⟨R,C,F⟩=>?_
 subst R
 have a4:=F.len
 refine NI ?_
 simp only [n17,r17,SB,seval,NC,NH,NG,NQ,reduceCtorEq,ND,place,NA,NE]
 rw [Nb]
 refine Nj3 C (by omega) fun b3 bd w y am G=>?_
 have a5:=G.len
 have t:=C.rcs
 rw [<-y] at t
 refine NI ?_
 simp only [n17,r17,SB,seval,NC,NH,NG,NQ,reduceCtorEq,ND,place,NA,NE]
 rw [Nb]
 have r12:=w.room (u:=ux4) c
 refine Nes (by omega) (Rs (by decide) (by decide)) (Rs (by decide) (by decide)) (w.does (l:=cx9) (by omega) (by omega) (Nd _) (by omega) (Nd _) c ex9 (by omega)) fun e13 be ⟨T,b5,o,e,ba,_,a6,z⟩=>?_
 subst T
 have ak:=fun X=>(QL.refl.app (X:=X)).cells e.kj.li.jl.d
 have b2:=e.kj.plen
 have b1:=e.kj.nn
 have bp:=e.kj.fits
 refine NI ?_
 simp only [n17,r17,ak,SB,seval,NC,NH,NG,NQ,reduceCtorEq,ND,place,NA,NE]
 rw [Nb]
 refine Ntb (by omega) (by omega) fun pl cl bf p r=>?_
 have a8:=p.len
 have ae:=e.new p
 have U:(WW 18446744073709551615 o.pend.length).length=o.pend.length:=UZ
 refine NI ?_
 simp only [n17,r17,SB,seval,NC,NH,NG,NQ,reduceCtorEq,ND,place,NA,NE]
 rw [Nb]
 have O:=fun Q hQ=>Nm5 (lc:=cl) (Q:=Q) ae.kj (by omega) (r.sl Na3) (fun a ea _=>by have:=(r.block ea).1;have:=e.kj.lives;omega) U hQ
 rw [U] at O
 refine O _ fun bg safe k I hk aj N=>?_
 have az:=N fun j hj=>Nqq j (by rw [UZ];exact hj)
 subst az
 have a9:=I.len
 have a0:(o.rl++o.bs.take 0).map (·.2)=[]::ux4.calls.map Rc:=by
  rw [Qc,Nb,z,t,show s6.st=ux4 from c]
 have v:=w.val
 rw [show s6.st=ux4 from c] at v
 refine NI ?_
 simp only [n17,r17,SB,seval,NC,NH,NG,NQ,reduceCtorEq,ND,place,NA,NE]
 rw [Nb]
 refine Nhe (H0:=H) (n:=n) (Nd _) (by omega) (by omega) v (aj.opj (by omega) (by omega) (by omega) a0) fun a2 b4 bl bb bh x aa _ _=>?_
 have s:=fun X (mp:Bool) (lim:Nat) (Q:Value->NB->Prop)=>Yv (id:=5) (mp:=mp) (lim:=lim) (Q:=Q) (x.kb.new (Chg.refl.app (X:=X))) (fun m V=>by have:=(x.wf.ents 5 m.m (by rw [RH,V];rfl)).1;have:=x.many;omega)
 have al:Ng3 a2.st 5=(750,0):=by
  rw [aa]
  unfold Ng3
  obtain ⟨m,V⟩:=Option.isSome_iff_exists.1 exB.2
  have:=exB.1
  rw [V] at this⊢
  simp only [Oj] at this
  simp only [this]
 rw [al] at s
 refine NI ?_
 simp only [n17,r17,s,SB,seval,NC,NH,NG,NQ,reduceCtorEq,ND,place,NA,NE]
section
variable {lim l0 l1 A B:Nat} {jv jw:Value} {s r:SU} {G:NB} {Q:Value->NB->Prop}
theorem Bnd.of {cs:List (List ByteArray)} {u:BU} (h:Rq cs BU0=some u) (hn:cs.length<2 ^ 30):Bnd u:=by
 have hc:u.calls=cs:=by rw [VS h];rfl
 have d:=Xr (n:=0) h Nwt
 rw [Nr] at d
 refine ⟨by rw [hc];exact hn,fun c a=>?_,fun id m e=>?_⟩
 ·rw [hc] at a
  have b:=Vx h c a
  exact ⟨b.ne,by have:=b.len;omega⟩
 ·have:=d.ents id m e
  omega
structure Apart (A:Nat) (s:SU) (B:Nat) (r:SU):Prop where
 pp:∀x1 y1 j,s.ptr A x1=some j->r.ptr B y1≠some j
 pc:∀x1 j,s.ptr A x1=some j->∀c∈r.calls,∀a,c.p=some a->a.block≠j
 cp:∀y1 j,r.ptr B y1=some j->∀c∈s.calls,∀a,c.p=some a->a.block≠j
theorem Apart.symm (h:Apart A s B r):Apart B r A s:=⟨fun x1 y1 j h1 h2=>h.pp y1 x1 j h2 h1,h.cp,h.pc⟩
theorem Apart.aft {u:BU} {s':SU} {G':NB} (h:Apart A s B r) (F:Aft l0 A jv s G u s' G') (hb:KB l1 B jw r G):Apart A s' B r/\KB l1 B jw r G':=by
 obtain ⟨X,g,f⟩:=F.chg
 refine ⟨⟨fun x1 y1 j h1 h2=>?_,fun x1 j h1 c hc a b e=>?_,fun y1 j h1 c hc a b e=>?_⟩,hb.to f fun j i=>?_⟩
 ·rcases F.ptr x1 j h1 with q | q
  ·exact h.pp x1 y1 j q h2
  ·have:=(hb.lt h2).2;omega
 ·rcases F.ptr x1 j h1 with q | q
  ·exact h.pc x1 j q c hc a b e
  ·have:=(hb.cs c hc).2 a b;omega
 ·rcases F.calls c hc with q | q
  ·exact h.cp y1 j h1 c q a b e
  ·have:=q a b;have:=(hb.lt h1).2;omega
 ·obtain ⟨x1,d⟩:=g j i
  exact ⟨fun y1 k=>h.pp x1 y1 j d k,h.pc x1 j d⟩
theorem KB.soft (h:KB l0 B jv s G) {r:Ro} {j:Nat} (hr:s.ptr B r=some j):SC true (NF G j)=false:=by
 have hb:∀{α:Type} {enc:α->List Value} {e c:Nat} {p:Option Addr} {l:List α},Own l0 G enc e p c l->bk p=some j->SC true (NF G j)=false:=fun ho hp=>by
  obtain ⟨a,rfl,rfl⟩:=Nc.1 hp
  rcases ho with ⟨_,q,_⟩ | ⟨R,q,_,k,_⟩
  ·cases q
  ·cases q;show SC true (NF G R)=false;rw [k];rfl
 cases r with
 | b=>cases hr;rw [h.b];rfl
 | m=>cases hr;rw [h.m];rfl
 | x=>cases hr;rw [h.x];rfl
 | c=>exact hb h.oc hr
 | s=>exact hb h.os hr
 | e id=>
   obtain ⟨m,d,hp⟩:=Option.bind_eq_some_iff.1 hr
   exact hb (h.oe id m d) hp
 | i id=>
   obtain ⟨m,d,hp⟩:=Option.bind_eq_some_iff.1 hr
   exact hb (h.oi id m d) hp
theorem KB.kept {u:BU} {s':SU} {G':NB} (h:KB l0 B jv s G) (F:Aft l0 B jv s G u s' G'):Vj true G G'=true:=by
 obtain ⟨X,d,b⟩:=F.chg
 refine Nfc fun j a=>b.other j ?_ fun q=>?_
 ·obtain ⟨ro,c,hc⟩:=Ta a
  exact NJ hc
 ·obtain ⟨r,hr⟩:=d j q
  rw [h.soft hr] at a;cases a
theorem Njp {x:Stp}:(∀t∈QM x,t.size<=100)/\(QM x).length<=7:=by
 have sn:(nameOf x).size<=100:=by show 2<=100;decide
 have a:∀v,(NV v).size<=100:=fun v=>by have:=Uw (n:=v);omega
 have s1:SV.size<=100:=by decide
 have b:TK.size<=100:=by decide
 have c:SH.size<=100:=by decide
 have d:Tm.size<=100:=by decide
 have e:Rb.size<=100:=by decide
 unfold QM
 split
 ·exact ⟨by simp [s1,a,sn],by simp⟩
 split
 ·exact ⟨by simp [b,a],by simp⟩
 split
 ·exact ⟨by simp [c,a],by simp⟩
 split
 ·exact ⟨by simp [d,a],by simp⟩
 ·exact ⟨by simp [e,a],by simp⟩
theorem Wf.if {n:Nat} {u:BU} {c:List ByteArray} (h:Wf n u):Wf (n+1) (if RU u c=0 then doneD u c else u):=by
 by_cases he:RU u c=0
 ·rw [Nk he];exact h.stepD he
 ·rw [Ni he]
  exact ⟨by have:=h.calls;omega,(show Nck n u.ms from h.ents).le (by omega),h.frm,h.sc⟩
end
section
variable {lim l0 l1 A B:Nat} {jv jw:Value} {s r:SU} {G:NB} {Q:Value->NB->Prop}
theorem BureauDoes_ok [OA] (hA:OA.on=false) {c:Nat} {p:Option Addr} {L:List Stp} {H:NB} (hl:lim<=H.length) (hs:Sl H encU 5 p L) (hL:∀x∈L,StOk x) (hn:L.length<2 ^ 63) (aj:∀a,p=some a->L≠[]->∃c,NF H a.block=.cells true c)
  (hQ:∀G,Q (.bool true) G):NP E false lim 7 [.slice p L.length c] H Q:=by
 have no:∀{j:Nat} {A:Prop},j∈([]:List Nat)->A:=fun h=>by cases h
 refine runs (by decide) e7 rfl ?_
 rw [b7,c7]
 simp only [n7,r7,SB,seval,NC,NH,NG,NQ,reduceCtorEq,ND,place,NA,NE]
 rw [Nb]
 refine Nj1 hl fun G1 K1 N=>?_
 have l1:=N.len
 refine NI ?_
 simp only [n7,r7,SB,seval,NC,NH,NG,NQ,reduceCtorEq,ND,place,NA,NE]
 rw [Nb]
 refine Nj1 (by omega) fun G2 K2 v=>?_
 have l2:=v.len
 refine NI ?_
 simp only [n7,r7,SB,seval,NC,NH,NG,NQ,reduceCtorEq,ND,place,NA,NE]
 refine QC (fun x:Nat×SU×SU=>40-x.1) (fun x fr G=>x.1<=40/\x.1<=L.length/\fr 0=.slice p L.length c/\fr 3=Vp (H.length+2)/\fr 4=Vp (G1.length+2)/\fr 5=Vi x.1/\
   KB H.length (H.length+2) (.pointer none) x.2.1 G/\KB G1.length (G1.length+2) (.pointer none) x.2.2 G/\Apart (H.length+2) x.2.1 (G1.length+2) x.2.2/\x.2.2.st=x.2.1.st/\Rq x.2.1.st.calls BU0=some x.2.1.st/\Wf x.1 x.2.1.st/\Chg [] H G) (0,SU0 H.length,SU0 G1.length)
  ⟨N5 _,N5 _,rfl,rfl,rfl,rfl,by rw [Nb];exact K1.new v,by rw [Nb];exact K2,⟨fun x1 y1 j h1 h2=>?_,fun x1 j h1 c hc=>(by cases hc),fun x1 j h1 c hc=>(by cases hc)⟩,rfl,rfl,Nwt,by rw [Nb];exact N.trans' v fun _ h=>no h⟩ ?_
 ·have:=(K1.lt h1).2
  have:=(K2.lt h2).1
  omega
 rintro ⟨i,s,r⟩ fr G ⟨hi,ae,z,B,C,D,y,P,F,n,u,o,Z⟩ hN
 simp only at hi ae D y P F n u o
 have ag:=Z.len
 have an:G1.length<=G.length:=by have:=(P.lt (r:=.b) rfl);omega
 have T:Bnd s.st:=Bnd.of u (by have:=o.calls;omega)
 rw [QF Nxn.eq_1]
 refine NI ?_
 by_cases m:i<L.length
 ·have d:(i:Int)<(L.length:Int):=by omega
  by_cases aq:i<40
  ·have f:(i:Int)<40:=by omega
   have hg:=Z.sl hs fun _ _ _ h=>no h
   have ah:=fun X=>(hg.app X).loadCells Nr0 m
   have V:=fun c (kk:IntKind) (H1:NB)=>hg.idx (c:=c) (k:=kk) (H1:=H1) m
   have ak:IntKind.i64.wrap ((i:Int)+1)=((i+1:Nat):Int):=Ra (by omega)
   have hx:=hL _ (Xb m)
   have W:L≠[]:=fun e=>by rw [e] at m;simp at m
   obtain ⟨a,rfl⟩:=hs.some W
   obtain ⟨c0,ad⟩:=aj a rfl W
   have ai:∀X,SC true (NF (G++X) (WA (some a) 5 i).block)=true:=fun X=>by
    have e:(WA (some a) 5 i).block=a.block:=by unfold WA addrOf Addr.add;first | rfl | (split<;>rfl)
    rw [e]
    rw [(Z.app (X:=X)).cells ad fun h=>no h];rfl
   simp only [n7,r7,z,B,C,D,d,f,V,ah,ai,SB,seval,NC,NH,NG,NQ,reduceCtorEq,ND,place,NA,NE]
   rw [Nb]
   refine Nv5 hx y o (by omega) hl ag fun s' G' w=>?_
   refine ⟨y.kept w, ?_⟩
   obtain ⟨I,q⟩:=F.aft w P
   have K:=KB.chg y (Nd _) Z w
   have am:=K.len
   have au:=q.lt (r:=.b) rfl
   refine NI ?_
   simp only [n7,r7,SB,seval,NC,NH,NG,NQ,reduceCtorEq,ND,place,NA,NE]
   rw [Nb]
   refine No6 hx (by omega) fun R Gt g S av=>?_
   have ao:=g.len
   have Y:Wf i r.st:=by rw [n];exact o
   have U:=Njp (x:=gt L i)
   have ab:=I.symm
   refine NI ?_
   simp only [n7,r7,SB,seval,NC,NH,NG,NQ,reduceCtorEq,ND,place,NA,NE]
   rw [Nb]
   refine Njk (l0:=G1.length) (q.new g) Y (by omega) (by omega) (by omega) (Sl.row Rm S) (.inr ⟨Nd _,by omega⟩) (fun b eb=>by cases eb;exact NJ S) (fun b eb x1 al=>by cases eb;have:=(q.lt al).2;simp only at this;omega) (fun t ht=>by have:=U.1 t ht;omega) (by omega) fun r' Gd l=>?_
   have O:=l.pre g
   obtain ⟨J,ac⟩:=ab.aft O w.kb
   rw [n] at l O⊢
   refine NI ?_
   simp only [n7,r7,z,B,C,D,ak,SB,seval,NC,NH,NG,NQ,reduceCtorEq,ND,place,NA,NE]
   refine hN (i+1,s',r') _ _ ⟨by show i+1<=40;omega,by show i+1<=_;omega,z,B,C,rfl,by rw [Nb];exact ac,by rw [Nb];exact l.kb,J.symm, ?_, ?_, ?_, ?_⟩ (by show 40-(i+1)<40-i;omega)
   ·show r'.st=s'.st
    rw [l.st,w.st]
   ·show Rq s'.st.calls BU0=some s'.st
    rw [w.st]
    by_cases he:RU s.st (QM (gt L i))=0
    ·rw [Nk he,UG he];exact WM u he
    ·rw [Ni he];exact u
   ·show Wf (i+1) s'.st
    rw [w.st];exact o.if
   ·rw [Nb]
    have h1:=KB.chg (q.new g) (by omega) (K.trans' g fun _ h=>no h) l
    exact h1
  ·have f:¬(i:Int)<40:=by omega
   simp only [n7,r7,z,B,C,D,d,f,SB,seval,NC,NH,NG,NQ,reduceCtorEq,ND,place,NA,NE]
   rw [Nb]
   refine Nj9 y P n T (by omega) fun aa M=>?_
   refine NI ?_
   simp only [n7,r7,Ng4 hA,SB,seval,NC,NH,NG,NQ,reduceCtorEq,ND,place,NA,NE]
   exact hQ _
 ·have d:¬(i:Int)<(L.length:Int):=by omega
  simp only [n7,r7,z,B,C,D,d,SB,seval,NC,NH,NG,NQ,reduceCtorEq,ND,place,NA,NE]
  rw [Nb]
  refine Nj9 y P n T (by omega) fun aa M=>?_
  refine NI ?_
  simp only [n7,r7,Ng4 hA,SB,seval,NC,NH,NG,NQ,reduceCtorEq,ND,place,NA,NE]
  exact hQ _
end
end Go.Proofs.YtancgcogjokfcaaGreatDoor.Fn


