/-
  Joined texts, 8 of 10. A part of the claim that the last text states.
-/
import Derived.Test.YtohnaffmcjbpoaaGreatPT7
set_option linter.unusedVariables false
set_option linter.unusedSimpArgs false
set_option linter.defProp false
set_option linter.unusedSectionVars false
set_option maxRecDepth 100000
set_option maxHeartbeats 4000000
namespace Go.Flow
open Go.AM Go.Net
theorem Nci:∀{C:List (Leg×Int)} {X:List Pr} {x:Ld},x∈RF C X->∃c∈C,x.leg=c.1.id/\x.dep=c.2/\x.arr=c.2+c.1.mins
 | [],X,x,h=>by cases X<;>simp [RF] at h
 | c::C,[],x,h=>by simp [RF] at h
 | c::C,q::X,x,h=>by
   rw [RF] at h
   rcases Nv.1 h with h | h
   ·split at h
    ·rw [Nj] at h
     subst h
     exact ⟨c,Nn,rfl,rfl,rfl⟩
    ·cases h
   ·obtain ⟨d,h1,h2⟩:=Nci h
    exact ⟨d,Ni _ h1,h2⟩
theorem M6 {PL:List (Int×Int)} {to:Int}:∀{C:List (Leg×Int)} {X:List Pr} {x:Ld},WX (Tu PL to C) X->x∈RF C X->∃c∈C,x.leg=c.1.id/\x.dep=c.2/\x.arr=c.2+c.1.mins/\0<x.gr/\x.gr<=c.1.grams
 | [],X,x,_,h=>by cases X<;>simp [RF] at h
 | c::C,[],x,_,h=>by simp [RF] at h
 | c::C,q::X,x,hN,h=>by
   obtain ⟨⟨h1,h2,g,b⟩,e⟩:=hN
   rw [RF] at h
   rcases Nv.1 h with h | h
   ·split at h
    ·rename_i f
     rw [Nj] at h
     subst h
     exact ⟨c,Nn,rfl,rfl,rfl,f,b⟩
    ·cases h
   ·obtain ⟨d,g1,a⟩:=M6 (PL:=PL) (to:=to) e h
    exact ⟨d,Ni _ g1,a⟩
def Apart (c d:Leg×Int):Prop:=¬(c.1.id=d.1.id/\c.2=d.2)
theorem Nac:∀{C:List (Leg×Int)} {X:List Pr},C.Pairwise Apart->(RF C X).Pairwise fun a b=>¬(a.leg=b.leg/\a.dep=b.dep)
 | [],X,_=>by cases X<;>simp [RF]
 | c::C,[],_=>by simp [RF]
 | c::C,q::X,h=>by
   obtain ⟨h1,h2⟩:=List.pairwise_cons.1 h
   have ih:=Nac (X:=X) h2
   rw [RF,Rr]
   refine ⟨by split<;>simp,ih,fun a f b g e=>?_⟩
   split at f
   ·rw [Nj] at f
    subst f
    obtain ⟨d,hd,e1,e2,_⟩:=Nci g
    exact h1 d hd ⟨e.1.trans e1,e.2.trans e2⟩
   ·cases f
theorem Nhf {L:List Leg} {to dl:Int} (h:L.Pairwise fun a b=>a.id≠b.id):(NN L to dl).Pairwise Apart:=by
 unfold NN
 rw [List.pairwise_flatMap]
 refine ⟨fun l _=>?_,h.imp fun {a b} g x c y f e=>?_⟩
 ·unfold Xf
  split
  ·exact List.Pairwise.nil
  ·unfold Nl3
   rw [List.pairwise_flatMap]
   refine ⟨fun d _=>?_,List.pairwise_lt_range.imp fun {i j} k x c y f e=>?_⟩
   ·unfold UN;split<;>simp
   ·have e1:=(Nc9 c).1
    have e2:=(Nc9 f).1
    have e3:=e.2
    rw [e1,e2] at e3
    simp only at e3
    omega
 ·have e1:x.1=a:=by
   unfold Xf at c
   split at c
   ·cases c
   ·exact (Nct c).1
  have e2:y.1=b:=by
   unfold Xf at f
   split at f
   ·cases f
   ·exact (Nct f).1
  exact g (by rw [<-e1,<-e2];exact e.1)
theorem Nn5 {C:List (Leg×Int)} (b:∀c∈C,∀d∈C,SG c=SG d->c.1=d.1):∀c∈C,Vm C (SG c)=some c.1:=fun c hc=>by
 cases h:Vm C (SG c) with
 | none=>exact absurd rfl (Nqz h c hc)
 | some l=>
   obtain ⟨d,h1,h2,a⟩:=TU h
   rw [<-a,b d h1 c hc h2]
section
variable {PL:List (Int×Int)} {to dl:Int} {s:List Src} {C:List (Leg×Int)} {l:List Pr} {SD:List Ld}
theorem Nfu {p t:Int}:∀{s:List Src},(∀x∈s,0<=x.gr)->0<=QO p t (QY s)
 | [],_=>Oc _
 | x::s,h=>by
   have ih:=Nfu (p:=p) (t:=t) (s:=s) fun y a=>h y (Ni _ a)
   have:=h x Nn
   show 0<=(if x.pl=p/\x.rd<=t then x.gr else 0)+QO p t (QY s)
   split<;>omega
theorem Np2 (h:PlOk PL to dl s C) (o:∀x∈s,0<=x.gr) (H:∀c∈C,0<=c.1.grams) (J:∀c∈C,∀d∈C,SG c=SG d->c.1=d.1) (r:C.Pairwise Apart) (I:Alike (RL PL to dl s C) l) (B:IsFlow (PL.length+2) l)
  (hp:SD.Perm (RF C (l.drop (PH PL 2++Sg PL to dl s).length))) (u:SD.Pairwise fun x y=>¬RD y x):X6 C s SD/\exc 1 l<=Tp to dl s+SA C to SD:=by
 have A:=Nlr h o H I B
 unfold RL at A
 obtain ⟨D,m⟩:=A.split
 obtain ⟨n3,n4⟩:=D.split
 have f:=Nn5 J
 have g:∀c∈C,c.1.frm≠to:=fun c hc=>(h.from' c hc).1
 obtain ⟨n,hn⟩:∃n,n=(PH PL 2++Sg PL to dl s).length:=⟨_,rfl⟩
 rw [<-hn] at D m n3 n4 hp
 have el:l=(l.take n).take (PH PL 2).length++(l.take n).drop (PH PL 2).length++l.drop n:=by
  rw [Pu,Pu]
 have k:SD.Pairwise fun a b=>¬(a.leg=b.leg/\a.dep=b.dep):=(hp.pairwise_iff fun {x y} v e=>v ⟨e.1.symm,e.2.symm⟩).2 (Nac r)
 refine ⟨⟨fun i hi=>⟨?_,fun P=>?_⟩,fun p t=>?_⟩, ?_⟩
 ·obtain ⟨c,hc,e1,e2,e3,E,w⟩:=M6 m (hp.mem_iff.1 (PW hi))
  refine ⟨c.1, ?_,by omega,w⟩
  unfold UD
  rw [e1,e2,e3]
  exact f c hc
 ·have h1:=N5.1 u (i-1) i (by omega) hi (by omega)
  have h2:=N5.1 k (i-1) i (by omega) hi (by omega)
  have g1:=OI (show i-1<SD.length by omega)
  have F:=OI hi
  rw [<-g1,<-F] at h1 h2
  unfold RD at h1⊢
  omega
 ·unfold VR
  rw [Uk,MR (hp.flatMap_right _)]
  by_cases j:p=to
  ·have h1:=Nfu (p:=p) (t:=t) o
   have h2:0<=QO p t ((RF C (l.drop n)).flatMap (Xh C)):=by
    have key:∀M:List Ld,(∀x∈M,0<=x.gr/\(Ue C x).frm≠to)->0<=QO p t (M.flatMap (Xh C)):=fun M=>by
     induction M with
     | nil=>intro _;exact Oc _
     | cons x M ih=>
       intro z
       have:=z x Nn
       have ih:=ih fun y L=>z y (Ni _ L)
       rw [N2,Uk]
       unfold Xh at ih⊢
       simp only [QO]
       rw [Nf fun e=>this.2 (e.1.trans j)]
       split<;>omega
    refine key _ fun x K=>?_
    obtain ⟨c,hc,e1,e2,e3,E,w⟩:=M6 m K
    refine ⟨by omega, ?_⟩
    have:Ue C x=c.1:=by
     unfold Ue UD
     rw [e1,e2,e3]
     have:=f c hc
     unfold SG at this
     rw [this];rfl
    rw [this];exact g c hc
   omega
  ·have h1:=Nm4 (t:=t) j f (C:=C) (X:=l.drop n) (fun c hc=>hc) (fun c hc=>⟨h.from' c hc,h.dest c hc⟩) m
   have h2:=Ngc (t:=t) j o h.src n4
   have G:=Nrv (p:=p) (t:=t) h n3
   have q:=B.inner (S:=Mo PL p t) rfl rfl
   rw [el,Ngw,Ngw] at q
   omega
 ·have h1:=Nrw n3
  have h2:=Ngd o n4
  have G:=Nm5 f (C:=C) (X:=l.drop n) (fun c hc=>hc) g m
  have q:SA C to SD=SA C to (RF C (l.drop n)):=by
   have key:∀{a b:List Ld},a.Perm b->SA C to a=SA C to b:=fun {a b} h=>by
    induction h with
    | nil=>rfl
    | cons x h ih=>rw [SA,SA,ih]
    | swap x y l=>simp only [SA];omega
    | trans h1 h2 N O=>exact N.trans O
   exact key hp
  rw [el,Nha,Nha,h1,q]
  omega
def WL (Pl:List Int) (tp:Int->Int):List Cg->Int
 | []=>0
 | x::l=>(if x.1∈Pl/\x.2.1<=tp x.1 then x.2.2 else 0)+WL Pl tp l
theorem Nca {Pl:List Int} {tp:Int->Int}:∀{a b:List Cg},WL Pl tp (a++b)=WL Pl tp a+WL Pl tp b
 | [],b=>by simp [WL]
 | x::a,b=>by rw [Oe,WL,WL,Nca];omega
theorem Ne2 {p:Int} {Pl:List Int} {tp:Int->Int} (hp:p∉Pl):∀{l:List Cg},WL (p::Pl) tp l=QO p (tp p) l+WL Pl tp l
 | []=>rfl
 | x::l=>by
   rw [WL,WL,QO,Ne2 hp]
   by_cases h1:x.1=p
   ·have h2:¬(x.1∈Pl/\x.2.1<=tp x.1):=fun h=>hp (h1▸h.1)
    rw [Nf h2]
    by_cases a:x.2.1<=tp p
    ·have b:x.1∈p::Pl/\x.2.1<=tp x.1:=⟨by rw [h1];exact Nn,by rw [h1];exact a⟩
     have c:x.1=p/\x.2.1<=tp p:=⟨h1,a⟩
     rw [Nh b,Nh c];omega
    ·have b:¬(x.1∈p::Pl/\x.2.1<=tp x.1):=fun h=>a (by have:=h.2;rw [h1] at this;exact this)
     have c:¬(x.1=p/\x.2.1<=tp p):=fun h=>a h.2
     rw [Nf b,Nf c];omega
   ·have c:¬(x.1=p/\x.2.1<=tp p):=fun h=>h1 h.1
    rw [Nf c]
    by_cases a:x.1∈Pl/\x.2.1<=tp x.1
    ·have b:x.1∈p::Pl/\x.2.1<=tp x.1:=⟨Ni _ a.1,a.2⟩
     rw [Nh a,Nh b];omega
    ·have b:¬(x.1∈p::Pl/\x.2.1<=tp x.1):=fun h=>a ⟨(Nu.1 h.1).resolve_left h1,h.2⟩
     rw [Nf a,Nf b];omega
theorem Nnk {tp:Int->Int} {ch:List Cg} (h:∀p t,0<=QO p t ch):∀{Pl:List Int},Pl.Nodup->0<=WL Pl tp ch
 | [],_=>by
   have:∀l:List Cg,WL [] tp l=0:=fun l=>by
    induction l with
    | nil=>rfl
    | cons x l ih=>rw [WL,ih,Nf fun h=>by cases h.1];rfl
   rw [this];exact Oc _
 | p::Pl,hn=>by
   obtain ⟨h1,h2⟩:=List.nodup_cons.1 hn
   rw [Ne2 h1]
   have:=h p (tp p)
   have:=Nnk (tp:=tp) h h2
   omega
def Zu (U:Int->Option Int) (dl:Int) (p:Int):Int:=match U p with
 | some u=>min (u-1) dl
 | none=>dl
theorem MQ {U:Int->Option Int} {dl p t:Int}:t<=Zu U dl p↔t<=dl/\late U p t=true:=by
 unfold Zu late
 cases U p with
 | none=>simp
 | some u=>simp;omega
theorem Ns0 {U:Int->Option Int}:∀{M C:List (Leg×Int)},M.Nodup->(∀c∈M,c∈C)->(∀c∈C,0<=c.1.grams)->wC U M<=wC U C
 | [],C,_,_,h=>Nep h
 | m::M,C,hn,hs,h=>by
   obtain ⟨h1,h2⟩:=List.nodup_cons.1 hn
   obtain ⟨A,B,rfl⟩:=List.append_of_mem (hs m Nn)
   have ih:=Ns0 (U:=U) (M:=M) (C:=A++B) h2 (fun c hc=>by
    have:=hs c (Ni _ hc)
    rcases Nv.1 this with q | q
    ·exact Nz _ q
    ·rcases Nu.1 q with q | q
     ·exact absurd (q▸hc) h1
     ·exact N1 _ q) (fun c hc=>h c (by
    rcases Nv.1 hc with q | q
    ·exact Nz _ q
    ·exact N1 _ (Ni _ q)))
   rw [Ns1] at ih⊢
   rw [SY,SY]
   omega
theorem Nux {C:List (Leg×Int)} {U:Int->Option Int} {to dl:Int} {P:List Int} (j:U to=none) (g:∀c∈C,(c.1.frm∈P/\c.1.frm≠to)/\c.1.dst∈P/\c.2-c.1.cut<=dl/\c.2+c.1.mins<=dl):∀{ld:List Ld} {M:List (Leg×Int)},M.length=ld.length->(∀i,i<ld.length->gt M i∈C/\SG (gt M i)=UD (gt ld i)/\Ue C (gt ld i)=(gt M i).1/\1<=(gt ld i).gr/\(gt ld i).gr<=(gt M i).1.grams)->SA C to ld+WL (P.filter (· != to)) (Zu U dl) (ld.flatMap (Xh C))<=wC U M
 | [],[],_,_=>Oc _
 | [],m::M,h,_=>by simp at h
 | x::ld,[],h,_=>by simp at h
 | x::ld,m::M,hl,h=>by
   have ih:=Nux j g (ld:=ld) (M:=M) (by simpa using hl) fun i hi=>by have:=h (i+1) (by simpa using hi);rw [OV,OV] at this;exact this
   obtain ⟨h1,h2,f,l,n⟩:=h 0 (by simp)
   change m∈C at h1
   change SG m=UD x at h2
   change Ue C x=m.1 at f
   change 1<=x.gr at l
   change x.gr<=m.1.grams at n
   obtain ⟨⟨q1,q2⟩,q3,q,r⟩:=g m h1
   unfold SG UD at h2
   have e1:x.dep=m.2:=(Prod.mk.inj (Prod.mk.inj h2).2).1.symm
   have e2:x.arr=m.2+m.1.mins:=(Prod.mk.inj (Prod.mk.inj h2).2).2.symm
   rw [SA,N2,Nca,SY]
   have key:(if (Ue C x).dst=to then x.gr else 0)+WL (P.filter (· != to)) (Zu U dl) (Xh C x)<=tC U m:=by
    unfold Xh
    rw [f,e1,e2]
    simp only [WL]
    have k:(m.1.frm∈P.filter (· != to)/\m.2-m.1.cut<=Zu U dl m.1.frm)↔late U m.1.frm (m.2-m.1.cut)=true:=by
     rw [Po,MQ]
     exact ⟨fun h=>h.2.2,fun h=>⟨⟨q1,by simpa using q2⟩,q,h⟩⟩
    have b:(m.1.dst∈P.filter (· != to)/\m.2+m.1.mins<=Zu U dl m.1.dst)↔m.1.dst≠to/\late U m.1.dst (m.2+m.1.mins)=true:=by
     rw [Po,MQ]
     exact ⟨fun h=>⟨by simpa using h.1.2,h.2.2⟩,fun h=>⟨⟨q3,by simpa using h.1⟩,r,h.2⟩⟩
    have o:m.1.dst=to->late U m.1.dst (m.2+m.1.mins)=true:=fun e=>by unfold late;rw [e,j]
    unfold tC
    cases l1:late U m.1.frm (m.2-m.1.cut) with
    | true=>
      rw [Nh (k.2 l1),Nf (fun h:(true=false/\_)=>by cases h.1)]
      by_cases hd:m.1.dst=to
      ·rw [Nh hd,Nf fun h=>(b.1 h).1 hd];omega
      ·rw [Nf hd];split<;>omega
    | false=>
      have p:¬(m.1.frm∈P.filter (· != to)/\m.2-m.1.cut<=Zu U dl m.1.frm):=fun h=>by have:=k.1 h;rw [l1] at this;cases this
      rw [Nf p]
      by_cases hd:m.1.dst=to
      ·have d:¬(m.1.dst∈P.filter (· != to)/\m.2+m.1.mins<=Zu U dl m.1.dst):=fun h=>(b.1 h).1 hd
       rw [Nh hd,Nf d,Nh ⟨rfl,o hd⟩];omega
      ·rw [Nf hd]
       by_cases a:late U m.1.dst (m.2+m.1.mins)=true
       ·rw [Nh (b.2 ⟨hd,a⟩),Nh ⟨rfl,a⟩];omega
       ·have d:¬(m.1.dst∈P.filter (· != to)/\m.2+m.1.mins<=Zu U dl m.1.dst):=fun h=>a (b.1 h).2
        rw [Nf d,Nf fun h=>a h.2];omega
   omega
theorem Nng {U:Int->Option Int} {to dl:Int} {P:List Int} (b:U to=none):∀{s:List Src},(∀x∈s,x.pl∈P)->Tp to dl s+WL (P.filter (· != to)) (Zu U dl) (QY s)=wS U dl s
 | [],_=>rfl
 | x::s,h=>by
   have ih:=Nng (dl:=dl) b (s:=s) fun y d=>h y (Ni _ d)
   have c:=h x Nn
   have e:WL (P.filter (· != to)) (Zu U dl) (QY (x::s))=(if x.pl∈P.filter (· != to)/\x.rd<=Zu U dl x.pl then x.gr else 0)+WL (P.filter (· != to)) (Zu U dl) (QY s):=rfl
   rw [Tp,e,Nf5,<-ih]
   unfold tS
   have a:(x.pl∈P.filter (· != to)/\x.rd<=Zu U dl x.pl)↔x.pl≠to/\x.rd<=dl/\late U x.pl x.rd=true:=by
    rw [Po,MQ]
    exact ⟨fun h=>⟨by simpa using h.1.2,h.2⟩,fun h=>⟨⟨c,by simpa using h.1⟩,h.2⟩⟩
   by_cases hd:x.pl=to
   ·rw [Nf fun h=>(a.1 h).1 hd]
    have hl:late U x.pl x.rd=true:=by unfold late;rw [hd,b]
    by_cases hr:x.rd<=dl
    ·rw [Nh ⟨hd,hr⟩,Nh ⟨hr,hl⟩];omega
    ·rw [Nf (fun h=>hr h.2:¬(x.pl=to/\x.rd<=dl)),Nf fun h=>hr h.1];omega
   ·rw [Nf (fun h=>hd h.1:¬(x.pl=to/\x.rd<=dl))]
    by_cases hc:x.rd<=dl/\late U x.pl x.rd=true
    ·rw [Nh (a.2 ⟨hd,hc⟩),Nh hc];omega
    ·rw [Nf fun h=>hc (a.1 h).2,Nf hc];omega
theorem Nyf {P:List Int} {C:List (Leg×Int)} {s:List Src} {to dl:Int} {U:Int->Option Int} {ld:List Ld} (o:P.Nodup) (p:U to=none) (z:∀x∈s,x.pl∈P) (v:∀c∈C,0<=c.1.grams) (y:∀c∈C,(c.1.frm∈P/\c.1.frm≠to)/\c.1.dst∈P/\c.2-c.1.cut<=dl/\c.2+c.1.mins<=dl) (h:X6 C s ld):Tp to dl s+SA C to ld<=wt U s C dl:=by
 obtain ⟨h1,h2⟩:=h
 have b:=Nnk (tp:=Zu U dl) h2 (o.filter (· != to))
 unfold VR at b
 rw [Nca] at b
 have A:=Nng (dl:=dl) p z
 have w:∃M:List (Leg×Int),M.length=ld.length/\∀i,i<ld.length->gt M i∈C/\SG (gt M i)=UD (gt ld i)/\Ue C (gt ld i)=(gt M i).1/\1<=(gt ld i).gr/\(gt ld i).gr<=(gt M i).1.grams:=by
  have g:∀i,i<ld.length->∃c,c∈C/\SG c=UD (gt ld i)/\Ue C (gt ld i)=c.1/\1<=(gt ld i).gr/\(gt ld i).gr<=c.1.grams:=fun i hi=>by
   obtain ⟨⟨B,g1,t,u⟩,_⟩:=h1 i hi
   obtain ⟨c,k1,k2,k3⟩:=TU g1
   refine ⟨c,k1,k2, ?_,t,by rw [k3];exact u⟩
   unfold Ue
   rw [g1,k3];rfl
  refine ⟨(List.range ld.length).map fun i=>if hi:i<ld.length then (g i hi).choose else default,by simp,fun i hi=>?_⟩
  have e:gt ((List.range ld.length).map fun i=>if hi:i<ld.length then (g i hi).choose else default) i=(g i hi).choose:=by
   rw [OI (by simpa using hi),Q1,List.getElem_range,Rz hi]
  rw [e]
  exact (g i hi).choose_spec
 obtain ⟨M,k,a⟩:=w
 have q:=Nux (dl:=dl) p y k a
 have n:∀i j,i<j->j<ld.length->RD (gt ld i) (gt ld j):=fun i j=>by
  induction j with
  | zero=>intro h;omega
  | succ j ih=>
    intro d m
    have f:=(h1 (j+1) m).2 (by omega)
    rw [Re] at f
    by_cases e:i=j
    ·rw [e];exact f
    ·have:=ih (by omega) (by omega)
     unfold RD at *;omega
 have l:M.Nodup:=by
  unfold List.Nodup
  rw [N5]
  intro i j hi m d e
  have k1:=(a i (by omega)).2.1
  have k2:=(a j (by omega)).2.1
  rw [OI hi] at k1
  rw [OI m,<-e,k1] at k2
  have:=n i j d (by omega)
  unfold UD at k2
  have e1:=(Prod.mk.inj k2).1
  have e2:=(Prod.mk.inj (Prod.mk.inj k2).2).1
  unfold RD at this
  omega
 have r:=Ns0 (U:=U) l (fun c hc=>by
  obtain ⟨i,hi,rfl⟩:=List.mem_iff_getElem.1 hc
  have:=(a i (by omega)).1
  rw [OI hi] at this;exact this) v
 unfold wt
 omega
end
end Go.Flow
namespace Go.Proofs.YtohnaffmcjbpoaaGreat.Fn
open Go.AM Go.AM.Sym Go.Net Go.Flow
structure BN (fr:Nat->Value) (v2 v3 v5 v9 v12 v14 v15 v16 v17 v18:Value):Prop where
 f2:fr 2=v2
 f3:fr 3=v3
 f5:fr 5=v5
 f9:fr 9=v9
 f12:fr 12=v12
 f14:fr 14=v14
 f15:fr 15=v15
 f16:fr 16=v16
 f17:fr 17=v17
 f18:fr 18=v18
section
variable {H:NA} {pp pl ps pt q:Option Addr} {P V:List Int} {L:List Leg} {s:List Flow.Src} {cp cl cs ct nq cq:Nat} {to dl:Int}
end
theorem Nl2 {P:List Int} {L:List Leg} (h:PY P L=0):L.Pairwise fun a b=>a.id≠b.id:=by
 have d:=(UV h).2.2.2
 rw [N5]
 intro i j hi c f e
 have:=(d j c).2.1
 rw [OI c,<-e] at this
 exact this (List.mem_map.2 ⟨L[i],List.mem_take_iff_getElem.2 ⟨i,by omega,rfl⟩,rfl⟩)
theorem Ngm {P:List Int} {L:List Leg} (h:PY P L=0):P.Nodup:=by
 have a:=(UV h).2.2.1
 unfold List.Nodup
 rw [N5]
 intro i j hi b c e
 have h1:=a.idx hi
 have h2:=a.idx b
 rw [OI hi] at h1
 rw [OI b,<-e,h1] at h2
 omega
section
variable {P:List Int} {L:List Leg} {s:List Flow.Src} {to dl:Int}
theorem Nzc (e:OD P L s to dl=0) {v:Int} {T:Int->Option Int} (f:BestC s (NN L to dl) to dl T v) {ld:List Flow.Ld} (h:X6 (NN L to dl) s ld):Tp to dl s+SA (NN L to dl) to ld<=v:=by
 have a:=Sy e
 have:=Nyf (to:=to) (dl:=dl) (Ngm (RU e)) f.no (fun x i=>(a.src x i).1) (fun c hc=>by
  have:=a.net.fine _ (QR hc).1
  unfold Fine at this;omega) (fun c hc=>by
  obtain ⟨b,j,d,_,k,l,m⟩:=QR hc
  have g:=a.net.fine _ b
  unfold Fine at g
  exact ⟨⟨a.net.frm _ b,j⟩,a.net.dst _ b,by omega,by omega⟩) h
 rw [f.eq] at this;exact this
theorem Nfa (e:OD P L s to dl=0) {v:Int} {T:Int->Option Int} (h:BestC s (NN L to dl) to dl T v) {SD:List Flow.Ld} {SL:List (Int×Int)} {l:List Pr} (hp:SD.Perm (RF (NN L to dl) (l.drop (PH SL 2++Sg SL to dl s).length))) (b:SD.Pairwise fun x y=>¬RD y x) (a:PlanOf P L s to dl SL l):X6 (NN L to dl) s SD/\We s (NN L to dl) to dl<=Tp to dl s+SA (NN L to dl) to SD:=by
 have d:=Sy e
 have f:=RU e
 obtain ⟨h1,h2⟩:=Np2 a.pl (fun x g=>(d.src x g).2.2.2.1) (fun c hc=>by
  have:=d.net.fine _ (QR hc).1
  unfold Fine at this;omega) (Y0 f) (Nhf (Nl2 f)) a.al a.fl hp b
 rw [a.val] at h2
 exact ⟨h1,by omega⟩
theorem Nk8 (b:OD P L s to dl=0) {v:Int} {T:Int->Option Int} (c:BestC s (NN L to dl) to dl T v) {SD:List Flow.Ld} {SL:List (Int×Int)} {l:List Pr} (hp:SD.Perm (RF (NN L to dl) (l.drop (PH SL 2++Sg SL to dl s).length))) (d:SD.Pairwise fun x y=>¬RD y x) (a:PlanOf P L s to dl SL l):Ur P L s to dl SD=(We s (NN L to dl) to dl,true)/\X6 (NN L to dl) s SD:=by
 obtain ⟨h1,h2⟩:=Nfa b c hp d a
 have e:=Nzc b c h1
 rw [(SF c).1] at e
 refine ⟨?_,h1⟩
 rw [Xu b h1,show Tp to dl s+SA (NN L to dl) to SD=We s (NN L to dl) to dl by omega]
end
end Go.Proofs.YtohnaffmcjbpoaaGreat.Fn


namespace Go.Flow
open Go.AM Go.Net
def Nji:Leg:=⟨1,1,2,600,60,0,100,127⟩
def P2:List Int:=[1,2]
def L2:List Leg:=[Nji]
def s2:List Src:=[⟨1,0,250⟩]
def T2:Int->Option Int:=fun p=>if p=1 then some 0 else none
theorem N59:NN L2 2 660=[(Nji,600)]:=by decide
theorem N1l:NN L2 2 2100=[(Nji,600),(Nji,2040)]:=by decide
theorem N4g:NN L2 2 3540=[(Nji,600),(Nji,2040),(Nji,3480)]:=by decide
theorem wS2 {U:Int->Option Int} {dl:Int} (h:0<=dl):wS U dl s2=if late U 1 0=true then 250 else 0:=by
 show (if (0:Int)<=dl/\late U 1 0=true then (250:Int) else 0)+0=_
 by_cases hl:late U 1 0=true
 ·rw [Nh ⟨h,hl⟩,Nh hl];rfl
 ·rw [Nf fun q=>hl q.2,Nf hl];rfl
theorem tC2 {U:Int->Option Int} {a:Int} (b:U 2=none):tC U (Nji,a)=if late U 1 a=false then 100 else 0:=by
 have h2:late U 2 (a+60)=true:=by unfold late;rw [b]
 show (if late U 1 (a-0)=false/\late U 2 (a+60)=true then (100:Int) else 0)=_
 rw [Int.sub_zero]
 by_cases hl:late U 1 a=false
 ·rw [Nh ⟨hl,h2⟩,Nh hl]
 ·rw [Nf fun q=>hl q.1,Nf hl]
theorem Wh {U:Int->Option Int} {a:Int} (h:¬late U 1 0=true) (b:0<=a):late U 1 a=false/\∃u,U 1=some u/\u<=0:=by
 unfold late at *
 cases hu:U 1 with
 | none=>rw [hu] at h;simp at h
 | some u=>
   rw [hu] at h
   simp only [N3] at h
   exact ⟨by simp;omega,u,rfl,by omega⟩
theorem Nz3:BestC s2 (NN L2 2 660) 2 660 T2 100:=by
 have hw:∀U:Int->Option Int,U 2=none->wt U s2 (NN L2 2 660) 660=(if late U 1 0=true then 250 else 0)+(if late U 1 600=false then 100 else 0):=fun U a=>by
  unfold wt
  rw [wS2 (by decide),N59,SY,tC2 a]
  show _+(_+0)=_
  omega
 refine ⟨by decide,fun U a=>?_,by decide,fun U a h p t hp=>?_⟩
 ·rw [hw U a]
  by_cases hl:late U 1 0=true
  ·rw [Nh hl];split<;>omega
  ·rw [Nf hl,Nh (Wh hl (by decide)).1];omega
 ·rw [hw U a] at h
  unfold T2 at hp
  split at hp
  ·rename_i e
   cases hp
   rw [e]
   by_cases hl:late U 1 0=true
   ·rw [Nh hl] at h;split at h<;>omega
   ·exact (Wh hl (by decide:(0:Int)<=600)).2
  ·cases hp
theorem Yj:BestC s2 (NN L2 2 2100) 2 2100 T2 200:=by
 have hw:∀U:Int->Option Int,U 2=none->wt U s2 (NN L2 2 2100) 2100=(if late U 1 0=true then 250 else 0)+((if late U 1 600=false then 100 else 0)+(if late U 1 2040=false then 100 else 0)):=fun U a=>by
  unfold wt
  rw [wS2 (by decide),N1l,SY,SY,tC2 a,tC2 a]
  show _+(_+(_+0))=_
  omega
 refine ⟨by decide,fun U a=>?_,by decide,fun U a h p t hp=>?_⟩
 ·rw [hw U a]
  by_cases hl:late U 1 0=true
  ·rw [Nh hl];split<;>split<;>omega
  ·rw [Nf hl,Nh (Wh hl (by decide)).1,Nh (Wh hl (by decide)).1];omega
 ·rw [hw U a] at h
  unfold T2 at hp
  split at hp
  ·rename_i e
   cases hp
   rw [e]
   by_cases hl:late U 1 0=true
   ·rw [Nh hl] at h;split at h<;>split at h<;>omega
   ·exact (Wh hl (by decide:(0:Int)<=600)).2
  ·cases hp
theorem Ndl:BestC s2 (NN L2 2 3540) 2 3540 noT 250:=by
 have hw:∀U:Int->Option Int,U 2=none->wt U s2 (NN L2 2 3540) 3540=(if late U 1 0=true then 250 else 0)+((if late U 1 600=false then 100 else 0)+((if late U 1 2040=false then 100 else 0)+(if late U 1 3480=false then 100 else 0))):=fun U a=>by
  unfold wt
  rw [wS2 (by decide),N4g,SY,SY,SY,tC2 a,tC2 a,tC2 a]
  show _+(_+(_+(_+0)))=_
  omega
 refine ⟨rfl,fun U a=>?_,by decide,fun U a h p t hp=>by cases hp⟩
 rw [hw U a]
 by_cases hl:late U 1 0=true
 ·rw [Nh hl];split<;>split<;>split<;>omega
 ·rw [Nf hl,Nh (Wh hl (by decide)).1,Nh (Wh hl (by decide)).1,Nh (Wh hl (by decide)).1];omega
def ZW:List Ld:=[⟨1,600,660,100⟩,⟨1,2040,2100,100⟩]
theorem Nzr:TF T2 (NN L2 2 2100)=ZW:=by decide
theorem Nzq:TF noT (NN L2 2 3540)=[]:=by decide
theorem Ntp {SD:List Ld} (hl:SD.length<=2) (h:X6 (NN L2 2 2100) s2 SD) (a:200<=Tp 2 2100 s2+SA (NN L2 2 2100) 2 SD):SD=ZW:=by
 have e0:Tp 2 2100 s2=0:=by decide
 rw [e0,Qu] at a
 have d:∀i,i<SD.length->(Ue (NN L2 2 2100) (gt SD i)).dst=2/\(gt SD i).gr<=100/\(UD (gt SD i)=(1,600,660)\/UD (gt SD i)=(1,2040,2100)):=fun i hi=>by
  obtain ⟨⟨k,h1,h2,b⟩,_⟩:=h.1 i hi
  obtain ⟨c,k1,k2,k3⟩:=TU h1
  have g:Ue (NN L2 2 2100) (gt SD i)=k:=by unfold Ue;rw [h1];rfl
  rw [N1l] at k1
  simp only [Nu,O8,or_false] at k1
  rw [g]
  rcases k1 with rfl | rfl
  ·subst k3
   exact ⟨rfl,b,.inl k2.symm⟩
  ·subst k3
   exact ⟨rfl,b,.inr k2.symm⟩
 match SD,hl,h,a,d with
 | [],_,_,a,_=>exact absurd a (by decide)
 | [x],_,_,a,d=>
   obtain ⟨h1,h2,_⟩:=d 0 (by simp)
   change (Ue _ x).dst=2 at h1
   change x.gr<=100 at h2
   rw [SA,Nh h1] at a
   change 200<=x.gr+0 at a
   omega
 | [x,y],_,h,a,d=>
   obtain ⟨h1,h2,b⟩:=d 0 (by simp)
   obtain ⟨g1,j,f⟩:=d 1 (by simp)
   change (Ue _ x).dst=2 at h1
   change x.gr<=100 at h2
   change (Ue _ y).dst=2 at g1
   change y.gr<=100 at j
   change UD x=_\/UD x=_ at b
   change UD y=_\/UD y=_ at f
   rw [SA,Nh h1,SA,Nh g1] at a
   change 200<=x.gr+(y.gr+0) at a
   have e:RD x y:=(h.1 1 (by simp)).2 (by decide)
   obtain ⟨xl,m,l,n⟩:=x
   obtain ⟨r,p,o,q⟩:=y
   unfold UD at b f
   unfold RD at e
   simp only [Prod.mk.injEq] at b f
   simp only at e h2 j a
   unfold ZW
   simp only [List.cons.injEq,Ld.mk.injEq,and_true]
   omega
end Go.Flow


namespace Go.Proofs.YtohnaffmcjbpoaaGreat.Fn
open Go.AM Go.AM.Sym Go.Net Go.Flow
theorem Nw2 [OB] {lim:Nat} {a b c d e f g:Int} {H:NA} {Q:Value->NA->Prop} (h:lim<=H.length) (i:∀Z,Q (.agg (encL ⟨a,b,c,d,e,f,g,127⟩).toArray) (H++Z)):NR E false lim 11 [Vi a,Vi b,Vi c,Vi d,Vi e,Vi f,Vi g] H Q:=by
 refine SE (by decide) e11 rfl ?_
 rw [b11,c11]
 simp only [n11,r11,encL,h,NM,SB,seval,NE,NG,NF,QV,reduceCtorEq,NK,place,NB,NH]
 exact i _
theorem Nbv [OB] {lim:Nat} {H:NA} {Q:Value->NA->Prop} (c:lim<=H.length) (k:∀H' a b,NZ H H'->NetIn H' a b P2 L2->Q (.agg (netV a P2.length 2 b L2.length 1).toArray) H'):NR E false lim 20 [] H Q:=by
 refine SE (by decide) e20 rfl ?_
 rw [b20,c20]
 simp only [n20,r20,c,SB,seval,NE,NG,NF,QV,reduceCtorEq,NK,place,NB,NH]
 refine Nw2 (by simp;omega) fun Z=>?_
 obtain ⟨G,d⟩:∃G,G=H++[Vc [Vz,Vz],Vc [Vi 1,Vi 2]]++Z:=⟨_,rfl⟩
 have i:NC G H.length=Vc [Vz,Vz]:=by rw [d,Nr];exact NQ
 have b1:NC G (H.length+1)=Vc [Vi 1,Vi 2]:=by rw [d,Nr];exact OM
 have j:NZ H G:=by rw [d,Nr];exact NZ.refl.app
 have hl:=ND b1
 rw [<-d]
 clear d
 obtain ⟨m,e2,k2,h⟩:=OO (ND i) (Vc [.slice (Sa (H.length+1)) 2 2,.slice (Sa G.length) 1 1])
 have e:=fun Z=>(NZ.refl.app (X:=Z)).cells i
 have g:=fun Z=>(NZ.refl.app (X:=Z)).cells k2
 refine NI ?_
 simp only [n20,r20,encL,NM,c,e,e2,g,SB,seval,NE,NG,NF,QV,reduceCtorEq,NK,place,NB,NH]
 have f:=h.len
 refine k _ (Sa (H.length+1)) (Sa G.length) ((h.ext j (Ng _)).app) ⟨Sl.row (ro:=false) PG (by rw [NJ (by omega)];exact h.cells b1 (by omega)),Sl.row (ro:=false) NW (by rw [<-f,NQ];rfl),by decide,by decide, ?_⟩
 intro l hl
 simp only [L2,Nu,O8,or_false] at hl
 subst hl
 unfold By;decide
theorem al2:∀j,j<3->OD P2 L2 s2 2 (gt [660,2100,3540] j)=0/\Nag P2 L2 s2 2 (gt [660,2100,3540] j)=gt [100,200,250] j:=fun j a=>by
 rcases (by omega:j=0\/j=1\/j=2) with rfl | rfl | rfl
 ·have h:OD P2 L2 s2 2 660=0:=by decide
  exact ⟨h,(Nh h).trans (SF Nz3).1.symm⟩
 ·have h:OD P2 L2 s2 2 2100=0:=by decide
  exact ⟨h,(Nh h).trans (SF Yj).1.symm⟩
 ·have h:OD P2 L2 s2 2 3540=0:=by decide
  exact ⟨h,(Nh h).trans (SF Ndl).1.symm⟩
theorem No6:OD P2 L2 s2 2 2100=0:=by decide
theorem N4s:OD P2 L2 s2 2 3540=0:=by decide
theorem awake_go [OB] {mp:Bool} {lim:Nat} {H:NA} {Q:Value->NA->Prop} (ap:OB.on 7=false):NR E mp lim 7 [] H Q=Q (.bool true) H:=by
 refine Zv (E:=E) (by simp [E,orc,ap]) (show E.tr 7=some a7 from e7) rfl rfl (NI ?_)
 rw [b7,c7]
 simp only [n7,r7,SB,seval,NE,NG,NF,QV,reduceCtorEq,NK,place,NB,NH]
 refine NL (fun j=>3-j) (fun j fr G=>j<=3/\fr 1=.slice (Sa H.length) 1 1/\fr 17=.slice (Sa (H.length+1)) 3 3/\fr 18=Vi 3/\fr 19=Vi j/\H.length+2<=G.length/\NC G H.length=Vc (s2.flatMap encS)/\NC G (H.length+1)=Vc ([660,2100,3540].flatMap encI)) 0 ⟨by decide,rfl,rfl,rfl,by rfl,by simp,NQ,OM⟩ ?_
 intro j fr G ⟨hj,f1,f17,f18,D,bz,M,B⟩ hN
 rw [NP N4b.eq_1]
 refine NI ?_
 by_cases p:j<3
 case pos=>
  obtain ⟨ha,hm⟩:=al2 j p
  have sT:Sl G encI 1 (Sa (H.length+1)) [660,2100,3540]:=Sl.row (ro:=false) PG B
  have lT:=Um sT p
  have xT:=ZM sT p rfl
  have bh:(j:Int)<3:=by omega
  have w1:IntKind.i64.wrap ((j:Int)+1)=((j+1:Nat):Int):=NS (by omega)
  simp only [n7,r7,f1,f17,f18,D,Nq bh,lT,xT,SB,seval,NE,NG,NF,QV,reduceCtorEq,NK,place,NB,NH]
  rw [Na]
  refine Nbv (by omega) fun G1 a b hE hn=>?_
  have ai:=hE.len
  have s1:Sl G1 encS 3 (Sa H.length) s2:=hE.sl (Sl.row (ro:=false) OP M)
  have K:=fun Z (mp:Bool) (lim:Nat) (Q:Value->NA->Prop)=>Nnv (mp:=mp) (lim:=lim) (cp:=2) (cl:=1) (cs:=1) (to:=2) (dl:=gt [660,2100,3540] j) (Q:=Q) (hn.app Z) (s1.app Z) (by decide) fun _=>by decide
  rw [hm,ha] at K
  have sA:Sl (G1++[Vc [Vi 100,Vi 200,Vi 250]]) encI 1 (Sa G1.length) [100,200,250]:=Sl.row (ro:=false) PG NQ
  have lA:=Um (i:=j) sA p []
  rw [Na] at lA
  have xA:=ZM (i:=j) (n:=3) sA p rfl
  simp only [show s2.length=1 from rfl] at K
  have z:=K []
  rw [Na] at z
  simp only [n7,r7,f1,f17,f18,D,z,lA,xA,w1,SB,seval,NE,NG,NF,QV,reduceCtorEq,NK,place,NB,NH]
  refine hN (j+1) _ _ ⟨by omega,f1,f17,f18,rfl,by simp;omega,(hE.app).cells M,(hE.app).cells B⟩ (by omega)
 obtain rfl:j=3:=by omega
 simp only [n7,r7,f1,f17,f18,D,SB,seval,NE,NG,NF,QV,reduceCtorEq,NK,place,NB,NH]
 refine Nbv (by simp;omega) fun G1 a1 b1 v ak=>?_
 have ai:=v.len
 simp only [Nb,Nk,Nl] at ai
 have s1:Sl G1 encS 3 (Sa H.length) s2:=v.sl ((Sl.row (ro:=false) OP M).app _)
 have d1:Sl G1 QJ 4 (Sa G.length) ZW:=v.sl (Sl.row (ro:=false) NV NQ)
 clear v
 refine NI ?_
 simp only [n7,r7,f1,SB,seval,NE,NG,NF,QV,reduceCtorEq,NK,place,NB,NH]
 refine Nnp (s:=s2) (ak.app _) (s1.app _) (by decide) (by simp;omega) No6 fun G2 q2 C SD SL l hO hp aq ad u=>?_
 obtain ⟨J,I⟩:=Nfa No6 Yj hp aq ad
 rw [<-(SF Yj).1] at I
 have ae:SD=ZW:=Ntp (by rw [hp.length_eq];refine Rb Yx ?_;decide) J I
 have bg:Ur P2 L2 s2 2 2100 SD=(200,true):=by
  rw [Xu No6 J,ae]
  rw [show Tp 2 2100 s2+SA (NN L2 2 2100) 2 ZW=200 by decide]
 subst ae
 have bk:=u.len
 simp only [Nb,Nk,Nl] at bk
 have ay:=hO.sl NV
 have a5:=u.sl (s1.app _) fun _ _ _=>by simp
 have U:=u.sl (d1.app _) fun _ _ _=>by simp
 clear hO hp aq ad u J I s1 d1 ak
 refine NI ?_
 simp only [n7,r7,f1,SB,seval,NE,NG,NF,QV,reduceCtorEq,NK,place,NB,NH]
 refine Nbv (by simp;omega) fun G3 a3 b3 k am=>?_
 have bl:=k.len
 simp only [Nb,Nk,Nl] at bl
 have R:=k.sl (ay.app _)
 have S:=k.sl (a5.app _)
 have V:=k.sl (U.app _)
 clear k ay a5 U
 have F:=fun Z (mp:Bool) (lim:Nat) (Q:Value->NA->Prop)=>Nxe (mp:=mp) (lim:=lim) (Q:=Q) (cp:=2) (cl:=1) (cs:=1) (c4:=C) (to:=2) (dl:=2100) (am.app Z) (S.app Z) (by decide) (R.app Z) (by decide) fun _=>by decide
 simp only [bg,show s2.length=1 from rfl] at F
 refine NI ?_
 simp only [n7,r7,f1,F,SB,seval,NE,NG,NF,QV,reduceCtorEq,NK,place,NB,NH]
 refine Nbv (by simp;omega) fun G4 a4 b4 m an=>?_
 have bm:=m.len
 simp only [Nb,Nk,Nl] at bm
 have az:=m.sl (R.app _)
 have T:=m.sl (S.app _)
 have W:=m.sl (V.app _)
 clear m R S V F am
 refine NI ?_
 simp only [n7,r7,f1,SB,seval,NE,NG,NF,QV,reduceCtorEq,NK,place,NB,NH]
 refine bind_ok (s:=s2) (an.app _) (T.app _) (by decide) (by decide) (by simp;omega) No6 fun G5 O r q5 c5 be e o q A h=>?_
 simp only [Nb,Nk,Nl] at e o
 have ag:be=ZW:=by
  rw [<-(SF Yj).2,Nzr] at q
  exact XN q A (by decide) fun x hx y hy hd _=>by
   have h1:=q.mem_iff.1 hx
   have h2:=q.mem_iff.1 hy
   simp only [ZW,Nu,O8,or_false] at h1 h2
   rcases h1 with rfl | rfl<;>rcases h2 with rfl | rfl<;>first | rfl | exact absurd hd (by decide)
 subst ag
 rw [<-(SF Yj).2,show Sm T2 P2=[0,-1] by decide] at e
 have bo:=h.len
 simp only [Nb,Nk,Nl] at bo
 have bc:=e.sl PG
 have av:=o.sl NV
 have a0:=h.sl (az.app _) fun _ _ _=>by simp
 have ba:=h.sl (T.app _) fun _ _ _=>by simp
 have Y:=h.sl (W.app _) fun _ _ _=>by simp
 clear e o q A h az T W an
 refine NI ?_
 simp only [n7,r7,f1,NM,show H.length<=G5.length by omega,SB,seval,NE,NG,NF,QV,reduceCtorEq,NK,place,NB,NH]
 refine Nbv (by simp;omega) fun G6 a6 b6 c ao=>?_
 have bp:=c.len
 simp only [Nb,Nk,Nl] at bp
 have k6:NC G6 G5.length=Vc [.slice O 2 r,.slice q5 2 c5]:=c.cells NQ
 have b0:=fun Z=>(NZ.refl.app (X:=Z)).cells k6
 have bd:=c.sl (bc.app _)
 have aw:=c.sl (av.app _)
 have a2:=c.sl (a0.app _)
 have bb:=c.sl (ba.app _)
 have aa:=c.sl (Y.app _)
 clear c bc av a0 ba Y
 refine NI ?_
 simp only [n7,r7,f1,SB,seval,NE,NG,NF,QV,reduceCtorEq,NK,place,NB,NH]
 refine bind_ok (s:=s2) (ao.app _) (bb.app _) (by decide) (by decide) (by simp;omega) N4s fun g P t q7 c7 bf f w L au d=>?_
 simp only [Nb,Nk,Nl] at f w
 have ah:bf=[]:=by
  rw [<-(SF Ndl).2,Nzq] at L
  exact L.eq_nil
 subst ah
 rw [<-(SF Ndl).2,show Sm noT P2=[-1,-1] by decide] at f
 have bq:=d.len
 simp only [Nb,Nk,Nl] at bq
 have k7:NC g G5.length=Vc [.slice O 2 r,.slice q5 2 c5]:=d.cells ((NZ.refl.app).cells k6) (by simp)
 have N:=fun Z=>(NZ.refl.app (X:=Z)).cells k7
 have bw:=d.sl (bd.app _) fun _ _ _=>by simp
 have bt:=d.sl (aw.app _) fun _ _ _=>by simp
 have bu:=d.sl (a2.app _) fun _ _ _=>by simp
 have ac:=d.sl (aa.app _) fun _ _ _=>by simp
 have bx:=f.sl PG
 clear f w L au d bd aw a2 bb aa ao
 have br:∀Z mp lim Q,NR E mp lim 23 [.slice q2 ZW.length C,.slice (Sa G.length) 2 2] (g++Z) Q=Q (.bool true) (g++Z):=fun Z mp lim Q=>(Nnl (ca:=C) (cb:=2) (bu.app Z) (ac.app Z) (by decide)).trans (by rw [No rfl])
 have aj:∀Z mp lim Q,NR E mp lim 23 [.slice q5 2 c5,.slice (Sa G.length) 2 2] (g++Z) Q=Q (.bool true) (g++Z):=fun Z mp lim Q=>(Nnl (ca:=c5) (cb:=2) (bt.app Z) (ac.app Z) (by decide)).trans (by rw [No rfl])
 refine NI ?_
 simp only [n7,r7,f1,NM,show H.length<=g.length by omega,br,aj,N,SB,seval,NE,NG,NF,QV,reduceCtorEq,NK,place,NB,NH]
 rw [show NR E false H.length 24 [.slice O 2 r,.slice (Sa (g.length+1)) 2 2] (g++[Vc [.slice P P2.length t,.slice q7 0 c7],Vc [Vi 0,Vi (-1)]]) _=_ from VZ (a:=[0,-1]) (b:=[0,-1]) (ca:=r) (cb:=2) (bw.app _) (Sl.row (ro:=false) PG OM) (by decide),No rfl]
 simp only [n7,r7,f1,NM,show H.length<=g.length by omega,aj,N,SB,seval,NE,NG,NF,QV,reduceCtorEq,NK,place,NB,NH]
 rw [show NR E false H.length 24 [.slice P P2.length t,.slice (Sa (g.length+2)) 2 2] (g++[Vc [.slice P P2.length t,.slice q7 0 c7],Vc [Vi 0,Vi (-1)],Vc [Vi (-1),Vi (-1)]]) _=_ from VZ (a:=[-1,-1]) (b:=[-1,-1]) (ca:=t) (cb:=2) (bx.app _) (Sl.row (ro:=false) PG (OM (j:=2))) (by decide),No rfl]
 simp only [n7,r7,f1,NM,show H.length<=g.length by omega,N,SB,seval,NE,NG,NF,QV,reduceCtorEq,NK,place,NB,NH]
end Go.Proofs.YtohnaffmcjbpoaaGreat.Fn


namespace Go.Proofs.YtohnaffmcjbpoaaGreat.Fn
open Go.AM Go.AM.Sym Go.Net
theorem Nik {P:List Int}:T9 P↔(∀p∈P,1<=p/\p<=999999)/\P.Nodup:=by
 constructor
 ·intro h
  refine ⟨fun p hp=>?_, ?_⟩
  ·obtain ⟨i,hi,rfl⟩:=List.mem_iff_getElem.1 hp
   have:=h i hi
   unfold pOk at this
   rw [OI hi] at this
   exact ⟨this.1,this.2.1⟩
  ·unfold List.Nodup
   rw [N5]
   intro i j hi a b e
   have h2:=(h j a).2.2
   rw [OI a] at h2
   exact h2 (List.mem_take_iff_getElem.2 ⟨i,by omega,e⟩)
 ·rintro ⟨h1,h2⟩ i hi
  unfold pOk
  rw [OI hi]
  refine ⟨(h1 _ (Rn hi)).1,(h1 _ (Rn hi)).2,fun c=>?_⟩
  obtain ⟨j,a,e⟩:=List.mem_take_iff_getElem.1 c
  unfold List.Nodup at h2
  rw [N5] at h2
  exact h2 j i (by omega) hi (by omega) e
theorem UF [OB] {mp:Bool} {lim:Nat} {n a b:Int} {H:NA} {Q:Value->NA->Prop}:NR E mp lim 101 [Vi n,Vi a,Vi b] H Q=Q (.bool (decide (a<=n/\n<=b))) H:=by
 refine pc (by decide) N57 rfl rfl ?_
 rw [N6n,N27]
 by_cases h1:a<=n
 ·simp only [n101,N3r,Nq h1,SB,Nat.reduceLT,NG,Nat.reduceEqDiff,NF,reduceCtorEq,NK,NH]
 ·simp only [n101,N3r,Nm h1,SB,Nat.reduceLT,NG,Nat.reduceEqDiff,NF,reduceCtorEq,NK,NH]
theorem Ne6 [OB] {mp:Bool} {lim:Nat} {l:Leg} {H:NA} {Q:Value->NA->Prop} (hd:By l):NR E mp lim 103 [.agg (encL l).toArray] H Q=Q (.bool (decide (Fine l))) H:=by
 refine pc (by decide) N55 rfl rfl ?_
 rw [N6l,N25]
 have no:¬Fine l->decide (Fine l)=false:=fun h=>Nw h
 by_cases h1:1<=l.id/\l.id<=999999
 case neg=>simp only [n103,Nd9,SV,UF,Nw h1,no (fun h=>h1 (by unfold Fine at h;omega)),SB,Nat.reduceLT,NE,NG,Nat.reduceEqDiff,NK,place,NB,NH]
 by_cases h2:1<=l.frm/\l.frm<=999999
 case neg=>simp only [n103,Nd9,SV,QB,UF,No h1,Nw h2,no (fun h=>h2 (by unfold Fine at h;omega)),SB,Nat.reduceLT,NE,NG,Nat.reduceEqDiff,NK,place,NB,NH]
 by_cases a:1<=l.dst/\l.dst<=999999
 case neg=>simp only [n103,Nd9,SV,QB,QU,UF,No h1,No h2,Nw a,no (fun h=>a (by unfold Fine at h;omega)),SB,Nat.reduceLT,NE,NG,Nat.reduceEqDiff,NK,place,NB,NH]
 by_cases b:l.frm=l.dst
 ·simp only [n103,Nd9,SV,QB,QU,UF,No h1,No h2,No a,Nq b,no (fun h=>by unfold Fine at h;omega),SB,Nat.reduceLT,NE,NG,Nat.reduceEqDiff,NF,NK,place,NB,NH]
 by_cases c:0<=l.dep/\l.dep<=1439
 case neg=>simp only [n103,Nd9,SV,QB,QU,WB,UF,No h1,No h2,No a,Nm b,Nw c,no (fun h=>c (by unfold Fine at h;omega)),SB,Nat.reduceLT,NE,NG,Nat.reduceEqDiff,NF,NK,place,NB,NH]
 by_cases d:1<=l.mins/\l.mins<=20160
 case neg=>simp only [n103,Nd9,SV,QB,QU,WB,Ye,UF,No h1,No h2,No a,Nm b,No c,Nw d,no (fun h=>d (by unfold Fine at h;omega)),SB,Nat.reduceLT,NE,NG,Nat.reduceEqDiff,NF,NK,place,NB,NH]
 by_cases e:0<=l.cut/\l.cut<=10080
 case neg=>simp only [n103,Nd9,SV,QB,QU,WB,Ye,RZ,UF,No h1,No h2,No a,Nm b,No c,No d,Nw e,no (fun h=>e (by unfold Fine at h;omega)),SB,Nat.reduceLT,NE,NG,Nat.reduceEqDiff,NF,NK,place,NB,NH]
 by_cases f:0<=l.grams/\l.grams<=1000000000
 case neg=>simp only [n103,Nd9,SV,QB,QU,WB,Ye,RZ,Uf,UF,No h1,No h2,No a,Nm b,No c,No d,No e,Nw f,no (fun h=>f (by unfold Fine at h;omega)),SB,Nat.reduceLT,NE,NG,Nat.reduceEqDiff,NF,NK,place,NB,NH]
 by_cases g:1<=l.days
 case neg=>simp only [n103,Nd9,SV,QB,QU,WB,Ye,RZ,Uf,Nhc,UF,No h1,No h2,No a,Nm b,No c,No d,No e,No f,Nm g,no (fun h=>g (by unfold Fine at h;omega)),SB,Nat.reduceLT,NE,NG,Nat.reduceEqDiff,NF,NK,place,NB,NH]
 simp only [n103,Nd9,SV,QB,QU,WB,Ye,RZ,Uf,Nhc,UF,No h1,No h2,No a,Nm b,No c,No d,No e,No f,Nq g,SB,Nat.reduceLT,NE,NG,Nat.reduceEqDiff,NF,NK,place,NB,NH]
 congr 2
 unfold Fine
 exact propext (by omega)
theorem Ne7 [OB] {mp:Bool} {lim c:Nat} {p:Option Addr} {P:List Int} {a:Int} {H:NA} {Q:Value->NA->Prop} (l:Sl H encI 1 p P) (hn:P.length<2 ^ 62):NR E mp lim 102 [.slice p P.length c,Vi a] H Q=Q (Vi (P.count a:Int)) H:=by
 refine pc (by decide) N56 rfl rfl ?_
 rw [N6m,N26]
 simp only [n102,SB,Nat.reduceLT,NG]
 refine NL (fun j=>P.length-j) (fun j fr G=>j<=P.length/\fr 0=.slice p P.length c/\fr 1=Vi a/\fr 5=Vi ((P.take j).count a:Int)/\fr 6=Vi j/\NZ H G) 0 ⟨Nx _,rfl,rfl,by rfl,by rfl,NZ.refl.app⟩ ?_
 intro j fr G ⟨n,e,f1,f5,f6,g⟩ i
 rw [NP Nvz.eq_1]
 refine NI ?_
 by_cases b:j<P.length
 case neg=>
  obtain rfl:j=P.length:=by omega
  rw [Of] at f5
  simp only [n102,N5v,e,f5,f6,b,SB,Nat.reduceLT,NG,Nat.reduceEqDiff,NF,reduceCtorEq,NH]
 have l1:=fun X=>((g.sl l).app X).loadCell0 PG b (by decide)
 simp only [encI,Pc] at l1
 have m:=fun c (kk:IntKind) (H1:NA)=>(g.sl l).idx (c:=c) (k:=kk) (H1:=H1) b
 have f:IntKind.i64.wrap ((j:Int)+1)=((j+1:Nat):Int):=NS (by omega)
 have hc:(P.take j).count a<=P.length:=Rb List.count_le_length (by rw [N6];omega)
 have d:(P.take (j+1)).count a=(P.take j).count a+if gt P j=a then 1 else 0:=by
  rw [QI b,List.count_append,List.count_cons,List.count_nil];simp
 have h:IntKind.i64.wrap (((P.take j).count a:Int)+1)=(((P.take j).count a+1:Nat):Int):=NS (by omega)
 by_cases he:gt P j=a
 ·rw [Nh he] at d
  simp only [n102,e,f1,f5,f6,b,l1,m,f,h,Nq he,SB,Nat.reduceLT,NG,Nat.reduceEqDiff,NF,reduceCtorEq]
  exact i (j+1) _ _ ⟨by omega,e,f1,by rw [d];exact rfl,rfl,g.app⟩ (by omega)
 ·rw [Nf he] at d
  replace d:(P.take (j+1)).count a=(P.take j).count a:=d
  simp only [n102,e,f1,f6,b,l1,m,f,Nm he,SB,Nat.reduceLT,NG,Nat.reduceEqDiff,NF,reduceCtorEq]
  exact i (j+1) _ _ ⟨by omega,e,f1,by rw [d];exact f5,rfl,g.app⟩ (by omega)
theorem ZF {P:List Int}:T9 P↔∀i,i<P.length->(1<=gt P i/\gt P i<=999999)/\P.count (gt P i)<=1:=by
 rw [Nik,List.nodup_iff_count]
 constructor
 ·rintro ⟨h1,h2⟩ i hi
  exact ⟨h1 _ (PW hi),h2 _⟩
 ·intro h
  refine ⟨fun p hp=>?_,fun a=>?_⟩
  ·obtain ⟨i,hi,rfl⟩:=List.mem_iff_getElem.1 hp
   rw [<-OI hi];exact (h i hi).1
  ·by_cases b:a∈P
   ·obtain ⟨i,hi,rfl⟩:=List.mem_iff_getElem.1 b
    rw [<-OI hi];exact (h i hi).2
   ·rw [List.count_eq_zero_of_not_mem b];omega
theorem Ngh [OB] {H G:NA} {i R5:Nat} {pp pl:Option Addr} {P:List Int} {L:List Leg} {cp cl:Nat} {fr:Nat->Value} {K:List AItem} {Z:Value->NA->Prop}
  (hn:NetIn G pp pl P L) (hi:i<L.length) (hB:NC G H.length=Vc (netV pp P.length cp pl L.length cl)) (t:NC G R5=Vc (encL (gt L i)))
  (f1:fr 1=Vp H.length) (f4:fr 4=Vi i) (f5:fr 5=Vp R5) (f6:fr 6=Vi 0)
  (b:(gt L i).id∈(L.take i).map (·.id)->Z (Vi 321) (G++[]))
  (v:(gt L i).id∉(L.take i).map (·.id)->∀fr',fr' 1=fr 1->fr' 4=fr 4->PQ E a78 H.length K fr' (G++[]) Z) :
  PQ E a78 H.length (.code (.loop Nvc)::.inBlock 4::K) fr G Z:=by
 have n:=fun X=>(NZ.refl.app (X:=X)).cells hB
 have m:=fun X=>(NZ.refl.app (X:=X)).cells t
 refine NL (fun j=>i-j) (fun j fr' G'=>j<=i/\fr' 1=Vp H.length/\fr' 4=Vi i/\fr' 5=Vp R5/\fr' 6=Vi j/\G'=G++[]/\∀k,k<j->(gt L k).id≠(gt L i).id) 0 ⟨Nx _,f1,f4,f5,f6,by simp,fun k r=>by omega⟩ ?_
 rintro j fr' G' ⟨x,g1,g,o,p,rfl,a⟩ u
 rw [NP Nvc.eq_1]
 by_cases f:j<i
 case neg=>
  obtain rfl:j=i:=by omega
  simp only [n78,g,p,f,SB,Nat.reduceLT,NG,Nat.reduceEqDiff,NF]
  refine v (fun w=>?_) _ (by rw [f1];exact g1) (by rw [f4];exact g)
  obtain ⟨l,hl,e⟩:=List.mem_map.1 w
  obtain ⟨k,r,rfl⟩:=List.mem_take_iff_getElem.1 hl
  exact a k (by omega) (by rw [OI (by omega)];exact e)
 have d:j<L.length:=by omega
 have ld:=fun X=>(hn.sl.app X).loadCell NW d (j:=0) (by decide)
 rw [SV] at ld
 have s:=fun c (kk:IntKind) (H1:NA)=>hn.sl.idx (c:=c) (k:=kk) (H1:=H1) d
 have q:IntKind.i64.wrap ((j:Int)+1)=((j+1:Nat):Int):=NS (by have:=hn.nl;omega)
 by_cases he:(gt L j).id=(gt L i).id
 ·simp only [n78,r78,g1,g,o,p,f,n,m,ld,s,Sj,SV,Nq he,SB,Nat.reduceLT,NG,Nat.reduceEqDiff,NF,NH]
  rw [Na] at b
  rw [Na]
  refine b (List.mem_map.2 ⟨gt L j, ?_,he⟩)
  rw [OI d]
  exact List.mem_take_iff_getElem.2 ⟨j,by omega,rfl⟩
 ·simp only [n78,g1,g,o,p,f,n,m,ld,s,q,Sj,SV,Nm he,SB,Nat.reduceLT,NG,Nat.reduceEqDiff,NF]
  exact u (j+1) _ _ ⟨by omega,g1,g,o,rfl,rfl,fun k r=>by
   rcases Oo k j with h | h
   ·exact a k h
   ·obtain rfl:k=j:=by omega
    exact he⟩ (by omega)
theorem Npr [OB] {mp:Bool} {lim:Nat} {pp pl:Option Addr} {P:List Int} {L:List Leg} {cp cl:Nat} {H:NA} {Q:Value->NA->Prop} (hn:NetIn H pp pl P L) :
  NR E mp lim 78 [.agg (netV pp P.length cp pl L.length cl).toArray] H Q=Q (Vi (PY P L)) H:=by
 refine pc (by decide) e78 rfl rfl ?_
 rw [b78,c78]
 by_cases w:50<(P.length:Int)
 ·simp only [n78,r78,QA,Nq w,SB,Nat.reduceLT,NG,Nat.reduceEqDiff,NF,NK,place,NB,NH]
  rw [PY,Nh (by omega)]
 by_cases r:200<(L.length:Int)
 ·simp only [n78,r78,QA,Sj,Nm w,Nq r,SB,Nat.reduceLT,NG,Nat.reduceEqDiff,NF,NK,place,NB,NH]
  rw [PY,Nh (by omega)]
 simp only [n78,QA,Sj,Nm w,Nm r,SB,Nat.reduceLT,NG,Nat.reduceEqDiff,NF,NK,place,NB]
 have C:PY P L=if ¬T9 P then 320 else if ¬X3 P L then 321 else 0:=by rw [PY,Nf (by omega)]
 refine NL (fun i=>P.length-i) (fun i fr G=>i<=P.length/\fr 1=Vp H.length/\fr 3=Vi i/\NZ H G/\NC G H.length=Vc (netV pp P.length cp pl L.length cl)/\∀j,j<i->(1<=gt P j/\gt P j<=999999)/\P.count (gt P j)<=1) 0
  ⟨Nx _,rfl,by rfl,NZ.refl.app,NQ,fun j M=>by omega⟩ ?_
 intro i fr G ⟨hi,f1,f3,I,hB,s⟩ S
 rw [NP N0p.eq_1]
 refine NI ?_
 have n:=fun X=>(NZ.refl.app (X:=X)).cells hB
 have z:=hn.ext I
 by_cases g:i<P.length
 case pos=>
  have ld:=fun X=>(z.sp.app X).loadCell0 PG g (by decide)
  simp only [encI,Pc] at ld
  have t:=fun c (kk:IntKind) (H1:NA)=>z.sp.idx (c:=c) (k:=kk) (H1:=H1) g
  have A:IntKind.i64.wrap ((i:Int)+1)=((i+1:Nat):Int):=NS (by omega)
  have d:=fun X (mp:Bool) (lim:Nat) (Q:Value->NA->Prop)=>Ne7 (mp:=mp) (lim:=lim) (c:=cp) (a:=gt P i) (Q:=Q) (z.sp.app X) (by omega)
  have f:¬((1<=gt P i/\gt P i<=999999)/\P.count (gt P i)<=1)->PY P L=320:=fun h=>by
   rw [C,Nh fun K=>h (ZF.1 K i g)]
  by_cases h1:1<=gt P i/\gt P i<=999999
  case neg=>
   simp only [n78,r78,f1,f3,n,QA,g,ld,t,UF,Nw h1,SB,Nat.reduceLT,NE,NG,Nat.reduceEqDiff,NF,QV,NH]
   rw [f fun h=>h1 h.1]
  by_cases h2:1<(P.count (gt P i):Int)
  ·simp only [n78,r78,f1,f3,n,QA,g,ld,t,UF,No h1,d,Nq h2,SB,Nat.reduceLT,NE,NG,Nat.reduceEqDiff,NF,QV,NH]
   rw [f fun h=>by omega]
  ·simp only [n78,f1,f3,n,QA,g,ld,t,UF,No h1,d,Nm h2,A,SB,Nat.reduceLT,NE,NG,Nat.reduceEqDiff,NF,QV]
   exact S (i+1) _ _ ⟨by omega,f1,rfl,I.app,(NZ.refl.app).cells hB,fun j M=>by
    rcases Oo j i with h | h
    ·exact s j h
    ·obtain rfl:j=i:=by omega
     exact ⟨h1,by omega⟩⟩ (by omega)
 obtain rfl:i=P.length:=by omega
 have T:T9 P:=ZF.2 s
 rw [Nf (by simpa using T)] at C
 simp only [n78,f1,f3,n,QA,g,SB,Nat.reduceLT,NG,Nat.reduceEqDiff,NF]
 refine NL (fun i=>L.length-i) (fun i u D=>i<=L.length/\u 1=Vp H.length/\u 4=Vi i/\NZ H D/\NC D H.length=Vc (netV pp P.length cp pl L.length cl)/\∀j,j<i->lOk P L j) 0
  ⟨Nx _,f1,by rfl,I.app,(NZ.refl.app).cells hB,fun j M=>by omega⟩ ?_
 intro i u D ⟨U,g1,v,y,x,m⟩ R
 rw [NP N0q.eq_1]
 refine NI ?_
 have e:=fun X=>(NZ.refl.app (X:=X)).cells x
 have p:=hn.ext y
 have o:=y.len
 by_cases b:i<L.length
 case neg=>
  obtain rfl:i=L.length:=by omega
  rw [Nf (show ¬¬X3 P L from fun h=>h m)] at C
  simp only [n78,r78,g1,v,e,Sj,b,C,SB,Nat.reduceLT,NG,Nat.reduceEqDiff,NF,NH]
 have ld:=fun X=>(p.sl.app X).loadCells NW b
 have t:=fun c (kk:IntKind) (H1:NA)=>p.sl.idx (c:=c) (k:=kk) (H1:=H1) b
 have A:IntKind.i64.wrap ((i:Int)+1)=((i+1:Nat):Int):=NS (by omega)
 have J:=hn.bys _ (PW b)
 have q:=fun (H:NA) (mp:Bool) (lim:Nat) (Q:Value->NA->Prop)=>Ne6 (mp:=mp) (lim:=lim) (H:=H) (Q:=Q) J
 have d:=fun X (a:Int) (mp:Bool) (lim:Nat) (Q:Value->NA->Prop)=>Ne7 (mp:=mp) (lim:=lim) (c:=cp) (a:=a) (Q:=Q) (p.sp.app X) (by omega)
 have f:¬lOk P L i->PY P L=321:=fun h=>by rw [C,Nh fun K=>h (K i b)]
 have l:∀a:Int,(P.count a:Int)=0↔a∉P:=fun a=>by rw [<-List.count_eq_zero];omega
 by_cases h1:Fine (gt L i)
 case neg=>
  simp only [n78,r78,g1,v,e,Sj,NW,OH,b,ld,t,NM,o,q,Nw h1,SB,Nat.reduceLT,NE,NG,Nat.reduceEqDiff,NF,QV,place,NB,Nat.reduceAdd,NH]
  rw [f fun h=>h1 h.1]
 by_cases h2:(gt L i).frm∈P
 case neg=>
  simp only [n78,r78,g1,v,e,QA,Sj,NW,QB,OH,b,ld,t,NM,o,q,d,No h1,Nq ((l _).2 h2),SB,Nat.reduceLT,NE,NG,Nat.reduceEqDiff,NF,QV,place,NB,Nat.reduceAdd,NH]
  rw [f fun h=>h2 h.2.2.1]
 by_cases F:(gt L i).dst∈P
 case neg=>
  simp only [n78,r78,g1,v,e,QA,Sj,NW,QB,QU,OH,b,ld,t,NM,o,q,d,No h1,Nm (fun h=>(l _).1 h h2),Nq ((l _).2 F),SB,Nat.reduceLT,NE,NG,Nat.reduceEqDiff,NF,QV,place,NB,Nat.reduceAdd,NH]
  rw [f fun h=>F h.2.2.2]
 simp only [n78,g1,v,e,QA,Sj,NW,QB,QU,OH,b,ld,t,NM,o,q,d,No h1,Nm (fun h=>(l _).1 h h2),Nm (fun h=>(l _).1 h F),SB,Nat.reduceLT,NE,NG,Nat.reduceEqDiff,NF,QV,place,NB,Nat.reduceAdd]
 refine Ngh (R5:=D.length) (cp:=cp) (cl:=cl) (p.app _) b ((NZ.refl.app).cells x) NQ g1 v rfl rfl (fun N=>?_) (fun N B k1 O=>?_)
 ·rw [f fun h=>h.2.1 N]
 ·replace k1:B 1=Vp H.length:=k1.trans g1
  replace O:B 4=Vi i:=O.trans v
  simp only [n78,O,A,SB,Nat.reduceLT,NG,NF]
  exact R (i+1) _ _ ⟨by omega,k1,rfl,y.app,(NZ.refl.app).cells x,fun j M=>by
   rcases Oo j i with h | h
   ·exact m j h
   ·obtain rfl:j=i:=by omega
    exact ⟨h1,N,h2,F⟩⟩ (by omega)
def Nco (l:Leg) (d:Int):Option (Int×Int):=if 0<=d/\d<730485 then U5 l d.toNat else none
theorem Nig [OB] {mp:Bool} {lim:Nat} {pp pl:Option Addr} {P:List Int} {L:List Leg} {cp cl:Nat} {a:Int} {H:NA} {Q:Value->NA->Prop} (hn:NetIn H pp pl P L) :
  NR E mp lim 54 [.agg (netV pp P.length cp pl L.length cl).toArray,Vi a] H Q=Q (match L.find? (fun l=>l.id=a) with | some l=>.tuple #[.agg (encL l).toArray,.bool true] | none=>.tuple #[.agg #[Vi 0,Vi 0,Vi 0,Vi 0,Vi 0,Vi 0,Vi 0,.int .u8 0],.bool false]) H:=by
 refine pc (by decide) e54 rfl (by cases L.find? (fun l=>l.id=a)<;>rfl) ?_
 rw [b54,c54]
 simp only [n54,SB,Nat.reduceLT,NG,NK,place,NB]
 refine NL (fun i=>L.length-i) (fun i fr G=>i<=L.length/\fr 1=Vi a/\fr 2=Vp H.length/\fr 4=Vp (H.length+1)/\fr 6=Vi i/\NZ H G/\NC G H.length=Vc (netV pp P.length cp pl L.length cl)/\
  NC G (H.length+1)=Vc [Vi 0,Vi 0,Vi 0,Vi 0,Vi 0,Vi 0,Vi 0,.int .u8 0]/\L.find? (fun l=>l.id=a)=(L.drop i).find? (fun l=>l.id=a)) 0
  ⟨Nx _,rfl,rfl,rfl,by rfl,NZ.refl.app,NQ,OM,rfl⟩ ?_
 intro i fr G ⟨hi,h1,h2,q,r,o,hB,p,h⟩ v
 have hl:=o.len
 rw [NP N0z.eq_1]
 refine NI ?_
 have g:=fun X=>(NZ.refl.app (X:=X)).cells hB
 have n:=fun X=>(NZ.refl.app (X:=X)).cells p
 by_cases b:i<L.length
 ·have s:=fun X=>((o.sl hn.sl).app X).loadCells NW b
  have m:=fun X=>((o.sl hn.sl).app X).loadCell NW b (j:=0) (by decide)
  rw [SV] at m
  have e:=fun c (k:IntKind) (H1:NA)=>(o.sl hn.sl).idx (c:=c) (k:=k) (H1:=H1) b
  have t:IntKind.i64.wrap ((i:Int)+1)=((i+1:Nat):Int):=NS (by have:=hn.nl;omega)
  rw [Nre b] at h
  obtain ⟨u,e2,k2,w⟩:=OO (ND p) (Vc (encL (gt L i)))
  have f:=fun X=>(NZ.refl.app (X:=X)).cells k2
  by_cases d:(gt L i).id=a
  ·simp only [d,decide_true,if_true] at h
   simp only [n54,r54,h1,h2,q,r,b,e,s,m,g,n,Sj,NW,OH,show H.length<=H.length+1 by omega,Nq d,NM,e2,f,SB,Nat.reduceLT,NG,Nat.reduceEqDiff,NF,NB,Nat.reduceAdd,NH]
   rw [h]
  ·simp only [d,decide_false,N8,if_false] at h
   simp only [n54,h1,h2,r,b,e,m,t,g,Sj,Nm d,SB,Nat.reduceLT,NG,Nat.reduceEqDiff,NF]
   exact v (i+1) _ _ ⟨by omega,h1,h2,q,rfl,o.app,(NZ.refl.app).cells hB,(NZ.refl.app).cells p,h⟩ (by omega)
 ·obtain rfl:i=L.length:=by omega
  rw [R3,List.find?_nil] at h
  obtain ⟨u,e2,k2,w⟩:=OO (ND p) (Vc [Vi 0,Vi 0,Vi 0,Vi 0,Vi 0,Vi 0,Vi 0,.int .u8 0])
  have f:=fun X=>(NZ.refl.app (X:=X)).cells k2
  simp only [n54,r54,h2,q,r,b,g,n,Sj,show H.length<=H.length+1 by omega,e2,f,SB,Nat.reduceLT,NG,Nat.reduceEqDiff,NF,NB,Nat.reduceAdd,NH]
  rw [h]
theorem Nte [OB] {mp:Bool} {lim w:Nat} {l:Leg} {H:NA} {Q:Value->NA->Prop} (hd:By l) (hw:w<=6):NR E mp lim 104 [.agg (encL l).toArray,Vi w] H Q=Q (.bool (l.days.toNat / 2 ^ w % 2 == 1)) H:=by
 refine pc (by decide) N54 rfl rfl ?_
 rw [N6k,N24]
 unfold By at hd
 obtain ⟨D,g⟩:∃D:Nat,l.days=(D:Int):=⟨l.days.toNat,by omega⟩
 have wd:IntKind.i64.wrap l.days=l.days:=NY (by omega) (by omega)
 simp only [n104,Nhc,wd,SB,Nat.reduceLT,NG,Nat.reduceEqDiff,NK,place,NB]
 rw [g,Ov]
 refine NL (fun j=>w-j) (fun j fr G=>j<=w/\fr 1=Vi w/\fr 5=Vi ((D / 2 ^ j:Nat):Int)/\fr 6=Vi j) 0 ⟨Nx _,rfl,by simp only [FB,Nat.reduceEqDiff,Nat.pow_zero,Nat.div_one],by rfl⟩ ?_
 intro j fr G ⟨m,f1,f5,f6⟩ h
 rw [NP Nvy.eq_1]
 refine NI ?_
 have i:D / 2 ^ j<=D:=R0 _ _
 by_cases b:j<w
 ·have d:IntKind.i64.wrap ((j:Int)+1)=((j+1:Nat):Int):=NS (by omega)
  have e:IntKind.i64.wrap (Int.tdiv ((D / 2 ^ j:Nat):Int) 2)=((D / 2 ^ (j+1):Nat):Int):=by
   rw [show Int.tdiv ((D / 2 ^ j:Nat):Int) 2=((D / 2 ^ j / 2:Nat):Int) from rfl,Nat.div_div_eq_div_mul,show 2 ^ j*2=2 ^ (j+1) from rfl]
   have:D / 2 ^ (j+1)<=D:=R0 _ _
   generalize D / 2 ^ (j+1)=z at this⊢
   exact NY (by omega) (by omega)
  simp only [n104,f1,f5,f6,b,d,e,SB,Nat.reduceLT,NG,Nat.reduceEqDiff,NF,Int.reduceEq]
  exact h (j+1) _ _ ⟨by omega,f1,rfl,rfl⟩ (by omega)
 ·obtain rfl:j=w:=by omega
  have a:Int.tmod ((D / 2 ^ j:Nat):Int) 2=((D / 2 ^ j % 2:Nat):Int):=rfl
  have f:D / 2 ^ j % 2<2:=Rd _ (by decide)
  generalize D / 2 ^ j % 2=z at a f
  have c:IntKind.i64.wrap (z:Int)=(z:Int):=NY (by omega) (by omega)
  match z,f,a,c with
  | 0,_,a,c=>
    replace a:Int.tmod ((D / 2 ^ j:Nat):Int) 2=0:=a
    have k:IntKind.i64.wrap 0=0:=by decide
    simp only [n104,N3q,f1,f5,f6,b,a,SB,Nat.reduceLT,NG,Nat.reduceEqDiff,NF,NH,Int.reduceEq]
    rfl
  | 1,_,a,c=>
    replace a:Int.tmod ((D / 2 ^ j:Nat):Int) 2=1:=a
    have k:IntKind.i64.wrap 1=1:=by decide
    simp only [n104,N3q,f1,f5,f6,b,a,SB,Nat.reduceLT,NG,Nat.reduceEqDiff,NF,NH,Int.reduceEq]
    rfl
theorem N1v [OB] {mp:Bool} {lim:Nat} {l:Leg} {d:Int} {H:NA} {Q:Value->NA->Prop} (hl:Fine l):NR E mp lim 82 [.agg (encL l).toArray,Vi d] H Q=Q (WS (Nco l d)) H:=by
 refine pc (by decide) e82 rfl MO ?_
 rw [b82,c82]
 have a:=fun (H:NA) (mp:Bool) (lim:Nat) (Q:Value->NA->Prop)=>Ne6 (mp:=mp) (lim:=lim) (H:=H) (Q:=Q) hl.by
 rw [No hl] at a
 have q:=hl
 unfold Fine at q
 by_cases h1:0<=d/\d<=730484
 case neg=>
  have e:Nco l d=none:=by unfold Nco;rw [Nf (by omega)]
  simp only [n82,r82,NW,OH,a,UF,Nw h1,e,WS,SB,Nat.reduceLT,NE,NG,Nat.reduceEqDiff,QV,NK,place,NB,Nat.reduceAdd,NH]
 obtain ⟨n,rfl⟩:∃n:Nat,d=(n:Int):=⟨d.toNat,by omega⟩
 have e:Nco l (n:Int)=U5 l n:=by unfold Nco;rw [Nh (by omega),Ov]
 rw [e]
 have g:Int.tmod (n:Int) 7=((n % 7:Nat):Int):=rfl
 have r:IntKind.i64.wrap ((n % 7:Nat):Int)=((n % 7:Nat):Int):=NY (by omega) (by omega)
 have c:=fun (H:NA) (mp:Bool) (lim:Nat) (Q:Value->NA->Prop)=>Nte (mp:=mp) (lim:=lim) (H:=H) (Q:=Q) (w:=n % 7) hl.by (by omega)
 have f:goes l n=(l.days.toNat / 2 ^ (n % 7) % 2 == 1&&decide (0<=1440*(n:Int)+l.dep-l.cut)&&decide (1440*(n:Int)+l.dep+l.mins<=1051898399)):=rfl
 generalize (l.days.toNat / 2 ^ (n % 7) % 2 == 1)=b at c f
 have i:IntKind.i64.wrap ((n:Int)*1440)=1440*(n:Int):=by rw [NY (by omega) (by omega)];omega
 have j:IntKind.i64.wrap (1440*(n:Int)+l.dep)=1440*(n:Int)+l.dep:=NY (by omega) (by omega)
 have k:IntKind.i64.wrap (1440*(n:Int)+l.dep-l.cut)=1440*(n:Int)+l.dep-l.cut:=NY (by omega) (by omega)
 have o:IntKind.i64.wrap (1440*(n:Int)+l.dep+l.mins)=1440*(n:Int)+l.dep+l.mins:=NY (by omega) (by omega)
 have no:goes l n=false->U5 l n=none:=fun h=>by unfold U5;rw [h];rfl
 cases b with
 | false=>
   have e2:=no (by rw [f];rfl)
   simp only [n82,r82,NW,OH,a,UF,No h1,g,c,e2,WS,SB,Nat.reduceLT,NE,NG,Nat.reduceEqDiff,NF,QV,NK,place,NB,Nat.reduceAdd,NH,Int.reduceEq]
 | true=>
   by_cases h2:1440*(n:Int)+l.dep-l.cut<0
   ·have e2:=no (by rw [f,Nw (by omega)];rfl)
    simp only [n82,r82,NW,WB,RZ,OH,a,UF,No h1,g,c,i,j,k,Nq h2,e2,WS,SB,Nat.reduceLT,NE,NG,Nat.reduceEqDiff,NF,QV,NK,place,NB,Nat.reduceAdd,NH,Int.reduceEq]
   ·by_cases m:1051898399<1440*(n:Int)+l.dep+l.mins
    ·have e2:=no (by rw [f,Nw (p:=_<=(1051898399:Int)) (by omega),Bool.and_false])
     simp only [n82,r82,NW,WB,Ye,RZ,OH,a,UF,No h1,g,c,i,j,k,o,Nm h2,Nq m,e2,WS,SB,Nat.reduceLT,NE,NG,Nat.reduceEqDiff,NF,QV,NK,place,NB,Nat.reduceAdd,NH,Int.reduceEq]
    ·have e2:U5 l n=some (1440*(n:Int)+l.dep,1440*(n:Int)+l.dep+l.mins):=by
      unfold U5
      rw [f,No (p:=_<=(1051898399:Int)) (by omega),No (by omega)];rfl
     simp only [n82,r82,NW,WB,Ye,RZ,OH,a,UF,No h1,g,c,i,j,k,o,Nm h2,Nm m,e2,WS,SB,Nat.reduceLT,NE,NG,Nat.reduceEqDiff,NF,QV,NK,place,NB,Nat.reduceAdd,NH,Int.reduceEq]
end Go.Proofs.YtohnaffmcjbpoaaGreat.Fn


namespace Go.Proofs.YtohnaffmcjbpoaaGreat.Fn
open Go.AM Go.AM.Sym Go.Net Go.Flow
theorem Nnn [OB] {mp:Bool} {lim:Nat} {pp pl:Option Addr} {P:List Int} {L:List Leg} {cp cl:Nat} {a:Int} {H:NA} {Q:Value->NA->Prop} (hn:NetIn H pp pl P L) :
  NR E mp lim 79 [.agg (netV pp P.length cp pl L.length cl).toArray,Vi a] H Q=Q (.bool (decide (a∈P))) H:=by
 refine pc (by decide) e79 rfl rfl ?_
 rw [b79,c79]
 simp only [n79,SB,seval,NG,NK,place,NB]
 refine NL (fun i=>P.length-i) (fun i fr G=>i<=P.length/\fr 1=Vi a/\fr 2=Vp H.length/\fr 5=Vi i/\NZ H G/\NC G H.length=Vc (netV pp P.length cp pl L.length cl)/\∀j,j<i->gt P j≠a) 0
  ⟨Nx _,rfl,rfl,by rfl,NZ.refl.app,NQ,fun j d=>by omega⟩ ?_
 intro i fr G ⟨hi,f1,f2,f5,f,hB,c⟩ l
 rw [NP N0o.eq_1]
 refine NI ?_
 have e:=fun X=>(NZ.refl.app (X:=X)).cells hB
 by_cases b:i<P.length
 case neg=>
  obtain rfl:i=P.length:=by omega
  simp only [n79,r79,f2,f5,b,e,QA,SB,seval,NG,NF,NH]
  rw [Nw]
  intro m
  obtain ⟨j,d,he⟩:=List.mem_iff_getElem.1 m
  exact c j d (by rw [OI d];exact he)
 have g:=Um (f.sl hn.sp) b
 have k:=ZM (f.sl hn.sp) b rfl
 have n:IntKind.i64.wrap ((i:Int)+1)=((i+1:Nat):Int):=NS (by have:=hn.np;omega)
 by_cases he:gt P i=a
 ·simp only [n79,r79,f1,f2,f5,b,e,QA,g,k,Nq he,SB,seval,NG,NF,NH]
  rw [No (he▸PW b)]
 ·simp only [n79,f1,f2,f5,b,e,QA,g,k,Nm he,n,SB,seval,NG,NF]
  exact l (i+1) _ _ ⟨by omega,f1,f2,rfl,f.app,(NZ.refl.app).cells hB,fun j d=>by
   rcases (by omega:j<i\/j=i) with h | h
   ·exact c j h
   ·rw [h];exact he⟩ (by omega)
theorem Va [OB] {mp:Bool} {lim:Nat} {pp pl ps:Option Addr} {P:List Int} {L:List Leg} {s:List Flow.Src} {cp cl cs:Nat} {to dl:Int} {H:NA} {Q:Value->NA->Prop} (hn:NetIn H pp pl P L) (J:Sl H encS 3 ps s) (K:s.length<2 ^ 63) :
  NR E mp lim 49 [.agg (netV pp P.length cp pl L.length cl).toArray,.slice ps s.length cs,Vi to,Vi dl] H Q=Q (Vi (OD P L s to dl)) H:=by
 refine pc (by decide) e49 rfl rfl ?_
 rw [b49,c49]
 have mt:OQ=1051898399:=rfl
 have q:=fun X (mp:Bool) (lim:Nat) (Q:Value->NA->Prop)=>Npr (mp:=mp) (lim:=lim) (cp:=cp) (cl:=cl) (Q:=Q) (hn.app X)
 have o:=fun X (mp:Bool) (lim:Nat) (a:Int) (Q:Value->NA->Prop)=>Nnn (mp:=mp) (lim:=lim) (cp:=cp) (cl:=cl) (a:=a) (Q:=Q) (hn.app X)
 by_cases l:PY P L=0
 case neg=>
  simp only [n49,r49,OC,q,l,SB,seval,NE,NG,NF,NK,place,NB,NH]
  rw [OD,Nh l]
 have key:OD P L s to dl=if ¬(to∈P/\0<=dl/\dl<=OQ) then 2 else if 50<s.length then 5 else if ∀x∈s,SOk P x then 0 else 340:=Nf fun h=>h l
 rw [key]
 by_cases f:to∈P
 case neg=>
  simp only [n49,r49,OC,q,l,o,Nm f,SB,seval,NE,NG,NF,QV,NK,place,NB,NH]
 by_cases k:dl<0
 ·simp only [n49,r49,OC,q,l,o,Nq f,Nq k,SB,seval,NE,NG,NF,QV,NK,place,NB,NH]
  rw [Nh fun h=>by omega]
 by_cases n:1051898399<dl
 ·simp only [n49,r49,OC,q,l,o,Nq f,Nm k,Nq n,SB,seval,NE,NG,NF,QV,NK,place,NB,NH]
  rw [Nh fun h=>by omega]
 rw [Nf fun h=>h ⟨f,by omega,by omega⟩]
 by_cases v:50<(s.length:Int)
 ·simp only [n49,r49,OC,q,l,o,Nq f,Nm k,Nm n,v,SB,seval,NE,NG,NF,QV,NK,place,NB,NH]
  rw [Nh (by omega)]
 rw [Nf (by omega)]
 simp only [n49,OC,q,l,o,Nq f,Nm k,Nm n,v,SB,seval,NE,NG,NF,QV,NK,place,NB]
 refine NL (fun i=>s.length-i) (fun i fr G=>i<=s.length/\fr 4=Vp H.length/\fr 1=.slice ps s.length cs/\fr 10=Vi i/\H.length<G.length/\NZ H G/\NC G H.length=Vc (netV pp P.length cp pl L.length cl)/\∀j,j<i->SOk P (gt s j)) 0
  ⟨Nx _,rfl,rfl,by rfl,by simp,NZ.refl.app,NQ,fun j y=>by omega⟩ ?_
 intro i fr G ⟨hi,f4,f1,f10,I,A,hB,m⟩ F
 rw [NP N03.eq_1]
 refine NI ?_
 by_cases b:i<s.length
 case neg=>
  obtain rfl:i=s.length:=by omega
  simp only [n49,r49,f1,f10,b,SB,seval,NG,NF,NH]
  rw [Nh]
  intro x M
  obtain ⟨j,y,rfl⟩:=List.mem_iff_getElem.1 M
  rw [<-OI y];exact m j y
 have D:=A.sl J
 have r:=fun X=>(D.app X).loadCells OP b
 have t:=QM D b rfl
 have p:=fun X=>(NZ.refl.app (X:=X)).cells hB
 have e:=fun X (mp:Bool) (lim:Nat) (a:Int) (Q:Value->NA->Prop)=>Nnn (mp:=mp) (lim:=lim) (cp:=cp) (cl:=cl) (a:=a) (Q:=Q) ((hn.ext A).app X)
 have N:IntKind.i64.wrap ((i:Int)+1)=((i+1:Nat):Int):=NS (by omega)
 have B:gt s i∈s:=PW b
 have g:¬SOk P (gt s i)->¬∀x∈s,SOk P x:=fun h o=>h (o _ B)
 have d:SOk P (gt s i)↔(gt s i).pl∈P/\0<=(gt s i).rd/\(gt s i).rd<=OQ/\0<=(gt s i).gr/\(gt s i).gr<=1000000000:=Iff.rfl
 have c:H.length<=G.length:=by omega
 by_cases g1:(gt s i).pl∈P
 case neg=>
  simp only [n49,r49,f4,f1,f10,b,r,t,p,e,OC,OP,SS,NM,c,OH,Nm g1,SB,seval,NE,NG,NF,QV,place,NB,NH]
  rw [Nf (g fun h=>g1 h.1)]
 by_cases u:(gt s i).rd<0
 ·simp only [n49,r49,f4,f1,f10,b,r,t,p,e,OC,OP,SS,Tj,NM,c,OH,Nq g1,Nq u,SB,seval,NE,NG,NF,QV,place,NB,NH]
  rw [Nf (g fun h=>by have:=d.1 h;omega)]
 by_cases w:1051898399<(gt s i).rd
 ·simp only [n49,r49,f4,f1,f10,b,r,t,p,e,OC,OP,SS,Tj,NM,c,OH,Nq g1,Nm u,Nq w,SB,seval,NE,NG,NF,QV,place,NB,NH]
  rw [Nf (g fun h=>by have:=d.1 h;omega)]
 by_cases z:(gt s i).gr<0
 ·simp only [n49,r49,f4,f1,f10,b,r,t,p,e,OC,OP,SS,Tj,Vs,NM,c,OH,Nq g1,Nm u,Nm w,Nq z,SB,seval,NE,NG,NF,QV,place,NB,NH]
  rw [Nf (g fun h=>by have:=d.1 h;omega)]
 by_cases C:1000000000<(gt s i).gr
 ·simp only [n49,r49,f4,f1,f10,b,r,t,p,e,OC,OP,SS,Tj,Vs,NM,c,OH,Nq g1,Nm u,Nm w,Nm z,Nq C,SB,seval,NE,NG,NF,QV,place,NB,NH]
  rw [Nf (g fun h=>by have:=d.1 h;omega)]
 simp only [n49,f4,f1,f10,b,r,t,p,e,OC,OP,SS,Tj,Vs,NM,c,OH,Nq g1,Nm u,Nm w,Nm z,Nm C,N,SB,seval,NE,NG,NF,QV,place,NB]
 exact F (i+1) _ _ ⟨by omega,f4,f1,rfl,by simp;omega,A.app,(NZ.refl.app).cells hB,fun j y=>by
  rcases Oo j i with hji | hji
  ·exact m j hji
  ·obtain rfl:j=i:=by omega
   exact d.2 ⟨g1,by omega,by omega,by omega,by omega⟩⟩ (by omega)
theorem Nkg [OB] {mp:Bool} {lim:Nat} {a b:Flow.Ld} {H:NA} {Q:Value->NA->Prop}:NR E mp lim 53 [.agg (QJ a).toArray,.agg (QJ b).toArray] H Q=Q (.bool (decide (RD b a))) H:=by
 refine pc (by decide) e53 rfl rfl ?_
 rw [b53,c53]
 by_cases h1:b.dep<a.dep
 ·simp only [n53,r53,Sn,Nq h1,SB,seval,NG,NF,NK,place,NB,NH]
  rw [No (show RD b a from by unfold RD;omega)]
 by_cases h2:a.dep=b.dep
 ·by_cases c:b.leg<a.leg
  ·simp only [n53,r53,Sq,Sn,Nm h1,Nq h2,Nq c,SB,seval,NG,NF,NK,place,NB,NH]
   rw [No (show RD b a from by unfold RD;omega)]
  ·simp only [n53,r53,Sq,Sn,Nm h1,Nq h2,Nm c,SB,seval,NG,NF,NK,place,NB,NH]
   rw [Nw (show ¬RD b a from by unfold RD;omega)]
 ·simp only [n53,r53,Sn,Nm h1,Nm h2,SB,seval,NG,NF,NK,place,NB,NH]
  rw [Nw (show ¬RD b a from by unfold RD;omega)]
end Go.Proofs.YtohnaffmcjbpoaaGreat.Fn


namespace Go.Proofs.YtohnaffmcjbpoaaGreat.Fn
open Go.AM Go.AM.Sym Go.Net
def TG {α:Type} (lim:Nat) (G:NA) (enc:α->List Value) (e:Nat) (p:Option Addr) (cap:Nat) (l:List α):Prop:=
 Own lim G enc e p cap l\/∃R,p=Sa R/\cap=l.length/\cap<2 ^ 62/\NC G R=Vc (l.flatMap enc)/\lim<=R
section
variable {α:Type} {lim e cap:Nat} {G:NA} {enc:α->List Value} {p:Option Addr} {l:List α}
theorem TG.sl (h:TG lim G enc e p cap l) (he:∀x,(enc x).length=e):Sl G enc e p l:=by
 rcases h with h | ⟨R,rfl,_,_,h,_⟩
 ·exact h.sl he
 ·exact Sl.row he h
theorem TG.block (h:TG lim G enc e p cap l) {a:Addr} (b:p=some a):lim<=a.block/\a.block<G.length:=by
 rcases h with h | ⟨R,rfl,_,_,h,hl⟩
 ·exact h.block b
 ·cases b;exact ⟨hl,ND h⟩
theorem TG.chg {A:List Nat} {H':NA} (h:TG lim G enc e p cap l) (hc:Chg A G H') (hp:∀a,p=some a->a.block∉A):TG lim H' enc e p cap l:=by
 rcases h with h | ⟨R,rfl,h1,h2,b,c⟩
 ·exact .inl (h.chg hc hp)
 ·exact .inr ⟨R,rfl,h1,h2,hc.cells b (hp _ rfl),c⟩
theorem TG.step {lim' bytes:Nat} (h:TG lim G enc e p cap l) (o:lim'<=lim) (he:∀x,(enc x).length=e) (i:e≠0) (x:α) (u:(l.length+1)*bytes<=OT) (hn:l.length+1<2 ^ 61) (n:lim<=G.length)
  (X:NA) (b k:Nat) (s:NC (G++X) b=Vc (enc x)) :
  ∃c,OJ lim' none e bytes false (.slice p l.length cap) (.slice (Sa b) 1 k) (G++X)=some (.slice (Sa (G.length+X.length)) (l.length+1) (loose e),c++[])/\
   Own lim (c++[]) enc e (Sa (G.length+X.length)) (loose e) (l++[x])/\(∀A H0,H0.length<=lim->Chg A H0 G->Chg A H0 (c++[]))/\(∀j,j<G.length->(∀a,p=some a->j≠a.block)->NC (c++[]) j=NC G j)/\c.length=G.length+X.length+1/\
   (∀j,j<X.length->NC (c++[]) (G.length+j)=X.getD j .dead):=by
 rcases h with h | ⟨R,rfl,h1,h2,r,v⟩
 ·exact h.step o he i x u hn n X b k s
 ·have t:=ND r
  have d:NC ((G++(X++[Vc ((l++[x]).flatMap enc)]))++[]) (G.length+X.length)=Vc ((l++[x]).flatMap enc):=by
   rw [Na,OM]
   rw [show X.length=X.length+0 from rfl,Nwo];rfl
  refine ⟨G++(X++[Vc ((l++[x]).flatMap enc)]), ?_,Own.new d (by omega),fun A H0 _ hc=>(hc.app).app,fun j m _=>?_,by simp;omega,fun j m=>?_⟩
  ·have g:NC (G++X) R=Vc (l.flatMap enc):=by rw [NJ t];exact r
   have f:AM.loadCells (G++X) ⟨R,0,none⟩ (l.length*e)=some (l.flatMap enc):=by
    simp only [PT,g,Ny,PX he,Ng,if_true,Pa]
    rw [Ol (by rw [PX he];exact Ng _)]
   have hl:AM.loadCells (G++X) ⟨b,0,none⟩ (1*e)=some (enc x):=by
    simp only [PT,s,Ny,Nat.one_mul,he,Ng,if_true,Pa]
    rw [Ol (by rw [he];exact Ng _)]
   subst h1
   have q:¬l.length=loose e:=by unfold loose;omega
   simp only [OJ,firstCells,lenOf,hl,f,if_false,N8,q,Nat.one_ne_zero]
   rw [Nf (by omega),Nh h2,Nf (by omega)]
   simp [place]
  ·rw [Na,NJ m]
  ·rw [Na,OM,Nc,Og m,Nc]
end
def i64 (n:Int):Value:=Vi n
end Go.Proofs.YtohnaffmcjbpoaaGreat.Fn


namespace Go.Proofs.YtohnaffmcjbpoaaGreat.Fn
open Go.AM Go.AM.Sym Go.Net Go.Flow
def Sz (p:Pr):List Value:=[Vi p.tail,Vi p.head,Vi p.room,Vi p.flow]
theorem QE (p:Pr):(Sz p).length=4:=id rfl
theorem N2s {p:Pr}:(Sz p)[0]? = some (Vi p.tail):=id rfl
theorem N2r {p:Pr}:(Sz p)[1]? = some (Vi p.head):=id rfl
def Ta (x y z w:Value):List Value:=[x,y,z,w]
theorem Nfl {x:Int×Int}:∀{PL:List (Int×Int)} {j:Nat},j<PL.length->gt PL j=x->(∀i,i<j->gt PL i≠x)->PL.idxOf x=j
 | [],_,h,_,_=>by simp at h
 | a::PL,0,_,h,_=>by
   have h:a=x:=h
   rw [h,List.idxOf_cons_self]
 | a::PL,j+1,hj,h,hn=>by
   have b:a≠x:=hn 0 (by omega)
   rw [OV] at h
   rw [List.idxOf_cons,cond_eq_ite,Nf (by simpa using b),Nfl (by simpa using hj) h fun i hi=>by have:=hn (i+1) (by omega);rw [OV] at this;exact this]
section
variable {α:Type} {lim e cap:Nat} {G G':NA} {enc:α->List Value} {p:Option Addr} {l:List α}
theorem TG.same (h:TG lim G enc e p cap l) (c:∀a,p=some a->NC G' a.block=NC G a.block):TG lim G' enc e p cap l:=by
 rcases h with h | ⟨R,rfl,h1,h2,b,d⟩
 ·rcases h with h | ⟨R,rfl,h1,h2,b⟩
  ·exact .inl (.inl h)
  ·exact .inl (.inr ⟨R,rfl,h1,by rw [c _ rfl];exact h2,b⟩)
 ·exact .inr ⟨R,rfl,h1,h2,by rw [c _ rfl];exact b,d⟩
theorem TG.app (h:TG lim G enc e p cap l) (X:NA):TG lim (G++X) enc e p cap l:=h.same fun a b=>NJ (h.block b).2
theorem TG.mut {R:Nat} (h:TG lim G enc e p cap l) (m:Mut G G' R) (hp:∀a,p=some a->a.block≠R):TG lim G' enc e p cap l:=h.same fun a b=>m.other _ (hp a b)
theorem TG.moreF {lim' bytes:Nat} (h:TG lim G enc e p cap l) (f:lim'<=lim) (he:∀x,(enc x).length=e) (d:e≠0) (m:List α) (j:m≠[]) (k:(l.length+m.length)*bytes<=OT) (hn:l.length+m.length<2 ^ 61)
  (X:NA) {x:Value} {str:Bool} (h1:firstCells (G++X) e str x=some (m.flatMap enc)) (h2:lenOf x=some m.length) :
  ∃b,OJ lim' none e bytes str (.slice p l.length cap) x (G++X)=some (.slice (Sa ((G++X).length)) (l.length+m.length) (loose e),b++[])/\Own G.length b enc e (Sa ((G++X).length)) (loose e) (l++m)/\Chg (QC p) G b/\(G++X).length<b.length:=by
 rcases h with h | ⟨R,rfl,rfl,k2,k3,n⟩
 ·exact Own.moreF h f he d m j k hn X h1 h2
 ·have g:¬m.length=0:=fun q=>j (List.length_eq_zero_iff.1 q)
  have c:NC (G++X) R=Vc (l.flatMap enc):=by rw [NJ (ND k3)];exact k3
  have a:AM.loadCells (G++X) ⟨R,0,none⟩ (l.length*e)=some (l.flatMap enc):=by
   simp only [PT,c,Ny,PX he,Ng,if_true,Pa]
   rw [Ol (by rw [PX he];exact Ng _)]
  have i:¬l.length=loose e:=by unfold loose;omega
  refine ⟨G++(X++[Vc ((l++m).flatMap enc)]), ?_, ?_,Chg.refl.app,by simp⟩
  ·simp only [OJ,h1,h2,a,i,g,if_false]
   rw [Nf (by omega),Nh k2,Nf (by omega)]
   simp [place]
  ·refine Own.new ?_ (by simp)
   rw [<-Nr];exact NQ
end
theorem Ncf [OB] {lim M cp:Nat} {pp:Option Addr} {va vd vq:Value} {PL:List (Int×Int)} {p t:Int} {G:NA} {Q:Value->NA->Prop} (s:TG M G enc2 2 pp cp PL) (hl:PL.length<2 ^ 28) (N:lim<=G.length) (O:lim<=M) (aa:M<=G.length)
  (hQ:∀G' o r,TG M G' enc2 2 o r (addN PL (p,t))->Chg (QC pp) G G'->(∀b∈QC o,b∈QC pp\/G.length<=b)->Q (.tuple #[Vi ((addN PL (p,t)).idxOf (p,t):Nat),.agg (Ta (.slice o (addN PL (p,t)).length r) va vd vq).toArray]) G') :
  NR E false lim 81 [.agg (Ta (.slice pp PL.length cp) va vd vq).toArray,Vi p,Vi t] G Q:=by
 refine SE (by decide) e81 rfl ?_
 rw [b81,c81]
 simp only [n81,SB,seval,NG,NK,place,NB]
 have J:NC (G++[Vc (Ta (.slice pp PL.length cp) va vd vq),Vc (Ta Vz Vz (Vi 0) Vz)]) G.length=Vc (Ta (.slice pp PL.length cp) va vd vq):=NQ
 have K:NC (G++[Vc (Ta (.slice pp PL.length cp) va vd vq),Vc (Ta Vz Vz (Vi 0) Vz)]) (G.length+1)=Vc (Ta Vz Vz (Vi 0) Vz):=OM
 refine NL (fun j=>PL.length-j) (fun j fr G'=>j<=PL.length/\fr 1=Vi p/\fr 2=Vi t/\fr 3=Vp G.length/\fr 7=Vp (G.length+1)/\fr 8=Vi j/\NZ (G++[Vc (Ta (.slice pp PL.length cp) va vd vq),Vc (Ta Vz Vz (Vi 0) Vz)]) G'/\∀i,i<j->gt PL i≠(p,t)) 0 ⟨Nx _,rfl,rfl,rfl,rfl,rfl,.refl,fun i hi=>by omega⟩ ?_
 intro j fr G' ⟨hj,f1,f2,f3,f7,f8,q,f⟩ hN
 rw [NP N0n.eq_1]
 have b3:=q.cells J
 have b7:=q.cells K
 have k3:=fun Z=>(NZ.refl.app (X:=Z)).cells b3
 have k7:=fun Z=>(NZ.refl.app (X:=Z)).cells b7
 have d:NZ G G':=NZ.trans (NZ.refl.app) q
 have P:=q.len
 simp only [Nb,Nk,Nl] at P
 refine NI ?_
 unfold Ta at k3 k7
 by_cases c:j<PL.length
 case pos=>
  have T:=d.sl (s.sl PN)
  have l0:∀Z,AM.loadCell (G'++Z) ((Tk pp 2 j).add 0)=some (Vi (gt PL j).1):=fun Z=>(T.app Z).loadCell PN c (j:=0) (by decide)
  have l1:∀Z,AM.loadCell (G'++Z) ((Tk pp 2 j).add 1)=some (Vi (gt PL j).2):=fun Z=>(T.app Z).loadCell PN c (j:=1) (by decide)
  have U:=QM T c rfl
  have w1:IntKind.i64.wrap ((j:Int)+1)=((j+1:Nat):Int):=NS (by omega)
  by_cases c1:(gt PL j).1=p
  case neg=>
   simp only [n81,f1,f3,f8,c,k3,l0,U,w1,Nm c1,SB,seval,NG,NF]
   exact hN (j+1) _ _ ⟨by omega,f1,f2,f3,f7,rfl,q.app,fun i hi=>by
    rcases (by omega:i<j\/i=j) with h | h
    ·exact f i h
    ·rw [h];intro e;rw [e] at c1;exact c1 rfl⟩ (by omega)
  by_cases c2:(gt PL j).2=t
  case neg=>
   simp only [n81,f1,f2,f3,f8,c,k3,l0,l1,U,w1,c1,Nm c2,SB,seval,NG,NF]
   exact hN (j+1) _ _ ⟨by omega,f1,f2,f3,f7,rfl,q.app,fun i hi=>by
    rcases (by omega:i<j\/i=j) with h | h
    ·exact f i h
    ·rw [h];intro e;rw [e] at c2;exact c2 rfl⟩ (by omega)
  have u:gt PL j=(p,t):=R6 c1 c2
  have g:(p,t)∈PL:=by rw [<-u];exact PW c
  have k:addN PL (p,t)=PL:=Nh g
  have n:(addN PL (p,t)).idxOf (p,t)=j:=by rw [k];exact Nfl c u f
  obtain ⟨G2,e2,k2,R⟩:=OO (ND b7) (Vc (Ta (.slice pp PL.length cp) va vd vq))
  have w:=fun Z=>(NZ.refl.app (X:=Z)).cells k2
  have ac:=R.len
  unfold Ta at e2 w
  simp only [n81,r81,f1,f2,f3,f7,f8,c,k3,k7,l0,l1,U,c1,c2,e2,w,show lim<=G.length+1 by omega,SB,seval,NG,NF,NB,NH]
  have v:=hQ (G2++[]) pp cp (by rw [k];exact ((s.chg (A:=[]) d.chg (fun _ _ h=>by cases h)).mut R fun a l e=>by have:=(s.block l).2;omega).app _) ((d.chg.mut R (.inr (by omega))).app) (fun b D=>.inl D)
  rw [n,k] at v
  exact v
 obtain rfl:j=PL.length:=by omega
 have g:(p,t)∉PL:=fun g=>by
  obtain ⟨i,hi,e⟩:=List.mem_iff_getElem.1 g
  exact f i hi (by rw [OI hi];exact e)
 have k:addN PL (p,t)=PL++[(p,t)]:=Nf g
 have n:(addN PL (p,t)).idxOf (p,t)=PL.length:=by
  rw [k,List.idxOf_append,Nf g,List.idxOf_cons_self];omega
 have nb:∀b,G.length<=b->b∉QC pp:=fun b D g=>by
  obtain ⟨a,l,rfl⟩:=NU.1 g
  have:=(s.block l).2;omega
 have I:TG M G' enc2 2 pp cp PL:=s.chg (A:=[]) d.chg (fun _ _ h=>by cases h)
 obtain ⟨G4,W,V,H,L⟩:=TG.moreF I (lim':=lim) (bytes:=16) O PN (by decide) [(p,t)] (by simp) (by simp;unfold OT;omega) (by simp;omega) [Vc [Vi p,Vi t]] (x:=.slice (Sa G'.length) 1 1) (str:=false)
  (QH (m:=[(p,t)]) (Sl.row (ro:=false) PN NQ)) rfl
 simp only [Nb,Nk,Nl,Ny] at W V L
 have b34:=H.cells b3 (nb _ (Ng _))
 have b74:=H.cells b7 (nb _ (by omega))
 obtain ⟨G5,Y,k5,F⟩:=OO (ND b34) (Vc (Ta (.slice (Sa (G'.length+1)) (PL.length+1) (loose 2)) va vd vq))
 have b75:=F.cells b74 (by omega)
 obtain ⟨G6,e6,k6,S⟩:=OO (ND b75) (Vc (Ta (.slice (Sa (G'.length+1)) (PL.length+1) (loose 2)) va vd vq))
 have ad:=F.len
 have ae:=S.len
 have y:=fun Z=>(NZ.refl.app (X:=Z)).cells b34
 have z:=fun Z=>(NZ.refl.app (X:=Z)).cells k5
 have C:=fun Z=>(NZ.refl.app (X:=Z)).cells b75
 have B:=fun Z=>(NZ.refl.app (X:=Z)).cells k6
 have wz:IntKind.i64.wrap (((PL.length+1:Nat):Int)-1)=(PL.length:Int):=by rw [NY (by omega) (by omega)];omega
 have ag:IntKind.i64.wrap ((PL.length:Int)+1-1)=(PL.length:Int):=by rw [NY (by omega) (by omega)];omega
 unfold Ta at y z C B Y e6
 simp only [n81,r81,f1,f2,f3,f7,f8,k3,W,y,Y,z,C,e6,B,wz,show lim<=G.length+1 by omega,N,SB,seval,NG,NF,place,NB,NH]
 have v:=hQ (G6++[]) (Sa (G'.length+1)) (loose 2) (by
  rw [k]
  exact .inl ((((V.le (by omega)).mut F fun a l e=>by cases l;simp only at e;omega).mut S fun a l e=>by cases l;simp only at e;omega).app _)) ((((d.chg.trans H).mut F (.inr (by omega))).mut S (.inr (by omega))).app) (fun b D=>.inr (by simp only [QC,Nj] at D;omega))
 rw [n,k,Nb,Ow] at v
 exact v
theorem M8 [OB] {lim c:Nat} {p:Option Addr} {s:List Flow.Src} {H:NA} {Q:Value->NA->Prop} (D:Sl H encS 3 p s) (hn:s.length<=200) (e:lim<=H.length)
  (y:∀G u c',Own H.length G encS 3 u c' s->Chg [] H G->Q (.slice u s.length c') G):NR E false lim 28 [.slice p s.length c] H Q:=by
 refine SE (by decide) e28 rfl ?_
 rw [b28,c28]
 refine NI ?_
 simp only [n28,SB,seval,NG]
 refine NL (fun z:Nat×Option Addr×Nat=>s.length-z.1) (fun z fr G'=>z.1<=s.length/\fr 0=.slice p s.length c/\fr 3=.slice z.2.1 z.1 z.2.2/\fr 4=Vi z.1/\Own H.length G' encS 3 z.2.1 z.2.2 (s.take z.1)/\Chg [] H G') (0,none,0) ⟨Nx _,rfl,by rfl,by rfl,.nil,Chg.refl.app⟩ ?_
 rintro ⟨j,q,k⟩ fr G' ⟨A,o,f3,f4,l,i⟩ w
 simp only at A f3 f4 l
 have hl:=i.len
 rw [NP N1c.eq_1]
 refine NI ?_
 by_cases a:j<s.length
 case neg=>
  obtain rfl:j=s.length:=by omega
  rw [Of] at l
  simp only [n28,r28,o,f3,f4,a,SB,seval,NG,NF,reduceCtorEq,NH]
  exact y _ q k (l.app _) i.app
 have n:=i.sl D (fun _ _ _=>by simp)
 have f:=fun X=>(n.app X).loadCell OP a (j:=0) (by decide)
 rw [SS] at f
 have g:=fun X=>(n.app X).loadCell OP a (j:=1) (by decide)
 rw [Tj] at g
 have h:=fun X=>(n.app X).loadCell OP a (j:=2) (by decide)
 rw [Vs] at h
 have I:=fun c (kk:IntKind) (H1:NA)=>n.idx (c:=c) (k:=kk) (H1:=H1) a
 have b:(s.take j).length=j:=by rw [N6];omega
 have F:IntKind.i64.wrap ((j:Int)+1)=((j+1:Nat):Int):=NS (by omega)
 have B:lim<=G'.length:=by omega
 obtain ⟨J,p2,c2,e2,t,v,r,K,C,_⟩:=l.moreD (d:=G'.length+1) (lim':=lim) (bytes:=24) e OP (by decide) [gt s j] (by rw [b];unfold OT;simp;omega) (by rw [b];simp;omega) hl [Vc (encS (gt s j)),.dead] (by omega) (by simp) (x:=.slice (Sa G'.length) 1 1) (str:=false)
  (QH (m:=[gt s j]) (Sl.row OP (by rw [NQ];simp;rfl))) rfl
 rw [b] at e2
 rw [<-QI a] at t
 simp only [encS,Nk,Nl,Ny] at e2
 simp only [n28,o,f3,f4,a,f,g,h,I,F,e2,SB,seval,NG,NF,reduceCtorEq,place]
 exact w (j+1,p2,c2) _ _ ⟨by show j+1<=_;omega,o,rfl,rfl,t,v [] H (Ng _) i⟩ (by show s.length-(j+1)<s.length-j;omega)
theorem Nea [OB] {lim c:Nat} {p:Option Addr} {s:List Flow.Ld} {H:NA} {Q:Value->NA->Prop} (F:Sl H QJ 4 p s) (hn:s.length<=200) (e:lim<=H.length)
  (A:∀G v c',Own H.length G QJ 4 v c' s->Chg [] H G->Q (.slice v s.length c') G):NR E false lim 31 [.slice p s.length c] H Q:=by
 refine SE (by decide) e31 rfl ?_
 rw [b31,c31]
 refine NI ?_
 simp only [n31,SB,seval,NG]
 refine NL (fun z:Nat×Option Addr×Nat=>s.length-z.1) (fun z fr G'=>z.1<=s.length/\fr 0=.slice p s.length c/\fr 3=.slice z.2.1 z.1 z.2.2/\fr 4=Vi z.1/\Own H.length G' QJ 4 z.2.1 z.2.2 (s.take z.1)/\Chg [] H G') (0,none,0) ⟨Nx _,rfl,by rfl,by rfl,.nil,Chg.refl.app⟩ ?_
 rintro ⟨j,q,k⟩ fr G' ⟨B,r,f3,f4,o,n⟩ y
 simp only at B f3 f4 o
 have hl:=n.len
 rw [NP N09.eq_1]
 refine NI ?_
 by_cases a:j<s.length
 case neg=>
  obtain rfl:j=s.length:=by omega
  rw [Of] at o
  simp only [n31,r31,r,f3,f4,a,SB,seval,NG,NF,reduceCtorEq,NH]
  exact A _ q k (o.app _) n.app
 have l:=n.sl F (fun _ _ _=>by simp)
 have f:=fun X=>(l.app X).loadCell NV a (j:=0) (by decide)
 rw [Sq] at f
 have g:=fun X=>(l.app X).loadCell NV a (j:=1) (by decide)
 rw [Sn] at g
 have h:=fun X=>(l.app X).loadCell NV a (j:=2) (by decide)
 rw [Tx] at h
 have i:=fun X=>(l.app X).loadCell NV a (j:=3) (by decide)
 rw [Ug] at i
 have J:=fun c (kk:IntKind) (H1:NA)=>l.idx (c:=c) (k:=kk) (H1:=H1) a
 have b:(s.take j).length=j:=by rw [N6];omega
 have I:IntKind.i64.wrap ((j:Int)+1)=((j+1:Nat):Int):=NS (by omega)
 have C:lim<=G'.length:=by omega
 obtain ⟨K,p2,c2,e2,u,w,t,L,D,_⟩:=o.moreD (d:=G'.length+1) (lim':=lim) (bytes:=32) e NV (by decide) [gt s j] (by rw [b];unfold OT;simp;omega) (by rw [b];simp;omega) hl [Vc (QJ (gt s j)),.dead] (by omega) (by simp) (x:=.slice (Sa G'.length) 1 1) (str:=false)
  (QH (m:=[gt s j]) (Sl.row NV (by rw [NQ];simp;rfl))) rfl
 rw [b] at e2
 rw [<-QI a] at u
 simp only [QJ,Nk,Nl,Ny] at e2
 simp only [n31,r,f3,f4,a,f,g,h,i,J,I,e2,SB,seval,NG,NF,reduceCtorEq,place]
 exact y (j+1,p2,c2) _ _ ⟨by show j+1<=_;omega,r,rfl,rfl,u,w [] H (Ng _) n⟩ (by show s.length-(j+1)<s.length-j;omega)
end Go.Proofs.YtohnaffmcjbpoaaGreat.Fn


namespace Go.Flow
open Go.AM Go.Net
theorem Nl6 {a b c:Ld} (h1:¬RD b a) (h2:¬RD c b):¬RD c a:=by unfold RD at *;omega
theorem Nk5 {O:List Ld} {x:Ld} {k:Nat} (l:O.Pairwise (fun a b=>¬RD b a)) (p:k<=O.length) (h1:∀j,k<=j->j<O.length->RD x (gt O j)) (h2:∀j,j+1=k->¬RD x (gt O j)) :
  (O.take k++[x]++O.drop k).Pairwise (fun a b=>¬RD b a)/\(O.take k++[x]++O.drop k).Perm (O++[x]):=by
 have c:=l
 rw [<-Pu k O,Rr] at c
 obtain ⟨m,n,e⟩:=c
 have hd:∀y∈O.drop k,RD x y:=fun y d=>by
  obtain ⟨j,g,rfl⟩:=List.mem_iff_getElem.1 d
  rw [Ps] at g
  rw [Rj]
  have:=h1 (k+j) (by omega) (by omega)
  rwa [OI (by omega)] at this
 have o:∀y∈O.take k,¬RD x y:=fun y d=>by
  obtain ⟨j,g,rfl⟩:=List.mem_iff_getElem.1 d
  rw [N6] at g
  rw [List.getElem_take]
  have hl:=h2 (k-1) (by omega)
  rcases Oo j (k-1) with i | hge
  ·have hp:=N5.1 l j (k-1) (by omega) (by omega) i
   rw [OI (by omega)] at hl
   exact Nl6 hp hl
  ·obtain rfl:j=k-1:=by omega
   rwa [OI (by omega)] at hl
 refine ⟨?_, ?_⟩
 ·rw [Nr,Rr]
  refine ⟨m, ?_,fun a h b f=>?_⟩
  ·rw [List.singleton_append,List.pairwise_cons]
   exact ⟨fun y d h=>by have:=hd y d;unfold RD at *;omega,n⟩
  ·rcases Nv.1 f with h' | h'
   ·simp only [Nj] at h';subst h';exact o a h
   ·exact e a h b h'
 ·have:=(List.perm_append_comm (l₁:=[x]) (l₂:=O.drop k)).append_left (O.take k)
  rw [<-Nr (O.take k) (O.drop k),Pu] at this
  rwa [Nr]
end Go.Flow
namespace Go.Proofs.YtohnaffmcjbpoaaGreat.Fn
open Go.AM Go.AM.Sym Go.Net Go.Flow
theorem Nwc [OB] {lim n c B13:Nat} {p:Option Addr} {O:List Flow.Ld} {x:Flow.Ld} {v1 v2 v3 v8 v9 v10:Value} {G:NA} {fr:Nat->Value} {K:List AItem} {Q:Value->NA->Prop}
  (A:Sl G QJ 4 p O) (hn:O.length=n) (J:n<2 ^ 40) (hB:NC G B13=Vc (QJ x))
  (f1:fr 1=v1) (f2:fr 2=v2) (f3:fr 3=v3) (f8:fr 8=v8) (f9:fr 9=v9) (f10:fr 10=v10) (f7:fr 7=.slice p n c) (f13:fr 13=Vp B13) (f14:fr 14=Vi n)
  (z:∀fr' k,k<=n->(∀j,k<=j->j<O.length->RD x (gt O j))->(∀j,j+1=k->¬RD x (gt O j))->fr' 1=v1->fr' 2=v2->fr' 3=v3->fr' 8=v8->fr' 9=v9->fr' 10=v10->fr' 7=.slice p n c->fr' 13=Vp B13->fr' 14=Vi k->PQ E a52 lim K fr' (G++[]) Q) :
  PQ E a52 lim (.code (.loop Nvg)::.inBlock 4::K) fr G Q:=by
 subst hn
 refine NL (fun k:Nat=>k) (fun k d w=>k<=O.length/\(∀j,k<=j->j<O.length->RD x (gt O j))/\d 1=v1/\d 2=v2/\d 3=v3/\d 8=v8/\d 9=v9/\d 10=v10/\d 7=.slice p O.length c/\d 13=Vp B13/\d 14=Vi k/\w=G++[]) O.length ⟨Ng _,fun j h1 h2=>by omega,f1,f2,f3,f8,f9,f10,f7,f13,f14,by simp⟩ ?_
 rintro k d w ⟨s,f,q1,q2,q3,t,u,l,q,g,e,rfl⟩ r
 rw [NP Nvg.eq_1]
 have y:=fun X=>(NZ.refl.app (X:=X)).cells hB
 match k,s,f,e,r with
 | 0,s,f,e,r=>
   replace e:d 14=Vi 0:=e
   have D:¬(0:Int)<0:=by decide
   simp only [n52,e,Nm D,SB,seval,NG,NF]
   exact z _ 0 (Nx _) f (fun j I=>by omega) q1 q2 q3 t u l q g (by rw [show (Vi ((0:Nat):Int):Value)=Vi 0 from rfl];exact e)
 | k+1,s,f,e,r=>
   have o:k<O.length:=by omega
   have hp:(0:Int)<((k+1:Nat):Int):=by omega
   have v:IntKind.i64.wrap (((k+1:Nat):Int)-1)=(k:Int):=by rw [show ((k+1:Nat):Int)-1=(k:Int) by omega];exact NY (by omega) (by omega)
   obtain ⟨kk,m⟩:∃kk:Int,kk=((k+1:Nat):Int):=⟨_,rfl⟩
   rw [<-m] at hp v e
   have B:=fun X=>(A.app X).loadCells NV o
   have C:=QM A o rfl
   have i:=fun (H:NA) (mp:Bool) (lim:Nat) (Q:Value->NA->Prop)=>Nkg (a:=gt O k) (b:=x) (mp:=mp) (lim:=lim) (H:=H) (Q:=Q)
   by_cases h1:RD x (gt O k)
   ·rw [No h1] at i
    simp only [n52,q,g,e,Nq hp,v,B,C,y,i,NV,OH,SB,seval,NE,NG,NF]
    exact r k _ _ ⟨by omega,fun j h2 F=>by
     rcases (by omega:j=k\/k+1<=j) with h | h
     ·rw [h];exact h1
     ·exact f j h F,q1,q2,q3,t,u,l,q,g,rfl,rfl⟩ (by omega)
   ·rw [Nw h1] at i
    simp only [n52,q,g,e,Nq hp,v,B,C,y,i,NV,OH,SB,seval,NE,NG,NF]
    exact z _ (k+1) s f (fun j I=>by rw [show j=k by omega];exact h1) q1 q2 q3 t u l q g (by rw [<-m];exact e)
theorem N1y {lim n c k:Nat} {p:Option Addr} {O:List Flow.Ld} {x:Flow.Ld} {H G:NA} (F:Own H.length G QJ 4 p c O) (L:Chg [] H G) (hn:O.length=n) (I:k<=n) (N:n<2 ^ 30) (J:lim<=H.length) :
  ∃p1 c1 a r o j p2 c2 l s q,Uc 4 (.slice p n c) none (some (Vi k)) none=some (.slice p1 k c1)/\
   OJ lim none 4 32 false Vz (.slice p1 k c1) (G++[])=some (.slice r k o,a++[])/\
   OJ lim none 4 32 false (.slice r k o) (.slice (Sa a.length) 1 1) (a++[Vc (QJ x)])=some (.slice (Sa (a.length+1)) (k+1) (loose 4),j++[])/\
   Uc 4 (.slice p n c) (some (Vi k)) none none=some (.slice p2 (n-k) c2)/\
   OJ lim none 4 32 false (.slice (Sa (a.length+1)) (k+1) (loose 4)) (.slice p2 (n-k) c2) (j++[])=some (.slice s (n+1) q,l++[])/\
   Own H.length l QJ 4 s q (O.take k++[x]++O.drop k)/\Chg [] G l/\Chg [] G a/\Chg [] G j/\lim<=a.length:=by
 subst hn
 have hl:=L.len
 have K:=F.sl NV
 have d:=F.capOk
 obtain ⟨p1,c1,Q,s1,_,_,_⟩:=Nez (vlo:=none) (vhi:=some (Vi k)) (lo:=0) (hi:=k) K d NV (fun cap h=>by rw [Nmv (by omega) (by omega),Ov]) (Nx _) I (by omega)
 rw [Nat.sub_zero,Pa] at *
 have g:(O.take k).length=k:=by rw [N6];omega
 have w:firstCells (G++[]) 4 false (.slice p1 k c1)=some ((O.take k).flatMap QJ):=by
  have:=QH (k:=c1) (s1.app [])
  rw [g] at this
  exact this
 obtain ⟨a,r,o,t,D,A,S,V⟩:=(Own.nil (lim:=G.length) (G:=G) (enc:=QJ) (e:=4)).more (lim':=lim) (bytes:=32) (by omega) NV (by decide) (O.take k) (by simp;unfold OT;omega) (by simp;omega) (Ng _) [] (x:=.slice p1 k c1) (str:=false) w (by show some k=some _;rw [g])
 simp only [Nl,Ny,Oa,g,Na] at t D A
 have f:=A [] G (Ng _) Chg.refl
 have z:=f.len
 obtain ⟨j,u,m,B,T,M,_⟩:=D.step (lim':=lim) (bytes:=32) (by omega) NV (by decide) x (by rw [g];unfold OT;omega) (by rw [g];omega) z [Vc (QJ x)] a.length 1 (by rw [NQ];rfl)
 simp only [Nk,Nl,Ny,g,Na] at u m B
 have b:=B [] G (Ng _) f
 have P:=b.sl K fun _ _ _=>by simp
 obtain ⟨p2,c2,R,s2,_,_,_⟩:=Nez (vlo:=some (Vi k)) (vhi:=none) (lo:=k) (hi:=O.length) P d NV (fun cap h=>by rw [Nhm (by omega) (by omega),Ov]) I (Ng _) (by omega)
 rw [Of] at s2
 have hd:(O.drop k).length=O.length-k:=Ps
 have y:firstCells (j++[]) 4 false (.slice p2 (O.length-k) c2)=some ((O.drop k).flatMap QJ):=by
  have:=QH (k:=c2) (s2.app [])
  rw [hd] at this
  exact this
 have i:(O.take k++[x]).length=k+1:=by rw [Nb,g];rfl
 obtain ⟨l,s,q,v,E,C,U,W⟩:=m.more (lim':=lim) (bytes:=32) (by omega) NV (by decide) (O.drop k) (by rw [i,hd];unfold OT;omega) (by rw [i,hd];omega) b.len [] (x:=.slice p2 (O.length-k) c2) (str:=false) y (by show some (O.length-k)=some _;rw [hd])
 rw [i,hd,show k+1+(O.length-k)=O.length+1 by omega] at v
 simp only [Na] at E C v t u
 refine ⟨p1,c1,a,r,o,j,p2,c2,l,s,q,Q,by simpa using t,by simpa using u,R,by simpa using v,E.le (by omega),C [] G (Ng _) b,f,b,by omega⟩
theorem Nuz {C:List (Leg×Int)} {c:Leg×Int} {O:List Flow.Ld} (h:O.Perm (C.map Tv)):(O++[Tv c]).Perm ((C++[c]).map Tv):=by
 rw [Pi];exact h.append_right _
theorem Nab [OB] {lim cp cl:Nat} {pp pl:Option Addr} {P:List Int} {L:List Leg} {to dl:Int} {H:NA} {Q:Value->NA->Prop} (hn:NetIn H pp pl P L) (hF:∀l∈L,Fine l) (bb:L.length<=8) (ad:0<=dl) (ae:dl<=OQ) (aj:lim<=H.length)
  (hQ:∀G q c O,Own H.length G QJ 4 q c O->O.Perm ((NN L to dl).map Tv)->O.Pairwise (fun x y=>¬RD y x)->Chg [] H G->Q (.slice q O.length c) G) :
  NR E false lim 52 [.agg (netV pp P.length cp pl L.length cl).toArray,Vi to,Vi dl] H Q:=by
 have mt:OQ=1051898399:=rfl
 refine SE (by decide) e52 rfl ?_
 rw [b52,c52]
 refine NI ?_
 simp only [n52,SB,seval,NG,NK,place,NB]
 refine NL (fun z:Nat×List Flow.Ld×Option Addr×Nat=>L.length-z.1) (fun z fr G=>z.1<=L.length/\fr 1=Vi to/\fr 2=Vi dl/\fr 3=Vp H.length/\fr 8=Vi z.1/\fr 7=.slice z.2.2.1 z.2.1.length z.2.2.2/\H.length<G.length/\NC G H.length=Vc (netV pp P.length cp pl L.length cl)/\Own H.length G QJ 4 z.2.2.1 z.2.2.2 z.2.1/\z.2.1.Perm ((NN (L.take z.1) to dl).map Tv)/\z.2.1.Pairwise (fun x y=>¬RD y x)/\Chg [] H G) (0,[],none,0)
  ⟨Nx _,rfl,rfl,rfl,by rfl,by rfl,by simp,NQ,.nil,List.Perm.refl _,List.Pairwise.nil,Chg.refl.app⟩ ?_
 rintro ⟨i,O,q,c⟩ fr G ⟨hi,f1,f2,f3,f8,f7,bf,hB,hO,hp,Y,hC⟩ hN
 simp only at hi f8 f7 hO hp Y
 rw [NP N00.eq_1]
 refine NI ?_
 have bX:=fun X=>(NZ.refl.app (X:=X)).cells hB
 by_cases B:i<L.length
 case neg=>
  obtain rfl:i=L.length:=by omega
  rw [Of] at hp
  simp only [n52,r52,f3,f8,f7,B,bX,Sj,SB,seval,NG,NF,NH]
  exact hQ _ q c O (hO.app _) hp Y hC.app
 have nG:=hn.ext hC.ext
 have lL:=fun X=>(nG.sl.app X).loadCells NW B
 have xL:=QM nG.sl B rfl
 obtain ⟨l,hl⟩:∃l,l=gt L i:=⟨_,rfl⟩
 rw [<-hl] at lL
 have W:Fine l:=by rw [hl];exact hF _ (PW B)
 have ap:=W
 unfold Fine at ap
 obtain ⟨d0,hq,bg,bh,bk⟩:=Nro ad ae
 have w:=Nzo ad ae
 have ws:IntKind.i64.wrap (dl-20160)=dl-20160:=NY (by omega) (by omega)
 have a2:IntKind.i64.wrap (d0-1)=d0-1:=NY (by omega) (by omega)
 have w1:IntKind.i64.wrap ((i:Int)+1)=((i+1:Nat):Int):=NS (by omega)
 have ah:lim<=G.length:=by omega
 simp only [n52,f2,f3,f8,B,bX,Sj,lL,xL,NW,NM,ah,ws,hq,a2,SB,seval,NG,NF,place,NB]
 have C:NN (L.take (i+1)) to dl=NN (L.take i) to dl++Xf to dl l:=by rw [hl];exact Njz B
 have aq:=S9 (L:=L.take i) (to:=to) (dl:=dl) fun x hx=>hF x (P0 hx)
 rw [N6] at aq
 refine NL (fun z:Int×List Flow.Ld×Option Addr×Nat=>(dl / 1440+1-z.1).toNat) (fun z m K=>d0-1<=z.1/\z.1<=dl / 1440+1/\m 1=Vi to/\m 2=Vi dl/\m 3=Vp H.length/\m 8=Vi i/\m 9=Vp G.length/\m 10=Vi z.1/\m 7=.slice z.2.2.1 z.2.1.length z.2.2.2/\NC K H.length=Vc (netV pp P.length cp pl L.length cl)/\NC K G.length=Vc (encL l)/\Own H.length K QJ 4 z.2.2.1 z.2.2.2 z.2.1/\z.2.1.Perm ((NN (L.take i) to dl++(if l.frm=to then [] else upC l dl z.1.toNat)).map Tv)/\z.2.1.Pairwise (fun x y=>¬RD y x)/\Chg [] H K) (d0-1,O,q,c)
  ⟨Oc _,by show d0-1<=_;omega,f1,f2,f3,f8,rfl,rfl,f7,(NZ.refl.app).cells hB,NQ,hO.app _,by rw [Ner W (by show (((d0-1).toNat:Nat):Int)<=_;omega),ite_self,Na];exact hp,Y,hC.app⟩ ?_
 rintro ⟨d,g,q2,c2⟩ m K ⟨au,av,g1,A,U,V,D,j,N,t,b9,o,f,b,u⟩ F
 simp only at au av j N o f b
 rw [NP N01.eq_1]
 refine NI ?_
 have Z:=fun X=>(NZ.refl.app (X:=X)).cells b9
 have bc:=ND b9
 have I:=f.length_eq
 rw [On,Nb] at I
 by_cases v:d<=dl / 1440
 case neg=>
  simp only [n52,A,V,j,w,v,w1,SB,seval,NG,NF]
  refine hN (i+1,g,q2,c2) _ _ ⟨by show i+1<=_;omega,g1,A,U,rfl,N,by simp;omega,(NZ.refl.app).cells t,o.app _, ?_,b,u.app⟩ (by show L.length-(i+1)<L.length-i;omega)
  show g.Perm ((NN (L.take (i+1)) to dl).map Tv)
  rw [C]
  rw [show d=dl / 1440+1 by omega] at f
  exact f
 by_cases a:l.frm=to
 ·simp only [n52,g1,A,V,D,j,Z,QB,w,v,w1,Nq a,SB,seval,NG,NF]
  rw [Nh a,Na] at f
  refine hN (i+1,g,q2,c2) _ _ ⟨by show i+1<=_;omega,g1,A,U,rfl,N,by simp;omega,(NZ.refl.app).cells t,o.app _, ?_,b,u.app⟩ (by show L.length-(i+1)<L.length-i;omega)
  show g.Perm ((NN (L.take (i+1)) to dl).map Tv)
  rw [C,show Xf to dl l=[] from Nh a,Na]
  exact f
 rw [Nf a] at f I
 have bl:=Nm9 (l:=l) (dl:=dl) (k:=d.toNat)
 have J:IntKind.i64.wrap (d+1)=d+1:=NY (by omega) (by omega)
 have e:=fun (H:NA) (mp:Bool) (lim:Nat) (Q:Value->NA->Prop)=>N1v (mp:=mp) (lim:=lim) (d:=d) (H:=H) (Q:=Q) W
 have r:lim<=K.length:=by omega
 by_cases a4:d<0
 ·rw [show Nco l d=none from Nf (by omega)] at e
  simp only [WS] at e
  have s:upC l dl (d+1).toNat=upC l dl d.toNat:=by rw [show (d+1).toNat=0 by omega,show d.toNat=0 by omega]
  simp only [n52,g1,A,D,j,Z,NW,QB,OH,w,v,Nm a,r,e,J,SB,seval,NE,NG,NF,QV,place,NB]
  refine F (d+1,g,q2,c2) _ _ ⟨by show d0-1<=d+1;omega,by show d+1<=_;omega,g1,A,U,V,D,rfl,N,(NZ.refl.app).cells t,(NZ.refl.app).cells b9,o.app _,by rw [Nf a];show g.Perm ((_++upC l dl (d+1).toNat).map Tv);rw [s];exact f,b,u.app⟩ (by show (dl / 1440+1-(d+1)).toNat<(dl / 1440+1-d).toNat;omega)
 have M:upC l dl (d+1).toNat=upC l dl d.toNat++UN l dl d.toNat:=by rw [show (d+1).toNat=d.toNat+1 by omega,Nbu]
 have ag:((d.toNat:Nat):Int)=d:=by omega
 rw [show Nco l d=U5 l d.toNat from Nh ⟨by omega,by omega⟩] at e
 by_cases hg:goes l d.toNat=true
 case neg=>
  have T:UN l dl d.toNat=[]:=Nf fun h=>hg h.1
  have s:upC l dl (d+1).toNat=upC l dl d.toNat:=by rw [M,T,Na]
  rw [show U5 l d.toNat=none from Nf hg] at e
  simp only [WS] at e
  simp only [n52,g1,A,D,j,Z,NW,QB,OH,w,v,Nm a,r,e,J,SB,seval,NE,NG,NF,QV,place,NB]
  refine F (d+1,g,q2,c2) _ _ ⟨by show d0-1<=d+1;omega,by show d+1<=_;omega,g1,A,U,V,D,rfl,N,(NZ.refl.app).cells t,(NZ.refl.app).cells b9,o.app _,by rw [Nf a];show g.Perm ((_++upC l dl (d+1).toNat).map Tv);rw [s];exact f,b,u.app⟩ (by show (dl / 1440+1-(d+1)).toNat<(dl / 1440+1-d).toNat;omega)
 rw [show U5 l d.toNat=some (1440*d+l.dep,1440*d+l.dep+l.mins) from by unfold U5;rw [Nh hg,ag]] at e
 simp only [WS] at e
 by_cases h1:dl-20160<=1440*d+l.dep
 case neg=>
  have T:UN l dl d.toNat=[]:=Nf fun h=>by have:=h.2.1;omega
  have s:upC l dl (d+1).toNat=upC l dl d.toNat:=by rw [M,T,Na]
  have R:1440*d+l.dep<dl-20160:=by omega
  simp only [n52,g1,A,D,j,Z,NW,QB,OH,w,v,Nm a,r,e,J,ws,Nq R,SB,seval,NE,NG,NF,QV,place,NB]
  refine F (d+1,g,q2,c2) _ _ ⟨by show d0-1<=d+1;omega,by show d+1<=_;omega,g1,A,U,V,D,rfl,N,(NZ.refl.app).cells t,(NZ.refl.app).cells b9,o.app _,by rw [Nf a];show g.Perm ((_++upC l dl (d+1).toNat).map Tv);rw [s];exact f,b,u.app⟩ (by show (dl / 1440+1-(d+1)).toNat<(dl / 1440+1-d).toNat;omega)
 have R:¬1440*d+l.dep<dl-20160:=by omega
 by_cases h2:dl<1440*d+l.dep+l.mins
 ·have T:UN l dl d.toNat=[]:=Nf fun h=>by have:=h.2.2;omega
  have s:upC l dl (d+1).toNat=upC l dl d.toNat:=by rw [M,T,Na]
  simp only [n52,g1,A,D,j,Z,NW,QB,OH,w,v,Nm a,r,e,J,ws,Nm R,Nq h2,SB,seval,NE,NG,NF,QV,place,NB]
  refine F (d+1,g,q2,c2) _ _ ⟨by show d0-1<=d+1;omega,by show d+1<=_;omega,g1,A,U,V,D,rfl,N,(NZ.refl.app).cells t,(NZ.refl.app).cells b9,o.app _,by rw [Nf a];show g.Perm ((_++upC l dl (d+1).toNat).map Tv);rw [s];exact f,b,u.app⟩ (by show (dl / 1440+1-(d+1)).toNat<(dl / 1440+1-d).toNat;omega)
 have T:UN l dl d.toNat=[(l,1440*d+l.dep)]:=by
  unfold UN
  rw [ag]
  exact Nh ⟨hg,by omega,by omega⟩
 obtain ⟨x,hx⟩:∃x,x=Tv (l,1440*d+l.dep):=⟨_,rfl⟩
 simp only [n52,g1,A,D,j,N,Z,NW,SV,QB,Uf,OH,w,v,Nm a,r,e,ws,Nm R,Nm h2,SB,seval,NE,NG,NF,QV,place,NB]
 obtain ⟨S,n⟩:∃S,S=K++[Vc [Vi (1440*d+l.dep),Vi (1440*d+l.dep+l.mins)],Vc [Vi l.id,Vi (1440*d+l.dep),Vi (1440*d+l.dep+l.mins),Vi l.grams]]:=⟨_,rfl⟩
 have b13:NC S (K.length+1)=Vc (QJ x):=by rw [n,OM,hx];rfl
 have aa:Chg [] H S:=by rw [n];exact u.app
 have ac:Own H.length S QJ 4 q2 c2 g:=by rw [n];exact o.app _
 have an:NC S H.length=Vc (netV pp P.length cp pl L.length cl):=by rw [n];exact (NZ.refl.app).cells t
 have am:NC S G.length=Vc (encL l):=by rw [n];exact (NZ.refl.app).cells b9
 have bd:S.length=K.length+2:=by rw [n];simp
 rw [<-n]
 clear n
 refine Nwc (O:=g) (x:=x) (B13:=K.length+1) (c:=c2) (p:=q2) (v1:=Vi to) (v2:=Vi dl) (v3:=Vp H.length) (v8:=Vi i) (v9:=Vp G.length) (v10:=Vi d) (ac.sl NV) rfl (by omega) b13 g1 A U V D j N rfl rfl fun ba k hk aw ay r1 r2 r3 r8 r9 r10 r7 r13 a1=>?_
 obtain ⟨p1,c1,G4,pA,cA,G5,p2,a5,G6,pC,cC,x1,eA,eB,x2,eC,O6,C6,C4,C5,be⟩:=N1y (x:=x) ac aa rfl hk (by omega) aj
 have a0:=fun X=>(NZ.refl.app (X:=X)).cells (C4.cells b13 (by simp))
 obtain ⟨az,ak⟩:=Nk5 b hk aw ay
 have ai:(g.take k++[x]++g.drop k).length=g.length+1:=by rw [ak.length_eq,Nb];rfl
 simp only [n52,r10,r7,r13,a1,x1,eA,a0,NV,OH,NM,eB,x2,eC,J,SB,seval,NG,NF,place]
 have ao:Chg [] H G6:=aa.trans C6
 refine F (d+1,g.take k++[x]++g.drop k,pC,cC) _ _ ⟨by show d0-1<=d+1;omega,by show d+1<=_;omega,r1,r2,r3,r8,r9,rfl,by rw [ai];exact rfl,(NZ.refl.app).cells (C6.cells an (by simp)),(NZ.refl.app).cells (C6.cells am (by simp)),O6.app _, ?_,az,ao.app⟩ (by show (dl / 1440+1-(d+1)).toNat<(dl / 1440+1-d).toNat;omega)
 rw [Nf a]
 show (g.take k++[x]++g.drop k).Perm ((_++upC l dl (d+1).toNat).map Tv)
 rw [M,T,<-Nr]
 refine ak.trans ?_
 rw [hx]
 exact Nuz f
def Wv (L:List Leg) (a:Int):Leg:=(L.find? fun l=>l.id=a).getD ⟨0,0,0,0,0,0,0,0⟩
def chR (L:List Leg) (x:Flow.Ld):List Cg:=[((Wv L x.leg).frm,x.dep-(Wv L x.leg).cut,-x.gr),((Wv L x.leg).dst,x.arr,x.gr)]
theorem Ne8 [OB] {mp:Bool} {lim:Nat} {pp pl:Option Addr} {P:List Int} {L:List Leg} {cp cl:Nat} {a:Int} {H:NA} {Q:Value->NA->Prop} (hn:NetIn H pp pl P L) :
  NR E mp lim 54 [.agg (netV pp P.length cp pl L.length cl).toArray,Vi a] H Q=Q (.tuple #[.agg (encL (Wv L a)).toArray,.bool (L.find? fun l=>l.id=a).isSome]) H:=by
 rw [Nig hn]
 unfold Wv
 cases L.find? (fun l=>l.id=a)<;>rfl
theorem Nj7 {p t b:Int}:∀{l:List Cg},(∀x∈l,-b<=x.2.2/\x.2.2<=b)->0<=b->-(b*l.length)<=QO p t l/\QO p t l<=b*l.length
 | [],_,_=>by simp [QO]
 | x::l,h,hb=>by
   have ih:=Nj7 (p:=p) (t:=t) (l:=l) (fun y a=>h y (Ni _ a)) hb
   have c:=h x Nn
   rw [QO,Nk,Int.natCast_succ,Int.mul_add,Int.mul_one]
   generalize b*(l.length:Int)=z at *
   split<;>omega
theorem Nyb [OB] {mp:Bool} {lim:Nat} {pp pl ps p4:Option Addr} {P:List Int} {L:List Leg} {s:List Flow.Src} {ld:List Flow.Ld} {cp cl cs c4:Nat} {p m:Int} {H:NA} {Q:Value->NA->Prop} (hn:NetIn H pp pl P L) (hs:Sl H encS 3 ps s) (B:Sl H QJ 4 p4 ld) (ag:s.length<=60) (ae:ld.length<=200) (hg:∀x∈s,0<=x.gr/\x.gr<=1000000000) (hd:∀x∈ld,0<=x.gr/\x.gr<=1000000000) (hw:∀x∈ld,IntKind.i64.wrap (x.dep-(Wv L x.leg).cut)=x.dep-(Wv L x.leg).cut) :
  NR E mp lim 55 [.agg (netV pp P.length cp pl L.length cl).toArray,.slice ps s.length cs,.slice p4 ld.length c4,Vi p,Vi m] H Q=Q (Vi (QO p m (QY s++ld.flatMap (chR L)))) H:=by
 refine pc (by decide) e55 rfl rfl ?_
 rw [b55,c55]
 have T:∀j k,-(1000000000*(460:Int))<=QO p m (QY (s.take j)++(ld.take k).flatMap (chR L))/\QO p m (QY (s.take j)++(ld.take k).flatMap (chR L))<=1000000000*460:=fun j k=>by
  have h1:=Nj7 (p:=p) (t:=m) (b:=1000000000) (l:=QY (s.take j)++(ld.take k).flatMap (chR L)) (fun x hx=>by
   rcases Nv.1 hx with hx | hx
   ·obtain ⟨y,hy,rfl⟩:=List.mem_map.1 hx
    have:=hg y (P0 hy)
    show -1000000000<=y.gr/\y.gr<=1000000000
    omega
   ·obtain ⟨y,hy,hx⟩:=List.mem_flatMap.1 hx
    have:=hd y (P0 hy)
    unfold chR at hx
    simp only [Nu,O8,or_false] at hx
    rcases hx with rfl | rfl
    ·show -1000000000<=-y.gr/\-y.gr<=1000000000
     omega
    ·show -1000000000<=y.gr/\y.gr<=1000000000
     omega) (by decide)
  have h2:(QY (s.take j)++(ld.take k).flatMap (chR L)).length<=460:=by
   have e:∀l:List Flow.Ld,(l.flatMap (chR L)).length=2*l.length:=fun l=>by
    induction l with
    | nil=>rfl
    | cons x l ih=>rw [N2,Nb,ih];show 2+_=_;simp only [Nk];omega
   have e1:(QY (s.take j)).length=(s.take j).length:=by unfold QY;simp
   rw [Nb,e,e1,N6,N6]
   omega
  omega
 simp only [n55,SB,seval,NG,NK,place,NB]
 refine NL (fun j=>s.length-j) (fun j fr G=>j<=s.length/\fr 1=.slice ps s.length cs/\fr 2=.slice p4 ld.length c4/\fr 3=Vi p/\fr 4=Vi m/\fr 5=Vp H.length/\fr 12=Vi j/\fr 11=Vi (QO p m (QY (s.take j)))/\NZ H G/\NC G H.length=Vc (netV pp P.length cp pl L.length cl)) 0
  ⟨Nx _,rfl,rfl,rfl,rfl,rfl,by rfl,by rfl,NZ.refl.app,NQ⟩ ?_
 intro j fr G ⟨hj,f1,f2,f3,f4,f5,f12,f11,S,hB⟩ Z
 rw [NP N0x.eq_1]
 refine NI ?_
 have bX:=fun X=>(NZ.refl.app (X:=X)).cells hB
 by_cases o:j<s.length
 case pos=>
  have Y:=S.sl hs
  have l0:=fun X=>(Y.app X).loadCell OP o (j:=0) (by decide)
  rw [SS] at l0
  have l1:=fun X=>(Y.app X).loadCell OP o (j:=1) (by decide)
  rw [Tj] at l1
  have I:=fun X=>(Y.app X).loadCell OP o (j:=2) (by decide)
  rw [Vs] at I
  have xS:=QM Y o rfl
  have D:IntKind.i64.wrap ((j:Int)+1)=((j+1:Nat):Int):=NS (by omega)
  have U:=T j 0
  rw [show (ld.take 0).flatMap (chR L)=[] from rfl,Na] at U
  have ac:=hg _ (PW o)
  have d:QO p m (QY (s.take (j+1)))=QO p m (QY (s.take j))+(if (gt s j).pl=p/\(gt s j).rd<=m then (gt s j).gr else 0):=by
   unfold QY
   rw [QI o,Pi,Uk]
   show _+((if (gt s j).pl=p/\(gt s j).rd<=m then (gt s j).gr else 0)+0)=_
   omega
  obtain ⟨z,hz⟩:∃z,z=QO p m (QY (s.take j)):=⟨_,rfl⟩
  rw [<-hz] at f11 U d
  have V:IntKind.i64.wrap (z+(gt s j).gr)=z+(gt s j).gr:=NY (by omega) (by omega)
  by_cases h1:(gt s j).pl=p
  case neg=>
   rw [Nf fun h=>h1 h.1,Ox] at d
   simp only [n55,f1,f3,f12,o,l0,xS,D,Nm h1,SB,seval,NG,NF]
   exact Z (j+1) _ _ ⟨by omega,f1,f2,f3,f4,f5,rfl,by rw [d];exact f11,S.app,(NZ.refl.app).cells hB⟩ (by omega)
  by_cases h2:(gt s j).rd<=m
  case neg=>
   rw [Nf fun h=>h2 h.2,Ox] at d
   simp only [n55,f1,f3,f4,f12,o,l0,l1,xS,D,Nq h1,Nm h2,SB,seval,NG,NF]
   exact Z (j+1) _ _ ⟨by omega,f1,f2,f3,f4,f5,rfl,by rw [d];exact f11,S.app,(NZ.refl.app).cells hB⟩ (by omega)
  rw [Nh ⟨h1,h2⟩] at d
  simp only [n55,f1,f3,f4,f12,f11,o,l0,l1,I,xS,D,V,Nq h1,Nq h2,SB,seval,NG,NF]
  exact Z (j+1) _ _ ⟨by omega,f1,f2,f3,f4,f5,rfl,by rw [d];exact rfl,S.app,(NZ.refl.app).cells hB⟩ (by omega)
 obtain rfl:j=s.length:=by omega
 rw [Of] at f11
 simp only [n55,f1,f12,o,SB,seval,NG,NF]
 refine NL (fun j=>ld.length-j) (fun j C W=>j<=ld.length/\C 2=.slice p4 ld.length c4/\C 3=Vi p/\C 4=Vi m/\C 5=Vp H.length/\C 13=Vi j/\C 11=Vi (QO p m (QY s++(ld.take j).flatMap (chR L)))/\NZ H W/\NC W H.length=Vc (netV pp P.length cp pl L.length cl)) 0
  ⟨Nx _,f2,f3,f4,f5,by rfl,by rw [show (ld.take 0).flatMap (chR L)=[] from rfl,Na];exact f11,S.app,(NZ.refl.app).cells hB⟩ ?_
 intro j C W ⟨ad,q2,q3,A,v,q,g,f,i⟩ r
 rw [NP N0y.eq_1]
 refine NI ?_
 have J:=fun X=>(NZ.refl.app (X:=X)).cells i
 by_cases c:j<ld.length
 case neg=>
  obtain rfl:j=ld.length:=by omega
  rw [Of] at g
  simp only [n55,r55,q2,q,g,c,SB,seval,NG,NF,NH]
 have R:=f.sl B
 have l0:=fun X=>(R.app X).loadCell NV c (j:=0) (by decide)
 rw [Sq] at l0
 have l1:=fun X=>(R.app X).loadCell NV c (j:=1) (by decide)
 rw [Sn] at l1
 have I:=fun X=>(R.app X).loadCell NV c (j:=2) (by decide)
 rw [Tx] at I
 have O:=fun X=>(R.app X).loadCell NV c (j:=3) (by decide)
 rw [Ug] at O
 have K:=QM R c rfl
 have D:IntKind.i64.wrap ((j:Int)+1)=((j+1:Nat):Int):=NS (by omega)
 have U:=T s.length j
 rw [Of] at U
 have aa:=hd _ (PW c)
 have M:=hw _ (PW c)
 obtain ⟨x,hx⟩:∃x,x=gt ld j:=⟨_,rfl⟩
 rw [<-hx] at l0 l1 I O aa M
 obtain ⟨F,N⟩:∃F,F=Wv L x.leg:=⟨_,rfl⟩
 rw [<-N] at M
 have n:=fun X (mp:Bool) (lim:Nat) (Q:Value->NA->Prop)=>Ne8 (mp:=mp) (lim:=lim) (cp:=cp) (cl:=cl) (a:=x.leg) (Q:=Q) ((hn.ext f).app X)
 rw [<-N] at n
 have d:QO p m (QY s++(ld.take (j+1)).flatMap (chR L))=QO p m (QY s++(ld.take j).flatMap (chR L))+(if F.dst=p/\x.arr<=m then x.gr else 0)+(if F.frm=p/\x.dep-F.cut<=m then -x.gr else 0):=by
  rw [QI c,Oy,<-Nr,Uk,<-hx,N]
  show _+((if (Wv L x.leg).frm=p/\x.dep-(Wv L x.leg).cut<=m then -x.gr else 0)+((if (Wv L x.leg).dst=p/\x.arr<=m then x.gr else 0)+0))=_
  omega
 obtain ⟨z,hz⟩:∃z,z=QO p m (QY s++(ld.take j).flatMap (chR L)):=⟨_,rfl⟩
 rw [<-hz] at g U d
 have u:H.length<=W.length:=f.len
 have V:IntKind.i64.wrap (z+x.gr)=z+x.gr:=NY (by omega) (by omega)
 have wb:IntKind.i64.wrap (z-x.gr)=z-x.gr:=NY (by omega) (by omega)
 have wc:IntKind.i64.wrap (z+x.gr-x.gr)=z:=by rw [show z+x.gr-x.gr=z by omega];exact NY (by omega) (by omega)
 by_cases h1:F.dst=p
 case neg=>
  by_cases w:F.frm=p
  case neg=>
   rw [Nf fun h=>h1 h.1,Ox,Nf fun h=>w h.1,Ox] at d
   simp only [n55,q2,q3,v,q,c,J,l0,K,n,D,NW,QB,QU,OH,OC,NM,u,Nm h1,Nm w,SB,seval,NE,NG,NF,place,NB]
   exact r (j+1) _ _ ⟨by omega,q2,q3,A,v,rfl,by rw [d];exact g,f.app,(NZ.refl.app).cells i⟩ (by omega)
  by_cases B:x.dep-F.cut<=m
  case neg=>
   rw [Nf fun h=>h1 h.1,Ox,Nf fun h=>B h.2,Ox] at d
   simp only [n55,q2,q3,A,v,q,c,J,l0,l1,K,n,D,M,NW,QB,QU,RZ,OH,OC,NM,u,Nm h1,Nq w,Nm B,SB,seval,NE,NG,NF,place,NB]
   exact r (j+1) _ _ ⟨by omega,q2,q3,A,v,rfl,by rw [d];exact g,f.app,(NZ.refl.app).cells i⟩ (by omega)
  rw [Nf fun h=>h1 h.1,Ox,Nh ⟨w,B⟩,show z+-x.gr=z-x.gr by omega] at d
  simp only [n55,q2,q3,A,v,q,g,c,J,l0,l1,O,K,n,D,wb,M,NW,QB,QU,RZ,OH,OC,NM,u,Nm h1,Nq w,Nq B,SB,seval,NE,NG,NF,place,NB]
  exact r (j+1) _ _ ⟨by omega,q2,q3,A,v,rfl,by rw [d];exact rfl,f.app,(NZ.refl.app).cells i⟩ (by omega)
 by_cases h2:x.arr<=m
 case neg=>
  by_cases w:F.frm=p
  case neg=>
   rw [Nf fun h=>h2 h.2,Ox,Nf fun h=>w h.1,Ox] at d
   simp only [n55,q2,q3,A,v,q,c,J,l0,I,K,n,D,NW,QB,QU,OH,OC,NM,u,Nq h1,Nm h2,Nm w,SB,seval,NE,NG,NF,place,NB]
   exact r (j+1) _ _ ⟨by omega,q2,q3,A,v,rfl,by rw [d];exact g,f.app,(NZ.refl.app).cells i⟩ (by omega)
  by_cases B:x.dep-F.cut<=m
  case neg=>
   rw [Nf fun h=>h2 h.2,Ox,Nf fun h=>B h.2,Ox] at d
   simp only [n55,q2,q3,A,v,q,c,J,l0,l1,I,K,n,D,M,NW,QB,QU,RZ,OH,OC,NM,u,Nq h1,Nm h2,Nq w,Nm B,SB,seval,NE,NG,NF,place,NB]
   exact r (j+1) _ _ ⟨by omega,q2,q3,A,v,rfl,by rw [d];exact g,f.app,(NZ.refl.app).cells i⟩ (by omega)
  rw [Nf fun h=>h2 h.2,Ox,Nh ⟨w,B⟩,show z+-x.gr=z-x.gr by omega] at d
  simp only [n55,q2,q3,A,v,q,g,c,J,l0,l1,I,O,K,n,D,wb,M,NW,QB,QU,RZ,OH,OC,NM,u,Nq h1,Nm h2,Nq w,Nq B,SB,seval,NE,NG,NF,place,NB]
  exact r (j+1) _ _ ⟨by omega,q2,q3,A,v,rfl,by rw [d];exact rfl,f.app,(NZ.refl.app).cells i⟩ (by omega)
 by_cases w:F.frm=p
 case neg=>
  rw [Nh ⟨h1,h2⟩,Nf fun h=>w h.1,Ox] at d
  simp only [n55,q2,q3,A,v,q,g,c,J,l0,I,O,K,n,D,V,NW,QB,QU,OH,OC,NM,u,Nq h1,Nq h2,Nm w,SB,seval,NE,NG,NF,place,NB]
  exact r (j+1) _ _ ⟨by omega,q2,q3,A,v,rfl,by rw [d];exact rfl,f.app,(NZ.refl.app).cells i⟩ (by omega)
 by_cases B:x.dep-F.cut<=m
 case neg=>
  rw [Nh ⟨h1,h2⟩,Nf fun h=>B h.2,Ox] at d
  simp only [n55,q2,q3,A,v,q,g,c,J,l0,l1,I,O,K,n,D,V,M,NW,QB,QU,RZ,OH,OC,NM,u,Nq h1,Nq h2,Nq w,Nm B,SB,seval,NE,NG,NF,place,NB]
  exact r (j+1) _ _ ⟨by omega,q2,q3,A,v,rfl,by rw [d];exact rfl,f.app,(NZ.refl.app).cells i⟩ (by omega)
 rw [Nh ⟨h1,h2⟩,Nh ⟨w,B⟩,show z+x.gr+-x.gr=z by omega] at d
 simp only [n55,q2,q3,A,v,q,g,c,J,l0,l1,I,O,K,n,D,V,wc,M,NW,QB,QU,RZ,OH,OC,NM,u,Nq h1,Nq h2,Nq w,Nq B,SB,seval,NE,NG,NF,place,NB]
 exact r (j+1) _ _ ⟨by omega,q2,q3,A,v,rfl,by rw [d];exact rfl,f.app,(NZ.refl.app).cells i⟩ (by omega)
structure GS (M B:Nat) (X:List Nat) (G0 G:NA) (pp:Option Addr) (cp:Nat) (pa:Option Addr) (ca:Nat) (d:Int) (vq:Value) (PL:List (Int×Int)) (AL:List Pr):Prop where
 hdr:NC G B=Vc (Ta (.slice pp PL.length cp) (.slice pa AL.length ca) (Vi d) vq)
 op:TG M G enc2 2 pp cp PL
 oa:Own M G Sz 4 pa ca AL
 nb:B∉QC pp/\B∉QC pa
 dj:∀b∈QC pp,b∉QC pa
 sx:∀b∈X,b<G.length/\b≠B/\b∉QC pp/\b∉QC pa
 kp:∀b∈X,NC G b=NC G0 b
structure BB (fr:Nat->Value) (v1 v2 v3 v4 v8 v9:Value):Prop where
 f1:fr 1=v1
 f2:fr 2=v2
 f3:fr 3=v3
 f4:fr 4=v4
 f8:fr 8=v8
 f9:fr 9=v9
theorem Nnb {b:Nat} {H0 G1:NA} (h:NC G1 b=NC H0 b):OA b [0] H0 G1=G1:=by
 show G1.set (b+0) (NC H0 (b+0))=G1
 rw [Od,<-h]
 by_cases a:b<G1.length
 ·unfold NC
  rw [Nc,Np a]
  exact List.set_getElem_self a
 ·rw [List.set_eq_of_length_le (by omega)]
theorem Nhq {PL Y:List (Int×Int)} {to:Int} {c:Leg×Int} (h1:(c.1.frm,c.2-c.1.cut)∈PL) (h2:c.1.dst≠to->(c.1.dst,c.2+c.1.mins)∈PL):XB (PL++Y) to c=XB PL to c:=by
 unfold XB X5
 rw [Nbh h1]
 by_cases e:c.1.dst=to
 ·rw [Nh e,Nh e]
 ·rw [Nf e,Nf e,Nbh (h2 e)]
def Nx0:ACode:=(Oz [Gt 81 4 14,St 4 9 81] (.ops [fT 82 1 9,lT 83 82,mT 84 13,mT 85 15,fT 86 6 11,lT 87 86,i 88 (.build [(Vi 0),(Vi 0),(Vi 0),(Vi 0)] [(0,(1,(t 84))),(1,(1,(t 85))),(2,(1,(t 87)))]),i 89 (.buildSlice 1 [(Vi 0),(Vi 0),(Vi 0),(Vi 0)] [(0,(4,(t 88)))]),i 90 (.append 4 32 false (t 83) (t 89)),fT 91 1 9,St 1 91 90]))
theorem Nsv [OB] {lim M B9 B11 B14 ca o p:Nat} {pa:Option Addr} {v1 v2 v3 v4 v8 v10 x z w t d vq:Value} {AL:List Pr} {l:Leg} {G:NA} {fr:Nat->Value} {K:List AItem} {Q:Value->NA->Prop}
  (T:BB fr v1 v2 v3 v4 v8 (Vp B9)) (f10:fr 10=v10) (f11:fr 11=Vp B11) (f13:fr 13=Vi o) (f14:fr 14=Vp B14) (f15:fr 15=Vi p)
  (N:NC G B9=Vc (Ta x (.slice pa AL.length ca) z w)) (v:NC G B14=Vc (Ta t (.slice pa AL.length ca) d vq)) (u:NC G B11=Vc (encL l)) (oa:Own M G Sz 4 pa ca AL) (r:B9∉QC pa) (q:B11≠B9) (C:lim<=M) (R:M<=B9) (hl:AL.length<2 ^ 30)
  (S:∀fr' G' f g,BB fr' v1 v2 v3 v4 v8 (Vp B9)->fr' 10=v10->NC G' B9=Vc (Ta t (.slice f (AL.length+1) g) d vq)->Own M G' Sz 4 f g (AL++[⟨p,o,l.grams,0⟩])->(∀b,b<G.length->b≠B9->b∉QC pa->NC G' b=NC G b)->G.length<=G'.length->(∀b∈QC f,G.length<=b)->PQ E a51 lim K fr' G' Q) :
  PQ E a51 lim (.code Nx0::K) fr G Q:=by
 obtain ⟨q1,q2,q3,W,Y,P⟩:=T
 rw [NP Nx0.eq_1]
 have y:=ND N
 obtain ⟨G1,e1,k1,s⟩:=OO y (Vc (Ta t (.slice pa AL.length ca) d vq))
 have U:=s.len
 have n:=fun Z=>(NZ.refl.app (X:=Z)).cells N
 have c:=fun Z=>(NZ.refl.app (X:=Z)).cells v
 have j:=fun Z=>(NZ.refl.app (X:=Z)).cells k1
 have F:=s.cells u q
 have i:=fun Z=>(NZ.refl.app (X:=Z)).cells F
 have I:Own M G1 Sz 4 pa ca AL:=oa.mut s fun a A e=>r (NU.2 ⟨a,A,e⟩)
 obtain ⟨G2,e2,L,J,B⟩:=Own.moreF I (lim':=lim) (bytes:=32) C QE (by decide) [⟨p,o,l.grams,0⟩] (by simp) (by simp;unfold OT;omega) (by simp;omega) [Vc [Vi o,Vi p,Vi l.grams,Vi 0]] (x:=.slice (Sa G1.length) 1 1) (str:=false)
  (QH (m:=[⟨p,o,l.grams,0⟩]) (Sl.row (ro:=false) QE NQ)) rfl
 simp only [Nb,Nk,Nl,Ny] at e2 L B
 have k2:=J.cells k1 r
 have k:=fun Z=>(NZ.refl.app (X:=Z)).cells k2
 obtain ⟨G3,e3,k3,H⟩:=OO (ND k2) (Vc (Ta t (.slice (Sa (G1.length+1)) (AL.length+1) (loose 4)) d vq))
 have V:=H.len
 unfold Ta at n c j k e1 e3
 refine NI ?_
 simp only [n51,P,f11,f13,f14,f15,n,c,e1,j,i,Uf,e2,k,e3,show lim<=B9 by omega,SB,seval,NG,place,NB]
 refine S _ _ (Sa (G1.length+1)) (loose 4) ⟨q1,q2,q3,W,Y,P⟩ f10 ((NZ.refl.app).cells k3) ((((L.le (by omega)).mut H fun a A e=>by cases A;simp only at e;omega)).app _) (fun b O h D=>?_) (by simp;omega) (fun b O=>by simp only [QC,Nj] at O;omega)
 rw [NJ (by omega),H.other b h,J.other b (by omega) D,s.other b h]
theorem No7 [OB] {lim M B4 B9 cq cn cl:Nat} {X:List Nat} {pp pa pq pn pl:Option Addr} {cp ca:Nat} {v1 v8:Value} {to dl:Int} {P:List Int} {L:List Leg} {C:List (Leg×Int)} {PL:List (Int×Int)} {H G:NA} {fr:Nat->Value} {K:List AItem} {Q:Value->NA->Prop}
  (hn:NetIn H pn pl P L) (hv:PY P L=0) (hC:∀c∈C,c.1∈L/\c.1.frm≠to/\0<=c.2-c.1.cut/\c.2-c.1.cut<=OQ/\0<=c.2+c.1.mins/\c.2+c.1.mins<=OQ/\1<=c.1.frm/\1<=c.1.dst) (d5:C.length<2 ^ 20)
  (hf:BB fr v1 (Vi to) (Vi dl) (Vp B4) v8 (Vp B9)) (f10:fr 10=Vi 0)
  (hS:GS M B9 X G G pp cp pa ca 0 (.slice pq C.length cq) PL []) (c0:PlR PL to) (c5:PL.length<=2) (hX:B4∈X/\∀b∈QC pq,b∈X) (cj:NC G B4=Vc (netV pn P.length cn pl L.length cl)) (hq:Sl G QJ 4 pq (C.map Tv)) (ay:lim<=M) (d6:H.length<=M) (cu:M<=B9) (cm:Chg [] H G)
  (hR:∀fr' G' du bx dr bw w,BB fr' v1 (Vi to) (Vi dl) (Vp B4) v8 (Vp B9)->GS M B9 X G G' du bx dr bw 0 (.slice pq C.length cq) w (C.map (XB w to))->PlR w to->w.length<=2+2*C.length->(∀c∈C,(c.1.frm,c.2-c.1.cut)∈w/\(c.1.dst≠to->(c.1.dst,c.2+c.1.mins)∈w))->Chg [] H G'->PQ E a51 lim K fr' G' Q) :
  PQ E a51 lim (.code (.loop Noe)::.inBlock 0::K) fr G Q:=by
 have d8:M<=G.length:=by have:=ND hS.hdr;omega
 refine NL (fun z:Nat×Option Addr×Nat×Option Addr×Nat×List (Int×Int)=>C.length-z.1) (fun z am G'=>z.1<=C.length/\BB am v1 (Vi to) (Vi dl) (Vp B4) v8 (Vp B9)/\am 10=Vi z.1/\GS M B9 X G G' z.2.1 z.2.2.1 z.2.2.2.1 z.2.2.2.2.1 0 (.slice pq C.length cq) z.2.2.2.2.2 ((C.take z.1).map (XB z.2.2.2.2.2 to))/\PlR z.2.2.2.2.2 to/\z.2.2.2.2.2.length<=2+2*z.1/\(∀c∈C.take z.1,(c.1.frm,c.2-c.1.cut)∈z.2.2.2.2.2/\(c.1.dst≠to->(c.1.dst,c.2+c.1.mins)∈z.2.2.2.2.2))/\Chg [] H G'/\G.length<=G'.length) (0,pp,cp,pa,ca,PL)
  ⟨Nx _,hf,f10,hS,c0,c5,(fun c hc=>by simp at hc),cm,Ng _⟩ ?_
 rintro ⟨j,pp,cp,pa,ca,PL⟩ am G' ⟨hj,⟨q1,q2,q3,q4,q8,q9⟩,F,d,I,ai,n,W,dz⟩ hN
 simp only at hj F d I ai n
 rw [NP Noe.eq_1,<-Nx0.eq_1]
 have k4:∀Z,NC (G'++Z) B4=Vc (netV pn P.length cn pl L.length cl):=fun Z=>by rw [NJ (d.sx _ hX.1).1,d.kp _ hX.1];exact cj
 have k9:=fun Z=>(NZ.refl.app (X:=Z)).cells d.hdr
 have sq:Sl G' QJ 4 pq (C.map Tv):=hq.same fun a p _=>d.kp _ (hX.2 _ (NU.2 ⟨a,p,rfl⟩))
 unfold Ta at k9
 refine NI ?_
 by_cases J:j<C.length
 case neg=>
  obtain rfl:j=C.length:=by omega
  simp only [n51,q9,F,k9,SB,seval,NG,NF]
  rw [Of] at d n
  exact hR _ _ pp cp pa ca PL ⟨q1,q2,q3,q4,q8,q9⟩ ⟨(NZ.refl.app).cells d.hdr,d.op.app _,d.oa.app _,d.nb,d.dj,fun b g=>⟨by have:=(d.sx b g).1;simp;omega,(d.sx b g).2⟩,fun b g=>by rw [NJ (d.sx b g).1];exact d.kp b g⟩ I ai n W.app
 have s:=hC _ (PW J)
 have dg:(C.map Tv).length=C.length:=by simp
 have ag:gt (C.map Tv) j=Tv (gt C j):=by rw [OI (by omega),OI J,Q1]
 have l0:∀Z,AM.loadCell (G'++Z) ((Tk pq 4 j).add 0)=some (Vi (gt C j).1.id):=fun Z=>by
  have:=(sq.app Z).loadCell NV (i:=j) (by omega) (j:=0) (by decide)
  rw [ag] at this;exact this
 have l1:∀Z,AM.loadCell (G'++Z) ((Tk pq 4 j).add 1)=some (Vi (gt C j).2):=fun Z=>by
  have:=(sq.app Z).loadCell NV (i:=j) (by omega) (j:=1) (by decide)
  rw [ag] at this;exact this
 have l2:∀Z,AM.loadCell (G'++Z) ((Tk pq 4 j).add 2)=some (Vi ((gt C j).2+(gt C j).1.mins)):=fun Z=>by
  have:=(sq.app Z).loadCell NV (i:=j) (by omega) (j:=2) (by decide)
  rw [ag] at this;exact this
 have xD:=QM sq (i:=j) (by omega) rfl
 rw [dg] at xD
 have av:L.find? (fun l=>l.id=(gt C j).1.id)=some (gt C j).1:=by
  cases e:L.find? (fun l=>decide (l.id=(gt C j).1.id)) with
  | none=>
    have:=List.find?_eq_none.1 e _ s.1
    simp at this
  | some y=>
    have h1:=R8 e
    have h2:=Ri e
    rw [ZL hv h2 s.1 (by simpa using h1)]
 have au:=fun X (mp:Bool) (lim:Nat) (Q:Value->NA->Prop)=>Nig (mp:=mp) (lim:=lim) (cp:=cn) (cl:=cl) (a:=(gt C j).1.id) (Q:=Q) ((hn.ext W.ext).app X)
 rw [av] at au
 have ws:IntKind.i64.wrap ((gt C j).2-(gt C j).1.cut)=(gt C j).2-(gt C j).1.cut:=by
  have mt:OQ=1051898399:=rfl
  exact NY (by omega) (by omega)
 simp only [n51,q4,q9,F,k9,J,k4,OC,NW,QB,RZ,OH,l0,l1,xD,au,ws,NM,show lim<=G'.length by omega,SB,seval,NE,NG,NF,place,NB]
 obtain ⟨c,hc⟩:∃c,c=gt C j:=⟨_,rfl⟩
 rw [<-hc] at s l0 l1 l2 au ws⊢
 have a0:=d.op
 have nb:∀b,G'.length<=b->b∉QC pp:=fun b g o=>by
  obtain ⟨a,p,rfl⟩:=NU.1 o
  have:=(a0.block p).2;omega
 have ck:=ND d.hdr
 have ed:∀c∈C.take j,c∈C:=fun c h=>P0 h
 obtain ⟨AL,an⟩:∃AL,AL=(C.take j).map (XB PL to):=⟨_,rfl⟩
 have dw:AL.length=j:=by rw [an];simp;omega
 have ah:=d.oa
 have aq:=d.hdr
 rw [<-an] at ah aq⊢
 have fin:∀(f:List (Int×Int)) (pp2:Option Addr) (cp2 n2:Nat) (q:Nat->Value) (v:NA),(∃Y,f=PL++Y)->(c.1.frm,c.2-c.1.cut)∈f->(c.1.dst≠to->(c.1.dst,c.2+c.1.mins)∈f)->PlR f to->f.length<=2+2*(j+1)->n2=X5 f to c.1.dst (c.2+c.1.mins)->
   BB q v1 (Vi to) (Vi dl) (Vp B4) v8 (Vp B9)->q 10=Vi j->q 11=Vp G'.length->q 13=Vi (f.idxOf (c.1.frm,c.2-c.1.cut):Nat)->q 14=Vp (G'.length+1)->q 15=Vi n2->
   TG M v enc2 2 pp2 cp2 f->NC v (G'.length+1)=Vc (Ta (.slice pp2 f.length cp2) (.slice pa AL.length ca) (Vi 0) (.slice pq C.length cq))->NC v G'.length=Vc (encL c.1)->Chg (QC pp) G' v->G'.length+2<=v.length->(∀b∈QC pp2,b∈QC pp\/G'.length<=b)->
   PQ E a51 lim (.code Nx0::.inBlock 1::.code (.ops [mT 35 10,Bc 36 .add 35 1,mT 10 36])::.inLoop Noe::.inBlock 0::K) q v Q:=by
  intro f pp2 cp2 n2 q v ⟨Y,hY⟩ N az m bm di db b0 b4 b5 ce cf be ci cg ad de S
  have b9:=ad.cells aq d.nb.1
  have dn:=ah.chg ad fun a p o=>d.dj _ o (NU.2 ⟨a,p,rfl⟩)
  refine Nsv (AL:=AL) (l:=c.1) db b0 b4 b5 ce cf b9 ci cg dn d.nb.2 (by omega) ay cu (by omega) fun d4 G4 bt bb dc r10 bu dp aw ea O=>?_
  obtain ⟨r1,r2,r3,r4,r8,r9⟩:=dc
  have w1:IntKind.i64.wrap ((j:Int)+1)=((j+1:Nat):Int):=NS (by omega)
  have bz:(C.take (j+1)).map (XB f to)=AL++[⟨n2,f.idxOf (c.1.frm,c.2-c.1.cut),c.1.grams,0⟩]:=by
   rw [QI J,Pi,an,<-hc]
   congr 1
   ·refine P6 fun x hx=>?_
    rw [hY];exact Nhq (n x hx).1 (n x hx).2
   ·rw [di];rfl
  have bp:∀b∈QC pp2,b<v.length:=fun b g=>by
   obtain ⟨a,p,rfl⟩:=NU.1 g
   exact (be.block p).2
  have V:∀b,b<G'.length->b∉QC pp->b∉QC pp2:=fun b g dk o=>by
   rcases S b o with h | h
   ·exact dk h
   ·omega
  refine NI ?_
  simp only [n51,r10,w1,SB,seval,NG,NF]
  refine hN (j+1,pp2,cp2,bt,bb,f) _ _ ⟨by show j+1<=_;omega,⟨r1,r2,r3,r4,r8,r9⟩,rfl, ?_,m,bm,fun x hx=>?_, ?_,by simp;omega⟩ (by show C.length-(j+1)<C.length-j;omega)
  ·show GS M B9 X G _ pp2 cp2 bt bb 0 _ f ((C.take (j+1)).map (XB f to))
   rw [bz]
   have cx:TG M G4 enc2 2 pp2 cp2 f:=be.same fun a p=>by
    have ao:a.block∈QC pp2:=NU.2 ⟨a,p,rfl⟩
    refine aw _ (bp _ ao) (fun e=>?_) fun o=>?_
    ·rcases S _ ao with h | h
     ·rw [e] at h;exact d.nb.1 h
     ·omega
    ·rcases S _ ao with h | h
     ·exact d.dj _ h o
     ·obtain ⟨a',da,e⟩:=NU.1 o
      have:=(ah.block da).2;omega
   refine ⟨?_,cx.app _,dp.app _,⟨V _ ck d.nb.1,fun o=>by have:=O _ o;omega⟩,fun b g o=>by have:=O _ o;have:=bp b g;omega,fun b g=>?_,fun b g=>?_⟩
   ·rw [Nb,Ow];exact (NZ.refl.app).cells bu
   ·obtain ⟨x1,x2,x3,x4⟩:=d.sx b g
    exact ⟨by simp;omega,x2,V b x1 x3,fun o=>by have:=O _ o;omega⟩
   ·obtain ⟨x1,x2,x3,x4⟩:=d.sx b g
    rw [NJ (by omega),aw b (by omega) x2 x4,ad.other b x1 x3]
    exact d.kp b g
  ·show (x.1.frm,x.2-x.1.cut)∈f/\(x.1.dst≠to->(x.1.dst,x.2+x.1.mins)∈f)
   rw [QI J,<-hc] at hx
   rcases Nv.1 hx with hx | hx
   ·rw [hY]
    exact ⟨Nz _ (n x hx).1,fun h=>Nz _ ((n x hx).2 h)⟩
   ·rw [Nj.1 hx];exact ⟨N,az⟩
  ·have d7:=W.len
   refine Chg.app ⟨by omega,fun b g _=>?_⟩
   rw [aw b (by omega) (by omega) fun o=>by
    obtain ⟨a,p,rfl⟩:=NU.1 o
    have:=(ah.block p).1;omega,ad.other b (by omega) fun o=>by
    obtain ⟨a,p,rfl⟩:=NU.1 o
    have:=(a0.block p).1;omega]
   exact W.other b g (by simp)
 obtain ⟨Gc,A⟩:∃Gc,Gc=G'++[Vc (encL c.1),Blk.dead]:=⟨_,rfl⟩
 have bk:NC Gc G'.length=Vc (encL c.1):=by rw [A];exact NQ
 have bl:NC Gc (G'.length+1)=.dead:=by rw [A];exact OM
 have ec:Gc.length=G'.length+2:=by rw [A];simp
 have dq:TG M Gc enc2 2 pp cp PL:=by rw [A];exact a0.app _
 have cr:NZ G' Gc:=by rw [A];exact NZ.refl.app
 rw [<-A]
 refine Ncf (va:=.slice pa AL.length ca) (vd:=Vi 0) (vq:=.slice pq C.length cq) dq (by omega) (by omega) ay (by omega) fun G1 D ak bd aa dh=>?_
 have d9:=aa.len
 rw [Nnb ((aa.get bl (by omega) (nb _ (by omega))).trans bl.symm)]
 obtain ⟨k,r⟩:∃k,k=addN PL (c.1.frm,c.2-c.1.cut):=⟨_,rfl⟩
 rw [<-r] at bd⊢
 obtain ⟨Y1,ap⟩:=Ndt PL (c.1.frm,c.2-c.1.cut)
 rw [<-r] at ap
 have N:(c.1.frm,c.2-c.1.cut)∈k:=by rw [r];exact Nds.2 (.inr rfl)
 have bh:PlR k to:=by rw [r];exact I.add s.2.1 s.2.2.2.2.2.2.1 s.2.2.1
 have dx:k.length<=PL.length+1:=by rw [r];unfold addN;split<;>simp
 obtain ⟨G2,e2,k2,m2⟩:=OO (G:=G1) (R:=G'.length+1) (by omega) (Vc (Ta Vz Vz (Vi 0) Vz))
 obtain ⟨v,e3,k3,m3⟩:=OO (ND k2) (Vc (Ta (.slice D k.length ak) (.slice pa AL.length ca) (Vi 0) (.slice pq C.length cq)))
 have bm:=m2.len
 have de:=m3.len
 have a4:=aa.cells bk (nb _ (Ng _))
 have a5:=m3.cells (m2.cells a4 (by omega)) (by omega)
 have t:Chg (QC pp) G' v:=((cr.chg.trans aa).mut m2 (.inr (by omega))).mut m3 (.inr (by omega))
 have U:∀b∈QC D,b∈QC pp\/G'.length+2<=b:=fun b g=>by
  rcases dh b g with h | h
  ·exact .inl h
  ·exact .inr (by omega)
 have a2:G'.length+1∉QC D:=fun o=>by
  rcases U _ o with h | h
  ·exact nb _ (by omega) h
  ·omega
 have bf:TG M v enc2 2 D ak k:=(bd.mut m2 fun a p e=>a2 (NU.2 ⟨a,p,e⟩)).mut m3 fun a p e=>a2 (NU.2 ⟨a,p,e⟩)
 have a1:=fun Z=>(NZ.refl.app (X:=Z)).cells k2
 have bq:=fun Z=>(NZ.refl.app (X:=Z)).cells k3
 have u:=fun Z=>(NZ.refl.app (X:=Z)).cells a5
 unfold Ta at e2 e3 a1 bq
 refine NI ?_
 by_cases B:c.1.dst=to
 ·simp only [n51,q2,Ta,e2,a1,e3,u,QU,show lim<=G'.length+1 by omega,Nq B,SB,seval,NG,NF,place,NB]
  exact fin k D ak 1 _ _ ⟨Y1,ap⟩ N (fun h=>absurd B h) bh (by omega) (by unfold X5;rw [Nh B]) ⟨q1,q2,q3,q4,q8,q9⟩ F rfl rfl rfl rfl (bf.app _) ((NZ.refl.app).cells k3) (u _) t.app (by simp;omega) (fun b g=>(U b g).imp id fun h=>by omega)
 ·have br:=fun Z=>(NZ.refl.app (X:=Z)).cells (t.cells aq d.nb.1)
  have dv:Sl v QJ 4 pq (C.map Tv):=sq.same fun a p _=>by
   obtain ⟨x1,_,x3,_⟩:=d.sx _ (hX.2 _ (NU.2 ⟨a,p,rfl⟩))
   exact t.other _ x1 x3
  have dm:∀Z,AM.loadCell (v++Z) ((Tk pq 4 j).add 2)=some (Vi (c.2+c.1.mins)):=fun Z=>by
   have:=(dv.app Z).loadCell NV (i:=j) (by omega) (j:=2) (by decide)
   rw [ag,<-hc] at this;exact this
  unfold Ta at br
  simp only [n51,q2,q9,F,Ta,e2,a1,e3,bq,u,QU,show lim<=G'.length+1 by omega,Nm B,br,dm,xD,SB,seval,NE,NG,NF,place,NB]
  refine Ncf (va:=.slice pa AL.length ca) (vd:=Vi 0) (vq:=.slice pq C.length cq) (bf.app _) (by omega) (by simp;omega) ay (by simp;omega) fun G5 pp2 cp2 bg ac bo=>?_
  have df:=ac.len
  simp only [Nb,Nl,Od] at df bo
  obtain ⟨f,m⟩:∃f,f=addN k (c.1.dst,c.2+c.1.mins):=⟨_,rfl⟩
  rw [<-m] at bg⊢
  obtain ⟨Y2,ae⟩:=Ndt k (c.1.dst,c.2+c.1.mins)
  rw [<-m] at ae
  have az:(c.1.dst,c.2+c.1.mins)∈f:=by rw [m];exact Nds.2 (.inr rfl)
  have cz:PlR f to:=by rw [m];exact bh.add B s.2.2.2.2.2.2.2 s.2.2.2.2.1
  have dy:f.length<=k.length+1:=by rw [m];unfold addN;split<;>simp
  have aj:=ac.cells ((NZ.refl.app).cells k3) a2
  have n11:G'.length∉QC D:=fun o=>by
   rcases U _ o with h | h
   ·exact nb _ (Ng _) h
   ·omega
  have ba:=ac.cells (u _) n11
  obtain ⟨G6,e6,k6,m6⟩:=OO (ND aj) (Vc (Ta (.slice pp2 f.length cp2) (.slice pa AL.length ca) (Vi 0) (.slice pq C.length cq)))
  have eb:=m6.len
  have T:=fun Z=>(NZ.refl.app (X:=Z)).cells aj
  have V:∀b∈QC pp2,b∈QC pp\/G'.length+2<=b:=fun b g=>by
   rcases bo b g with h | h
   ·exact U b h
   ·exact .inr (by omega)
  have bc:Chg (QC pp) G' G6:=(t.trans' (Chg.pre ac) fun b g d3=>by
   rcases U b g with h | h
   ·exact h
   ·omega).mut m6 (.inr (by omega))
  have cy:TG M G6 enc2 2 pp2 cp2 f:=bg.mut m6 fun a p e=>by
   rcases V _ (NU.2 ⟨a,p,e⟩) with h | h
   ·exact nb _ (by omega) h
   ·omega
  have dd:f.idxOf (c.1.frm,c.2-c.1.cut)=k.idxOf (c.1.frm,c.2-c.1.cut):=by rw [ae];exact Nbh N
  unfold Ta at e6 T
  refine NI ?_
  simp only [n51,Ta,T,e6,show lim<=G'.length+1 by omega,SB,seval,NG,NB]
  exact fin f pp2 cp2 (f.idxOf (c.1.dst,c.2+c.1.mins)) _ _ ⟨Y1++Y2,by rw [ae,ap,Nr]⟩ (by rw [ae];exact Nz _ N) (fun _=>az) cz (by omega) (by unfold X5;rw [Nf B]) ⟨q1,q2,q3,q4,q8,q9⟩ F rfl (by rw [dd];exact rfl) rfl rfl (cy.app _) ((NZ.refl.app).cells k6) ((NZ.refl.app).cells (m6.cells ba (by omega))) bc.app (by simp;omega) (fun b g=>(V b g).imp id fun h=>by omega)
theorem Ms {PL:List (Int×Int)} {to dl:Int}:∀{s:List Flow.Src} {i:Nat},i<s.length->Vv PL to dl (s.take (i+1))=Vv PL to dl (s.take i)++(if (gt s i).rd<=dl/\(gt s i).pl≠to then [⟨PL.idxOf ((gt s i).pl,(gt s i).rd),0,(gt s i).gr,0⟩] else [])
 | x::s,0,_=>by simp only [Pt,P8,Vv,Na,Oa];rfl
 | x::s,i+1,h=>by
   have:=Ms (PL:=PL) (to:=to) (dl:=dl) (s:=s) (i:=i) (by simpa using h)
   rw [Pt,Pt,Vv,Vv,this,Nr];rfl
theorem Nfr {to dl:Int}:∀{s:List Flow.Src} {i:Nat},i<s.length->U4 to dl (s.take (i+1))=U4 to dl (s.take i)+(if (gt s i).rd<=dl/\(gt s i).pl=to then (gt s i).gr else 0)
 | x::s,0,_=>by
   show (if x.rd<=dl/\x.pl=to then x.gr else 0)+0=0+(if x.rd<=dl/\x.pl=to then x.gr else 0)
   omega
 | x::s,i+1,h=>by
   have:=Nfr (to:=to) (dl:=dl) (s:=s) (i:=i) (by simpa using h)
   rw [Pt,Pt,U4,U4,this]
   show _=_+(if (gt s i).rd<=dl/\(gt s i).pl=to then (gt s i).gr else 0)
   omega
theorem Nh6 {PL Y:List (Int×Int)} {to dl:Int}:∀{s:List Flow.Src},(∀x∈s,x.rd<=dl->x.pl≠to->(x.pl,x.rd)∈PL)->Vv (PL++Y) to dl s=Vv PL to dl s
 | [],_=>rfl
 | x::s,h=>by
   rw [Vv,Vv,Nh6 fun y a=>h y (Ni _ a)]
   by_cases hc:x.rd<=dl/\x.pl≠to
   ·rw [Nh hc,Nh hc,Nbh (h x Nn hc.1 hc.2)]
   ·rw [Nf hc,Nf hc]
theorem Z7 {PL:List (Int×Int)} {to dl:Int}:∀{s:List Flow.Src},(Vv PL to dl s).length<=s.length
 | []=>Ng _
 | x::s=>by
   have:=Z7 (PL:=PL) (to:=to) (dl:=dl) (s:=s)
   rw [Vv,Nb,Nk]
   split<;>simp<;>omega
theorem Nhd {to dl:Int}:∀{s:List Flow.Src},(∀x∈s,0<=x.gr/\x.gr<=1000000000)->0<=U4 to dl s/\U4 to dl s<=1000000000*(s.length:Int)
 | [],_=>by simp [U4]
 | x::s,h=>by
   have ih:=Nhd (to:=to) (dl:=dl) (s:=s) fun y a=>h y (Ni _ a)
   have b:=h x Nn
   rw [U4,Nk,Int.natCast_succ,Int.mul_add,Int.mul_one]
   generalize 1000000000*(s.length:Int)=z at *
   split<;>omega
theorem Npl [OB] {lim M B9 cs:Nat} {X:List Nat} {pp pa ps:Option Addr} {cp ca:Nat} {v4 v8 vq:Value} {to dl:Int} {C:List (Leg×Int)} {s:List Flow.Src} {PL:List (Int×Int)} {H G:NA} {fr:Nat->Value} {K:List AItem} {Q:Value->NA->Prop}
  (hs:Sl H encS 3 ps s) (av:∀x∈s,1<=x.pl/\0<=x.rd/\0<=x.gr/\x.gr<=1000000000) (dg:s.length<=60) (cx:C.length<2 ^ 20)
  (hf:BB fr (.slice ps s.length cs) (Vi to) (Vi dl) v4 v8 (Vp B9)) (f16:fr 16=Vi 0)
  (hS:GS M B9 X G G pp cp pa ca 0 vq PL (C.map (XB PL to))) (bl:PlR PL to) (bm:PL.length<=2+2*C.length) (bg:∀c∈C,(c.1.frm,c.2-c.1.cut)∈PL/\(c.1.dst≠to->(c.1.dst,c.2+c.1.mins)∈PL)) (ap:lim<=M) (cy:H.length<=M) (c0:M<=B9) (bf:Chg [] H G)
  (hR:∀fr' G' ci bd cg bc t,BB fr' (.slice ps s.length cs) (Vi to) (Vi dl) v4 v8 (Vp B9)->GS M B9 X G G' ci bd cg bc (U4 to dl s) vq t (C.map (XB t to)++Vv t to dl s)->PlR t to->t.length<=2+2*C.length+s.length->(∀c∈C,(c.1.frm,c.2-c.1.cut)∈t/\(c.1.dst≠to->(c.1.dst,c.2+c.1.mins)∈t))->(∀x∈s,x.rd<=dl->x.pl≠to->(x.pl,x.rd)∈t)->Chg [] H G'->PQ E a51 lim K fr' G' Q) :
  PQ E a51 lim (.code (.loop Nvh)::.inBlock 2::K) fr G Q:=by
 have da:M<=G.length:=by have:=ND hS.hdr;omega
 refine NL (fun z:Nat×Option Addr×Nat×Option Addr×Nat×List (Int×Int)=>s.length-z.1) (fun z W G'=>z.1<=s.length/\BB W (.slice ps s.length cs) (Vi to) (Vi dl) v4 v8 (Vp B9)/\W 16=Vi z.1/\GS M B9 X G G' z.2.1 z.2.2.1 z.2.2.2.1 z.2.2.2.2.1 (U4 to dl (s.take z.1)) vq z.2.2.2.2.2 (C.map (XB z.2.2.2.2.2 to)++Vv z.2.2.2.2.2 to dl (s.take z.1))/\PlR z.2.2.2.2.2 to/\z.2.2.2.2.2.length<=2+2*C.length+z.1/\(∀c∈C,(c.1.frm,c.2-c.1.cut)∈z.2.2.2.2.2/\(c.1.dst≠to->(c.1.dst,c.2+c.1.mins)∈z.2.2.2.2.2))/\(∀x∈s.take z.1,x.rd<=dl->x.pl≠to->(x.pl,x.rd)∈z.2.2.2.2.2)/\Chg [] H G'/\G.length<=G'.length) (0,pp,cp,pa,ca,PL)
  ⟨Nx _,hf,f16,by show GS M B9 X G G pp cp pa ca 0 vq PL (C.map (XB PL to)++[]);rw [Na];exact hS,bl,bm,bg,(fun c hc=>by simp at hc),bf,Ng _⟩ ?_
 rintro ⟨j,pp,cp,pa,ca,PL⟩ W G' ⟨hj,⟨q1,q2,q3,q4,q8,q9⟩,D,f,u,U,p,r,B,cm⟩ hN
 simp only at hj D f u U p r
 obtain ⟨AL,A⟩:∃AL,AL=C.map (XB PL to)++Vv PL to dl (s.take j):=⟨_,rfl⟩
 have cr:AL.length<=C.length+j:=by
  rw [A,Nb,On]
  have:=Z7 (PL:=PL) (to:=to) (dl:=dl) (s:=s.take j)
  rw [N6] at this;omega
 rw [<-A] at f
 rw [NP Nvh.eq_1]
 have k9:=fun Z=>(NZ.refl.app (X:=Z)).cells f.hdr
 have ss:Sl G' encS 3 ps s:=B.ext.sl hs
 unfold Ta at k9
 refine NI ?_
 by_cases n:j<s.length
 case neg=>
  obtain rfl:j=s.length:=by omega
  simp only [n51,q1,D,SB,seval,NG,NF]
  rw [Of] at f r A
  rw [A] at f
  exact hR _ _ pp cp pa ca PL ⟨q1,q2,q3,q4,q8,q9⟩ ⟨(NZ.refl.app).cells f.hdr,f.op.app _,f.oa.app _,f.nb,f.dj,fun b i=>⟨by have:=(f.sx b i).1;simp;omega,(f.sx b i).2⟩,fun b i=>by rw [NJ (f.sx b i).1];exact f.kp b i⟩ u U p r B.app
 obtain ⟨x,V⟩:∃x,x=gt s j:=⟨_,rfl⟩
 have b0:x∈s:=by rw [V];exact PW n
 obtain ⟨bx,bz,dh,di⟩:=av x b0
 have l0:∀Z,AM.loadCell (G'++Z) ((Tk ps 3 j).add 0)=some (Vi x.pl):=fun Z=>by
  have:=(ss.app Z).loadCell OP n (j:=0) (by decide)
  rw [<-V] at this;exact this
 have l1:∀Z,AM.loadCell (G'++Z) ((Tk ps 3 j).add 1)=some (Vi x.rd):=fun Z=>by
  have:=(ss.app Z).loadCell OP n (j:=1) (by decide)
  rw [<-V] at this;exact this
 have l2:∀Z,AM.loadCell (G'++Z) ((Tk ps 3 j).add 2)=some (Vi x.gr):=fun Z=>by
  have:=(ss.app Z).loadCell OP n (j:=2) (by decide)
  rw [<-V] at this;exact this
 have xS:=QM ss n rfl
 have w1:IntKind.i64.wrap ((j:Int)+1)=((j+1:Nat):Int):=NS (by omega)
 have ah:∀y∈s.take (j+1),y∈s.take j\/y=x:=fun y hy=>by
  rw [QI n,<-V] at hy
  rcases Nv.1 hy with hy | hy
  ·exact .inl hy
  ·exact .inr (Nj.1 hy)
 have es:=Ms (PL:=PL) (to:=to) (dl:=dl) n
 have O:=Nfr (to:=to) (dl:=dl) n
 rw [<-V] at es O
 have hd:=Nhd (to:=to) (dl:=dl) (s:=s.take j) fun y hy=>(av y (P0 hy)).2.2
 rw [N6,Pw hj] at hd
 obtain ⟨d,ad⟩:∃d,d=U4 to dl (s.take j):=⟨_,rfl⟩
 have Y:∀Z,GS M B9 X G (G'++Z) pp cp pa ca (U4 to dl (s.take j)) vq PL AL:=fun Z=>⟨(NZ.refl.app).cells f.hdr,f.op.app _,f.oa.app _,f.nb,f.dj,fun b i=>⟨by have:=(f.sx b i).1;simp;omega,(f.sx b i).2⟩,fun b i=>by rw [NJ (f.sx b i).1];exact f.kp b i⟩
 by_cases c1:dl<x.rd
 ·rw [Nf (fun h=>by omega),Na] at es
  rw [Nf (fun h=>by omega),Ox] at O
  simp only [n51,q1,q3,D,n,l1,xS,Nq c1,w1,SB,seval,NG,NF]
  refine hN (j+1,pp,cp,pa,ca,PL) _ _ ⟨by show j+1<=_;omega,⟨q1,q2,q3,q4,q8,q9⟩,rfl, ?_,u,by show PL.length<=_;omega,p,fun y hy h1 h2=>?_,B.app,by simp;omega⟩ (by show s.length-(j+1)<s.length-j;omega)
  ·show GS M B9 X G _ pp cp pa ca (U4 to dl (s.take (j+1))) vq PL (_++Vv PL to dl (s.take (j+1)))
   rw [es,O,<-A];exact Y _
  ·rcases ah y hy with h | h
   ·exact r y h h1 h2
   ·rw [h] at h1;omega
 by_cases c2:x.pl=to
 ·rw [Nf (fun h=>h.2 c2),Na] at es
  rw [Nh ⟨by omega,c2⟩] at O
  have wd:IntKind.i64.wrap (d+x.gr)=d+x.gr:=NY (by omega) (by omega)
  obtain ⟨G2,e2,k2,N⟩:=OO (ND f.hdr) (Vc (Ta (.slice pp PL.length cp) (.slice pa AL.length ca) (Vi (d+x.gr)) vq))
  have bo:=N.len
  unfold Ta at e2
  rw [<-ad] at k9 O
  simp only [n51,q1,q2,q3,q9,D,n,l0,l1,l2,xS,Nm c1,Nq c2,k9,wd,show lim<=B9 by omega,e2,w1,SB,seval,NG,NF,NB]
  refine hN (j+1,pp,cp,pa,ca,PL) _ _ ⟨by show j+1<=_;omega,⟨q1,q2,q3,q4,q8,q9⟩,rfl, ?_,u,by show PL.length<=_;omega,p,fun y hy h1 h2=>?_,(B.mut N (.inr (by omega))).app,by simp;omega⟩ (by show s.length-(j+1)<s.length-j;omega)
  ·show GS M B9 X G _ pp cp pa ca (U4 to dl (s.take (j+1))) vq PL (_++Vv PL to dl (s.take (j+1)))
   rw [es,O,<-A]
   exact ⟨(NZ.refl.app).cells k2,(f.op.mut N fun a l e=>f.nb.1 (NU.2 ⟨a,l,e⟩)).app _,(f.oa.mut N fun a l e=>f.nb.2 (NU.2 ⟨a,l,e⟩)).app _,f.nb,f.dj,fun b i=>⟨by have:=(f.sx b i).1;simp;omega,(f.sx b i).2⟩,fun b i=>by
    obtain ⟨x1,x2,x3,x4⟩:=f.sx b i
    rw [NJ (by omega),N.other b x2];exact f.kp b i⟩
  ·rcases ah y hy with h | h
   ·exact r y h h1 h2
   ·rw [h] at h2;exact absurd c2 h2
 rw [Nh ⟨by omega,c2⟩] at es
 rw [Nf (fun h=>c2 h.2),Ox] at O
 rw [<-ad] at k9 O
 simp only [n51,q1,q2,q3,q9,D,n,l0,l1,xS,Nm c1,Nm c2,k9,SB,seval,NE,NG,NF]
 have S:=f.op
 have ag:=f.oa
 have ac:=f.hdr
 rw [<-ad] at ac
 have cu:=ND ac
 have nb:∀b,G'.length<=b->b∉QC pp:=fun b i q=>by
  obtain ⟨a,l,rfl⟩:=NU.1 q
  have:=(S.block l).2;omega
 obtain ⟨Gc,J⟩:∃Gc,Gc=G'++[Blk.dead]:=⟨_,rfl⟩
 have ao:NC Gc G'.length=.dead:=by rw [J];exact NQ
 have df:Gc.length=G'.length+1:=by rw [J];simp
 have cf:TG M Gc enc2 2 pp cp PL:=by rw [J];exact S.app _
 have ak:NZ G' Gc:=by rw [J];exact NZ.refl.app
 rw [<-J]
 refine Ncf (va:=.slice pa AL.length ca) (vd:=Vi d) (vq:=vq) cf (by omega) (by omega) ap (by omega) fun G1 o w am P br=>?_
 have db:=P.len
 have eG:(G'++([]:NA)).length=G'.length:=by simp
 rw [Nnb ((P.get ao (by omega) (nb _ (Ng _))).trans ao.symm)]
 obtain ⟨g,v⟩:∃g,g=addN PL (x.pl,x.rd):=⟨_,rfl⟩
 rw [<-v] at am⊢
 obtain ⟨Y1,L⟩:=Ndt PL (x.pl,x.rd)
 rw [<-v] at L
 have bq:(x.pl,x.rd)∈g:=by rw [v];exact Nds.2 (.inr rfl)
 have bk:PlR g to:=by rw [v];exact u.add c2 bx bz
 have ck:g.length<=PL.length+1:=by rw [v];unfold addN;split<;>simp
 obtain ⟨G2,e2,k2,N⟩:=OO (G:=G1) (R:=G'.length) (by omega) (Vc (Ta Vz Vz (Vi 0) Vz))
 obtain ⟨G3,e3,k3,m3⟩:=OO (ND k2) (Vc (Ta (.slice o g.length w) (.slice pa AL.length ca) (Vi d) vq))
 have bo:=N.len
 have dc:=m3.len
 have ba:NC G1 B9=_:=P.cells (ak.cells ac) f.nb.1
 have ai:=m3.cells (N.cells ba (by omega)) (by omega)
 obtain ⟨F,e4,k4,m4⟩:=OO (ND ai) (Vc (Ta (.slice o g.length w) (.slice pa AL.length ca) (Vi d) vq))
 have dd:=m4.len
 have T:∀b∈QC o,b∈QC pp\/G'.length+1<=b:=fun b i=>by
  rcases br b i with h | h
  ·exact .inl h
  ·exact .inr (by omega)
 have a5:G'.length∉QC o:=fun q=>by
  rcases T _ q with h | h
  ·exact nb _ (Ng _) h
  ·omega
 have n9:B9∉QC o:=fun q=>by
  rcases T _ q with h | h
  ·exact f.nb.1 h
  ·omega
 have an:TG M F enc2 2 o w g:=((am.mut N fun a l e=>a5 (NU.2 ⟨a,l,e⟩)).mut m3 fun a l e=>a5 (NU.2 ⟨a,l,e⟩)).mut m4 fun a l e=>n9 (NU.2 ⟨a,l,e⟩)
 have I:Chg (QC pp) G' G3:=((ak.chg.trans P).mut N (.inr (Ng _))).mut m3 (.inr (Ng _))
 have ce:Own M F Sz 4 pa ca AL:=(ag.chg I fun a l q=>f.dj _ q (NU.2 ⟨a,l,rfl⟩)).mut m4 fun a l e=>f.nb.2 (NU.2 ⟨a,l,e⟩)
 have cj:Sl F encS 3 ps s:=by
  refine m4.sl (I.sl ss fun a l ae q=>?_) fun a l ae=>?_
  ·obtain ⟨b,i,e⟩:=NU.1 q
   have h1:=(S.block i).1
   rw [l] at hs
   have h2:=hs.lt ae
   omega
  ·rw [l] at hs
   have h2:=hs.lt ae
   omega
 have b4:∀Z,AM.loadCell (F++Z) ((Tk ps 3 j).add 2)=some (Vi x.gr):=fun Z=>by
  have:=(cj.app Z).loadCell OP n (j:=2) (by decide)
  rw [<-V] at this;exact this
 obtain ⟨k,hk⟩:∃k,k=g.idxOf (x.pl,x.rd):=⟨_,rfl⟩
 rw [<-hk]
 obtain ⟨G5,p5,c5,e5,O5,C5,K5,bp,bu,_⟩:=ce.moreD (lim':=lim) (d:=F.length+1) (bytes:=32) ap QE (by decide) [⟨k,0,x.gr,0⟩] (by simp;unfold OT;omega) (by simp;omega) (by omega) [Vc [Vi 0,Vi k,Vi x.gr,Vi 0],.dead] (by omega) (by simp) (x:=.slice (Sa F.length) 1 1) (str:=false)
  (QH (m:=[⟨k,0,x.gr,0⟩]) (Sl.row (ro:=false) QE NQ)) rfl
 have aq:=bu (by simp)
 subst aq
 simp only [Nk,Nl,Ny] at e5 O5 K5 bp
 have bb:=K5 B9 (by omega) fun a l e=>f.nb.2 (NU.2 ⟨a,l,e.symm⟩)
 have b95:=bb.trans k4
 rw [Na] at b95
 obtain ⟨G6,e6,k6,m6⟩:=OO (ND b95) (Vc (Ta (.slice o g.length w) (.slice (Sa (F.length+1)) (AL.length+1) c5) (Vi d) vq))
 have de:=m6.len
 have aw:=fun Z=>(NZ.refl.app (X:=Z)).cells k2
 have ay:=fun Z=>(NZ.refl.app (X:=Z)).cells k3
 have a2:=fun Z=>(NZ.refl.app (X:=Z)).cells ai
 have a0:=fun Z=>(NZ.refl.app (X:=Z)).cells k4
 have a4:=fun Z=>(NZ.refl.app (X:=Z)).cells b95
 unfold Ta at e2 e3 aw ay a2 e4 a0 a4 e6
 refine NI ?_
 simp only [n51,q1,q9,D,Ta,e2,aw,e3,ay,a2,e4,a0,b4,xS,e5,a4,e6,show lim<=G'.length by omega,show lim<=B9 by omega,w1,SB,seval,NG,NF,place,NB]
 rw [Na] at O5 K5 C5
 have be:C.map (XB g to)++Vv g to dl (s.take (j+1))=AL++[⟨k,0,x.gr,0⟩]:=by
  have aj:=Ms (PL:=g) (to:=to) (dl:=dl) n
  rw [<-V,Nh ⟨by omega,c2⟩,<-hk] at aj
  rw [aj,<-Nr,A]
  congr 2
  ·refine P6 fun y hy=>?_
   rw [L];exact Nhq (p y hy).1 (p y hy).2
  ·rw [L];exact Nh6 r
 have au:∀b∈QC o,b<F.length:=fun b i=>by
  obtain ⟨a,l,rfl⟩:=NU.1 i
  exact (an.block l).2
 have bw:∀b∈QC pa,b<G'.length:=fun b i=>by
  obtain ⟨a,l,rfl⟩:=NU.1 i
  exact (ag.block l).2
 have b5:∀b,b<G'.length->b∉QC pp->b∉QC o:=fun b i bt q=>by
  rcases T b q with h | h
  ·exact bt h
  ·omega
 have a1:∀b,b<F.length->b≠B9->b∉QC pa->NC G6 b=NC F b:=fun b i h1 h2=>by
  rw [m6.other b h1,K5 b i fun a l e=>h2 (NU.2 ⟨a,l,e.symm⟩)]
 have az:∀b,b<G'.length->b≠B9->b∉QC pa->b∉QC pp->NC G6 b=NC G' b:=fun b i h1 h2 h3=>by
  rw [a1 b (by omega) h1 h2,m4.other b h1,I.other b i h3]
 refine hN (j+1,o,w,Sa (F.length+1),c5,g) _ _ ⟨by show j+1<=_;omega,⟨q1,q2,q3,q4,q8,q9⟩,rfl, ?_,bk,by show g.length<=_;omega,fun c hc=>?_,fun y hy h1 h2=>?_, ?_,by simp;omega⟩ (by show s.length-(j+1)<s.length-j;omega)
 ·show GS M B9 X G _ o w (Sa (F.length+1)) c5 (U4 to dl (s.take (j+1))) vq g (_++Vv g to dl (s.take (j+1)))
  rw [be,O]
  have bh:TG M G6 enc2 2 o w g:=an.same fun a l=>by
   have aa:a.block∈QC o:=NU.2 ⟨a,l,rfl⟩
   refine a1 _ (au _ aa) (fun e=>n9 (by rw [<-e];exact aa)) fun q=>?_
   have:=bw _ q
   rcases T _ aa with h | h
   ·exact f.dj _ h q
   ·omega
  refine ⟨?_,bh.app _,(O5.mut m6 fun a l e=>by cases l;simp only at e;omega).app _,⟨n9,fun q=>by simp only [QC,Nj] at q;omega⟩,fun b i q=>by simp only [QC,Nj] at q;have:=au b i;omega,fun b i=>?_,fun b i=>?_⟩
  ·rw [Nb,Ow];exact (NZ.refl.app).cells k6
  ·obtain ⟨x1,x2,x3,x4⟩:=f.sx b i
   exact ⟨by simp;omega,x2,b5 b x1 x3,fun q=>by simp only [QC,Nj] at q;omega⟩
  ·obtain ⟨x1,x2,x3,x4⟩:=f.sx b i
   rw [NJ (by omega),az b x1 x2 x4 x3]
   exact f.kp b i
 ·show (c.1.frm,c.2-c.1.cut)∈g/\(c.1.dst≠to->(c.1.dst,c.2+c.1.mins)∈g)
  rw [L]
  exact ⟨Nz _ (p c hc).1,fun h=>Nz _ ((p c hc).2 h)⟩
 ·show (y.pl,y.rd)∈g
  rcases ah y hy with h | h
  ·rw [L];exact Nz _ (r y h h1 h2)
  ·rw [h];exact bq
 ·have cz:=B.len
  refine Chg.app ⟨by omega,fun b i _=>?_⟩
  rw [az b (by omega) (by omega) (fun q=>by
   obtain ⟨a,l,rfl⟩:=NU.1 q
   have:=(ag.block l).1;omega) fun q=>by
   obtain ⟨a,l,rfl⟩:=NU.1 q
   have:=(S.block l).1;omega]
  exact B.other b i (by simp)
theorem Nz2 {PL:List (Int×Int)} {i:Nat}:TR PL i 2=-1:=by simp [TR]
theorem Nr5 [OB] {lim B9 cp i:Nat} {pp:Option Addr} {y z w v1 v2 v3 v4 v8:Value} {PL:List (Int×Int)} {G:NA} {fr:Nat->Value} {K:List AItem} {Q:Value->NA->Prop}
  (J:BB fr v1 v2 v3 v4 v8 (Vp B9)) (B:fr 19=Vi i) (C:fr 20=Vi (-1)) (D:fr 21=Vi 2)
  (H:NC G B9=Vc (Ta (.slice pp PL.length cp) y z w)) (L:Sl G enc2 2 pp PL) (h2:2<=PL.length) (hl:PL.length<2 ^ 30) (hi:i<PL.length)
  (I:∀fr' G',BB fr' v1 v2 v3 v4 v8 (Vp B9)->fr' 19=Vi i->fr' 20=Vi (TR PL i PL.length)->NZ G G'->PQ E a51 lim K fr' G' Q) :
  PQ E a51 lim (.code (.loop Nvj)::.inBlock 6::K) fr G Q:=by
 refine NL (fun k=>PL.length-k) (fun k o G'=>2<=k/\k<=PL.length/\BB o v1 v2 v3 v4 v8 (Vp B9)/\o 19=Vi i/\o 20=Vi (TR PL i k)/\o 21=Vi k/\NZ G G') 2 ⟨Ng _,h2,J,B,by rw [Nz2];exact C,D,.refl⟩ ?_
 intro k o G' ⟨v,M,⟨q1,q2,q3,s,t,l⟩,d,f,g,q⟩ u
 rw [NP Nvj.eq_1]
 refine NI ?_
 have r:=fun Z=>(q.app (X:=Z)).cells H
 unfold Ta at r
 by_cases a:k<PL.length
 case neg=>
  obtain rfl:k=PL.length:=by omega
  simp only [n51,l,g,r,SB,seval,NG,NF]
  exact I _ _ ⟨q1,q2,q3,s,t,l⟩ d f q.app
 have F:=q.sl L
 have l0:∀n,n<PL.length->∀Z,AM.loadCell (G'++Z) ((Tk pp 2 n).add 0)=some (Vi (gt PL n).1):=fun n hn Z=>(F.app Z).loadCell PN hn (j:=0) (by decide)
 have l1:∀n,n<PL.length->∀Z,AM.loadCell (G'++Z) ((Tk pp 2 n).add 1)=some (Vi (gt PL n).2):=fun n hn Z=>(F.app Z).loadCell PN hn (j:=1) (by decide)
 have m:∀n,n<PL.length->∀(c:Nat) (kk:IntKind) (H1:NA),Wx 2 (.slice pp PL.length c) (.int kk (n:Int)) H1=some (.pointer (some (Tk pp 2 n)),H1):=fun n hn=>QM F hn rfl
 have x:IntKind.i64.wrap ((k:Int)+1)=((k+1:Nat):Int):=NS (by omega)
 have p:TR PL i (k+1)=if 2<=k/\(gt PL k).1=(gt PL i).1/\(gt PL i).2<(gt PL k).2/\(TR PL i k<0\/(gt PL k).2<(gt PL (TR PL i k).toNat).2) then (k:Int) else TR PL i k:=rfl
 by_cases c1:(gt PL k).1=(gt PL i).1
 case neg=>
  simp only [n51,l,d,g,r,a,l0 _ a,l0 _ hi,m _ a,m _ hi,x,Nm c1,SB,seval,NG,NF]
  refine u (k+1) _ _ ⟨by omega,by omega,⟨q1,q2,q3,s,t,l⟩,d, ?_,rfl,q.app⟩ (by omega)
  rw [p,Nf fun h=>c1 h.2.1];exact f
 by_cases c2:(gt PL i).2<(gt PL k).2
 case neg=>
  simp only [n51,l,d,g,r,a,l0 _ a,l1 _ a,l0 _ hi,l1 _ hi,m _ a,m _ hi,x,Nq c1,Nm c2,SB,seval,NG,NF]
  refine u (k+1) _ _ ⟨by omega,by omega,⟨q1,q2,q3,s,t,l⟩,d, ?_,rfl,q.app⟩ (by omega)
  rw [p,Nf fun h=>c2 h.2.2.1];exact f
 rcases ZX (PL:=PL) (i:=i) (n:=k) with ⟨e,_⟩ | ⟨b,e,b1,b2,_⟩
 ·rw [e] at f p
  rw [Nh ⟨v,c1,c2,.inl (by omega)⟩] at p
  simp only [n51,l,d,f,g,r,a,l0 _ a,l1 _ a,l0 _ hi,l1 _ hi,m _ a,m _ hi,x,Nq c1,Nq c2,SB,seval,NG,NF]
  refine u (k+1) _ _ ⟨by omega,by omega,⟨q1,q2,q3,s,t,l⟩,d, ?_,rfl,q.app⟩ (by omega)
  rw [p];exact rfl
 ·rw [e,Ov] at p
  rw [e] at f
  have A:b<PL.length:=by omega
  have nb:¬(b:Int)<0:=by omega
  by_cases c3:(gt PL k).2<(gt PL b).2
  ·rw [Nh ⟨v,c1,c2,.inr c3⟩] at p
   simp only [n51,l,d,f,g,r,a,l0 _ a,l1 _ a,l0 _ hi,l1 _ hi,m _ a,m _ hi,x,Nq c1,Nq c2,l1 _ A,m _ A,Nm nb,Nq c3,SB,seval,NG,NF]
   refine u (k+1) _ _ ⟨by omega,by omega,⟨q1,q2,q3,s,t,l⟩,d, ?_,rfl,q.app⟩ (by omega)
   rw [p];exact rfl
  ·rw [Nf fun h=>h.2.2.2.elim nb c3] at p
   simp only [n51,l,d,f,g,r,a,l0 _ a,l1 _ a,l0 _ hi,l1 _ hi,m _ a,m _ hi,x,Nq c1,Nq c2,l1 _ A,m _ A,Nm nb,Nm c3,SB,seval,NG,NF]
   refine u (k+1) _ _ ⟨by omega,by omega,⟨q1,q2,q3,s,t,l⟩,d, ?_,rfl,q.app⟩ (by omega)
   rw [p];exact f
theorem Nxf {PL:List (Int×Int)}:Sr PL 2=[]:=by simp [Sr]
theorem Nmr [OB] {lim M B9:Nat} {X:List Nat} {pp pa:Option Addr} {cp ca:Nat} {v1 v2 v3 v4 v8 vq:Value} {d:Int} {to:Int} {PL:List (Int×Int)} {l:List Pr} {H G:NA} {fr:Nat->Value} {K:List AItem} {Q:Value->NA->Prop}
  (hf:BB fr v1 v2 v3 v4 v8 (Vp B9)) (U:fr 19=Vi 2)
  (hS:GS M B9 X G G pp cp pa ca d vq PL l) (aa:PlR PL to) (av:PL.length<2 ^ 22) (ak:l.length<2 ^ 22) (ae:lim<=M) (ao:H.length<=M) (aq:M<=B9) (W:Chg [] H G)
  (hR:∀fr' G' ah S,BB fr' v1 v2 v3 v4 v8 (Vp B9)->GS M B9 X G G' pp cp ah S d vq PL (l++Sr PL PL.length)->Chg [] H G'->PQ E a51 lim K fr' G' Q) :
  PQ E a51 lim (.code (.loop Nvi)::.inBlock 4::K) fr G Q:=by
 have au:M<=G.length:=by have:=ND hS.hdr;omega
 have h2:=aa.two
 refine NL (fun z:Nat×Option Addr×Nat=>PL.length-z.1) (fun z s G'=>2<=z.1/\z.1<=PL.length/\BB s v1 v2 v3 v4 v8 (Vp B9)/\s 19=Vi z.1/\GS M B9 X G G' pp cp z.2.1 z.2.2 d vq PL (l++Sr PL z.1)/\Chg [] H G'/\G.length<=G'.length) (2,pa,ca)
  ⟨Ng _,h2,hf,U,by show GS M B9 X G G pp cp pa ca d vq PL (l++Sr PL 2);rw [Nxf,Na];exact hS,W,Ng _⟩ ?_
 rintro ⟨j,pa,ca⟩ s G' ⟨D,hj,⟨q1,q2,q3,q4,q8,P⟩,r,c,o,ai⟩ hN
 simp only at D hj r c
 have C:∀n,(Sr PL n).length<=n:=fun n=>by
  induction n with
  | zero=>simp [Sr]
  | succ n ih=>
    rw [Sr,Nb]
    by_cases hn:2<=n
    ·rw [Nh hn];unfold Nhh;split<;>simp<;>omega
    ·rw [Nf hn];simp;omega
 obtain ⟨AL,k⟩:∃AL,AL=l++Sr PL j:=⟨_,rfl⟩
 have am:AL.length<=l.length+j:=by rw [k,Nb];have:=C j;omega
 rw [<-k] at c
 rw [NP Nvi.eq_1]
 have k9:=fun Z=>(NZ.refl.app (X:=Z)).cells c.hdr
 unfold Ta at k9
 refine NI ?_
 by_cases F:j<PL.length
 case neg=>
  obtain rfl:j=PL.length:=by omega
  simp only [n51,P,r,k9,SB,seval,NG,NF]
  rw [k] at c
  exact hR _ _ pa ca ⟨q1,q2,q3,q4,q8,P⟩ ⟨(NZ.refl.app).cells c.hdr,c.op.app _,c.oa.app _,c.nb,c.dj,fun b f=>⟨by have:=(c.sx b f).1;simp;omega,(c.sx b f).2⟩,fun b f=>by rw [NJ (c.sx b f).1];exact c.kp b f⟩ o.app
 simp only [n51,P,r,k9,F,SB,seval,NG,NF]
 refine Nr5 (i:=j) (y:=.slice pa AL.length ca) (z:=Vi d) (w:=vq) ⟨q1,q2,q3,q4,q8,P⟩ r rfl rfl ((NZ.refl.app).cells c.hdr) ((c.op.sl PN).app _) h2 (by omega) F fun aj u ac B t Y=>?_
 obtain ⟨g1,g2,g3,g4,g8,V⟩:=ac
 have g:NZ G' u:=NZ.trans (NZ.refl.app) Y
 have aw:=g.len
 have T:=g.cells c.hdr
 have w1:IntKind.i64.wrap ((j:Int)+1)=((j+1:Nat):Int):=NS (by omega)
 have an:=ND c.hdr
 have N:=c.op.chg (A:=[]) g.chg fun _ _ h=>by cases h
 have L:=c.oa.chg (A:=[]) g.chg fun _ _ h=>by cases h
 have J:∀b,b<G'.length->NC u b=NC G' b:=fun b f=>by obtain ⟨Z,rfl⟩:=g;exact NJ f
 have v:Sr PL (j+1)=Sr PL j++Nhh PL j:=by rw [Sr,Nh D]
 refine NI ?_
 by_cases c1:0<=TR PL j PL.length
 case neg=>
  have e0:Nhh PL j=[]:=Nf c1
  simp only [n51,B,t,Nm c1,w1,SB,seval,NG,NF]
  refine hN (j+1,pa,ca) _ _ ⟨by show 2<=j+1;omega,by show j+1<=_;omega,⟨g1,g2,g3,g4,g8,V⟩,rfl, ?_,(o.trans g.chg).app,by simp;omega⟩ (by show PL.length-(j+1)<PL.length-j;omega)
  show GS M B9 X G _ pp cp pa ca d vq PL (l++Sr PL (j+1))
  rw [v,e0,Na (Sr PL j),<-k]
  exact ⟨(NZ.refl.app).cells T,N.app _,L.app _,c.nb,c.dj,fun b f=>⟨by have:=(c.sx b f).1;simp;omega,(c.sx b f).2⟩,fun b f=>by
   have hx:=(c.sx b f).1
   rw [NJ (by omega),J b hx];exact c.kp b f⟩
 obtain ⟨b,f⟩:∃b:Nat,TR PL j PL.length=b:=⟨(TR PL j PL.length).toNat,by omega⟩
 have e0:Nhh PL j=[⟨b,j,VW,0⟩]:=by unfold Nhh;rw [Nh c1,f];rfl
 rw [f] at t
 have nn:(0:Int)<=(b:Int):=by omega
 obtain ⟨G4,e4,O4,R,ad⟩:=Own.moreF L (lim':=lim) (bytes:=32) ae QE (by decide) [⟨b,j,VW,0⟩] (by simp) (by simp;unfold OT;omega) (by simp;omega) [Vc [Vi j,Vi b,Vi 1152921504606846976,Vi 0]] (x:=.slice (Sa u.length) 1 1) (str:=false)
  (QH (m:=[⟨b,j,VW,0⟩]) (Sl.row (ro:=false) QE NQ)) rfl
 simp only [Nb,Nk,Nl,Ny] at e4 O4 ad
 have d4:=R.cells T c.nb.2
 have k3:=fun Z=>(NZ.refl.app (X:=Z)).cells T
 have k4:=fun Z=>(NZ.refl.app (X:=Z)).cells d4
 obtain ⟨G5,e5,k5,O⟩:=OO (ND d4) (Vc (Ta (.slice pp PL.length cp) (.slice (Sa (u.length+1)) (AL.length+1) (loose 4)) (Vi d) vq))
 have ay:=O.len
 unfold Ta at k3 k4 e5
 simp only [n51,V,B,t,Nq nn,k3,e4,k4,e5,show lim<=B9 by omega,w1,SB,seval,NG,NF,place,NB]
 have ag:∀b∈QC pp,b<G'.length:=fun b f=>by
  obtain ⟨a,p,rfl⟩:=NU.1 f
  exact (c.op.block p).2
 have I:∀b,b<G'.length->b≠B9->b∉QC pa->NC G5 b=NC G' b:=fun b f h1 h2=>by
  rw [O.other b h1,R.other b (by omega) h2,J b f]
 refine hN (j+1,Sa (u.length+1),loose 4) _ _ ⟨by show 2<=j+1;omega,by show j+1<=_;omega,⟨g1,g2,g3,g4,g8,V⟩,rfl, ?_, ?_,by simp;omega⟩ (by show PL.length-(j+1)<PL.length-j;omega)
 ·show GS M B9 X G _ pp cp (Sa (u.length+1)) (loose 4) d vq PL (l++Sr PL (j+1))
  rw [v,e0,<-Nr,<-k]
  refine ⟨?_,((N.chg R fun a p q=>c.dj _ (NU.2 ⟨a,p,rfl⟩) q).mut O fun a p e=>c.nb.1 (NU.2 ⟨a,p,e⟩)).app _,(((O4.le (by omega)).mut O fun a p e=>by cases p;simp only at e;omega)).app _,⟨c.nb.1,fun q=>by simp only [QC,Nj] at q;omega⟩,fun b f q=>by simp only [QC,Nj] at q;have:=ag b f;omega,fun b f=>?_,fun b f=>?_⟩
  ·rw [Nb,Ow];exact (NZ.refl.app).cells k5
  ·obtain ⟨x1,x2,x3,x4⟩:=c.sx b f
   exact ⟨by simp;omega,x2,x3,fun q=>by simp only [QC,Nj] at q;omega⟩
  ·obtain ⟨x1,x2,x3,x4⟩:=c.sx b f
   rw [NJ (by omega),I b x1 x2 x4]
   exact c.kp b f
 ·have ap:=o.len
  refine Chg.app ⟨by omega,fun b f _=>?_⟩
  rw [I b (by omega) (by omega) fun q=>by
   obtain ⟨a,p,rfl⟩:=NU.1 q
   have:=(c.oa.block p).1;omega]
  exact o.other b f (by simp)
theorem Nim {α β:Type} {f:α->β}:∀{O:List β} {D:List α},O.Perm (D.map f)->∃C:List α,C.Perm D/\C.map f=O
 | [],D,h=>by
   have:=h.length_eq
   rw [On,Nl] at this
   rw [List.length_eq_zero_iff.1 this.symm]
   exact ⟨[],.nil,rfl⟩
 | b::O,D,h=>by
   obtain ⟨a,c,e⟩:=List.mem_map.1 (h.mem_iff.1 Nn)
   obtain ⟨l1,d,rfl⟩:=List.append_of_mem c
   have h2:(b::O).Perm (b::(l1++d).map f):=by
    refine h.trans ?_
    rw [Pi,Pk,e,Pi]
    exact List.perm_middle
   obtain ⟨C,p,q⟩:=Nim h2.cons_inv
   exact ⟨a::C,(p.cons a).trans List.perm_middle.symm,by rw [Pk,q,e]⟩
theorem M5 {P:List Int} {L:List Leg} (h:PY P L=0) {p:Int} (hp:p∈P):1<=p:=by
 obtain ⟨i,hi,rfl⟩:=List.mem_iff_getElem.1 hp
 have:=(UV h).2.2.1 i hi
 unfold pOk at this
 rw [OI hi] at this
 omega
structure RG (M:Nat) (G:NA) (pp:Option Addr) (cp:Nat) (pa:Option Addr) (ca:Nat) (pq:Option Addr) (cq:Nat) (PL:List (Int×Int)) (AL:List Pr) (C:List (Leg×Int)):Prop where
 op:TG M G enc2 2 pp cp PL
 oa:Own M G Sz 4 pa ca AL
 oq:Own M G QJ 4 pq cq (C.map Tv)
 dj:∀b∈QC pa,b∉QC pp/\b∉QC pq
theorem GS.reset {M B:Nat} {X:List Nat} {G0 G:NA} {pp pa:Option Addr} {cp ca:Nat} {d:Int} {vq:Value} {PL:List (Int×Int)} {AL:List Pr} (h:GS M B X G0 G pp cp pa ca d vq PL AL) (Z:NA):GS M B X (G++Z) (G++Z) pp cp pa ca d vq PL AL:=
 ⟨(NZ.refl.app).cells h.hdr,h.op.app _,h.oa.app _,h.nb,h.dj,fun b a=>⟨by have:=(h.sx b a).1;simp;omega,(h.sx b a).2⟩,fun _ _=>rfl⟩
theorem Ne9 [OB] {lim:Nat} {pn pl ps:Option Addr} {P:List Int} {L:List Leg} {s:List Flow.Src} {cn cl cs:Nat} {to dl:Int} {H:NA} {Q:Value->NA->Prop} (hn:NetIn H pn pl P L) (hs:Sl H encS 3 ps s) (j:OD P L s to dl=0) (aj:L.length<=8) (az:lim<=H.length)
  (hQ:∀G pp cp pa ca pq cq C PL,C.Perm (NN L to dl)->(C.map Tv).Pairwise (fun x y=>¬RD y x)->GrR PL to dl s C->RG H.length G pp cp pa ca pq cq PL (grR PL to dl s C) C->PL.length<2 ^ 21->Chg [] H G->Q (.agg (Ta (.slice pp PL.length cp) (.slice pa (grR PL to dl s C).length ca) (Vi (U4 to dl s)) (.slice pq C.length cq)).toArray) G) :
  NR E false lim 51 [.agg (netV pn P.length cn pl L.length cl).toArray,.slice ps s.length cs,Vi to,Vi dl] H Q:=by
 have n:=Sy j
 have hv:=RU j
 have mt:OQ=1051898399:=rfl
 have bk:=n.ns
 refine SE (by decide) e51 rfl ?_
 rw [b51,c51]
 simp only [n51,OC,SB,seval,NE,NG,NK,place,NB]
 refine Nab (hn.app _) n.net.fine aj n.d0 n.d1 (by simp;omega) fun G1 q c O r F av l=>?_
 obtain ⟨C,A,rfl⟩:=Nim F
 have aq:=l.len
 simp only [Nb,Nk,Nl] at aq r
 have be:=S9 (to:=to) (dl:=dl) n.net.fine
 have bd:C.length<=112:=by rw [A.length_eq];omega
 have b4:NC G1 H.length=Vc (netV pn P.length cn pl L.length cl):=l.cells NQ (by simp)
 have b8:NC G1 (H.length+1)=Vc (Ta Vz Vz (Vi 0) Vz):=l.cells OM (by simp)
 have b24:NC G1 (H.length+2)=Vc ([((0:Int),(0:Int)),(-1,0)].flatMap enc2):=l.cells OM (by simp)
 have ai:Chg [] H G1:=l.pre
 have t:∀b∈QC q,H.length+3<=b/\b<G1.length:=fun b hb=>by
  obtain ⟨a,j,rfl⟩:=NU.1 hb
  have:=r.block j;omega
 have p:∀x∈C,x.1∈L/\x.1.frm≠to/\0<=x.2-x.1.cut/\x.2-x.1.cut<=OQ/\0<=x.2+x.1.mins/\x.2+x.1.mins<=OQ/\1<=x.1.frm/\1<=x.1.dst:=fun x k=>by
  obtain ⟨m1,m2,d,m3,m4,m5,m6⟩:=QR (A.mem_iff.1 k)
  have hF:=n.net.fine _ m1
  unfold Fine at hF
  unfold goes at m3
  simp only [Ob,N3] at m3
  have bf:=n.d1
  exact ⟨m1,m2,by omega,by omega,by omega,by omega,M5 hv (n.net.frm _ m1),M5 hv (n.net.dst _ m1)⟩
 refine NI ?_
 simp only [n51,show lim<=G1.length by omega,On,SB,seval,NG,place,NB]
 obtain ⟨J,m⟩:∃J,J=G1++[Vc [.slice (Sa (H.length+2)) 2 2,Vz,Vi 0,.slice q C.length c]]:=⟨_,rfl⟩
 have bg:J.length=G1.length+1:=by rw [m];simp
 have i:∀b,b<G1.length->NC J b=NC G1 b:=fun b hb=>by rw [m];exact NJ hb
 have b9:NC J G1.length=Vc (Ta (.slice (Sa (H.length+2)) 2 2) Vz (Vi 0) (.slice q C.length c)):=by rw [m];exact NQ
 have U:Chg [] H J:=by rw [m];exact ai.app
 rw [<-m]
 refine No7 (H:=H) (M:=H.length) (B4:=H.length) (B9:=G1.length) (X:=H.length::(H.length+1)::QC q) (v1:=.slice ps s.length cs) (v8:=Vp (H.length+1)) (C:=C) (PL:=[(0,0),(-1,0)]) (pp:=Sa (H.length+2)) (cp:=2) (pa:=none) (ca:=0) hn hv p (by omega) ⟨rfl,rfl,rfl,rfl,rfl,rfl⟩ rfl
  ⟨b9,.inr ⟨_,rfl,rfl,by decide,by rw [i _ (by omega)];exact b24,by omega⟩,.nil,⟨by simp [QC];omega,by simp [QC]⟩,fun b _=>by simp [QC],fun b hb=>?_,fun b _=>rfl⟩
  PlR.first (by simp) ⟨by simp,fun b hb=>by simp [hb]⟩ (by rw [i _ (by omega)];exact b4) ?_ (by omega) (by omega) (by omega) U fun ba G3 bp a5 bm a2 a1 an B ak aa au ae=>?_
 ·simp only [Nu] at hb
  rcases hb with rfl | rfl | hb
  ·exact ⟨by omega,by omega,by simp [QC],by simp [QC]⟩
  ·exact ⟨by omega,by omega,by simp [QC],by simp [QC]⟩
  ·have:=t b hb
   exact ⟨by omega,by omega,by simp [QC];omega,by simp [QC]⟩
 ·refine (r.sl NV).same fun a j _=>?_
  have:=t _ (NU.2 ⟨a,j,rfl⟩)
  exact i _ (by omega)
 obtain ⟨g1,K,N,S,w,z⟩:=an
 refine NI ?_
 simp only [n51,SB,seval,NG]
 have ac:∀x∈s,1<=x.pl/\0<=x.rd/\0<=x.gr/\x.gr<=1000000000:=fun x k=>by
  obtain ⟨k1,k2,k3,k4,k5⟩:=n.src x k
  exact ⟨M5 hv k1,k2,k4,k5⟩
 refine Npl (H:=H) (M:=H.length) (B9:=G1.length) (X:=H.length::(H.length+1)::QC q) (cs:=cs) (v4:=Vp H.length) (v8:=Vp (H.length+1)) (C:=C) hs ac (by omega) (by omega) ⟨g1,K,N,S,w,z⟩ rfl (B.reset []) ak aa au (by omega) (by omega) (by omega) ae.app fun bb G4 I v bo a4 f ao D V a0 W Y ag=>?_
 clear g1 K N S w z
 obtain ⟨g1,K,N,S,w,z⟩:=ao
 refine NI ?_
 simp only [n51,SB,seval,NG]
 have bl:=Z7 (PL:=f) (to:=to) (dl:=dl) (s:=s)
 refine Nmr (H:=H) (M:=H.length) (B9:=G1.length) (X:=H.length::(H.length+1)::QC q) (v1:=.slice ps s.length cs) (v2:=Vi to) (v3:=Vi dl) (v4:=Vp H.length) (v8:=Vp (H.length+1)) ⟨g1,K,N,S,w,z⟩ rfl (D.reset []) V (by omega) (by rw [Nb,On];omega) (by omega) (by omega) (by omega) ag.app fun bc G5 u o ap g T=>?_
 clear g1 K N S w z
 obtain ⟨g1,K,N,S,w,z⟩:=ap
 have kp:∀b∈H.length::(H.length+1)::QC q,NC G5 b=NC G1 b:=fun b hb=>by
  have x4:=(D.sx b hb).1
  have x3:=(B.sx b hb).1
  rw [g.kp b hb,NJ x4,D.kp b hb,NJ x3,B.kp b hb]
  refine i b ?_
  simp only [Nu] at hb
  rcases hb with rfl | rfl | hb
  ·omega
  ·omega
  ·exact (t b hb).2
 have b85:=(kp (H.length+1) (by simp)).trans b8
 obtain ⟨_,x2,x3,x4⟩:=g.sx (H.length+1) (by simp)
 obtain ⟨G6,e6,k6,m6⟩:=OO (ND b85) (Vc (Ta (.slice I f.length v) (.slice u (grR f to dl s C).length o) (Vi (U4 to dl s)) (.slice q C.length c)))
 have am:NC G5 G1.length=Vc (Ta (.slice I f.length v) (.slice u (grR f to dl s C).length o) (Vi (U4 to dl s)) (.slice q C.length c)):=g.hdr
 have aw:Own H.length G5 Sz 4 u o (grR f to dl s C):=g.oa
 have k9:=fun Z=>(NZ.refl.app (X:=Z)).cells am
 have k8:=fun Z=>(NZ.refl.app (X:=Z)).cells b85
 have ad:=fun Z=>(NZ.refl.app (X:=Z)).cells k6
 have ah:GrR f to dl s C:=⟨V,fun x k h1 h2=>⟨(ac x k).1,Y x k h1 h2⟩,fun x k=>⟨⟨(p x k).2.1,(p x k).2.2.2.2.2.2.1,(W x k).1⟩,fun h=>⟨(p x k).2.2.2.2.2.2.2,(W x k).2 h⟩⟩⟩
 have ay:Own H.length G5 QJ 4 q c (C.map Tv):=by
  rcases r with h | ⟨R,h1,h2,h3,h4⟩
  ·exact .inl h
  ·exact .inr ⟨R,h1,h2,by rw [kp R (by simp [NU.2 ⟨_,h1,rfl⟩])];exact h3,by omega⟩
 have bh:=T.len
 have hq:=hQ (G6++[]) I v u o q c C f A av ah ⟨(g.op.mut m6 fun a j e=>x3 (NU.2 ⟨a,j,e⟩)).app _,(aw.mut m6 fun a j e=>x4 (NU.2 ⟨a,j,e⟩)).app _,(ay.mut m6 fun a j e=>by have:=t _ (NU.2 ⟨a,j,rfl⟩);omega).app _,fun b hb=>⟨fun hm=>g.dj b hm hb,fun hm=>(g.sx b (by simp [hm])).2.2.2 hb⟩⟩ (by omega) (T.mut m6 (.inr (by omega))).app
 unfold Ta at e6 k9 k8 ad hq
 refine NI ?_
 simp only [n51,r51,w,z,k9,k8,e6,ad,show lim<=H.length+1 by omega,SB,seval,NG,NB,NH]
 exact hq
def N1s:ACode:=(Ds 0 [fT 45 0 8,lT 46 45,mT 47 5,mT 48 6,xT 49 1 47 48,lT 50 49,Bt 51 .eql 46 50,mT 52 51,Pf 53 52 2 8,Pl 54 52 53,p 55 52 (.bin .gtr (t 54) (zT 0)),At 56 52 55,mT 57 56,Pm 58 57 3,Pf 59 57 1 8,Pl 60 57 59,Px 61 57 2 58 60,Pf 62 57 0 61,Pl 63 57 62,p 64 57 (.bin .lss (t 63) (zT 0)),At 65 57 64] (.cond (t 65) (Oz [mT 66 3,fT 67 1 8,lT 68 67,mT 69 7,i 70 (.build [(Vi 0),(.bool false)] [(0,(1,(t 69)))]),xT 71 2 66 68,St 2 71 70] (.ops [mT 72 5,fT 73 1 8,lT 74 73,i 75 (.buildSlice 1 [(Vi 0)] [(0,(1,(t 74)))]),i 76 (.append 1 8 false (t 72) (t 75)),mT 5 76])) .skip))
def N1r:ACode:=(Ds 0 [fT 77 1 8,lT 78 77,mT 79 5,mT 80 6,xT 81 1 79 80,lT 82 81,Bt 83 .eql 78 82,mT 84 83,Pf 85 84 3 8,Pl 86 84 85,p 87 84 (.bin .gtr (t 86) (zT 0)),At 88 84 87,mT 89 88,Pm 90 89 3,Pf 91 89 0 8,Pl 92 89 91,Px 93 89 2 90 92,Pf 94 89 0 93,Pl 95 89 94,p 96 89 (.bin .lss (t 95) (zT 0)),At 97 89 96] (.cond (t 97) (Oz [mT 98 3,fT 99 0 8,lT 100 99,mT 101 7,i 102 (.build [(Vi 0),(.bool false)] [(0,(1,(t 101))),(1,(1,(k (.bool true))))]),xT 103 2 98 100,St 2 103 102] (.ops [mT 104 5,fT 105 0 8,lT 106 105,i 107 (.buildSlice 1 [(Vi 0)] [(0,(1,(t 106)))]),i 108 (.append 1 8 false (t 104) (t 107)),mT 5 108])) .skip))
def XF:Option Nat->Int
 | none=>-1
 | some i=>((i / 2:Nat):Int)
def Xo (o:Option Nat):List Value:=[Vi (XF o),.bool (match o with | none=>false | some i=>decide (i % 2=1))]
theorem RN (o:Option Nat):(Xo o).length=2:=id rfl
theorem Nfo {k:Nat}:Xo (some (2*k))=[Vi k,.bool false]:=by
 show [Value.int .i64 ((2*k / 2:Nat):Int),Value.bool (decide (2*k % 2=1))]=_
 rw [show 2*k / 2=k by omega,show decide (2*k % 2=1)=false from Nw (by omega)]
theorem Nw1 {k:Nat}:Xo (some (2*k+1))=[Vi k,.bool true]:=by
 show [Value.int .i64 (((2*k+1) / 2:Nat):Int),Value.bool (decide ((2*k+1) % 2=1))]=_
 rw [show (2*k+1) / 2=k by omega,show decide ((2*k+1) % 2=1)=true from No (by omega)]
theorem N2k {l:List Pr} {j:Nat}:hd l (2*j+1)=(gt l j).tail:=by
 unfold hd
 rw [show (2*j+1) / 2=j by omega,Nf (by omega)]
theorem N1u {l:List Pr} {j:Nat}:tl l (2*j+1)=(gt l j).head:=by
 unfold tl
 rw [show (2*j+1) / 2=j by omega,Nf (by omega)]
structure RS (M B:Nat) (bv:List Value) (G:NA) (ph:Option Addr) (ch:Nat) (pq:Option Addr) (cq:Nat) (hw:List (Option Nat)) (q:List Nat):Prop where
 b1:NC G B=Vc bv
 oh:Own M G Xo 2 ph ch hw
 oq:TG M G Tn 1 pq cq q
 nb:B∉QC ph/\B∉QC pq
 dj:∀b∈QC ph,b∉QC pq
theorem RS.app {M B:Nat} {bv:List Value} {G:NA} {ph pq:Option Addr} {ch cq:Nat} {hw:List (Option Nat)} {q:List Nat} (h:RS M B bv G ph ch pq cq hw q) (Z:NA):RS M B bv (G++Z) ph ch pq cq hw q:=⟨(NZ.refl.app).cells h.b1,h.oh.app Z,h.oq.app Z,h.nb,h.dj⟩
theorem Nnx {lim M B v i:Nat} {bv:List Value} {G:NA} {ph pq:Option Addr} {ch cq:Nat} {hw:List (Option Nat)} {q:List Nat} (h:RS M B bv G ph ch pq cq hw q) (o:lim<=M) (r:v<hw.length) (H:q.length<2 ^ 28) (C:M<=G.length) :
  ∃c d,(∀X,AM.storeAt lim (G++X) (Tk ph 2 v) (Xo (some i))=some (c++X))/\OJ lim none 1 8 false (.slice pq q.length cq) (.slice (Sa c.length) 1 1) (c++[Vc [Vi v]])=some (.slice (Sa (c.length+1)) (q.length+1) (loose 1),d++[])/\
   c.length=G.length/\RS M B bv d ph ch (Sa (c.length+1)) (loose 1) (hw.set v (some i)) (q++[v])/\(∀b,b<G.length->b∉QC ph->b∉QC pq->NC d b=NC G b)/\G.length<=d.length/\(∀b,b<G.length->b∉QC ph->NC c b=NC G b):=by
 obtain ⟨b1,oh,oq,⟨z,F⟩,dj⟩:=h
 rcases oh with ⟨A,_,_⟩ | ⟨R,rfl,rfl,y,k⟩
 ·rw [A] at r;simp at r
 obtain ⟨c,e2,k2,g⟩:=Uv (lim:=lim) (p:=Sa R) RN rfl y (by omega) r (some i)
 have l:=g.len
 have s:∀b,b∉QC (Sa R)->b≠R:=fun b f e=>f (NU.2 ⟨_,rfl,e.symm⟩)
 have w:R∉QC pq:=dj R (NU.2 ⟨_,rfl,rfl⟩)
 have t:TG M c Tn 1 pq cq q:=oq.mut g fun a E e=>w (NU.2 ⟨a,E,e⟩)
 obtain ⟨d,e3,u,j,n⟩:=TG.moreF t (lim':=lim) (bytes:=8) o RX (by decide) [v] (by simp) (by simp;unfold OT;omega) (by simp;omega) [Vc [Vi v]] (x:=.slice (Sa c.length) 1 1) (str:=false)
  (QH (m:=[v]) (Sl.row (ro:=false) RX NQ)) rfl
 simp only [Nb,Nk,Nl,Ny] at e3 u n
 refine ⟨c,d,e2,e3,l,⟨?_,Own.new (j.cells k2 w) k,.inl (u.le (by omega)),⟨z, ?_⟩,fun b f=>?_⟩,fun b f h1 h2=>?_,by omega,fun b f h1=>g.other b (s b h1)⟩
 ·exact j.cells (g.cells b1 (s _ z)) F
 ·simp only [QC,Nj]
  have:=ND b1;omega
 ·have D:=ND y
  simp only [QC,Nj] at f⊢
  omega
 ·rw [j.other b (by omega) h2,g.other b (s b h1)]
structure BV (fr:Nat->Value) (v1 v3 v5 v6 v7 v8:Value):Prop where
 f1:fr 1=v1
 f3:fr 3=v3
 f5:fr 5=v5
 f6:fr 6=v6
 f7:fr 7=v7
 f8:fr 8=v8
section
variable {lim M B B8 n k qi:Nat} {bv:List Value} {G H:NA} {ph pq:Option Addr} {ch cq:Nat} {hw:List (Option Nat)} {q:List Nat} {l:List Pr} {v1:Value} {fr:Nat->Value} {K:List AItem} {Q:Value->NA->Prop}
theorem N4u [OB] (hS:RS M B bv G ph ch pq cq hw q) (c:Rch l n hw q qi k) (w:qi<q.length) (hk:k<l.length) (O:hd l (2*k)<n) (hn:n<2 ^ 22) (ah:lim<=M) (aa:M<=G.length) (aj:H.length<=M) (F:Chg [] H G)
  (hf:BV fr v1 (.slice ph n ch) (.slice pq q.length cq) (Vi qi) (Vi k) (Vp B8)) (o:NC G B8=Vc (Sz (gt l k))) (e:B8∉QC ph/\B8∉QC pq)
  (I:∀fr' G' C D S V,BV fr' v1 (.slice ph n ch) (.slice C V.length D) (Vi qi) (Vi k) (Vp B8)->RS M B bv G' ph ch C D S V->Rch l n S V qi k->(tl l (2*k)=gt q qi->0<rm l (2*k)->hd l (2*k)∈V)->(∃Y,V=q++Y)->NC G' B8=Vc (Sz (gt l k))->B8∉QC C->Chg [] H G'->G.length<=G'.length->PQ E a80 lim K fr' G' Q) :
  PQ E a80 lim (.code N1s::K) fr G Q:=by
 rw [NP N1s.eq_1]
 obtain ⟨m,d⟩:∃m,m=2*k:=⟨_,rfl⟩
 obtain ⟨v,R⟩:∃v,(gt l k).head=v:=⟨_,rfl⟩
 obtain ⟨u,P⟩:∃u,(gt l k).tail=u:=⟨_,rfl⟩
 obtain ⟨r,hr⟩:∃r,(gt l k).room=r:=⟨_,rfl⟩
 have L:tl l m=u:=by rw [d,Nba];exact P
 have f:hd l m=v:=by rw [d,Nbi];exact R
 have J:rm l m=r:=by rw [d,Xd];exact hr
 have ad:Xo (some m)=[Vi k,.bool false]:=by rw [d];exact Nfo
 have ae:m / 2<l.length:=by omega
 rw [<-d] at I O
 have y:v<n:=by rw [<-f];exact O
 obtain ⟨f1,f3,f5,f6,f7,f8⟩:=hf
 have ai:=c.len
 have A:v<hw.length:=by omega
 have T:=fun Z=>(NZ.refl.app (X:=Z)).cells o
 have sh:=hS.oh.sl RN
 have sq:=hS.oq.sl RX
 have ao:=c.len_le
 have s:∀Z,AM.loadCell (G++Z) (Tk pq 1 qi)=some (Vi ((gt q qi:Nat):Int)):=fun Z=>(sq.app Z).loadCell0 RX w (by decide)
 have W:=QM sq w rfl
 have p:∀Z,AM.loadCell (G++Z) ((Tk ph 2 v).add 0)=some (Vi (XF (gt hw v))):=fun Z=>(sh.app Z).loadCell RN A (j:=0) (by decide)
 have xH:=QM sh A rfl
 rw [ai] at xH
 unfold Sz at T
 refine NI ?_
 by_cases c1:u=gt q qi
 case neg=>
  have g:¬((u:Int)=((gt q qi:Nat):Int)):=by omega
  simp only [n80,f5,f6,f8,T,P,R,hr,s,W,Nm g,SB,seval,NG,NF]
  exact I _ _ pq cq hw q ⟨f1,f3,f5,f6,f7,f8⟩ (hS.app _) c (fun h _=>absurd (L.symm.trans h) c1) ⟨[],(Na q).symm⟩ ((NZ.refl.app).cells o) e.2 F.app (by simp)
 have g:(u:Int)=((gt q qi:Nat):Int):=by omega
 by_cases c2:0<r
 case neg=>
  simp only [n80,f5,f6,f8,T,P,R,hr,s,W,Nq g,Nm c2,SB,seval,NG,NF]
  exact I _ _ pq cq hw q ⟨f1,f3,f5,f6,f7,f8⟩ (hS.app _) c (fun _ h=>absurd (by rw [<-J];exact h) c2) ⟨[],(Na q).symm⟩ ((NZ.refl.app).cells o) e.2 F.app (by simp)
 cases hh:gt hw v with
 | some x=>
   have z:v∈q:=(c.iff v y).1 (by rw [hh];rfl)
   rw [hh] at p
   have c3:¬XF (some x)<0:=by show ¬((x / 2:Nat):Int)<0;omega
   simp only [n80,f3,f5,f6,f8,T,P,R,hr,s,W,Nq g,Nq c2,p,xH,Nm c3,SB,seval,NG,NF]
   exact I _ _ pq cq hw q ⟨f1,f3,f5,f6,f7,f8⟩ (hS.app _) c (fun _ _=>by rw [f];exact z) ⟨[],(Na q).symm⟩ ((NZ.refl.app).cells o) e.2 F.app (by simp)
 | none=>
   have z:v∉q:=fun h=>by have:=(c.iff v y).2 h;rw [hh] at this;cases this
   rw [hh] at p
   have c3:XF none<0:=by show (-1:Int)<0;decide
   obtain ⟨G2,G3,e2,e3,am,ac,N,an,ag⟩:=Nnx (v:=v) (i:=m) hS ah A (by omega) aa
   rw [ad] at e2
   have b82:NC G2 B8=Vc (Sz (gt l k)):=(ag _ (ND o) e.1).trans o
   have U:=fun Z=>(NZ.refl.app (X:=Z)).cells b82
   unfold Sz at U
   have t:=c.add w (i:=m) ae (L.trans c1) (by rw [J];exact c2) (by rw [f];exact z) (by rw [f];exact y)
   rw [f] at t
   simp only [n80,f3,f5,f6,f7,f8,T,P,R,hr,s,W,Nq g,Nq c2,p,xH,Nq c3,e2,U,e3,SB,seval,NG,NF,place,NB]
   refine I _ _ (Sa (G2.length+1)) (loose 1) (hw.set v (some m)) (q++[v]) ⟨f1,f3,by rw [Nb];exact rfl,f6,f7,f8⟩ (ac.app _) t (fun _ _=>by rw [f];simp) ⟨[v],rfl⟩ ((NZ.refl.app).cells ((N _ (ND o) e.1 e.2).trans o)) (by simp only [QC,Nj];have:=ND o;omega) ?_ (by simp;omega)
   have ak:=F.len
   refine Chg.app ⟨by omega,fun b hb _=>?_⟩
   rw [N b (by omega) (fun hm=>by
    obtain ⟨a,ha,rfl⟩:=NU.1 hm
    have:=(hS.oh.block ha).1;omega) fun hm=>by
    obtain ⟨a,ha,rfl⟩:=NU.1 hm
    have:=(hS.oq.block ha).1;omega]
   exact F.other b hb (by simp)
theorem N4t [OB] (hS:RS M B bv G ph ch pq cq hw q) (c:Rch l n hw q qi k) (w:qi<q.length) (hk:k<l.length) (O:hd l (2*k+1)<n) (hn:n<2 ^ 22) (ah:lim<=M) (aa:M<=G.length) (aj:H.length<=M) (F:Chg [] H G)
  (hf:BV fr v1 (.slice ph n ch) (.slice pq q.length cq) (Vi qi) (Vi k) (Vp B8)) (o:NC G B8=Vc (Sz (gt l k))) (e:B8∉QC ph/\B8∉QC pq)
  (I:∀fr' G' C D S V,BV fr' v1 (.slice ph n ch) (.slice C V.length D) (Vi qi) (Vi k) (Vp B8)->RS M B bv G' ph ch C D S V->Rch l n S V qi k->(tl l (2*k+1)=gt q qi->0<rm l (2*k+1)->hd l (2*k+1)∈V)->(∃Y,V=q++Y)->NC G' B8=Vc (Sz (gt l k))->B8∉QC C->Chg [] H G'->G.length<=G'.length->PQ E a80 lim K fr' G' Q) :
  PQ E a80 lim (.code N1r::K) fr G Q:=by
 rw [NP N1r.eq_1]
 obtain ⟨m,d⟩:∃m,m=2*k+1:=⟨_,rfl⟩
 obtain ⟨v,R⟩:∃v,(gt l k).tail=v:=⟨_,rfl⟩
 obtain ⟨u,P⟩:∃u,(gt l k).head=u:=⟨_,rfl⟩
 obtain ⟨r,hr⟩:∃r,(gt l k).flow=r:=⟨_,rfl⟩
 have L:tl l m=u:=by rw [d,N1u];exact P
 have f:hd l m=v:=by rw [d,N2k];exact R
 have J:rm l m=r:=by rw [d,YZ];exact hr
 have ad:Xo (some m)=[Vi k,.bool true]:=by rw [d];exact Nw1
 have ae:m / 2<l.length:=by omega
 rw [<-d] at I O
 have y:v<n:=by rw [<-f];exact O
 obtain ⟨f1,f3,f5,f6,f7,f8⟩:=hf
 have ai:=c.len
 have A:v<hw.length:=by omega
 have T:=fun Z=>(NZ.refl.app (X:=Z)).cells o
 have sh:=hS.oh.sl RN
 have sq:=hS.oq.sl RX
 have ao:=c.len_le
 have s:∀Z,AM.loadCell (G++Z) (Tk pq 1 qi)=some (Vi ((gt q qi:Nat):Int)):=fun Z=>(sq.app Z).loadCell0 RX w (by decide)
 have W:=QM sq w rfl
 have p:∀Z,AM.loadCell (G++Z) ((Tk ph 2 v).add 0)=some (Vi (XF (gt hw v))):=fun Z=>(sh.app Z).loadCell RN A (j:=0) (by decide)
 have xH:=QM sh A rfl
 rw [ai] at xH
 unfold Sz at T
 refine NI ?_
 by_cases c1:u=gt q qi
 case neg=>
  have g:¬((u:Int)=((gt q qi:Nat):Int)):=by omega
  simp only [n80,f5,f6,f8,T,P,R,hr,s,W,Nm g,SB,seval,NG,NF]
  exact I _ _ pq cq hw q ⟨f1,f3,f5,f6,f7,f8⟩ (hS.app _) c (fun h _=>absurd (L.symm.trans h) c1) ⟨[],(Na q).symm⟩ ((NZ.refl.app).cells o) e.2 F.app (by simp)
 have g:(u:Int)=((gt q qi:Nat):Int):=by omega
 by_cases c2:0<r
 case neg=>
  simp only [n80,f5,f6,f8,T,P,R,hr,s,W,Nq g,Nm c2,SB,seval,NG,NF]
  exact I _ _ pq cq hw q ⟨f1,f3,f5,f6,f7,f8⟩ (hS.app _) c (fun _ h=>absurd (by rw [<-J];exact h) c2) ⟨[],(Na q).symm⟩ ((NZ.refl.app).cells o) e.2 F.app (by simp)
 cases hh:gt hw v with
 | some x=>
   have z:v∈q:=(c.iff v y).1 (by rw [hh];rfl)
   rw [hh] at p
   have c3:¬XF (some x)<0:=by show ¬((x / 2:Nat):Int)<0;omega
   simp only [n80,f3,f5,f6,f8,T,P,R,hr,s,W,Nq g,Nq c2,p,xH,Nm c3,SB,seval,NG,NF]
   exact I _ _ pq cq hw q ⟨f1,f3,f5,f6,f7,f8⟩ (hS.app _) c (fun _ _=>by rw [f];exact z) ⟨[],(Na q).symm⟩ ((NZ.refl.app).cells o) e.2 F.app (by simp)
 | none=>
   have z:v∉q:=fun h=>by have:=(c.iff v y).2 h;rw [hh] at this;cases this
   rw [hh] at p
   have c3:XF none<0:=by show (-1:Int)<0;decide
   obtain ⟨G2,G3,e2,e3,am,ac,N,an,ag⟩:=Nnx (v:=v) (i:=m) hS ah A (by omega) aa
   rw [ad] at e2
   have b82:NC G2 B8=Vc (Sz (gt l k)):=(ag _ (ND o) e.1).trans o
   have U:=fun Z=>(NZ.refl.app (X:=Z)).cells b82
   unfold Sz at U
   have t:=c.add w (i:=m) ae (L.trans c1) (by rw [J];exact c2) (by rw [f];exact z) (by rw [f];exact y)
   rw [f] at t
   simp only [n80,f3,f5,f6,f7,f8,T,P,R,hr,s,W,Nq g,Nq c2,p,xH,Nq c3,e2,U,e3,SB,seval,NG,NF,place,NB]
   refine I _ _ (Sa (G2.length+1)) (loose 1) (hw.set v (some m)) (q++[v]) ⟨f1,f3,by rw [Nb];exact rfl,f6,f7,f8⟩ (ac.app _) t (fun _ _=>by rw [f];simp) ⟨[v],rfl⟩ ((NZ.refl.app).cells ((N _ (ND o) e.1 e.2).trans o)) (by simp only [QC,Nj];have:=ND o;omega) ?_ (by simp;omega)
   have ak:=F.len
   refine Chg.app ⟨by omega,fun b hb _=>?_⟩
   rw [N b (by omega) (fun hm=>by
    obtain ⟨a,ha,rfl⟩:=NU.1 hm
    have:=(hS.oh.block ha).1;omega) fun hm=>by
    obtain ⟨a,ha,rfl⟩:=NU.1 hm
    have:=(hS.oq.block ha).1;omega]
   exact F.other b hb (by simp)
end
section
variable {lim M B n qi:Nat} {vx vd vq:Value} {G H:NA} {ph pq pa:Option Addr} {ch cq ca:Nat} {hw:List (Option Nat)} {q:List Nat} {l:List Pr} {fr:Nat->Value} {K:List AItem} {Q:Value->NA->Prop}
theorem Nsa [OB] (hS:RS M B (Ta vx (.slice pa l.length ca) vd vq) G ph ch pq cq hw q) (P:Rch l n hw q qi 0) (ah:qi<q.length) (s:∀i,i / 2<l.length->hd l i<n) (hn:n<2 ^ 22) (aw:l.length<2 ^ 30) (r:lim<=M) (aq:M<=G.length) (p:H.length<=M) (hC:Chg [] H G) (ai:Sl H Sz 4 pa l)
  (f1:fr 1=Vp B) (f3:fr 3=.slice ph n ch) (f5:fr 5=.slice pq q.length cq) (f6:fr 6=Vi qi) (f7:fr 7=Vi 0)
  (hR:∀fr' G' v m u y,fr' 1=Vp B->fr' 3=.slice ph n ch->fr' 5=.slice v y.length m->fr' 6=Vi qi->RS M B (Ta vx (.slice pa l.length ca) vd vq) G' ph ch v m u y->Rch l n u y (qi+1) 0->qi<y.length->Chg [] H G'->G.length<=G'.length->PQ E a80 lim K fr' G' Q) :
  PQ E a80 lim (.code (.loop Nvb)::.inBlock 4::K) fr G Q:=by
 refine NL (fun z:Nat×Option Addr×Nat×List (Option Nat)×List Nat=>l.length-z.1) (fun z c G'=>z.1<=l.length/\c 1=Vp B/\c 3=.slice ph n ch/\c 5=.slice z.2.1 z.2.2.2.2.length z.2.2.1/\c 6=Vi qi/\c 7=Vi z.1/\RS M B (Ta vx (.slice pa l.length ca) vd vq) G' ph ch z.2.1 z.2.2.1 z.2.2.2.1 z.2.2.2.2/\Rch l n z.2.2.2.1 z.2.2.2.2 qi z.1/\qi<z.2.2.2.2.length/\Chg [] H G'/\G.length<=G'.length) (0,pq,cq,hw,q)
  ⟨Nx _,f1,f3,f5,f6,f7,hS,P,ah,hC,Ng _⟩ ?_
 rintro ⟨k,pq,cq,hw,q⟩ c G' ⟨hk,g1,g3,D,g6,x,d,f,b,h,av⟩ hN
 simp only at hk D x d f b
 rw [NP Nvb.eq_1,<-N1s.eq_1,<-N1r.eq_1]
 have k1:=fun Z=>(NZ.refl.app (X:=Z)).cells d.b1
 unfold Ta at k1
 refine NI ?_
 by_cases g:k<l.length
 case neg=>
  obtain rfl:k=l.length:=by omega
  simp only [n80,g1,x,k1,SB,seval,NG,NF]
  exact hR _ _ pq cq hw q g1 g3 D g6 (d.app _) (f.turn (Ng _)) b h.app (by simp;omega)
 have w:Sl G' Sz 4 pa l:=h.ext.sl ai
 have lA:∀Z,AM.loadCells (G'++Z) (Tk pa 4 k) 4=some (Sz (gt l k)):=fun Z=>(w.app Z).loadCells QE g
 have xA:=QM w g rfl
 have w1:IntKind.i64.wrap ((k:Int)+1)=((k+1:Nat):Int):=NS (by omega)
 simp only [n80,g1,x,k1,g,lA,xA,QE,NM,show lim<=G'.length by omega,SB,seval,NG,NF,place,NB]
 have n8:G'.length∉QC ph/\G'.length∉QC pq:=⟨fun hm=>by
  obtain ⟨a,V,e⟩:=NU.1 hm
  have:=(d.oh.block V).2;omega,fun hm=>by
  obtain ⟨a,V,e⟩:=NU.1 hm
  have:=(d.oq.block V).2;omega⟩
 refine N4u (B8:=G'.length) (v1:=Vp B) (d.app _) f b g (s _ (by omega)) hn r (by simp;omega) p h.app ⟨g1,g3,D,g6,x,rfl⟩ NQ n8 fun an G3 a0 am ay q3 ac R N W T I n83 J ae=>?_
 obtain ⟨Y,hY⟩:=T
 have t:qi<q3.length:=by rw [hY,Nb];omega
 have F:gt q3 qi=gt q qi:=by rw [hY];exact Sk b
 simp only [Nb,Ow] at ae
 refine N4t (v1:=Vp B) R N t g (s _ (by omega)) hn r (by omega) p J ac I ⟨n8.1,n83⟩ fun ao G4 ak C aj A ad S O aa U ap az L au=>?_
 obtain ⟨Y',j⟩:=U
 obtain ⟨r1,r3,r5,r6,r7,r8⟩:=ad
 refine NI ?_
 simp only [n80,r7,w1,SB,seval,NG,NF]
 have ag:qi<A.length:=by rw [j,Nb];omega
 have o:gt A qi=gt q3 qi:=by rw [j];exact Sk t
 refine hN (k+1,ak,C,aj,A) _ _ ⟨by show k+1<=_;omega,r1,r3,r5,r6,rfl,S.app _,O.next fun i hi h1 h2=>?_,ag,L.app,by simp;omega⟩ (by show l.length-(k+1)<l.length-k;omega)
 rcases (by omega:i=2*k\/i=2*k+1) with rfl | rfl
 ·show hd l (2*k)∈A
  rw [j]
  exact Nz _ (W (by rw [h1,o,F]) h2)
 ·exact aa (by rw [h1,o]) h2
theorem Nk4 [OB] (hS:RS M B (Ta vx (.slice pa l.length ca) vd vq) G ph ch pq cq hw q) (r:Rch l n hw q 0 0) (w:∀i,i / 2<l.length->hd l i<n) (hn:n<2 ^ 22) (v:l.length<2 ^ 30) (u:lim<=M) (L:M<=G.length) (o:H.length<=M) (J:Chg [] H G) (x:Sl H Sz 4 pa l)
  (f1:fr 1=Vp B) (f3:fr 3=.slice ph n ch) (f5:fr 5=.slice pq q.length cq) (f6:fr 6=Vi 0)
  (O:∀fr' G' A j f D,fr' 3=.slice ph n ch->RS M B (Ta vx (.slice pa l.length ca) vd vq) G' ph ch A j f D->Rch l n f D D.length 0->Chg [] H G'->PQ E a80 lim K fr' G' Q) :
  PQ E a80 lim (.code (.loop Nva)::.inBlock 2::K) fr G Q:=by
 refine NL (fun z:Nat×Option Addr×Nat×List (Option Nat)×List Nat=>n+1-z.1) (fun z b G'=>z.1<=z.2.2.2.2.length/\b 1=Vp B/\b 3=.slice ph n ch/\b 5=.slice z.2.1 z.2.2.2.2.length z.2.2.1/\b 6=Vi z.1/\RS M B (Ta vx (.slice pa l.length ca) vd vq) G' ph ch z.2.1 z.2.2.1 z.2.2.2.1 z.2.2.2.2/\Rch l n z.2.2.2.1 z.2.2.2.2 z.1 0/\Chg [] H G'/\G.length<=G'.length) (0,pq,cq,hw,q)
  ⟨Nx _,f1,f3,f5,f6,hS,r,J,Ng _⟩ ?_
 rintro ⟨qi,pq,cq,hw,q⟩ b G' ⟨P,g1,F,g,h,c,a,d,R⟩ N
 simp only at P g h c a
 rw [NP Nva.eq_1]
 have T:=a.len_le
 refine NI ?_
 by_cases e:qi<q.length
 case neg=>
  obtain rfl:qi=q.length:=by omega
  simp only [n80,g,h,SB,seval,NG,NF]
  exact O _ _ pq cq hw q F (c.app _) a d.app
 have W:IntKind.i64.wrap ((qi:Int)+1)=((qi+1:Nat):Int):=NS (by omega)
 simp only [n80,g,h,e,SB,seval,NG,NF]
 refine Nsa (c.app _) a e w hn v u (by simp;omega) o d.app x g1 F g h rfl fun I X C k y q3 U r3 V r6 s p S m t=>?_
 simp only [Nb,Nl,Od] at t
 refine NI ?_
 simp only [n80,r6,W,SB,seval,NG,NF]
 exact N (qi+1,C,k,y,q3) _ _ ⟨by show qi+1<=q3.length;omega,U,r3,V,rfl,s.app _,p,m.app,by simp;omega⟩ (by show n+1-(qi+1)<n+1-qi;omega)
theorem Nwd [OB] {cp:Nat} {pp:Option Addr} {va:Value} (o:lim<=M) (y:M<=G.length) (u:H.length<=M) (hn:n<2 ^ 22) (t:Chg [] H G) (F:NC G B=Vc (Ta (.slice pp n cp) va vd vq)) (w:B<G.length)
  (f1:fr 1=Vp B) (f3:fr 3=Vz) (f4:fr 4=Vi 0)
  (C:∀fr' G' ph ch,fr' 1=Vp B->fr' 3=.slice ph n ch->Own M G' Xo 2 ph ch (List.replicate n none)->NC G' B=Vc (Ta (.slice pp n cp) va vd vq)->B∉QC ph->Chg [] H G'->G.length<=G'.length->PQ E a80 lim K fr' G' Q) :
  PQ E a80 lim (.code (.loop Nu9)::.inBlock 0::K) fr G Q:=by
 refine NL (fun z:Nat×Option Addr×Nat=>n-z.1) (fun z c G'=>z.1<=n/\c 1=Vp B/\c 3=.slice z.2.1 z.1 z.2.2/\c 4=Vi z.1/\Own M G' Xo 2 z.2.1 z.2.2 (List.replicate z.1 none)/\NC G' B=Vc (Ta (.slice pp n cp) va vd vq)/\B∉QC z.2.1/\Chg [] H G'/\G.length<=G'.length) (0,none,0)
  ⟨Nx _,f1,f3,f4,.nil,F,by simp [QC],t,Ng _⟩ ?_
 rintro ⟨j,ph,ch⟩ c G' ⟨I,g1,h,i,g,e,f,d,J⟩ A
 simp only at I h i g f
 rw [NP Nu9.eq_1]
 have k1:=fun Z=>(NZ.refl.app (X:=Z)).cells e
 unfold Ta at k1
 refine NI ?_
 by_cases p:j<n
 case neg=>
  obtain rfl:j=n:=by omega
  simp only [n80,g1,i,k1,SB,seval,NG,NF]
  exact C _ _ ph ch g1 h (g.app _) ((NZ.refl.app).cells e) f d.app (by simp;omega)
 have N:IntKind.i64.wrap ((j:Int)+1)=((j+1:Nat):Int):=NS (by omega)
 obtain ⟨s,e3,r,q,l⟩:=Own.moreF g (lim':=lim) (bytes:=16) o RN (by decide) [none] (by simp) (by simp;unfold OT;omega) (by simp;omega) [Vc [Vi (-1),.bool false]] (x:=.slice (Sa G'.length) 1 1) (str:=false)
  (QH (m:=[none]) (Sl.row (ro:=false) RN NQ)) rfl
 simp only [Nb,Nk,Nl,Ny,O9] at e3 r l
 simp only [n80,g1,h,i,k1,p,e3,N,SB,seval,NG,NF,place]
 refine A (j+1,Sa (G'.length+1),loose 2) _ _ ⟨by show j+1<=n;omega,g1,rfl,rfl, ?_,(NZ.refl.app).cells (q.cells e f), ?_, ?_,by simp;omega⟩ (by show n-(j+1)<n-j;omega)
 ·show Own M (s++[]) Xo 2 _ _ (List.replicate (j+1) none)
  rw [List.replicate_succ']
  exact (r.le (by omega)).app _
 ·simp only [QC,Nj]
  omega
 ·have v:=d.len
  refine Chg.app ⟨by omega,fun b k _=>?_⟩
  rw [q.other b (by omega) fun L=>by
   obtain ⟨a,D,rfl⟩:=NU.1 L
   have:=(g.block D).1;omega]
  exact d.other b k (by simp)
end
theorem Nps [OB] {lim n cp ca:Nat} {pp pa:Option Addr} {vd vq:Value} {l:List Pr} {G:NA} {Q:Value->NA->Prop} (z:Sl G Sz 4 pa l) (h2:2<=n) (hn:n<2 ^ 22) (x:l.length<2 ^ 30) (y:∀i,i / 2<l.length->hd l i<n) (a:lim<=G.length)
  (N:∀G' ph ch hw q,Rch l n hw q q.length 0->Own G.length G' Xo 2 ph ch hw->Chg [] G G'->Q (.slice ph n ch) G') :
  NR E false lim 80 [.agg (Ta (.slice pp n cp) (.slice pa l.length ca) vd vq).toArray] G Q:=by
 refine SE (by decide) e80 rfl ?_
 rw [b80,c80]
 simp only [n80,SB,seval,NG,NK,place,NB]
 refine Nwd (M:=G.length) (H:=G) (B:=G.length) (n:=n) (pp:=pp) (cp:=cp) (va:=.slice pa l.length ca) (vd:=vd) (vq:=vq) a (by simp) (Ng _) hn (Chg.refl.app) NQ (by simp) rfl rfl rfl fun fr1 G1 ph ch g1 D o f d k u=>?_
 simp only [Nb,Nk,Nl] at u
 rcases o with ⟨L,_,_⟩ | ⟨R,rfl,rfl,p,s⟩
 ·have:=Rw List.length L
  rw [O9,Nl] at this;omega
 have O:=ND p
 obtain ⟨I,e2,k2,C⟩:=UM (lim:=lim) (i:=0) (j:=0) RN p (by omega) (by rw [O9];omega) (by decide) (v:=Vi l.length) (some (2*l.length)) (by
  rw [Nfo,OI (by rw [O9];omega),List.getElem_replicate];rfl)
 have w:=C.len
 have g:∀X,AM.storeAt lim (G1++(Vc [Vi 0]::X)) ((Tk (Sa R) 2 0).add 0) [Vi l.length]=some (I++(Vc [Vi 0]::X)):=fun X=>e2 _
 have k1:=fun Z=>(NZ.refl.app (X:=Z)).cells f
 have F:∀(c:Nat) (kk:IntKind) (H1:NA),Wx 2 (.slice (Sa R) n c) (.int kk ((0:Nat):Int)) H1=some (.pointer (some (Tk (Sa R) 2 0)),H1):=by
  have:=QM (Sl.row (ro:=false) RN p:Sl G1 Xo 2 (Sa R) (List.replicate n none)) (i:=0) (by rw [O9];omega) rfl
  rw [O9] at this;exact this
 simp only [Int.natCast_zero] at F
 unfold Ta at k1
 refine NI ?_
 simp only [n80,g1,D,k1,F,g,SB,seval,NG,place,NB]
 have h:G.length≠R:=fun e=>d (NU.2 ⟨_,rfl,e.symm⟩)
 refine Nk4 (M:=G.length) (B:=G.length) (H:=G) (hw:=(List.replicate n none).set 0 (some (2*l.length))) (q:=[0]) (pq:=Sa G1.length) (cq:=1) (ph:=Sa R) (ch:=loose 2)
  ⟨(NZ.refl.app).cells (C.cells f h),(Own.new k2 s).app _,.inr ⟨_,rfl,rfl,by decide,by rw [<-w];exact NQ,by omega⟩,⟨d,by simp only [QC,Nj];omega⟩,fun b P S=>by simp only [QC,Nj] at P S;omega⟩
  (Rch.start (by omega)) y hn x a (by simp;omega) (Ng _) ((k.mut C (.inr (by omega))).app) z g1 D rfl rfl fun K U T J A q3 r3 t r m=>?_
 refine NI ?_
 simp only [n80,r80,r3,SB,seval,NG,NH]
 exact N _ (Sa R) (loose 2) A q3 r (t.oh.app _) m.app
structure BF5 (fr:Nat->Value) (v1 v4 v5:Value):Prop where
 f1:fr 1=v1
 f4:fr 4=v4
 f5:fr 5=v5
theorem Nbx {l:List Pr} {i:Nat} (h:i % 2=0):tl l i=(gt l (i / 2)).tail/\rm l i=(gt l (i / 2)).room:=by unfold tl rm;rw [Nh h,Nh h];exact ⟨rfl,rfl⟩
theorem Nf8 {l:List Pr} {i:Nat} (h:i % 2=1):tl l i=(gt l (i / 2)).head/\rm l i=(gt l (i / 2)).flow:=by unfold tl rm;rw [Nf (by omega),Nf (by omega)];exact ⟨rfl,rfl⟩
section
variable {lim n ch ca B:Nat} {ph pa:Option Addr} {hw:List (Option Nat)} {q:List Nat} {l:List Pr} {v4 vx vd vq:Value} {G:NA} {fr:Nat->Value} {K:List AItem} {Q:Value->NA->Prop}
theorem Nl4 [OB] (C:Rch l n hw q q.length 0) (V:1∈q) (hn:n<2 ^ 22) (I:∀i,i / 2<l.length->rm l i<=VW) (hb:NC G B=Vc (Ta vx (.slice pa l.length ca) vd vq)) (sl:Sl G Sz 4 pa l) (sh:Sl G Xo 2 ph hw) (aa:lim<=G.length)
  (hf:BF5 fr (Vp B) v4 (.slice ph n ch)) (f6:fr 6=Vi VW) (f7:fr 7=Vi 1)
  (hR:∀fr' G' d m,BF5 fr' (Vp B) v4 (.slice ph n ch)->fr' 6=Vi d->1<=d->d<=VW->M4 l hw m=0->(∀a,a<m->M4 l hw a≠0/\d<=rm l (arN hw (M4 l hw a)))->NZ G G'->PQ E a50 lim K fr' G' Q) :
  PQ E a50 lim (.code (.loop Nvk)::.inBlock 2::K) fr G Q:=by
 refine NL (fun z:Nat×Int=>q.idxOf (M4 l hw z.1)) (fun z p G'=>BF5 p (Vp B) v4 (.slice ph n ch)/\p 6=Vi z.2/\p 7=Vi ((M4 l hw z.1:Nat):Int)/\1<=z.2/\z.2<=VW/\M4 l hw z.1∈q/\(∀a,a<z.1->M4 l hw a≠0/\z.2<=rm l (arN hw (M4 l hw a)))/\NZ G G') (0,VW)
  ⟨hf,f6,f7,by decide,Oc _,V,fun a ha=>by omega,.refl⟩ ?_
 rintro ⟨m,d⟩ p G' ⟨⟨g1,H,r⟩,y,A,s,t,w,k,g⟩ R
 simp only at y A s t w k
 rw [NP Nvk.eq_1]
 obtain ⟨v,L⟩:∃v,v=M4 l hw m:=⟨_,rfl⟩
 rw [<-L] at A w
 refine NI ?_
 by_cases Y:v=0
 ·have e:((v:Nat):Int)=0:=by omega
  simp only [n50,A,Nq e,SB,seval,NG,NF]
  exact hR _ _ d m ⟨g1,H,r⟩ y s t (by rw [<-L];exact Y) k g.app
 have e:¬((v:Nat):Int)=0:=by omega
 obtain ⟨u1,T,u3,u4,N,u6⟩:=C.up w Y
 obtain ⟨i,hi⟩:∃i,i=arN hw v:=⟨_,rfl⟩
 rw [<-hi] at u1 T u3 u4
 have ad:=C.lt v w
 have W:=C.len
 have D:v<hw.length:=by omega
 have hp:M4 l hw (m+1)=tl l i:=by show M7 l hw (M4 l hw m)=_;rw [<-L,hi];rfl
 have J:M7 l hw v=tl l i:=by rw [hi];rfl
 rw [J] at N u6
 have k1:=fun Z=>(g.app (X:=Z)).cells hb
 have x:∀Z,AM.loadCell (G'++Z) ((Tk ph 2 v).add 0)=some (Vi ((i / 2:Nat):Int)):=fun Z=>by
  have:=((g.sl sh).app Z).loadCell RN D (j:=0) (by decide)
  rw [u1] at this;exact this
 have f:∀Z,AM.loadCell (G'++Z) ((Tk ph 2 v).add 1)=some (.bool (decide (i % 2=1))):=fun Z=>by
  have:=((g.sl sh).app Z).loadCell RN D (j:=1) (by decide)
  rw [u1] at this;exact this
 have O:=QM (g.sl sh) D rfl
 rw [W] at O
 have S:∀Z,AM.loadCells (G'++Z) (Tk pa 4 (i / 2)) 4=some (Sz (gt l (i / 2))):=fun Z=>((g.sl sl).app Z).loadCells QE T
 have U:=QM (g.sl sl) T rfl
 have ac:=g.len
 have hc:=I i T
 unfold Ta at k1
 have b:∀P,P<=d->P<=rm l i->∀a,a<m+1->M4 l hw a≠0/\P<=rm l (arN hw (M4 l hw a)):=fun P h1 h2 a ha=>by
  rcases (by omega:a<m\/a=m) with h | h
  ·have:=k a h;exact ⟨this.1,by omega⟩
  ·rw [h,<-L,<-hi];exact ⟨Y,h2⟩
 have u:q.idxOf (M4 l hw (m+1))<q.idxOf (M4 l hw m):=by rw [hp,<-L];exact u6
 by_cases o:i % 2=1
 ·rw [No o] at f
  obtain ⟨M,F⟩:=Nf8 (l:=l) o
  by_cases c1:rm l i<d
  ·have c:(gt l (i / 2)).flow<d:=by rw [<-F];exact c1
   simp only [n50,g1,r,y,A,Nm e,k1,x,f,O,S,U,Sz,show lim<=G'.length by omega,Nq c,SB,seval,NG,NF,place,NB]
   exact R (m+1,rm l i) _ _ ⟨⟨g1,H,r⟩,by rw [F];exact rfl,by rw [hp,M];exact rfl,by show 1<=rm l i;omega,hc,by rw [hp];exact N,b _ (by omega) (Oc _),g.app⟩ u
  ·have c:¬(gt l (i / 2)).flow<d:=by rw [<-F];exact c1
   simp only [n50,g1,r,y,A,Nm e,k1,x,f,O,S,U,Sz,show lim<=G'.length by omega,Nm c,SB,seval,NG,NF,place,NB]
   exact R (m+1,d) _ _ ⟨⟨g1,H,r⟩,y,by rw [hp,M];exact rfl,s,t,by rw [hp];exact N,b _ (Oc _) (by omega),g.app⟩ u
 ·rw [Nw o] at f
  obtain ⟨M,F⟩:=Nbx (l:=l) (i:=i) (by omega)
  by_cases c1:rm l i<d
  ·have c:(gt l (i / 2)).room<d:=by rw [<-F];exact c1
   simp only [n50,g1,r,y,A,Nm e,k1,x,f,O,S,U,Sz,show lim<=G'.length by omega,Nq c,SB,seval,NG,NF,place,NB]
   exact R (m+1,rm l i) _ _ ⟨⟨g1,H,r⟩,by rw [F];exact rfl,by rw [hp,M];exact rfl,by show 1<=rm l i;omega,hc,by rw [hp];exact N,b _ (by omega) (Oc _),g.app⟩ u
  ·have c:¬(gt l (i / 2)).room<d:=by rw [<-F];exact c1
   simp only [n50,g1,r,y,A,Nm e,k1,x,f,O,S,U,Sz,show lim<=G'.length by omega,Nm c,SB,seval,NG,NF,place,NB]
   exact R (m+1,d) _ _ ⟨⟨g1,H,r⟩,y,by rw [hp,M];exact rfl,s,t,by rw [hp];exact N,b _ (Oc _) (by omega),g.app⟩ u
theorem Nxs [OB] {M m0:Nat} {d:Int} (F:Rch l n hw q q.length 0) (ak:1∈q) (hn:n<2 ^ 22) (aq:∀p∈l,0<=p.room/\0<=p.flow) (ag:∀i,i / 2<l.length->rm l i+rm l (tw i)<=VW) (hb:NC G B=Vc (Ta vx (.slice pa l.length ca) vd vq)) (oa:Own M G Sz 4 pa ca l) (sh:Sl G Xo 2 ph hw) (au:∀a,ph=some a->a.block∉QC pa) (r:B∉QC pa) (bb:lim<=M)
  (a5:1<=d) (ba:d<=VW) (ao:M4 l hw m0=0) (ae:∀a,a<m0->M4 l hw a≠0/\d<=rm l (arN hw (M4 l hw a)))
  (hf:BF5 fr (Vp B) v4 (.slice ph n ch)) (f6:fr 6=Vi d) (f9:fr 9=Vi 1)
  (hR:∀fr' G' l',BF5 fr' (Vp B) v4 (.slice ph n ch)->fr' 6=Vi d->Aug l l' hw q d 0->Own M G' Sz 4 pa ca l'->Chg (QC pa) G G'->PQ E a50 lim K fr' G' Q) :
  PQ E a50 lim (.code (.loop Nvl)::.inBlock 4::K) fr G Q:=by
 refine NL (fun z:Nat×List Pr=>q.idxOf (M4 l hw z.1)) (fun z A G'=>z.1<=m0/\BF5 A (Vp B) v4 (.slice ph n ch)/\A 6=Vi d/\A 9=Vi ((M4 l hw z.1:Nat):Int)/\Aug l z.2 hw q d (M4 l hw z.1)/\Own M G' Sz 4 pa ca z.2/\Chg (QC pa) G G') (0,l)
  ⟨Nx _,hf,f6,f9,Aug.start aq ak,oa,.refl⟩ ?_
 rintro ⟨m,l'⟩ A G' ⟨hm,⟨g1,g4,g5⟩,g6,g9,k,hO,D⟩ hN
 simp only at hm g9 k hO
 rw [NP Nvl.eq_1]
 obtain ⟨v,hv⟩:∃v,v=M4 l hw m:=⟨_,rfl⟩
 rw [<-hv] at g9 k
 refine NI ?_
 by_cases hz:v=0
 ·have I:((v:Nat):Int)=0:=by omega
  simp only [n50,g9,Nq I,SB,seval,NG,NF]
  rw [hz] at k
  exact hR _ _ l' ⟨g1,g4,g5⟩ g6 k (hO.app _) D.app
 have I:¬((v:Nat):Int)=0:=by omega
 have ap:m<m0:=by
  apply Ns
  intro hc
  obtain rfl:m=m0:=by omega
  exact hz (by rw [hv];exact ao)
 obtain ⟨u1,u2,u3,u4,u5,u6⟩:=F.up k.mem hz
 have P:=(ae m ap).2
 rw [<-hv] at P
 have C:=k.step F hz (by omega) P
 have T:=k.keep v k.mem (Ng _) hz
 have H:M4 l hw (m+1)=M7 l hw v:=by show M7 l hw (M4 l hw m)=_;rw [<-hv]
 obtain ⟨i,hi⟩:∃i,i=arN hw v:=⟨_,rfl⟩
 have N:M7 l hw v=tl l i:=by rw [hi];rfl
 rw [<-hi] at u1 u2 u3 u4 C T P
 have bc:=F.lt v k.mem
 have an:=F.len
 have U:v<hw.length:=by omega
 have am:=k.same.len
 have b:i / 2<l'.length:=by omega
 have n1:=k.nn i u2
 have n2:=k.nn (tw i) (by rw [VX];exact u2)
 have a4:=k.same.cap i u2
 have hc:=ag i u2
 have ai:=k.same.tl i
 have k1:=fun Z=>(NZ.refl.app (X:=Z)).cells (D.cells hb r)
 have aa:=D.sl sh fun a ha _=>au a ha
 have aj:∀Z,AM.loadCell (G'++Z) ((Tk ph 2 v).add 0)=some (Vi ((i / 2:Nat):Int)):=fun Z=>by
  have:=(aa.app Z).loadCell RN U (j:=0) (by decide)
  rw [u1] at this;exact this
 have J:∀Z,AM.loadCell (G'++Z) ((Tk ph 2 v).add 1)=some (.bool (decide (i % 2=1))):=fun Z=>by
  have:=(aa.app Z).loadCell RN U (j:=1) (by decide)
  rw [u1] at this;exact this
 have xH:=QM aa U rfl
 rw [an] at xH
 rcases hO with ⟨h0,_,_⟩ | ⟨R,rfl,rfl,hS,ad⟩
 ·rw [h0] at b;simp at b
 have s:B≠R:=fun e=>r (NU.2 ⟨_,rfl,e.symm⟩)
 obtain ⟨p,hp⟩:∃p,p=gt l' (i / 2):=⟨_,rfl⟩
 have sA:Sl G' Sz 4 (Sa R) l':=Sl.row (ro:=false) QE hS
 have xA:∀(c:Nat) (kk:IntKind) (H1:NA),Wx 4 (.slice (Sa R) l.length c) (.int kk ((i / 2:Nat):Int)) H1=some (.pointer (some (Tk (Sa R) 4 (i / 2))),H1):=by
  have:=QM sA b rfl
  rw [am] at this;exact this
 have a0:∀Z,AM.loadCell (G'++Z) ((Tk (Sa R) 4 (i / 2)).add 2)=some (Vi p.room):=fun Z=>by
  rw [hp];exact (sA.app Z).loadCell QE b (j:=2) (by decide)
 have a1:∀Z,AM.loadCell (G'++Z) ((Tk (Sa R) 4 (i / 2)).add 3)=some (Vi p.flow):=fun Z=>by
  rw [hp];exact (sA.app Z).loadCell QE b (j:=3) (by decide)
 have a2:VW=1152921504606846976:=rfl
 have ah:q.idxOf (M4 l hw (m+1))<q.idxOf (M4 l hw m):=by rw [H,<-hv];exact u6
 rw [<-H] at C
 unfold Ta at k1
 by_cases o:i % 2=1
 ·rw [No o] at J
  obtain ⟨t1,t2⟩:=Nf8 (l:=l') o
  have ac:tw i=2*(i / 2):=by unfold tw;rw [Nf (by omega)];omega
  have t3:rm l' (tw i)=p.room:=by rw [ac,Xd,<-hp]
  rw [<-hp] at t1 t2
  have wa:IntKind.i64.wrap (p.flow-d)=p.flow-d:=NY (by omega) (by omega)
  have wb:IntKind.i64.wrap (p.room+d)=p.room+d:=NY (by omega) (by omega)
  obtain ⟨g,h⟩:∃g:Pr,g={ p with flow:=p.flow-d }:=⟨_,rfl⟩
  obtain ⟨L,w⟩:∃L:Pr,L={ g with room:=p.room+d }:=⟨_,rfl⟩
  obtain ⟨G2,e2,k2,V⟩:=UM (lim:=lim) (i:=i / 2) (j:=3) QE hS (by omega) b (by decide) (v:=Vi (p.flow-d)) g (by rw [h,<-hp];rfl)
  obtain ⟨G3,e3,k3,m3⟩:=UM (lim:=lim) (i:=i / 2) (j:=2) QE k2 (by omega) (by rw [Ph];exact b) (by decide) (v:=Vi (p.room+d)) L (by rw [Flow.gt_set b,Nh rfl,w];rfl)
  rw [List.set_set] at k3
  have ep:l'.set (i / 2) L=QZ l' i d:=by
   unfold QZ push
   rw [<-hp,Nf (by omega),w,h]
   congr 1
   simp only [Pr.mk.injEq,Rt]
   omega
  rw [ep] at k3
  have O:=(D.mut V (.inl (NU.2 ⟨_,rfl,rfl⟩))).mut m3 (.inl (NU.2 ⟨_,rfl,rfl⟩))
  have W:Sl G2 Sz 4 (Sa R) (l'.set (i / 2) g):=Sl.row (ro:=false) QE k2
  have Y:Sl G3 Sz 4 (Sa R) (QZ l' i d):=Sl.row (ro:=false) QE k3
  have t:i / 2<(l'.set (i / 2) g).length:=by rw [Ph];exact b
  have u:i / 2<(QZ l' i d).length:=by rw [M3];exact b
  have S:gt (l'.set (i / 2) g) (i / 2)=g:=by rw [Flow.gt_set b,Nh rfl]
  have x:=fun Z=>(NZ.refl.app (X:=Z)).cells (V.cells (D.cells hb r) s)
  have y:=fun Z=>(NZ.refl.app (X:=Z)).cells (m3.cells (V.cells (D.cells hb r) s) s)
  unfold Ta at x y
  have av:∀Z,AM.loadCell (G2++Z) ((Tk (Sa R) 4 (i / 2)).add 2)=some (Vi p.room):=fun Z=>by
   have:=(W.app Z).loadCell QE t (j:=2) (by decide)
   rw [S,h] at this;exact this
  have az:∀Z,AM.loadCell (G3++Z) ((Tk (Sa R) 4 (i / 2)).add 1)=some (Vi (tl l i:Nat)):=fun Z=>by
   have:=(Y.app Z).loadCell QE u (j:=1) (by decide)
   have ht:=Nf8 (l:=QZ l' i d) o
   rw [N2r,<-ht.1,Nf7 b,ai] at this;exact this
  simp only [n50,g1,g5,g6,g9,Nm I,k1,aj,J,xH,xA,a1,wa,e2,x,av,wb,e3,y,az,SB,seval,NG,NF,NB]
  exact hN (m+1,QZ l' i d) _ _ ⟨by show m+1<=m0;omega,⟨g1,g4,g5⟩,g6,by rw [H,N];exact rfl,C,(Own.new k3 ad).app _,O.app⟩ ah
 ·rw [Nw o] at J
  have f:i % 2=0:=by omega
  obtain ⟨t1,t2⟩:=Nbx (l:=l') f
  have ac:tw i=2*(i / 2)+1:=by unfold tw;rw [Nh f];omega
  have t3:rm l' (tw i)=p.flow:=by rw [ac,YZ,<-hp]
  rw [<-hp] at t1 t2
  have wa:IntKind.i64.wrap (p.room-d)=p.room-d:=NY (by omega) (by omega)
  have wb:IntKind.i64.wrap (p.flow+d)=p.flow+d:=NY (by omega) (by omega)
  obtain ⟨g,h⟩:∃g:Pr,g={ p with room:=p.room-d }:=⟨_,rfl⟩
  obtain ⟨L,w⟩:∃L:Pr,L={ g with flow:=p.flow+d }:=⟨_,rfl⟩
  obtain ⟨G2,e2,k2,V⟩:=UM (lim:=lim) (i:=i / 2) (j:=2) QE hS (by omega) b (by decide) (v:=Vi (p.room-d)) g (by rw [h,<-hp];rfl)
  obtain ⟨G3,e3,k3,m3⟩:=UM (lim:=lim) (i:=i / 2) (j:=3) QE k2 (by omega) (by rw [Ph];exact b) (by decide) (v:=Vi (p.flow+d)) L (by rw [Flow.gt_set b,Nh rfl,w];rfl)
  rw [List.set_set] at k3
  have ep:l'.set (i / 2) L=QZ l' i d:=by
   unfold QZ push
   rw [<-hp,Nh f,w,h]
  rw [ep] at k3
  have O:=(D.mut V (.inl (NU.2 ⟨_,rfl,rfl⟩))).mut m3 (.inl (NU.2 ⟨_,rfl,rfl⟩))
  have W:Sl G2 Sz 4 (Sa R) (l'.set (i / 2) g):=Sl.row (ro:=false) QE k2
  have Y:Sl G3 Sz 4 (Sa R) (QZ l' i d):=Sl.row (ro:=false) QE k3
  have t:i / 2<(l'.set (i / 2) g).length:=by rw [Ph];exact b
  have u:i / 2<(QZ l' i d).length:=by rw [M3];exact b
  have S:gt (l'.set (i / 2) g) (i / 2)=g:=by rw [Flow.gt_set b,Nh rfl]
  have x:=fun Z=>(NZ.refl.app (X:=Z)).cells (V.cells (D.cells hb r) s)
  have y:=fun Z=>(NZ.refl.app (X:=Z)).cells (m3.cells (V.cells (D.cells hb r) s) s)
  unfold Ta at x y
  have aw:∀Z,AM.loadCell (G2++Z) ((Tk (Sa R) 4 (i / 2)).add 3)=some (Vi p.flow):=fun Z=>by
   have:=(W.app Z).loadCell QE t (j:=3) (by decide)
   rw [S,h] at this;exact this
  have ay:∀Z,AM.loadCell (G3++Z) ((Tk (Sa R) 4 (i / 2)).add 0)=some (Vi (tl l i:Nat)):=fun Z=>by
   have:=(Y.app Z).loadCell QE u (j:=0) (by decide)
   have ht:=Nbx (l:=QZ l' i d) f
   rw [N2s,<-ht.1,Nf7 b,ai] at this;exact this
  simp only [n50,g1,g5,g6,g9,Nm I,k1,aj,J,xH,xA,a0,wa,e2,x,aw,wb,e3,y,ay,SB,seval,NG,NF,NB]
  exact hN (m+1,QZ l' i d) _ _ ⟨by show m+1<=m0;omega,⟨g1,g4,g5⟩,g6,by rw [H,N];exact rfl,C,(Own.new k3 ad).app _,O.app⟩ ah
end
theorem Ntg [OB] {lim M n cp ca:Nat} {pp pa:Option Addr} {vq:Value} {l0:List Pr} {d0 Bd:Int} {G:NA} {Q:Value->NA->Prop} (oa:Own M G Sz 4 pa ca l0) (ae:lim<=M) (an:M<=G.length) (hF:IsFlow n l0) (hn:n<2 ^ 22) (av:l0.length<2 ^ 30) (K:∀i,i / 2<l0.length->rm l0 i+rm l0 (tw i)<=VW) (hB:∀l',Flow.Alike l0 l'->IsFlow n l'->exc 1 l'<=Bd) (am:Bd<=2 ^ 40) (h0:exc 1 l0=0) (ap:0<=d0/\d0<=2 ^ 40)
  (hQ:∀G' ph ch hw q l',Flow.Alike l0 l'->IsFlow n l'->Rch l' n hw q q.length 0->1∉q->Own G.length G' Xo 2 ph ch hw->Own M G' Sz 4 pa ca l'->Chg (QC pa) G G'->Q (.tuple #[Vi (exc 1 l'+d0),.slice ph n ch]) G') :
  NR E false lim 50 [.agg (Ta (.slice pp n cp) (.slice pa l0.length ca) (Vi d0) vq).toArray] G Q:=by
 refine SE (by decide) e50 rfl ?_
 rw [b50,c50]
 have h2:=hF.two
 have t:∀b∈QC pa,b<G.length:=fun b U=>by
  obtain ⟨a,T,rfl⟩:=NU.1 U
  exact (oa.block T).2
 unfold Ta
 simp only [n50,SB,seval,NG,NK,place,NB]
 refine NL (fun l:List Pr=>(Bd-exc 1 l).toNat) (fun l fr G'=>fr 1=Vp G.length/\fr 4=Vi (exc 1 l+d0)/\Flow.Alike l0 l/\IsFlow n l/\Own M G' Sz 4 pa ca l/\NC G' G.length=Vc (Ta (.slice pp n cp) (.slice pa l0.length ca) (Vi d0) vq)/\Chg (QC pa) G G'/\exc 1 l0<=exc 1 l) l0
  ⟨rfl,by rw [h0,Qu];exact rfl,.refl,hF,oa.app _,NQ,Chg.refl.app,Oc _⟩ ?_
 intro l fr G' ⟨g1,g4,y,f,hO,U,hC,aq⟩ hN
 rw [NP N02.eq_1]
 have hl:l.length=l0.length:=y.len
 have k1:=fun Z=>(NZ.refl.app (X:=Z)).cells U
 have ad:=hC.len
 have ag:∀i,i / 2<l.length->hd l i<n:=fun i hi=>by
  have:=f.lt _ (PW hi)
  unfold hd;split
  ·exact this.1
  ·exact this.2
 have g:∀i,i / 2<l.length->rm l i+rm l (tw i)<=VW:=fun i hi=>by
  rw [y.cap i (by omega)];exact K i (by omega)
 have ao:=hB l y f
 have sl:=hO.sl QE
 refine NI ?_
 unfold Ta at k1
 simp only [n50,g1,k1,SB,seval,NE,NG]
 rw [<-hl]
 refine Nps (l:=l) (pp:=pp) (cp:=cp) (vd:=Vi d0) (vq:=vq) (sl.app _) h2 hn (by omega) ag (by simp;omega) fun G1 ph ch hw q w p o=>?_
 have ac:=o.len
 simp only [Nb,Nl,Od] at ac p
 have ah:=w.len
 have N:=p.sl RN
 have L:∀Z,AM.loadCell (G1++Z) ((Tk ph 2 1).add 0)=some (Vi (XF (gt hw 1))):=fun Z=>(N.app Z).loadCell RN (i:=1) (by omega) (j:=0) (by decide)
 have xH:∀(c:Nat) (kk:IntKind) (H1:NA),Wx 2 (.slice ph n c) (.int kk 1) H1=some (.pointer (some (Tk ph 2 1)),H1):=fun c kk H1=>by
  have:=QM N (i:=1) (by omega) rfl c kk H1
  rw [ah] at this;exact this
 have u:Own M G1 Sz 4 pa ca l:=(hO.app []).chg o fun _ _ h=>by cases h
 have v:=o.cells (k1 []) (by simp)
 have F:Chg (QC pa) G G1:=hC.trans' (Chg.pre o) fun j hj=>by cases hj
 refine NI ?_
 cases hh:gt hw 1 with
 | none=>
   have k:1∉q:=fun h=>by have:=(w.iff 1 (by omega)).2 h;rw [hh] at this;cases this
   have c3:XF none<0:=by show (-1:Int)<0;decide
   rw [hh] at L
   simp only [n50,r50,g4,xH,L,Nq c3,SB,seval,NG,NF,NH]
   exact hQ _ ph ch hw q l y f w k ((p.le ad).app _) (u.app _) F.app
 | some x=>
   have k:1∈q:=(w.iff 1 (by omega)).1 (by rw [hh];rfl)
   have c3:¬XF (some x)<0:=by show ¬((x / 2:Nat):Int)<0;omega
   rw [hh] at L
   simp only [n50,xH,L,Nm c3,SB,seval,NG,NF]
   refine Nl4 (l:=l) (vx:=.slice pp n cp) (vd:=Vi d0) (vq:=vq) (B:=G.length) (v4:=Vi (exc 1 l+d0)) w k hn (fun i hi=>by have:=g i hi;have:=Flow.rm_nn f.nn (i:=tw i) (by rw [VX];exact hi);omega) ((NZ.refl.app).cells (by rw [hl];exact v)) ((u.sl QE).app _) (N.app _) (by simp;omega) ⟨g1,g4,rfl⟩ rfl rfl fun aj O d m Y r6 V W hm J P=>?_
   obtain ⟨r1,r4,r5⟩:=Y
   have e:NZ G1 O:=NZ.trans (NZ.refl.app) P
   have au:=e.len
   refine NI ?_
   simp only [n50,SB,seval,NG]
   have R:Own M O Sz 4 pa ca l:=u.chg (A:=[]) e.chg fun _ _ h=>by cases h
   have nB:G.length∉QC pa:=fun h=>by have:=t _ h;omega
   refine Nxs (l:=l) (vx:=.slice pp n cp) (vd:=Vi d0) (vq:=vq) (B:=G.length) (v4:=Vi (exc 1 l+d0)) (m0:=m) (d:=d) w k hn f.nn g ((NZ.refl.app).cells (e.cells (by rw [hl];exact v))) (R.app _) ((e.sl N).app _) (fun a T hm=>by have:=t _ hm;have:=(p.block T).1;omega) nB ae V W hm J ⟨r1,r4,r5⟩ r6 rfl fun ak G3 l' aa s6 r S D=>?_
   obtain ⟨s1,s4,s5⟩:=aa
   obtain ⟨I,s⟩:=r.fin f
   have z:=y.trans r.same
   have ai:=hB l' z I
   have wd:IntKind.i64.wrap (exc 1 l+d0+d)=exc 1 l+d0+d:=NY (by omega) (by omega)
   have H:Chg (QC pa) G O:=F.trans' (A:=QC pa) (B:=[]) e.chg fun j hj=>by cases hj
   have C:Chg (QC pa) G G3:=(H.app (X:=[])).trans D
   refine NI ?_
   simp only [n50,s4,s6,wd,SB,seval,NG,NF]
   exact hN l' _ _ ⟨s1,by rw [s,show exc 1 l+d+d0=exc 1 l+d0+d by omega];exact rfl,z,I,S.app _,(NZ.refl.app).cells (D.cells ((NZ.refl.app).cells (e.cells v)) nB),C.app,by omega⟩ (by rw [s];omega)
theorem N3k {l:List Pr} {i:Nat}:rm l i+rm l (tw i)=(gt l (i / 2)).room+(gt l (i / 2)).flow:=by
 unfold rm
 rw [VX]
 by_cases h:i % 2=0
 ·rw [Nh h,Nf (by rw [XI];exact fun h2=>h2 h)]
 ·rw [Nf h,Nh ((XI i).mpr h)];omega
section
variable {P:List Int} {L:List Leg} {PL:List (Int×Int)} {to dl:Int} {s:List Flow.Src} {C:List (Leg×Int)} {l:List Pr} {hw:List (Option Nat)} {q:List Nat}
theorem Nni (b:AllOk P L s to dl):0<=Me s/\Me s<=60000000000:=by
 have h1:=Nho (s:=s) fun x a=>(b.src x a).2.2.2.2
 have hn:=b.ns
 have h2:=Ml (T:=noT) (dl:=dl) (s:=s) fun x a=>(b.src x a).2.2.2.1
 have c:=Neo (T:=noT) (dl:=dl) (s:=s) fun x a=>(b.src x a).2.2.2.1
 omega
theorem Nok (b:AllOk P L s to dl) (a:C.Perm (NN L to dl)):(∀x∈s,0<=x.gr/\x.gr<=1000000000)/\∀c∈C,0<=c.1.grams/\c.1.grams<=1000000000:=
 ⟨fun x d=>(b.src x d).2.2.2,fun c hc=>by
  have:=b.net.fine _ (QR (a.mem_iff.1 hc)).1
  unfold Fine at this;omega⟩
theorem Noj (a:GrR PL to dl s C) (f:∀x∈s,0<=x.gr/\x.gr<=1000000000) (e:∀c∈C,0<=c.1.grams/\c.1.grams<=1000000000) {p:Pr} (hp:p∈grR PL to dl s C):p.room<=VW/\p.flow=0:=by
 refine ⟨?_,(XY a (fun x d=>(f x d).1) (fun c hc=>(e c hc).1) hp).2.2.2⟩
 have g:(1000000000:Int)<=VW:=by decide
 unfold grR at hp
 rcases Nv.1 hp with hp | hp
 ·rcases Nv.1 hp with hp | hp
  ·obtain ⟨c,hc,rfl⟩:=List.mem_map.1 hp
   have:=(e c hc).2
   show c.1.grams<=_
   omega
  ·obtain ⟨x,d,_,rfl⟩:=Nb2 hp
   have:=(f x d).2
   show x.gr<=_
   omega
 ·obtain ⟨i,b,_,_,_,rfl⟩:=VM.1 hp
  exact Oc _
theorem Nya (g:AllOk P L s to dl) (a:C.Perm (NN L to dl)) (e:GrR PL to dl s C) (d:Flow.Alike (grR PL to dl s C) l) (i:IsFlow PL.length l) (b:Rch l PL.length hw q q.length 0) (h1:1∉q) :
  exc 1 l+U4 to dl s=We s (NN L to dl) to dl/\tmT PL (fun v=>decide (v∈q))=VL s (NN L to dl) to dl/\∀v,2<=v->v<PL.length->decide (v∈q)=!late (VL s (NN L to dl) to dl) (gt PL v).1 (gt PL v).2:=by
 obtain ⟨o,m⟩:=Nok g a
 have j:=Nni g
 have r:(60000000000:Int)<VW:=by decide
 obtain ⟨h,n⟩:=Nth e d i (fun x p=>(o x p).1) (fun c hc=>(m c hc).1) (by omega) (R:=fun v=>decide (v∈q)) (No (by rw [<-b.z];exact PW b.ne)) (Nw h1) (b.closed (Ng _) i.nn) fun S k hc v _ f=>b.reach k hc (Ru f)
 obtain ⟨e1,e2⟩:=SF (h.perm a)
 exact ⟨e1,e2,fun v h2 f=>by rw [<-e2];exact n v h2 f⟩
end
theorem Nnm [OB] {lim M:Nat} {P:List Int} {L:List Leg} {s:List Flow.Src} {to dl:Int} {C:List (Leg×Int)} {PL:List (Int×Int)} {cp ca:Nat} {pp pa:Option Addr} {vq:Value} {G:NA} {Q:Value->NA->Prop} (f:AllOk P L s to dl) (B:L.length<=8) (d:C.Perm (NN L to dl)) (a:GrR PL to dl s C) (D:PL.length<2 ^ 21) (oa:Own M G Sz 4 pa ca (grR PL to dl s C)) (t:lim<=M) (m:M<=G.length)
  (F:∀G' ph ch hw q l',Flow.Alike (grR PL to dl s C) l'->Rch l' PL.length hw q q.length 0->tmT PL (fun v=>decide (v∈q))=VL s (NN L to dl) to dl->1∉q->(∀v,2<=v->v<PL.length->decide (v∈q)=!late (VL s (NN L to dl) to dl) (gt PL v).1 (gt PL v).2)->Own G.length G' Xo 2 ph ch hw->Own M G' Sz 4 pa ca l'->Chg (QC pa) G G'->Q (.tuple #[Vi (We s (NN L to dl) to dl),.slice ph PL.length ch]) G') :
  NR E false lim 50 [.agg (Ta (.slice pp PL.length cp) (.slice pa (grR PL to dl s C).length ca) (Vi (U4 to dl s)) vq).toArray] G Q:=by
 obtain ⟨j,k⟩:=Nok f d
 have y:=Nni f
 have h:=Nhd (to:=to) (dl:=dl) j
 have H:=f.ns
 have A:=Nwl a (fun x u=>(j x u).1) fun c hc=>(k c hc).1
 have z:C.length<=14*L.length:=by rw [d.length_eq];exact S9 f.net.fine
 have J:∀p∈grR PL to dl s C,p.flow=0:=fun p hp=>(Noj a j k hp).2
 refine Ntg (Bd:=Me s) oa t m A (by omega) ?_ (fun i hi=>?_) (fun l' b e=>?_) (by omega) (Yd J) ⟨h.1,by omega⟩ fun G' ph ch hw q l' b e w h1 r o l=>?_
 ·have g:∀n,(Sr PL n).length<=n:=fun n=>by
   induction n with
   | zero=>simp [Sr]
   | succ n ih=>
     rw [Sr,Nb]
     by_cases hn:2<=n
     ·rw [Nh hn];unfold Nhh;split<;>simp<;>omega
     ·rw [Nf hn];simp;omega
  have I:=Z7 (PL:=PL) (to:=to) (dl:=dl) (s:=s)
  have:=g PL.length
  unfold grR
  rw [Nb,Nb,On]
  omega
 ·rw [N3k]
  have:=Noj a j k (PW hi)
  omega
 ·have h1:=e.le_cut (S:=XD PL noT) rfl rfl
  have h2:=Nol (T:=noT) rfl a
  rw [b.cut] at h1
  have K:=Ml (T:=noT) (dl:=dl) fun x u=>(j x u).1
  unfold wt at h2
  rw [Nbs] at h2
  omega
 ·obtain ⟨e1,e2,e3⟩:=Nya f d a b e w h1
  rw [e1]
  exact F G' ph ch hw q l' b w e2 h1 e3 r o l
theorem Ntf [OB] {mp:Bool} {lim:Nat} {pn pl ps:Option Addr} {P:List Int} {L:List Leg} {s:List Flow.Src} {cn cl cs:Nat} {to dl:Int} {H:NA} {Q:Value->NA->Prop} (hn:NetIn H pn pl P L) (j:Sl H encS 3 ps s) (c:s.length<2 ^ 63) (f:PY P L=0->L.length<=8) :
  NR E mp lim 27 [.agg (netV pn P.length cn pl L.length cl).toArray,.slice ps s.length cs,Vi to,Vi dl] H Q=Q (.tuple #[Vi (Nag P L s to dl),Vi (OD P L s to dl)]) H:=by
 refine pc (by decide) e27 rfl rfl ?_
 rw [b27,c27]
 have k:H.length<=H.length:=Ng _
 by_cases a:OD P L s to dl=0
 case neg=>
  have:Nag P L s to dl=0:=Nf a
  simp only [n27,r27,OC,Va (hn.app _) (j.app _) c,Nm a,this,SB,seval,NE,NG,NF,NK,place,NB,NH]
 have t:Nag P L s to dl=We s (NN L to dl) to dl:=Nh a
 rw [t,a]
 simp only [n27,OC,Va (hn.app _) (j.app _) c,a,SB,seval,NE,NG,NF,NK,place,NB]
 have l:=Sy a
 have b:=f (RU a)
 refine Ne9 (hn.app _) (j.app _) a b (by simp) fun G pp cp pa ca pq cq C PL d u e h g n=>?_
 have i:=n.len
 refine NI ?_
 simp only [n27,SB,seval,NE]
 refine Nnm (pp:=pp) (cp:=cp) (ca:=ca) (vq:=.slice pq C.length cq) (M:=(H++[Vc (netV pn P.length cn pl L.length cl)]).length) l b d e g (h.oa.app _) (by simp) (by simp at i⊢;omega) fun G' ph ch hw q l' m v w _ _ r p o=>?_
 refine NI ?_
 simp only [n27,r27,SB,seval,NG,NH]
end Go.Proofs.YtohnaffmcjbpoaaGreat.Fn


