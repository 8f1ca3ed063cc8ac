/-
  Joined texts, 8 of 10. A part of the claim that the last text states.
-/
import Derived.Test.YtohnaffmcjbpoaaGreatPS7
set_option linter.unusedVariables false
set_option linter.unusedSimpArgs false
set_option linter.defProp false
set_option linter.unusedSectionVars false
set_option maxRecDepth 100000
set_option maxHeartbeats 4000000
namespace Go.Flow
open Go.AM Go.Net
theorem Ncc:∀{C:List (Leg×Int)} {X:List Pr} {x:Ld},x∈RI C X->∃c∈C,x.leg=c.1.id/\x.dep=c.2/\x.arr=c.2+c.1.mins
 | [],X,x,h=>by cases X<;>simp [RI] at h
 | c::C,[],x,h=>by simp [RI] at h
 | c::C,q::X,x,h=>by
   rw [RI] at h
   rcases Nw.1 h with h | h
   ·split at h
    ·rw [Ni] at h
     subst h
     exact ⟨c,Nm,rfl,rfl,rfl⟩
    ·cases h
   ·obtain ⟨d,h1,h2⟩:=Ncc h
    exact ⟨d,Nh _ h1,h2⟩
theorem M0 {PL:List (Int×Int)} {to:Int}:∀{C:List (Leg×Int)} {X:List Pr} {x:Ld},WW (Tu PL to C) X->x∈RI C X->∃c∈C,x.leg=c.1.id/\x.dep=c.2/\x.arr=c.2+c.1.mins/\0<x.gr/\x.gr<=c.1.grams
 | [],X,x,_,h=>by cases X<;>simp [RI] at h
 | c::C,[],x,_,h=>by simp [RI] at h
 | c::C,q::X,x,hN,h=>by
   obtain ⟨⟨h1,h2,g,b⟩,e⟩:=hN
   rw [RI] at h
   rcases Nw.1 h with h | h
   ·split at h
    ·rename_i f
     rw [Ni] at h
     subst h
     exact ⟨c,Nm,rfl,rfl,rfl,f,b⟩
    ·cases h
   ·obtain ⟨d,g1,a⟩:=M0 (PL:=PL) (to:=to) e h
    exact ⟨d,Nh _ g1,a⟩
def Apart (c d:Leg×Int):Prop:=¬(c.1.id=d.1.id/\c.2=d.2)
theorem MW:∀{C:List (Leg×Int)} {X:List Pr},C.Pairwise Apart->(RI C X).Pairwise fun a b=>¬(a.leg=b.leg/\a.dep=b.dep)
 | [],X,_=>by cases X<;>simp [RI]
 | c::C,[],_=>by simp [RI]
 | c::C,q::X,h=>by
   obtain ⟨h1,h2⟩:=List.pairwise_cons.1 h
   have ih:=MW (X:=X) h2
   rw [RI,Rr]
   refine ⟨by split<;>simp,ih,fun a f b g e=>?_⟩
   split at f
   ·rw [Ni] at f
    subst f
    obtain ⟨d,hd,e1,e2,_⟩:=Ncc g
    exact h1 d hd ⟨e.1.trans e1,e.2.trans e2⟩
   ·cases f
theorem Ng1 {L:List Leg} {to dl:Int} (h:L.Pairwise fun a b=>a.id≠b.id):(NP L to dl).Pairwise Apart:=by
 unfold NP
 rw [List.pairwise_flatMap]
 refine ⟨fun l _=>?_,h.imp fun {a b} g x c y f e=>?_⟩
 ·unfold Xe
  split
  ·exact List.Pairwise.nil
  ·unfold Nlk
   rw [List.pairwise_flatMap]
   refine ⟨fun d _=>?_,List.pairwise_lt_range.imp fun {i j} k x c y f e=>?_⟩
   ·unfold UQ;split<;>simp
   ·have e1:=(Nc1 c).1
    have e2:=(Nc1 f).1
    have e3:=e.2
    rw [e1,e2] at e3
    simp only at e3
    omega
 ·have e1:x.1=a:=by
   unfold Xe at c
   split at c
   ·cases c
   ·exact (Ncl c).1
  have e2:y.1=b:=by
   unfold Xe at f
   split at f
   ·cases f
   ·exact (Ncl f).1
  exact g (by rw [<-e1,<-e2];exact e.1)
theorem Nnl {C:List (Leg×Int)} (b:∀c∈C,∀d∈C,SH c=SH d->c.1=d.1):∀c∈C,Vo C (SH c)=some c.1:=fun c hc=>by
 cases h:Vo C (SH c) with
 | none=>exact absurd rfl (Nqf h c hc)
 | some l=>
   obtain ⟨d,h1,h2,a⟩:=TS h
   rw [<-a,b d h1 c hc h2]
section
variable {PL:List (Int×Int)} {to dl:Int} {s:List Src} {C:List (Leg×Int)} {l:List Pr} {SD:List Ld}
theorem Nfj {p t:Int}:∀{s:List Src},(∀x∈s,0<=x.gr)->0<=QQ p t (RA s)
 | [],_=>Oa _
 | x::s,h=>by
   have ih:=Nfj (p:=p) (t:=t) (s:=s) fun y a=>h y (Nh _ a)
   have:=h x Nm
   show 0<=(if x.pl=p/\x.rd<=t then x.gr else 0)+QQ p t (RA s)
   split<;>omega
theorem Npg (h:PlOk PL to dl s C) (o:∀x∈s,0<=x.gr) (H:∀c∈C,0<=c.1.grams) (J:∀c∈C,∀d∈C,SH c=SH d->c.1=d.1) (r:C.Pairwise Apart) (I:Alike (RO PL to dl s C) l) (D:IsFlow (PL.length+2) l)
  (hp:SD.Perm (RI C (l.drop (PG PL 2++Sj PL to dl s).length))) (u:SD.Pairwise fun x y=>¬RH y x):X5 C s SD/\exc 1 l<=Tt to dl s+SE C to SD:=by
 have B:=Nk9 h o H I D
 unfold RO at B
 obtain ⟨E,m⟩:=B.split
 obtain ⟨w,n4⟩:=E.split
 have f:=Nnl J
 have g:∀c∈C,c.1.frm≠to:=fun c hc=>(h.from' c hc).1
 obtain ⟨n,hn⟩:∃n,n=(PG PL 2++Sj PL to dl s).length:=⟨_,rfl⟩
 rw [<-hn] at E m w n4 hp
 have el:l=(l.take n).take (PG PL 2).length++(l.take n).drop (PG PL 2).length++l.drop n:=by
  rw [P8,P8]
 have k:SD.Pairwise fun a b=>¬(a.leg=b.leg/\a.dep=b.dep):=(hp.pairwise_iff fun {x y} v e=>v ⟨e.1.symm,e.2.symm⟩).2 (MW r)
 refine ⟨⟨fun i hi=>⟨?_,fun P=>?_⟩,fun p t=>?_⟩, ?_⟩
 ·obtain ⟨c,hc,e1,e2,e3,e4,z⟩:=M0 m (hp.mem_iff.1 (PK hi))
  refine ⟨c.1, ?_,by omega,z⟩
  unfold UD
  rw [e1,e2,e3]
  exact f c hc
 ·have h1:=N5.1 u (i-1) i (by omega) hi (by omega)
  have h2:=N5.1 k (i-1) i (by omega) hi (by omega)
  have g1:=OJ (show i-1<SD.length by omega)
  have F:=OJ hi
  rw [<-g1,<-F] at h1 h2
  unfold RH at h1⊢
  omega
 ·unfold VR
  rw [Ug,MM (hp.flatMap_right _)]
  by_cases j:p=to
  ·have h1:=Nfj (p:=p) (t:=t) o
   have h2:0<=QQ p t ((RI C (l.drop n)).flatMap (Xg C)):=by
    have key:∀M:List Ld,(∀x∈M,0<=x.gr/\(Uc C x).frm≠to)->0<=QQ p t (M.flatMap (Xg C)):=fun M=>by
     induction M with
     | nil=>intro _;exact Oa _
     | cons x M ih=>
       intro A
       have:=A x Nm
       have ih:=ih fun y L=>A y (Nh _ L)
       rw [N2,Ug]
       unfold Xg at ih⊢
       simp only [QQ]
       rw [Nf fun e=>this.2 (e.1.trans j)]
       split<;>omega
    refine key _ fun x K=>?_
    obtain ⟨c,hc,e1,e2,e3,e4,z⟩:=M0 m K
    refine ⟨by omega, ?_⟩
    have:Uc C x=c.1:=by
     unfold Uc UD
     rw [e1,e2,e3]
     have:=f c hc
     unfold SH at this
     rw [this];rfl
    rw [this];exact g c hc
   omega
  ·have h1:=Nmj (t:=t) j f (C:=C) (X:=l.drop n) (fun c hc=>hc) (fun c hc=>⟨h.from' c hc,h.dest c hc⟩) m
   have h2:=Nfz (t:=t) j o h.src n4
   have G:=Nra (p:=p) (t:=t) h w
   have q:=D.inner (S:=Mk PL p t) rfl rfl
   rw [el,Ngi,Ngi] at q
   omega
 ·have h1:=Nrb w
  have h2:=Nf0 o n4
  have G:=Nmk f (C:=C) (X:=l.drop n) (fun c hc=>hc) g m
  have q:SE C to SD=SE C to (RI C (l.drop n)):=by
   have key:∀{a b:List Ld},a.Perm b->SE C to a=SE C to b:=fun {a b} h=>by
    induction h with
    | nil=>rfl
    | cons x h ih=>rw [SE,SE,ih]
    | swap x y l=>simp only [SE];omega
    | trans h1 h2 N O=>exact N.trans O
   exact key hp
  rw [el,Ngw,Ngw,h1,q]
  omega
def WK (Pl:List Int) (tp:Int->Int):List Cg->Int
 | []=>0
 | x::l=>(if x.1∈Pl/\x.2.1<=tp x.1 then x.2.2 else 0)+WK Pl tp l
theorem Nb4 {Pl:List Int} {tp:Int->Int}:∀{a b:List Cg},WK Pl tp (a++b)=WK Pl tp a+WK Pl tp b
 | [],b=>by simp [WK]
 | x::a,b=>by rw [Oc,WK,WK,Nb4];omega
theorem Ner {p:Int} {Pl:List Int} {tp:Int->Int} (hp:p∉Pl):∀{l:List Cg},WK (p::Pl) tp l=QQ p (tp p) l+WK Pl tp l
 | []=>rfl
 | x::l=>by
   rw [WK,WK,QQ,Ner hp]
   by_cases h1:x.1=p
   ·have h2:¬(x.1∈Pl/\x.2.1<=tp x.1):=fun h=>hp (h1▸h.1)
    rw [Nf h2]
    by_cases a:x.2.1<=tp p
    ·have b:x.1∈p::Pl/\x.2.1<=tp x.1:=⟨by rw [h1];exact Nm,by rw [h1];exact a⟩
     have c:x.1=p/\x.2.1<=tp p:=⟨h1,a⟩
     rw [Nk b,Nk c];omega
    ·have b:¬(x.1∈p::Pl/\x.2.1<=tp x.1):=fun h=>a (by have:=h.2;rw [h1] at this;exact this)
     have c:¬(x.1=p/\x.2.1<=tp p):=fun h=>a h.2
     rw [Nf b,Nf c];omega
   ·have c:¬(x.1=p/\x.2.1<=tp p):=fun h=>h1 h.1
    rw [Nf c]
    by_cases a:x.1∈Pl/\x.2.1<=tp x.1
    ·have b:x.1∈p::Pl/\x.2.1<=tp x.1:=⟨Nh _ a.1,a.2⟩
     rw [Nk a,Nk b];omega
    ·have b:¬(x.1∈p::Pl/\x.2.1<=tp x.1):=fun h=>a ⟨(Nu.1 h.1).resolve_left h1,h.2⟩
     rw [Nf a,Nf b];omega
theorem Nmy {tp:Int->Int} {ch:List Cg} (h:∀p t,0<=QQ p t ch):∀{Pl:List Int},Pl.Nodup->0<=WK Pl tp ch
 | [],_=>by
   have:∀l:List Cg,WK [] tp l=0:=fun l=>by
    induction l with
    | nil=>rfl
    | cons x l ih=>rw [WK,ih,Nf fun h=>by cases h.1];rfl
   rw [this];exact Oa _
 | p::Pl,hn=>by
   obtain ⟨h1,h2⟩:=List.nodup_cons.1 hn
   rw [Ner h1]
   have:=h p (tp p)
   have:=Nmy (tp:=tp) h h2
   omega
def Zt (U:Int->Option Int) (dl:Int) (p:Int):Int:=match U p with
 | some u=>min (u-1) dl
 | none=>dl
theorem ML {U:Int->Option Int} {dl p t:Int}:t<=Zt U dl p↔t<=dl/\late U p t=true:=by
 unfold Zt late
 cases U p with
 | none=>simp
 | some u=>simp;omega
theorem Nsf {U:Int->Option Int}:∀{M C:List (Leg×Int)},M.Nodup->(∀c∈M,c∈C)->(∀c∈C,0<=c.1.grams)->wC U M<=wC U C
 | [],C,_,_,h=>Neh h
 | m::M,C,hn,hs,h=>by
   obtain ⟨h1,h2⟩:=List.nodup_cons.1 hn
   obtain ⟨A,B,rfl⟩:=List.append_of_mem (hs m Nm)
   have ih:=Nsf (U:=U) (M:=M) (C:=A++B) h2 (fun c hc=>by
    have:=hs c (Nh _ hc)
    rcases Nw.1 this with q | q
    ·exact Ny _ q
    ·rcases Nu.1 q with q | q
     ·exact absurd (q▸hc) h1
     ·exact N1 _ q) (fun c hc=>h c (by
    rcases Nw.1 hc with q | q
    ·exact Ny _ q
    ·exact N1 _ (Nh _ q)))
   rw [Nsg] at ih⊢
   rw [SY,SY]
   omega
theorem Nt7 {C:List (Leg×Int)} {U:Int->Option Int} {to dl:Int} {P:List Int} (j:U to=none) (g:∀c∈C,(c.1.frm∈P/\c.1.frm≠to)/\c.1.dst∈P/\c.2-c.1.cut<=dl/\c.2+c.1.mins<=dl):∀{ld:List Ld} {M:List (Leg×Int)},M.length=ld.length->(∀i,i<ld.length->gt M i∈C/\SH (gt M i)=UD (gt ld i)/\Uc C (gt ld i)=(gt M i).1/\1<=(gt ld i).gr/\(gt ld i).gr<=(gt M i).1.grams)->SE C to ld+WK (P.filter (· != to)) (Zt U dl) (ld.flatMap (Xg C))<=wC U M
 | [],[],_,_=>Oa _
 | [],m::M,h,_=>by simp at h
 | x::ld,[],h,_=>by simp at h
 | x::ld,m::M,hl,h=>by
   have ih:=Nt7 j g (ld:=ld) (M:=M) (by simpa using hl) fun i hi=>by have:=h (i+1) (by simpa using hi);rw [OT,OT] at this;exact this
   obtain ⟨h1,h2,f,l,n⟩:=h 0 (by simp)
   change m∈C at h1
   change SH m=UD x at h2
   change Uc C x=m.1 at f
   change 1<=x.gr at l
   change x.gr<=m.1.grams at n
   obtain ⟨⟨q1,q2⟩,q3,q,r⟩:=g m h1
   unfold SH UD at h2
   have e1:x.dep=m.2:=(Prod.mk.inj (Prod.mk.inj h2).2).1.symm
   have e2:x.arr=m.2+m.1.mins:=(Prod.mk.inj (Prod.mk.inj h2).2).2.symm
   rw [SE,N2,Nb4,SY]
   have key:(if (Uc C x).dst=to then x.gr else 0)+WK (P.filter (· != to)) (Zt U dl) (Xg C x)<=tC U m:=by
    unfold Xg
    rw [f,e1,e2]
    simp only [WK]
    have k:(m.1.frm∈P.filter (· != to)/\m.2-m.1.cut<=Zt U dl m.1.frm)↔late U m.1.frm (m.2-m.1.cut)=true:=by
     rw [Pn,ML]
     exact ⟨fun h=>h.2.2,fun h=>⟨⟨q1,by simpa using q2⟩,q,h⟩⟩
    have b:(m.1.dst∈P.filter (· != to)/\m.2+m.1.mins<=Zt U dl m.1.dst)↔m.1.dst≠to/\late U m.1.dst (m.2+m.1.mins)=true:=by
     rw [Pn,ML]
     exact ⟨fun h=>⟨by simpa using h.1.2,h.2.2⟩,fun h=>⟨⟨q3,by simpa using h.1⟩,r,h.2⟩⟩
    have o:m.1.dst=to->late U m.1.dst (m.2+m.1.mins)=true:=fun e=>by unfold late;rw [e,j]
    unfold tC
    cases l1:late U m.1.frm (m.2-m.1.cut) with
    | true=>
      rw [Nk (k.2 l1),Nf (fun h:(true=false/\_)=>by cases h.1)]
      by_cases hd:m.1.dst=to
      ·rw [Nk hd,Nf fun h=>(b.1 h).1 hd];omega
      ·rw [Nf hd];split<;>omega
    | false=>
      have p:¬(m.1.frm∈P.filter (· != to)/\m.2-m.1.cut<=Zt U dl m.1.frm):=fun h=>by have:=k.1 h;rw [l1] at this;cases this
      rw [Nf p]
      by_cases hd:m.1.dst=to
      ·have d:¬(m.1.dst∈P.filter (· != to)/\m.2+m.1.mins<=Zt U dl m.1.dst):=fun h=>(b.1 h).1 hd
       rw [Nk hd,Nf d,Nk ⟨rfl,o hd⟩];omega
      ·rw [Nf hd]
       by_cases a:late U m.1.dst (m.2+m.1.mins)=true
       ·rw [Nk (b.2 ⟨hd,a⟩),Nk ⟨rfl,a⟩];omega
       ·have d:¬(m.1.dst∈P.filter (· != to)/\m.2+m.1.mins<=Zt U dl m.1.dst):=fun h=>a (b.1 h).2
        rw [Nf d,Nf fun h=>a h.2];omega
   omega
theorem Nmu {U:Int->Option Int} {to dl:Int} {P:List Int} (b:U to=none):∀{s:List Src},(∀x∈s,x.pl∈P)->Tt to dl s+WK (P.filter (· != to)) (Zt U dl) (RA s)=wS U dl s
 | [],_=>rfl
 | x::s,h=>by
   have ih:=Nmu (dl:=dl) b (s:=s) fun y d=>h y (Nh _ d)
   have c:=h x Nm
   have e:WK (P.filter (· != to)) (Zt U dl) (RA (x::s))=(if x.pl∈P.filter (· != to)/\x.rd<=Zt U dl x.pl then x.gr else 0)+WK (P.filter (· != to)) (Zt U dl) (RA s):=rfl
   rw [Tt,e,Nfu,<-ih]
   unfold tS
   have a:(x.pl∈P.filter (· != to)/\x.rd<=Zt U dl x.pl)↔x.pl≠to/\x.rd<=dl/\late U x.pl x.rd=true:=by
    rw [Pn,ML]
    exact ⟨fun h=>⟨by simpa using h.1.2,h.2⟩,fun h=>⟨⟨c,by simpa using h.1⟩,h.2⟩⟩
   by_cases hd:x.pl=to
   ·rw [Nf fun h=>(a.1 h).1 hd]
    have hl:late U x.pl x.rd=true:=by unfold late;rw [hd,b]
    by_cases hr:x.rd<=dl
    ·rw [Nk ⟨hd,hr⟩,Nk ⟨hr,hl⟩];omega
    ·rw [Nf (fun h=>hr h.2:¬(x.pl=to/\x.rd<=dl)),Nf fun h=>hr h.1];omega
   ·rw [Nf (fun h=>hd h.1:¬(x.pl=to/\x.rd<=dl))]
    by_cases hc:x.rd<=dl/\late U x.pl x.rd=true
    ·rw [Nk (a.2 ⟨hd,hc⟩),Nk hc];omega
    ·rw [Nf fun h=>hc (a.1 h).2,Nf hc];omega
theorem Nxr {P:List Int} {C:List (Leg×Int)} {s:List Src} {to dl:Int} {U:Int->Option Int} {ld:List Ld} (o:P.Nodup) (p:U to=none) (z:∀x∈s,x.pl∈P) (v:∀c∈C,0<=c.1.grams) (y:∀c∈C,(c.1.frm∈P/\c.1.frm≠to)/\c.1.dst∈P/\c.2-c.1.cut<=dl/\c.2+c.1.mins<=dl) (h:X5 C s ld):Tt to dl s+SE C to ld<=wt U s C dl:=by
 obtain ⟨h1,h2⟩:=h
 have b:=Nmy (tp:=Zt U dl) h2 (o.filter (· != to))
 unfold VR at b
 rw [Nb4] at b
 have A:=Nmu (dl:=dl) p z
 have w:∃M:List (Leg×Int),M.length=ld.length/\∀i,i<ld.length->gt M i∈C/\SH (gt M i)=UD (gt ld i)/\Uc C (gt ld i)=(gt M i).1/\1<=(gt ld i).gr/\(gt ld i).gr<=(gt M i).1.grams:=by
  have g:∀i,i<ld.length->∃c,c∈C/\SH c=UD (gt ld i)/\Uc C (gt ld i)=c.1/\1<=(gt ld i).gr/\(gt ld i).gr<=c.1.grams:=fun i hi=>by
   obtain ⟨⟨B,g1,t,u⟩,_⟩:=h1 i hi
   obtain ⟨c,k1,k2,k3⟩:=TS g1
   refine ⟨c,k1,k2, ?_,t,by rw [k3];exact u⟩
   unfold Uc
   rw [g1,k3];rfl
  refine ⟨(List.range ld.length).map fun i=>if hi:i<ld.length then (g i hi).choose else default,by simp,fun i hi=>?_⟩
  have e:gt ((List.range ld.length).map fun i=>if hi:i<ld.length then (g i hi).choose else default) i=(g i hi).choose:=by
   rw [OJ (by simpa using hi),Qy,List.getElem_range,Rz hi]
  rw [e]
  exact (g i hi).choose_spec
 obtain ⟨M,k,a⟩:=w
 have q:=Nt7 (dl:=dl) p y k a
 have n:∀i j,i<j->j<ld.length->RH (gt ld i) (gt ld j):=fun i j=>by
  induction j with
  | zero=>intro h;omega
  | succ j ih=>
    intro d m
    have f:=(h1 (j+1) m).2 (by omega)
    rw [Rf] at f
    by_cases e:i=j
    ·rw [e];exact f
    ·have:=ih (by omega) (by omega)
     unfold RH at *;omega
 have l:M.Nodup:=by
  unfold List.Nodup
  rw [N5]
  intro i j hi m d e
  have k1:=(a i (by omega)).2.1
  have k2:=(a j (by omega)).2.1
  rw [OJ hi] at k1
  rw [OJ m,<-e,k1] at k2
  have:=n i j d (by omega)
  unfold UD at k2
  have e1:=(Prod.mk.inj k2).1
  have e2:=(Prod.mk.inj (Prod.mk.inj k2).2).1
  unfold RH at this
  omega
 have r:=Nsf (U:=U) l (fun c hc=>by
  obtain ⟨i,hi,rfl⟩:=List.mem_iff_getElem.1 hc
  have:=(a i (by omega)).1
  rw [OJ hi] at this;exact this) v
 unfold wt
 omega
end
end Go.Flow
namespace Go.Proofs.YtohnaffmcjbpoaaGreat.Fn
open Go.AM Go.AM.Sym Go.Net Go.Flow
structure BN (fr:Nat->Value) (v2 v3 v5 v9 v12 v14 v15 v16 v17 v18:Value):Prop where
 f2:fr 2=v2
 f3:fr 3=v3
 f5:fr 5=v5
 f9:fr 9=v9
 f12:fr 12=v12
 f14:fr 14=v14
 f15:fr 15=v15
 f16:fr 16=v16
 f17:fr 17=v17
 f18:fr 18=v18
section
variable {H:NB} {pp pl ps pt q:Option Addr} {P V:List Int} {L:List Leg} {s:List Flow.Src} {cp cl cs ct nq cq:Nat} {to dl:Int}
end
theorem Nlj {P:List Int} {L:List Leg} (h:QB P L=0):L.Pairwise fun a b=>a.id≠b.id:=by
 have d:=(UX h).2.2.2
 rw [N5]
 intro i j hi c f e
 have:=(d j c).2.1
 rw [OJ c,<-e] at this
 exact this (List.mem_map.2 ⟨L[i],List.mem_take_iff_getElem.2 ⟨i,by omega,rfl⟩,rfl⟩)
theorem Nf8 {P:List Int} {L:List Leg} (h:QB P L=0):P.Nodup:=by
 have a:=(UX h).2.2.1
 unfold List.Nodup
 rw [N5]
 intro i j hi b c e
 have h1:=a.idx hi
 have h2:=a.idx b
 rw [OJ hi] at h1
 rw [OJ b,<-e,h1] at h2
 omega
section
variable {P:List Int} {L:List Leg} {s:List Flow.Src} {to dl:Int}
theorem Nyn (e:OC P L s to dl=0) {v:Int} {T:Int->Option Int} (f:BestC s (NP L to dl) to dl T v) {ld:List Flow.Ld} (h:X5 (NP L to dl) s ld):Tt to dl s+SE (NP L to dl) to ld<=v:=by
 have a:=S9 e
 have:=Nxr (to:=to) (dl:=dl) (Nf8 (RX e)) f.no (fun x i=>(a.src x i).1) (fun c hc=>by
  have:=a.net.fine _ (QT hc).1
  unfold Fine at this;omega) (fun c hc=>by
  obtain ⟨b,j,d,_,k,l,m⟩:=QT hc
  have g:=a.net.fine _ b
  unfold Fine at g
  exact ⟨⟨a.net.frm _ b,j⟩,a.net.dst _ b,by omega,by omega⟩) h
 rw [f.eq] at this;exact this
theorem Ne1 (e:OC P L s to dl=0) {v:Int} {T:Int->Option Int} (h:BestC s (NP L to dl) to dl T v) {SD:List Flow.Ld} {SL:List (Int×Int)} {l:List Pr} (hp:SD.Perm (RI (NP L to dl) (l.drop (PG SL 2++Sj SL to dl s).length))) (b:SD.Pairwise fun x y=>¬RH y x) (a:PlanOf P L s to dl SL l):X5 (NP L to dl) s SD/\Wd s (NP L to dl) to dl<=Tt to dl s+SE (NP L to dl) to SD:=by
 have d:=S9 e
 have f:=RX e
 obtain ⟨h1,h2⟩:=Npg a.pl (fun x g=>(d.src x g).2.2.2.1) (fun c hc=>by
  have:=d.net.fine _ (QT hc).1
  unfold Fine at this;omega) (Y4 f) (Ng1 (Nlj f)) a.al a.fl hp b
 rw [a.val] at h2
 exact ⟨h1,by omega⟩
theorem Nkq (b:OC P L s to dl=0) {v:Int} {T:Int->Option Int} (c:BestC s (NP L to dl) to dl T v) {SD:List Flow.Ld} {SL:List (Int×Int)} {l:List Pr} (hp:SD.Perm (RI (NP L to dl) (l.drop (PG SL 2++Sj SL to dl s).length))) (d:SD.Pairwise fun x y=>¬RH y x) (a:PlanOf P L s to dl SL l):Um P L s to dl SD=(Wd s (NP L to dl) to dl,true)/\X5 (NP L to dl) s SD:=by
 obtain ⟨h1,h2⟩:=Ne1 b c hp d a
 have e:=Nyn b c h1
 rw [(SG c).1] at e
 refine ⟨?_,h1⟩
 rw [Xt b h1,show Tt to dl s+SE (NP L to dl) to SD=Wd s (NP L to dl) to dl by omega]
end
end Go.Proofs.YtohnaffmcjbpoaaGreat.Fn


namespace Go.Flow
open Go.AM Go.Net
def Niz:Leg:=⟨1,1,2,600,60,0,100,127⟩
def P2:List Int:=[1,2]
def L2:List Leg:=[Niz]
def s2:List Src:=[⟨1,0,250⟩]
def T2:Int->Option Int:=fun p=>if p=1 then some 0 else none
theorem N5q:NP L2 2 660=[(Niz,600)]:=by decide
theorem N0t:NP L2 2 2100=[(Niz,600),(Niz,2040)]:=by decide
theorem N3x:NP L2 2 3540=[(Niz,600),(Niz,2040),(Niz,3480)]:=by decide
theorem wS2 {U:Int->Option Int} {dl:Int} (h:0<=dl):wS U dl s2=if late U 1 0=true then 250 else 0:=by
 show (if (0:Int)<=dl/\late U 1 0=true then (250:Int) else 0)+0=_
 by_cases hl:late U 1 0=true
 ·rw [Nk ⟨h,hl⟩,Nk hl];rfl
 ·rw [Nf fun q=>hl q.2,Nf hl];rfl
theorem tC2 {U:Int->Option Int} {a:Int} (b:U 2=none):tC U (Niz,a)=if late U 1 a=false then 100 else 0:=by
 have h2:late U 2 (a+60)=true:=by unfold late;rw [b]
 show (if late U 1 (a-0)=false/\late U 2 (a+60)=true then (100:Int) else 0)=_
 rw [Int.sub_zero]
 by_cases hl:late U 1 a=false
 ·rw [Nk ⟨hl,h2⟩,Nk hl]
 ·rw [Nf fun q=>hl q.1,Nf hl]
theorem We {U:Int->Option Int} {a:Int} (h:¬late U 1 0=true) (b:0<=a):late U 1 a=false/\∃u,U 1=some u/\u<=0:=by
 unfold late at *
 cases hu:U 1 with
 | none=>rw [hu] at h;simp at h
 | some u=>
   rw [hu] at h
   simp only [N3] at h
   exact ⟨by simp;omega,u,rfl,by omega⟩
theorem Nzg:BestC s2 (NP L2 2 660) 2 660 T2 100:=by
 have hw:∀U:Int->Option Int,U 2=none->wt U s2 (NP L2 2 660) 660=(if late U 1 0=true then 250 else 0)+(if late U 1 600=false then 100 else 0):=fun U a=>by
  unfold wt
  rw [wS2 (by decide),N5q,SY,tC2 a]
  show _+(_+0)=_
  omega
 refine ⟨by decide,fun U a=>?_,by decide,fun U a h p t hp=>?_⟩
 ·rw [hw U a]
  by_cases hl:late U 1 0=true
  ·rw [Nk hl];split<;>omega
  ·rw [Nf hl,Nk (We hl (by decide)).1];omega
 ·rw [hw U a] at h
  unfold T2 at hp
  split at hp
  ·rename_i e
   cases hp
   rw [e]
   by_cases hl:late U 1 0=true
   ·rw [Nk hl] at h;split at h<;>omega
   ·exact (We hl (by decide:(0:Int)<=600)).2
  ·cases hp
theorem Yk:BestC s2 (NP L2 2 2100) 2 2100 T2 200:=by
 have hw:∀U:Int->Option Int,U 2=none->wt U s2 (NP L2 2 2100) 2100=(if late U 1 0=true then 250 else 0)+((if late U 1 600=false then 100 else 0)+(if late U 1 2040=false then 100 else 0)):=fun U a=>by
  unfold wt
  rw [wS2 (by decide),N0t,SY,SY,tC2 a,tC2 a]
  show _+(_+(_+0))=_
  omega
 refine ⟨by decide,fun U a=>?_,by decide,fun U a h p t hp=>?_⟩
 ·rw [hw U a]
  by_cases hl:late U 1 0=true
  ·rw [Nk hl];split<;>split<;>omega
  ·rw [Nf hl,Nk (We hl (by decide)).1,Nk (We hl (by decide)).1];omega
 ·rw [hw U a] at h
  unfold T2 at hp
  split at hp
  ·rename_i e
   cases hp
   rw [e]
   by_cases hl:late U 1 0=true
   ·rw [Nk hl] at h;split at h<;>split at h<;>omega
   ·exact (We hl (by decide:(0:Int)<=600)).2
  ·cases hp
theorem Nde:BestC s2 (NP L2 2 3540) 2 3540 noT 250:=by
 have hw:∀U:Int->Option Int,U 2=none->wt U s2 (NP L2 2 3540) 3540=(if late U 1 0=true then 250 else 0)+((if late U 1 600=false then 100 else 0)+((if late U 1 2040=false then 100 else 0)+(if late U 1 3480=false then 100 else 0))):=fun U a=>by
  unfold wt
  rw [wS2 (by decide),N3x,SY,SY,SY,tC2 a,tC2 a,tC2 a]
  show _+(_+(_+(_+0)))=_
  omega
 refine ⟨rfl,fun U a=>?_,by decide,fun U a h p t hp=>by cases hp⟩
 rw [hw U a]
 by_cases hl:late U 1 0=true
 ·rw [Nk hl];split<;>split<;>split<;>omega
 ·rw [Nf hl,Nk (We hl (by decide)).1,Nk (We hl (by decide)).1,Nk (We hl (by decide)).1];omega
def ZU:List Ld:=[⟨1,600,660,100⟩,⟨1,2040,2100,100⟩]
theorem Ny4:TE T2 (NP L2 2 2100)=ZU:=by decide
theorem Ny3:TE noT (NP L2 2 3540)=[]:=by decide
theorem Ns2 {SD:List Ld} (hl:SD.length<=2) (h:X5 (NP L2 2 2100) s2 SD) (a:200<=Tt 2 2100 s2+SE (NP L2 2 2100) 2 SD):SD=ZU:=by
 have e0:Tt 2 2100 s2=0:=by decide
 rw [e0,Qp] at a
 have d:∀i,i<SD.length->(Uc (NP L2 2 2100) (gt SD i)).dst=2/\(gt SD i).gr<=100/\(UD (gt SD i)=(1,600,660)\/UD (gt SD i)=(1,2040,2100)):=fun i hi=>by
  obtain ⟨⟨k,h1,h2,b⟩,_⟩:=h.1 i hi
  obtain ⟨c,k1,k2,k3⟩:=TS h1
  have g:Uc (NP L2 2 2100) (gt SD i)=k:=by unfold Uc;rw [h1];rfl
  rw [N0t] at k1
  simp only [Nu,On,or_false] at k1
  rw [g]
  rcases k1 with rfl | rfl
  ·subst k3
   exact ⟨rfl,b,.inl k2.symm⟩
  ·subst k3
   exact ⟨rfl,b,.inr k2.symm⟩
 match SD,hl,h,a,d with
 | [],_,_,a,_=>exact absurd a (by decide)
 | [x],_,_,a,d=>
   obtain ⟨h1,h2,_⟩:=d 0 (by simp)
   change (Uc _ x).dst=2 at h1
   change x.gr<=100 at h2
   rw [SE,Nk h1] at a
   change 200<=x.gr+0 at a
   omega
 | [x,y],_,h,a,d=>
   obtain ⟨h1,h2,b⟩:=d 0 (by simp)
   obtain ⟨g1,j,f⟩:=d 1 (by simp)
   change (Uc _ x).dst=2 at h1
   change x.gr<=100 at h2
   change (Uc _ y).dst=2 at g1
   change y.gr<=100 at j
   change UD x=_\/UD x=_ at b
   change UD y=_\/UD y=_ at f
   rw [SE,Nk h1,SE,Nk g1] at a
   change 200<=x.gr+(y.gr+0) at a
   have e:RH x y:=(h.1 1 (by simp)).2 (by decide)
   obtain ⟨xl,m,l,n⟩:=x
   obtain ⟨r,p,o,q⟩:=y
   unfold UD at b f
   unfold RH at e
   simp only [Prod.mk.injEq] at b f
   simp only at e h2 j a
   unfold ZU
   simp only [List.cons.injEq,Ld.mk.injEq,and_true]
   omega
end Go.Flow


namespace Go.Proofs.YtohnaffmcjbpoaaGreat.Fn
open Go.AM Go.AM.Sym Go.Net Go.Flow
theorem Ncx [OB] {lim:Nat} {a b c d e f g:Int} {H:NB} {Q:Value->NB->Prop} (h:lim<=H.length) (i:∀Z,Q (.agg (QO ⟨a,b,c,d,e,f,g,127⟩).toArray) (H++Z)):NR E false lim 11 [Vi a,Vi b,Vi c,Vi d,Vi e,Vi f,Vi g] H Q:=by
 refine Te (by decide) e11 rfl ?_
 rw [b11,c11]
 simp only [n11,r11,QO,h,NL,SB,seval,NE,NJ,NF,PW,reduceCtorEq,NH,place,NA,NG]
 exact i _
theorem UH [OB] {lim:Nat} {H:NB} {Q:Value->NB->Prop} (c:lim<=H.length) (k:∀H' a b,NZ H H'->NetIn H' a b P2 L2->Q (.agg (QJ a P2.length 2 b L2.length 1).toArray) H'):NR E false lim 20 [] H Q:=by
 refine Te (by decide) e20 rfl ?_
 rw [b20,c20]
 simp only [n20,r20,c,SB,seval,NE,NJ,NF,PW,reduceCtorEq,NH,place,NA,NG]
 refine Ncx (by simp;omega) fun Z=>?_
 obtain ⟨G,d⟩:∃G,G=H++[Vc [Vz,Vz],Vc [Vi 1,Vi 2]]++Z:=⟨_,rfl⟩
 have i:NC G H.length=Vc [Vz,Vz]:=by rw [d,Nr];exact NN
 have b1:NC G (H.length+1)=Vc [Vi 1,Vi 2]:=by rw [d,Nr];exact OL
 have j:NZ H G:=by rw [d,Nr];exact NZ.refl.app
 have hl:=ND b1
 rw [<-d]
 clear d
 obtain ⟨m,e2,k2,h⟩:=OO (ND i) (Vc [.slice (Sa (H.length+1)) 2 2,.slice (Sa G.length) 1 1])
 have e:=fun Z=>(NZ.refl.app (X:=Z)).cells i
 have g:=fun Z=>(NZ.refl.app (X:=Z)).cells k2
 refine NI ?_
 simp only [n20,r20,QO,NL,c,e,e2,g,SB,seval,NE,NJ,NF,PW,reduceCtorEq,NH,place,NA,NG]
 have f:=h.len
 refine k _ (Sa (H.length+1)) (Sa G.length) ((h.ext j (Ng _)).app) ⟨Sl.row (ro:=false) OU (by rw [NK (by omega)];exact h.cells b1 (by omega)),Sl.row (ro:=false) NV (by rw [<-f,NN];rfl),by decide,by decide, ?_⟩
 intro l hl
 simp only [L2,Nu,On,or_false] at hl
 subst hl
 unfold By;decide
theorem al2:∀j,j<3->OC P2 L2 s2 2 (gt [660,2100,3540] j)=0/\Nab P2 L2 s2 2 (gt [660,2100,3540] j)=gt [100,200,250] j:=fun j a=>by
 rcases (by omega:j=0\/j=1\/j=2) with rfl | rfl | rfl
 ·have h:OC P2 L2 s2 2 660=0:=by decide
  exact ⟨h,(Nk h).trans (SG Nzg).1.symm⟩
 ·have h:OC P2 L2 s2 2 2100=0:=by decide
  exact ⟨h,(Nk h).trans (SG Yk).1.symm⟩
 ·have h:OC P2 L2 s2 2 3540=0:=by decide
  exact ⟨h,(Nk h).trans (SG Nde).1.symm⟩
theorem Noh:OC P2 L2 s2 2 2100=0:=by decide
theorem N39:OC P2 L2 s2 2 3540=0:=by decide
theorem awake_go [OB] {mp:Bool} {lim:Nat} {H:NB} {Q:Value->NB->Prop} (ap:OB.on 7=false):NR E mp lim 7 [] H Q=Q (.bool true) H:=by
 refine Zu (E:=E) (by simp [E,orc,ap]) (show E.tr 7=some a7 from e7) rfl rfl (NI ?_)
 rw [b7,c7]
 simp only [n7,r7,SB,seval,NE,NJ,NF,PW,reduceCtorEq,NH,place,NA,NG]
 refine NM (fun j=>3-j) (fun j fr G=>j<=3/\fr 1=.slice (Sa H.length) 1 1/\fr 17=.slice (Sa (H.length+1)) 3 3/\fr 18=Vi 3/\fr 19=Vi j/\H.length+2<=G.length/\NC G H.length=Vc (s2.flatMap encS)/\NC G (H.length+1)=Vc ([660,2100,3540].flatMap encI)) 0 ⟨by decide,rfl,rfl,rfl,by rfl,by simp,NN,OL⟩ ?_
 intro j fr G ⟨hj,f1,f17,f18,D,bx,M,B⟩ hN
 rw [NQ N3t.eq_1]
 refine NI ?_
 by_cases p:j<3
 case pos=>
  obtain ⟨ha,hm⟩:=al2 j p
  have sT:Sl G encI 1 (Sa (H.length+1)) [660,2100,3540]:=Sl.row (ro:=false) OU B
  have lT:=TT sT p
  have xT:=V6 sT p rfl
  have bg:(j:Int)<3:=by omega
  have w1:IntKind.i64.wrap ((j:Int)+1)=((j+1:Nat):Int):=NS (by omega)
  simp only [n7,r7,f1,f17,f18,D,Nq bg,lT,xT,SB,seval,NE,NJ,NF,PW,reduceCtorEq,NH,place,NA,NG]
  rw [Na]
  refine UH (by omega) fun G1 a b hE hn=>?_
  have ai:=hE.len
  have s1:Sl G1 encS 3 (Sa H.length) s2:=hE.sl (Sl.row (ro:=false) OI M)
  have K:=fun Z (mp:Bool) (lim:Nat) (Q:Value->NB->Prop)=>Nnc (mp:=mp) (lim:=lim) (cp:=2) (cl:=1) (cs:=1) (to:=2) (dl:=gt [660,2100,3540] j) (Q:=Q) (hn.app Z) (s1.app Z) (by decide) fun _=>by decide
  rw [hm,ha] at K
  have sA:Sl (G1++[Vc [Vi 100,Vi 200,Vi 250]]) encI 1 (Sa G1.length) [100,200,250]:=Sl.row (ro:=false) OU NN
  have lA:=TT (i:=j) sA p []
  rw [Na] at lA
  have xA:=V6 (i:=j) (n:=3) sA p rfl
  simp only [show s2.length=1 from rfl] at K
  have z:=K []
  rw [Na] at z
  simp only [n7,r7,f1,f17,f18,D,z,lA,xA,w1,SB,seval,NE,NJ,NF,PW,reduceCtorEq,NH,place,NA,NG]
  refine hN (j+1) _ _ ⟨by omega,f1,f17,f18,rfl,by simp;omega,(hE.app).cells M,(hE.app).cells B⟩ (by omega)
 obtain rfl:j=3:=by omega
 simp only [n7,r7,f1,f17,f18,D,SB,seval,NE,NJ,NF,PW,reduceCtorEq,NH,place,NA,NG]
 refine UH (by simp;omega) fun G1 a1 b1 v ak=>?_
 have ai:=v.len
 simp only [Nb,Nj,Nl] at ai
 have s1:Sl G1 encS 3 (Sa H.length) s2:=v.sl ((Sl.row (ro:=false) OI M).app _)
 have d1:Sl G1 QI 4 (Sa G.length) ZU:=v.sl (Sl.row (ro:=false) NU NN)
 clear v
 refine NI ?_
 simp only [n7,r7,f1,SB,seval,NE,NJ,NF,PW,reduceCtorEq,NH,place,NA,NG]
 refine Nm4 (s:=s2) (ak.app _) (s1.app _) (by decide) (by simp;omega) Noh fun G2 q2 C SD SL l hO hp aq ad u=>?_
 obtain ⟨J,I⟩:=Ne1 Noh Yk hp aq ad
 rw [<-(SG Yk).1] at I
 have ae:SD=ZU:=Ns2 (by rw [hp.length_eq];refine Rc Yz ?_;decide) J I
 have bf:Um P2 L2 s2 2 2100 SD=(200,true):=by
  rw [Xt Noh J,ae]
  rw [show Tt 2 2100 s2+SE (NP L2 2 2100) 2 ZU=200 by decide]
 subst ae
 have bh:=u.len
 simp only [Nb,Nj,Nl] at bh
 have ay:=hO.sl NU
 have a5:=u.sl (s1.app _) fun _ _ _=>by simp
 have U:=u.sl (d1.app _) fun _ _ _=>by simp
 clear hO hp aq ad u J I s1 d1 ak
 refine NI ?_
 simp only [n7,r7,f1,SB,seval,NE,NJ,NF,PW,reduceCtorEq,NH,place,NA,NG]
 refine UH (by simp;omega) fun G3 a3 b3 k am=>?_
 have bk:=k.len
 simp only [Nb,Nj,Nl] at bk
 have R:=k.sl (ay.app _)
 have S:=k.sl (a5.app _)
 have V:=k.sl (U.app _)
 clear k ay a5 U
 have F:=fun Z (mp:Bool) (lim:Nat) (Q:Value->NB->Prop)=>Nwp (mp:=mp) (lim:=lim) (Q:=Q) (cp:=2) (cl:=1) (cs:=1) (c4:=C) (to:=2) (dl:=2100) (am.app Z) (S.app Z) (by decide) (R.app Z) (by decide) fun _=>by decide
 simp only [bf,show s2.length=1 from rfl] at F
 refine NI ?_
 simp only [n7,r7,f1,F,SB,seval,NE,NJ,NF,PW,reduceCtorEq,NH,place,NA,NG]
 refine UH (by simp;omega) fun G4 a4 b4 m an=>?_
 have bl:=m.len
 simp only [Nb,Nj,Nl] at bl
 have az:=m.sl (R.app _)
 have T:=m.sl (S.app _)
 have W:=m.sl (V.app _)
 clear m R S V F am
 refine NI ?_
 simp only [n7,r7,f1,SB,seval,NE,NJ,NF,PW,reduceCtorEq,NH,place,NA,NG]
 refine bind_ok (s:=s2) (an.app _) (T.app _) (by decide) (by decide) (by simp;omega) Noh fun G5 O r q5 c5 bd e o q A h=>?_
 simp only [Nb,Nj,Nl] at e o
 have ag:bd=ZU:=by
  rw [<-(SG Yk).2,Ny4] at q
  exact XN q A (by decide) fun x hx y hy hd _=>by
   have h1:=q.mem_iff.1 hx
   have h2:=q.mem_iff.1 hy
   simp only [ZU,Nu,On,or_false] at h1 h2
   rcases h1 with rfl | rfl<;>rcases h2 with rfl | rfl<;>first | rfl | exact absurd hd (by decide)
 subst ag
 rw [<-(SG Yk).2,show Sm T2 P2=[0,-1] by decide] at e
 have bm:=h.len
 simp only [Nb,Nj,Nl] at bm
 have bb:=e.sl OU
 have av:=o.sl NU
 have a0:=h.sl (az.app _) fun _ _ _=>by simp
 have a8:=h.sl (T.app _) fun _ _ _=>by simp
 have Y:=h.sl (W.app _) fun _ _ _=>by simp
 clear e o q A h az T W an
 refine NI ?_
 simp only [n7,r7,f1,NL,show H.length<=G5.length by omega,SB,seval,NE,NJ,NF,PW,reduceCtorEq,NH,place,NA,NG]
 refine UH (by simp;omega) fun G6 a6 b6 c ao=>?_
 have bo:=c.len
 simp only [Nb,Nj,Nl] at bo
 have k6:NC G6 G5.length=Vc [.slice O 2 r,.slice q5 2 c5]:=c.cells NN
 have bz:=fun Z=>(NZ.refl.app (X:=Z)).cells k6
 have bc:=c.sl (bb.app _)
 have aw:=c.sl (av.app _)
 have a2:=c.sl (a0.app _)
 have ba:=c.sl (a8.app _)
 have aa:=c.sl (Y.app _)
 clear c bb av a0 a8 Y
 refine NI ?_
 simp only [n7,r7,f1,SB,seval,NE,NJ,NF,PW,reduceCtorEq,NH,place,NA,NG]
 refine bind_ok (s:=s2) (ao.app _) (ba.app _) (by decide) (by decide) (by simp;omega) N39 fun g P t q7 c7 be f w L au d=>?_
 simp only [Nb,Nj,Nl] at f w
 have ah:be=[]:=by
  rw [<-(SG Nde).2,Ny3] at L
  exact L.eq_nil
 subst ah
 rw [<-(SG Nde).2,show Sm noT P2=[-1,-1] by decide] at f
 have bp:=d.len
 simp only [Nb,Nj,Nl] at bp
 have k7:NC g G5.length=Vc [.slice O 2 r,.slice q5 2 c5]:=d.cells ((NZ.refl.app).cells k6) (by simp)
 have N:=fun Z=>(NZ.refl.app (X:=Z)).cells k7
 have bu:=d.sl (bc.app _) fun _ _ _=>by simp
 have br:=d.sl (aw.app _) fun _ _ _=>by simp
 have bt:=d.sl (a2.app _) fun _ _ _=>by simp
 have ac:=d.sl (aa.app _) fun _ _ _=>by simp
 have bw:=f.sl OU
 clear f w L au d bc aw a2 ba aa ao
 have bq:∀Z mp lim Q,NR E mp lim 23 [.slice q2 ZU.length C,.slice (Sa G.length) 2 2] (g++Z) Q=Q (.bool true) (g++Z):=fun Z mp lim Q=>(Nmz (ca:=C) (cb:=2) (bt.app Z) (ac.app Z) (by decide)).trans (by rw [No rfl])
 have aj:∀Z mp lim Q,NR E mp lim 23 [.slice q5 2 c5,.slice (Sa G.length) 2 2] (g++Z) Q=Q (.bool true) (g++Z):=fun Z mp lim Q=>(Nmz (ca:=c5) (cb:=2) (br.app Z) (ac.app Z) (by decide)).trans (by rw [No rfl])
 refine NI ?_
 simp only [n7,r7,f1,NL,show H.length<=g.length by omega,bq,aj,N,SB,seval,NE,NJ,NF,PW,reduceCtorEq,NH,place,NA,NG]
 rw [show NR E false H.length 24 [.slice O 2 r,.slice (Sa (g.length+1)) 2 2] (g++[Vc [.slice P P2.length t,.slice q7 0 c7],Vc [Vi 0,Vi (-1)]]) _=_ from XQ (a:=[0,-1]) (b:=[0,-1]) (ca:=r) (cb:=2) (bu.app _) (Sl.row (ro:=false) OU OL) (by decide),No rfl]
 simp only [n7,r7,f1,NL,show H.length<=g.length by omega,aj,N,SB,seval,NE,NJ,NF,PW,reduceCtorEq,NH,place,NA,NG]
 rw [show NR E false H.length 24 [.slice P P2.length t,.slice (Sa (g.length+2)) 2 2] (g++[Vc [.slice P P2.length t,.slice q7 0 c7],Vc [Vi 0,Vi (-1)],Vc [Vi (-1),Vi (-1)]]) _=_ from XQ (a:=[-1,-1]) (b:=[-1,-1]) (ca:=t) (cb:=2) (bw.app _) (Sl.row (ro:=false) OU (OL (j:=2))) (by decide),No rfl]
 simp only [n7,r7,f1,NL,show H.length<=g.length by omega,N,SB,seval,NE,NJ,NF,PW,reduceCtorEq,NH,place,NA,NG]
end Go.Proofs.YtohnaffmcjbpoaaGreat.Fn


namespace Go.Proofs.YtohnaffmcjbpoaaGreat.Fn
open Go.AM Go.AM.Sym Go.Net
theorem Nh2 {P:List Int}:T9 P↔(∀p∈P,1<=p/\p<=999999)/\P.Nodup:=by
 constructor
 ·intro h
  refine ⟨fun p hp=>?_, ?_⟩
  ·obtain ⟨i,hi,rfl⟩:=List.mem_iff_getElem.1 hp
   have:=h i hi
   unfold pOk at this
   rw [OJ hi] at this
   exact ⟨this.1,this.2.1⟩
  ·unfold List.Nodup
   rw [N5]
   intro i j hi a b e
   have h2:=(h j a).2.2
   rw [OJ a] at h2
   exact h2 (List.mem_take_iff_getElem.2 ⟨i,by omega,e⟩)
 ·rintro ⟨h1,h2⟩ i hi
  unfold pOk
  rw [OJ hi]
  refine ⟨(h1 _ (Rm hi)).1,(h1 _ (Rm hi)).2,fun c=>?_⟩
  obtain ⟨j,a,e⟩:=List.mem_take_iff_getElem.1 c
  unfold List.Nodup at h2
  rw [N5] at h2
  exact h2 j i (by omega) hi (by omega) e
theorem UF [OB] {mp:Bool} {lim:Nat} {n a b:Int} {H:NB} {Q:Value->NB->Prop}:NR E mp lim 101 [Vi n,Vi a,Vi b] H Q=Q (.bool (decide (a<=n/\n<=b))) H:=by
 refine pc (by decide) N5o rfl rfl ?_
 rw [N54,N2n]
 by_cases h1:a<=n
 ·simp only [n101,N29,Nq h1,SB,Nat.reduceLT,NJ,Nat.reduceEqDiff,NF,reduceCtorEq,NH,NG]
 ·simp only [n101,N29,Nn h1,SB,Nat.reduceLT,NJ,Nat.reduceEqDiff,NF,reduceCtorEq,NH,NG]
theorem Nex [OB] {mp:Bool} {lim:Nat} {l:Leg} {H:NB} {Q:Value->NB->Prop} (hd:By l):NR E mp lim 103 [.agg (QO l).toArray] H Q=Q (.bool (decide (Fine l))) H:=by
 refine pc (by decide) N5m rfl rfl ?_
 rw [N52,N2l]
 have no:¬Fine l->decide (Fine l)=false:=fun h=>Nx h
 by_cases h1:1<=l.id/\l.id<=999999
 case neg=>simp only [n103,Nd1,SV,UF,Nx h1,no (fun h=>h1 (by unfold Fine at h;omega)),SB,Nat.reduceLT,NE,NJ,Nat.reduceEqDiff,NH,place,NA,NG]
 by_cases h2:1<=l.frm/\l.frm<=999999
 case neg=>simp only [n103,Nd1,SV,PY,UF,No h1,Nx h2,no (fun h=>h2 (by unfold Fine at h;omega)),SB,Nat.reduceLT,NE,NJ,Nat.reduceEqDiff,NH,place,NA,NG]
 by_cases a:1<=l.dst/\l.dst<=999999
 case neg=>simp only [n103,Nd1,SV,PY,QX,UF,No h1,No h2,Nx a,no (fun h=>a (by unfold Fine at h;omega)),SB,Nat.reduceLT,NE,NJ,Nat.reduceEqDiff,NH,place,NA,NG]
 by_cases b:l.frm=l.dst
 ·simp only [n103,Nd1,SV,PY,QX,UF,No h1,No h2,No a,Nq b,no (fun h=>by unfold Fine at h;omega),SB,Nat.reduceLT,NE,NJ,Nat.reduceEqDiff,NF,NH,place,NA,NG]
 by_cases c:0<=l.dep/\l.dep<=1439
 case neg=>simp only [n103,Nd1,SV,PY,QX,WA,UF,No h1,No h2,No a,Nn b,Nx c,no (fun h=>c (by unfold Fine at h;omega)),SB,Nat.reduceLT,NE,NJ,Nat.reduceEqDiff,NF,NH,place,NA,NG]
 by_cases d:1<=l.mins/\l.mins<=20160
 case neg=>simp only [n103,Nd1,SV,PY,QX,WA,Yf,UF,No h1,No h2,No a,Nn b,No c,Nx d,no (fun h=>d (by unfold Fine at h;omega)),SB,Nat.reduceLT,NE,NJ,Nat.reduceEqDiff,NF,NH,place,NA,NG]
 by_cases e:0<=l.cut/\l.cut<=10080
 case neg=>simp only [n103,Nd1,SV,PY,QX,WA,Yf,Si,UF,No h1,No h2,No a,Nn b,No c,No d,Nx e,no (fun h=>e (by unfold Fine at h;omega)),SB,Nat.reduceLT,NE,NJ,Nat.reduceEqDiff,NF,NH,place,NA,NG]
 by_cases f:0<=l.grams/\l.grams<=1000000000
 case neg=>simp only [n103,Nd1,SV,PY,QX,WA,Yf,Si,Ud,UF,No h1,No h2,No a,Nn b,No c,No d,No e,Nx f,no (fun h=>f (by unfold Fine at h;omega)),SB,Nat.reduceLT,NE,NJ,Nat.reduceEqDiff,NF,NH,place,NA,NG]
 by_cases g:1<=l.days
 case neg=>simp only [n103,Nd1,SV,PY,QX,WA,Yf,Si,Ud,Ngy,UF,No h1,No h2,No a,Nn b,No c,No d,No e,No f,Nn g,no (fun h=>g (by unfold Fine at h;omega)),SB,Nat.reduceLT,NE,NJ,Nat.reduceEqDiff,NF,NH,place,NA,NG]
 simp only [n103,Nd1,SV,PY,QX,WA,Yf,Si,Ud,Ngy,UF,No h1,No h2,No a,Nn b,No c,No d,No e,No f,Nq g,SB,Nat.reduceLT,NE,NJ,Nat.reduceEqDiff,NF,NH,place,NA,NG]
 congr 2
 unfold Fine
 exact propext (by omega)
theorem Ney [OB] {mp:Bool} {lim c:Nat} {p:Option Addr} {P:List Int} {a:Int} {H:NB} {Q:Value->NB->Prop} (l:Sl H encI 1 p P) (hn:P.length<2 ^ 62):NR E mp lim 102 [.slice p P.length c,Vi a] H Q=Q (Vi (P.count a:Int)) H:=by
 refine pc (by decide) N5n rfl rfl ?_
 rw [N53,N2m]
 simp only [n102,SB,Nat.reduceLT,NJ]
 refine NM (fun j=>P.length-j) (fun j fr G=>j<=P.length/\fr 0=.slice p P.length c/\fr 1=Vi a/\fr 5=Vi ((P.take j).count a:Int)/\fr 6=Vi j/\NZ H G) 0 ⟨Nv _,rfl,rfl,by rfl,by rfl,NZ.refl.app⟩ ?_
 intro j fr G ⟨n,e,f1,f5,f6,g⟩ i
 rw [NQ Nvf.eq_1]
 refine NI ?_
 by_cases b:j<P.length
 case neg=>
  obtain rfl:j=P.length:=by omega
  rw [Of] at f5
  simp only [n102,N5c,e,f5,f6,b,SB,Nat.reduceLT,NJ,Nat.reduceEqDiff,NF,reduceCtorEq,NG]
 have l1:=fun X=>((g.sl l).app X).loadCell0 OU b (by decide)
 simp only [encI,O8] at l1
 have m:=fun c (kk:IntKind) (H1:NB)=>(g.sl l).idx (c:=c) (k:=kk) (H1:=H1) b
 have f:IntKind.i64.wrap ((j:Int)+1)=((j+1:Nat):Int):=NS (by omega)
 have hc:(P.take j).count a<=P.length:=Rc List.count_le_length (by rw [N6];omega)
 have d:(P.take (j+1)).count a=(P.take j).count a+if gt P j=a then 1 else 0:=by
  rw [QH b,List.count_append,List.count_cons,List.count_nil];simp
 have h:IntKind.i64.wrap (((P.take j).count a:Int)+1)=(((P.take j).count a+1:Nat):Int):=NS (by omega)
 by_cases he:gt P j=a
 ·rw [Nk he] at d
  simp only [n102,e,f1,f5,f6,b,l1,m,f,h,Nq he,SB,Nat.reduceLT,NJ,Nat.reduceEqDiff,NF,reduceCtorEq]
  exact i (j+1) _ _ ⟨by omega,e,f1,by rw [d];exact rfl,rfl,g.app⟩ (by omega)
 ·rw [Nf he] at d
  replace d:(P.take (j+1)).count a=(P.take j).count a:=d
  simp only [n102,e,f1,f6,b,l1,m,f,Nn he,SB,Nat.reduceLT,NJ,Nat.reduceEqDiff,NF,reduceCtorEq]
  exact i (j+1) _ _ ⟨by omega,e,f1,by rw [d];exact f5,rfl,g.app⟩ (by omega)
theorem ZE {P:List Int}:T9 P↔∀i,i<P.length->(1<=gt P i/\gt P i<=999999)/\P.count (gt P i)<=1:=by
 rw [Nh2,List.nodup_iff_count]
 constructor
 ·rintro ⟨h1,h2⟩ i hi
  exact ⟨h1 _ (PK hi),h2 _⟩
 ·intro h
  refine ⟨fun p hp=>?_,fun a=>?_⟩
  ·obtain ⟨i,hi,rfl⟩:=List.mem_iff_getElem.1 hp
   rw [<-OJ hi];exact (h i hi).1
  ·by_cases b:a∈P
   ·obtain ⟨i,hi,rfl⟩:=List.mem_iff_getElem.1 b
    rw [<-OJ hi];exact (h i hi).2
   ·rw [List.count_eq_zero_of_not_mem b];omega
theorem Nf3 [OB] {H G:NB} {i R5:Nat} {pp pl:Option Addr} {P:List Int} {L:List Leg} {cp cl:Nat} {fr:Nat->Value} {K:List AItem} {Z:Value->NB->Prop}
  (hn:NetIn G pp pl P L) (hi:i<L.length) (hB:NC G H.length=Vc (QJ pp P.length cp pl L.length cl)) (t:NC G R5=Vc (QO (gt L i)))
  (f1:fr 1=Vp H.length) (f4:fr 4=Vi i) (f5:fr 5=Vp R5) (f6:fr 6=Vi 0)
  (b:(gt L i).id∈(L.take i).map (·.id)->Z (Vi 321) (G++[]))
  (v:(gt L i).id∉(L.take i).map (·.id)->∀fr',fr' 1=fr 1->fr' 4=fr 4->PI E a78 H.length K fr' (G++[]) Z) :
  PI E a78 H.length (.code (.loop Nun)::.inBlock 4::K) fr G Z:=by
 have n:=fun X=>(NZ.refl.app (X:=X)).cells hB
 have m:=fun X=>(NZ.refl.app (X:=X)).cells t
 refine NM (fun j=>i-j) (fun j fr' G'=>j<=i/\fr' 1=Vp H.length/\fr' 4=Vi i/\fr' 5=Vp R5/\fr' 6=Vi j/\G'=G++[]/\∀k,k<j->(gt L k).id≠(gt L i).id) 0 ⟨Nv _,f1,f4,f5,f6,by simp,fun k r=>by omega⟩ ?_
 rintro j fr' G' ⟨x,g1,g,o,p,rfl,a⟩ u
 rw [NQ Nun.eq_1]
 by_cases f:j<i
 case neg=>
  obtain rfl:j=i:=by omega
  simp only [n78,g,p,f,SB,Nat.reduceLT,NJ,Nat.reduceEqDiff,NF]
  refine v (fun w=>?_) _ (by rw [f1];exact g1) (by rw [f4];exact g)
  obtain ⟨l,hl,e⟩:=List.mem_map.1 w
  obtain ⟨k,r,rfl⟩:=List.mem_take_iff_getElem.1 hl
  exact a k (by omega) (by rw [OJ (by omega)];exact e)
 have d:j<L.length:=by omega
 have ld:=fun X=>(hn.sl.app X).loadCell NV d (j:=0) (by decide)
 rw [SV] at ld
 have s:=fun c (kk:IntKind) (H1:NB)=>hn.sl.idx (c:=c) (k:=kk) (H1:=H1) d
 have q:IntKind.i64.wrap ((j:Int)+1)=((j+1:Nat):Int):=NS (by have:=hn.nl;omega)
 by_cases he:(gt L j).id=(gt L i).id
 ·simp only [n78,r78,g1,g,o,p,f,n,m,ld,s,Sr,SV,Nq he,SB,Nat.reduceLT,NJ,Nat.reduceEqDiff,NF,NG]
  rw [Na] at b
  rw [Na]
  refine b (List.mem_map.2 ⟨gt L j, ?_,he⟩)
  rw [OJ d]
  exact List.mem_take_iff_getElem.2 ⟨j,by omega,rfl⟩
 ·simp only [n78,g1,g,o,p,f,n,m,ld,s,q,Sr,SV,Nn he,SB,Nat.reduceLT,NJ,Nat.reduceEqDiff,NF]
  exact u (j+1) _ _ ⟨by omega,g1,g,o,rfl,rfl,fun k r=>by
   rcases Om k j with h | h
   ·exact a k h
   ·obtain rfl:k=j:=by omega
    exact he⟩ (by omega)
theorem No5 [OB] {mp:Bool} {lim:Nat} {pp pl:Option Addr} {P:List Int} {L:List Leg} {cp cl:Nat} {H:NB} {Q:Value->NB->Prop} (hn:NetIn H pp pl P L) :
  NR E mp lim 78 [.agg (QJ pp P.length cp pl L.length cl).toArray] H Q=Q (Vi (QB P L)) H:=by
 refine pc (by decide) e78 rfl rfl ?_
 rw [b78,c78]
 by_cases w:50<(P.length:Int)
 ·simp only [n78,r78,QE,Nq w,SB,Nat.reduceLT,NJ,Nat.reduceEqDiff,NF,NH,place,NA,NG]
  rw [QB,Nk (by omega)]
 by_cases r:200<(L.length:Int)
 ·simp only [n78,r78,QE,Sr,Nn w,Nq r,SB,Nat.reduceLT,NJ,Nat.reduceEqDiff,NF,NH,place,NA,NG]
  rw [QB,Nk (by omega)]
 simp only [n78,QE,Sr,Nn w,Nn r,SB,Nat.reduceLT,NJ,Nat.reduceEqDiff,NF,NH,place,NA]
 have C:QB P L=if ¬T9 P then 320 else if ¬X0 P L then 321 else 0:=by rw [QB,Nf (by omega)]
 refine NM (fun i=>P.length-i) (fun i fr G=>i<=P.length/\fr 1=Vp H.length/\fr 3=Vi i/\NZ H G/\NC G H.length=Vc (QJ pp P.length cp pl L.length cl)/\∀j,j<i->(1<=gt P j/\gt P j<=999999)/\P.count (gt P j)<=1) 0
  ⟨Nv _,rfl,by rfl,NZ.refl.app,NN,fun j M=>by omega⟩ ?_
 intro i fr G ⟨hi,f1,f3,I,hB,s⟩ S
 rw [NQ Nz2.eq_1]
 refine NI ?_
 have n:=fun X=>(NZ.refl.app (X:=X)).cells hB
 have z:=hn.ext I
 by_cases g:i<P.length
 case pos=>
  have ld:=fun X=>(z.sp.app X).loadCell0 OU g (by decide)
  simp only [encI,O8] at ld
  have t:=fun c (kk:IntKind) (H1:NB)=>z.sp.idx (c:=c) (k:=kk) (H1:=H1) g
  have A:IntKind.i64.wrap ((i:Int)+1)=((i+1:Nat):Int):=NS (by omega)
  have d:=fun X (mp:Bool) (lim:Nat) (Q:Value->NB->Prop)=>Ney (mp:=mp) (lim:=lim) (c:=cp) (a:=gt P i) (Q:=Q) (z.sp.app X) (by omega)
  have f:¬((1<=gt P i/\gt P i<=999999)/\P.count (gt P i)<=1)->QB P L=320:=fun h=>by
   rw [C,Nk fun K=>h (ZE.1 K i g)]
  by_cases h1:1<=gt P i/\gt P i<=999999
  case neg=>
   simp only [n78,r78,f1,f3,n,QE,g,ld,t,UF,Nx h1,SB,Nat.reduceLT,NE,NJ,Nat.reduceEqDiff,NF,PW,NG]
   rw [f fun h=>h1 h.1]
  by_cases h2:1<(P.count (gt P i):Int)
  ·simp only [n78,r78,f1,f3,n,QE,g,ld,t,UF,No h1,d,Nq h2,SB,Nat.reduceLT,NE,NJ,Nat.reduceEqDiff,NF,PW,NG]
   rw [f fun h=>by omega]
  ·simp only [n78,f1,f3,n,QE,g,ld,t,UF,No h1,d,Nn h2,A,SB,Nat.reduceLT,NE,NJ,Nat.reduceEqDiff,NF,PW]
   exact S (i+1) _ _ ⟨by omega,f1,rfl,I.app,(NZ.refl.app).cells hB,fun j M=>by
    rcases Om j i with h | h
    ·exact s j h
    ·obtain rfl:j=i:=by omega
     exact ⟨h1,by omega⟩⟩ (by omega)
 obtain rfl:i=P.length:=by omega
 have T:T9 P:=ZE.2 s
 rw [Nf (by simpa using T)] at C
 simp only [n78,f1,f3,n,QE,g,SB,Nat.reduceLT,NJ,Nat.reduceEqDiff,NF]
 refine NM (fun i=>L.length-i) (fun i u D=>i<=L.length/\u 1=Vp H.length/\u 4=Vi i/\NZ H D/\NC D H.length=Vc (QJ pp P.length cp pl L.length cl)/\∀j,j<i->lOk P L j) 0
  ⟨Nv _,f1,by rfl,I.app,(NZ.refl.app).cells hB,fun j M=>by omega⟩ ?_
 intro i u D ⟨U,g1,v,y,x,m⟩ R
 rw [NQ Nz3.eq_1]
 refine NI ?_
 have e:=fun X=>(NZ.refl.app (X:=X)).cells x
 have p:=hn.ext y
 have o:=y.len
 by_cases b:i<L.length
 case neg=>
  obtain rfl:i=L.length:=by omega
  rw [Nf (show ¬¬X0 P L from fun h=>h m)] at C
  simp only [n78,r78,g1,v,e,Sr,b,C,SB,Nat.reduceLT,NJ,Nat.reduceEqDiff,NF,NG]
 have ld:=fun X=>(p.sl.app X).loadCells NV b
 have t:=fun c (kk:IntKind) (H1:NB)=>p.sl.idx (c:=c) (k:=kk) (H1:=H1) b
 have A:IntKind.i64.wrap ((i:Int)+1)=((i+1:Nat):Int):=NS (by omega)
 have J:=hn.bys _ (PK b)
 have q:=fun (H:NB) (mp:Bool) (lim:Nat) (Q:Value->NB->Prop)=>Nex (mp:=mp) (lim:=lim) (H:=H) (Q:=Q) J
 have d:=fun X (a:Int) (mp:Bool) (lim:Nat) (Q:Value->NB->Prop)=>Ney (mp:=mp) (lim:=lim) (c:=cp) (a:=a) (Q:=Q) (p.sp.app X) (by omega)
 have f:¬lOk P L i->QB P L=321:=fun h=>by rw [C,Nk fun K=>h (K i b)]
 have l:∀a:Int,(P.count a:Int)=0↔a∉P:=fun a=>by rw [<-List.count_eq_zero];omega
 by_cases h1:Fine (gt L i)
 case neg=>
  simp only [n78,r78,g1,v,e,Sr,NV,OH,b,ld,t,NL,o,q,Nx h1,SB,Nat.reduceLT,NE,NJ,Nat.reduceEqDiff,NF,PW,place,NA,Nat.reduceAdd,NG]
  rw [f fun h=>h1 h.1]
 by_cases h2:(gt L i).frm∈P
 case neg=>
  simp only [n78,r78,g1,v,e,QE,Sr,NV,PY,OH,b,ld,t,NL,o,q,d,No h1,Nq ((l _).2 h2),SB,Nat.reduceLT,NE,NJ,Nat.reduceEqDiff,NF,PW,place,NA,Nat.reduceAdd,NG]
  rw [f fun h=>h2 h.2.2.1]
 by_cases F:(gt L i).dst∈P
 case neg=>
  simp only [n78,r78,g1,v,e,QE,Sr,NV,PY,QX,OH,b,ld,t,NL,o,q,d,No h1,Nn (fun h=>(l _).1 h h2),Nq ((l _).2 F),SB,Nat.reduceLT,NE,NJ,Nat.reduceEqDiff,NF,PW,place,NA,Nat.reduceAdd,NG]
  rw [f fun h=>F h.2.2.2]
 simp only [n78,g1,v,e,QE,Sr,NV,PY,QX,OH,b,ld,t,NL,o,q,d,No h1,Nn (fun h=>(l _).1 h h2),Nn (fun h=>(l _).1 h F),SB,Nat.reduceLT,NE,NJ,Nat.reduceEqDiff,NF,PW,place,NA,Nat.reduceAdd]
 refine Nf3 (R5:=D.length) (cp:=cp) (cl:=cl) (p.app _) b ((NZ.refl.app).cells x) NN g1 v rfl rfl (fun N=>?_) (fun N B k1 O=>?_)
 ·rw [f fun h=>h.2.1 N]
 ·replace k1:B 1=Vp H.length:=k1.trans g1
  replace O:B 4=Vi i:=O.trans v
  simp only [n78,O,A,SB,Nat.reduceLT,NJ,NF]
  exact R (i+1) _ _ ⟨by omega,k1,rfl,y.app,(NZ.refl.app).cells x,fun j M=>by
   rcases Om j i with h | h
   ·exact m j h
   ·obtain rfl:j=i:=by omega
    exact ⟨h1,N,h2,F⟩⟩ (by omega)
def Nci (l:Leg) (d:Int):Option (Int×Int):=if 0<=d/\d<730485 then U4 l d.toNat else none
theorem Nhy [OB] {mp:Bool} {lim:Nat} {pp pl:Option Addr} {P:List Int} {L:List Leg} {cp cl:Nat} {a:Int} {H:NB} {Q:Value->NB->Prop} (hn:NetIn H pp pl P L) :
  NR E mp lim 54 [.agg (QJ pp P.length cp pl L.length cl).toArray,Vi a] H Q=Q (match L.find? (fun l=>l.id=a) with | some l=>.tuple #[.agg (QO l).toArray,.bool true] | none=>.tuple #[.agg #[Vi 0,Vi 0,Vi 0,Vi 0,Vi 0,Vi 0,Vi 0,.int .u8 0],.bool false]) H:=by
 refine pc (by decide) e54 rfl (by cases L.find? (fun l=>l.id=a)<;>rfl) ?_
 rw [b54,c54]
 simp only [n54,SB,Nat.reduceLT,NJ,NH,place,NA]
 refine NM (fun i=>L.length-i) (fun i fr G=>i<=L.length/\fr 1=Vi a/\fr 2=Vp H.length/\fr 4=Vp (H.length+1)/\fr 6=Vi i/\NZ H G/\NC G H.length=Vc (QJ pp P.length cp pl L.length cl)/\
  NC G (H.length+1)=Vc [Vi 0,Vi 0,Vi 0,Vi 0,Vi 0,Vi 0,Vi 0,.int .u8 0]/\L.find? (fun l=>l.id=a)=(L.drop i).find? (fun l=>l.id=a)) 0
  ⟨Nv _,rfl,rfl,rfl,by rfl,NZ.refl.app,NN,OL,rfl⟩ ?_
 intro i fr G ⟨hi,h1,h2,q,r,o,hB,p,h⟩ v
 have hl:=o.len
 rw [NQ N0b.eq_1]
 refine NI ?_
 have g:=fun X=>(NZ.refl.app (X:=X)).cells hB
 have n:=fun X=>(NZ.refl.app (X:=X)).cells p
 by_cases b:i<L.length
 ·have s:=fun X=>((o.sl hn.sl).app X).loadCells NV b
  have m:=fun X=>((o.sl hn.sl).app X).loadCell NV b (j:=0) (by decide)
  rw [SV] at m
  have e:=fun c (k:IntKind) (H1:NB)=>(o.sl hn.sl).idx (c:=c) (k:=k) (H1:=H1) b
  have t:IntKind.i64.wrap ((i:Int)+1)=((i+1:Nat):Int):=NS (by have:=hn.nl;omega)
  rw [Nqu b] at h
  obtain ⟨u,e2,k2,w⟩:=OO (ND p) (Vc (QO (gt L i)))
  have f:=fun X=>(NZ.refl.app (X:=X)).cells k2
  by_cases d:(gt L i).id=a
  ·simp only [d,decide_true,if_true] at h
   simp only [n54,r54,h1,h2,q,r,b,e,s,m,g,n,Sr,NV,OH,show H.length<=H.length+1 by omega,Nq d,NL,e2,f,SB,Nat.reduceLT,NJ,Nat.reduceEqDiff,NF,NA,Nat.reduceAdd,NG]
   rw [h]
  ·simp only [d,decide_false,Oe,if_false] at h
   simp only [n54,h1,h2,r,b,e,m,t,g,Sr,Nn d,SB,Nat.reduceLT,NJ,Nat.reduceEqDiff,NF]
   exact v (i+1) _ _ ⟨by omega,h1,h2,q,rfl,o.app,(NZ.refl.app).cells hB,(NZ.refl.app).cells p,h⟩ (by omega)
 ·obtain rfl:i=L.length:=by omega
  rw [R3,List.find?_nil] at h
  obtain ⟨u,e2,k2,w⟩:=OO (ND p) (Vc [Vi 0,Vi 0,Vi 0,Vi 0,Vi 0,Vi 0,Vi 0,.int .u8 0])
  have f:=fun X=>(NZ.refl.app (X:=X)).cells k2
  simp only [n54,r54,h2,q,r,b,g,n,Sr,show H.length<=H.length+1 by omega,e2,f,SB,Nat.reduceLT,NJ,Nat.reduceEqDiff,NF,NA,Nat.reduceAdd,NG]
  rw [h]
theorem Nsr [OB] {mp:Bool} {lim w:Nat} {l:Leg} {H:NB} {Q:Value->NB->Prop} (hd:By l) (hw:w<=6):NR E mp lim 104 [.agg (QO l).toArray,Vi w] H Q=Q (.bool (l.days.toNat / 2 ^ w % 2 == 1)) H:=by
 refine pc (by decide) N5l rfl rfl ?_
 rw [N51,N2k]
 unfold By at hd
 obtain ⟨D,g⟩:∃D:Nat,l.days=(D:Int):=⟨l.days.toNat,by omega⟩
 have wd:IntKind.i64.wrap l.days=l.days:=NY (by omega) (by omega)
 simp only [n104,Ngy,wd,SB,Nat.reduceLT,NJ,Nat.reduceEqDiff,NH,place,NA]
 rw [g,O0]
 refine NM (fun j=>w-j) (fun j fr G=>j<=w/\fr 1=Vi w/\fr 5=Vi ((D / 2 ^ j:Nat):Int)/\fr 6=Vi j) 0 ⟨Nv _,rfl,by simp only [FB,Nat.reduceEqDiff,Nat.pow_zero,Nat.div_one],by rfl⟩ ?_
 intro j fr G ⟨m,f1,f5,f6⟩ h
 rw [NQ Nve.eq_1]
 refine NI ?_
 have i:D / 2 ^ j<=D:=R0 _ _
 by_cases b:j<w
 ·have d:IntKind.i64.wrap ((j:Int)+1)=((j+1:Nat):Int):=NS (by omega)
  have e:IntKind.i64.wrap (Int.tdiv ((D / 2 ^ j:Nat):Int) 2)=((D / 2 ^ (j+1):Nat):Int):=by
   rw [show Int.tdiv ((D / 2 ^ j:Nat):Int) 2=((D / 2 ^ j / 2:Nat):Int) from rfl,Nat.div_div_eq_div_mul,show 2 ^ j*2=2 ^ (j+1) from rfl]
   have:D / 2 ^ (j+1)<=D:=R0 _ _
   generalize D / 2 ^ (j+1)=z at this⊢
   exact NY (by omega) (by omega)
  simp only [n104,f1,f5,f6,b,d,e,SB,Nat.reduceLT,NJ,Nat.reduceEqDiff,NF,Int.reduceEq]
  exact h (j+1) _ _ ⟨by omega,f1,rfl,rfl⟩ (by omega)
 ·obtain rfl:j=w:=by omega
  have a:Int.tmod ((D / 2 ^ j:Nat):Int) 2=((D / 2 ^ j % 2:Nat):Int):=rfl
  have f:D / 2 ^ j % 2<2:=Re _ (by decide)
  generalize D / 2 ^ j % 2=z at a f
  have c:IntKind.i64.wrap (z:Int)=(z:Int):=NY (by omega) (by omega)
  match z,f,a,c with
  | 0,_,a,c=>
    replace a:Int.tmod ((D / 2 ^ j:Nat):Int) 2=0:=a
    have k:IntKind.i64.wrap 0=0:=by decide
    simp only [n104,N28,f1,f5,f6,b,a,SB,Nat.reduceLT,NJ,Nat.reduceEqDiff,NF,NG,Int.reduceEq]
    rfl
  | 1,_,a,c=>
    replace a:Int.tmod ((D / 2 ^ j:Nat):Int) 2=1:=a
    have k:IntKind.i64.wrap 1=1:=by decide
    simp only [n104,N28,f1,f5,f6,b,a,SB,Nat.reduceLT,NJ,Nat.reduceEqDiff,NF,NG,Int.reduceEq]
    rfl
theorem N03 [OB] {mp:Bool} {lim:Nat} {l:Leg} {d:Int} {H:NB} {Q:Value->NB->Prop} (hl:Fine l):NR E mp lim 82 [.agg (QO l).toArray,Vi d] H Q=Q (WR (Nci l d)) H:=by
 refine pc (by decide) e82 rfl MJ ?_
 rw [b82,c82]
 have a:=fun (H:NB) (mp:Bool) (lim:Nat) (Q:Value->NB->Prop)=>Nex (mp:=mp) (lim:=lim) (H:=H) (Q:=Q) hl.by
 rw [No hl] at a
 have q:=hl
 unfold Fine at q
 by_cases h1:0<=d/\d<=730484
 case neg=>
  have e:Nci l d=none:=by unfold Nci;rw [Nf (by omega)]
  simp only [n82,r82,NV,OH,a,UF,Nx h1,e,WR,SB,Nat.reduceLT,NE,NJ,Nat.reduceEqDiff,PW,NH,place,NA,Nat.reduceAdd,NG]
 obtain ⟨n,rfl⟩:∃n:Nat,d=(n:Int):=⟨d.toNat,by omega⟩
 have e:Nci l (n:Int)=U4 l n:=by unfold Nci;rw [Nk (by omega),O0]
 rw [e]
 have g:Int.tmod (n:Int) 7=((n % 7:Nat):Int):=rfl
 have r:IntKind.i64.wrap ((n % 7:Nat):Int)=((n % 7:Nat):Int):=NY (by omega) (by omega)
 have c:=fun (H:NB) (mp:Bool) (lim:Nat) (Q:Value->NB->Prop)=>Nsr (mp:=mp) (lim:=lim) (H:=H) (Q:=Q) (w:=n % 7) hl.by (by omega)
 have f:goes l n=(l.days.toNat / 2 ^ (n % 7) % 2 == 1&&decide (0<=1440*(n:Int)+l.dep-l.cut)&&decide (1440*(n:Int)+l.dep+l.mins<=1051898399)):=rfl
 generalize (l.days.toNat / 2 ^ (n % 7) % 2 == 1)=b at c f
 have i:IntKind.i64.wrap ((n:Int)*1440)=1440*(n:Int):=by rw [NY (by omega) (by omega)];omega
 have j:IntKind.i64.wrap (1440*(n:Int)+l.dep)=1440*(n:Int)+l.dep:=NY (by omega) (by omega)
 have k:IntKind.i64.wrap (1440*(n:Int)+l.dep-l.cut)=1440*(n:Int)+l.dep-l.cut:=NY (by omega) (by omega)
 have o:IntKind.i64.wrap (1440*(n:Int)+l.dep+l.mins)=1440*(n:Int)+l.dep+l.mins:=NY (by omega) (by omega)
 have no:goes l n=false->U4 l n=none:=fun h=>by unfold U4;rw [h];rfl
 cases b with
 | false=>
   have e2:=no (by rw [f];rfl)
   simp only [n82,r82,NV,OH,a,UF,No h1,g,c,e2,WR,SB,Nat.reduceLT,NE,NJ,Nat.reduceEqDiff,NF,PW,NH,place,NA,Nat.reduceAdd,NG,Int.reduceEq]
 | true=>
   by_cases h2:1440*(n:Int)+l.dep-l.cut<0
   ·have e2:=no (by rw [f,Nx (by omega)];rfl)
    simp only [n82,r82,NV,WA,Si,OH,a,UF,No h1,g,c,i,j,k,Nq h2,e2,WR,SB,Nat.reduceLT,NE,NJ,Nat.reduceEqDiff,NF,PW,NH,place,NA,Nat.reduceAdd,NG,Int.reduceEq]
   ·by_cases m:1051898399<1440*(n:Int)+l.dep+l.mins
    ·have e2:=no (by rw [f,Nx (p:=_<=(1051898399:Int)) (by omega),Bool.and_false])
     simp only [n82,r82,NV,WA,Yf,Si,OH,a,UF,No h1,g,c,i,j,k,o,Nn h2,Nq m,e2,WR,SB,Nat.reduceLT,NE,NJ,Nat.reduceEqDiff,NF,PW,NH,place,NA,Nat.reduceAdd,NG,Int.reduceEq]
    ·have e2:U4 l n=some (1440*(n:Int)+l.dep,1440*(n:Int)+l.dep+l.mins):=by
      unfold U4
      rw [f,No (p:=_<=(1051898399:Int)) (by omega),No (by omega)];rfl
     simp only [n82,r82,NV,WA,Yf,Si,OH,a,UF,No h1,g,c,i,j,k,o,Nn h2,Nn m,e2,WR,SB,Nat.reduceLT,NE,NJ,Nat.reduceEqDiff,NF,PW,NH,place,NA,Nat.reduceAdd,NG,Int.reduceEq]
end Go.Proofs.YtohnaffmcjbpoaaGreat.Fn


namespace Go.Proofs.YtohnaffmcjbpoaaGreat.Fn
open Go.AM Go.AM.Sym Go.Net Go.Flow
theorem Nm1 [OB] {mp:Bool} {lim:Nat} {pp pl:Option Addr} {P:List Int} {L:List Leg} {cp cl:Nat} {a:Int} {H:NB} {Q:Value->NB->Prop} (hn:NetIn H pp pl P L) :
  NR E mp lim 79 [.agg (QJ pp P.length cp pl L.length cl).toArray,Vi a] H Q=Q (.bool (decide (a∈P))) H:=by
 refine pc (by decide) e79 rfl rfl ?_
 rw [b79,c79]
 simp only [n79,SB,seval,NJ,NH,place,NA]
 refine NM (fun i=>P.length-i) (fun i fr G=>i<=P.length/\fr 1=Vi a/\fr 2=Vp H.length/\fr 5=Vi i/\NZ H G/\NC G H.length=Vc (QJ pp P.length cp pl L.length cl)/\∀j,j<i->gt P j≠a) 0
  ⟨Nv _,rfl,rfl,by rfl,NZ.refl.app,NN,fun j d=>by omega⟩ ?_
 intro i fr G ⟨hi,f1,f2,f5,f,hB,c⟩ l
 rw [NQ Nz1.eq_1]
 refine NI ?_
 have e:=fun X=>(NZ.refl.app (X:=X)).cells hB
 by_cases b:i<P.length
 case neg=>
  obtain rfl:i=P.length:=by omega
  simp only [n79,r79,f2,f5,b,e,QE,SB,seval,NJ,NF,NG]
  rw [Nx]
  intro m
  obtain ⟨j,d,he⟩:=List.mem_iff_getElem.1 m
  exact c j d (by rw [OJ d];exact he)
 have g:=TT (f.sl hn.sp) b
 have k:=V6 (f.sl hn.sp) b rfl
 have n:IntKind.i64.wrap ((i:Int)+1)=((i+1:Nat):Int):=NS (by have:=hn.np;omega)
 by_cases he:gt P i=a
 ·simp only [n79,r79,f1,f2,f5,b,e,QE,g,k,Nq he,SB,seval,NJ,NF,NG]
  rw [No (he▸PK b)]
 ·simp only [n79,f1,f2,f5,b,e,QE,g,k,Nn he,n,SB,seval,NJ,NF]
  exact l (i+1) _ _ ⟨by omega,f1,f2,rfl,f.app,(NZ.refl.app).cells hB,fun j d=>by
   rcases (by omega:j<i\/j=i) with h | h
   ·exact c j h
   ·rw [h];exact he⟩ (by omega)
theorem Vd [OB] {mp:Bool} {lim:Nat} {pp pl ps:Option Addr} {P:List Int} {L:List Leg} {s:List Flow.Src} {cp cl cs:Nat} {to dl:Int} {H:NB} {Q:Value->NB->Prop} (hn:NetIn H pp pl P L) (J:Sl H encS 3 ps s) (K:s.length<2 ^ 63) :
  NR E mp lim 49 [.agg (QJ pp P.length cp pl L.length cl).toArray,.slice ps s.length cs,Vi to,Vi dl] H Q=Q (Vi (OC P L s to dl)) H:=by
 refine pc (by decide) e49 rfl rfl ?_
 rw [b49,c49]
 have mt:OP=1051898399:=rfl
 have q:=fun X (mp:Bool) (lim:Nat) (Q:Value->NB->Prop)=>No5 (mp:=mp) (lim:=lim) (cp:=cp) (cl:=cl) (Q:=Q) (hn.app X)
 have o:=fun X (mp:Bool) (lim:Nat) (a:Int) (Q:Value->NB->Prop)=>Nm1 (mp:=mp) (lim:=lim) (cp:=cp) (cl:=cl) (a:=a) (Q:=Q) (hn.app X)
 by_cases l:QB P L=0
 case neg=>
  simp only [n49,r49,OG,q,l,SB,seval,NE,NJ,NF,NH,place,NA,NG]
  rw [OC,Nk l]
 have key:OC P L s to dl=if ¬(to∈P/\0<=dl/\dl<=OP) then 2 else if 50<s.length then 5 else if ∀x∈s,SOk P x then 0 else 340:=Nf fun h=>h l
 rw [key]
 by_cases f:to∈P
 case neg=>
  simp only [n49,r49,OG,q,l,o,Nn f,SB,seval,NE,NJ,NF,PW,NH,place,NA,NG]
 by_cases k:dl<0
 ·simp only [n49,r49,OG,q,l,o,Nq f,Nq k,SB,seval,NE,NJ,NF,PW,NH,place,NA,NG]
  rw [Nk fun h=>by omega]
 by_cases n:1051898399<dl
 ·simp only [n49,r49,OG,q,l,o,Nq f,Nn k,Nq n,SB,seval,NE,NJ,NF,PW,NH,place,NA,NG]
  rw [Nk fun h=>by omega]
 rw [Nf fun h=>h ⟨f,by omega,by omega⟩]
 by_cases v:50<(s.length:Int)
 ·simp only [n49,r49,OG,q,l,o,Nq f,Nn k,Nn n,v,SB,seval,NE,NJ,NF,PW,NH,place,NA,NG]
  rw [Nk (by omega)]
 rw [Nf (by omega)]
 simp only [n49,OG,q,l,o,Nq f,Nn k,Nn n,v,SB,seval,NE,NJ,NF,PW,NH,place,NA]
 refine NM (fun i=>s.length-i) (fun i fr G=>i<=s.length/\fr 4=Vp H.length/\fr 1=.slice ps s.length cs/\fr 10=Vi i/\H.length<G.length/\NZ H G/\NC G H.length=Vc (QJ pp P.length cp pl L.length cl)/\∀j,j<i->SOk P (gt s j)) 0
  ⟨Nv _,rfl,rfl,by rfl,by simp,NZ.refl.app,NN,fun j y=>by omega⟩ ?_
 intro i fr G ⟨hi,f4,f1,f10,I,A,hB,m⟩ F
 rw [NQ N0f.eq_1]
 refine NI ?_
 by_cases b:i<s.length
 case neg=>
  obtain rfl:i=s.length:=by omega
  simp only [n49,r49,f1,f10,b,SB,seval,NJ,NF,NG]
  rw [Nk]
  intro x M
  obtain ⟨j,y,rfl⟩:=List.mem_iff_getElem.1 M
  rw [<-OJ y];exact m j y
 have D:=A.sl J
 have r:=fun X=>(D.app X).loadCells OI b
 have t:=QN D b rfl
 have p:=fun X=>(NZ.refl.app (X:=X)).cells hB
 have e:=fun X (mp:Bool) (lim:Nat) (a:Int) (Q:Value->NB->Prop)=>Nm1 (mp:=mp) (lim:=lim) (cp:=cp) (cl:=cl) (a:=a) (Q:=Q) ((hn.ext A).app X)
 have N:IntKind.i64.wrap ((i:Int)+1)=((i+1:Nat):Int):=NS (by omega)
 have B:gt s i∈s:=PK b
 have g:¬SOk P (gt s i)->¬∀x∈s,SOk P x:=fun h o=>h (o _ B)
 have d:SOk P (gt s i)↔(gt s i).pl∈P/\0<=(gt s i).rd/\(gt s i).rd<=OP/\0<=(gt s i).gr/\(gt s i).gr<=1000000000:=Iff.rfl
 have c:H.length<=G.length:=by omega
 by_cases g1:(gt s i).pl∈P
 case neg=>
  simp only [n49,r49,f4,f1,f10,b,r,t,p,e,OG,OI,SS,NL,c,OH,Nn g1,SB,seval,NE,NJ,NF,PW,place,NA,NG]
  rw [Nf (g fun h=>g1 h.1)]
 by_cases u:(gt s i).rd<0
 ·simp only [n49,r49,f4,f1,f10,b,r,t,p,e,OG,OI,SS,Tn,NL,c,OH,Nq g1,Nq u,SB,seval,NE,NJ,NF,PW,place,NA,NG]
  rw [Nf (g fun h=>by have:=d.1 h;omega)]
 by_cases w:1051898399<(gt s i).rd
 ·simp only [n49,r49,f4,f1,f10,b,r,t,p,e,OG,OI,SS,Tn,NL,c,OH,Nq g1,Nn u,Nq w,SB,seval,NE,NJ,NF,PW,place,NA,NG]
  rw [Nf (g fun h=>by have:=d.1 h;omega)]
 by_cases z:(gt s i).gr<0
 ·simp only [n49,r49,f4,f1,f10,b,r,t,p,e,OG,OI,SS,Tn,Vu,NL,c,OH,Nq g1,Nn u,Nn w,Nq z,SB,seval,NE,NJ,NF,PW,place,NA,NG]
  rw [Nf (g fun h=>by have:=d.1 h;omega)]
 by_cases C:1000000000<(gt s i).gr
 ·simp only [n49,r49,f4,f1,f10,b,r,t,p,e,OG,OI,SS,Tn,Vu,NL,c,OH,Nq g1,Nn u,Nn w,Nn z,Nq C,SB,seval,NE,NJ,NF,PW,place,NA,NG]
  rw [Nf (g fun h=>by have:=d.1 h;omega)]
 simp only [n49,f4,f1,f10,b,r,t,p,e,OG,OI,SS,Tn,Vu,NL,c,OH,Nq g1,Nn u,Nn w,Nn z,Nn C,N,SB,seval,NE,NJ,NF,PW,place,NA]
 exact F (i+1) _ _ ⟨by omega,f4,f1,rfl,by simp;omega,A.app,(NZ.refl.app).cells hB,fun j y=>by
  rcases Om j i with hji | hji
  ·exact m j hji
  ·obtain rfl:j=i:=by omega
   exact d.2 ⟨g1,by omega,by omega,by omega,by omega⟩⟩ (by omega)
theorem Njx [OB] {mp:Bool} {lim:Nat} {a b:Flow.Ld} {H:NB} {Q:Value->NB->Prop}:NR E mp lim 53 [.agg (QI a).toArray,.agg (QI b).toArray] H Q=Q (.bool (decide (RH b a))) H:=by
 refine pc (by decide) e53 rfl rfl ?_
 rw [b53,c53]
 by_cases h1:b.dep<a.dep
 ·simp only [n53,r53,Sn,Nq h1,SB,seval,NJ,NF,NH,place,NA,NG]
  rw [No (show RH b a from by unfold RH;omega)]
 by_cases h2:a.dep=b.dep
 ·by_cases c:b.leg<a.leg
  ·simp only [n53,r53,Su,Sn,Nn h1,Nq h2,Nq c,SB,seval,NJ,NF,NH,place,NA,NG]
   rw [No (show RH b a from by unfold RH;omega)]
  ·simp only [n53,r53,Su,Sn,Nn h1,Nq h2,Nn c,SB,seval,NJ,NF,NH,place,NA,NG]
   rw [Nx (show ¬RH b a from by unfold RH;omega)]
 ·simp only [n53,r53,Sn,Nn h1,Nn h2,SB,seval,NJ,NF,NH,place,NA,NG]
  rw [Nx (show ¬RH b a from by unfold RH;omega)]
end Go.Proofs.YtohnaffmcjbpoaaGreat.Fn


namespace Go.Proofs.YtohnaffmcjbpoaaGreat.Fn
open Go.AM Go.AM.Sym Go.Net
def TF {α:Type} (lim:Nat) (G:NB) (enc:α->List Value) (e:Nat) (p:Option Addr) (cap:Nat) (l:List α):Prop:=
 Own lim G enc e p cap l\/∃R,p=Sa R/\cap=l.length/\cap<2 ^ 62/\NC G R=Vc (l.flatMap enc)/\lim<=R
section
variable {α:Type} {lim e cap:Nat} {G:NB} {enc:α->List Value} {p:Option Addr} {l:List α}
theorem TF.sl (h:TF lim G enc e p cap l) (he:∀x,(enc x).length=e):Sl G enc e p l:=by
 rcases h with h | ⟨R,rfl,_,_,h,_⟩
 ·exact h.sl he
 ·exact Sl.row he h
theorem TF.block (h:TF lim G enc e p cap l) {a:Addr} (b:p=some a):lim<=a.block/\a.block<G.length:=by
 rcases h with h | ⟨R,rfl,_,_,h,hl⟩
 ·exact h.block b
 ·cases b;exact ⟨hl,ND h⟩
theorem TF.chg {A:List Nat} {H':NB} (h:TF lim G enc e p cap l) (hc:Chg A G H') (hp:∀a,p=some a->a.block∉A):TF lim H' enc e p cap l:=by
 rcases h with h | ⟨R,rfl,h1,h2,b,c⟩
 ·exact .inl (h.chg hc hp)
 ·exact .inr ⟨R,rfl,h1,h2,hc.cells b (hp _ rfl),c⟩
theorem TF.step {lim' bytes:Nat} (h:TF lim G enc e p cap l) (o:lim'<=lim) (he:∀x,(enc x).length=e) (i:e≠0) (x:α) (u:(l.length+1)*bytes<=PM) (hn:l.length+1<2 ^ 61) (n:lim<=G.length)
  (X:NB) (b k:Nat) (s:NC (G++X) b=Vc (enc x)) :
  ∃c,OW lim' none e bytes false (.slice p l.length cap) (.slice (Sa b) 1 k) (G++X)=some (.slice (Sa (G.length+X.length)) (l.length+1) (loose e),c++[])/\
   Own lim (c++[]) enc e (Sa (G.length+X.length)) (loose e) (l++[x])/\(∀A H0,H0.length<=lim->Chg A H0 G->Chg A H0 (c++[]))/\(∀j,j<G.length->(∀a,p=some a->j≠a.block)->NC (c++[]) j=NC G j)/\c.length=G.length+X.length+1/\
   (∀j,j<X.length->NC (c++[]) (G.length+j)=X.getD j .dead):=by
 rcases h with h | ⟨R,rfl,h1,h2,r,v⟩
 ·exact h.step o he i x u hn n X b k s
 ·have t:=ND r
  have d:NC ((G++(X++[Vc ((l++[x]).flatMap enc)]))++[]) (G.length+X.length)=Vc ((l++[x]).flatMap enc):=by
   rw [Na,OL]
   rw [show X.length=X.length+0 from rfl,Nv0];rfl
  refine ⟨G++(X++[Vc ((l++[x]).flatMap enc)]), ?_,Own.new d (by omega),fun A H0 _ hc=>(hc.app).app,fun j m _=>?_,by simp;omega,fun j m=>?_⟩
  ·have g:NC (G++X) R=Vc (l.flatMap enc):=by rw [NK t];exact r
   have f:AM.loadCells (G++X) ⟨R,0,none⟩ (l.length*e)=some (l.flatMap enc):=by
    simp only [QM,g,N0,QW he,Ng,if_true,Po]
    rw [Oo (by rw [QW he];exact Ng _)]
   have hl:AM.loadCells (G++X) ⟨b,0,none⟩ (1*e)=some (enc x):=by
    simp only [QM,s,N0,Nat.one_mul,he,Ng,if_true,Po]
    rw [Oo (by rw [he];exact Ng _)]
   subst h1
   have q:¬l.length=loose e:=by unfold loose;omega
   simp only [OW,firstCells,lenOf,hl,f,if_false,Oe,q,Nat.one_ne_zero]
   rw [Nf (by omega),Nk h2,Nf (by omega)]
   simp [place]
  ·rw [Na,NK m]
  ·rw [Na,OL,Nc,Od m,Nc]
end
def i64 (n:Int):Value:=Vi n
end Go.Proofs.YtohnaffmcjbpoaaGreat.Fn


namespace Go.Proofs.YtohnaffmcjbpoaaGreat.Fn
open Go.AM Go.AM.Sym Go.Net Go.Flow
def SA (p:Pr):List Value:=[Vi p.tail,Vi p.head,Vi p.room,Vi p.flow]
theorem QC (p:Pr):(SA p).length=4:=id rfl
theorem N18 {p:Pr}:(SA p)[0]? = some (Vi p.tail):=id rfl
theorem N17 {p:Pr}:(SA p)[1]? = some (Vi p.head):=id rfl
def Ta (x y z w:Value):List Value:=[x,y,z,w]
theorem Nfa {x:Int×Int}:∀{PL:List (Int×Int)} {j:Nat},j<PL.length->gt PL j=x->(∀i,i<j->gt PL i≠x)->PL.idxOf x=j
 | [],_,h,_,_=>by simp at h
 | a::PL,0,_,h,_=>by
   have h:a=x:=h
   rw [h,List.idxOf_cons_self]
 | a::PL,j+1,hj,h,hn=>by
   have b:a≠x:=hn 0 (by omega)
   rw [OT] at h
   rw [List.idxOf_cons,cond_eq_ite,Nf (by simpa using b),Nfa (by simpa using hj) h fun i hi=>by have:=hn (i+1) (by omega);rw [OT] at this;exact this]
section
variable {α:Type} {lim e cap:Nat} {G G':NB} {enc:α->List Value} {p:Option Addr} {l:List α}
theorem TF.same (h:TF lim G enc e p cap l) (c:∀a,p=some a->NC G' a.block=NC G a.block):TF lim G' enc e p cap l:=by
 rcases h with h | ⟨R,rfl,h1,h2,b,d⟩
 ·rcases h with h | ⟨R,rfl,h1,h2,b⟩
  ·exact .inl (.inl h)
  ·exact .inl (.inr ⟨R,rfl,h1,by rw [c _ rfl];exact h2,b⟩)
 ·exact .inr ⟨R,rfl,h1,h2,by rw [c _ rfl];exact b,d⟩
theorem TF.app (h:TF lim G enc e p cap l) (X:NB):TF lim (G++X) enc e p cap l:=h.same fun a b=>NK (h.block b).2
theorem TF.mut {R:Nat} (h:TF lim G enc e p cap l) (m:Mut G G' R) (hp:∀a,p=some a->a.block≠R):TF lim G' enc e p cap l:=h.same fun a b=>m.other _ (hp a b)
theorem TF.moreF {lim' bytes:Nat} (h:TF lim G enc e p cap l) (f:lim'<=lim) (he:∀x,(enc x).length=e) (d:e≠0) (m:List α) (j:m≠[]) (k:(l.length+m.length)*bytes<=PM) (hn:l.length+m.length<2 ^ 61)
  (X:NB) {x:Value} {str:Bool} (h1:firstCells (G++X) e str x=some (m.flatMap enc)) (h2:lenOf x=some m.length) :
  ∃b,OW lim' none e bytes str (.slice p l.length cap) x (G++X)=some (.slice (Sa ((G++X).length)) (l.length+m.length) (loose e),b++[])/\Own G.length b enc e (Sa ((G++X).length)) (loose e) (l++m)/\Chg (PZ p) G b/\(G++X).length<b.length:=by
 rcases h with h | ⟨R,rfl,rfl,k2,k3,n⟩
 ·exact Own.moreF h f he d m j k hn X h1 h2
 ·have g:¬m.length=0:=fun q=>j (List.length_eq_zero_iff.1 q)
  have c:NC (G++X) R=Vc (l.flatMap enc):=by rw [NK (ND k3)];exact k3
  have a:AM.loadCells (G++X) ⟨R,0,none⟩ (l.length*e)=some (l.flatMap enc):=by
   simp only [QM,c,N0,QW he,Ng,if_true,Po]
   rw [Oo (by rw [QW he];exact Ng _)]
  have i:¬l.length=loose e:=by unfold loose;omega
  refine ⟨G++(X++[Vc ((l++m).flatMap enc)]), ?_, ?_,Chg.refl.app,by simp⟩
  ·simp only [OW,h1,h2,a,i,g,if_false]
   rw [Nf (by omega),Nk k2,Nf (by omega)]
   simp [place]
  ·refine Own.new ?_ (by simp)
   rw [<-Nr];exact NN
end
theorem Nb9 [OB] {lim M cp:Nat} {pp:Option Addr} {va vd vq:Value} {PL:List (Int×Int)} {p t:Int} {G:NB} {Q:Value->NB->Prop} (w:TF M G enc2 2 pp cp PL) (hl:PL.length<2 ^ 28) (R:lim<=G.length) (S:lim<=M) (aa:M<=G.length)
  (hQ:∀G' o v,TF M G' enc2 2 o v (addN PL (p,t))->Chg (PZ pp) G G'->(∀b∈PZ o,b∈PZ pp\/G.length<=b)->Q (.tuple #[Vi ((addN PL (p,t)).idxOf (p,t):Nat),.agg (Ta (.slice o (addN PL (p,t)).length v) va vd vq).toArray]) G') :
  NR E false lim 81 [.agg (Ta (.slice pp PL.length cp) va vd vq).toArray,Vi p,Vi t] G Q:=by
 refine Te (by decide) e81 rfl ?_
 rw [b81,c81]
 simp only [n81,SB,seval,NJ,NH,place,NA]
 have N:NC (G++[Vc (Ta (.slice pp PL.length cp) va vd vq),Vc (Ta Vz Vz (Vi 0) Vz)]) G.length=Vc (Ta (.slice pp PL.length cp) va vd vq):=NN
 have O:NC (G++[Vc (Ta (.slice pp PL.length cp) va vd vq),Vc (Ta Vz Vz (Vi 0) Vz)]) (G.length+1)=Vc (Ta Vz Vz (Vi 0) Vz):=OL
 refine NM (fun j=>PL.length-j) (fun j fr G'=>j<=PL.length/\fr 1=Vi p/\fr 2=Vi t/\fr 3=Vp G.length/\fr 7=Vp (G.length+1)/\fr 8=Vi j/\NZ (G++[Vc (Ta (.slice pp PL.length cp) va vd vq),Vc (Ta Vz Vz (Vi 0) Vz)]) G'/\∀i,i<j->gt PL i≠(p,t)) 0 ⟨Nv _,rfl,rfl,rfl,rfl,rfl,.refl,fun i hi=>by omega⟩ ?_
 intro j fr G' ⟨hj,f1,f2,f3,f7,f8,r,f⟩ hN
 rw [NQ Nz0.eq_1]
 have b3:=r.cells N
 have b7:=r.cells O
 have k3:=fun Z=>(NZ.refl.app (X:=Z)).cells b3
 have k7:=fun Z=>(NZ.refl.app (X:=Z)).cells b7
 have d:NZ G G':=NZ.trans (NZ.refl.app) r
 have T:=r.len
 simp only [Nb,Nj,Nl] at T
 refine NI ?_
 unfold Ta at k3 k7
 by_cases c:j<PL.length
 case pos=>
  have W:=d.sl (w.sl PO)
  have l0:∀Z,AM.loadCell (G'++Z) ((SX pp 2 j).add 0)=some (Vi (gt PL j).1):=fun Z=>(W.app Z).loadCell PO c (j:=0) (by decide)
  have l1:∀Z,AM.loadCell (G'++Z) ((SX pp 2 j).add 1)=some (Vi (gt PL j).2):=fun Z=>(W.app Z).loadCell PO c (j:=1) (by decide)
  have Y:=QN W c rfl
  have w1:IntKind.i64.wrap ((j:Int)+1)=((j+1:Nat):Int):=NS (by omega)
  by_cases q:(gt PL j).1=p
  case neg=>
   simp only [n81,f1,f3,f8,c,k3,l0,Y,w1,Nn q,SB,seval,NJ,NF]
   exact hN (j+1) _ _ ⟨by omega,f1,f2,f3,f7,rfl,r.app,fun i hi=>by
    rcases (by omega:i<j\/i=j) with h | h
    ·exact f i h
    ·rw [h];intro e;rw [e] at q;exact q rfl⟩ (by omega)
  by_cases u:(gt PL j).2=t
  case neg=>
   simp only [n81,f1,f2,f3,f8,c,k3,l0,l1,Y,w1,q,Nn u,SB,seval,NJ,NF]
   exact hN (j+1) _ _ ⟨by omega,f1,f2,f3,f7,rfl,r.app,fun i hi=>by
    rcases (by omega:i<j\/i=j) with h | h
    ·exact f i h
    ·rw [h];intro e;rw [e] at u;exact u rfl⟩ (by omega)
  have y:gt PL j=(p,t):=R4 q u
  have g:(p,t)∈PL:=by rw [<-y];exact PK c
  have k:addN PL (p,t)=PL:=Nk g
  have n:(addN PL (p,t)).idxOf (p,t)=j:=by rw [k];exact Nfa c y f
  obtain ⟨G2,e2,k2,U⟩:=OO (ND b7) (Vc (Ta (.slice pp PL.length cp) va vd vq))
  have B:=fun Z=>(NZ.refl.app (X:=Z)).cells k2
  have ac:=U.len
  unfold Ta at e2 B
  simp only [n81,r81,f1,f2,f3,f7,f8,c,k3,k7,l0,l1,Y,q,u,e2,B,show lim<=G.length+1 by omega,SB,seval,NJ,NF,NA,NG]
  have z:=hQ (G2++[]) pp cp (by rw [k];exact ((w.chg (A:=[]) d.chg (fun _ _ h=>by cases h)).mut U fun a l e=>by have:=(w.block l).2;omega).app _) ((d.chg.mut U (.inr (by omega))).app) (fun b I=>.inl I)
  rw [n,k] at z
  exact z
 obtain rfl:j=PL.length:=by omega
 have g:(p,t)∉PL:=fun g=>by
  obtain ⟨i,hi,e⟩:=List.mem_iff_getElem.1 g
  exact f i hi (by rw [OJ hi];exact e)
 have k:addN PL (p,t)=PL++[(p,t)]:=Nf g
 have n:(addN PL (p,t)).idxOf (p,t)=PL.length:=by
  rw [k,List.idxOf_append,Nf g,List.idxOf_cons_self];omega
 have nb:∀b,G.length<=b->b∉PZ pp:=fun b I g=>by
  obtain ⟨a,l,rfl⟩:=NT.1 g
  have:=(w.block l).2;omega
 have L:TF M G' enc2 2 pp cp PL:=w.chg (A:=[]) d.chg (fun _ _ h=>by cases h)
 obtain ⟨G4,e4,O4,K,P⟩:=TF.moreF L (lim':=lim) (bytes:=16) S PO (by decide) [(p,t)] (by simp) (by simp;unfold PM;omega) (by simp;omega) [Vc [Vi p,Vi t]] (x:=.slice (Sa G'.length) 1 1) (str:=false)
  (QG (m:=[(p,t)]) (Sl.row (ro:=false) PO NN)) rfl
 simp only [Nb,Nj,Nl,N0] at e4 O4 P
 have s:=K.cells b3 (nb _ (Ng _))
 have b74:=K.cells b7 (nb _ (by omega))
 obtain ⟨G5,e5,k5,J⟩:=OO (ND s) (Vc (Ta (.slice (Sa (G'.length+1)) (PL.length+1) (loose 2)) va vd vq))
 have b75:=J.cells b74 (by omega)
 obtain ⟨G6,e6,k6,V⟩:=OO (ND b75) (Vc (Ta (.slice (Sa (G'.length+1)) (PL.length+1) (loose 2)) va vd vq))
 have ad:=J.len
 have ae:=V.len
 have C:=fun Z=>(NZ.refl.app (X:=Z)).cells s
 have D:=fun Z=>(NZ.refl.app (X:=Z)).cells k5
 have H:=fun Z=>(NZ.refl.app (X:=Z)).cells b75
 have F:=fun Z=>(NZ.refl.app (X:=Z)).cells k6
 have wz:IntKind.i64.wrap (((PL.length+1:Nat):Int)-1)=(PL.length:Int):=by rw [NY (by omega) (by omega)];omega
 have ag:IntKind.i64.wrap ((PL.length:Int)+1-1)=(PL.length:Int):=by rw [NY (by omega) (by omega)];omega
 unfold Ta at C D H F e5 e6
 simp only [n81,r81,f1,f2,f3,f7,f8,k3,e4,C,e5,D,H,e6,F,wz,show lim<=G.length+1 by omega,R,SB,seval,NJ,NF,place,NA,NG]
 have z:=hQ (G6++[]) (Sa (G'.length+1)) (loose 2) (by
  rw [k]
  exact .inl ((((O4.le (by omega)).mut J fun a l e=>by cases l;simp only at e;omega).mut V fun a l e=>by cases l;simp only at e;omega).app _)) ((((d.chg.trans K).mut J (.inr (by omega))).mut V (.inr (by omega))).app) (fun b I=>.inr (by simp only [PZ,Ni] at I;omega))
 rw [n,k,Nb,Ow] at z
 exact z
theorem M4 [OB] {lim c:Nat} {p:Option Addr} {s:List Flow.Src} {H:NB} {Q:Value->NB->Prop} (F:Sl H encS 3 p s) (hn:s.length<=200) (e:lim<=H.length)
  (A:∀G u c',Own H.length G encS 3 u c' s->Chg [] H G->Q (.slice u s.length c') G):NR E false lim 28 [.slice p s.length c] H Q:=by
 refine Te (by decide) e28 rfl ?_
 rw [b28,c28]
 refine NI ?_
 simp only [n28,SB,seval,NJ]
 refine NM (fun z:Nat×Option Addr×Nat=>s.length-z.1) (fun z fr G'=>z.1<=s.length/\fr 0=.slice p s.length c/\fr 3=.slice z.2.1 z.1 z.2.2/\fr 4=Vi z.1/\Own H.length G' encS 3 z.2.1 z.2.2 (s.take z.1)/\Chg [] H G') (0,none,0) ⟨Nv _,rfl,by rfl,by rfl,.nil,Chg.refl.app⟩ ?_
 rintro ⟨j,q,k⟩ fr G' ⟨B,o,f3,f4,l,i⟩ y
 simp only at B f3 f4 l
 have hl:=i.len
 rw [NQ N0m.eq_1]
 refine NI ?_
 by_cases a:j<s.length
 case neg=>
  obtain rfl:j=s.length:=by omega
  rw [Of] at l
  simp only [n28,r28,o,f3,f4,a,SB,seval,NJ,NF,reduceCtorEq,NG]
  exact A _ q k (l.app _) i.app
 have n:=i.sl F (fun _ _ _=>by simp)
 have f:=fun X=>(n.app X).loadCell OI a (j:=0) (by decide)
 rw [SS] at f
 have g:=fun X=>(n.app X).loadCell OI a (j:=1) (by decide)
 rw [Tn] at g
 have h:=fun X=>(n.app X).loadCell OI a (j:=2) (by decide)
 rw [Vu] at h
 have J:=fun c (kk:IntKind) (H1:NB)=>n.idx (c:=c) (k:=kk) (H1:=H1) a
 have b:(s.take j).length=j:=by rw [N6];omega
 have I:IntKind.i64.wrap ((j:Int)+1)=((j+1:Nat):Int):=NS (by omega)
 have C:lim<=G'.length:=by omega
 obtain ⟨K,p2,w,e2,t,v,r,L,D,_⟩:=l.moreD (d:=G'.length+1) (lim':=lim) (bytes:=24) e OI (by decide) [gt s j] (by rw [b];unfold PM;simp;omega) (by rw [b];simp;omega) hl [Vc (encS (gt s j)),.dead] (by omega) (by simp) (x:=.slice (Sa G'.length) 1 1) (str:=false)
  (QG (m:=[gt s j]) (Sl.row OI (by rw [NN];simp;rfl))) rfl
 rw [b] at e2
 rw [<-QH a] at t
 simp only [encS,Nj,Nl,N0] at e2
 simp only [n28,o,f3,f4,a,f,g,h,J,I,e2,SB,seval,NJ,NF,reduceCtorEq,place]
 exact y (j+1,p2,w) _ _ ⟨by show j+1<=_;omega,o,rfl,rfl,t,v [] H (Ng _) i⟩ (by show s.length-(j+1)<s.length-j;omega)
theorem Nd2 [OB] {lim c:Nat} {p:Option Addr} {s:List Flow.Ld} {H:NB} {Q:Value->NB->Prop} (I:Sl H QI 4 p s) (hn:s.length<=200) (e:lim<=H.length)
  (B:∀G v c',Own H.length G QI 4 v c' s->Chg [] H G->Q (.slice v s.length c') G):NR E false lim 31 [.slice p s.length c] H Q:=by
 refine Te (by decide) e31 rfl ?_
 rw [b31,c31]
 refine NI ?_
 simp only [n31,SB,seval,NJ]
 refine NM (fun z:Nat×Option Addr×Nat=>s.length-z.1) (fun z fr G'=>z.1<=s.length/\fr 0=.slice p s.length c/\fr 3=.slice z.2.1 z.1 z.2.2/\fr 4=Vi z.1/\Own H.length G' QI 4 z.2.1 z.2.2 (s.take z.1)/\Chg [] H G') (0,none,0) ⟨Nv _,rfl,by rfl,by rfl,.nil,Chg.refl.app⟩ ?_
 rintro ⟨j,q,k⟩ fr G' ⟨C,r,f3,f4,o,n⟩ A
 simp only at C f3 f4 o
 have hl:=n.len
 rw [NQ N0j.eq_1]
 refine NI ?_
 by_cases a:j<s.length
 case neg=>
  obtain rfl:j=s.length:=by omega
  rw [Of] at o
  simp only [n31,r31,r,f3,f4,a,SB,seval,NJ,NF,reduceCtorEq,NG]
  exact B _ q k (o.app _) n.app
 have l:=n.sl I (fun _ _ _=>by simp)
 have f:=fun X=>(l.app X).loadCell NU a (j:=0) (by decide)
 rw [Su] at f
 have g:=fun X=>(l.app X).loadCell NU a (j:=1) (by decide)
 rw [Sn] at g
 have h:=fun X=>(l.app X).loadCell NU a (j:=2) (by decide)
 rw [Tx] at h
 have i:=fun X=>(l.app X).loadCell NU a (j:=3) (by decide)
 rw [Ue] at i
 have K:=fun c (kk:IntKind) (H1:NB)=>l.idx (c:=c) (k:=kk) (H1:=H1) a
 have b:(s.take j).length=j:=by rw [N6];omega
 have J:IntKind.i64.wrap ((j:Int)+1)=((j+1:Nat):Int):=NS (by omega)
 have D:lim<=G'.length:=by omega
 obtain ⟨L,p2,y,e2,u,w,t,M,F,_⟩:=o.moreD (d:=G'.length+1) (lim':=lim) (bytes:=32) e NU (by decide) [gt s j] (by rw [b];unfold PM;simp;omega) (by rw [b];simp;omega) hl [Vc (QI (gt s j)),.dead] (by omega) (by simp) (x:=.slice (Sa G'.length) 1 1) (str:=false)
  (QG (m:=[gt s j]) (Sl.row NU (by rw [NN];simp;rfl))) rfl
 rw [b] at e2
 rw [<-QH a] at u
 simp only [QI,Nj,Nl,N0] at e2
 simp only [n31,r,f3,f4,a,f,g,h,i,K,J,e2,SB,seval,NJ,NF,reduceCtorEq,place]
 exact A (j+1,p2,y) _ _ ⟨by show j+1<=_;omega,r,rfl,rfl,u,w [] H (Ng _) n⟩ (by show s.length-(j+1)<s.length-j;omega)
end Go.Proofs.YtohnaffmcjbpoaaGreat.Fn


namespace Go.Flow
open Go.AM Go.Net
theorem Nln {a b c:Ld} (h1:¬RH b a) (h2:¬RH c b):¬RH c a:=by unfold RH at *;omega
theorem Nkn {O:List Ld} {x:Ld} {k:Nat} (l:O.Pairwise (fun a b=>¬RH b a)) (p:k<=O.length) (h1:∀j,k<=j->j<O.length->RH x (gt O j)) (h2:∀j,j+1=k->¬RH x (gt O j)) :
  (O.take k++[x]++O.drop k).Pairwise (fun a b=>¬RH b a)/\(O.take k++[x]++O.drop k).Perm (O++[x]):=by
 have c:=l
 rw [<-P8 k O,Rr] at c
 obtain ⟨m,n,e⟩:=c
 have hd:∀y∈O.drop k,RH x y:=fun y d=>by
  obtain ⟨j,g,rfl⟩:=List.mem_iff_getElem.1 d
  rw [Ps] at g
  rw [Rj]
  have:=h1 (k+j) (by omega) (by omega)
  rwa [OJ (by omega)] at this
 have o:∀y∈O.take k,¬RH x y:=fun y d=>by
  obtain ⟨j,g,rfl⟩:=List.mem_iff_getElem.1 d
  rw [N6] at g
  rw [List.getElem_take]
  have hl:=h2 (k-1) (by omega)
  rcases Om j (k-1) with i | hge
  ·have hp:=N5.1 l j (k-1) (by omega) (by omega) i
   rw [OJ (by omega)] at hl
   exact Nln hp hl
  ·obtain rfl:j=k-1:=by omega
   rwa [OJ (by omega)] at hl
 refine ⟨?_, ?_⟩
 ·rw [Nr,Rr]
  refine ⟨m, ?_,fun a h b f=>?_⟩
  ·rw [List.singleton_append,List.pairwise_cons]
   exact ⟨fun y d h=>by have:=hd y d;unfold RH at *;omega,n⟩
  ·rcases Nw.1 f with h' | h'
   ·simp only [Ni] at h';subst h';exact o a h
   ·exact e a h b h'
 ·have:=(List.perm_append_comm (l₁:=[x]) (l₂:=O.drop k)).append_left (O.take k)
  rw [<-Nr (O.take k) (O.drop k),P8] at this
  rwa [Nr]
end Go.Flow
namespace Go.Proofs.YtohnaffmcjbpoaaGreat.Fn
open Go.AM Go.AM.Sym Go.Net Go.Flow
theorem Nvq [OB] {lim n c B13:Nat} {p:Option Addr} {O:List Flow.Ld} {x:Flow.Ld} {v1 v2 v3 v8 v9 v10:Value} {G:NB} {fr:Nat->Value} {K:List AItem} {Q:Value->NB->Prop}
  (A:Sl G QI 4 p O) (hn:O.length=n) (J:n<2 ^ 40) (hB:NC G B13=Vc (QI x))
  (f1:fr 1=v1) (f2:fr 2=v2) (f3:fr 3=v3) (f8:fr 8=v8) (f9:fr 9=v9) (f10:fr 10=v10) (f7:fr 7=.slice p n c) (f13:fr 13=Vp B13) (f14:fr 14=Vi n)
  (z:∀fr' k,k<=n->(∀j,k<=j->j<O.length->RH x (gt O j))->(∀j,j+1=k->¬RH x (gt O j))->fr' 1=v1->fr' 2=v2->fr' 3=v3->fr' 8=v8->fr' 9=v9->fr' 10=v10->fr' 7=.slice p n c->fr' 13=Vp B13->fr' 14=Vi k->PI E a52 lim K fr' (G++[]) Q) :
  PI E a52 lim (.code (.loop Nur)::.inBlock 4::K) fr G Q:=by
 subst hn
 refine NM (fun k:Nat=>k) (fun k d w=>k<=O.length/\(∀j,k<=j->j<O.length->RH x (gt O j))/\d 1=v1/\d 2=v2/\d 3=v3/\d 8=v8/\d 9=v9/\d 10=v10/\d 7=.slice p O.length c/\d 13=Vp B13/\d 14=Vi k/\w=G++[]) O.length ⟨Ng _,fun j h1 h2=>by omega,f1,f2,f3,f8,f9,f10,f7,f13,f14,by simp⟩ ?_
 rintro k d w ⟨s,f,q1,q2,q3,t,u,l,q,g,e,rfl⟩ r
 rw [NQ Nur.eq_1]
 have y:=fun X=>(NZ.refl.app (X:=X)).cells hB
 match k,s,f,e,r with
 | 0,s,f,e,r=>
   replace e:d 14=Vi 0:=e
   have D:¬(0:Int)<0:=by decide
   simp only [n52,e,Nn D,SB,seval,NJ,NF]
   exact z _ 0 (Nv _) f (fun j I=>by omega) q1 q2 q3 t u l q g (by rw [show (Vi ((0:Nat):Int):Value)=Vi 0 from rfl];exact e)
 | k+1,s,f,e,r=>
   have o:k<O.length:=by omega
   have hp:(0:Int)<((k+1:Nat):Int):=by omega
   have v:IntKind.i64.wrap (((k+1:Nat):Int)-1)=(k:Int):=by rw [show ((k+1:Nat):Int)-1=(k:Int) by omega];exact NY (by omega) (by omega)
   obtain ⟨kk,m⟩:∃kk:Int,kk=((k+1:Nat):Int):=⟨_,rfl⟩
   rw [<-m] at hp v e
   have B:=fun X=>(A.app X).loadCells NU o
   have C:=QN A o rfl
   have i:=fun (H:NB) (mp:Bool) (lim:Nat) (Q:Value->NB->Prop)=>Njx (a:=gt O k) (b:=x) (mp:=mp) (lim:=lim) (H:=H) (Q:=Q)
   by_cases h1:RH x (gt O k)
   ·rw [No h1] at i
    simp only [n52,q,g,e,Nq hp,v,B,C,y,i,NU,OH,SB,seval,NE,NJ,NF]
    exact r k _ _ ⟨by omega,fun j h2 F=>by
     rcases (by omega:j=k\/k+1<=j) with h | h
     ·rw [h];exact h1
     ·exact f j h F,q1,q2,q3,t,u,l,q,g,rfl,rfl⟩ (by omega)
   ·rw [Nx h1] at i
    simp only [n52,q,g,e,Nq hp,v,B,C,y,i,NU,OH,SB,seval,NE,NJ,NF]
    exact z _ (k+1) s f (fun j I=>by rw [show j=k by omega];exact h1) q1 q2 q3 t u l q g (by rw [<-m];exact e)
theorem N06 {lim n c k:Nat} {p:Option Addr} {O:List Flow.Ld} {x:Flow.Ld} {H G:NB} (J:Own H.length G QI 4 p c O) (N:Chg [] H G) (hn:O.length=n) (K:k<=n) (Q:n<2 ^ 30) (L:lim<=H.length) :
  ∃p1 f a t r m p2 g o u s,Ua 4 (.slice p n c) none (some (Vi k)) none=some (.slice p1 k f)/\
   OW lim none 4 32 false Vz (.slice p1 k f) (G++[])=some (.slice t k r,a++[])/\
   OW lim none 4 32 false (.slice t k r) (.slice (Sa a.length) 1 1) (a++[Vc (QI x)])=some (.slice (Sa (a.length+1)) (k+1) (loose 4),m++[])/\
   Ua 4 (.slice p n c) (some (Vi k)) none none=some (.slice p2 (n-k) g)/\
   OW lim none 4 32 false (.slice (Sa (a.length+1)) (k+1) (loose 4)) (.slice p2 (n-k) g) (m++[])=some (.slice u (n+1) s,o++[])/\
   Own H.length o QI 4 u s (O.take k++[x]++O.drop k)/\Chg [] G o/\Chg [] G a/\Chg [] G m/\lim<=a.length:=by
 subst hn
 have hl:=N.len
 have M:=J.sl NU
 have d:=J.capOk
 obtain ⟨p1,f,S,s1,_,_,_⟩:=Yw (vlo:=none) (vhi:=some (Vi k)) (lo:=0) (hi:=k) M d NU (fun cap h=>by rw [Nmb (by omega) (by omega),O0]) (Nv _) K (by omega)
 rw [Nat.sub_zero,Po] at *
 have j:(O.take k).length=k:=by rw [N6];omega
 have z:firstCells (G++[]) 4 false (.slice p1 k f)=some ((O.take k).flatMap QI):=by
  have:=QG (k:=f) (s1.app [])
  rw [j] at this
  exact this
 obtain ⟨a,t,r,v,F,C,U,X⟩:=(Own.nil (lim:=G.length) (G:=G) (enc:=QI) (e:=4)).more (lim':=lim) (bytes:=32) (by omega) NU (by decide) (O.take k) (by simp;unfold PM;omega) (by simp;omega) (Ng _) [] (x:=.slice p1 k f) (str:=false) z (by show some k=some _;rw [j])
 simp only [Nl,N0,Ob,j,Na] at v F C
 have i:=C [] G (Ng _) Chg.refl
 have B:=i.len
 obtain ⟨m,w,q,D,V,P,_⟩:=F.step (lim':=lim) (bytes:=32) (by omega) NU (by decide) x (by rw [j];unfold PM;omega) (by rw [j];omega) B [Vc (QI x)] a.length 1 (by rw [NN];rfl)
 simp only [Nj,Nl,N0,j,Na] at w q D
 have b:=D [] G (Ng _) i
 have R:=b.sl M fun _ _ _=>by simp
 obtain ⟨p2,g,T,s2,_,_,_⟩:=Yw (vlo:=some (Vi k)) (vhi:=none) (lo:=k) (hi:=O.length) R d NU (fun cap h=>by rw [Nda (by omega) (by omega),O0]) K (Ng _) (by omega)
 rw [Of] at s2
 have hd:(O.drop k).length=O.length-k:=Ps
 have A:firstCells (m++[]) 4 false (.slice p2 (O.length-k) g)=some ((O.drop k).flatMap QI):=by
  have:=QG (k:=g) (s2.app [])
  rw [hd] at this
  exact this
 have l:(O.take k++[x]).length=k+1:=by rw [Nb,j];rfl
 obtain ⟨o,u,s,y,I,E,W,Y⟩:=q.more (lim':=lim) (bytes:=32) (by omega) NU (by decide) (O.drop k) (by rw [l,hd];unfold PM;omega) (by rw [l,hd];omega) b.len [] (x:=.slice p2 (O.length-k) g) (str:=false) A (by show some (O.length-k)=some _;rw [hd])
 rw [l,hd,show k+1+(O.length-k)=O.length+1 by omega] at y
 simp only [Na] at I E y v w
 refine ⟨p1,f,a,t,r,m,p2,g,o,u,s,S,by simpa using v,by simpa using w,T,by simpa using y,I.le (by omega),E [] G (Ng _) b,i,b,by omega⟩
theorem Nt9 {C:List (Leg×Int)} {c:Leg×Int} {O:List Flow.Ld} (h:O.Perm (C.map Tv)):(O++[Tv c]).Perm ((C++[c]).map Tv):=by
 rw [Pe];exact h.append_right _
theorem MV [OB] {lim cp cl:Nat} {pp pl:Option Addr} {P:List Int} {L:List Leg} {to dl:Int} {H:NB} {Q:Value->NB->Prop} (hn:NetIn H pp pl P L) (hF:∀l∈L,Fine l) (ba:L.length<=8) (ad:0<=dl) (ae:dl<=OP) (aj:lim<=H.length)
  (hQ:∀G q c O,Own H.length G QI 4 q c O->O.Perm ((NP L to dl).map Tv)->O.Pairwise (fun x y=>¬RH y x)->Chg [] H G->Q (.slice q O.length c) G) :
  NR E false lim 52 [.agg (QJ pp P.length cp pl L.length cl).toArray,Vi to,Vi dl] H Q:=by
 have mt:OP=1051898399:=rfl
 refine Te (by decide) e52 rfl ?_
 rw [b52,c52]
 refine NI ?_
 simp only [n52,SB,seval,NJ,NH,place,NA]
 refine NM (fun z:Nat×List Flow.Ld×Option Addr×Nat=>L.length-z.1) (fun z fr G=>z.1<=L.length/\fr 1=Vi to/\fr 2=Vi dl/\fr 3=Vp H.length/\fr 8=Vi z.1/\fr 7=.slice z.2.2.1 z.2.1.length z.2.2.2/\H.length<G.length/\NC G H.length=Vc (QJ pp P.length cp pl L.length cl)/\Own H.length G QI 4 z.2.2.1 z.2.2.2 z.2.1/\z.2.1.Perm ((NP (L.take z.1) to dl).map Tv)/\z.2.1.Pairwise (fun x y=>¬RH y x)/\Chg [] H G) (0,[],none,0)
  ⟨Nv _,rfl,rfl,rfl,by rfl,by rfl,by simp,NN,.nil,List.Perm.refl _,List.Pairwise.nil,Chg.refl.app⟩ ?_
 rintro ⟨i,O,q,c⟩ fr G ⟨hi,f1,f2,f3,f8,f7,be,hB,hO,hp,Z,hC⟩ hN
 simp only at hi f8 f7 hO hp Z
 rw [NQ N0c.eq_1]
 refine NI ?_
 have bX:=fun X=>(NZ.refl.app (X:=X)).cells hB
 by_cases B:i<L.length
 case neg=>
  obtain rfl:i=L.length:=by omega
  rw [Of] at hp
  simp only [n52,r52,f3,f8,f7,B,bX,Sr,SB,seval,NJ,NF,NG]
  exact hQ _ q c O (hO.app _) hp Z hC.app
 have nG:=hn.ext hC.ext
 have lL:=fun X=>(nG.sl.app X).loadCells NV B
 have xL:=QN nG.sl B rfl
 obtain ⟨l,hl⟩:∃l,l=gt L i:=⟨_,rfl⟩
 rw [<-hl] at lL
 have Y:Fine l:=by rw [hl];exact hF _ (PK B)
 have ap:=Y
 unfold Fine at ap
 obtain ⟨d0,hq,bf,bg,bh⟩:=Nq4 ad ae
 have w:=Ny1 ad ae
 have ws:IntKind.i64.wrap (dl-20160)=dl-20160:=NY (by omega) (by omega)
 have a3:IntKind.i64.wrap (d0-1)=d0-1:=NY (by omega) (by omega)
 have w1:IntKind.i64.wrap ((i:Int)+1)=((i+1:Nat):Int):=NS (by omega)
 have ah:lim<=G.length:=by omega
 simp only [n52,f2,f3,f8,B,bX,Sr,lL,xL,NV,NL,ah,ws,hq,a3,SB,seval,NJ,NF,place,NA]
 have C:NP (L.take (i+1)) to dl=NP (L.take i) to dl++Xe to dl l:=by rw [hl];exact Nji B
 have aq:=SC (L:=L.take i) (to:=to) (dl:=dl) fun x hx=>hF x (Pz hx)
 rw [N6] at aq
 refine NM (fun z:Int×List Flow.Ld×Option Addr×Nat=>(dl / 1440+1-z.1).toNat) (fun z m K=>d0-1<=z.1/\z.1<=dl / 1440+1/\m 1=Vi to/\m 2=Vi dl/\m 3=Vp H.length/\m 8=Vi i/\m 9=Vp G.length/\m 10=Vi z.1/\m 7=.slice z.2.2.1 z.2.1.length z.2.2.2/\NC K H.length=Vc (QJ pp P.length cp pl L.length cl)/\NC K G.length=Vc (QO l)/\Own H.length K QI 4 z.2.2.1 z.2.2.2 z.2.1/\z.2.1.Perm ((NP (L.take i) to dl++(if l.frm=to then [] else upC l dl z.1.toNat)).map Tv)/\z.2.1.Pairwise (fun x y=>¬RH y x)/\Chg [] H K) (d0-1,O,q,c)
  ⟨Oa _,by show d0-1<=_;omega,f1,f2,f3,f8,rfl,rfl,f7,(NZ.refl.app).cells hB,NN,hO.app _,by rw [Nej Y (by show (((d0-1).toNat:Nat):Int)<=_;omega),ite_self,Na];exact hp,Z,hC.app⟩ ?_
 rintro ⟨d,g,q2,T⟩ m K ⟨au,av,g1,A,V,W,D,j,N,t,b9,o,f,b,u⟩ F
 simp only at au av j N o f b
 rw [NQ N0d.eq_1]
 refine NI ?_
 have k9:=fun X=>(NZ.refl.app (X:=X)).cells b9
 have bb:=ND b9
 have I:=f.length_eq
 rw [Ou,Nb] at I
 by_cases v:d<=dl / 1440
 case neg=>
  simp only [n52,A,W,j,w,v,w1,SB,seval,NJ,NF]
  refine hN (i+1,g,q2,T) _ _ ⟨by show i+1<=_;omega,g1,A,V,rfl,N,by simp;omega,(NZ.refl.app).cells t,o.app _, ?_,b,u.app⟩ (by show L.length-(i+1)<L.length-i;omega)
  show g.Perm ((NP (L.take (i+1)) to dl).map Tv)
  rw [C]
  rw [show d=dl / 1440+1 by omega] at f
  exact f
 by_cases a:l.frm=to
 ·simp only [n52,g1,A,W,D,j,k9,PY,w,v,w1,Nq a,SB,seval,NJ,NF]
  rw [Nk a,Na] at f
  refine hN (i+1,g,q2,T) _ _ ⟨by show i+1<=_;omega,g1,A,V,rfl,N,by simp;omega,(NZ.refl.app).cells t,o.app _, ?_,b,u.app⟩ (by show L.length-(i+1)<L.length-i;omega)
  show g.Perm ((NP (L.take (i+1)) to dl).map Tv)
  rw [C,show Xe to dl l=[] from Nk a,Na]
  exact f
 rw [Nf a] at f I
 have bk:=Nmm (l:=l) (dl:=dl) (k:=d.toNat)
 have J:IntKind.i64.wrap (d+1)=d+1:=NY (by omega) (by omega)
 have e:=fun (H:NB) (mp:Bool) (lim:Nat) (Q:Value->NB->Prop)=>N03 (mp:=mp) (lim:=lim) (d:=d) (H:=H) (Q:=Q) Y
 have r:lim<=K.length:=by omega
 by_cases a5:d<0
 ·rw [show Nci l d=none from Nf (by omega)] at e
  simp only [WR] at e
  have s:upC l dl (d+1).toNat=upC l dl d.toNat:=by rw [show (d+1).toNat=0 by omega,show d.toNat=0 by omega]
  simp only [n52,g1,A,D,j,k9,NV,PY,OH,w,v,Nn a,r,e,J,SB,seval,NE,NJ,NF,PW,place,NA]
  refine F (d+1,g,q2,T) _ _ ⟨by show d0-1<=d+1;omega,by show d+1<=_;omega,g1,A,V,W,D,rfl,N,(NZ.refl.app).cells t,(NZ.refl.app).cells b9,o.app _,by rw [Nf a];show g.Perm ((_++upC l dl (d+1).toNat).map Tv);rw [s];exact f,b,u.app⟩ (by show (dl / 1440+1-(d+1)).toNat<(dl / 1440+1-d).toNat;omega)
 have M:upC l dl (d+1).toNat=upC l dl d.toNat++UQ l dl d.toNat:=by rw [show (d+1).toNat=d.toNat+1 by omega,Nbo]
 have ag:((d.toNat:Nat):Int)=d:=by omega
 rw [show Nci l d=U4 l d.toNat from Nk ⟨by omega,by omega⟩] at e
 by_cases hg:goes l d.toNat=true
 case neg=>
  have U:UQ l dl d.toNat=[]:=Nf fun h=>hg h.1
  have s:upC l dl (d+1).toNat=upC l dl d.toNat:=by rw [M,U,Na]
  rw [show U4 l d.toNat=none from Nf hg] at e
  simp only [WR] at e
  simp only [n52,g1,A,D,j,k9,NV,PY,OH,w,v,Nn a,r,e,J,SB,seval,NE,NJ,NF,PW,place,NA]
  refine F (d+1,g,q2,T) _ _ ⟨by show d0-1<=d+1;omega,by show d+1<=_;omega,g1,A,V,W,D,rfl,N,(NZ.refl.app).cells t,(NZ.refl.app).cells b9,o.app _,by rw [Nf a];show g.Perm ((_++upC l dl (d+1).toNat).map Tv);rw [s];exact f,b,u.app⟩ (by show (dl / 1440+1-(d+1)).toNat<(dl / 1440+1-d).toNat;omega)
 rw [show U4 l d.toNat=some (1440*d+l.dep,1440*d+l.dep+l.mins) from by unfold U4;rw [Nk hg,ag]] at e
 simp only [WR] at e
 by_cases h1:dl-20160<=1440*d+l.dep
 case neg=>
  have U:UQ l dl d.toNat=[]:=Nf fun h=>by have:=h.2.1;omega
  have s:upC l dl (d+1).toNat=upC l dl d.toNat:=by rw [M,U,Na]
  have R:1440*d+l.dep<dl-20160:=by omega
  simp only [n52,g1,A,D,j,k9,NV,PY,OH,w,v,Nn a,r,e,J,ws,Nq R,SB,seval,NE,NJ,NF,PW,place,NA]
  refine F (d+1,g,q2,T) _ _ ⟨by show d0-1<=d+1;omega,by show d+1<=_;omega,g1,A,V,W,D,rfl,N,(NZ.refl.app).cells t,(NZ.refl.app).cells b9,o.app _,by rw [Nf a];show g.Perm ((_++upC l dl (d+1).toNat).map Tv);rw [s];exact f,b,u.app⟩ (by show (dl / 1440+1-(d+1)).toNat<(dl / 1440+1-d).toNat;omega)
 have R:¬1440*d+l.dep<dl-20160:=by omega
 by_cases h2:dl<1440*d+l.dep+l.mins
 ·have U:UQ l dl d.toNat=[]:=Nf fun h=>by have:=h.2.2;omega
  have s:upC l dl (d+1).toNat=upC l dl d.toNat:=by rw [M,U,Na]
  simp only [n52,g1,A,D,j,k9,NV,PY,OH,w,v,Nn a,r,e,J,ws,Nn R,Nq h2,SB,seval,NE,NJ,NF,PW,place,NA]
  refine F (d+1,g,q2,T) _ _ ⟨by show d0-1<=d+1;omega,by show d+1<=_;omega,g1,A,V,W,D,rfl,N,(NZ.refl.app).cells t,(NZ.refl.app).cells b9,o.app _,by rw [Nf a];show g.Perm ((_++upC l dl (d+1).toNat).map Tv);rw [s];exact f,b,u.app⟩ (by show (dl / 1440+1-(d+1)).toNat<(dl / 1440+1-d).toNat;omega)
 have U:UQ l dl d.toNat=[(l,1440*d+l.dep)]:=by
  unfold UQ
  rw [ag]
  exact Nk ⟨hg,by omega,by omega⟩
 obtain ⟨x,hx⟩:∃x,x=Tv (l,1440*d+l.dep):=⟨_,rfl⟩
 simp only [n52,g1,A,D,j,N,k9,NV,SV,PY,Ud,OH,w,v,Nn a,r,e,ws,Nn R,Nn h2,SB,seval,NE,NJ,NF,PW,place,NA]
 obtain ⟨S,n⟩:∃S,S=K++[Vc [Vi (1440*d+l.dep),Vi (1440*d+l.dep+l.mins)],Vc [Vi l.id,Vi (1440*d+l.dep),Vi (1440*d+l.dep+l.mins),Vi l.grams]]:=⟨_,rfl⟩
 have b13:NC S (K.length+1)=Vc (QI x):=by rw [n,OL,hx];rfl
 have aa:Chg [] H S:=by rw [n];exact u.app
 have ac:Own H.length S QI 4 q2 T g:=by rw [n];exact o.app _
 have an:NC S H.length=Vc (QJ pp P.length cp pl L.length cl):=by rw [n];exact (NZ.refl.app).cells t
 have am:NC S G.length=Vc (QO l):=by rw [n];exact (NZ.refl.app).cells b9
 have bc:S.length=K.length+2:=by rw [n];simp
 rw [<-n]
 clear n
 refine Nvq (O:=g) (x:=x) (B13:=K.length+1) (c:=T) (p:=q2) (v1:=Vi to) (v2:=Vi dl) (v3:=Vp H.length) (v8:=Vi i) (v9:=Vp G.length) (v10:=Vi d) (ac.sl NU) rfl (by omega) b13 g1 A V W D j N rfl rfl fun a8 k hk aw ay r1 r2 r3 r8 r9 a1 r7 r13 a2=>?_
 obtain ⟨p1,c1,G4,pA,cA,G5,p2,a6,G6,pC,cC,x1,eA,eB,x2,eC,O6,C6,C4,C5,bd⟩:=N06 (x:=x) ac aa rfl hk (by omega) aj
 have a0:=fun X=>(NZ.refl.app (X:=X)).cells (C4.cells b13 (by simp))
 obtain ⟨az,ak⟩:=Nkn b hk aw ay
 have ai:(g.take k++[x]++g.drop k).length=g.length+1:=by rw [ak.length_eq,Nb];rfl
 simp only [n52,a1,r7,r13,a2,x1,eA,a0,NU,OH,NL,eB,x2,eC,J,SB,seval,NJ,NF,place]
 have ao:Chg [] H G6:=aa.trans C6
 refine F (d+1,g.take k++[x]++g.drop k,pC,cC) _ _ ⟨by show d0-1<=d+1;omega,by show d+1<=_;omega,r1,r2,r3,r8,r9,rfl,by rw [ai];exact rfl,(NZ.refl.app).cells (C6.cells an (by simp)),(NZ.refl.app).cells (C6.cells am (by simp)),O6.app _, ?_,az,ao.app⟩ (by show (dl / 1440+1-(d+1)).toNat<(dl / 1440+1-d).toNat;omega)
 rw [Nf a]
 show (g.take k++[x]++g.drop k).Perm ((_++upC l dl (d+1).toNat).map Tv)
 rw [M,U,<-Nr]
 refine ak.trans ?_
 rw [hx]
 exact Nt9 f
def Wu (L:List Leg) (a:Int):Leg:=(L.find? fun l=>l.id=a).getD ⟨0,0,0,0,0,0,0,0⟩
def chR (L:List Leg) (x:Flow.Ld):List Cg:=[((Wu L x.leg).frm,x.dep-(Wu L x.leg).cut,-x.gr),((Wu L x.leg).dst,x.arr,x.gr)]
theorem Nez [OB] {mp:Bool} {lim:Nat} {pp pl:Option Addr} {P:List Int} {L:List Leg} {cp cl:Nat} {a:Int} {H:NB} {Q:Value->NB->Prop} (hn:NetIn H pp pl P L) :
  NR E mp lim 54 [.agg (QJ pp P.length cp pl L.length cl).toArray,Vi a] H Q=Q (.tuple #[.agg (QO (Wu L a)).toArray,.bool (L.find? fun l=>l.id=a).isSome]) H:=by
 rw [Nhy hn]
 unfold Wu
 cases L.find? (fun l=>l.id=a)<;>rfl
theorem Njq {p t b:Int}:∀{l:List Cg},(∀x∈l,-b<=x.2.2/\x.2.2<=b)->0<=b->-(b*l.length)<=QQ p t l/\QQ p t l<=b*l.length
 | [],_,_=>by simp [QQ]
 | x::l,h,hb=>by
   have ih:=Njq (p:=p) (t:=t) (l:=l) (fun y a=>h y (Nh _ a)) hb
   have c:=h x Nm
   rw [QQ,Nj,Int.natCast_succ,Int.mul_add,Int.mul_one]
   generalize b*(l.length:Int)=z at *
   split<;>omega
theorem Nxn [OB] {mp:Bool} {lim:Nat} {pp pl ps p4:Option Addr} {P:List Int} {L:List Leg} {s:List Flow.Src} {ld:List Flow.Ld} {cp cl cs c4:Nat} {p m:Int} {H:NB} {Q:Value->NB->Prop} (hn:NetIn H pp pl P L) (hs:Sl H encS 3 ps s) (B:Sl H QI 4 p4 ld) (ag:s.length<=60) (ae:ld.length<=200) (hg:∀x∈s,0<=x.gr/\x.gr<=1000000000) (hd:∀x∈ld,0<=x.gr/\x.gr<=1000000000) (hw:∀x∈ld,IntKind.i64.wrap (x.dep-(Wu L x.leg).cut)=x.dep-(Wu L x.leg).cut) :
  NR E mp lim 55 [.agg (QJ pp P.length cp pl L.length cl).toArray,.slice ps s.length cs,.slice p4 ld.length c4,Vi p,Vi m] H Q=Q (Vi (QQ p m (RA s++ld.flatMap (chR L)))) H:=by
 refine pc (by decide) e55 rfl rfl ?_
 rw [b55,c55]
 have T:∀j k,-(1000000000*(460:Int))<=QQ p m (RA (s.take j)++(ld.take k).flatMap (chR L))/\QQ p m (RA (s.take j)++(ld.take k).flatMap (chR L))<=1000000000*460:=fun j k=>by
  have h1:=Njq (p:=p) (t:=m) (b:=1000000000) (l:=RA (s.take j)++(ld.take k).flatMap (chR L)) (fun x hx=>by
   rcases Nw.1 hx with hx | hx
   ·obtain ⟨y,hy,rfl⟩:=List.mem_map.1 hx
    have:=hg y (Pz hy)
    show -1000000000<=y.gr/\y.gr<=1000000000
    omega
   ·obtain ⟨y,hy,hx⟩:=List.mem_flatMap.1 hx
    have:=hd y (Pz hy)
    unfold chR at hx
    simp only [Nu,On,or_false] at hx
    rcases hx with rfl | rfl
    ·show -1000000000<=-y.gr/\-y.gr<=1000000000
     omega
    ·show -1000000000<=y.gr/\y.gr<=1000000000
     omega) (by decide)
  have h2:(RA (s.take j)++(ld.take k).flatMap (chR L)).length<=460:=by
   have e:∀l:List Flow.Ld,(l.flatMap (chR L)).length=2*l.length:=fun l=>by
    induction l with
    | nil=>rfl
    | cons x l ih=>rw [N2,Nb,ih];show 2+_=_;simp only [Nj];omega
   have e1:(RA (s.take j)).length=(s.take j).length:=by unfold RA;simp
   rw [Nb,e,e1,N6,N6]
   omega
  omega
 simp only [n55,SB,seval,NJ,NH,place,NA]
 refine NM (fun j=>s.length-j) (fun j fr G=>j<=s.length/\fr 1=.slice ps s.length cs/\fr 2=.slice p4 ld.length c4/\fr 3=Vi p/\fr 4=Vi m/\fr 5=Vp H.length/\fr 12=Vi j/\fr 11=Vi (QQ p m (RA (s.take j)))/\NZ H G/\NC G H.length=Vc (QJ pp P.length cp pl L.length cl)) 0
  ⟨Nv _,rfl,rfl,rfl,rfl,rfl,by rfl,by rfl,NZ.refl.app,NN⟩ ?_
 intro j fr G ⟨hj,f1,f2,f3,f4,f5,f12,f11,S,hB⟩ Z
 rw [NQ Nz9.eq_1]
 refine NI ?_
 have bX:=fun X=>(NZ.refl.app (X:=X)).cells hB
 by_cases o:j<s.length
 case pos=>
  have Y:=S.sl hs
  have l0:=fun X=>(Y.app X).loadCell OI o (j:=0) (by decide)
  rw [SS] at l0
  have l1:=fun X=>(Y.app X).loadCell OI o (j:=1) (by decide)
  rw [Tn] at l1
  have I:=fun X=>(Y.app X).loadCell OI o (j:=2) (by decide)
  rw [Vu] at I
  have xS:=QN Y o rfl
  have D:IntKind.i64.wrap ((j:Int)+1)=((j+1:Nat):Int):=NS (by omega)
  have U:=T j 0
  rw [show (ld.take 0).flatMap (chR L)=[] from rfl,Na] at U
  have ac:=hg _ (PK o)
  have d:QQ p m (RA (s.take (j+1)))=QQ p m (RA (s.take j))+(if (gt s j).pl=p/\(gt s j).rd<=m then (gt s j).gr else 0):=by
   unfold RA
   rw [QH o,Pe,Ug]
   show _+((if (gt s j).pl=p/\(gt s j).rd<=m then (gt s j).gr else 0)+0)=_
   omega
  obtain ⟨z,hz⟩:∃z,z=QQ p m (RA (s.take j)):=⟨_,rfl⟩
  rw [<-hz] at f11 U d
  have V:IntKind.i64.wrap (z+(gt s j).gr)=z+(gt s j).gr:=NY (by omega) (by omega)
  by_cases h1:(gt s j).pl=p
  case neg=>
   rw [Nf fun h=>h1 h.1,Ox] at d
   simp only [n55,f1,f3,f12,o,l0,xS,D,Nn h1,SB,seval,NJ,NF]
   exact Z (j+1) _ _ ⟨by omega,f1,f2,f3,f4,f5,rfl,by rw [d];exact f11,S.app,(NZ.refl.app).cells hB⟩ (by omega)
  by_cases h2:(gt s j).rd<=m
  case neg=>
   rw [Nf fun h=>h2 h.2,Ox] at d
   simp only [n55,f1,f3,f4,f12,o,l0,l1,xS,D,Nq h1,Nn h2,SB,seval,NJ,NF]
   exact Z (j+1) _ _ ⟨by omega,f1,f2,f3,f4,f5,rfl,by rw [d];exact f11,S.app,(NZ.refl.app).cells hB⟩ (by omega)
  rw [Nk ⟨h1,h2⟩] at d
  simp only [n55,f1,f3,f4,f12,f11,o,l0,l1,I,xS,D,V,Nq h1,Nq h2,SB,seval,NJ,NF]
  exact Z (j+1) _ _ ⟨by omega,f1,f2,f3,f4,f5,rfl,by rw [d];exact rfl,S.app,(NZ.refl.app).cells hB⟩ (by omega)
 obtain rfl:j=s.length:=by omega
 rw [Of] at f11
 simp only [n55,f1,f12,o,SB,seval,NJ,NF]
 refine NM (fun j=>ld.length-j) (fun j C W=>j<=ld.length/\C 2=.slice p4 ld.length c4/\C 3=Vi p/\C 4=Vi m/\C 5=Vp H.length/\C 13=Vi j/\C 11=Vi (QQ p m (RA s++(ld.take j).flatMap (chR L)))/\NZ H W/\NC W H.length=Vc (QJ pp P.length cp pl L.length cl)) 0
  ⟨Nv _,f2,f3,f4,f5,by rfl,by rw [show (ld.take 0).flatMap (chR L)=[] from rfl,Na];exact f11,S.app,(NZ.refl.app).cells hB⟩ ?_
 intro j C W ⟨ad,q2,q3,A,v,q,g,f,i⟩ r
 rw [NQ N0a.eq_1]
 refine NI ?_
 have J:=fun X=>(NZ.refl.app (X:=X)).cells i
 by_cases c:j<ld.length
 case neg=>
  obtain rfl:j=ld.length:=by omega
  rw [Of] at g
  simp only [n55,r55,q2,q,g,c,SB,seval,NJ,NF,NG]
 have R:=f.sl B
 have l0:=fun X=>(R.app X).loadCell NU c (j:=0) (by decide)
 rw [Su] at l0
 have l1:=fun X=>(R.app X).loadCell NU c (j:=1) (by decide)
 rw [Sn] at l1
 have I:=fun X=>(R.app X).loadCell NU c (j:=2) (by decide)
 rw [Tx] at I
 have O:=fun X=>(R.app X).loadCell NU c (j:=3) (by decide)
 rw [Ue] at O
 have K:=QN R c rfl
 have D:IntKind.i64.wrap ((j:Int)+1)=((j+1:Nat):Int):=NS (by omega)
 have U:=T s.length j
 rw [Of] at U
 have aa:=hd _ (PK c)
 have M:=hw _ (PK c)
 obtain ⟨x,hx⟩:∃x,x=gt ld j:=⟨_,rfl⟩
 rw [<-hx] at l0 l1 I O aa M
 obtain ⟨F,N⟩:∃F,F=Wu L x.leg:=⟨_,rfl⟩
 rw [<-N] at M
 have n:=fun X (mp:Bool) (lim:Nat) (Q:Value->NB->Prop)=>Nez (mp:=mp) (lim:=lim) (cp:=cp) (cl:=cl) (a:=x.leg) (Q:=Q) ((hn.ext f).app X)
 rw [<-N] at n
 have d:QQ p m (RA s++(ld.take (j+1)).flatMap (chR L))=QQ p m (RA s++(ld.take j).flatMap (chR L))+(if F.dst=p/\x.arr<=m then x.gr else 0)+(if F.frm=p/\x.dep-F.cut<=m then -x.gr else 0):=by
  rw [QH c,Pc,<-Nr,Ug,<-hx,N]
  show _+((if (Wu L x.leg).frm=p/\x.dep-(Wu L x.leg).cut<=m then -x.gr else 0)+((if (Wu L x.leg).dst=p/\x.arr<=m then x.gr else 0)+0))=_
  omega
 obtain ⟨z,hz⟩:∃z,z=QQ p m (RA s++(ld.take j).flatMap (chR L)):=⟨_,rfl⟩
 rw [<-hz] at g U d
 have u:H.length<=W.length:=f.len
 have V:IntKind.i64.wrap (z+x.gr)=z+x.gr:=NY (by omega) (by omega)
 have wb:IntKind.i64.wrap (z-x.gr)=z-x.gr:=NY (by omega) (by omega)
 have wc:IntKind.i64.wrap (z+x.gr-x.gr)=z:=by rw [show z+x.gr-x.gr=z by omega];exact NY (by omega) (by omega)
 by_cases h1:F.dst=p
 case neg=>
  by_cases w:F.frm=p
  case neg=>
   rw [Nf fun h=>h1 h.1,Ox,Nf fun h=>w h.1,Ox] at d
   simp only [n55,q2,q3,v,q,c,J,l0,K,n,D,NV,PY,QX,OH,OG,NL,u,Nn h1,Nn w,SB,seval,NE,NJ,NF,place,NA]
   exact r (j+1) _ _ ⟨by omega,q2,q3,A,v,rfl,by rw [d];exact g,f.app,(NZ.refl.app).cells i⟩ (by omega)
  by_cases B:x.dep-F.cut<=m
  case neg=>
   rw [Nf fun h=>h1 h.1,Ox,Nf fun h=>B h.2,Ox] at d
   simp only [n55,q2,q3,A,v,q,c,J,l0,l1,K,n,D,M,NV,PY,QX,Si,OH,OG,NL,u,Nn h1,Nq w,Nn B,SB,seval,NE,NJ,NF,place,NA]
   exact r (j+1) _ _ ⟨by omega,q2,q3,A,v,rfl,by rw [d];exact g,f.app,(NZ.refl.app).cells i⟩ (by omega)
  rw [Nf fun h=>h1 h.1,Ox,Nk ⟨w,B⟩,show z+-x.gr=z-x.gr by omega] at d
  simp only [n55,q2,q3,A,v,q,g,c,J,l0,l1,O,K,n,D,wb,M,NV,PY,QX,Si,OH,OG,NL,u,Nn h1,Nq w,Nq B,SB,seval,NE,NJ,NF,place,NA]
  exact r (j+1) _ _ ⟨by omega,q2,q3,A,v,rfl,by rw [d];exact rfl,f.app,(NZ.refl.app).cells i⟩ (by omega)
 by_cases h2:x.arr<=m
 case neg=>
  by_cases w:F.frm=p
  case neg=>
   rw [Nf fun h=>h2 h.2,Ox,Nf fun h=>w h.1,Ox] at d
   simp only [n55,q2,q3,A,v,q,c,J,l0,I,K,n,D,NV,PY,QX,OH,OG,NL,u,Nq h1,Nn h2,Nn w,SB,seval,NE,NJ,NF,place,NA]
   exact r (j+1) _ _ ⟨by omega,q2,q3,A,v,rfl,by rw [d];exact g,f.app,(NZ.refl.app).cells i⟩ (by omega)
  by_cases B:x.dep-F.cut<=m
  case neg=>
   rw [Nf fun h=>h2 h.2,Ox,Nf fun h=>B h.2,Ox] at d
   simp only [n55,q2,q3,A,v,q,c,J,l0,l1,I,K,n,D,M,NV,PY,QX,Si,OH,OG,NL,u,Nq h1,Nn h2,Nq w,Nn B,SB,seval,NE,NJ,NF,place,NA]
   exact r (j+1) _ _ ⟨by omega,q2,q3,A,v,rfl,by rw [d];exact g,f.app,(NZ.refl.app).cells i⟩ (by omega)
  rw [Nf fun h=>h2 h.2,Ox,Nk ⟨w,B⟩,show z+-x.gr=z-x.gr by omega] at d
  simp only [n55,q2,q3,A,v,q,g,c,J,l0,l1,I,O,K,n,D,wb,M,NV,PY,QX,Si,OH,OG,NL,u,Nq h1,Nn h2,Nq w,Nq B,SB,seval,NE,NJ,NF,place,NA]
  exact r (j+1) _ _ ⟨by omega,q2,q3,A,v,rfl,by rw [d];exact rfl,f.app,(NZ.refl.app).cells i⟩ (by omega)
 by_cases w:F.frm=p
 case neg=>
  rw [Nk ⟨h1,h2⟩,Nf fun h=>w h.1,Ox] at d
  simp only [n55,q2,q3,A,v,q,g,c,J,l0,I,O,K,n,D,V,NV,PY,QX,OH,OG,NL,u,Nq h1,Nq h2,Nn w,SB,seval,NE,NJ,NF,place,NA]
  exact r (j+1) _ _ ⟨by omega,q2,q3,A,v,rfl,by rw [d];exact rfl,f.app,(NZ.refl.app).cells i⟩ (by omega)
 by_cases B:x.dep-F.cut<=m
 case neg=>
  rw [Nk ⟨h1,h2⟩,Nf fun h=>B h.2,Ox] at d
  simp only [n55,q2,q3,A,v,q,g,c,J,l0,l1,I,O,K,n,D,V,M,NV,PY,QX,Si,OH,OG,NL,u,Nq h1,Nq h2,Nq w,Nn B,SB,seval,NE,NJ,NF,place,NA]
  exact r (j+1) _ _ ⟨by omega,q2,q3,A,v,rfl,by rw [d];exact rfl,f.app,(NZ.refl.app).cells i⟩ (by omega)
 rw [Nk ⟨h1,h2⟩,Nk ⟨w,B⟩,show z+x.gr+-x.gr=z by omega] at d
 simp only [n55,q2,q3,A,v,q,g,c,J,l0,l1,I,O,K,n,D,V,wc,M,NV,PY,QX,Si,OH,OG,NL,u,Nq h1,Nq h2,Nq w,Nq B,SB,seval,NE,NJ,NF,place,NA]
 exact r (j+1) _ _ ⟨by omega,q2,q3,A,v,rfl,by rw [d];exact rfl,f.app,(NZ.refl.app).cells i⟩ (by omega)
structure GS (M B:Nat) (X:List Nat) (G0 G:NB) (pp:Option Addr) (cp:Nat) (pa:Option Addr) (ca:Nat) (d:Int) (vq:Value) (PL:List (Int×Int)) (AL:List Pr):Prop where
 hdr:NC G B=Vc (Ta (.slice pp PL.length cp) (.slice pa AL.length ca) (Vi d) vq)
 op:TF M G enc2 2 pp cp PL
 oa:Own M G SA 4 pa ca AL
 nb:B∉PZ pp/\B∉PZ pa
 dj:∀b∈PZ pp,b∉PZ pa
 sx:∀b∈X,b<G.length/\b≠B/\b∉PZ pp/\b∉PZ pa
 kp:∀b∈X,NC G b=NC G0 b
structure BB (fr:Nat->Value) (v1 v2 v3 v4 v8 v9:Value):Prop where
 f1:fr 1=v1
 f2:fr 2=v2
 f3:fr 3=v3
 f4:fr 4=v4
 f8:fr 8=v8
 f9:fr 9=v9
theorem Nmo {b:Nat} {H0 G1:NB} (h:NC G1 b=NC H0 b):OA b [0] H0 G1=G1:=by
 show G1.set (b+0) (NC H0 (b+0))=G1
 rw [Oj,<-h]
 by_cases a:b<G1.length
 ·unfold NC
  rw [Nc,Np a]
  exact List.set_getElem_self a
 ·rw [List.set_eq_of_length_le (by omega)]
theorem Nhb {PL Y:List (Int×Int)} {to:Int} {c:Leg×Int} (h1:(c.1.frm,c.2-c.1.cut)∈PL) (h2:c.1.dst≠to->(c.1.dst,c.2+c.1.mins)∈PL):XA (PL++Y) to c=XA PL to c:=by
 unfold XA X3
 rw [Nbb h1]
 by_cases e:c.1.dst=to
 ·rw [Nk e,Nk e]
 ·rw [Nf e,Nf e,Nbb (h2 e)]
def Nxc:ACode:=(Oz [Gt 81 4 14,St 4 9 81] (.ops [fT 82 1 9,lT 83 82,mT 84 13,mT 85 15,fT 86 6 11,lT 87 86,i 88 (.build [(Vi 0),(Vi 0),(Vi 0),(Vi 0)] [(0,(1,(t 84))),(1,(1,(t 85))),(2,(1,(t 87)))]),i 89 (.buildSlice 1 [(Vi 0),(Vi 0),(Vi 0),(Vi 0)] [(0,(4,(t 88)))]),i 90 (.append 4 32 false (t 83) (t 89)),fT 91 1 9,St 1 91 90]))
theorem Nsa [OB] {lim M B9 B11 B14 ca o p:Nat} {pa:Option Addr} {v1 v2 v3 v4 v8 v10 x z w t d vq:Value} {AL:List Pr} {l:Leg} {G:NB} {fr:Nat->Value} {K:List AItem} {Q:Value->NB->Prop}
  (T:BB fr v1 v2 v3 v4 v8 (Vp B9)) (f10:fr 10=v10) (f11:fr 11=Vp B11) (f13:fr 13=Vi o) (f14:fr 14=Vp B14) (f15:fr 15=Vi p)
  (N:NC G B9=Vc (Ta x (.slice pa AL.length ca) z w)) (v:NC G B14=Vc (Ta t (.slice pa AL.length ca) d vq)) (u:NC G B11=Vc (QO l)) (oa:Own M G SA 4 pa ca AL) (r:B9∉PZ pa) (q:B11≠B9) (C:lim<=M) (R:M<=B9) (hl:AL.length<2 ^ 30)
  (S:∀fr' G' f g,BB fr' v1 v2 v3 v4 v8 (Vp B9)->fr' 10=v10->NC G' B9=Vc (Ta t (.slice f (AL.length+1) g) d vq)->Own M G' SA 4 f g (AL++[⟨p,o,l.grams,0⟩])->(∀b,b<G.length->b≠B9->b∉PZ pa->NC G' b=NC G b)->G.length<=G'.length->(∀b∈PZ f,G.length<=b)->PI E a51 lim K fr' G' Q) :
  PI E a51 lim (.code Nxc::K) fr G Q:=by
 obtain ⟨q1,q2,q3,W,Y,P⟩:=T
 rw [NQ Nxc.eq_1]
 have y:=ND N
 obtain ⟨G1,e1,k1,s⟩:=OO y (Vc (Ta t (.slice pa AL.length ca) d vq))
 have U:=s.len
 have n:=fun Z=>(NZ.refl.app (X:=Z)).cells N
 have c:=fun Z=>(NZ.refl.app (X:=Z)).cells v
 have j:=fun Z=>(NZ.refl.app (X:=Z)).cells k1
 have F:=s.cells u q
 have i:=fun Z=>(NZ.refl.app (X:=Z)).cells F
 have I:Own M G1 SA 4 pa ca AL:=oa.mut s fun a A e=>r (NT.2 ⟨a,A,e⟩)
 obtain ⟨G2,e2,L,J,B⟩:=Own.moreF I (lim':=lim) (bytes:=32) C QC (by decide) [⟨p,o,l.grams,0⟩] (by simp) (by simp;unfold PM;omega) (by simp;omega) [Vc [Vi o,Vi p,Vi l.grams,Vi 0]] (x:=.slice (Sa G1.length) 1 1) (str:=false)
  (QG (m:=[⟨p,o,l.grams,0⟩]) (Sl.row (ro:=false) QC NN)) rfl
 simp only [Nb,Nj,Nl,N0] at e2 L B
 have k2:=J.cells k1 r
 have k:=fun Z=>(NZ.refl.app (X:=Z)).cells k2
 obtain ⟨G3,e3,k3,H⟩:=OO (ND k2) (Vc (Ta t (.slice (Sa (G1.length+1)) (AL.length+1) (loose 4)) d vq))
 have V:=H.len
 unfold Ta at n c j k e1 e3
 refine NI ?_
 simp only [n51,P,f11,f13,f14,f15,n,c,e1,j,i,Ud,e2,k,e3,show lim<=B9 by omega,SB,seval,NJ,place,NA]
 refine S _ _ (Sa (G1.length+1)) (loose 4) ⟨q1,q2,q3,W,Y,P⟩ f10 ((NZ.refl.app).cells k3) ((((L.le (by omega)).mut H fun a A e=>by cases A;simp only at e;omega)).app _) (fun b O h D=>?_) (by simp;omega) (fun b O=>by simp only [PZ,Ni] at O;omega)
 rw [NK (by omega),H.other b h,J.other b (by omega) D,s.other b h]
theorem Noi [OB] {lim M B4 B9 cq cn cl:Nat} {X:List Nat} {pp pa pq pn pl:Option Addr} {cp ca:Nat} {v1 v8:Value} {to dl:Int} {P:List Int} {L:List Leg} {C:List (Leg×Int)} {PL:List (Int×Int)} {H G:NB} {fr:Nat->Value} {K:List AItem} {Q:Value->NB->Prop}
  (hn:NetIn H pn pl P L) (hv:QB P L=0) (hC:∀c∈C,c.1∈L/\c.1.frm≠to/\0<=c.2-c.1.cut/\c.2-c.1.cut<=OP/\0<=c.2+c.1.mins/\c.2+c.1.mins<=OP/\1<=c.1.frm/\1<=c.1.dst) (dr:C.length<2 ^ 20)
  (hf:BB fr v1 (Vi to) (Vi dl) (Vp B4) v8 (Vp B9)) (f10:fr 10=Vi 0)
  (hS:GS M B9 X G G pp cp pa ca 0 (.slice pq C.length cq) PL []) (cr:PlR PL to) (cu:PL.length<=2) (hX:B4∈X/\∀b∈PZ pq,b∈X) (b8:NC G B4=Vc (QJ pn P.length cn pl L.length cl)) (hq:Sl G QI 4 pq (C.map Tv)) (ay:lim<=M) (du:H.length<=M) (ci:M<=B9) (cf:Chg [] H G)
  (hR:∀fr' G' df bu de bt w,BB fr' v1 (Vi to) (Vi dl) (Vp B4) v8 (Vp B9)->GS M B9 X G G' df bu de bt 0 (.slice pq C.length cq) w (C.map (XA w to))->PlR w to->w.length<=2+2*C.length->(∀c∈C,(c.1.frm,c.2-c.1.cut)∈w/\(c.1.dst≠to->(c.1.dst,c.2+c.1.mins)∈w))->Chg [] H G'->PI E a51 lim K fr' G' Q) :
  PI E a51 lim (.code (.loop Nnu)::.inBlock 0::K) fr G Q:=by
 have dw:M<=G.length:=by have:=ND hS.hdr;omega
 refine NM (fun z:Nat×Option Addr×Nat×Option Addr×Nat×List (Int×Int)=>C.length-z.1) (fun z am G'=>z.1<=C.length/\BB am v1 (Vi to) (Vi dl) (Vp B4) v8 (Vp B9)/\am 10=Vi z.1/\GS M B9 X G G' z.2.1 z.2.2.1 z.2.2.2.1 z.2.2.2.2.1 0 (.slice pq C.length cq) z.2.2.2.2.2 ((C.take z.1).map (XA z.2.2.2.2.2 to))/\PlR z.2.2.2.2.2 to/\z.2.2.2.2.2.length<=2+2*z.1/\(∀c∈C.take z.1,(c.1.frm,c.2-c.1.cut)∈z.2.2.2.2.2/\(c.1.dst≠to->(c.1.dst,c.2+c.1.mins)∈z.2.2.2.2.2))/\Chg [] H G'/\G.length<=G'.length) (0,pp,cp,pa,ca,PL)
  ⟨Nv _,hf,f10,hS,cr,cu,(fun c hc=>by simp at hc),cf,Ng _⟩ ?_
 rintro ⟨j,pp,cp,pa,ca,PL⟩ am G' ⟨hj,⟨q1,q2,q3,q4,q8,q9⟩,F,d,I,ai,n,W,dn⟩ hN
 simp only at hj F d I ai n
 rw [NQ Nnu.eq_1,<-Nxc.eq_1]
 have k4:∀Z,NC (G'++Z) B4=Vc (QJ pn P.length cn pl L.length cl):=fun Z=>by rw [NK (d.sx _ hX.1).1,d.kp _ hX.1];exact b8
 have k9:=fun Z=>(NZ.refl.app (X:=Z)).cells d.hdr
 have sq:Sl G' QI 4 pq (C.map Tv):=hq.same fun a p _=>d.kp _ (hX.2 _ (NT.2 ⟨a,p,rfl⟩))
 unfold Ta at k9
 refine NI ?_
 by_cases J:j<C.length
 case neg=>
  obtain rfl:j=C.length:=by omega
  simp only [n51,q9,F,k9,SB,seval,NJ,NF]
  rw [Of] at d n
  exact hR _ _ pp cp pa ca PL ⟨q1,q2,q3,q4,q8,q9⟩ ⟨(NZ.refl.app).cells d.hdr,d.op.app _,d.oa.app _,d.nb,d.dj,fun b g=>⟨by have:=(d.sx b g).1;simp;omega,(d.sx b g).2⟩,fun b g=>by rw [NK (d.sx b g).1];exact d.kp b g⟩ I ai n W.app
 have s:=hC _ (PK J)
 have c3:(C.map Tv).length=C.length:=by simp
 have ag:gt (C.map Tv) j=Tv (gt C j):=by rw [OJ (by omega),OJ J,Qy]
 have l0:∀Z,AM.loadCell (G'++Z) ((SX pq 4 j).add 0)=some (Vi (gt C j).1.id):=fun Z=>by
  have:=(sq.app Z).loadCell NU (i:=j) (by omega) (j:=0) (by decide)
  rw [ag] at this;exact this
 have l1:∀Z,AM.loadCell (G'++Z) ((SX pq 4 j).add 1)=some (Vi (gt C j).2):=fun Z=>by
  have:=(sq.app Z).loadCell NU (i:=j) (by omega) (j:=1) (by decide)
  rw [ag] at this;exact this
 have l2:∀Z,AM.loadCell (G'++Z) ((SX pq 4 j).add 2)=some (Vi ((gt C j).2+(gt C j).1.mins)):=fun Z=>by
  have:=(sq.app Z).loadCell NU (i:=j) (by omega) (j:=2) (by decide)
  rw [ag] at this;exact this
 have xD:=QN sq (i:=j) (by omega) rfl
 rw [c3] at xD
 have av:L.find? (fun l=>l.id=(gt C j).1.id)=some (gt C j).1:=by
  cases e:L.find? (fun l=>decide (l.id=(gt C j).1.id)) with
  | none=>
    have:=List.find?_eq_none.1 e _ s.1
    simp at this
  | some y=>
    have h1:=R7 e
    have h2:=Ri e
    rw [ZK hv h2 s.1 (by simpa using h1)]
 have au:=fun X (mp:Bool) (lim:Nat) (Q:Value->NB->Prop)=>Nhy (mp:=mp) (lim:=lim) (cp:=cn) (cl:=cl) (a:=(gt C j).1.id) (Q:=Q) ((hn.ext W.ext).app X)
 rw [av] at au
 have ws:IntKind.i64.wrap ((gt C j).2-(gt C j).1.cut)=(gt C j).2-(gt C j).1.cut:=by
  have mt:OP=1051898399:=rfl
  exact NY (by omega) (by omega)
 simp only [n51,q4,q9,F,k9,J,k4,OG,NV,PY,Si,OH,l0,l1,xD,au,ws,NL,show lim<=G'.length by omega,SB,seval,NE,NJ,NF,place,NA]
 obtain ⟨c,hc⟩:∃c,c=gt C j:=⟨_,rfl⟩
 rw [<-hc] at s l0 l1 l2 au ws⊢
 have a0:=d.op
 have nb:∀b,G'.length<=b->b∉PZ pp:=fun b g o=>by
  obtain ⟨a,p,rfl⟩:=NT.1 o
  have:=(a0.block p).2;omega
 have ce:=ND d.hdr
 have d3:∀c∈C.take j,c∈C:=fun c h=>Pz h
 obtain ⟨AL,an⟩:∃AL,AL=(C.take j).map (XA PL to):=⟨_,rfl⟩
 have di:AL.length=j:=by rw [an];simp;omega
 have ah:=d.oa
 have aq:=d.hdr
 rw [<-an] at ah aq⊢
 have fin:∀(f:List (Int×Int)) (pp2:Option Addr) (cp2 n2:Nat) (q:Nat->Value) (v:NB),(∃Y,f=PL++Y)->(c.1.frm,c.2-c.1.cut)∈f->(c.1.dst≠to->(c.1.dst,c.2+c.1.mins)∈f)->PlR f to->f.length<=2+2*(j+1)->n2=X3 f to c.1.dst (c.2+c.1.mins)->
   BB q v1 (Vi to) (Vi dl) (Vp B4) v8 (Vp B9)->q 10=Vi j->q 11=Vp G'.length->q 13=Vi (f.idxOf (c.1.frm,c.2-c.1.cut):Nat)->q 14=Vp (G'.length+1)->q 15=Vi n2->
   TF M v enc2 2 pp2 cp2 f->NC v (G'.length+1)=Vc (Ta (.slice pp2 f.length cp2) (.slice pa AL.length ca) (Vi 0) (.slice pq C.length cq))->NC v G'.length=Vc (QO c.1)->Chg (PZ pp) G' v->G'.length+2<=v.length->(∀b∈PZ pp2,b∈PZ pp\/G'.length<=b)->
   PI E a51 lim (.code Nxc::.inBlock 1::.code (.ops [mT 35 10,Bc 36 .add 35 1,mT 10 36])::.inLoop Nnu::.inBlock 0::K) q v Q:=by
  intro f pp2 cp2 n2 q v ⟨Y,hY⟩ N az m bk c6 cy bx bz b0 b2 b3 bc b6 b5 ad c1 S
  have b9:=ad.cells aq d.nb.1
  have db:=ah.chg ad fun a p o=>d.dj _ o (NT.2 ⟨a,p,rfl⟩)
  refine Nsa (AL:=AL) (l:=c.1) cy bx bz b0 b2 b3 b9 b6 b5 db d.nb.2 (by omega) ay ci (by omega) fun dq G4 bq a8 cz dg br dc aw dy O=>?_
  obtain ⟨r1,r2,r3,r4,r8,r9⟩:=cz
  have w1:IntKind.i64.wrap ((j:Int)+1)=((j+1:Nat):Int):=NS (by omega)
  have bw:(C.take (j+1)).map (XA f to)=AL++[⟨n2,f.idxOf (c.1.frm,c.2-c.1.cut),c.1.grams,0⟩]:=by
   rw [QH J,Pe,an,<-hc]
   congr 1
   ·refine P6 fun x hx=>?_
    rw [hY];exact Nhb (n x hx).1 (n x hx).2
   ·rw [c6];rfl
  have bm:∀b∈PZ pp2,b<v.length:=fun b g=>by
   obtain ⟨a,p,rfl⟩:=NT.1 g
   exact (bc.block p).2
  have V:∀b,b<G'.length->b∉PZ pp->b∉PZ pp2:=fun b g c8 o=>by
   rcases S b o with h | h
   ·exact c8 h
   ·omega
  refine NI ?_
  simp only [n51,dg,w1,SB,seval,NJ,NF]
  refine hN (j+1,pp2,cp2,bq,a8,f) _ _ ⟨by show j+1<=_;omega,⟨r1,r2,r3,r4,r8,r9⟩,rfl, ?_,m,bk,fun x hx=>?_, ?_,by simp;omega⟩ (by show C.length-(j+1)<C.length-j;omega)
  ·show GS M B9 X G _ pp2 cp2 bq a8 0 _ f ((C.take (j+1)).map (XA f to))
   rw [bw]
   have cj:TF M G4 enc2 2 pp2 cp2 f:=bc.same fun a p=>by
    have ao:a.block∈PZ pp2:=NT.2 ⟨a,p,rfl⟩
    refine aw _ (bm _ ao) (fun e=>?_) fun o=>?_
    ·rcases S _ ao with h | h
     ·rw [e] at h;exact d.nb.1 h
     ·omega
    ·rcases S _ ao with h | h
     ·exact d.dj _ h o
     ·obtain ⟨a',cx,e⟩:=NT.1 o
      have:=(ah.block cx).2;omega
   refine ⟨?_,cj.app _,dc.app _,⟨V _ ce d.nb.1,fun o=>by have:=O _ o;omega⟩,fun b g o=>by have:=O _ o;have:=bm b g;omega,fun b g=>?_,fun b g=>?_⟩
   ·rw [Nb,Ow];exact (NZ.refl.app).cells br
   ·obtain ⟨x1,x2,x3,x4⟩:=d.sx b g
    exact ⟨by simp;omega,x2,V b x1 x3,fun o=>by have:=O _ o;omega⟩
   ·obtain ⟨x1,x2,x3,x4⟩:=d.sx b g
    rw [NK (by omega),aw b (by omega) x2 x4,ad.other b x1 x3]
    exact d.kp b g
  ·show (x.1.frm,x.2-x.1.cut)∈f/\(x.1.dst≠to->(x.1.dst,x.2+x.1.mins)∈f)
   rw [QH J,<-hc] at hx
   rcases Nw.1 hx with hx | hx
   ·rw [hY]
    exact ⟨Ny _ (n x hx).1,fun h=>Ny _ ((n x hx).2 h)⟩
   ·rw [Ni.1 hx];exact ⟨N,az⟩
  ·have dv:=W.len
   refine Chg.app ⟨by omega,fun b g _=>?_⟩
   rw [aw b (by omega) (by omega) fun o=>by
    obtain ⟨a,p,rfl⟩:=NT.1 o
    have:=(ah.block p).1;omega,ad.other b (by omega) fun o=>by
    obtain ⟨a,p,rfl⟩:=NT.1 o
    have:=(a0.block p).1;omega]
   exact W.other b g (by simp)
 obtain ⟨Gc,A⟩:∃Gc,Gc=G'++[Vc (QO c.1),Blk.dead]:=⟨_,rfl⟩
 have bg:NC Gc G'.length=Vc (QO c.1):=by rw [A];exact NN
 have bh:NC Gc (G'.length+1)=.dead:=by rw [A];exact OL
 have d2:Gc.length=G'.length+2:=by rw [A];simp
 have dd:TF M Gc enc2 2 pp cp PL:=by rw [A];exact a0.app _
 have cg:NZ G' Gc:=by rw [A];exact NZ.refl.app
 rw [<-A]
 refine Nb9 (va:=.slice pa AL.length ca) (vd:=Vi 0) (vq:=.slice pq C.length cq) dd (by omega) (by omega) ay (by omega) fun G1 D ak bb aa c5=>?_
 have dx:=aa.len
 rw [Nmo ((aa.get bh (by omega) (nb _ (by omega))).trans bh.symm)]
 obtain ⟨k,r⟩:∃k,k=addN PL (c.1.frm,c.2-c.1.cut):=⟨_,rfl⟩
 rw [<-r] at bb⊢
 obtain ⟨Y1,ap⟩:=Ndm PL (c.1.frm,c.2-c.1.cut)
 rw [<-r] at ap
 have N:(c.1.frm,c.2-c.1.cut)∈k:=by rw [r];exact Ndl.2 (.inr rfl)
 have bf:PlR k to:=by rw [r];exact I.add s.2.1 s.2.2.2.2.2.2.1 s.2.2.1
 have dk:k.length<=PL.length+1:=by rw [r];unfold addN;split<;>simp
 obtain ⟨G2,e2,k2,m2⟩:=OO (G:=G1) (R:=G'.length+1) (by omega) (Vc (Ta Vz Vz (Vi 0) Vz))
 obtain ⟨v,e3,k3,m3⟩:=OO (ND k2) (Vc (Ta (.slice D k.length ak) (.slice pa AL.length ca) (Vi 0) (.slice pq C.length cq)))
 have bk:=m2.len
 have c1:=m3.len
 have a3:=aa.cells bg (nb _ (Ng _))
 have a5:=m3.cells (m2.cells a3 (by omega)) (by omega)
 have t:Chg (PZ pp) G' v:=((cg.chg.trans aa).mut m2 (.inr (by omega))).mut m3 (.inr (by omega))
 have U:∀b∈PZ D,b∈PZ pp\/G'.length+2<=b:=fun b g=>by
  rcases c5 b g with h | h
  ·exact .inl h
  ·exact .inr (by omega)
 have a2:G'.length+1∉PZ D:=fun o=>by
  rcases U _ o with h | h
  ·exact nb _ (by omega) h
  ·omega
 have bd:TF M v enc2 2 D ak k:=(bb.mut m2 fun a p e=>a2 (NT.2 ⟨a,p,e⟩)).mut m3 fun a p e=>a2 (NT.2 ⟨a,p,e⟩)
 have a1:=fun Z=>(NZ.refl.app (X:=Z)).cells k2
 have bo:=fun Z=>(NZ.refl.app (X:=Z)).cells k3
 have u:=fun Z=>(NZ.refl.app (X:=Z)).cells a5
 unfold Ta at e2 e3 a1 bo
 refine NI ?_
 by_cases B:c.1.dst=to
 ·simp only [n51,q2,Ta,e2,a1,e3,u,QX,show lim<=G'.length+1 by omega,Nq B,SB,seval,NJ,NF,place,NA]
  exact fin k D ak 1 _ _ ⟨Y1,ap⟩ N (fun h=>absurd B h) bf (by omega) (by unfold X3;rw [Nk B]) ⟨q1,q2,q3,q4,q8,q9⟩ F rfl rfl rfl rfl (bd.app _) ((NZ.refl.app).cells k3) (u _) t.app (by simp;omega) (fun b g=>(U b g).imp id fun h=>by omega)
 ·have bp:=fun Z=>(NZ.refl.app (X:=Z)).cells (t.cells aq d.nb.1)
  have dh:Sl v QI 4 pq (C.map Tv):=sq.same fun a p _=>by
   obtain ⟨x1,_,x3,_⟩:=d.sx _ (hX.2 _ (NT.2 ⟨a,p,rfl⟩))
   exact t.other _ x1 x3
  have da:∀Z,AM.loadCell (v++Z) ((SX pq 4 j).add 2)=some (Vi (c.2+c.1.mins)):=fun Z=>by
   have:=(dh.app Z).loadCell NU (i:=j) (by omega) (j:=2) (by decide)
   rw [ag,<-hc] at this;exact this
  unfold Ta at bp
  simp only [n51,q2,q9,F,Ta,e2,a1,e3,bo,u,QX,show lim<=G'.length+1 by omega,Nn B,bp,da,xD,SB,seval,NE,NJ,NF,place,NA]
  refine Nb9 (va:=.slice pa AL.length ca) (vd:=Vi 0) (vq:=.slice pq C.length cq) (bd.app _) (by omega) (by simp;omega) ay (by simp;omega) fun G5 pp2 cp2 be ac bl=>?_
  have c2:=ac.len
  simp only [Nb,Nl,Oj] at c2 bl
  obtain ⟨f,m⟩:∃f,f=addN k (c.1.dst,c.2+c.1.mins):=⟨_,rfl⟩
  rw [<-m] at be⊢
  obtain ⟨Y2,ae⟩:=Ndm k (c.1.dst,c.2+c.1.mins)
  rw [<-m] at ae
  have az:(c.1.dst,c.2+c.1.mins)∈f:=by rw [m];exact Ndl.2 (.inr rfl)
  have cm:PlR f to:=by rw [m];exact bf.add B s.2.2.2.2.2.2.2 s.2.2.2.2.1
  have dm:f.length<=k.length+1:=by rw [m];unfold addN;split<;>simp
  have aj:=ac.cells ((NZ.refl.app).cells k3) a2
  have n11:G'.length∉PZ D:=fun o=>by
   rcases U _ o with h | h
   ·exact nb _ (Ng _) h
   ·omega
  have a6:=ac.cells (u _) n11
  obtain ⟨G6,e6,k6,m6⟩:=OO (ND aj) (Vc (Ta (.slice pp2 f.length cp2) (.slice pa AL.length ca) (Vi 0) (.slice pq C.length cq)))
  have dz:=m6.len
  have T:=fun Z=>(NZ.refl.app (X:=Z)).cells aj
  have V:∀b∈PZ pp2,b∈PZ pp\/G'.length+2<=b:=fun b g=>by
   rcases bl b g with h | h
   ·exact U b h
   ·exact .inr (by omega)
  have ba:Chg (PZ pp) G' G6:=(t.trans' (Chg.pre ac) fun b g dp=>by
   rcases U b g with h | h
   ·exact h
   ·omega).mut m6 (.inr (by omega))
  have ck:TF M G6 enc2 2 pp2 cp2 f:=be.mut m6 fun a p e=>by
   rcases V _ (NT.2 ⟨a,p,e⟩) with h | h
   ·exact nb _ (by omega) h
   ·omega
  have c0:f.idxOf (c.1.frm,c.2-c.1.cut)=k.idxOf (c.1.frm,c.2-c.1.cut):=by rw [ae];exact Nbb N
  unfold Ta at e6 T
  refine NI ?_
  simp only [n51,Ta,T,e6,show lim<=G'.length+1 by omega,SB,seval,NJ,NA]
  exact fin f pp2 cp2 (f.idxOf (c.1.dst,c.2+c.1.mins)) _ _ ⟨Y1++Y2,by rw [ae,ap,Nr]⟩ (by rw [ae];exact Ny _ N) (fun _=>az) cm (by omega) (by unfold X3;rw [Nf B]) ⟨q1,q2,q3,q4,q8,q9⟩ F rfl (by rw [c0];exact rfl) rfl rfl (ck.app _) ((NZ.refl.app).cells k6) ((NZ.refl.app).cells (m6.cells a6 (by omega))) ba.app (by simp;omega) (fun b g=>(V b g).imp id fun h=>by omega)
theorem Mo {PL:List (Int×Int)} {to dl:Int}:∀{s:List Flow.Src} {i:Nat},i<s.length->Vx PL to dl (s.take (i+1))=Vx PL to dl (s.take i)++(if (gt s i).rd<=dl/\(gt s i).pl≠to then [⟨PL.idxOf ((gt s i).pl,(gt s i).rd),0,(gt s i).gr,0⟩] else [])
 | x::s,0,_=>by simp only [Pt,Qn,Vx,Na,Ob];rfl
 | x::s,i+1,h=>by
   have:=Mo (PL:=PL) (to:=to) (dl:=dl) (s:=s) (i:=i) (by simpa using h)
   rw [Pt,Pt,Vx,Vx,this,Nr];rfl
theorem Nfg {to dl:Int}:∀{s:List Flow.Src} {i:Nat},i<s.length->U3 to dl (s.take (i+1))=U3 to dl (s.take i)+(if (gt s i).rd<=dl/\(gt s i).pl=to then (gt s i).gr else 0)
 | x::s,0,_=>by
   show (if x.rd<=dl/\x.pl=to then x.gr else 0)+0=0+(if x.rd<=dl/\x.pl=to then x.gr else 0)
   omega
 | x::s,i+1,h=>by
   have:=Nfg (to:=to) (dl:=dl) (s:=s) (i:=i) (by simpa using h)
   rw [Pt,Pt,U3,U3,this]
   show _=_+(if (gt s i).rd<=dl/\(gt s i).pl=to then (gt s i).gr else 0)
   omega
theorem Nhp {PL Y:List (Int×Int)} {to dl:Int}:∀{s:List Flow.Src},(∀x∈s,x.rd<=dl->x.pl≠to->(x.pl,x.rd)∈PL)->Vx (PL++Y) to dl s=Vx PL to dl s
 | [],_=>rfl
 | x::s,h=>by
   rw [Vx,Vx,Nhp fun y a=>h y (Nh _ a)]
   by_cases hc:x.rd<=dl/\x.pl≠to
   ·rw [Nk hc,Nk hc,Nbb (h x Nm hc.1 hc.2)]
   ·rw [Nf hc,Nf hc]
theorem Z6 {PL:List (Int×Int)} {to dl:Int}:∀{s:List Flow.Src},(Vx PL to dl s).length<=s.length
 | []=>Ng _
 | x::s=>by
   have:=Z6 (PL:=PL) (to:=to) (dl:=dl) (s:=s)
   rw [Vx,Nb,Nj]
   split<;>simp<;>omega
theorem Ngz {to dl:Int}:∀{s:List Flow.Src},(∀x∈s,0<=x.gr/\x.gr<=1000000000)->0<=U3 to dl s/\U3 to dl s<=1000000000*(s.length:Int)
 | [],_=>by simp [U3]
 | x::s,h=>by
   have ih:=Ngz (to:=to) (dl:=dl) (s:=s) fun y a=>h y (Nh _ a)
   have b:=h x Nm
   rw [U3,Nj,Int.natCast_succ,Int.mul_add,Int.mul_one]
   generalize 1000000000*(s.length:Int)=z at *
   split<;>omega
theorem Noz [OB] {lim M B9 cs:Nat} {X:List Nat} {pp pa ps:Option Addr} {cp ca:Nat} {v4 v8 vq:Value} {to dl:Int} {C:List (Leg×Int)} {s:List Flow.Src} {PL:List (Int×Int)} {H G:NB} {fr:Nat->Value} {K:List AItem} {Q:Value->NB->Prop}
  (hs:Sl H encS 3 ps s) (aw:∀x∈s,1<=x.pl/\0<=x.rd/\0<=x.gr/\x.gr<=1000000000) (c8:s.length<=60) (ck:C.length<2 ^ 20)
  (hf:BB fr (.slice ps s.length cs) (Vi to) (Vi dl) v4 v8 (Vp B9)) (f16:fr 16=Vi 0)
  (hS:GS M B9 X G G pp cp pa ca 0 vq PL (C.map (XA PL to))) (bk:PlR PL to) (bl:PL.length<=2+2*C.length) (bf:∀c∈C,(c.1.frm,c.2-c.1.cut)∈PL/\(c.1.dst≠to->(c.1.dst,c.2+c.1.mins)∈PL)) (aq:lim<=M) (cm:H.length<=M) (cu:M<=B9) (be:Chg [] H G)
  (hR:∀fr' G' b8 bc b6 bb t,BB fr' (.slice ps s.length cs) (Vi to) (Vi dl) v4 v8 (Vp B9)->GS M B9 X G G' b8 bc b6 bb (U3 to dl s) vq t (C.map (XA t to)++Vx t to dl s)->PlR t to->t.length<=2+2*C.length+s.length->(∀c∈C,(c.1.frm,c.2-c.1.cut)∈t/\(c.1.dst≠to->(c.1.dst,c.2+c.1.mins)∈t))->(∀x∈s,x.rd<=dl->x.pl≠to->(x.pl,x.rd)∈t)->Chg [] H G'->PI E a51 lim K fr' G' Q) :
  PI E a51 lim (.code (.loop Nus)::.inBlock 2::K) fr G Q:=by
 have cx:M<=G.length:=by have:=ND hS.hdr;omega
 refine NM (fun z:Nat×Option Addr×Nat×Option Addr×Nat×List (Int×Int)=>s.length-z.1) (fun z Y G'=>z.1<=s.length/\BB Y (.slice ps s.length cs) (Vi to) (Vi dl) v4 v8 (Vp B9)/\Y 16=Vi z.1/\GS M B9 X G G' z.2.1 z.2.2.1 z.2.2.2.1 z.2.2.2.2.1 (U3 to dl (s.take z.1)) vq z.2.2.2.2.2 (C.map (XA z.2.2.2.2.2 to)++Vx z.2.2.2.2.2 to dl (s.take z.1))/\PlR z.2.2.2.2.2 to/\z.2.2.2.2.2.length<=2+2*C.length+z.1/\(∀c∈C,(c.1.frm,c.2-c.1.cut)∈z.2.2.2.2.2/\(c.1.dst≠to->(c.1.dst,c.2+c.1.mins)∈z.2.2.2.2.2))/\(∀x∈s.take z.1,x.rd<=dl->x.pl≠to->(x.pl,x.rd)∈z.2.2.2.2.2)/\Chg [] H G'/\G.length<=G'.length) (0,pp,cp,pa,ca,PL)
  ⟨Nv _,hf,f16,by show GS M B9 X G G pp cp pa ca 0 vq PL (C.map (XA PL to)++[]);rw [Na];exact hS,bk,bl,bf,(fun c hc=>by simp at hc),be,Ng _⟩ ?_
 rintro ⟨j,pp,cp,pa,ca,PL⟩ Y G' ⟨hj,⟨q1,q2,q3,q4,q8,q9⟩,D,f,u,V,p,r,B,cg⟩ hN
 simp only at hj D f u V p r
 obtain ⟨AL,A⟩:∃AL,AL=C.map (XA PL to)++Vx PL to dl (s.take j):=⟨_,rfl⟩
 have ci:AL.length<=C.length+j:=by
  rw [A,Nb,Ou]
  have:=Z6 (PL:=PL) (to:=to) (dl:=dl) (s:=s.take j)
  rw [N6] at this;omega
 rw [<-A] at f
 rw [NQ Nus.eq_1]
 have k9:=fun Z=>(NZ.refl.app (X:=Z)).cells f.hdr
 have ss:Sl G' encS 3 ps s:=B.ext.sl hs
 unfold Ta at k9
 refine NI ?_
 by_cases n:j<s.length
 case neg=>
  obtain rfl:j=s.length:=by omega
  simp only [n51,q1,D,SB,seval,NJ,NF]
  rw [Of] at f r A
  rw [A] at f
  exact hR _ _ pp cp pa ca PL ⟨q1,q2,q3,q4,q8,q9⟩ ⟨(NZ.refl.app).cells f.hdr,f.op.app _,f.oa.app _,f.nb,f.dj,fun b i=>⟨by have:=(f.sx b i).1;simp;omega,(f.sx b i).2⟩,fun b i=>by rw [NK (f.sx b i).1];exact f.kp b i⟩ u V p r B.app
 obtain ⟨x,W⟩:∃x,x=gt s j:=⟨_,rfl⟩
 have bz:x∈s:=by rw [W];exact PK n
 obtain ⟨bw,bx,da,db⟩:=aw x bz
 have l0:∀Z,AM.loadCell (G'++Z) ((SX ps 3 j).add 0)=some (Vi x.pl):=fun Z=>by
  have:=(ss.app Z).loadCell OI n (j:=0) (by decide)
  rw [<-W] at this;exact this
 have l1:∀Z,AM.loadCell (G'++Z) ((SX ps 3 j).add 1)=some (Vi x.rd):=fun Z=>by
  have:=(ss.app Z).loadCell OI n (j:=1) (by decide)
  rw [<-W] at this;exact this
 have l2:∀Z,AM.loadCell (G'++Z) ((SX ps 3 j).add 2)=some (Vi x.gr):=fun Z=>by
  have:=(ss.app Z).loadCell OI n (j:=2) (by decide)
  rw [<-W] at this;exact this
 have xS:=QN ss n rfl
 have w1:IntKind.i64.wrap ((j:Int)+1)=((j+1:Nat):Int):=NS (by omega)
 have ai:∀y∈s.take (j+1),y∈s.take j\/y=x:=fun y hy=>by
  rw [QH n,<-W] at hy
  rcases Nw.1 hy with hy | hy
  ·exact .inl hy
  ·exact .inr (Ni.1 hy)
 have es:=Mo (PL:=PL) (to:=to) (dl:=dl) n
 have P:=Nfg (to:=to) (dl:=dl) n
 rw [<-W] at es P
 have hd:=Ngz (to:=to) (dl:=dl) (s:=s.take j) fun y hy=>(aw y (Pz hy)).2.2
 rw [N6,Pa hj] at hd
 obtain ⟨d,ae⟩:∃d,d=U3 to dl (s.take j):=⟨_,rfl⟩
 have aa:∀Z,GS M B9 X G (G'++Z) pp cp pa ca (U3 to dl (s.take j)) vq PL AL:=fun Z=>⟨(NZ.refl.app).cells f.hdr,f.op.app _,f.oa.app _,f.nb,f.dj,fun b i=>⟨by have:=(f.sx b i).1;simp;omega,(f.sx b i).2⟩,fun b i=>by rw [NK (f.sx b i).1];exact f.kp b i⟩
 by_cases c1:dl<x.rd
 ·rw [Nf (fun h=>by omega),Na] at es
  rw [Nf (fun h=>by omega),Ox] at P
  simp only [n51,q1,q3,D,n,l1,xS,Nq c1,w1,SB,seval,NJ,NF]
  refine hN (j+1,pp,cp,pa,ca,PL) _ _ ⟨by show j+1<=_;omega,⟨q1,q2,q3,q4,q8,q9⟩,rfl, ?_,u,by show PL.length<=_;omega,p,fun y hy h1 h2=>?_,B.app,by simp;omega⟩ (by show s.length-(j+1)<s.length-j;omega)
  ·show GS M B9 X G _ pp cp pa ca (U3 to dl (s.take (j+1))) vq PL (_++Vx PL to dl (s.take (j+1)))
   rw [es,P,<-A];exact aa _
  ·rcases ai y hy with h | h
   ·exact r y h h1 h2
   ·rw [h] at h1;omega
 by_cases O:x.pl=to
 ·rw [Nf (fun h=>h.2 O),Na] at es
  rw [Nk ⟨by omega,O⟩] at P
  have wd:IntKind.i64.wrap (d+x.gr)=d+x.gr:=NY (by omega) (by omega)
  obtain ⟨G2,e2,k2,N⟩:=OO (ND f.hdr) (Vc (Ta (.slice pp PL.length cp) (.slice pa AL.length ca) (Vi (d+x.gr)) vq))
  have bm:=N.len
  unfold Ta at e2
  rw [<-ae] at k9 P
  simp only [n51,q1,q2,q3,q9,D,n,l0,l1,l2,xS,Nn c1,Nq O,k9,wd,show lim<=B9 by omega,e2,w1,SB,seval,NJ,NF,NA]
  refine hN (j+1,pp,cp,pa,ca,PL) _ _ ⟨by show j+1<=_;omega,⟨q1,q2,q3,q4,q8,q9⟩,rfl, ?_,u,by show PL.length<=_;omega,p,fun y hy h1 h2=>?_,(B.mut N (.inr (by omega))).app,by simp;omega⟩ (by show s.length-(j+1)<s.length-j;omega)
  ·show GS M B9 X G _ pp cp pa ca (U3 to dl (s.take (j+1))) vq PL (_++Vx PL to dl (s.take (j+1)))
   rw [es,P,<-A]
   exact ⟨(NZ.refl.app).cells k2,(f.op.mut N fun a l e=>f.nb.1 (NT.2 ⟨a,l,e⟩)).app _,(f.oa.mut N fun a l e=>f.nb.2 (NT.2 ⟨a,l,e⟩)).app _,f.nb,f.dj,fun b i=>⟨by have:=(f.sx b i).1;simp;omega,(f.sx b i).2⟩,fun b i=>by
    obtain ⟨x1,x2,x3,x4⟩:=f.sx b i
    rw [NK (by omega),N.other b x2];exact f.kp b i⟩
  ·rcases ai y hy with h | h
   ·exact r y h h1 h2
   ·rw [h] at h2;exact absurd O h2
 rw [Nk ⟨by omega,O⟩] at es
 rw [Nf (fun h=>O h.2),Ox] at P
 rw [<-ae] at k9 P
 simp only [n51,q1,q2,q3,q9,D,n,l0,l1,xS,Nn c1,Nn O,k9,SB,seval,NE,NJ,NF]
 have T:=f.op
 have ah:=f.oa
 have ad:=f.hdr
 rw [<-ae] at ad
 have cj:=ND ad
 have nb:∀b,G'.length<=b->b∉PZ pp:=fun b i q=>by
  obtain ⟨a,l,rfl⟩:=NT.1 q
  have:=(T.block l).2;omega
 obtain ⟨Gc,J⟩:∃Gc,Gc=G'++[Blk.dead]:=⟨_,rfl⟩
 have ap:NC Gc G'.length=.dead:=by rw [J];exact NN
 have c6:Gc.length=G'.length+1:=by rw [J];simp
 have b5:TF M Gc enc2 2 pp cp PL:=by rw [J];exact T.app _
 have am:NZ G' Gc:=by rw [J];exact NZ.refl.app
 rw [<-J]
 refine Nb9 (va:=.slice pa AL.length ca) (vd:=Vi d) (vq:=vq) b5 (by omega) (by omega) aq (by omega) fun G1 o w an S bq=>?_
 have cy:=S.len
 have eG:(G'++([]:NB)).length=G'.length:=by simp
 rw [Nmo ((S.get ap (by omega) (nb _ (Ng _))).trans ap.symm)]
 obtain ⟨g,v⟩:∃g,g=addN PL (x.pl,x.rd):=⟨_,rfl⟩
 rw [<-v] at an⊢
 obtain ⟨Y1,L⟩:=Ndm PL (x.pl,x.rd)
 rw [<-v] at L
 have bp:(x.pl,x.rd)∈g:=by rw [v];exact Ndl.2 (.inr rfl)
 have bh:PlR g to:=by rw [v];exact u.add O bw bx
 have cf:g.length<=PL.length+1:=by rw [v];unfold addN;split<;>simp
 obtain ⟨G2,e2,k2,N⟩:=OO (G:=G1) (R:=G'.length) (by omega) (Vc (Ta Vz Vz (Vi 0) Vz))
 obtain ⟨G3,e3,k3,m3⟩:=OO (ND k2) (Vc (Ta (.slice o g.length w) (.slice pa AL.length ca) (Vi d) vq))
 have bm:=N.len
 have cz:=m3.len
 have a8:NC G1 B9=_:=S.cells (am.cells ad) f.nb.1
 have aj:=m3.cells (N.cells a8 (by omega)) (by omega)
 obtain ⟨F,e4,k4,m4⟩:=OO (ND aj) (Vc (Ta (.slice o g.length w) (.slice pa AL.length ca) (Vi d) vq))
 have c0:=m4.len
 have U:∀b∈PZ o,b∈PZ pp\/G'.length+1<=b:=fun b i=>by
  rcases bq b i with h | h
  ·exact .inl h
  ·exact .inr (by omega)
 have a6:G'.length∉PZ o:=fun q=>by
  rcases U _ q with h | h
  ·exact nb _ (Ng _) h
  ·omega
 have n9:B9∉PZ o:=fun q=>by
  rcases U _ q with h | h
  ·exact f.nb.1 h
  ·omega
 have ao:TF M F enc2 2 o w g:=((an.mut N fun a l e=>a6 (NT.2 ⟨a,l,e⟩)).mut m3 fun a l e=>a6 (NT.2 ⟨a,l,e⟩)).mut m4 fun a l e=>n9 (NT.2 ⟨a,l,e⟩)
 have I:Chg (PZ pp) G' G3:=((am.chg.trans S).mut N (.inr (Ng _))).mut m3 (.inr (Ng _))
 have b3:Own M F SA 4 pa ca AL:=(ah.chg I fun a l q=>f.dj _ q (NT.2 ⟨a,l,rfl⟩)).mut m4 fun a l e=>f.nb.2 (NT.2 ⟨a,l,e⟩)
 have ce:Sl F encS 3 ps s:=by
  refine m4.sl (I.sl ss fun a l ag q=>?_) fun a l ag=>?_
  ·obtain ⟨b,i,e⟩:=NT.1 q
   have h1:=(T.block i).1
   rw [l] at hs
   have h2:=hs.lt ag
   omega
  ·rw [l] at hs
   have h2:=hs.lt ag
   omega
 have b0:∀Z,AM.loadCell (F++Z) ((SX ps 3 j).add 2)=some (Vi x.gr):=fun Z=>by
  have:=(ce.app Z).loadCell OI n (j:=2) (by decide)
  rw [<-W] at this;exact this
 obtain ⟨k,hk⟩:∃k,k=g.idxOf (x.pl,x.rd):=⟨_,rfl⟩
 rw [<-hk]
 obtain ⟨G5,p5,c5,e5,O5,C5,K5,bo,bt,_⟩:=b3.moreD (lim':=lim) (d:=F.length+1) (bytes:=32) aq QC (by decide) [⟨k,0,x.gr,0⟩] (by simp;unfold PM;omega) (by simp;omega) (by omega) [Vc [Vi 0,Vi k,Vi x.gr,Vi 0],.dead] (by omega) (by simp) (x:=.slice (Sa F.length) 1 1) (str:=false)
  (QG (m:=[⟨k,0,x.gr,0⟩]) (Sl.row (ro:=false) QC NN)) rfl
 have au:=bt (by simp)
 subst au
 simp only [Nj,Nl,N0] at e5 O5 K5 bo
 have ba:=K5 B9 (by omega) fun a l e=>f.nb.2 (NT.2 ⟨a,l,e.symm⟩)
 have b95:=ba.trans k4
 rw [Na] at b95
 obtain ⟨G6,e6,k6,m6⟩:=OO (ND b95) (Vc (Ta (.slice o g.length w) (.slice (Sa (F.length+1)) (AL.length+1) c5) (Vi d) vq))
 have c3:=m6.len
 have ay:=fun Z=>(NZ.refl.app (X:=Z)).cells k2
 have az:=fun Z=>(NZ.refl.app (X:=Z)).cells k3
 have a3:=fun Z=>(NZ.refl.app (X:=Z)).cells aj
 have a1:=fun Z=>(NZ.refl.app (X:=Z)).cells k4
 have a5:=fun Z=>(NZ.refl.app (X:=Z)).cells b95
 unfold Ta at e2 e3 ay az a3 e4 a1 a5 e6
 refine NI ?_
 simp only [n51,q1,q9,D,Ta,e2,ay,e3,az,a3,e4,a1,b0,xS,e5,a5,e6,show lim<=G'.length by omega,show lim<=B9 by omega,w1,SB,seval,NJ,NF,place,NA]
 rw [Na] at O5 K5 C5
 have bd:C.map (XA g to)++Vx g to dl (s.take (j+1))=AL++[⟨k,0,x.gr,0⟩]:=by
  have ak:=Mo (PL:=g) (to:=to) (dl:=dl) n
  rw [<-W,Nk ⟨by omega,O⟩,<-hk] at ak
  rw [ak,<-Nr,A]
  congr 2
  ·refine P6 fun y hy=>?_
   rw [L];exact Nhb (p y hy).1 (p y hy).2
  ·rw [L];exact Nhp r
 have av:∀b∈PZ o,b<F.length:=fun b i=>by
  obtain ⟨a,l,rfl⟩:=NT.1 i
  exact (ao.block l).2
 have bu:∀b∈PZ pa,b<G'.length:=fun b i=>by
  obtain ⟨a,l,rfl⟩:=NT.1 i
  exact (ah.block l).2
 have b2:∀b,b<G'.length->b∉PZ pp->b∉PZ o:=fun b i br q=>by
  rcases U b q with h | h
  ·exact br h
  ·omega
 have a2:∀b,b<F.length->b≠B9->b∉PZ pa->NC G6 b=NC F b:=fun b i h1 h2=>by
  rw [m6.other b h1,K5 b i fun a l e=>h2 (NT.2 ⟨a,l,e.symm⟩)]
 have a0:∀b,b<G'.length->b≠B9->b∉PZ pa->b∉PZ pp->NC G6 b=NC G' b:=fun b i h1 h2 h3=>by
  rw [a2 b (by omega) h1 h2,m4.other b h1,I.other b i h3]
 refine hN (j+1,o,w,Sa (F.length+1),c5,g) _ _ ⟨by show j+1<=_;omega,⟨q1,q2,q3,q4,q8,q9⟩,rfl, ?_,bh,by show g.length<=_;omega,fun c hc=>?_,fun y hy h1 h2=>?_, ?_,by simp;omega⟩ (by show s.length-(j+1)<s.length-j;omega)
 ·show GS M B9 X G _ o w (Sa (F.length+1)) c5 (U3 to dl (s.take (j+1))) vq g (_++Vx g to dl (s.take (j+1)))
  rw [bd,P]
  have bg:TF M G6 enc2 2 o w g:=ao.same fun a l=>by
   have ac:a.block∈PZ o:=NT.2 ⟨a,l,rfl⟩
   refine a2 _ (av _ ac) (fun e=>n9 (by rw [<-e];exact ac)) fun q=>?_
   have:=bu _ q
   rcases U _ ac with h | h
   ·exact f.dj _ h q
   ·omega
  refine ⟨?_,bg.app _,(O5.mut m6 fun a l e=>by cases l;simp only at e;omega).app _,⟨n9,fun q=>by simp only [PZ,Ni] at q;omega⟩,fun b i q=>by simp only [PZ,Ni] at q;have:=av b i;omega,fun b i=>?_,fun b i=>?_⟩
  ·rw [Nb,Ow];exact (NZ.refl.app).cells k6
  ·obtain ⟨x1,x2,x3,x4⟩:=f.sx b i
   exact ⟨by simp;omega,x2,b2 b x1 x3,fun q=>by simp only [PZ,Ni] at q;omega⟩
  ·obtain ⟨x1,x2,x3,x4⟩:=f.sx b i
   rw [NK (by omega),a0 b x1 x2 x4 x3]
   exact f.kp b i
 ·show (c.1.frm,c.2-c.1.cut)∈g/\(c.1.dst≠to->(c.1.dst,c.2+c.1.mins)∈g)
  rw [L]
  exact ⟨Ny _ (p c hc).1,fun h=>Ny _ ((p c hc).2 h)⟩
 ·show (y.pl,y.rd)∈g
  rcases ai y hy with h | h
  ·rw [L];exact Ny _ (r y h h1 h2)
  ·rw [h];exact bp
 ·have cr:=B.len
  refine Chg.app ⟨by omega,fun b i _=>?_⟩
  rw [a0 b (by omega) (by omega) (fun q=>by
   obtain ⟨a,l,rfl⟩:=NT.1 q
   have:=(ah.block l).1;omega) fun q=>by
   obtain ⟨a,l,rfl⟩:=NT.1 q
   have:=(T.block l).1;omega]
  exact B.other b i (by simp)
theorem Nzf {PL:List (Int×Int)} {i:Nat}:TP PL i 2=-1:=by simp [TP]
theorem Nrk [OB] {lim B9 cp i:Nat} {pp:Option Addr} {y z w v1 v2 v3 v4 v8:Value} {PL:List (Int×Int)} {G:NB} {fr:Nat->Value} {K:List AItem} {Q:Value->NB->Prop}
  (N:BB fr v1 v2 v3 v4 v8 (Vp B9)) (F:fr 19=Vi i) (H:fr 20=Vi (-1)) (I:fr 21=Vi 2)
  (L:NC G B9=Vc (Ta (.slice pp PL.length cp) y z w)) (O:Sl G enc2 2 pp PL) (h2:2<=PL.length) (hl:PL.length<2 ^ 30) (hi:i<PL.length)
  (M:∀fr' G',BB fr' v1 v2 v3 v4 v8 (Vp B9)->fr' 19=Vi i->fr' 20=Vi (TP PL i PL.length)->NZ G G'->PI E a51 lim K fr' G' Q) :
  PI E a51 lim (.code (.loop Nuu)::.inBlock 6::K) fr G Q:=by
 refine NM (fun k=>PL.length-k) (fun k o G'=>2<=k/\k<=PL.length/\BB o v1 v2 v3 v4 v8 (Vp B9)/\o 19=Vi i/\o 20=Vi (TP PL i k)/\o 21=Vi k/\NZ G G') 2 ⟨Ng _,h2,N,F,by rw [Nzf];exact H,I,.refl⟩ ?_
 intro k o G' ⟨A,R,⟨q1,q2,q3,u,v,l⟩,d,f,g,r⟩ x
 rw [NQ Nuu.eq_1]
 refine NI ?_
 have t:=fun Z=>(r.app (X:=Z)).cells L
 unfold Ta at t
 by_cases a:k<PL.length
 case neg=>
  obtain rfl:k=PL.length:=by omega
  simp only [n51,l,g,t,SB,seval,NJ,NF]
  exact M _ _ ⟨q1,q2,q3,u,v,l⟩ d f r.app
 have J:=r.sl O
 have l0:∀n,n<PL.length->∀Z,AM.loadCell (G'++Z) ((SX pp 2 n).add 0)=some (Vi (gt PL n).1):=fun n hn Z=>(J.app Z).loadCell PO hn (j:=0) (by decide)
 have l1:∀n,n<PL.length->∀Z,AM.loadCell (G'++Z) ((SX pp 2 n).add 1)=some (Vi (gt PL n).2):=fun n hn Z=>(J.app Z).loadCell PO hn (j:=1) (by decide)
 have m:∀n,n<PL.length->∀(c:Nat) (kk:IntKind) (H1:NB),Vh 2 (.slice pp PL.length c) (.int kk (n:Int)) H1=some (.pointer (some (SX pp 2 n)),H1):=fun n hn=>QN J hn rfl
 have B:IntKind.i64.wrap ((k:Int)+1)=((k+1:Nat):Int):=NS (by omega)
 have p:TP PL i (k+1)=if 2<=k/\(gt PL k).1=(gt PL i).1/\(gt PL i).2<(gt PL k).2/\(TP PL i k<0\/(gt PL k).2<(gt PL (TP PL i k).toNat).2) then (k:Int) else TP PL i k:=rfl
 by_cases q:(gt PL k).1=(gt PL i).1
 case neg=>
  simp only [n51,l,d,g,t,a,l0 _ a,l0 _ hi,m _ a,m _ hi,B,Nn q,SB,seval,NJ,NF]
  refine x (k+1) _ _ ⟨by omega,by omega,⟨q1,q2,q3,u,v,l⟩,d, ?_,rfl,r.app⟩ (by omega)
  rw [p,Nf fun h=>q h.2.1];exact f
 by_cases s:(gt PL i).2<(gt PL k).2
 case neg=>
  simp only [n51,l,d,g,t,a,l0 _ a,l1 _ a,l0 _ hi,l1 _ hi,m _ a,m _ hi,B,Nq q,Nn s,SB,seval,NJ,NF]
  refine x (k+1) _ _ ⟨by omega,by omega,⟨q1,q2,q3,u,v,l⟩,d, ?_,rfl,r.app⟩ (by omega)
  rw [p,Nf fun h=>s h.2.2.1];exact f
 rcases ZV (PL:=PL) (i:=i) (n:=k) with ⟨e,_⟩ | ⟨b,e,b1,P,_⟩
 ·rw [e] at f p
  rw [Nk ⟨A,q,s,.inl (by omega)⟩] at p
  simp only [n51,l,d,f,g,t,a,l0 _ a,l1 _ a,l0 _ hi,l1 _ hi,m _ a,m _ hi,B,Nq q,Nq s,SB,seval,NJ,NF]
  refine x (k+1) _ _ ⟨by omega,by omega,⟨q1,q2,q3,u,v,l⟩,d, ?_,rfl,r.app⟩ (by omega)
  rw [p];exact rfl
 ·rw [e,O0] at p
  rw [e] at f
  have D:b<PL.length:=by omega
  have nb:¬(b:Int)<0:=by omega
  by_cases C:(gt PL k).2<(gt PL b).2
  ·rw [Nk ⟨A,q,s,.inr C⟩] at p
   simp only [n51,l,d,f,g,t,a,l0 _ a,l1 _ a,l0 _ hi,l1 _ hi,m _ a,m _ hi,B,Nq q,Nq s,l1 _ D,m _ D,Nn nb,Nq C,SB,seval,NJ,NF]
   refine x (k+1) _ _ ⟨by omega,by omega,⟨q1,q2,q3,u,v,l⟩,d, ?_,rfl,r.app⟩ (by omega)
   rw [p];exact rfl
  ·rw [Nf fun h=>h.2.2.2.elim nb C] at p
   simp only [n51,l,d,f,g,t,a,l0 _ a,l1 _ a,l0 _ hi,l1 _ hi,m _ a,m _ hi,B,Nq q,Nq s,l1 _ D,m _ D,Nn nb,Nn C,SB,seval,NJ,NF]
   refine x (k+1) _ _ ⟨by omega,by omega,⟨q1,q2,q3,u,v,l⟩,d, ?_,rfl,r.app⟩ (by omega)
   rw [p];exact f
theorem Nwq {PL:List (Int×Int)}:Sv PL 2=[]:=by simp [Sv]
theorem Nl7 [OB] {lim M B9:Nat} {X:List Nat} {pp pa:Option Addr} {cp ca:Nat} {v1 v2 v3 v4 v8 vq:Value} {d:Int} {to:Int} {PL:List (Int×Int)} {l:List Pr} {H G:NB} {fr:Nat->Value} {K:List AItem} {Q:Value->NB->Prop}
  (hf:BB fr v1 v2 v3 v4 v8 (Vp B9)) (V:fr 19=Vi 2)
  (hS:GS M B9 X G G pp cp pa ca d vq PL l) (ac:PlR PL to) (aw:PL.length<2 ^ 22) (am:l.length<2 ^ 22) (ag:lim<=M) (ap:H.length<=M) (au:M<=B9) (Y:Chg [] H G)
  (hR:∀fr' G' ai T,BB fr' v1 v2 v3 v4 v8 (Vp B9)->GS M B9 X G G' pp cp ai T d vq PL (l++Sv PL PL.length)->Chg [] H G'->PI E a51 lim K fr' G' Q) :
  PI E a51 lim (.code (.loop Nut)::.inBlock 4::K) fr G Q:=by
 have av:M<=G.length:=by have:=ND hS.hdr;omega
 have h2:=ac.two
 refine NM (fun z:Nat×Option Addr×Nat=>PL.length-z.1) (fun z s G'=>2<=z.1/\z.1<=PL.length/\BB s v1 v2 v3 v4 v8 (Vp B9)/\s 19=Vi z.1/\GS M B9 X G G' pp cp z.2.1 z.2.2 d vq PL (l++Sv PL z.1)/\Chg [] H G'/\G.length<=G'.length) (2,pa,ca)
  ⟨Ng _,h2,hf,V,by show GS M B9 X G G pp cp pa ca d vq PL (l++Sv PL 2);rw [Nwq,Na];exact hS,Y,Ng _⟩ ?_
 rintro ⟨j,pa,ca⟩ s G' ⟨D,hj,⟨q1,q2,q3,q4,q8,P⟩,r,c,o,aj⟩ hN
 simp only at D hj r c
 have C:∀n,(Sv PL n).length<=n:=fun n=>by
  induction n with
  | zero=>simp [Sv]
  | succ n ih=>
    rw [Sv,Nb]
    by_cases hn:2<=n
    ·rw [Nk hn];unfold Ng3;split<;>simp<;>omega
    ·rw [Nf hn];simp;omega
 obtain ⟨AL,k⟩:∃AL,AL=l++Sv PL j:=⟨_,rfl⟩
 have an:AL.length<=l.length+j:=by rw [k,Nb];have:=C j;omega
 rw [<-k] at c
 rw [NQ Nut.eq_1]
 have k9:=fun Z=>(NZ.refl.app (X:=Z)).cells c.hdr
 unfold Ta at k9
 refine NI ?_
 by_cases F:j<PL.length
 case neg=>
  obtain rfl:j=PL.length:=by omega
  simp only [n51,P,r,k9,SB,seval,NJ,NF]
  rw [k] at c
  exact hR _ _ pa ca ⟨q1,q2,q3,q4,q8,P⟩ ⟨(NZ.refl.app).cells c.hdr,c.op.app _,c.oa.app _,c.nb,c.dj,fun b f=>⟨by have:=(c.sx b f).1;simp;omega,(c.sx b f).2⟩,fun b f=>by rw [NK (c.sx b f).1];exact c.kp b f⟩ o.app
 simp only [n51,P,r,k9,F,SB,seval,NJ,NF]
 refine Nrk (i:=j) (y:=.slice pa AL.length ca) (z:=Vi d) (w:=vq) ⟨q1,q2,q3,q4,q8,P⟩ r rfl rfl ((NZ.refl.app).cells c.hdr) ((c.op.sl PO).app _) h2 (by omega) F fun ak u ad B t aa=>?_
 obtain ⟨g1,g2,g3,g4,g8,W⟩:=ad
 have g:NZ G' u:=NZ.trans (NZ.refl.app) aa
 have ay:=g.len
 have U:=g.cells c.hdr
 have w1:IntKind.i64.wrap ((j:Int)+1)=((j+1:Nat):Int):=NS (by omega)
 have ao:=ND c.hdr
 have N:=c.op.chg (A:=[]) g.chg fun _ _ h=>by cases h
 have L:=c.oa.chg (A:=[]) g.chg fun _ _ h=>by cases h
 have J:∀b,b<G'.length->NC u b=NC G' b:=fun b f=>by obtain ⟨Z,rfl⟩:=g;exact NK f
 have v:Sv PL (j+1)=Sv PL j++Ng3 PL j:=by rw [Sv,Nk D]
 refine NI ?_
 by_cases S:0<=TP PL j PL.length
 case neg=>
  have e0:Ng3 PL j=[]:=Nf S
  simp only [n51,B,t,Nn S,w1,SB,seval,NJ,NF]
  refine hN (j+1,pa,ca) _ _ ⟨by show 2<=j+1;omega,by show j+1<=_;omega,⟨g1,g2,g3,g4,g8,W⟩,rfl, ?_,(o.trans g.chg).app,by simp;omega⟩ (by show PL.length-(j+1)<PL.length-j;omega)
  show GS M B9 X G _ pp cp pa ca d vq PL (l++Sv PL (j+1))
  rw [v,e0,Na (Sv PL j),<-k]
  exact ⟨(NZ.refl.app).cells U,N.app _,L.app _,c.nb,c.dj,fun b f=>⟨by have:=(c.sx b f).1;simp;omega,(c.sx b f).2⟩,fun b f=>by
   have hx:=(c.sx b f).1
   rw [NK (by omega),J b hx];exact c.kp b f⟩
 obtain ⟨b,f⟩:∃b:Nat,TP PL j PL.length=b:=⟨(TP PL j PL.length).toNat,by omega⟩
 have e0:Ng3 PL j=[⟨b,j,VW,0⟩]:=by unfold Ng3;rw [Nk S,f];rfl
 rw [f] at t
 have nn:(0:Int)<=(b:Int):=by omega
 obtain ⟨G4,e4,O4,R,ae⟩:=Own.moreF L (lim':=lim) (bytes:=32) ag QC (by decide) [⟨b,j,VW,0⟩] (by simp) (by simp;unfold PM;omega) (by simp;omega) [Vc [Vi j,Vi b,Vi 1152921504606846976,Vi 0]] (x:=.slice (Sa u.length) 1 1) (str:=false)
  (QG (m:=[⟨b,j,VW,0⟩]) (Sl.row (ro:=false) QC NN)) rfl
 simp only [Nb,Nj,Nl,N0] at e4 O4 ae
 have d4:=R.cells U c.nb.2
 have k3:=fun Z=>(NZ.refl.app (X:=Z)).cells U
 have k4:=fun Z=>(NZ.refl.app (X:=Z)).cells d4
 obtain ⟨G5,e5,k5,O⟩:=OO (ND d4) (Vc (Ta (.slice pp PL.length cp) (.slice (Sa (u.length+1)) (AL.length+1) (loose 4)) (Vi d) vq))
 have az:=O.len
 unfold Ta at k3 k4 e5
 simp only [n51,W,B,t,Nq nn,k3,e4,k4,e5,show lim<=B9 by omega,w1,SB,seval,NJ,NF,place,NA]
 have ah:∀b∈PZ pp,b<G'.length:=fun b f=>by
  obtain ⟨a,p,rfl⟩:=NT.1 f
  exact (c.op.block p).2
 have I:∀b,b<G'.length->b≠B9->b∉PZ pa->NC G5 b=NC G' b:=fun b f h1 h2=>by
  rw [O.other b h1,R.other b (by omega) h2,J b f]
 refine hN (j+1,Sa (u.length+1),loose 4) _ _ ⟨by show 2<=j+1;omega,by show j+1<=_;omega,⟨g1,g2,g3,g4,g8,W⟩,rfl, ?_, ?_,by simp;omega⟩ (by show PL.length-(j+1)<PL.length-j;omega)
 ·show GS M B9 X G _ pp cp (Sa (u.length+1)) (loose 4) d vq PL (l++Sv PL (j+1))
  rw [v,e0,<-Nr,<-k]
  refine ⟨?_,((N.chg R fun a p q=>c.dj _ (NT.2 ⟨a,p,rfl⟩) q).mut O fun a p e=>c.nb.1 (NT.2 ⟨a,p,e⟩)).app _,(((O4.le (by omega)).mut O fun a p e=>by cases p;simp only at e;omega)).app _,⟨c.nb.1,fun q=>by simp only [PZ,Ni] at q;omega⟩,fun b f q=>by simp only [PZ,Ni] at q;have:=ah b f;omega,fun b f=>?_,fun b f=>?_⟩
  ·rw [Nb,Ow];exact (NZ.refl.app).cells k5
  ·obtain ⟨x1,x2,x3,x4⟩:=c.sx b f
   exact ⟨by simp;omega,x2,x3,fun q=>by simp only [PZ,Ni] at q;omega⟩
  ·obtain ⟨x1,x2,x3,x4⟩:=c.sx b f
   rw [NK (by omega),I b x1 x2 x4]
   exact c.kp b f
 ·have aq:=o.len
  refine Chg.app ⟨by omega,fun b f _=>?_⟩
  rw [I b (by omega) (by omega) fun q=>by
   obtain ⟨a,p,rfl⟩:=NT.1 q
   have:=(c.oa.block p).1;omega]
  exact o.other b f (by simp)
theorem Nh3 {α β:Type} {f:α->β}:∀{O:List β} {D:List α},O.Perm (D.map f)->∃C:List α,C.Perm D/\C.map f=O
 | [],D,h=>by
   have:=h.length_eq
   rw [Ou,Nl] at this
   rw [List.length_eq_zero_iff.1 this.symm]
   exact ⟨[],.nil,rfl⟩
 | b::O,D,h=>by
   obtain ⟨a,c,e⟩:=List.mem_map.1 (h.mem_iff.1 Nm)
   obtain ⟨l1,d,rfl⟩:=List.append_of_mem c
   have h2:(b::O).Perm (b::(l1++d).map f):=by
    refine h.trans ?_
    rw [Pe,Pi,e,Pe]
    exact List.perm_middle
   obtain ⟨C,p,q⟩:=Nh3 h2.cons_inv
   exact ⟨a::C,(p.cons a).trans List.perm_middle.symm,by rw [Pi,q,e]⟩
theorem Mx {P:List Int} {L:List Leg} (h:QB P L=0) {p:Int} (hp:p∈P):1<=p:=by
 obtain ⟨i,hi,rfl⟩:=List.mem_iff_getElem.1 hp
 have:=(UX h).2.2.1 i hi
 unfold pOk at this
 rw [OJ hi] at this
 omega
structure RG (M:Nat) (G:NB) (pp:Option Addr) (cp:Nat) (pa:Option Addr) (ca:Nat) (pq:Option Addr) (cq:Nat) (PL:List (Int×Int)) (AL:List Pr) (C:List (Leg×Int)):Prop where
 op:TF M G enc2 2 pp cp PL
 oa:Own M G SA 4 pa ca AL
 oq:Own M G QI 4 pq cq (C.map Tv)
 dj:∀b∈PZ pa,b∉PZ pp/\b∉PZ pq
theorem GS.reset {M B:Nat} {X:List Nat} {G0 G:NB} {pp pa:Option Addr} {cp ca:Nat} {d:Int} {vq:Value} {PL:List (Int×Int)} {AL:List Pr} (h:GS M B X G0 G pp cp pa ca d vq PL AL) (Z:NB):GS M B X (G++Z) (G++Z) pp cp pa ca d vq PL AL:=
 ⟨(NZ.refl.app).cells h.hdr,h.op.app _,h.oa.app _,h.nb,h.dj,fun b a=>⟨by have:=(h.sx b a).1;simp;omega,(h.sx b a).2⟩,fun _ _=>rfl⟩
theorem Ne0 [OB] {lim:Nat} {pn pl ps:Option Addr} {P:List Int} {L:List Leg} {s:List Flow.Src} {cn cl cs:Nat} {to dl:Int} {H:NB} {Q:Value->NB->Prop} (hn:NetIn H pn pl P L) (hs:Sl H encS 3 ps s) (j:OC P L s to dl=0) (aj:L.length<=8) (az:lim<=H.length)
  (hQ:∀G pp cp pa ca pq cq C PL,C.Perm (NP L to dl)->(C.map Tv).Pairwise (fun x y=>¬RH y x)->GrR PL to dl s C->RG H.length G pp cp pa ca pq cq PL (grR PL to dl s C) C->PL.length<2 ^ 21->Chg [] H G->Q (.agg (Ta (.slice pp PL.length cp) (.slice pa (grR PL to dl s C).length ca) (Vi (U3 to dl s)) (.slice pq C.length cq)).toArray) G) :
  NR E false lim 51 [.agg (QJ pn P.length cn pl L.length cl).toArray,.slice ps s.length cs,Vi to,Vi dl] H Q:=by
 have n:=S9 j
 have hv:=RX j
 have mt:OP=1051898399:=rfl
 have bg:=n.ns
 refine Te (by decide) e51 rfl ?_
 rw [b51,c51]
 simp only [n51,OG,SB,seval,NE,NJ,NH,place,NA]
 refine MV (hn.app _) n.net.fine aj n.d0 n.d1 (by simp;omega) fun G1 q c O r F av l=>?_
 obtain ⟨C,A,rfl⟩:=Nh3 F
 have aq:=l.len
 simp only [Nb,Nj,Nl] at aq r
 have bc:=SC (to:=to) (dl:=dl) n.net.fine
 have bb:C.length<=112:=by rw [A.length_eq];omega
 have b4:NC G1 H.length=Vc (QJ pn P.length cn pl L.length cl):=l.cells NN (by simp)
 have b8:NC G1 (H.length+1)=Vc (Ta Vz Vz (Vi 0) Vz):=l.cells OL (by simp)
 have b24:NC G1 (H.length+2)=Vc ([((0:Int),(0:Int)),(-1,0)].flatMap enc2):=l.cells OL (by simp)
 have ai:Chg [] H G1:=l.pre
 have t:∀b∈PZ q,H.length+3<=b/\b<G1.length:=fun b hb=>by
  obtain ⟨a,j,rfl⟩:=NT.1 hb
  have:=r.block j;omega
 have p:∀x∈C,x.1∈L/\x.1.frm≠to/\0<=x.2-x.1.cut/\x.2-x.1.cut<=OP/\0<=x.2+x.1.mins/\x.2+x.1.mins<=OP/\1<=x.1.frm/\1<=x.1.dst:=fun x k=>by
  obtain ⟨m1,m2,d,m3,m4,m5,m6⟩:=QT (A.mem_iff.1 k)
  have hF:=n.net.fine _ m1
  unfold Fine at hF
  unfold goes at m3
  simp only [N9,N3] at m3
  have bd:=n.d1
  exact ⟨m1,m2,by omega,by omega,by omega,by omega,Mx hv (n.net.frm _ m1),Mx hv (n.net.dst _ m1)⟩
 refine NI ?_
 simp only [n51,show lim<=G1.length by omega,Ou,SB,seval,NJ,place,NA]
 obtain ⟨J,m⟩:∃J,J=G1++[Vc [.slice (Sa (H.length+2)) 2 2,Vz,Vi 0,.slice q C.length c]]:=⟨_,rfl⟩
 have be:J.length=G1.length+1:=by rw [m];simp
 have i:∀b,b<G1.length->NC J b=NC G1 b:=fun b hb=>by rw [m];exact NK hb
 have b9:NC J G1.length=Vc (Ta (.slice (Sa (H.length+2)) 2 2) Vz (Vi 0) (.slice q C.length c)):=by rw [m];exact NN
 have U:Chg [] H J:=by rw [m];exact ai.app
 rw [<-m]
 refine Noi (H:=H) (M:=H.length) (B4:=H.length) (B9:=G1.length) (X:=H.length::(H.length+1)::PZ q) (v1:=.slice ps s.length cs) (v8:=Vp (H.length+1)) (C:=C) (PL:=[(0,0),(-1,0)]) (pp:=Sa (H.length+2)) (cp:=2) (pa:=none) (ca:=0) hn hv p (by omega) ⟨rfl,rfl,rfl,rfl,rfl,rfl⟩ rfl
  ⟨b9,.inr ⟨_,rfl,rfl,by decide,by rw [i _ (by omega)];exact b24,by omega⟩,.nil,⟨by simp [PZ];omega,by simp [PZ]⟩,fun b _=>by simp [PZ],fun b hb=>?_,fun b _=>rfl⟩
  PlR.first (by simp) ⟨by simp,fun b hb=>by simp [hb]⟩ (by rw [i _ (by omega)];exact b4) ?_ (by omega) (by omega) (by omega) U fun a6 G3 bm a5 bk a2 a1 an B ak aa au ae=>?_
 ·simp only [Nu] at hb
  rcases hb with rfl | rfl | hb
  ·exact ⟨by omega,by omega,by simp [PZ],by simp [PZ]⟩
  ·exact ⟨by omega,by omega,by simp [PZ],by simp [PZ]⟩
  ·have:=t b hb
   exact ⟨by omega,by omega,by simp [PZ];omega,by simp [PZ]⟩
 ·refine (r.sl NU).same fun a j _=>?_
  have:=t _ (NT.2 ⟨a,j,rfl⟩)
  exact i _ (by omega)
 obtain ⟨g1,K,N,S,w,z⟩:=an
 refine NI ?_
 simp only [n51,SB,seval,NJ]
 have ac:∀x∈s,1<=x.pl/\0<=x.rd/\0<=x.gr/\x.gr<=1000000000:=fun x k=>by
  obtain ⟨k1,k2,k3,k4,k5⟩:=n.src x k
  exact ⟨Mx hv k1,k2,k4,k5⟩
 refine Noz (H:=H) (M:=H.length) (B9:=G1.length) (X:=H.length::(H.length+1)::PZ q) (cs:=cs) (v4:=Vp H.length) (v8:=Vp (H.length+1)) (C:=C) hs ac (by omega) (by omega) ⟨g1,K,N,S,w,z⟩ rfl (B.reset []) ak aa au (by omega) (by omega) (by omega) ae.app fun a8 G4 I v bl a3 f ao D V a0 W Y ag=>?_
 clear g1 K N S w z
 obtain ⟨g1,K,N,S,w,z⟩:=ao
 refine NI ?_
 simp only [n51,SB,seval,NJ]
 have bh:=Z6 (PL:=f) (to:=to) (dl:=dl) (s:=s)
 refine Nl7 (H:=H) (M:=H.length) (B9:=G1.length) (X:=H.length::(H.length+1)::PZ q) (v1:=.slice ps s.length cs) (v2:=Vi to) (v3:=Vi dl) (v4:=Vp H.length) (v8:=Vp (H.length+1)) ⟨g1,K,N,S,w,z⟩ rfl (D.reset []) V (by omega) (by rw [Nb,Ou];omega) (by omega) (by omega) (by omega) ag.app fun ba G5 u o ap g T=>?_
 clear g1 K N S w z
 obtain ⟨g1,K,N,S,w,z⟩:=ap
 have kp:∀b∈H.length::(H.length+1)::PZ q,NC G5 b=NC G1 b:=fun b hb=>by
  have x4:=(D.sx b hb).1
  have x3:=(B.sx b hb).1
  rw [g.kp b hb,NK x4,D.kp b hb,NK x3,B.kp b hb]
  refine i b ?_
  simp only [Nu] at hb
  rcases hb with rfl | rfl | hb
  ·omega
  ·omega
  ·exact (t b hb).2
 have b85:=(kp (H.length+1) (by simp)).trans b8
 obtain ⟨_,x2,x3,x4⟩:=g.sx (H.length+1) (by simp)
 obtain ⟨G6,e6,k6,m6⟩:=OO (ND b85) (Vc (Ta (.slice I f.length v) (.slice u (grR f to dl s C).length o) (Vi (U3 to dl s)) (.slice q C.length c)))
 have am:NC G5 G1.length=Vc (Ta (.slice I f.length v) (.slice u (grR f to dl s C).length o) (Vi (U3 to dl s)) (.slice q C.length c)):=g.hdr
 have aw:Own H.length G5 SA 4 u o (grR f to dl s C):=g.oa
 have k9:=fun Z=>(NZ.refl.app (X:=Z)).cells am
 have k8:=fun Z=>(NZ.refl.app (X:=Z)).cells b85
 have ad:=fun Z=>(NZ.refl.app (X:=Z)).cells k6
 have ah:GrR f to dl s C:=⟨V,fun x k h1 h2=>⟨(ac x k).1,Y x k h1 h2⟩,fun x k=>⟨⟨(p x k).2.1,(p x k).2.2.2.2.2.2.1,(W x k).1⟩,fun h=>⟨(p x k).2.2.2.2.2.2.2,(W x k).2 h⟩⟩⟩
 have ay:Own H.length G5 QI 4 q c (C.map Tv):=by
  rcases r with h | ⟨R,h1,h2,h3,h4⟩
  ·exact .inl h
  ·exact .inr ⟨R,h1,h2,by rw [kp R (by simp [NT.2 ⟨_,h1,rfl⟩])];exact h3,by omega⟩
 have bf:=T.len
 have hq:=hQ (G6++[]) I v u o q c C f A av ah ⟨(g.op.mut m6 fun a j e=>x3 (NT.2 ⟨a,j,e⟩)).app _,(aw.mut m6 fun a j e=>x4 (NT.2 ⟨a,j,e⟩)).app _,(ay.mut m6 fun a j e=>by have:=t _ (NT.2 ⟨a,j,rfl⟩);omega).app _,fun b hb=>⟨fun hm=>g.dj b hm hb,fun hm=>(g.sx b (by simp [hm])).2.2.2 hb⟩⟩ (by omega) (T.mut m6 (.inr (by omega))).app
 unfold Ta at e6 k9 k8 ad hq
 refine NI ?_
 simp only [n51,r51,w,z,k9,k8,e6,ad,show lim<=H.length+1 by omega,SB,seval,NJ,NA,NG]
 exact hq
def N00:ACode:=(Ds 0 [fT 45 0 8,lT 46 45,mT 47 5,mT 48 6,xT 49 1 47 48,lT 50 49,Bt 51 .eql 46 50,mT 52 51,Pf 53 52 2 8,Pl 54 52 53,p 55 52 (.bin .gtr (t 54) (zT 0)),At 56 52 55,mT 57 56,Pm 58 57 3,Pf 59 57 1 8,Pl 60 57 59,Px 61 57 2 58 60,Pf 62 57 0 61,Pl 63 57 62,p 64 57 (.bin .lss (t 63) (zT 0)),At 65 57 64] (.cond (t 65) (Oz [mT 66 3,fT 67 1 8,lT 68 67,mT 69 7,i 70 (.build [(Vi 0),(.bool false)] [(0,(1,(t 69)))]),xT 71 2 66 68,St 2 71 70] (.ops [mT 72 5,fT 73 1 8,lT 74 73,i 75 (.buildSlice 1 [(Vi 0)] [(0,(1,(t 74)))]),i 76 (.append 1 8 false (t 72) (t 75)),mT 5 76])) .skip))
def N0z:ACode:=(Ds 0 [fT 77 1 8,lT 78 77,mT 79 5,mT 80 6,xT 81 1 79 80,lT 82 81,Bt 83 .eql 78 82,mT 84 83,Pf 85 84 3 8,Pl 86 84 85,p 87 84 (.bin .gtr (t 86) (zT 0)),At 88 84 87,mT 89 88,Pm 90 89 3,Pf 91 89 0 8,Pl 92 89 91,Px 93 89 2 90 92,Pf 94 89 0 93,Pl 95 89 94,p 96 89 (.bin .lss (t 95) (zT 0)),At 97 89 96] (.cond (t 97) (Oz [mT 98 3,fT 99 0 8,lT 100 99,mT 101 7,i 102 (.build [(Vi 0),(.bool false)] [(0,(1,(t 101))),(1,(1,(k (.bool true))))]),xT 103 2 98 100,St 2 103 102] (.ops [mT 104 5,fT 105 0 8,lT 106 105,i 107 (.buildSlice 1 [(Vi 0)] [(0,(1,(t 106)))]),i 108 (.append 1 8 false (t 104) (t 107)),mT 5 108])) .skip))
def XF:Option Nat->Int
 | none=>-1
 | some i=>((i / 2:Nat):Int)
def Xn (o:Option Nat):List Value:=[Vi (XF o),.bool (match o with | none=>false | some i=>decide (i % 2=1))]
theorem RP (o:Option Nat):(Xn o).length=2:=id rfl
theorem Nfd {k:Nat}:Xn (some (2*k))=[Vi k,.bool false]:=by
 show [Value.int .i64 ((2*k / 2:Nat):Int),Value.bool (decide (2*k % 2=1))]=_
 rw [show 2*k / 2=k by omega,show decide (2*k % 2=1)=false from Nx (by omega)]
theorem Nwd {k:Nat}:Xn (some (2*k+1))=[Vi k,.bool true]:=by
 show [Value.int .i64 (((2*k+1) / 2:Nat):Int),Value.bool (decide ((2*k+1) % 2=1))]=_
 rw [show (2*k+1) / 2=k by omega,show decide ((2*k+1) % 2=1)=true from No (by omega)]
theorem N10 {l:List Pr} {j:Nat}:hd l (2*j+1)=(gt l j).tail:=by
 unfold hd
 rw [show (2*j+1) / 2=j by omega,Nf (by omega)]
theorem N02 {l:List Pr} {j:Nat}:tl l (2*j+1)=(gt l j).head:=by
 unfold tl
 rw [show (2*j+1) / 2=j by omega,Nf (by omega)]
structure RS (M B:Nat) (bv:List Value) (G:NB) (ph:Option Addr) (ch:Nat) (pq:Option Addr) (cq:Nat) (hw:List (Option Nat)) (q:List Nat):Prop where
 b1:NC G B=Vc bv
 oh:Own M G Xn 2 ph ch hw
 oq:TF M G Tq 1 pq cq q
 nb:B∉PZ ph/\B∉PZ pq
 dj:∀b∈PZ ph,b∉PZ pq
theorem RS.app {M B:Nat} {bv:List Value} {G:NB} {ph pq:Option Addr} {ch cq:Nat} {hw:List (Option Nat)} {q:List Nat} (h:RS M B bv G ph ch pq cq hw q) (Z:NB):RS M B bv (G++Z) ph ch pq cq hw q:=⟨(NZ.refl.app).cells h.b1,h.oh.app Z,h.oq.app Z,h.nb,h.dj⟩
theorem Nne {lim M B v i:Nat} {bv:List Value} {G:NB} {ph pq:Option Addr} {ch cq:Nat} {hw:List (Option Nat)} {q:List Nat} (h:RS M B bv G ph ch pq cq hw q) (o:lim<=M) (r:v<hw.length) (H:q.length<2 ^ 28) (C:M<=G.length) :
  ∃c d,(∀X,AM.storeAt lim (G++X) (SX ph 2 v) (Xn (some i))=some (c++X))/\OW lim none 1 8 false (.slice pq q.length cq) (.slice (Sa c.length) 1 1) (c++[Vc [Vi v]])=some (.slice (Sa (c.length+1)) (q.length+1) (loose 1),d++[])/\
   c.length=G.length/\RS M B bv d ph ch (Sa (c.length+1)) (loose 1) (hw.set v (some i)) (q++[v])/\(∀b,b<G.length->b∉PZ ph->b∉PZ pq->NC d b=NC G b)/\G.length<=d.length/\(∀b,b<G.length->b∉PZ ph->NC c b=NC G b):=by
 obtain ⟨b1,oh,oq,⟨z,F⟩,dj⟩:=h
 rcases oh with ⟨A,_,_⟩ | ⟨R,rfl,rfl,y,k⟩
 ·rw [A] at r;simp at r
 obtain ⟨c,e2,k2,g⟩:=Uq (lim:=lim) (p:=Sa R) RP rfl y (by omega) r (some i)
 have l:=g.len
 have s:∀b,b∉PZ (Sa R)->b≠R:=fun b f e=>f (NT.2 ⟨_,rfl,e.symm⟩)
 have w:R∉PZ pq:=dj R (NT.2 ⟨_,rfl,rfl⟩)
 have t:TF M c Tq 1 pq cq q:=oq.mut g fun a E e=>w (NT.2 ⟨a,E,e⟩)
 obtain ⟨d,e3,u,j,n⟩:=TF.moreF t (lim':=lim) (bytes:=8) o RZ (by decide) [v] (by simp) (by simp;unfold PM;omega) (by simp;omega) [Vc [Vi v]] (x:=.slice (Sa c.length) 1 1) (str:=false)
  (QG (m:=[v]) (Sl.row (ro:=false) RZ NN)) rfl
 simp only [Nb,Nj,Nl,N0] at e3 u n
 refine ⟨c,d,e2,e3,l,⟨?_,Own.new (j.cells k2 w) k,.inl (u.le (by omega)),⟨z, ?_⟩,fun b f=>?_⟩,fun b f h1 h2=>?_,by omega,fun b f h1=>g.other b (s b h1)⟩
 ·exact j.cells (g.cells b1 (s _ z)) F
 ·simp only [PZ,Ni]
  have:=ND b1;omega
 ·have D:=ND y
  simp only [PZ,Ni] at f⊢
  omega
 ·rw [j.other b (by omega) h2,g.other b (s b h1)]
structure BV (fr:Nat->Value) (v1 v3 v5 v6 v7 v8:Value):Prop where
 f1:fr 1=v1
 f3:fr 3=v3
 f5:fr 5=v5
 f6:fr 6=v6
 f7:fr 7=v7
 f8:fr 8=v8
section
variable {lim M B B8 n k qi:Nat} {bv:List Value} {G H:NB} {ph pq:Option Addr} {ch cq:Nat} {hw:List (Option Nat)} {q:List Nat} {l:List Pr} {v1:Value} {fr:Nat->Value} {K:List AItem} {Q:Value->NB->Prop}
theorem N4b [OB] (hS:RS M B bv G ph ch pq cq hw q) (c:Rch l n hw q qi k) (w:qi<q.length) (hk:k<l.length) (P:hd l (2*k)<n) (hn:n<2 ^ 22) (ah:lim<=M) (aa:M<=G.length) (aj:H.length<=M) (I:Chg [] H G)
  (hf:BV fr v1 (.slice ph n ch) (.slice pq q.length cq) (Vi qi) (Vi k) (Vp B8)) (o:NC G B8=Vc (SA (gt l k))) (e:B8∉PZ ph/\B8∉PZ pq)
  (J:∀fr' G' C F T W,BV fr' v1 (.slice ph n ch) (.slice C W.length F) (Vi qi) (Vi k) (Vp B8)->RS M B bv G' ph ch C F T W->Rch l n T W qi k->(tl l (2*k)=gt q qi->0<rm l (2*k)->hd l (2*k)∈W)->(∃Y,W=q++Y)->NC G' B8=Vc (SA (gt l k))->B8∉PZ C->Chg [] H G'->G.length<=G'.length->PI E a80 lim K fr' G' Q) :
  PI E a80 lim (.code N00::K) fr G Q:=by
 rw [NQ N00.eq_1]
 obtain ⟨m,d⟩:∃m,m=2*k:=⟨_,rfl⟩
 obtain ⟨v,S⟩:∃v,(gt l k).head=v:=⟨_,rfl⟩
 obtain ⟨u,R⟩:∃u,(gt l k).tail=u:=⟨_,rfl⟩
 obtain ⟨r,hr⟩:∃r,(gt l k).room=r:=⟨_,rfl⟩
 have N:tl l m=u:=by rw [d,Na4];exact R
 have f:hd l m=v:=by rw [d,Nbc];exact S
 have L:rm l m=r:=by rw [d,Xc];exact hr
 have ad:Xn (some m)=[Vi k,.bool false]:=by rw [d];exact Nfd
 have ae:m / 2<l.length:=by omega
 rw [<-d] at J P
 have y:v<n:=by rw [<-f];exact P
 obtain ⟨f1,f3,f5,f6,f7,f8⟩:=hf
 have ai:=c.len
 have A:v<hw.length:=by omega
 have U:=fun Z=>(NZ.refl.app (X:=Z)).cells o
 have sh:=hS.oh.sl RP
 have sq:=hS.oq.sl RZ
 have ao:=c.len_le
 have s:∀Z,AM.loadCell (G++Z) (SX pq 1 qi)=some (Vi ((gt q qi:Nat):Int)):=fun Z=>(sq.app Z).loadCell0 RZ w (by decide)
 have xQ:=QN sq w rfl
 have p:∀Z,AM.loadCell (G++Z) ((SX ph 2 v).add 0)=some (Vi (XF (gt hw v))):=fun Z=>(sh.app Z).loadCell RP A (j:=0) (by decide)
 have xH:=QN sh A rfl
 rw [ai] at xH
 unfold SA at U
 refine NI ?_
 by_cases c1:u=gt q qi
 case neg=>
  have g:¬((u:Int)=((gt q qi:Nat):Int)):=by omega
  simp only [n80,f5,f6,f8,U,R,S,hr,s,xQ,Nn g,SB,seval,NJ,NF]
  exact J _ _ pq cq hw q ⟨f1,f3,f5,f6,f7,f8⟩ (hS.app _) c (fun h _=>absurd (N.symm.trans h) c1) ⟨[],(Na q).symm⟩ ((NZ.refl.app).cells o) e.2 I.app (by simp)
 have g:(u:Int)=((gt q qi:Nat):Int):=by omega
 by_cases D:0<r
 case neg=>
  simp only [n80,f5,f6,f8,U,R,S,hr,s,xQ,Nq g,Nn D,SB,seval,NJ,NF]
  exact J _ _ pq cq hw q ⟨f1,f3,f5,f6,f7,f8⟩ (hS.app _) c (fun _ h=>absurd (by rw [<-L];exact h) D) ⟨[],(Na q).symm⟩ ((NZ.refl.app).cells o) e.2 I.app (by simp)
 cases hh:gt hw v with
 | some x=>
   have z:v∈q:=(c.iff v y).1 (by rw [hh];rfl)
   rw [hh] at p
   have c3:¬XF (some x)<0:=by show ¬((x / 2:Nat):Int)<0;omega
   simp only [n80,f3,f5,f6,f8,U,R,S,hr,s,xQ,Nq g,Nq D,p,xH,Nn c3,SB,seval,NJ,NF]
   exact J _ _ pq cq hw q ⟨f1,f3,f5,f6,f7,f8⟩ (hS.app _) c (fun _ _=>by rw [f];exact z) ⟨[],(Na q).symm⟩ ((NZ.refl.app).cells o) e.2 I.app (by simp)
 | none=>
   have z:v∉q:=fun h=>by have:=(c.iff v y).2 h;rw [hh] at this;cases this
   rw [hh] at p
   have c3:XF none<0:=by show (-1:Int)<0;decide
   obtain ⟨G2,G3,e2,e3,am,ac,O,an,ag⟩:=Nne (v:=v) (i:=m) hS ah A (by omega) aa
   rw [ad] at e2
   have b82:NC G2 B8=Vc (SA (gt l k)):=(ag _ (ND o) e.1).trans o
   have V:=fun Z=>(NZ.refl.app (X:=Z)).cells b82
   unfold SA at V
   have t:=c.add w (i:=m) ae (N.trans c1) (by rw [L];exact D) (by rw [f];exact z) (by rw [f];exact y)
   rw [f] at t
   simp only [n80,f3,f5,f6,f7,f8,U,R,S,hr,s,xQ,Nq g,Nq D,p,xH,Nq c3,e2,V,e3,SB,seval,NJ,NF,place,NA]
   refine J _ _ (Sa (G2.length+1)) (loose 1) (hw.set v (some m)) (q++[v]) ⟨f1,f3,by rw [Nb];exact rfl,f6,f7,f8⟩ (ac.app _) t (fun _ _=>by rw [f];simp) ⟨[v],rfl⟩ ((NZ.refl.app).cells ((O _ (ND o) e.1 e.2).trans o)) (by simp only [PZ,Ni];have:=ND o;omega) ?_ (by simp;omega)
   have ak:=I.len
   refine Chg.app ⟨by omega,fun b hb _=>?_⟩
   rw [O b (by omega) (fun hm=>by
    obtain ⟨a,ha,rfl⟩:=NT.1 hm
    have:=(hS.oh.block ha).1;omega) fun hm=>by
    obtain ⟨a,ha,rfl⟩:=NT.1 hm
    have:=(hS.oq.block ha).1;omega]
   exact I.other b hb (by simp)
theorem N4a [OB] (hS:RS M B bv G ph ch pq cq hw q) (c:Rch l n hw q qi k) (w:qi<q.length) (hk:k<l.length) (P:hd l (2*k+1)<n) (hn:n<2 ^ 22) (ah:lim<=M) (aa:M<=G.length) (aj:H.length<=M) (I:Chg [] H G)
  (hf:BV fr v1 (.slice ph n ch) (.slice pq q.length cq) (Vi qi) (Vi k) (Vp B8)) (o:NC G B8=Vc (SA (gt l k))) (e:B8∉PZ ph/\B8∉PZ pq)
  (J:∀fr' G' C F T W,BV fr' v1 (.slice ph n ch) (.slice C W.length F) (Vi qi) (Vi k) (Vp B8)->RS M B bv G' ph ch C F T W->Rch l n T W qi k->(tl l (2*k+1)=gt q qi->0<rm l (2*k+1)->hd l (2*k+1)∈W)->(∃Y,W=q++Y)->NC G' B8=Vc (SA (gt l k))->B8∉PZ C->Chg [] H G'->G.length<=G'.length->PI E a80 lim K fr' G' Q) :
  PI E a80 lim (.code N0z::K) fr G Q:=by
 rw [NQ N0z.eq_1]
 obtain ⟨m,d⟩:∃m,m=2*k+1:=⟨_,rfl⟩
 obtain ⟨v,S⟩:∃v,(gt l k).tail=v:=⟨_,rfl⟩
 obtain ⟨u,R⟩:∃u,(gt l k).head=u:=⟨_,rfl⟩
 obtain ⟨r,hr⟩:∃r,(gt l k).flow=r:=⟨_,rfl⟩
 have N:tl l m=u:=by rw [d,N02];exact R
 have f:hd l m=v:=by rw [d,N10];exact S
 have L:rm l m=r:=by rw [d,YY];exact hr
 have ad:Xn (some m)=[Vi k,.bool true]:=by rw [d];exact Nwd
 have ae:m / 2<l.length:=by omega
 rw [<-d] at J P
 have y:v<n:=by rw [<-f];exact P
 obtain ⟨f1,f3,f5,f6,f7,f8⟩:=hf
 have ai:=c.len
 have A:v<hw.length:=by omega
 have U:=fun Z=>(NZ.refl.app (X:=Z)).cells o
 have sh:=hS.oh.sl RP
 have sq:=hS.oq.sl RZ
 have ao:=c.len_le
 have s:∀Z,AM.loadCell (G++Z) (SX pq 1 qi)=some (Vi ((gt q qi:Nat):Int)):=fun Z=>(sq.app Z).loadCell0 RZ w (by decide)
 have xQ:=QN sq w rfl
 have p:∀Z,AM.loadCell (G++Z) ((SX ph 2 v).add 0)=some (Vi (XF (gt hw v))):=fun Z=>(sh.app Z).loadCell RP A (j:=0) (by decide)
 have xH:=QN sh A rfl
 rw [ai] at xH
 unfold SA at U
 refine NI ?_
 by_cases c1:u=gt q qi
 case neg=>
  have g:¬((u:Int)=((gt q qi:Nat):Int)):=by omega
  simp only [n80,f5,f6,f8,U,R,S,hr,s,xQ,Nn g,SB,seval,NJ,NF]
  exact J _ _ pq cq hw q ⟨f1,f3,f5,f6,f7,f8⟩ (hS.app _) c (fun h _=>absurd (N.symm.trans h) c1) ⟨[],(Na q).symm⟩ ((NZ.refl.app).cells o) e.2 I.app (by simp)
 have g:(u:Int)=((gt q qi:Nat):Int):=by omega
 by_cases D:0<r
 case neg=>
  simp only [n80,f5,f6,f8,U,R,S,hr,s,xQ,Nq g,Nn D,SB,seval,NJ,NF]
  exact J _ _ pq cq hw q ⟨f1,f3,f5,f6,f7,f8⟩ (hS.app _) c (fun _ h=>absurd (by rw [<-L];exact h) D) ⟨[],(Na q).symm⟩ ((NZ.refl.app).cells o) e.2 I.app (by simp)
 cases hh:gt hw v with
 | some x=>
   have z:v∈q:=(c.iff v y).1 (by rw [hh];rfl)
   rw [hh] at p
   have c3:¬XF (some x)<0:=by show ¬((x / 2:Nat):Int)<0;omega
   simp only [n80,f3,f5,f6,f8,U,R,S,hr,s,xQ,Nq g,Nq D,p,xH,Nn c3,SB,seval,NJ,NF]
   exact J _ _ pq cq hw q ⟨f1,f3,f5,f6,f7,f8⟩ (hS.app _) c (fun _ _=>by rw [f];exact z) ⟨[],(Na q).symm⟩ ((NZ.refl.app).cells o) e.2 I.app (by simp)
 | none=>
   have z:v∉q:=fun h=>by have:=(c.iff v y).2 h;rw [hh] at this;cases this
   rw [hh] at p
   have c3:XF none<0:=by show (-1:Int)<0;decide
   obtain ⟨G2,G3,e2,e3,am,ac,O,an,ag⟩:=Nne (v:=v) (i:=m) hS ah A (by omega) aa
   rw [ad] at e2
   have b82:NC G2 B8=Vc (SA (gt l k)):=(ag _ (ND o) e.1).trans o
   have V:=fun Z=>(NZ.refl.app (X:=Z)).cells b82
   unfold SA at V
   have t:=c.add w (i:=m) ae (N.trans c1) (by rw [L];exact D) (by rw [f];exact z) (by rw [f];exact y)
   rw [f] at t
   simp only [n80,f3,f5,f6,f7,f8,U,R,S,hr,s,xQ,Nq g,Nq D,p,xH,Nq c3,e2,V,e3,SB,seval,NJ,NF,place,NA]
   refine J _ _ (Sa (G2.length+1)) (loose 1) (hw.set v (some m)) (q++[v]) ⟨f1,f3,by rw [Nb];exact rfl,f6,f7,f8⟩ (ac.app _) t (fun _ _=>by rw [f];simp) ⟨[v],rfl⟩ ((NZ.refl.app).cells ((O _ (ND o) e.1 e.2).trans o)) (by simp only [PZ,Ni];have:=ND o;omega) ?_ (by simp;omega)
   have ak:=I.len
   refine Chg.app ⟨by omega,fun b hb _=>?_⟩
   rw [O b (by omega) (fun hm=>by
    obtain ⟨a,ha,rfl⟩:=NT.1 hm
    have:=(hS.oh.block ha).1;omega) fun hm=>by
    obtain ⟨a,ha,rfl⟩:=NT.1 hm
    have:=(hS.oq.block ha).1;omega]
   exact I.other b hb (by simp)
end
section
variable {lim M B n qi:Nat} {vx vd vq:Value} {G H:NB} {ph pq pa:Option Addr} {ch cq ca:Nat} {hw:List (Option Nat)} {q:List Nat} {l:List Pr} {fr:Nat->Value} {K:List AItem} {Q:Value->NB->Prop}
theorem Nrp [OB] (hS:RS M B (Ta vx (.slice pa l.length ca) vd vq) G ph ch pq cq hw q) (P:Rch l n hw q qi 0) (ah:qi<q.length) (s:∀i,i / 2<l.length->hd l i<n) (hn:n<2 ^ 22) (aw:l.length<2 ^ 30) (r:lim<=M) (aq:M<=G.length) (p:H.length<=M) (hC:Chg [] H G) (ai:Sl H SA 4 pa l)
  (f1:fr 1=Vp B) (f3:fr 3=.slice ph n ch) (f5:fr 5=.slice pq q.length cq) (f6:fr 6=Vi qi) (f7:fr 7=Vi 0)
  (hR:∀fr' G' v m u y,fr' 1=Vp B->fr' 3=.slice ph n ch->fr' 5=.slice v y.length m->fr' 6=Vi qi->RS M B (Ta vx (.slice pa l.length ca) vd vq) G' ph ch v m u y->Rch l n u y (qi+1) 0->qi<y.length->Chg [] H G'->G.length<=G'.length->PI E a80 lim K fr' G' Q) :
  PI E a80 lim (.code (.loop Nul)::.inBlock 4::K) fr G Q:=by
 refine NM (fun z:Nat×Option Addr×Nat×List (Option Nat)×List Nat=>l.length-z.1) (fun z c G'=>z.1<=l.length/\c 1=Vp B/\c 3=.slice ph n ch/\c 5=.slice z.2.1 z.2.2.2.2.length z.2.2.1/\c 6=Vi qi/\c 7=Vi z.1/\RS M B (Ta vx (.slice pa l.length ca) vd vq) G' ph ch z.2.1 z.2.2.1 z.2.2.2.1 z.2.2.2.2/\Rch l n z.2.2.2.1 z.2.2.2.2 qi z.1/\qi<z.2.2.2.2.length/\Chg [] H G'/\G.length<=G'.length) (0,pq,cq,hw,q)
  ⟨Nv _,f1,f3,f5,f6,f7,hS,P,ah,hC,Ng _⟩ ?_
 rintro ⟨k,pq,cq,hw,q⟩ c G' ⟨hk,g1,g3,D,g6,x,d,f,b,h,av⟩ hN
 simp only at hk D x d f b
 rw [NQ Nul.eq_1,<-N00.eq_1,<-N0z.eq_1]
 have k1:=fun Z=>(NZ.refl.app (X:=Z)).cells d.b1
 unfold Ta at k1
 refine NI ?_
 by_cases g:k<l.length
 case neg=>
  obtain rfl:k=l.length:=by omega
  simp only [n80,g1,x,k1,SB,seval,NJ,NF]
  exact hR _ _ pq cq hw q g1 g3 D g6 (d.app _) (f.turn (Ng _)) b h.app (by simp;omega)
 have w:Sl G' SA 4 pa l:=h.ext.sl ai
 have lA:∀Z,AM.loadCells (G'++Z) (SX pa 4 k) 4=some (SA (gt l k)):=fun Z=>(w.app Z).loadCells QC g
 have xA:=QN w g rfl
 have w1:IntKind.i64.wrap ((k:Int)+1)=((k+1:Nat):Int):=NS (by omega)
 simp only [n80,g1,x,k1,g,lA,xA,QC,NL,show lim<=G'.length by omega,SB,seval,NJ,NF,place,NA]
 have n8:G'.length∉PZ ph/\G'.length∉PZ pq:=⟨fun hm=>by
  obtain ⟨a,V,e⟩:=NT.1 hm
  have:=(d.oh.block V).2;omega,fun hm=>by
  obtain ⟨a,V,e⟩:=NT.1 hm
  have:=(d.oq.block V).2;omega⟩
 refine N4b (B8:=G'.length) (v1:=Vp B) (d.app _) f b g (s _ (by omega)) hn r (by simp;omega) p h.app ⟨g1,g3,D,g6,x,rfl⟩ NN n8 fun an G3 a0 am ay q3 ac R N W T I n83 J ae=>?_
 obtain ⟨Y,hY⟩:=T
 have t:qi<q3.length:=by rw [hY,Nb];omega
 have F:gt q3 qi=gt q qi:=by rw [hY];exact Tk b
 simp only [Nb,Ow] at ae
 refine N4a (v1:=Vp B) R N t g (s _ (by omega)) hn r (by omega) p J ac I ⟨n8.1,n83⟩ fun ao G4 ak C aj A ad S O aa U ap az L au=>?_
 obtain ⟨Y',j⟩:=U
 obtain ⟨r1,r3,r5,r6,r7,r8⟩:=ad
 refine NI ?_
 simp only [n80,r7,w1,SB,seval,NJ,NF]
 have ag:qi<A.length:=by rw [j,Nb];omega
 have o:gt A qi=gt q3 qi:=by rw [j];exact Tk t
 refine hN (k+1,ak,C,aj,A) _ _ ⟨by show k+1<=_;omega,r1,r3,r5,r6,rfl,S.app _,O.next fun i hi h1 h2=>?_,ag,L.app,by simp;omega⟩ (by show l.length-(k+1)<l.length-k;omega)
 rcases (by omega:i=2*k\/i=2*k+1) with rfl | rfl
 ·show hd l (2*k)∈A
  rw [j]
  exact Ny _ (W (by rw [h1,o,F]) h2)
 ·exact aa (by rw [h1,o]) h2
theorem Nkm [OB] (hS:RS M B (Ta vx (.slice pa l.length ca) vd vq) G ph ch pq cq hw q) (r:Rch l n hw q 0 0) (w:∀i,i / 2<l.length->hd l i<n) (hn:n<2 ^ 22) (v:l.length<2 ^ 30) (u:lim<=M) (L:M<=G.length) (o:H.length<=M) (J:Chg [] H G) (x:Sl H SA 4 pa l)
  (f1:fr 1=Vp B) (f3:fr 3=.slice ph n ch) (f5:fr 5=.slice pq q.length cq) (f6:fr 6=Vi 0)
  (O:∀fr' G' A j f D,fr' 3=.slice ph n ch->RS M B (Ta vx (.slice pa l.length ca) vd vq) G' ph ch A j f D->Rch l n f D D.length 0->Chg [] H G'->PI E a80 lim K fr' G' Q) :
  PI E a80 lim (.code (.loop Nuk)::.inBlock 2::K) fr G Q:=by
 refine NM (fun z:Nat×Option Addr×Nat×List (Option Nat)×List Nat=>n+1-z.1) (fun z b G'=>z.1<=z.2.2.2.2.length/\b 1=Vp B/\b 3=.slice ph n ch/\b 5=.slice z.2.1 z.2.2.2.2.length z.2.2.1/\b 6=Vi z.1/\RS M B (Ta vx (.slice pa l.length ca) vd vq) G' ph ch z.2.1 z.2.2.1 z.2.2.2.1 z.2.2.2.2/\Rch l n z.2.2.2.1 z.2.2.2.2 z.1 0/\Chg [] H G'/\G.length<=G'.length) (0,pq,cq,hw,q)
  ⟨Nv _,f1,f3,f5,f6,hS,r,J,Ng _⟩ ?_
 rintro ⟨qi,pq,cq,hw,q⟩ b G' ⟨P,g1,F,g,h,c,a,d,R⟩ N
 simp only at P g h c a
 rw [NQ Nuk.eq_1]
 have T:=a.len_le
 refine NI ?_
 by_cases e:qi<q.length
 case neg=>
  obtain rfl:qi=q.length:=by omega
  simp only [n80,g,h,SB,seval,NJ,NF]
  exact O _ _ pq cq hw q F (c.app _) a d.app
 have Y:IntKind.i64.wrap ((qi:Int)+1)=((qi+1:Nat):Int):=NS (by omega)
 simp only [n80,g,h,e,SB,seval,NJ,NF]
 refine Nrp (c.app _) a e w hn v u (by simp;omega) o d.app x g1 F g h rfl fun I Z C k y q3 U V W X s p S m t=>?_
 simp only [Nb,Nl,Oj] at t
 refine NI ?_
 simp only [n80,X,Y,SB,seval,NJ,NF]
 exact N (qi+1,C,k,y,q3) _ _ ⟨by show qi+1<=q3.length;omega,U,V,W,rfl,s.app _,p,m.app,by simp;omega⟩ (by show n+1-(qi+1)<n+1-qi;omega)
theorem Nvr [OB] {cp:Nat} {pp:Option Addr} {va:Value} (o:lim<=M) (y:M<=G.length) (u:H.length<=M) (hn:n<2 ^ 22) (t:Chg [] H G) (F:NC G B=Vc (Ta (.slice pp n cp) va vd vq)) (w:B<G.length)
  (f1:fr 1=Vp B) (f3:fr 3=Vz) (f4:fr 4=Vi 0)
  (C:∀fr' G' ph ch,fr' 1=Vp B->fr' 3=.slice ph n ch->Own M G' Xn 2 ph ch (List.replicate n none)->NC G' B=Vc (Ta (.slice pp n cp) va vd vq)->B∉PZ ph->Chg [] H G'->G.length<=G'.length->PI E a80 lim K fr' G' Q) :
  PI E a80 lim (.code (.loop Nuj)::.inBlock 0::K) fr G Q:=by
 refine NM (fun z:Nat×Option Addr×Nat=>n-z.1) (fun z c G'=>z.1<=n/\c 1=Vp B/\c 3=.slice z.2.1 z.1 z.2.2/\c 4=Vi z.1/\Own M G' Xn 2 z.2.1 z.2.2 (List.replicate z.1 none)/\NC G' B=Vc (Ta (.slice pp n cp) va vd vq)/\B∉PZ z.2.1/\Chg [] H G'/\G.length<=G'.length) (0,none,0)
  ⟨Nv _,f1,f3,f4,.nil,F,by simp [PZ],t,Ng _⟩ ?_
 rintro ⟨j,ph,ch⟩ c G' ⟨I,g1,h,i,g,e,f,d,J⟩ A
 simp only at I h i g f
 rw [NQ Nuj.eq_1]
 have k1:=fun Z=>(NZ.refl.app (X:=Z)).cells e
 unfold Ta at k1
 refine NI ?_
 by_cases p:j<n
 case neg=>
  obtain rfl:j=n:=by omega
  simp only [n80,g1,i,k1,SB,seval,NJ,NF]
  exact C _ _ ph ch g1 h (g.app _) ((NZ.refl.app).cells e) f d.app (by simp;omega)
 have N:IntKind.i64.wrap ((j:Int)+1)=((j+1:Nat):Int):=NS (by omega)
 obtain ⟨s,e3,r,q,l⟩:=Own.moreF g (lim':=lim) (bytes:=16) o RP (by decide) [none] (by simp) (by simp;unfold PM;omega) (by simp;omega) [Vc [Vi (-1),.bool false]] (x:=.slice (Sa G'.length) 1 1) (str:=false)
  (QG (m:=[none]) (Sl.row (ro:=false) RP NN)) rfl
 simp only [Nb,Nj,Nl,N0,Oy] at e3 r l
 simp only [n80,g1,h,i,k1,p,e3,N,SB,seval,NJ,NF,place]
 refine A (j+1,Sa (G'.length+1),loose 2) _ _ ⟨by show j+1<=n;omega,g1,rfl,rfl, ?_,(NZ.refl.app).cells (q.cells e f), ?_, ?_,by simp;omega⟩ (by show n-(j+1)<n-j;omega)
 ·show Own M (s++[]) Xn 2 _ _ (List.replicate (j+1) none)
  rw [List.replicate_succ']
  exact (r.le (by omega)).app _
 ·simp only [PZ,Ni]
  omega
 ·have v:=d.len
  refine Chg.app ⟨by omega,fun b k _=>?_⟩
  rw [q.other b (by omega) fun L=>by
   obtain ⟨a,D,rfl⟩:=NT.1 L
   have:=(g.block D).1;omega]
  exact d.other b k (by simp)
end
theorem No6 [OB] {lim n cp ca:Nat} {pp pa:Option Addr} {vd vq:Value} {l:List Pr} {G:NB} {Q:Value->NB->Prop} (z:Sl G SA 4 pa l) (h2:2<=n) (hn:n<2 ^ 22) (x:l.length<2 ^ 30) (y:∀i,i / 2<l.length->hd l i<n) (a:lim<=G.length)
  (N:∀G' ph ch hw q,Rch l n hw q q.length 0->Own G.length G' Xn 2 ph ch hw->Chg [] G G'->Q (.slice ph n ch) G') :
  NR E false lim 80 [.agg (Ta (.slice pp n cp) (.slice pa l.length ca) vd vq).toArray] G Q:=by
 refine Te (by decide) e80 rfl ?_
 rw [b80,c80]
 simp only [n80,SB,seval,NJ,NH,place,NA]
 refine Nvr (M:=G.length) (H:=G) (B:=G.length) (n:=n) (pp:=pp) (cp:=cp) (va:=.slice pa l.length ca) (vd:=vd) (vq:=vq) a (by simp) (Ng _) hn (Chg.refl.app) NN (by simp) rfl rfl rfl fun fr1 G1 ph ch g1 D o f d k u=>?_
 simp only [Nb,Nj,Nl] at u
 rcases o with ⟨L,_,_⟩ | ⟨R,rfl,rfl,p,s⟩
 ·have:=Rw List.length L
  rw [Oy,Nl] at this;omega
 have O:=ND p
 obtain ⟨I,e2,k2,C⟩:=UO (lim:=lim) (i:=0) (j:=0) RP p (by omega) (by rw [Oy];omega) (by decide) (v:=Vi l.length) (some (2*l.length)) (by
  rw [Nfd,OJ (by rw [Oy];omega),List.getElem_replicate];rfl)
 have w:=C.len
 have g:∀X,AM.storeAt lim (G1++(Vc [Vi 0]::X)) ((SX (Sa R) 2 0).add 0) [Vi l.length]=some (I++(Vc [Vi 0]::X)):=fun X=>e2 _
 have k1:=fun Z=>(NZ.refl.app (X:=Z)).cells f
 have F:∀(c:Nat) (kk:IntKind) (H1:NB),Vh 2 (.slice (Sa R) n c) (.int kk ((0:Nat):Int)) H1=some (.pointer (some (SX (Sa R) 2 0)),H1):=by
  have:=QN (Sl.row (ro:=false) RP p:Sl G1 Xn 2 (Sa R) (List.replicate n none)) (i:=0) (by rw [Oy];omega) rfl
  rw [Oy] at this;exact this
 simp only [Int.natCast_zero] at F
 unfold Ta at k1
 refine NI ?_
 simp only [n80,g1,D,k1,F,g,SB,seval,NJ,place,NA]
 have h:G.length≠R:=fun e=>d (NT.2 ⟨_,rfl,e.symm⟩)
 refine Nkm (M:=G.length) (B:=G.length) (H:=G) (hw:=(List.replicate n none).set 0 (some (2*l.length))) (q:=[0]) (pq:=Sa G1.length) (cq:=1) (ph:=Sa R) (ch:=loose 2)
  ⟨(NZ.refl.app).cells (C.cells f h),(Own.new k2 s).app _,.inr ⟨_,rfl,rfl,by decide,by rw [<-w];exact NN,by omega⟩,⟨d,by simp only [PZ,Ni];omega⟩,fun b P S=>by simp only [PZ,Ni] at P S;omega⟩
  (Rch.start (by omega)) y hn x a (by simp;omega) (Ng _) ((k.mut C (.inr (by omega))).app) z g1 D rfl rfl fun K V T J A q3 U t r m=>?_
 refine NI ?_
 simp only [n80,r80,U,SB,seval,NJ,NG]
 exact N _ (Sa R) (loose 2) A q3 r (t.oh.app _) m.app
structure BF5 (fr:Nat->Value) (v1 v4 v5:Value):Prop where
 f1:fr 1=v1
 f4:fr 4=v4
 f5:fr 5=v5
theorem Nbq {l:List Pr} {i:Nat} (h:i % 2=0):tl l i=(gt l (i / 2)).tail/\rm l i=(gt l (i / 2)).room:=by unfold tl rm;rw [Nk h,Nk h];exact ⟨rfl,rfl⟩
theorem Nfx {l:List Pr} {i:Nat} (h:i % 2=1):tl l i=(gt l (i / 2)).head/\rm l i=(gt l (i / 2)).flow:=by unfold tl rm;rw [Nf (by omega),Nf (by omega)];exact ⟨rfl,rfl⟩
section
variable {lim n ch ca B:Nat} {ph pa:Option Addr} {hw:List (Option Nat)} {q:List Nat} {l:List Pr} {v4 vx vd vq:Value} {G:NB} {fr:Nat->Value} {K:List AItem} {Q:Value->NB->Prop}
theorem Nll [OB] (C:Rch l n hw q q.length 0) (W:1∈q) (hn:n<2 ^ 22) (J:∀i,i / 2<l.length->rm l i<=VW) (hb:NC G B=Vc (Ta vx (.slice pa l.length ca) vd vq)) (sl:Sl G SA 4 pa l) (sh:Sl G Xn 2 ph hw) (aa:lim<=G.length)
  (hf:BF5 fr (Vp B) v4 (.slice ph n ch)) (f6:fr 6=Vi VW) (f7:fr 7=Vi 1)
  (hR:∀fr' G' d m,BF5 fr' (Vp B) v4 (.slice ph n ch)->fr' 6=Vi d->1<=d->d<=VW->Mw l hw m=0->(∀a,a<m->Mw l hw a≠0/\d<=rm l (arN hw (Mw l hw a)))->NZ G G'->PI E a50 lim K fr' G' Q) :
  PI E a50 lim (.code (.loop Nuv)::.inBlock 2::K) fr G Q:=by
 refine NM (fun z:Nat×Int=>q.idxOf (Mw l hw z.1)) (fun z p G'=>BF5 p (Vp B) v4 (.slice ph n ch)/\p 6=Vi z.2/\p 7=Vi ((Mw l hw z.1:Nat):Int)/\1<=z.2/\z.2<=VW/\Mw l hw z.1∈q/\(∀a,a<z.1->Mw l hw a≠0/\z.2<=rm l (arN hw (Mw l hw a)))/\NZ G G') (0,VW)
  ⟨hf,f6,f7,by decide,Oa _,W,fun a ha=>by omega,.refl⟩ ?_
 rintro ⟨m,d⟩ p G' ⟨⟨g1,I,r⟩,y,A,s,t,w,k,g⟩ S
 simp only at y A s t w k
 rw [NQ Nuv.eq_1]
 obtain ⟨v,M⟩:∃v,v=Mw l hw m:=⟨_,rfl⟩
 rw [<-M] at A w
 refine NI ?_
 by_cases hz:v=0
 ·have e:((v:Nat):Int)=0:=by omega
  simp only [n50,A,Nq e,SB,seval,NJ,NF]
  exact hR _ _ d m ⟨g1,I,r⟩ y s t (by rw [<-M];exact hz) k g.app
 have e:¬((v:Nat):Int)=0:=by omega
 obtain ⟨u1,U,u3,u4,O,u6⟩:=C.up w hz
 obtain ⟨i,hi⟩:∃i,i=arN hw v:=⟨_,rfl⟩
 rw [<-hi] at u1 U u3 u4
 have ad:=C.lt v w
 have Y:=C.len
 have D:v<hw.length:=by omega
 have hp:Mw l hw (m+1)=tl l i:=by show M3 l hw (Mw l hw m)=_;rw [<-M,hi];rfl
 have L:M3 l hw v=tl l i:=by rw [hi];rfl
 rw [L] at O u6
 have k1:=fun Z=>(g.app (X:=Z)).cells hb
 have x:∀Z,AM.loadCell (G'++Z) ((SX ph 2 v).add 0)=some (Vi ((i / 2:Nat):Int)):=fun Z=>by
  have:=((g.sl sh).app Z).loadCell RP D (j:=0) (by decide)
  rw [u1] at this;exact this
 have f:∀Z,AM.loadCell (G'++Z) ((SX ph 2 v).add 1)=some (.bool (decide (i % 2=1))):=fun Z=>by
  have:=((g.sl sh).app Z).loadCell RP D (j:=1) (by decide)
  rw [u1] at this;exact this
 have P:=QN (g.sl sh) D rfl
 rw [Y] at P
 have T:∀Z,AM.loadCells (G'++Z) (SX pa 4 (i / 2)) 4=some (SA (gt l (i / 2))):=fun Z=>((g.sl sl).app Z).loadCells QC U
 have V:=QN (g.sl sl) U rfl
 have ac:=g.len
 have hc:=J i U
 unfold Ta at k1
 have b:∀R,R<=d->R<=rm l i->∀a,a<m+1->Mw l hw a≠0/\R<=rm l (arN hw (Mw l hw a)):=fun R h1 h2 a ha=>by
  rcases (by omega:a<m\/a=m) with h | h
  ·have:=k a h;exact ⟨this.1,by omega⟩
  ·rw [h,<-M,<-hi];exact ⟨hz,h2⟩
 have u:q.idxOf (Mw l hw (m+1))<q.idxOf (Mw l hw m):=by rw [hp,<-M];exact u6
 by_cases o:i % 2=1
 ·rw [No o] at f
  obtain ⟨N,F⟩:=Nfx (l:=l) o
  by_cases H:rm l i<d
  ·have c:(gt l (i / 2)).flow<d:=by rw [<-F];exact H
   simp only [n50,g1,r,y,A,Nn e,k1,x,f,P,T,V,SA,show lim<=G'.length by omega,Nq c,SB,seval,NJ,NF,place,NA]
   exact S (m+1,rm l i) _ _ ⟨⟨g1,I,r⟩,by rw [F];exact rfl,by rw [hp,N];exact rfl,by show 1<=rm l i;omega,hc,by rw [hp];exact O,b _ (by omega) (Oa _),g.app⟩ u
  ·have c:¬(gt l (i / 2)).flow<d:=by rw [<-F];exact H
   simp only [n50,g1,r,y,A,Nn e,k1,x,f,P,T,V,SA,show lim<=G'.length by omega,Nn c,SB,seval,NJ,NF,place,NA]
   exact S (m+1,d) _ _ ⟨⟨g1,I,r⟩,y,by rw [hp,N];exact rfl,s,t,by rw [hp];exact O,b _ (Oa _) (by omega),g.app⟩ u
 ·rw [Nx o] at f
  obtain ⟨N,F⟩:=Nbq (l:=l) (i:=i) (by omega)
  by_cases H:rm l i<d
  ·have c:(gt l (i / 2)).room<d:=by rw [<-F];exact H
   simp only [n50,g1,r,y,A,Nn e,k1,x,f,P,T,V,SA,show lim<=G'.length by omega,Nq c,SB,seval,NJ,NF,place,NA]
   exact S (m+1,rm l i) _ _ ⟨⟨g1,I,r⟩,by rw [F];exact rfl,by rw [hp,N];exact rfl,by show 1<=rm l i;omega,hc,by rw [hp];exact O,b _ (by omega) (Oa _),g.app⟩ u
  ·have c:¬(gt l (i / 2)).room<d:=by rw [<-F];exact H
   simp only [n50,g1,r,y,A,Nn e,k1,x,f,P,T,V,SA,show lim<=G'.length by omega,Nn c,SB,seval,NJ,NF,place,NA]
   exact S (m+1,d) _ _ ⟨⟨g1,I,r⟩,y,by rw [hp,N];exact rfl,s,t,by rw [hp];exact O,b _ (Oa _) (by omega),g.app⟩ u
theorem Nw3 [OB] {M m0:Nat} {d:Int} (F:Rch l n hw q q.length 0) (ak:1∈q) (hn:n<2 ^ 22) (aq:∀p∈l,0<=p.room/\0<=p.flow) (ag:∀i,i / 2<l.length->rm l i+rm l (tw i)<=VW) (hb:NC G B=Vc (Ta vx (.slice pa l.length ca) vd vq)) (oa:Own M G SA 4 pa ca l) (sh:Sl G Xn 2 ph hw) (au:∀a,ph=some a->a.block∉PZ pa) (r:B∉PZ pa) (a8:lim<=M)
  (a5:1<=d) (a6:d<=VW) (ao:Mw l hw m0=0) (ae:∀a,a<m0->Mw l hw a≠0/\d<=rm l (arN hw (Mw l hw a)))
  (hf:BF5 fr (Vp B) v4 (.slice ph n ch)) (f6:fr 6=Vi d) (f9:fr 9=Vi 1)
  (hR:∀fr' G' l',BF5 fr' (Vp B) v4 (.slice ph n ch)->fr' 6=Vi d->Aug l l' hw q d 0->Own M G' SA 4 pa ca l'->Chg (PZ pa) G G'->PI E a50 lim K fr' G' Q) :
  PI E a50 lim (.code (.loop Nuw)::.inBlock 4::K) fr G Q:=by
 refine NM (fun z:Nat×List Pr=>q.idxOf (Mw l hw z.1)) (fun z A G'=>z.1<=m0/\BF5 A (Vp B) v4 (.slice ph n ch)/\A 6=Vi d/\A 9=Vi ((Mw l hw z.1:Nat):Int)/\Aug l z.2 hw q d (Mw l hw z.1)/\Own M G' SA 4 pa ca z.2/\Chg (PZ pa) G G') (0,l)
  ⟨Nv _,hf,f6,f9,Aug.start aq ak,oa,.refl⟩ ?_
 rintro ⟨m,l'⟩ A G' ⟨hm,⟨g1,g4,g5⟩,g6,g9,k,hO,D⟩ hN
 simp only at hm g9 k hO
 rw [NQ Nuw.eq_1]
 obtain ⟨v,hv⟩:∃v,v=Mw l hw m:=⟨_,rfl⟩
 rw [<-hv] at g9 k
 refine NI ?_
 by_cases hz:v=0
 ·have I:((v:Nat):Int)=0:=by omega
  simp only [n50,g9,Nq I,SB,seval,NJ,NF]
  rw [hz] at k
  exact hR _ _ l' ⟨g1,g4,g5⟩ g6 k (hO.app _) D.app
 have I:¬((v:Nat):Int)=0:=by omega
 have ap:m<m0:=by
  apply Ns
  intro hc
  obtain rfl:m=m0:=by omega
  exact hz (by rw [hv];exact ao)
 obtain ⟨u1,u2,u3,u4,u5,u6⟩:=F.up k.mem hz
 have P:=(ae m ap).2
 rw [<-hv] at P
 have C:=k.step F hz (by omega) P
 have T:=k.keep v k.mem (Ng _) hz
 have H:Mw l hw (m+1)=M3 l hw v:=by show M3 l hw (Mw l hw m)=_;rw [<-hv]
 obtain ⟨i,hi⟩:∃i,i=arN hw v:=⟨_,rfl⟩
 have N:M3 l hw v=tl l i:=by rw [hi];rfl
 rw [<-hi] at u1 u2 u3 u4 C T P
 have ba:=F.lt v k.mem
 have an:=F.len
 have U:v<hw.length:=by omega
 have am:=k.same.len
 have b:i / 2<l'.length:=by omega
 have n1:=k.nn i u2
 have n2:=k.nn (tw i) (by rw [VX];exact u2)
 have a3:=k.same.cap i u2
 have hc:=ag i u2
 have ai:=k.same.tl i
 have k1:=fun Z=>(NZ.refl.app (X:=Z)).cells (D.cells hb r)
 have aa:=D.sl sh fun a ha _=>au a ha
 have aj:∀Z,AM.loadCell (G'++Z) ((SX ph 2 v).add 0)=some (Vi ((i / 2:Nat):Int)):=fun Z=>by
  have:=(aa.app Z).loadCell RP U (j:=0) (by decide)
  rw [u1] at this;exact this
 have J:∀Z,AM.loadCell (G'++Z) ((SX ph 2 v).add 1)=some (.bool (decide (i % 2=1))):=fun Z=>by
  have:=(aa.app Z).loadCell RP U (j:=1) (by decide)
  rw [u1] at this;exact this
 have xH:=QN aa U rfl
 rw [an] at xH
 rcases hO with ⟨h0,_,_⟩ | ⟨R,rfl,rfl,hS,ad⟩
 ·rw [h0] at b;simp at b
 have s:B≠R:=fun e=>r (NT.2 ⟨_,rfl,e.symm⟩)
 obtain ⟨p,hp⟩:∃p,p=gt l' (i / 2):=⟨_,rfl⟩
 have sA:Sl G' SA 4 (Sa R) l':=Sl.row (ro:=false) QC hS
 have xA:∀(c:Nat) (kk:IntKind) (H1:NB),Vh 4 (.slice (Sa R) l.length c) (.int kk ((i / 2:Nat):Int)) H1=some (.pointer (some (SX (Sa R) 4 (i / 2))),H1):=by
  have:=QN sA b rfl
  rw [am] at this;exact this
 have a0:∀Z,AM.loadCell (G'++Z) ((SX (Sa R) 4 (i / 2)).add 2)=some (Vi p.room):=fun Z=>by
  rw [hp];exact (sA.app Z).loadCell QC b (j:=2) (by decide)
 have a1:∀Z,AM.loadCell (G'++Z) ((SX (Sa R) 4 (i / 2)).add 3)=some (Vi p.flow):=fun Z=>by
  rw [hp];exact (sA.app Z).loadCell QC b (j:=3) (by decide)
 have a2:VW=1152921504606846976:=rfl
 have ah:q.idxOf (Mw l hw (m+1))<q.idxOf (Mw l hw m):=by rw [H,<-hv];exact u6
 rw [<-H] at C
 unfold Ta at k1
 by_cases o:i % 2=1
 ·rw [No o] at J
  obtain ⟨t1,t2⟩:=Nfx (l:=l') o
  have ac:tw i=2*(i / 2):=by unfold tw;rw [Nf (by omega)];omega
  have t3:rm l' (tw i)=p.room:=by rw [ac,Xc,<-hp]
  rw [<-hp] at t1 t2
  have wa:IntKind.i64.wrap (p.flow-d)=p.flow-d:=NY (by omega) (by omega)
  have wb:IntKind.i64.wrap (p.room+d)=p.room+d:=NY (by omega) (by omega)
  obtain ⟨g,h⟩:∃g:Pr,g={ p with flow:=p.flow-d }:=⟨_,rfl⟩
  obtain ⟨L,w⟩:∃L:Pr,L={ g with room:=p.room+d }:=⟨_,rfl⟩
  obtain ⟨G2,e2,k2,V⟩:=UO (lim:=lim) (i:=i / 2) (j:=3) QC hS (by omega) b (by decide) (v:=Vi (p.flow-d)) g (by rw [h,<-hp];rfl)
  obtain ⟨G3,e3,k3,m3⟩:=UO (lim:=lim) (i:=i / 2) (j:=2) QC k2 (by omega) (by rw [Pd];exact b) (by decide) (v:=Vi (p.room+d)) L (by rw [Flow.gt_set b,Nk rfl,w];rfl)
  rw [List.set_set] at k3
  have ep:l'.set (i / 2) L=RB l' i d:=by
   unfold RB push
   rw [<-hp,Nf (by omega),w,h]
   congr 1
   simp only [Pr.mk.injEq,Rt]
   omega
  rw [ep] at k3
  have O:=(D.mut V (.inl (NT.2 ⟨_,rfl,rfl⟩))).mut m3 (.inl (NT.2 ⟨_,rfl,rfl⟩))
  have W:Sl G2 SA 4 (Sa R) (l'.set (i / 2) g):=Sl.row (ro:=false) QC k2
  have Y:Sl G3 SA 4 (Sa R) (RB l' i d):=Sl.row (ro:=false) QC k3
  have t:i / 2<(l'.set (i / 2) g).length:=by rw [Pd];exact b
  have u:i / 2<(RB l' i d).length:=by rw [Mv];exact b
  have S:gt (l'.set (i / 2) g) (i / 2)=g:=by rw [Flow.gt_set b,Nk rfl]
  have x:=fun Z=>(NZ.refl.app (X:=Z)).cells (V.cells (D.cells hb r) s)
  have y:=fun Z=>(NZ.refl.app (X:=Z)).cells (m3.cells (V.cells (D.cells hb r) s) s)
  unfold Ta at x y
  have av:∀Z,AM.loadCell (G2++Z) ((SX (Sa R) 4 (i / 2)).add 2)=some (Vi p.room):=fun Z=>by
   have:=(W.app Z).loadCell QC t (j:=2) (by decide)
   rw [S,h] at this;exact this
  have az:∀Z,AM.loadCell (G3++Z) ((SX (Sa R) 4 (i / 2)).add 1)=some (Vi (tl l i:Nat)):=fun Z=>by
   have:=(Y.app Z).loadCell QC u (j:=1) (by decide)
   have ht:=Nfx (l:=RB l' i d) o
   rw [N17,<-ht.1,Nfw b,ai] at this;exact this
  simp only [n50,g1,g5,g6,g9,Nn I,k1,aj,J,xH,xA,a1,wa,e2,x,av,wb,e3,y,az,SB,seval,NJ,NF,NA]
  exact hN (m+1,RB l' i d) _ _ ⟨by show m+1<=m0;omega,⟨g1,g4,g5⟩,g6,by rw [H,N];exact rfl,C,(Own.new k3 ad).app _,O.app⟩ ah
 ·rw [Nx o] at J
  have f:i % 2=0:=by omega
  obtain ⟨t1,t2⟩:=Nbq (l:=l') f
  have ac:tw i=2*(i / 2)+1:=by unfold tw;rw [Nk f];omega
  have t3:rm l' (tw i)=p.flow:=by rw [ac,YY,<-hp]
  rw [<-hp] at t1 t2
  have wa:IntKind.i64.wrap (p.room-d)=p.room-d:=NY (by omega) (by omega)
  have wb:IntKind.i64.wrap (p.flow+d)=p.flow+d:=NY (by omega) (by omega)
  obtain ⟨g,h⟩:∃g:Pr,g={ p with room:=p.room-d }:=⟨_,rfl⟩
  obtain ⟨L,w⟩:∃L:Pr,L={ g with flow:=p.flow+d }:=⟨_,rfl⟩
  obtain ⟨G2,e2,k2,V⟩:=UO (lim:=lim) (i:=i / 2) (j:=2) QC hS (by omega) b (by decide) (v:=Vi (p.room-d)) g (by rw [h,<-hp];rfl)
  obtain ⟨G3,e3,k3,m3⟩:=UO (lim:=lim) (i:=i / 2) (j:=3) QC k2 (by omega) (by rw [Pd];exact b) (by decide) (v:=Vi (p.flow+d)) L (by rw [Flow.gt_set b,Nk rfl,w];rfl)
  rw [List.set_set] at k3
  have ep:l'.set (i / 2) L=RB l' i d:=by
   unfold RB push
   rw [<-hp,Nk f,w,h]
  rw [ep] at k3
  have O:=(D.mut V (.inl (NT.2 ⟨_,rfl,rfl⟩))).mut m3 (.inl (NT.2 ⟨_,rfl,rfl⟩))
  have W:Sl G2 SA 4 (Sa R) (l'.set (i / 2) g):=Sl.row (ro:=false) QC k2
  have Y:Sl G3 SA 4 (Sa R) (RB l' i d):=Sl.row (ro:=false) QC k3
  have t:i / 2<(l'.set (i / 2) g).length:=by rw [Pd];exact b
  have u:i / 2<(RB l' i d).length:=by rw [Mv];exact b
  have S:gt (l'.set (i / 2) g) (i / 2)=g:=by rw [Flow.gt_set b,Nk rfl]
  have x:=fun Z=>(NZ.refl.app (X:=Z)).cells (V.cells (D.cells hb r) s)
  have y:=fun Z=>(NZ.refl.app (X:=Z)).cells (m3.cells (V.cells (D.cells hb r) s) s)
  unfold Ta at x y
  have aw:∀Z,AM.loadCell (G2++Z) ((SX (Sa R) 4 (i / 2)).add 3)=some (Vi p.flow):=fun Z=>by
   have:=(W.app Z).loadCell QC t (j:=3) (by decide)
   rw [S,h] at this;exact this
  have ay:∀Z,AM.loadCell (G3++Z) ((SX (Sa R) 4 (i / 2)).add 0)=some (Vi (tl l i:Nat)):=fun Z=>by
   have:=(Y.app Z).loadCell QC u (j:=0) (by decide)
   have ht:=Nbq (l:=RB l' i d) f
   rw [N18,<-ht.1,Nfw b,ai] at this;exact this
  simp only [n50,g1,g5,g6,g9,Nn I,k1,aj,J,xH,xA,a0,wa,e2,x,aw,wb,e3,y,ay,SB,seval,NJ,NF,NA]
  exact hN (m+1,RB l' i d) _ _ ⟨by show m+1<=m0;omega,⟨g1,g4,g5⟩,g6,by rw [H,N];exact rfl,C,(Own.new k3 ad).app _,O.app⟩ ah
end
theorem Nst [OB] {lim M n cp ca:Nat} {pp pa:Option Addr} {vq:Value} {l0:List Pr} {d0 Bd:Int} {G:NB} {Q:Value->NB->Prop} (oa:Own M G SA 4 pa ca l0) (ag:lim<=M) (ao:M<=G.length) (hF:IsFlow n l0) (hn:n<2 ^ 22) (aw:l0.length<2 ^ 30) (K:∀i,i / 2<l0.length->rm l0 i+rm l0 (tw i)<=VW) (hB:∀l',Flow.Alike l0 l'->IsFlow n l'->exc 1 l'<=Bd) (an:Bd<=2 ^ 40) (h0:exc 1 l0=0) (aq:0<=d0/\d0<=2 ^ 40)
  (hQ:∀G' ph ch hw q l',Flow.Alike l0 l'->IsFlow n l'->Rch l' n hw q q.length 0->1∉q->Own G.length G' Xn 2 ph ch hw->Own M G' SA 4 pa ca l'->Chg (PZ pa) G G'->Q (.tuple #[Vi (exc 1 l'+d0),.slice ph n ch]) G') :
  NR E false lim 50 [.agg (Ta (.slice pp n cp) (.slice pa l0.length ca) (Vi d0) vq).toArray] G Q:=by
 refine Te (by decide) e50 rfl ?_
 rw [b50,c50]
 have h2:=hF.two
 have t:∀b∈PZ pa,b<G.length:=fun b V=>by
  obtain ⟨a,U,rfl⟩:=NT.1 V
  exact (oa.block U).2
 unfold Ta
 simp only [n50,SB,seval,NJ,NH,place,NA]
 refine NM (fun l:List Pr=>(Bd-exc 1 l).toNat) (fun l fr G'=>fr 1=Vp G.length/\fr 4=Vi (exc 1 l+d0)/\Flow.Alike l0 l/\IsFlow n l/\Own M G' SA 4 pa ca l/\NC G' G.length=Vc (Ta (.slice pp n cp) (.slice pa l0.length ca) (Vi d0) vq)/\Chg (PZ pa) G G'/\exc 1 l0<=exc 1 l) l0
  ⟨rfl,by rw [h0,Qp];exact rfl,.refl,hF,oa.app _,NN,Chg.refl.app,Oa _⟩ ?_
 intro l fr G' ⟨g1,g4,y,f,hO,V,hC,au⟩ hN
 rw [NQ N0e.eq_1]
 have hl:l.length=l0.length:=y.len
 have k1:=fun Z=>(NZ.refl.app (X:=Z)).cells V
 have ae:=hC.len
 have ah:∀i,i / 2<l.length->hd l i<n:=fun i hi=>by
  have:=f.lt _ (PK hi)
  unfold hd;split
  ·exact this.1
  ·exact this.2
 have g:∀i,i / 2<l.length->rm l i+rm l (tw i)<=VW:=fun i hi=>by
  rw [y.cap i (by omega)];exact K i (by omega)
 have ap:=hB l y f
 have sl:=hO.sl QC
 refine NI ?_
 unfold Ta at k1
 simp only [n50,g1,k1,SB,seval,NE,NJ]
 rw [<-hl]
 refine No6 (l:=l) (pp:=pp) (cp:=cp) (vd:=Vi d0) (vq:=vq) (sl.app _) h2 hn (by omega) ah (by simp;omega) fun G1 ph ch hw q w p o=>?_
 have ad:=o.len
 simp only [Nb,Nl,Oj] at ad p
 have ai:=w.len
 have N:=p.sl RP
 have L:∀Z,AM.loadCell (G1++Z) ((SX ph 2 1).add 0)=some (Vi (XF (gt hw 1))):=fun Z=>(N.app Z).loadCell RP (i:=1) (by omega) (j:=0) (by decide)
 have xH:∀(c:Nat) (kk:IntKind) (H1:NB),Vh 2 (.slice ph n c) (.int kk 1) H1=some (.pointer (some (SX ph 2 1)),H1):=fun c kk H1=>by
  have:=QN N (i:=1) (by omega) rfl c kk H1
  rw [ai] at this;exact this
 have u:Own M G1 SA 4 pa ca l:=(hO.app []).chg o fun _ _ h=>by cases h
 have v:=o.cells (k1 []) (by simp)
 have F:Chg (PZ pa) G G1:=hC.trans' (Chg.pre o) fun j hj=>by cases hj
 refine NI ?_
 cases hh:gt hw 1 with
 | none=>
   have k:1∉q:=fun h=>by have:=(w.iff 1 (by omega)).2 h;rw [hh] at this;cases this
   have P:XF none<0:=by show (-1:Int)<0;decide
   rw [hh] at L
   simp only [n50,r50,g4,xH,L,Nq P,SB,seval,NJ,NF,NG]
   exact hQ _ ph ch hw q l y f w k ((p.le ae).app _) (u.app _) F.app
 | some x=>
   have k:1∈q:=(w.iff 1 (by omega)).1 (by rw [hh];rfl)
   have P:¬XF (some x)<0:=by show ¬((x / 2:Nat):Int)<0;omega
   rw [hh] at L
   simp only [n50,xH,L,Nn P,SB,seval,NJ,NF]
   refine Nll (l:=l) (vx:=.slice pp n cp) (vd:=Vi d0) (vq:=vq) (B:=G.length) (v4:=Vi (exc 1 l+d0)) w k hn (fun i hi=>by have:=g i hi;have:=Flow.rm_nn f.nn (i:=tw i) (by rw [VX];exact hi);omega) ((NZ.refl.app).cells (by rw [hl];exact v)) ((u.sl QC).app _) (N.app _) (by simp;omega) ⟨g1,g4,rfl⟩ rfl rfl fun ak O d m aa r6 W Y hm J R=>?_
   obtain ⟨r1,r4,r5⟩:=aa
   have e:NZ G1 O:=NZ.trans (NZ.refl.app) R
   have av:=e.len
   refine NI ?_
   simp only [n50,SB,seval,NJ]
   have S:Own M O SA 4 pa ca l:=u.chg (A:=[]) e.chg fun _ _ h=>by cases h
   have nB:G.length∉PZ pa:=fun h=>by have:=t _ h;omega
   refine Nw3 (l:=l) (vx:=.slice pp n cp) (vd:=Vi d0) (vq:=vq) (B:=G.length) (v4:=Vi (exc 1 l+d0)) (m0:=m) (d:=d) w k hn f.nn g ((NZ.refl.app).cells (e.cells (by rw [hl];exact v))) (S.app _) ((e.sl N).app _) (fun a U hm=>by have:=t _ hm;have:=(p.block U).1;omega) nB ag W Y hm J ⟨r1,r4,r5⟩ r6 rfl fun am G3 l' ac s6 r T D=>?_
   obtain ⟨s1,s4,s5⟩:=ac
   obtain ⟨I,s⟩:=r.fin f
   have z:=y.trans r.same
   have aj:=hB l' z I
   have wd:IntKind.i64.wrap (exc 1 l+d0+d)=exc 1 l+d0+d:=NY (by omega) (by omega)
   have H:Chg (PZ pa) G O:=F.trans' (A:=PZ pa) (B:=[]) e.chg fun j hj=>by cases hj
   have C:Chg (PZ pa) G G3:=(H.app (X:=[])).trans D
   refine NI ?_
   simp only [n50,s4,s6,wd,SB,seval,NJ,NF]
   exact hN l' _ _ ⟨s1,by rw [s,show exc 1 l+d+d0=exc 1 l+d0+d by omega];exact rfl,z,I,T.app _,(NZ.refl.app).cells (D.cells ((NZ.refl.app).cells (e.cells v)) nB),C.app,by omega⟩ (by rw [s];omega)
theorem N22 {l:List Pr} {i:Nat}:rm l i+rm l (tw i)=(gt l (i / 2)).room+(gt l (i / 2)).flow:=by
 unfold rm
 rw [VX]
 by_cases h:i % 2=0
 ·rw [Nk h,Nf (by rw [XI];exact fun h2=>h2 h)]
 ·rw [Nf h,Nk ((XI i).mpr h)];omega
section
variable {P:List Int} {L:List Leg} {PL:List (Int×Int)} {to dl:Int} {s:List Flow.Src} {C:List (Leg×Int)} {l:List Pr} {hw:List (Option Nat)} {q:List Nat}
theorem Nmw (b:AllOk P L s to dl):0<=ZY s/\ZY s<=60000000000:=by
 have h1:=Ng9 (s:=s) fun x a=>(b.src x a).2.2.2.2
 have hn:=b.ns
 have h2:=Mi (T:=noT) (dl:=dl) (s:=s) fun x a=>(b.src x a).2.2.2.1
 have c:=Neg (T:=noT) (dl:=dl) (s:=s) fun x a=>(b.src x a).2.2.2.1
 omega
theorem Nny (b:AllOk P L s to dl) (a:C.Perm (NP L to dl)):(∀x∈s,0<=x.gr/\x.gr<=1000000000)/\∀c∈C,0<=c.1.grams/\c.1.grams<=1000000000:=
 ⟨fun x d=>(b.src x d).2.2.2,fun c hc=>by
  have:=b.net.fine _ (QT (a.mem_iff.1 hc)).1
  unfold Fine at this;omega⟩
theorem Nnx (a:GrR PL to dl s C) (f:∀x∈s,0<=x.gr/\x.gr<=1000000000) (e:∀c∈C,0<=c.1.grams/\c.1.grams<=1000000000) {p:Pr} (hp:p∈grR PL to dl s C):p.room<=VW/\p.flow=0:=by
 refine ⟨?_,(XZ a (fun x d=>(f x d).1) (fun c hc=>(e c hc).1) hp).2.2.2⟩
 have g:(1000000000:Int)<=VW:=by decide
 unfold grR at hp
 rcases Nw.1 hp with hp | hp
 ·rcases Nw.1 hp with hp | hp
  ·obtain ⟨c,hc,rfl⟩:=List.mem_map.1 hp
   have:=(e c hc).2
   show c.1.grams<=_
   omega
  ·obtain ⟨x,d,_,rfl⟩:=Nbw hp
   have:=(f x d).2
   show x.gr<=_
   omega
 ·obtain ⟨i,b,_,_,_,rfl⟩:=VM.1 hp
  exact Oa _
theorem Nxm (g:AllOk P L s to dl) (a:C.Perm (NP L to dl)) (e:GrR PL to dl s C) (d:Flow.Alike (grR PL to dl s C) l) (i:IsFlow PL.length l) (b:Rch l PL.length hw q q.length 0) (h1:1∉q) :
  exc 1 l+U3 to dl s=Wd s (NP L to dl) to dl/\tmT PL (fun v=>decide (v∈q))=VL s (NP L to dl) to dl/\∀v,2<=v->v<PL.length->decide (v∈q)=!late (VL s (NP L to dl) to dl) (gt PL v).1 (gt PL v).2:=by
 obtain ⟨o,m⟩:=Nny g a
 have j:=Nmw g
 have r:(60000000000:Int)<VW:=by decide
 obtain ⟨h,n⟩:=Nsu e d i (fun x p=>(o x p).1) (fun c hc=>(m c hc).1) (by omega) (R:=fun v=>decide (v∈q)) (No (by rw [<-b.z];exact PK b.ne)) (Nx h1) (b.closed (Ng _) i.nn) fun S k hc v _ f=>b.reach k hc (Ru f)
 obtain ⟨e1,e2⟩:=SG (h.perm a)
 exact ⟨e1,e2,fun v h2 f=>by rw [<-e2];exact n v h2 f⟩
end
theorem Nm0 [OB] {lim M:Nat} {P:List Int} {L:List Leg} {s:List Flow.Src} {to dl:Int} {C:List (Leg×Int)} {PL:List (Int×Int)} {cp ca:Nat} {pp pa:Option Addr} {vq:Value} {G:NB} {Q:Value->NB->Prop} (f:AllOk P L s to dl) (B:L.length<=8) (d:C.Perm (NP L to dl)) (a:GrR PL to dl s C) (D:PL.length<2 ^ 21) (oa:Own M G SA 4 pa ca (grR PL to dl s C)) (t:lim<=M) (m:M<=G.length)
  (F:∀G' ph ch hw q l',Flow.Alike (grR PL to dl s C) l'->Rch l' PL.length hw q q.length 0->tmT PL (fun v=>decide (v∈q))=VL s (NP L to dl) to dl->1∉q->(∀v,2<=v->v<PL.length->decide (v∈q)=!late (VL s (NP L to dl) to dl) (gt PL v).1 (gt PL v).2)->Own G.length G' Xn 2 ph ch hw->Own M G' SA 4 pa ca l'->Chg (PZ pa) G G'->Q (.tuple #[Vi (Wd s (NP L to dl) to dl),.slice ph PL.length ch]) G') :
  NR E false lim 50 [.agg (Ta (.slice pp PL.length cp) (.slice pa (grR PL to dl s C).length ca) (Vi (U3 to dl s)) vq).toArray] G Q:=by
 obtain ⟨j,k⟩:=Nny f d
 have y:=Nmw f
 have h:=Ngz (to:=to) (dl:=dl) j
 have H:=f.ns
 have A:=Nvx a (fun x u=>(j x u).1) fun c hc=>(k c hc).1
 have z:C.length<=14*L.length:=by rw [d.length_eq];exact SC f.net.fine
 have J:∀p∈grR PL to dl s C,p.flow=0:=fun p hp=>(Nnx a j k hp).2
 refine Nst (Bd:=ZY s) oa t m A (by omega) ?_ (fun i hi=>?_) (fun l' b e=>?_) (by omega) (Ye J) ⟨h.1,by omega⟩ fun G' ph ch hw q l' b e w h1 r o l=>?_
 ·have g:∀n,(Sv PL n).length<=n:=fun n=>by
   induction n with
   | zero=>simp [Sv]
   | succ n ih=>
     rw [Sv,Nb]
     by_cases hn:2<=n
     ·rw [Nk hn];unfold Ng3;split<;>simp<;>omega
     ·rw [Nf hn];simp;omega
  have I:=Z6 (PL:=PL) (to:=to) (dl:=dl) (s:=s)
  have:=g PL.length
  unfold grR
  rw [Nb,Nb,Ou]
  omega
 ·rw [N22]
  have:=Nnx a j k (PK hi)
  omega
 ·have h1:=e.le_cut (S:=XB PL noT) rfl rfl
  have h2:=Nnz (T:=noT) rfl a
  rw [b.cut] at h1
  have K:=Mi (T:=noT) (dl:=dl) fun x u=>(j x u).1
  unfold wt at h2
  rw [Nbm] at h2
  omega
 ·obtain ⟨e1,e2,e3⟩:=Nxm f d a b e w h1
  rw [e1]
  exact F G' ph ch hw q l' b w e2 h1 e3 r o l
theorem Nss [OB] {mp:Bool} {lim:Nat} {pn pl ps:Option Addr} {P:List Int} {L:List Leg} {s:List Flow.Src} {cn cl cs:Nat} {to dl:Int} {H:NB} {Q:Value->NB->Prop} (hn:NetIn H pn pl P L) (j:Sl H encS 3 ps s) (c:s.length<2 ^ 63) (f:QB P L=0->L.length<=8) :
  NR E mp lim 27 [.agg (QJ pn P.length cn pl L.length cl).toArray,.slice ps s.length cs,Vi to,Vi dl] H Q=Q (.tuple #[Vi (Nab P L s to dl),Vi (OC P L s to dl)]) H:=by
 refine pc (by decide) e27 rfl rfl ?_
 rw [b27,c27]
 have k:H.length<=H.length:=Ng _
 by_cases a:OC P L s to dl=0
 case neg=>
  have:Nab P L s to dl=0:=Nf a
  simp only [n27,r27,OG,Vd (hn.app _) (j.app _) c,Nn a,this,SB,seval,NE,NJ,NF,NH,place,NA,NG]
 have t:Nab P L s to dl=Wd s (NP L to dl) to dl:=Nk a
 rw [t,a]
 simp only [n27,OG,Vd (hn.app _) (j.app _) c,a,SB,seval,NE,NJ,NF,NH,place,NA]
 have l:=S9 a
 have b:=f (RX a)
 refine Ne0 (hn.app _) (j.app _) a b (by simp) fun G pp cp pa ca pq cq C PL d u e h g n=>?_
 have i:=n.len
 refine NI ?_
 simp only [n27,SB,seval,NE]
 refine Nm0 (pp:=pp) (cp:=cp) (ca:=ca) (vq:=.slice pq C.length cq) (M:=(H++[Vc (QJ pn P.length cn pl L.length cl)]).length) l b d e g (h.oa.app _) (by simp) (by simp at i⊢;omega) fun G' ph ch hw q l' m v w _ _ r p o=>?_
 refine NI ?_
 simp only [n27,r27,SB,seval,NJ,NG]
end Go.Proofs.YtohnaffmcjbpoaaGreat.Fn


