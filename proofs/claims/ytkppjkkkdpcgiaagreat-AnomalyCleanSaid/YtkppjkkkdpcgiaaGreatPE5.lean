/-
  Joined texts, 5 of 9. A part of the claim that the last text states.
-/
import Derived.ProofKit
import Derived.Deep.Slices
import Derived.OpenShut
import Derived.Test.YtkppjkkkdpcgiaaGreatPE4
set_option linter.unusedVariables false
set_option linter.unusedSimpArgs false
set_option linter.defProp false
set_option linter.unusedSectionVars false
set_option maxRecDepth 100000
set_option maxHeartbeats 4000000
namespace Go.AM
open Go.ChangeShapes Go.WideShapes Go.ChangeAt Go.RowKit
inductive Ty where
 | int (k:IntKind) | bool | str | slice (t:Ty) | arr (n:Nat) (t:Ty) | nil | pair (a b:Ty)
def Ty.size:Ty->Nat
 | .nil=>0
 | .arr n t=>n*t.size
 | .pair a b=>a.size+b.size
 | _=>1
abbrev Ty.den:Ty->Type
 | .int _=>Int
 | .bool=>Bool
 | .str=>ByteArray
 | .slice t=>List t.den
 | .arr _ t=>List t.den
 | .nil=>Unit
 | .pair a b=>a.den×b.den
def Rep:(t:Ty)->NE->t.den->List Value->Prop
 | .int k,_,n,cs=>cs=[.int k n]/\k.min<=n/\n<=k.max
 | .bool,_,b,cs=>cs=[.bool b]
 | .str,_,s,cs=>cs=[.string s]/\s.size<=maxLen
 | .slice t,H,l,cs=>l.length<=maxLen/\∃p cap,cs=[.slice p l.length cap]/\(p=none->l=[]/\cap=0)/\
   ∀a,p=some a->a.spot=none/\a.off=0/\cap=loose t.size/\(l≠[]->∃es:List (List Value),NF H a.block=.cells true es.flatten/\es.length=l.length/\∀(i:Nat) x e,l[i]? = some x->es[i]? = some e->Rep t H x e)
 | .arr n t,H,l,cs=>∃es:List (List Value),cs=es.flatten/\es.length=n/\l.length=n/\∀(i:Nat) x e,l[i]? = some x->es[i]? = some e->Rep t H x e
 | .nil,_,_,cs=>cs=[]
 | .pair a b,H,x,cs=>∃c d,cs=c++d/\Rep a H x.1 c/\Rep b H x.2 d
theorem Rep.app:∀{t:Ty} {H:NE} {x:t.den} {cs:List Value} (_:Rep t H x cs) (X:NE),Rep t (H++X) x cs
 | .int _,_,_,_,h,_=>h
 | .bool,_,_,_,h,_=>h
 | .str,_,_,_,h,_=>h
 | .nil,_,_,_,h,_=>h
 | .pair a b,_,_,_,⟨c1,c2,e,h1,h2⟩,X=>⟨c1,c2,e,h1.app X,h2.app X⟩
 | .arr n t,H,l,cs,⟨es,e,h1,h2,h3⟩,X=>⟨es,e,h1,h2,fun i x c d hc=>(h3 i x c d hc).app X⟩
 | .slice t,H,l,cs,⟨h0,p,cap,e,h1,h2⟩,X=>by
   refine ⟨h0,p,cap,e,h1,fun a g=>?_⟩
   obtain ⟨k1,k2,k3,j⟩:=h2 a g
   refine ⟨k1,k2,k3,fun hl=>?_⟩
   obtain ⟨es,f,k,m⟩:=j hl
   exact ⟨es,by rw [NN (NK f)];exact f,k,fun i x e d he=>(m i x e d he).app X⟩
theorem YB {k:Nat}:∀{es:List (List Value)},(∀e∈es,e.length=k)->es.flatten.length=es.length*k
 | [],_=>by simp
 | e::es,h=>by
   rw [List.flatten_cons,Nm,h e (by simp),YB (fun x a=>h x (by simp [a])),Nl,Po];omega
theorem Rep.len:∀{t:Ty} {H:NE} {x:t.den} {cs:List Value} (_:Rep t H x cs),cs.length=t.size
 | .int _,_,_,_,h=>by rw [h.1];rfl
 | .bool,_,_,_,h=>by simp only [Rep] at h;rw [h];rfl
 | .str,_,_,_,h=>by rw [h.1];rfl
 | .nil,_,_,_,h=>by simp only [Rep] at h;rw [h];rfl
 | .pair a b,_,_,_,⟨c1,c2,e,h1,h2⟩=>by rw [e,Nm,h1.len,h2.len];rfl
 | .slice t,H,l,cs,⟨h0,p,cap,e,h1,h2⟩=>by rw [e];rfl
 | .arr n t,H,l,cs,⟨es,e,h1,h2,h3⟩=>by
   rw [e,YB (k:=t.size),h1];· rfl
   intro c hc
   obtain ⟨i,hi,rfl⟩:=List.mem_iff_getElem.1 hc
   exact (h3 i _ _ (Nf (by omega)) (Nf hi)).len
section
variable {w:World} {Pg:Prg} {W:Nat->Prop} {lim:Nat}
def ZI (H:NE):Prop:=∀(i:Nat) b,H[i]? = some b->owned b=false
theorem ZI.snoc {H:NE} (h:ZI H) {b:Blk} (c:owned b=false):ZI (H++[b]):=by
 intro i x a
 by_cases hi:i<H.length
 ·rw [N6 hi] at a;exact h i x a
 ·rw [Ob (by omega)] at a
  have:=(List.getElem?_eq_some_iff.1 a).1
  have e:i-H.length=0:=by simp at this;omega
  rw [e] at a;simp at a;subst a;exact c
def RB (Pg:Prg) (W:Nat->Prop) (lim:Nat) (w:World) (t:Ty) (cs:List Value):Prop:=
 ∀σ H,Inv Pg W lim σ H w->ZI H->∃X a as x,Inv Pg W lim a (H++X) w/\ZI (H++X)/\PK.le σ a/\OJ a as cs/\Rep t (H++X) x as/\∀v∈cs,v.oneCell'=true
theorem RB.atom1 {t:Ty} {v:Value} {x:t.den} (b:atom v=true) (ho:v.oneCell'=true) (hr:∀H,Rep t H x [v]):RB Pg W lim w t [v]:=fun σ H h hn=>
 ⟨[],σ,[v],x,by simpa using h,by simpa using hn,PK.le_refl _,OJ.cons (.atom b) OJ.nil,hr _,fun u a=>by simp at a;subst a;exact ho⟩
theorem RB.int {k:IntKind} {n:Int} (h:(Lit.int k n).wf=true):RB Pg W lim w (.int k) [.int k n]:=by
 refine RB.atom1 (x:=n) rfl rfl fun H=>⟨rfl, ?_⟩
 simpa [Lit.wf] using h
theorem RB.bool {b:Bool}:RB Pg W lim w .bool [.bool b]:=RB.atom1 (t:=.bool) (x:=b) rfl rfl fun H=>rfl
theorem RB.str {s:ByteArray} (h:s.size<=maxLen):RB Pg W lim w .str [.string s]:=RB.atom1 (t:=.str) (x:=s) rfl rfl fun H=>⟨rfl,h⟩
theorem RB.nil:RB Pg W lim w .nil []:=fun σ H h hn=>⟨[],σ,[],(),by simpa using h,by simpa using hn,PK.le_refl _,OJ.nil,rfl,fun u a=>by simp at a⟩
theorem RB.pair {a b:Ty} {e f:List Value} (h1:RB Pg W lim w a e) (h2:RB Pg W lim w b f):RB Pg W lim w (.pair a b) (e++f):=by
 intro σ H h hn
 obtain ⟨X,o,as,x,k1,c,k2,k3,i,j⟩:=h1 σ H h hn
 obtain ⟨Y,p,bs,y,k,d,g,l,m,n⟩:=h2 o _ k1 c
 refine ⟨X++Y,p,as++bs,(x,y),by rw [<-Nn];exact k,by rw [<-Nn];exact d,PK.le_trans k2 g,OJ.append (k3.mono g) l,⟨as,bs,rfl, ?_, ?_⟩,fun v hv=>?_⟩
 ·rw [<-Nn];exact i.app Y
 ·rw [<-Nn];exact m
 ·rcases Ol.1 hv with hv | hv
  ·exact j v hv
  ·exact n v hv
def Ndk (σ:PK) (n:Nat) (L:Loc):PK:=fun i=>if i=n then some L else σ i
theorem XE {σ:PK} {n:Nat} {L:Loc}:Ndk σ n L n=some L:=Ni rfl
theorem Ndj {σ:PK} {n i:Nat} {L:Loc} (h:i≠n):Ndk σ n L i=σ i:=Nh h
theorem Inv.snoc {σ:PK} {H:NE} (h:Inv Pg W lim σ H w) (hn:ZI H) (L:Loc) (b:Blk) (g:owned b=false) (hr:UB Pg (Ndk σ H.length L) w L b) :
  Inv Pg W lim (Ndk σ H.length L) (H++[b]) w/\PK.le σ (Ndk σ H.length L):=by
 have c:PK.le σ (Ndk σ H.length L):=by
  intro i K hi
  have:=h.lt hi
  rw [Ndj (by omega)];exact hi
 have d:=hn.snoc g
 refine ⟨⟨?_,fun i j bi bj Li Lj hi l k ho=>?_,fun i x K a ho=>?_,h.fresh,fun i hi=>?_⟩,c⟩
 ·intro i x a f
  by_cases hi:i<H.length
  ·rw [N6 hi] at a
   obtain ⟨K,h1,h2⟩:=h.blk i x a f
   exact ⟨K,c i K h1,h2.mono c fun _=>rfl⟩
  ·rw [Ob (by omega)] at a
   have:=(List.getElem?_eq_some_iff.1 a).1
   have e:i=H.length:=by simp at this;omega
   subst e
   rw [Qt] at a;simp at a;subst a
   exact ⟨L,XE,hr⟩
 ·rw [d i bi hi] at ho;cases ho
 ·rw [d i x a] at ho;cases ho
 ·simp at hi
  rw [Ndj (by omega)]
  exact h.dom i (by omega)
theorem Nbr {t:Ty} {n:Nat} {cs:Nat->List Value} (b:∀i,i<n->RB Pg W lim w t (cs i)) {σ:PK} {H:NE} (h:Inv Pg W lim σ H w) (hn:ZI H) :
  ∃X d,∃es:List (List Value),∃xs:List t.den,Inv Pg W lim d (H++X) w/\ZI (H++X)/\PK.le σ d/\es.length=n/\xs.length=n/\
   ∀(i:Nat) x e,xs[i]? = some x->es[i]? = some e->Rep t (H++X) x e/\OJ d e (cs i)/\∀v∈cs i,v.oneCell'=true:=by
 induction n with
 | zero=>exact ⟨[],σ,[],[],by simpa using h,by simpa using hn,PK.le_refl _,rfl,rfl,fun i x e k=>by simp at k⟩
 | succ n ih=>
   obtain ⟨X,s,es,xs,k1,k2,k3,f,g,l⟩:=ih fun i hi=>b i (by omega)
   obtain ⟨Y,u,as,x,m,o,j,p,q,r⟩:=b n (by omega) s _ k1 k2
   refine ⟨X++Y,u,es++[as],xs++[x],by rw [<-Nn];exact m,by rw [<-Nn];exact o,PK.le_trans k3 j,by simp [f],by simp [g],fun i y e a he=>?_⟩
   rw [<-Nn]
   by_cases hi:i<n
   ·rw [N6 (by omega)] at a he
    obtain ⟨q1,q2,q3⟩:=l i y e a he
    exact ⟨q1.app Y,q2.mono j,q3⟩
   ·have c:i=n:=by
     have:=(List.getElem?_eq_some_iff.1 a).1
     simp at this;omega
    subst c
    rw [Ob (by omega),g] at a
    rw [Ob (by omega),f] at he
    simp at a he
    subst a he
    exact ⟨q,p,r⟩
theorem Ma {e:Nat}:∀(es:List (List Value)),(∀x∈es,x.length=e)->∀(j:Nat) v,es.flatten[j]? = some v->∃x,es[j / e]? = some x/\x[j % e]? = some v
 | [],_,j,v,h=>by simp at h
 | x::es,he,j,v,h=>by
   have c:=he x (by simp)
   rw [List.flatten_cons] at h
   by_cases a:j<x.length
   ·rw [N6 a] at h
    rw [c] at a
    rw [Nat.div_eq_of_lt a,Nat.mod_eq_of_lt a]
    exact ⟨x,rfl,h⟩
   ·rw [Ob (by omega),c] at h
    rw [c] at a
    obtain ⟨y,h1,h2⟩:=Ma es (fun z d=>he z (by simp [d])) _ _ h
    have b:0<e:=by
     rcases Qq e with h0 | h0
     ·subst h0
      have d:y.length=0:=he y (by have:=Od h1;simp [this])
      rw [List.length_eq_zero_iff.1 d] at h2;simp at h2
     ·exact h0
    have e1:j / e=(j-e) / e+1:=by rw [<-Nat.add_div_right _ b];congr 1;omega
    have e2:j % e=(j-e) % e:=by rw [Nat.mod_eq_sub_mod (by omega)]
    rw [e1,e2]
    exact ⟨y,by simpa using h1,h2⟩
theorem RB.arr {t:Ty} {n:Nat} {cs:List Value} (hl:cs.length=n*t.size) (m:∀i,i<n->RB Pg W lim w t ((cs.drop (i*t.size)).take t.size)):RB Pg W lim w (.arr n t) cs:=by
 intro σ H h hn
 obtain ⟨X,u,es,xs,k1,k2,k3,p,s,k⟩:=Nbr (n:=n) (cs:=fun i=>(cs.drop (i*t.size)).take t.size) m h hn
 have f:∀e∈es,e.length=t.size:=by
  intro e he
  obtain ⟨i,hi,rfl⟩:=List.mem_iff_getElem.1 he
  exact (k i _ _ (Nf (by omega)) (Nf hi)).1.len
 have d:∀(j:Nat) v,cs[j]? = some v->j / t.size<n/\j % t.size<t.size/\((cs.drop (j / t.size*t.size)).take t.size)[j % t.size]? = some v:=by
  intro j v g
  have c:j<n*t.size:=by rw [<-hl];exact (List.getElem?_eq_some_iff.1 g).1
  have b:0<t.size:=by
   rcases Qq t.size with h0 | h0
   ·rw [h0] at c;simp at c
   ·exact h0
  have hm:=P1 j b
  refine ⟨(Nat.div_lt_iff_lt_mul b).2 c,hm, ?_⟩
  rw [P9,Ni hm,Q3,Nat.div_add_mod' j t.size]
  exact g
 refine ⟨X,u,es.flatten,xs,k1,k2,k3,⟨by rw [YB f,p,hl],fun j a v q o=>?_⟩,⟨es,rfl,p,s,fun i x e r he=>(k i x e r he).1⟩,fun v o=>?_⟩
 ·obtain ⟨h1,h2,l⟩:=d j v o
  obtain ⟨e,e1,e2⟩:=Ma es f j a q
  exact (k _ _ e (Nf (by omega)) e1).2.1.2 _ _ _ e2 l
 ·obtain ⟨j,g⟩:=List.mem_iff_getElem?.1 o
  obtain ⟨h1,h2,l⟩:=d j v g
  exact (k (j / t.size) _ _ (Nf (by omega)) (Nf (by omega))).2.2 v (Od l)
theorem RB.nilslice {t:Ty}:RB Pg W lim w (.slice t) [.slice none 0 0]:=by
 refine RB.atom1 (t:=.slice t) (x:=([]:List t.den)) rfl rfl fun H=>⟨Nz _,none,0,rfl,fun _=>⟨rfl,rfl⟩,fun a b=>by cases b⟩
theorem RB.slice {t:Ty} {a:Addr} {len cap:Nat} {cs:Nat->List Value} (hl:len<=cap) (hc:cap<=maxLen) (O:t.size≠0)
  (g:∀i,i<cap->w.cells? 0 (a.add (i*t.size)) t.size=some (cs i)/\RB Pg W lim w t (cs i)):RB Pg W lim w (.slice t) [.slice (some a) len cap]:=by
 intro σ H h hn
 by_cases N:len=0
 ·subst N
  obtain ⟨E,F⟩:=h.snoc hn ⟨a.block,a.off,cap*t.size⟩ .dead rfl trivial
  refine ⟨[.dead],_,[.slice (some ⟨H.length,0,none⟩) 0 (loose t.size)],[],E,hn.snoc rfl,F,OJ.cons ?_ OJ.nil,⟨Nz _,some ⟨H.length,0,none⟩,loose t.size,rfl,fun h=>(by cases h),fun b A=>?_⟩,fun v m=>by simp at m;subst m;rfl⟩
  ·by_cases y:cap=0
   ·subst y
    exact .eslice XE (.inr ⟨_,rfl⟩)
   ·have d:a.spot=none:=by
     obtain ⟨h1,h2⟩:=g 0 (by omega)
     obtain ⟨_,G,q⟩:=World.cells?_some h1
     have h5:=q 0 (by omega)
     rw [Nf (by omega)] at h5
     have:=World.cell?_spot h5
     simpa [Addr.add] using this
    obtain ⟨b,o,s⟩:=a
    simp only at d;subst d
    exact .lslice (L:=⟨b,o,cap*t.size⟩) (k:=0) XE hl (by simp)
  ·cases A
   exact ⟨rfl,rfl,rfl,fun h=>absurd rfl h⟩
 ·obtain ⟨X,Q,es,xs,k1,k2,k3,R,J,D⟩:=Nbr (n:=len) (cs:=cs) (fun i hi=>(g i (by omega)).2) h hn
  have d:a.spot=none:=by
   obtain ⟨h1,h2⟩:=g 0 (by omega)
   obtain ⟨_,G,q⟩:=World.cells?_some h1
   have h5:=q 0 (by omega)
   rw [Nf (by omega)] at h5
   have:=World.cell?_spot h5
   simpa [Addr.add] using this
  have f:∀i,i<len->∀j,j<t.size->∃v,(cs i)[j]? = some v/\w.cell? ⟨a.block,a.off+(i*t.size+j),none⟩=some v:=by
   intro i hi j C
   obtain ⟨_,G,q⟩:=World.cells?_some (g i (by omega)).1
   have h5:=q j C
   have I:(cs i)[j]? = some ((cs i)[j]'(by omega)):=Nf _
   rw [I,Go.Deep.add_add] at h5
   refine ⟨_,I, ?_⟩
   rw [<-h5]
   congr 1
   obtain ⟨b,o,s⟩:=a
   simp only at d;subst d
   exact (addr_add (b:=b) (o:=o)).symm
  obtain ⟨S,_,p⟩:=f 0 (by omega) 0 (by omega)
  have l:∃cells el fz,w.heap[a.block]? = some (.cells cells el fz):=by
   unfold World.cell? at p
   split at p
   ·rename_i c el fz z;exact ⟨c,el,fz,z⟩
   ·cases p
  obtain ⟨cells,el,fz,z⟩:=l
  have B:∀e∈es,e.length=t.size:=by
   intro e he
   obtain ⟨i,hi,rfl⟩:=List.mem_iff_getElem.1 he
   exact (D i _ _ (Nf (by omega)) (Nf hi)).1.len
  have r:UB Pg (Ndk Q (H++X).length ⟨a.block,a.off,cap*t.size⟩) w ⟨a.block,a.off,cap*t.size⟩ (.cells true es.flatten):=by
   refine ⟨cells,el,fz,z,fun j v m=>?_,fun h=>by cases h⟩
   obtain ⟨e,h1,h2⟩:=Ma es B j v m
   have hi:j / t.size<len:=by have:=(List.getElem?_eq_some_iff.1 h1).1;omega
   have C:j % t.size<t.size:=P1 _ (by omega)
   obtain ⟨q1,q2,q3⟩:=D _ _ e (Nf (by omega)) h1
   obtain ⟨u,M,r2⟩:=f _ hi _ C
   refine ⟨u, ?_,(q2.2 _ _ _ h2 M).mono ?_,q3 u (Od M)⟩
   ·rw [Nat.div_add_mod' j t.size] at r2
    simpa [World.cell?,z] using r2
   ·intro i K hi
    have:=k1.lt hi
    rw [Ndj (by omega)];exact hi
  obtain ⟨E,F⟩:=k1.snoc k2 _ _ rfl r
  refine ⟨X++[.cells true es.flatten],_,[.slice (some ⟨(H++X).length,0,none⟩) len (loose t.size)],xs,by rw [<-Nn];exact E,by rw [<-Nn];exact k2.snoc rfl,PK.le_trans k3 F,OJ.cons ?_ OJ.nil, ?_,fun v m=>by simp at m;subst m;rfl⟩
  ·obtain ⟨b,o,s⟩:=a
   simp only at d;subst d
   exact .lslice (L:=⟨b,o,cap*t.size⟩) (k:=0) XE hl (by simp)
  ·refine ⟨by rw [J];omega,some ⟨(H++X).length,0,none⟩,loose t.size,by rw [J],(fun h=>(by cases h)),fun b A=>?_⟩
   cases A
   refine ⟨rfl,rfl,rfl,fun _=>⟨es, ?_,by omega,fun i x e P he=>?_⟩⟩
   ·rw [<-Nn];exact NV
   ·rw [<-Nn];exact (D i x e P he).1.app _
section
variable (P:Program)
def Vb (f:TypeId->Option Ty):List Field->Nat->Option Ty
 | [],_=>some .nil
 | fd::fs,off=>if fd.offset=off then match f fd.type with
   | some ty=>if ty.size=P.cellsOf fd.type then match Vb f fs (off+ty.size) with
     | some r=>some (.pair ty r)
     | none=>none
     else none
   | none=>none
   else none
def Nai:Nat->TypeId->Option Ty
 | 0,_=>none
 | n+1,t=>match P.underlying t with
   | some .bool=>some .bool
   | some (.int k)=>some (.int k)
   | some .string=>some .str
   | some (.slice e)=>match Nai n e with
     | some ty=>if ty.size=P.cellsOf e/\ty.size≠0 then some (.slice ty) else none
     | none=>none
   | some (.array k e)=>match Nai n e with
     | some ty=>if ty.size=P.cellsOf e/\k*ty.size=P.cellsOf t then some (.arr k ty) else none
     | none=>none
   | some (.struct fs)=>match Vb P (Nai n) fs.toList 0 with
     | some ty=>if ty.size=P.cellsOf t then some ty else none
     | none=>none
   | _=>none
end
variable {P:Program} {H:Type} {enc:TypeId×Value->H} {held:Bool}
theorem MB {n m:Nat} {cs:List Value} (ih:∀t ty cs x,Nai P n t=some ty->DataW.trod enc P w 0 (fun _=>true) held m t cs=some x->RB Pg W lim w ty cs) :
  ∀(a:List Field) (off:Nat) (xs:List (DataW H×List MemPlace)) (ty:Ty),Vb P (Nai P n) a off=some ty->off+ty.size=cs.length->(∀(i:Nat) f,a[i]? = some f->DataW.trod enc P w 0 (fun _=>true) held m f.type ((cs.drop f.offset).take (P.cellsOf f.type))=xs[i]?)->xs.length=a.length->RB Pg W lim w ty (cs.drop off)
 | [],off,xs,ty,ht,hl,hx,hxl=>by
   simp only [Vb,Option.some.injEq] at ht
   subst ht
   rw [Qa (by simp [Ty.size] at hl;omega)]
   exact RB.nil
 | fd::a,off,xs,ty,ht,hl,hx,hxl=>by
   simp only [Vb] at ht
   split at ht
   case isFalse=>cases ht
   rename_i ho
   split at ht
   case h_2=>cases ht
   rename_i b h1
   split at ht
   case isFalse=>cases ht
   rename_i hs
   split at ht
   case h_2=>cases ht
   rename_i r hr
   cases ht
   simp only [Ty.size] at hl
   match xs,hxl with
   | x0::xs,hxl=>
     have h2:=hx 0 fd rfl
     simp only [O5] at h2
     have c:=ih _ _ _ _ h1 h2
     have d:=MB (cs:=cs) ih a (off+b.size) xs r hr (by omega) (fun i f e=>by simpa using hx (i+1) f (by simpa using e)) (by simpa using hxl)
     rw [ho,<-hs] at c
     have:=RB.pair c d
     rw [<-List.drop_drop,Qc] at this
     exact this
theorem XG:∀(n m:Nat) {t:TypeId} {ty:Ty} {cs:List Value} {x:DataW H×List MemPlace},Nai P n t=some ty->DataW.trod enc P w 0 (fun _=>true) held m t cs=some x->RB Pg W lim w ty cs
 | 0,_,t,ty,cs,x,ht,_=>by simp [Nai] at ht
 | n+1,m,t,ty,cs,x,ht,h=>by
   simp only [Nai] at ht
   split at ht
   ·rename_i c;cases ht
    obtain ⟨b,rfl,_⟩:=DataW.trod_bool c h
    exact RB.bool
   ·rename_i k c;cases ht
    obtain ⟨b,rfl,_,u⟩:=DataW.trod_int c h
    exact RB.int u
   ·rename_i c;cases ht
    obtain ⟨b,rfl,_,u⟩:=DataW.trod_string c h
    exact RB.str u
   ·rename_i e c
    split at ht
    case h_2=>cases ht
    rename_i d he
    split at ht
    case isFalse=>cases ht
    rename_i hs
    cases ht
    rcases Go.Deep.open_slice c h with ⟨rfl,_⟩ | ⟨a,len,cap,v,q,D,Pl,rfl,z,hl,hm,o,A,hi⟩
    ·exact RB.nilslice
    ·simp only [if_true] at o
     subst o
     have j:∀i,∃cs',i<v->w.cells? 0 (a.add (i*d.size)) d.size=some cs'/\RB Pg W lim w d cs':=by
      intro i
      by_cases l:i<v
      ·obtain ⟨cs',h1,h2⟩:=hi i l
       exact ⟨cs',fun _=>⟨by rw [hs.1];exact h1,XG n q he h2⟩⟩
      ·exact ⟨[],fun h=>absurd h l⟩
     exact RB.slice (cs:=fun i=>Classical.choose (j i)) hl hm hs.2 fun i hi=>Classical.choose_spec (j i) hi
   ·rename_i k e c
    split at ht
    case h_2=>cases ht
    rename_i d he
    split at ht
    case isFalse=>cases ht
    rename_i hs
    cases ht
    obtain ⟨xs,q,_,_,g,p,r⟩:=DataW.trod_array c h
    refine RB.arr (by rw [g,hs.2]) fun i hi=>?_
    have h1:=r i hi
    rw [Nf (by omega)] at h1
    rw [hs.1]
    exact XG n q he h1
   ·rename_i y c
    split at ht
    case h_2=>cases ht
    rename_i d he
    split at ht
    case isFalse=>cases ht
    rename_i hs
    cases ht
    obtain ⟨xs,q,_,_,g,p,r⟩:=DataW.trod_struct c h
    have:=MB (cs:=cs) (fun t ty cs x h1 h2=>XG n q h1 h2) y.toList 0 xs ty he (by omega) (fun i f s=>r i f (by simpa using s)) (by simpa using p)
    simpa using this
   ·cases ht
end
def isRow:Ty->Bool
 | .nil=>true
 | .pair _ _=>true
 | .arr _ _=>true
 | _=>false
def Yc (t:Ty) (H:NE) (x:t.den) (v:Value):Prop:=if isRow t=true then ∃as,v=.agg as.toArray/\Rep t H x as else Rep t H x [v]
abbrev N7h:List Ty->Type
 | []=>Unit
 | t::ts=>t.den×N7h ts
def Njg:(a:List Ty)->NE->N7h a->List Value->Prop
 | [],_,_,vs=>vs=[]
 | t::a,H,x,vs=>∃v r,vs=v::r/\Yc t H x.1 v/\Njg a H x.2 r
theorem Yc.app {t:Ty} {H:NE} {x:t.den} {v:Value} (h:Yc t H x v) (X:NE):Yc t (H++X) x v:=by
 unfold Yc at *
 split
 ·rename_i hr
  rw [Ni hr] at h
  obtain ⟨as,e,k⟩:=h
  exact ⟨as,e,k.app X⟩
 ·rename_i hr
  rw [Nh hr] at h
  exact h.app X
section
variable {P:Program} {H:Type} {enc:TypeId×Value->H} {w:World} {Pg:Prg} {W:Nat->Prop} {lim:Nat}
theorem Nht {f:TypeId->Option Ty}:∀{a:List Field} {off:Nat} {ty:Ty},Vb P f a off=some ty->isRow ty=true
 | [],off,ty,h=>by simp only [Vb,Option.some.injEq] at h;subst h;rfl
 | fd::a,off,ty,h=>by
   simp only [Vb] at h
   split at h
   ·split at h
    ·split at h
     ·split at h
      ·cases h;rfl
      ·cases h
     ·cases h
    ·cases h
   ·cases h
theorem Nvp {n:Nat} {t:TypeId} {ty:Ty} {v:Value} {r:Reach} {base:Nat} (d:Nai P n t=some ty) (g:Value.okWide P w r base t v):if isRow ty=true then ∃cs,v=.agg cs else v.cells.toList=[v]:=by
 cases n with
 | zero=>simp [Nai] at d
 | succ n=>
   simp only [Nai] at d
   split at d
   ·rename_i f;cases d
    obtain ⟨b,rfl⟩:=okWide_bool f g
    rfl
   ·rename_i k f;cases d
    obtain ⟨b,rfl⟩:=okWide_int f g
    rfl
   ·rename_i f;cases d
    obtain ⟨b,rfl⟩:=okWide_string f g
    rfl
   ·rename_i e f
    split at d
    case h_2=>cases d
    split at d
    case isFalse=>cases d
    cases d
    obtain ⟨a,l,c,rfl⟩:=okWide_slice f g
    rfl
   ·rename_i k e f
    split at d
    case h_2=>cases d
    rename_i i he
    split at d
    case isFalse=>cases d
    cases d
    have h:=g
    simp only [Value.okWide,f] at h
    obtain ⟨cs,rfl,_⟩:=h
    exact ⟨cs,rfl⟩
   ·rename_i j f
    split at d
    case h_2=>cases d
    rename_i i he
    split at d
    case isFalse=>cases d
    cases d
    obtain ⟨cs,rfl,_⟩:=okWide_struct f g
    rw [Ni (Nht he)]
    exact ⟨cs,rfl⟩
   ·cases d
theorem Nd5 {n:Nat} {r:Reach} {base:Nat}:∀{h:List TypeId} {vs:List Value} {ds:List (DataW H)} {ps:List MemPlace} {tys:List Ty},DataW.TrodAll enc P w 0 (fun _=>true) true h vs ds ps->h.mapM (Nai P n)=some tys->
  (∀(j:Nat) t v,h[j]? = some t->vs[j]? = some v->Value.okWide P w r base t v)->∀σ H,Inv Pg W lim σ H w->ZI H->
  ∃X k as x,Inv Pg W lim k (H++X) w/\ZI (H++X)/\PK.le σ k/\OJ k as vs/\Njg tys (H++X) x as
 | [],[],[],ps,tys,_,b,_,σ,Hp,hi,hn=>by
   simp at b;subst b
   exact ⟨[],σ,[],(),by simpa using hi,by simpa using hn,PK.le_refl _,OJ.nil,rfl⟩
 | t::h,v::vs,d::ds,ps,tys,hA,b,hv,σ,Hp,hi,hn=>by
   obtain ⟨p,q,h1,h2,rfl⟩:=hA
   rw [List.mapM_cons] at b
   obtain ⟨ty,f,b⟩:=NZ b
   obtain ⟨tr,i,b⟩:=NZ b
   cases b
   obtain ⟨m,hm⟩:=h1
   have hc:=Nvp f (hv 0 t v rfl rfl)
   obtain ⟨X,o,as,x,k1,k2,k3,c,g,s⟩:=XG n m f hm σ Hp hi hn
   obtain ⟨Y,D,bs,y,u,z,l,A,B⟩:=Nd5 h2 i (fun j C v' e1 e2=>hv (j+1) C v' (by simpa using e1) (by simpa using e2)) o _ k1 k2
   have key:∃e,VRel o e v/\Yc ty (Hp++X) x e:=by
    split at hc
    ·rename_i hr
     obtain ⟨cs,rfl⟩:=hc
     refine ⟨.agg as.toArray,VRel.agg_iff.2 ⟨by simpa [Value.cells] using c,by simpa [Value.cells] using s⟩, ?_⟩
     unfold Yc;rw [Ni hr]
     exact ⟨as,rfl,g⟩
    ·rename_i hr
     rw [hc] at c
     have hl:=c.1
     match as,hl,c,g with
     | [a],_,c,g=>
       refine ⟨a,c.head, ?_⟩
       unfold Yc;rw [Nh hr]
       exact g
   obtain ⟨e,q1,q2⟩:=key
   refine ⟨X++Y,D,e::bs,(x,y),by rw [<-Nn];exact u,by rw [<-Nn];exact z,PK.le_trans k3 l,OJ.cons (q1.mono l) A,e,bs,rfl, ?_, ?_⟩
   ·rw [<-Nn];exact q2.app Y
   ·rw [<-Nn];exact B
 | [],[],_::_,_,_,hA,_,_,_,_,_,_=>hA.elim
 | [],_::_,_,_,_,hA,_,_,_,_,_,_=>hA.elim
 | _::_,[],_,_,_,hA,_,_,_,_,_,_=>hA.elim
 | _::_,_::_,[],_,_,hA,_,_,_,_,_,_=>hA.elim
theorem Zz (hl:laidOutB P=true) {w':World} (f:Below w.heap.size w w'):∀{a:List TypeId} {vs:List Value} {ds:List (DataW H)} {ps:List MemPlace},(∀t∈a,P.readableRec t=true/\t<P.types.size)->DataW.TrodAll enc P w 0 (fun _=>true) true a vs ds ps->
  (∀x∈ps,x.block<w.heap.size)->DataW.TrodAll enc P w' 0 (fun b=>decide (b<w.heap.size)) true a vs ds ps
 | [],[],[],ps,_,h,_=>h
 | t::a,v::vs,d::ds,ps,hr,h,hlt=>by
   obtain ⟨p,q,h1,h2,rfl⟩:=h
   exact ⟨p,q,Below.trod hl (hr t (by simp)).1 (hr t (by simp)).2 h1 f fun x e=>hlt x (by simp [e]),Zz hl f (fun g c=>hr g (by simp [c])) h2 fun x e=>hlt x (by simp [e]),rfl⟩
 | [],[],_::_,_,_,hA,_=>hA.elim
 | [],_::_,_,_,_,hA,_=>hA.elim
 | _::_,[],_,_,_,hA,_=>hA.elim
 | _::_,_::_,[],_,_,hA,_=>hA.elim
theorem trodAll_length:∀{a:List TypeId} {vs:List Value} {ds:List (DataW H)} {ps:List MemPlace},DataW.TrodAll enc P w 0 (fun _=>true) true a vs ds ps->ds.length=a.length
 | [],[],[],ps,_=>rfl
 | t::a,v::vs,d::ds,ps,h=>by
   obtain ⟨p,q,h1,h2,rfl⟩:=h
   simp [trodAll_length h2]
 | [],[],_::_,_,hA=>hA.elim
 | [],_::_,_,_,hA=>hA.elim
 | _::_,[],_,_,hA=>hA.elim
 | _::_,_::_,[],_,hA=>hA.elim
end
theorem Nlu {C:Checked} {os:Os} {g:FuncId} {fn:Func} {s:ChangeSpec} {E:Env} {tys:List Ty} {Y:TypeId} {a:List PathCond} {H:Type} {enc:TypeId×Value->H}
  (own:ownKnob C.prog.godebug=none) (l:os.Started) (m:C.prog.inits.idxOf? g=none) (M:C.prog.funcs[g]? = some fn) (f:s.vars=[])
  (z:∀ds:List (DataW H),ds.length=fn.params.size->s.fn H ds={ results:=[.lit (.bool true)],args:=ds })
  (D:fn.resultTypes=#[Y]) (B:C.prog.underlying Y=some .bool) (G:fn.params.toList.mapM (Nai C.prog 9)=some tys)
  (y:∀t∈fn.params.toList,C.prog.readableRec t=true/\t<C.prog.types.size) (u:laidOutB C.prog=true) (Z:EnvOk C.prog E)
  (witness:∃(w:World) (tape:Tape) (i:Input),w.os=os/\(w.forCall tape i).Shaped C.prog/\i.vars=[]/\Input.okWide C.prog (w.forCall tape i) .any w.heap.size g i/\
   s.pre6 enc C.prog fn a false (w.forCall tape i).memory i.args/\({}:Assume).holds C.prog (lone (Frame.enter C.prog g i.args .normal) [] (w.forCall tape i)))
  (run:∀H vs x,Njg tys H x vs->NL E false H.length g vs H fun v _=>v=.bool true) :
  ReturnsInHanded {} C os g .any (s.pre6 enc C.prog fn a false) (s.post enc C.prog fn false true false false):=by
 refine returnsInHanded_of_change own l m M witness ?_
 intro w base args ds gs before I S T J
 have A:=S
 obtain ⟨p,q,K,R,rfl,aa,ab⟩:=S
 rw [f] at R
 obtain ⟨rfl,rfl⟩:=trodVars_none R
 obtain ⟨X,σ,as,x,k1,k2,k3,k4,W⟩:=Nd5 K G (fun j t v h1 h2=>I j t v (by simpa using h1) (by simpa using h2)) (fun _=>none) [] (Inv.nil (P:=C.prog) (E:=E) w) (fun i b B=>by simp at B)
 rw [Ok] at k1 k2 W
 have Q:Inv (Prg.mk C.prog E.pure) (fun k=>w.heap.size<=k) X.length σ X w:=⟨k1.blk,k1.inj,(fun i b L B ho=>by rw [k2 i b B] at ho;cases ho),k1.fresh,k1.dom⟩
 obtain ⟨n,LL,O,F⟩:=run X as x W
 have c:=(MX Z n).calls _ _ _ _ _ _ O (Nd _) _ _ _ _ Q k4
 rw [show args.toList.toArray=args by simp] at c
 refine c.mono fun e w' hp=>?_
 obtain ⟨r,hr,v',σ',rfl,V,U,d,_⟩:=hp
 rw [F.2 r hr] at V
 rw [V.bool_left]
 have o:Below w.heap.size w w':=⟨d.os,d.tape,d.output,d.size,fun k hk=>d.block k (by omega)⟩
 have N:∀x∈p,x.block<w.heap.size:=fun x O=>by
  have:=A.lt x (by simpa using O)
  simpa using this
 have hs:=z ds (by simpa using trodAll_length K)
 refine ⟨_,rfl,_,_,_,[],p,[],A, ?_, ?_, ?_,o.frame _,fun h=>by cases h⟩
 ·rw [Nb,hs,D]
  exact trodAll_mk1 (shut_bool B true)
 ·rw [Nb,hs]
  exact Zz u o y K N
 ·rw [Nb,hs,f]
  rfl
theorem Rep.sl {t:Ty} {H:NE} {l:List t.den} {cs:List Value} {α:Type} (f:t.den->α) (enc:α->List Value) (he:∀H x c,Rep t H x c->c=enc (f x)) (h:Rep (.slice t) H l cs) :
  ∃p cap,cs=[.slice p (l.map f).length cap]/\Sl H enc t.size p (l.map f)/\l.length<2 ^ 63:=by
 obtain ⟨k,p,cap,e,h1,h2⟩:=h
 have d:l.length<2 ^ 63:=by unfold maxLen at k;omega
 refine ⟨p,cap,by rw [e,Nu], ?_,d⟩
 cases p with
 | none=>simp only [Sl];rw [(h1 rfl).1];rfl
 | some a=>
   obtain ⟨k1,k2,k3,q⟩:=h2 a rfl
   refine ⟨k1,fun hn=>?_⟩
   obtain ⟨es,r,g,j⟩:=q (by rintro rfl;exact hn rfl)
   have key:es.flatten=(l.map f).flatMap enc:=by
    have:es=l.map fun x=>enc (f x):=by
     apply Pn (by simpa using g)
     intro i s o
     have u:i<l.length:=by simpa using o
     have:=he _ _ _ (j i l[i] es[i] (Nf _) (Nf _))
     rw [this];simp
    rw [this,List.flatMap_def,List.map_map]
    rfl
   have b:es.flatten.length=l.length*t.size:=by
    have:∀(es:List (List Value)),(∀x∈es,x.length=t.size)->es.flatten.length=es.length*t.size:=by
     intro es
     induction es with
     | nil=>simp
     | cons x es ih=>intro h;simp [ih fun y n=>h y (by simp [n]),h x (by simp),Ps,Rj]
    rw [this es,g]
    intro x m
    obtain ⟨i,hi,rfl⟩:=List.mem_iff_getElem.1 m
    exact (j i _ _ (Nf (by omega)) (Nf hi)).len
   refine ⟨true,_,r, ?_, ?_⟩
   ·rw [k2,b,Nu];omega
   ·rw [k2,Ov,key,Og]
    rw [<-key,b,Nu]
    exact Nd _
theorem Rep.slice_mem {t:Ty} {H:NE} {l:List t.den} {cs:List Value} (h:Rep (.slice t) H l cs):∀x∈l,∃c,Rep t H x c:=by
 intro x b
 obtain ⟨g,p,cap,e,h1,h2⟩:=h
 cases p with
 | none=>rw [(h1 rfl).1] at b;simp at b
 | some a=>
   obtain ⟨k1,k2,k3,d⟩:=h2 a rfl
   obtain ⟨es,j,k,f⟩:=d (by rintro rfl;simp at b)
   obtain ⟨i,hi,rfl⟩:=List.mem_iff_getElem.1 b
   exact ⟨_,f i _ _ (Nf hi) (Nf (by omega))⟩
theorem Yc.row {t:Ty} {H:NE} {x:t.den} {v:Value} (hr:isRow t=true) (h:Yc t H x v):∃cs,v=.agg cs.toArray/\Rep t H x cs:=by
 unfold Yc at h
 rw [Ni hr] at h
 exact h
theorem Yc.one {t:Ty} {H:NE} {x:t.den} {v:Value} (hr:isRow t=false) (h:Yc t H x v):Rep t H x [v]:=by
 unfold Yc at h
 rw [Nh (by rw [hr];decide)] at h
 exact h
end Go.AM


namespace Go.AM
structure Chg (A:List Nat) (H H':NE):Prop where
 len:H.length<=H'.length
 other:∀j,j<H.length->j∉A->NF H' j=NF H j
section
variable {A B:List Nat} {H H' K:NE}
theorem Chg.refl:Chg A H H:=⟨Nd _,fun _ _ _=>rfl⟩
theorem Chg.trans (h:Chg A H H') (k:Chg A H' K):Chg A H K:=⟨Qi h.len k.len,fun j b a=>(k.other j (by have:=h.len;omega) a).trans (h.other j b a)⟩
theorem Chg.trans' (h:Chg A H H') (k:Chg B H' K) (hB:∀j,j∈B->j<H.length->j∈A):Chg A H K:=⟨Qi h.len k.len,fun j b a=>(k.other j (by have:=h.len;omega) fun c=>a (hB j c b)).trans (h.other j b a)⟩
theorem Chg.mono (h:Chg A H H') (hs:∀j,j<H.length->j∈A->j∈B):Chg B H H':=⟨h.len,fun j a hB=>h.other j a fun b=>hB (hs j a b)⟩
theorem Chg.app (h:Chg A H H') {X:NE}:Chg A H (H'++X):=⟨by have:=h.len;simp;omega,fun j b a=>by rw [NN (by have:=h.len;omega)];exact h.other j b a⟩
theorem Chg.pre (h:Chg A (H++K) H'):Chg A H H':=⟨by have:=h.len;simp at this;omega,fun j b a=>by rw [h.other j (by simp;omega) a,NN b]⟩
theorem Chg.mut {R:Nat} (h:Chg A H H') (m:Mut H' K R) (b:R∈A\/H.length<=R):Chg A H K:=⟨by rw [m.len];exact h.len,fun j c a=>by
 rw [m.other j (by rintro rfl;rcases b with h1 | h1;exact a h1;omega)];exact h.other j c a⟩
theorem Chg.set {R:Nat} {b:Blk} (h:Chg A H H') (a:R∈A\/H.length<=R):Chg A H (H'.set R b):=h.mut (R:=R) ⟨by simp,fun j c=>QK c⟩ a
theorem Chg.get (h:Chg A H H') {j:Nat} {b:Blk} (c:NF H j=b) (hl:j<H.length) (a:j∉A):NF H' j=b:=by rw [h.other j hl a];exact c
theorem Chg.cells (h:Chg A H H') {j:Nat} {ro:Bool} {c:List Value} (a:NF H j=.cells ro c) (b:j∉A):NF H' j=.cells ro c:=h.get a (NK a) b
theorem Chg.sl {α:Type} {enc:α->List Value} {e:Nat} {p:Option Addr} {l:List α} (h:Chg A H H') (hs:Sl H enc e p l) (hp:∀a,p=some a->l≠[]->a.block∉A):Sl H' enc e p l:=by
 cases p with
 | none=>exact hs
 | some a=>
   refine ⟨hs.1,fun hn=>?_⟩
   obtain ⟨ro,c,h2,b⟩:=hs.2 hn
   exact ⟨ro,c,h.cells h2 (hp a rfl hn),b⟩
theorem OM.chg (h:OM H H'):Chg A H H':=by obtain ⟨X,rfl⟩:=h;exact Chg.refl.app
theorem Chg.ext (h:Chg [] H H'):OM H H':=by
 refine ⟨H'.drop H.length, ?_⟩
 apply Pn
 ·have:=h.len;simp;omega
 intro i h1 h2
 by_cases hi:i<H.length
 ·rw [P5 hi]
  have:=h.other i hi (by simp)
  unfold NF at this
  rw [Na,Na,Nf h1,Nf hi] at this
  exact this
 ·rw [Qp (by omega),List.getElem_drop]
  congr 1
  omega
end
theorem Sl.lt {α:Type} {H:NE} {enc:α->List Value} {e:Nat} {a:Addr} {l:List α} (h:Sl H enc e (some a) l) (hn:l≠[]):a.block<H.length:=by
 obtain ⟨ro,c,h2,_⟩:=h.2 hn
 exact NK h2
theorem Sl.some {α:Type} {H:NE} {enc:α->List Value} {e:Nat} {p:Option Addr} {l:List α} (h:Sl H enc e p l) (hn:l≠[]):∃a,p=some a:=by
 cases p with
 | none=>exact absurd h hn
 | some a=>exact ⟨a,rfl⟩
section
variable {α:Type} [Inhabited α] {H:NE} {enc:α->List Value} {e:Nat} {p:Option Addr} {l:List α}
theorem Sl.loadSub (h:Sl H enc e p l) (he:∀x,(enc x).length=e) {i j n:Nat} (hi:i<l.length) (m:j+n<=e):AM.loadCells H ((YI p e i).add j) n=Option.some (((enc (gt l i)).drop j).take n):=by
 have d:=h.loadCells he hi
 cases p with
 | none=>simp only [Sl] at h;subst h;simp at hi
 | some a=>
   obtain ⟨b,o,s⟩:=a
   obtain ⟨ro,c,h2,g,f⟩:=h.2 (by rintro rfl;simp at hi)
   have h1:=h.1
   simp only at h1 h2 f g;subst h1
   have k:i*e+e<=l.length*e:=by
    have:=O6 e (Qs hi)
    rw [Po] at this;exact this
   simp only [YI,addrOf,Pa,addr_add,AM.loadCells,h2] at d⊢
   split at d
   ·simp only [Option.some.injEq] at d
    rw [Ni (by omega),<-d,List.drop_take,Ra,List.drop_drop,Pz (by omega),O9]
   ·cases d
omit [Inhabited α] in
theorem Nsj {lim S:Nat} (he:∀x,(enc x).length=e) (hp:p=Option.some ⟨S,0,none⟩) (hS:NF H S=.cells false (l.flatMap enc)) (hl:lim<=S) {i:Nat} (hi:i<l.length) (y:α):AM.storeAt lim H (YI p e i) (enc y)=Option.some (H.set S (.cells false ((l.set i y).flatMap enc))):=by
 subst hp
 have h1:i*e+e<=l.length*e:=by
  have:=O6 e (Qs hi)
  rw [Po] at this;exact this
 simp only [YI,addrOf,Pa,addr_add,Vd,hS,N0]
 rw [Ni ⟨hl,by rw [he,PS he];exact h1⟩,Nl8 he y _ _ hi]
end
theorem Nan {α:Type} {G:NE} {enc:α->List Value} {e:Nat} {p:Option Addr} {l:List α} {lim S:Nat} (he:∀x,(enc x).length=e) (hp:p=some ⟨S,0,none⟩) (hS:NF G S=.cells false (l.flatMap enc)) (hl:lim<=S) {i:Nat} (hi:i<l.length) (y:α) :
  ∃G',(∀X,AM.storeAt lim (G++X) (YI p e i) (enc y)=some (G'++X))/\NF G' S=.cells false ((l.set i y).flatMap enc)/\Mut G G' S:=by
 obtain ⟨G',h1,h2,a⟩:=OP (NK hS) (.cells false ((l.set i y).flatMap enc))
 exact ⟨G',fun X=>by rw [Nsj he hp (by rw [NN (NK hS)];exact hS) hl hi,h1],h2,a⟩
theorem Own.step {α:Type} {lim lim' e bytes cap:Nat} {G:NE} {enc:α->List Value} {p:Option Addr} {l:List α} (h:Own lim G enc e p cap l) (m:lim'<=lim) (he:∀x,(enc x).length=e) (f:e≠0) (x:α) (o:(l.length+1)*bytes<=PN) (hn:l.length+1<2 ^ 61) (i:lim<=G.length)
  (X:NE) (b k:Nat) (q:NF (G++X) b=.cells false (enc x)) :
  ∃G2,OT lim' none e bytes false (.slice p l.length cap) (.slice (some ⟨b,0,none⟩) 1 k) (G++X)=some (.slice (some ⟨G.length+X.length,0,none⟩) (l.length+1) (loose e),G2++[])/\
   Own lim (G2++[]) enc e (some ⟨G.length+X.length,0,none⟩) (loose e) (l++[x])/\(∀A H0,H0.length<=lim->Chg A H0 G->Chg A H0 (G2++[]))/\(∀j,j<G.length->(∀a,p=some a->j≠a.block)->NF (G2++[]) j=NF G j)/\G2.length=G.length+X.length+1/\
   (∀j,j<X.length->NF (G2++[]) (G.length+j)=X.getD j .dead):=by
 obtain ⟨G',R,c,d,hm,_,hp⟩:=h.push1 (lim':=lim') (bytes:=bytes) m he f x o hn
 have n:lim<=R:=by
  rcases Rl p with h1 | ⟨a,h1⟩
  ·rw [c h1];exact i
  ·rw [d a h1];exact (h.block h1).1
 refine ⟨G'++(X++[.cells false ((l++[x]).flatMap enc)]),by rw [Nb];exact hp X b k q, ?_,fun A H0 h1 h2=>?_,fun j g hp=>?_,by simp [hm.len];omega,fun j g=>?_⟩
 ·rw [Nb]
  refine Own.new ?_ (by omega)
  rw [<-Nn,<-hm.len,<-Nm]
  exact NV
 ·rw [Nb]
  exact (h2.mut hm (.inr (by omega))).app
 ·rw [Nb,NN (by rw [hm.len];exact g)]
  refine hm.other j ?_
  rcases Rl p with h1 | ⟨a,h1⟩
  ·rw [c h1];omega
  ·rw [d a h1];exact hp a h1
 ·rw [Nb,<-hm.len,NW,Na,N6 g,Na]
theorem Nqm {α:Type} {lim b d e bytes c:Nat} {H:NE} {enc:α->List Value} {p:Option Addr} {l:List α} (k:NF H b=.cells false []) (hs:Sl H enc e p l) (h1:e≠0) (h2:l.length*bytes<=PN) (o:l.length<2 ^ 62) (hn:l≠[]) :
  OT lim (some d) e bytes false (.slice (some ⟨b,0,none⟩) 0 0) (.slice p l.length c) H=some (.slice (some ⟨d,0,none⟩) l.length (loose e),H.set d (.cells false (l.flatMap enc))):=by
 obtain ⟨a,rfl⟩:=hs.some hn
 have j:l.length≠0:=fun h=>hn (List.length_eq_zero_iff.1 h)
 obtain ⟨k1,k2⟩:=hs
 obtain ⟨ro,cs,k3,g,i⟩:=k2 hn
 have hl:AM.loadCells H a (l.length*e)=some (l.flatMap enc):=by
  obtain ⟨m,n,as'⟩:=a
  simp only [PU]
  simp only at k3 g i
  simp only [k3]
  rw [Ni g,i]
 have f:AM.loadCells H ⟨b,0,none⟩ (0*e)=some []:=by simp [PU,k]
 simp only [OT,firstCells,lenOf,hl,f,j,N0,Nat.not_lt_zero,or_false,h1,false_or,Nx,if_false]
 rw [Nh (by omega),Nh (by unfold loose;omega),Ni (by decide),Nh (by omega)]
 simp [place]
theorem Nmx {α:Type} {lim b e bytes c:Nat} {H:NE} {enc:α->List Value} {p:Option Addr} {l:List α} (j:NF H b=.cells false []) (hs:Sl H enc e p l) (h1:e≠0) (h2:l.length*bytes<=PN) (n:l.length<2 ^ 62) (hn:l≠[]) :
  OT lim none e bytes false (.slice (some ⟨b,0,none⟩) 0 0) (.slice p l.length c) H=some (.slice (some ⟨H.length,0,none⟩) l.length (loose e),H++[.cells false (l.flatMap enc)]):=by
 obtain ⟨a,rfl⟩:=hs.some hn
 have i:l.length≠0:=fun h=>hn (List.length_eq_zero_iff.1 h)
 obtain ⟨k1,k2⟩:=hs
 obtain ⟨ro,cs,k3,f,g⟩:=k2 hn
 have hl:AM.loadCells H a (l.length*e)=some (l.flatMap enc):=by
  obtain ⟨k,m,as'⟩:=a
  simp only [PU]
  simp only at k3 f g
  simp only [k3]
  rw [Ni f,g]
 have d:AM.loadCells H ⟨b,0,none⟩ (0*e)=some []:=by simp [PU,j]
 simp only [OT,firstCells,lenOf,hl,d,i,N0,Nat.not_lt_zero,or_false,h1,false_or,Nx,if_false]
 rw [Nh (by omega),Nh (by unfold loose;omega),Ni (by decide),Nh (by omega)]
 simp [place]
theorem Nb9:∀(k:KK) (n:Nat) (a b:List Value),a.length=n->b.length=n->(∀x∈a,∀y∈b,∃t,TB k x y=some t/\(t=true↔x=y))->∃t,PL (List.replicate n k) a b=some t/\(t=true↔a=b)
 | k,0,a,b,ha,hb,_=>by
   have:=List.length_eq_zero_iff.1 ha;have:=List.length_eq_zero_iff.1 hb
   subst_vars
   exact ⟨true,rfl,by simp⟩
 | k,n+1,a,b,ha,hb,h=>by
   match a,b,ha,hb with
   | x::a,y::b,ha,hb=>
     obtain ⟨t,h1,h2⟩:=h x (by simp) y (by simp)
     obtain ⟨u,c,d⟩:=Nb9 k n a b (by simpa using ha) (by simpa using hb) fun x e y f=>h x (by simp [e]) y (by simp [f])
     refine ⟨t&&u, ?_, ?_⟩
     ·rw [Pi]
      simp only [PL,h1,c]
     ·rw [Ny,h2,d];simp
theorem Xe {α:Type} [Inhabited α] {l:List α} {i:Nat} (h:i<l.length):l.take (i+1)=l.take i++[gt l i]:=by
 rw [Of h,PZ h]
theorem Ndp:∀(vs a b c:List Value),vs.length=b.length->QN (a++b++c) a.length vs=a++vs++c:=by
 intro vs
 induction vs with
 | nil=>intro a b c h;simp at h;have:b=[]:=List.length_eq_zero_iff.1 h.symm;subst this;rfl
 | cons v vs ih=>
   intro a b c h
   match b,h with
   | x::b,h=>
     rw [Uq]
     have e1:(a++x::b++c).set a.length v=(a++[v])++b++c:=by simp
     rw [e1]
     have:=ih (a++[v]) b c (by simpa using h)
     rw [Nm] at this
     simp only [Nl,Ns,N0] at this
     rw [this];simp
theorem Own.more {α:Type} {lim lim' e bytes cap:Nat} {G:NE} {enc:α->List Value} {p:Option Addr} {l:List α} (h:Own lim G enc e p cap l) (u:lim'<=lim) (he:∀x,(enc x).length=e) (s:e≠0) (m:List α) (n:(l.length+m.length)*bytes<=PN) (hn:l.length+m.length<2 ^ 61) (t:lim<=G.length)
  (X:NE) {x:Value} {str:Bool} (h1:firstCells (G++X) e str x=some (m.flatMap enc)) (h2:lenOf x=some m.length) :
  ∃G2 r b,OT lim' none e bytes str (.slice p l.length cap) x (G++X)=some (.slice r (l.length+m.length) b,G2++[])/\Own lim (G2++[]) enc e r b (l++m)/\(∀A H0,H0.length<=lim->Chg A H0 G->Chg A H0 (G2++[]))/\
   (∀j,j<G.length->(∀a,p=some a->j≠a.block)->NF (G2++[]) j=NF G j)/\G.length<=G2.length:=by
 by_cases hm:m=[]
 ·subst hm
  have o:l.length<=cap:=by
   rcases h with ⟨k1,_,k3⟩ | ⟨R,_,k2,_,_⟩
   ·subst k1;simp
   ·rw [k2];simp at hn;unfold loose;omega
  refine ⟨G++X,p,cap, ?_,by rw [Nb,Nb];exact h.app X,fun A H0 q1 q2=>by rw [Nb];exact q2.app,fun j c _=>by rw [Nb,NN c],by simp⟩
  simp only [Ns,Pw] at n hn h2⊢
  simp only [OT,h1,h2,Pw,if_true,Nb]
  rw [Nh (by omega)]
 ·have g:¬m.length=0:=fun q=>hm (List.length_eq_zero_iff.1 q)
  rcases h with ⟨k1,k2,k3⟩ | ⟨R,k1,k2,k3,v⟩
  ·subst k1 k2 k3
   refine ⟨G++(X++[.cells false (m.flatMap enc)]),some ⟨(G++X).length,0,none⟩,loose e, ?_, ?_,fun A H0 q1 q2=>by rw [Nb];exact q2.app,fun j c _=>by rw [Nb,NN c],by simp⟩
   ·simp only [Ns,N0] at n hn⊢
    simp only [OT,h1,h2,g,if_false,N0]
    rw [Nh (by omega)]
    simp [place]
   ·rw [Nb,Ok]
    refine Own.new ?_ (by simp;omega)
    rw [<-Nn];exact NV
  ·subst k1 k2
   have f:=NK k3
   have d:NF (G++X) R=.cells false (l.flatMap enc):=by rw [NN f];exact k3
   have i:AM.loadCells (G++X) ⟨R,0,none⟩ (l.length*e)=some (l.flatMap enc):=by
    simp only [PU,d,N0,PS he,Nd,if_true,Ov]
    rw [Og (by rw [PS he];exact Nd _)]
   have k:Mut G (G.set R .dead) R:=⟨by simp,fun j c=>QK c⟩
   refine ⟨G.set R .dead++(X++[.cells false ((l++m).flatMap enc)]),some ⟨(G++X).length,0,none⟩,loose e, ?_, ?_,fun A H0 q1 q2=>by rw [Nb];exact (q2.mut k (.inr (by omega))).app,fun j c hp=>by
    rw [Nb,NN (by simpa using c)];exact QK (hp _ rfl),by simp⟩
   ·simp only [OT,h1,h2,i,d,g,if_false,if_true]
    rw [Nh (by unfold loose;omega)]
    simp [show lim'<=R by omega,place,P4 _ _ f,Nn]
   ·rw [Nb]
    refine Own.new ?_ (by simp;omega)
    rw [<-Nn,show (G++X).length=(G.set R .dead++X).length by simp];exact NV
theorem Vk {α:Type} {e k:Nat} {H:NE} {enc:α->List Value} {p:Option Addr} {m:List α} (hs:Sl H enc e p m):firstCells H e false (.slice p m.length k)=some (m.flatMap enc):=by
 by_cases hm:m=[]
 ·subst hm
  cases p<;>simp [firstCells]
 ·obtain ⟨a,rfl,hl⟩:=hs.cells hm
  have:m.length≠0:=fun h=>hm (List.length_eq_zero_iff.1 h)
  simp [firstCells,this,hl]
theorem Sl.pre {α:Type} {H:NE} {enc:α->List Value} {e:Nat} {p:Option Addr} {l m:List α} (h:Sl H enc e p (l++m)) (he:∀x,(enc x).length=e):Sl H enc e p l:=by
 cases p with
 | none=>simp only [Sl] at h;exact (List.append_eq_nil_iff.1 h).1
 | some a=>
   refine ⟨h.1,fun hn=>?_⟩
   obtain ⟨ro,c,h1,h2,f⟩:=h.2 (by simp [hn])
   have b:l.length*e<=(l++m).length*e:=O6 e (by simp)
   refine ⟨ro,c,h1,by omega, ?_⟩
   have d:=Qg (List.take (l.length*e)) f
   rw [Ra,Pz b,P8,P7 (by rw [PS he];exact Nd _),Og (l:=l.flatMap enc) (by rw [PS he];exact Nd _)] at d
   exact d
theorem Sl.row {α:Type} {H:NE} {enc:α->List Value} {e R:Nat} {l:List α} (he:∀x,(enc x).length=e) {ro:Bool} (h:NF H R=.cells ro (l.flatMap enc)):Sl H enc e (Option.some ⟨R,0,none⟩) l:=Sl.lit he (by rw [h];rfl) (by rw [h];rfl)
theorem Own.chg {α:Type} {A:List Nat} {lim e cap:Nat} {G H':NE} {enc:α->List Value} {p:Option Addr} {l:List α} (h:Own lim G enc e p cap l) (hc:Chg A G H') (hp:∀a,p=some a->a.block∉A):Own lim H' enc e p cap l:=by
 rcases h with h | ⟨R,h1,h2,b,c⟩
 ·exact .inl h
 ·exact .inr ⟨R,h1,h2,hc.cells b (hp _ h1),c⟩
def Ws (e c n:Nat):Prop:=c=loose e\/(n<=c/\c<2 ^ 62)
theorem Own.capOk {α:Type} {lim e cap:Nat} {G:NE} {enc:α->List Value} {p:Option Addr} {l:List α} (h:Own lim G enc e p cap l):Ws e cap l.length:=by
 rcases h with ⟨h1,h2,a⟩ | ⟨R,h1,h2,a,b⟩
 ·subst h1 a;exact .inr ⟨Nd _,by decide⟩
 ·exact .inl h2
theorem Nhc {α:Type} {enc:α->List Value} {e:Nat} (he:∀x,(enc x).length=e):∀(l:List α) (k:Nat),(l.take k).flatMap enc=(l.flatMap enc).take (k*e)
 | [],k=>by simp
 | x::l,0=>by simp
 | x::l,k+1=>by
   rw [Qy,Ow,Ow,Nhc he l k,List.take_append,he,Og (l:=enc x) (by rw [he,Po];omega),Po,Pj]
theorem Neq {α:Type} {enc:α->List Value} {e:Nat} (he:∀x,(enc x).length=e):∀(l:List α) (k:Nat),(l.drop k).flatMap enc=(l.flatMap enc).drop (k*e)
 | [],k=>by simp
 | x::l,0=>by simp
 | x::l,k+1=>by
   rw [List.drop_succ_cons,Ow,Neq he l k,List.drop_append,he,Qa (as:=enc x) (by rw [he,Po];omega),Ok,Po,Pj]
theorem Sl.sub {α:Type} {H:NE} {enc:α->List Value} {e:Nat} {a:Addr} {l:List α} (h:Sl H enc e (Option.some a) l) (he:∀x,(enc x).length=e) {lo hi:Nat} (h1:lo<=hi) (h2:hi<=l.length):Sl H enc e (Option.some (a.add (lo*e))) ((l.take hi).drop lo):=by
 obtain ⟨b,o,s⟩:=a
 have hs:=h.1
 simp only at hs;subst hs
 rw [addr_add]
 refine ⟨rfl,fun hn=>?_⟩
 have f:l≠[]:=by rintro rfl;simp at hn
 obtain ⟨ro,c,k1,k2,k3⟩:=h.2 f
 have d:((l.take hi).drop lo).length=hi-lo:=by simp;omega
 have e1:(hi-lo)*e+lo*e=hi*e:=by rw [<-Ps,Nat.sub_add_cancel h1]
 have e2:hi*e<=l.length*e:=O6 e h2
 refine ⟨ro,c,k1,by simp only [d] at *;omega, ?_⟩
 simp only at k2 k3⊢
 rw [d,Neq he,Nhc he,<-k3,Ra,Pz e2,List.drop_take,List.drop_drop,show hi*e-lo*e=(hi-lo)*e by omega]
theorem VN {α:Type} {H:NE} {enc:α->List Value} {e:Nat} {p:Option Addr} {l:List α} {c lo hi:Nat} {vlo vhi:Option Value} (hs:Sl H enc e p l) (hc:Ws e c l.length) (he:∀x,(enc x).length=e) (y:∀cap,l.length<=cap->WI l.length cap vlo vhi none=some (lo,hi,cap)) (h1:lo<=hi) (h2:hi<=l.length) (hn:l.length<2 ^ 63) :
  ∃q u,VS e (.slice p l.length c) vlo vhi none=some (.slice q (hi-lo) u)/\Sl H enc e q ((l.take hi).drop lo)/\Ws e u (hi-lo)/\(∀a',q=some a'->∃a,p=some a/\a'.block=a.block)/\(l≠[]->∀a',q=some a'->AM.loadCells H a' 0=some []):=by
 have i:l≠[]->∀a,p=some a->∀k,k<=l.length->AM.loadCells H (a.add (k*e)) 0=some []:=by
  intro d a m k hk
  subst m
  obtain ⟨b,o,s⟩:=a
  have f:=hs.1
  simp only at f;subst f
  obtain ⟨ro,cs,k1,k2,k3⟩:=hs.2 d
  simp only at k1 k2
  have:=O6 e hk
  rw [addr_add,PU,k1]
  simp only [Pw,Q0]
  rw [Ni (by omega)]
 have r:l≠[]->∀a,p=some a->AM.loadCells H a 0=some []:=by
  intro d a m
  have:=i d a m 0 (Nz _)
  subst m
  obtain ⟨b,o,s⟩:=a
  have f:=hs.1
  simp only at f;subst f
  rw [Qh,addr_add,Pw] at this
  exact this
 have hB:∀cap,l.length<=cap->bounds unV l.length cap (vlo.map .const) (vhi.map .const) none=some (lo,hi,cap):=fun cap j=>by
  rw [Nab,<-y cap j]
  cases vlo<;>cases vhi<;>rfl
 have g:∀(a:Addr) (n:Nat),(a.add n).block=a.block:=fun a n=>by
  unfold Addr.add
  split<;>rfl
 rcases hc with rfl | ⟨v,w⟩
 ·refine ⟨p.map (·.add (lo*e)),loose e, ?_, ?_,.inl rfl,fun a' h=>?_,fun d a' h=>?_⟩
  ·simp only [VS,Uc,On,if_true,hB _ (Nd _)]
  ·cases p with
   | none=>simp only [Sl] at hs;subst hs;simp [Sl]
   | some a=>exact hs.sub he h1 h2
  ·cases p with
   | none=>cases h
   | some a=>cases h;exact ⟨a,rfl,g _ _⟩
  ·cases p with
   | none=>cases h
   | some a=>cases h;exact i d a rfl lo (by omega)
 ·have t:¬c=loose e:=by unfold loose;omega
  refine ⟨if c=lo then p else p.map (·.add (lo*e)),c-lo, ?_, ?_,.inr ⟨by omega,by omega⟩,fun a' h=>?_,fun d a' h=>?_⟩
  ·simp only [VS,Uc,On,Nh t,Ni w,hB c v]
  ·split
   ·have i:(l.take hi).drop lo=[]:=Qa (by simp;omega)
    rw [i]
    cases p with
    | none=>rfl
    | some a=>exact ⟨hs.1,fun h=>absurd rfl h⟩
   ·cases p with
    | none=>simp only [Sl] at hs;subst hs;simp [Sl]
    | some a=>exact hs.sub he h1 h2
  ·split at h
   ·exact ⟨a',h,rfl⟩
   ·cases p with
    | none=>cases h
    | some a=>cases h;exact ⟨a,rfl,g _ _⟩
  ·split at h
   ·exact r d a' h
   ·cases p with
    | none=>cases h
    | some a=>cases h;exact i d a rfl lo (by omega)
theorem Nsq {t:Ty} {H:NE} {l:List t.den} {v:Value} {α:Type} (f:t.den->α) (enc:α->List Value) (he:∀H x c,Rep t H x c->c=enc (f x)) (h:Yc (.slice t) H l v) :
  ∃p cap,v=.slice p (l.map f).length cap/\Sl H enc t.size p (l.map f)/\Ws t.size cap (l.map f).length/\(l.map f).length<2 ^ 63:=by
 have g:=Yc.one rfl h
 obtain ⟨p,cap,e,h1,h2⟩:=Rep.sl f enc he g
 refine ⟨p,cap,List.singleton_inj.1 e,h1, ?_,by simpa using h2⟩
 obtain ⟨_,i,d,b,k1,k2⟩:=g
 rw [e] at b
 simp only [List.cons.injEq,Value.slice.injEq,and_true] at b
 obtain ⟨e1,_,e3⟩:=b
 subst e1 e3
 cases p with
 | none=>obtain ⟨q1,q2⟩:=k1 rfl;exact .inr (by rw [q1,q2];simp)
 | some a=>exact .inl (k2 a rfl).2.2.1
theorem Nj9 {n e lo hi:Nat} {a:Addr} {vlo vhi:Option Value} (b:WI n n vlo vhi none=some (lo,hi,n)) (hn:n<2 ^ 62) (hl:lo<n):XD n e (.pointer (some a)) vlo vhi none=some (.slice (some (a.add (lo*e))) (hi-lo) (n-lo)):=by
 have hB:bounds unV n n (vlo.map .const) (vhi.map .const) none=some (lo,hi,n):=by
  rw [Nab,<-b]
  cases vlo<;>cases vhi<;>rfl
 simp only [XD,On,hB,Ni hn]
 rw [Nh (by omega)]
theorem Sl.same {α:Type} {H G:NE} {enc:α->List Value} {e:Nat} {p:Option Addr} {l:List α} (h:Sl H enc e p l) (d:∀a,p=Option.some a->l≠[]->NF G a.block=NF H a.block):Sl G enc e p l:=by
 cases p with
 | none=>exact h
 | some a=>
   refine ⟨h.1,fun hn=>?_⟩
   obtain ⟨ro,c,h2,b⟩:=h.2 hn
   exact ⟨ro,c,by rw [d a rfl hn];exact h2,b⟩
theorem Own.appL {α:Type} {lim lim' e bytes cap:Nat} {G H:NE} {enc:α->List Value} {p:Option Addr} {l:List α} {dest:Option Nat} {str:Bool} {x:Value} (h:Own lim G enc e p cap l):Wi lim' dest e bytes str (.slice p l.length cap) x H=OT lim' dest e bytes str (.slice p l.length cap) x H:=by
 rcases h with ⟨h1,h2,a⟩ | ⟨R,h1,h2,a,b⟩
 ·subst h2;rfl
 ·subst h1;rw [UY,Ni (.inl h2)]
theorem OM.get' {H G:NE} (h:OM H G) {j:Nat} {b:Blk} (a:NF H j=b) (hl:j<H.length):NF G j=b:=by
 obtain ⟨X,rfl⟩:=h
 rw [NN hl];exact a
end Go.AM


namespace Go.AM.Srt
open Go.AM Go.AM.Sym
structure Ids where
 (e LEN32 INS SIFT HEAP BRK CHO REV PIS PEQ PART PDQ SORT LEN LEN64 NPT XOR MEDA MED ORD:Nat)
def Nzl (z:Ids):ACode:=(.seq (Ds 0 [i 18 (.mov (t 9)),i 19 (.mov (t 1)),Bt 20 .gtr 18 19,i 21 (.mov (t 20)),⟨(some 22),(some (21,true)),(.mov (t 3)),none,[]⟩,⟨(some 23),(some (21,true)),(.mov (t 0)),none,[]⟩,⟨(some 24),(some (21,true)),(.mov (t 9)),none,[]⟩,⟨(some 25),(some (21,true)),(.idxAddrS z.e (t 23) (t 24)),none,[]⟩,⟨(some 26),(some (21,true)),(.loadN z.e (t 25)),none,[]⟩,⟨(some 27),(some (21,true)),(.mov (t 0)),none,[]⟩,⟨(some 28),(some (21,true)),(.mov (t 9)),none,[]⟩,⟨(some 29),(some (21,true)),(.bin .sub (t 28) (k (Vi 1))),none,[]⟩,⟨(some 30),(some (21,true)),(.idxAddrS z.e (t 27) (t 29)),none,[]⟩,⟨(some 31),(some (21,true)),(.loadN z.e (t 30)),none,[]⟩,⟨(some 32),(some (21,true)),(.call .pure (t 22) [(t 26),(t 31)]),none,[]⟩,⟨(some 33),(some (21,true)),(.bin .lss (t 32) (k (Vi 0))),none,[]⟩,At 34 21 33] (Ce 34 2)) (.seq (.block 3 (.drawn 0 [i 37 (.mov (t 0)),i 38 (.mov (t 9)),i 39 (.mov (t 0)),i 40 (.mov (t 9)),i 41 (.bin .sub (t 40) (k (Vi 1))),i 42 (.mov (t 0)),i 43 (.mov (t 9)),i 44 (.bin .sub (t 43) (k (Vi 1))),i 45 (.idxAddrS z.e (t 42) (t 44)),i 46 (.loadN z.e (t 45)),i 47 (.mov (t 0)),i 48 (.mov (t 9)),i 49 (.idxAddrS z.e (t 47) (t 48)),i 50 (.loadN z.e (t 49)),i 51 (.idxAddrS z.e (t 37) (t 38)),⟨none,none,(.store z.e (t 51) (t 46)),none,[]⟩,i 52 (.idxAddrS z.e (t 39) (t 41)),⟨none,none,(.store z.e (t 52) (t 50)),none,[]⟩])) (.ops [i 35 (.mov (t 9)),i 36 (.bin .sub (t 35) (k (Vi 1))),i 9 (.mov (t 36))])))
def Npe (z:Ids):ACode:=(.seq (Oz [i 12 (.mov (t 8)),i 13 (.mov (t 2)),Bt 14 .lss 12 13] (Ce 14 0)) (.seq (.block 1 (Oz [i 17 (.mov (t 8)),i 9 (.mov (t 17))] (Bl 2 (Nzl z)))) (.ops [i 15 (.mov (t 8)),i 16 (.bin .add (t 15) (k (Vi 1))),i 8 (.mov (t 16))])))
def N4e (z:Ids):ACode:=(Oz [i 10 (.mov (t 1)),i 11 (.bin .add (t 10) (k (Vi 1))),i 8 (.mov (t 11))] (Bl 0 (Npe z)))
def aINS (z:Ids):AFunc:=⟨53,[],N4e z⟩
theorem Nlh {z:Ids}:(aINS z).ntmps=53:=id rfl
theorem Nkn {z:Ids}:(aINS z).results=[]:=rfl
theorem Oad {z:Ids}:(aINS z).body=N4e z:=rfl
def Nrk (z:Ids):ACode:=(.block 1 (Oz [i 13 (.mov (t 10)),i 14 (.bin .mul (k (Vi 2)) (t 13)),i 15 (.bin .add (t 14) (k (Vi 1))),i 11 (.mov (t 15))] (.seq (Oz [i 16 (.mov (t 11)),i 17 (.mov (t 2)),Bt 18 .geq 16 17] (.cond (t 18) (.exit 0) .skip)) (.seq (Ds 0 [i 19 (.mov (t 11)),i 20 (.bin .add (t 19) (k (Vi 1))),i 21 (.mov (t 2)),Bt 22 .lss 20 21,i 23 (.mov (t 22)),⟨(some 24),(some (23,true)),(.mov (t 4)),none,[]⟩,⟨(some 25),(some (23,true)),(.mov (t 0)),none,[]⟩,⟨(some 26),(some (23,true)),(.mov (t 3)),none,[]⟩,⟨(some 27),(some (23,true)),(.mov (t 11)),none,[]⟩,⟨(some 28),(some (23,true)),(.bin .add (t 26) (t 27)),none,[]⟩,⟨(some 29),(some (23,true)),(.idxAddrS z.e (t 25) (t 28)),none,[]⟩,⟨(some 30),(some (23,true)),(.loadN z.e (t 29)),none,[]⟩,⟨(some 31),(some (23,true)),(.mov (t 0)),none,[]⟩,⟨(some 32),(some (23,true)),(.mov (t 3)),none,[]⟩,⟨(some 33),(some (23,true)),(.mov (t 11)),none,[]⟩,⟨(some 34),(some (23,true)),(.bin .add (t 32) (t 33)),none,[]⟩,⟨(some 35),(some (23,true)),(.bin .add (t 34) (k (Vi 1))),none,[]⟩,⟨(some 36),(some (23,true)),(.idxAddrS z.e (t 31) (t 35)),none,[]⟩,⟨(some 37),(some (23,true)),(.loadN z.e (t 36)),none,[]⟩,⟨(some 38),(some (23,true)),(.call .pure (t 24) [(t 30),(t 37)]),none,[]⟩,⟨(some 39),(some (23,true)),(.bin .lss (t 38) (k (Vi 0))),none,[]⟩,At 40 23 39] (.cond (t 40) (.ops [i 41 (.mov (t 11)),i 42 (.bin .add (t 41) (k (Vi 1))),i 11 (.mov (t 42))]) .skip)) (.seq (Ds 0 [i 43 (.mov (t 4)),i 44 (.mov (t 0)),i 45 (.mov (t 3)),i 46 (.mov (t 10)),Bt 47 .add 45 46,i 48 (.idxAddrS z.e (t 44) (t 47)),i 49 (.loadN z.e (t 48)),i 50 (.mov (t 0)),i 51 (.mov (t 3)),i 52 (.mov (t 11)),Bt 53 .add 51 52,i 54 (.idxAddrS z.e (t 50) (t 53)),i 55 (.loadN z.e (t 54)),i 56 (.call .pure (t 43) [(t 49),(t 55)]),i 57 (.bin .lss (t 56) (k (Vi 0))),Ut 58 57] (.cond (t 58) .ret .skip)) (Ds 0 [i 59 (.mov (t 0)),i 60 (.mov (t 3)),i 61 (.mov (t 10)),Bt 62 .add 60 61,i 63 (.mov (t 0)),i 64 (.mov (t 3)),i 65 (.mov (t 11)),Bt 66 .add 64 65,i 67 (.mov (t 0)),i 68 (.mov (t 3)),i 69 (.mov (t 11)),Bt 70 .add 68 69,i 71 (.idxAddrS z.e (t 67) (t 70)),i 72 (.loadN z.e (t 71)),i 73 (.mov (t 0)),i 74 (.mov (t 3)),i 75 (.mov (t 10)),Bt 76 .add 74 75,i 77 (.idxAddrS z.e (t 73) (t 76)),i 78 (.loadN z.e (t 77)),i 79 (.idxAddrS z.e (t 59) (t 62)),⟨none,none,(.store z.e (t 79) (t 72)),none,[]⟩,i 80 (.idxAddrS z.e (t 63) (t 66)),⟨none,none,(.store z.e (t 80) (t 78)),none,[]⟩] (.ops [i 81 (.mov (t 11)),i 10 (.mov (t 81))])))))))
def N1f (z:Ids):ACode:=(Oz [i 12 (.mov (t 1)),i 10 (.mov (t 12))] (Bl 0 (Nrk z)))
def aSIFT (z:Ids):AFunc:=⟨82,[],N1f z⟩
theorem Nbw {z:Ids}:(aSIFT z).ntmps=82:=id rfl
theorem Nbq {z:Ids}:(aSIFT z).results=[]:=rfl
theorem N98 {z:Ids}:(aSIFT z).body=N1f z:=rfl
def Nrr (z:Ids):ACode:=(.seq (Oz [i 32 (.mov (t 12)),i 33 (.bin .geq (t 32) (k (Vi 0)))] (Ce 33 2)) (.seq (.block 3 (Ds 0 [i 36 (.mov (t 0)),i 37 (.mov (t 8)),i 38 (.mov (t 0)),i 39 (.mov (t 8)),i 40 (.mov (t 12)),Bt 41 .add 39 40,i 42 (.mov (t 0)),i 43 (.mov (t 8)),i 44 (.mov (t 12)),Bt 45 .add 43 44,i 46 (.idxAddrS z.e (t 42) (t 45)),i 47 (.loadN z.e (t 46)),i 48 (.mov (t 0)),i 49 (.mov (t 8)),i 50 (.idxAddrS z.e (t 48) (t 49)),i 51 (.loadN z.e (t 50)),i 52 (.idxAddrS z.e (t 36) (t 37)),⟨none,none,(.store z.e (t 52) (t 47)),none,[]⟩,i 53 (.idxAddrS z.e (t 38) (t 41)),⟨none,none,(.store z.e (t 53) (t 51)),none,[]⟩] (.ops [i 54 (.mov (t 0)),i 55 (.mov (t 9)),i 56 (.mov (t 12)),i 57 (.mov (t 8)),i 58 (.mov (t 3)),i 59 (.call .any (.func z.SIFT) [(t 54),(t 55),(t 56),(t 57),(t 58)])]))) (.ops [i 34 (.mov (t 12)),i 35 (.bin .sub (t 34) (k (Vi 1))),i 12 (.mov (t 35))])))
def Nrq (z:Ids):ACode:=(.seq (Oz [i 20 (.mov (t 11)),i 21 (.bin .geq (t 20) (k (Vi 0)))] (Ce 21 0)) (.seq (.block 1 (.ops [i 24 (.mov (t 0)),i 25 (.mov (t 11)),i 26 (.mov (t 10)),i 27 (.mov (t 8)),i 28 (.mov (t 3)),i 29 (.call .any (.func z.SIFT) [(t 24),(t 25),(t 26),(t 27),(t 28)])])) (.ops [i 22 (.mov (t 11)),i 23 (.bin .sub (t 22) (k (Vi 1))),i 11 (.mov (t 23))])))
def N1j (z:Ids):ACode:=(Oz [i 13 (.mov (t 1)),i 8 (.mov (t 13))] (Oz [i 9 (.mov (k (Vi 0)))] (Oz [i 14 (.mov (t 2)),i 15 (.mov (t 1)),Bt 16 .sub 14 15,i 10 (.mov (t 16))] (.seq (Oz [i 17 (.mov (t 10)),i 18 (.bin .sub (t 17) (k (Vi 1))),i 19 (.bin .quo (t 18) (k (Vi 2))),i 11 (.mov (t 19))] (Bl 0 (Nrq z))) (Oz [i 30 (.mov (t 10)),i 31 (.bin .sub (t 30) (k (Vi 1))),i 12 (.mov (t 31))] (Bl 2 (Nrr z)))))))
def aHEAP (z:Ids):AFunc:=⟨60,[],N1j z⟩
theorem Nli {z:Ids}:(aHEAP z).ntmps=60:=id rfl
theorem Nko {z:Ids}:(aHEAP z).results=[]:=rfl
theorem Oae {z:Ids}:(aHEAP z).body=N1j z:=rfl
def Nzm (z:Ids):ACode:=(.seq (Oz [i 28 (.mov (t 11)),i 29 (.mov (t 1)),i 30 (.mov (t 8)),i 31 (.bin .quo (t 30) (k (Vi 4))),i 32 (.bin .mul (t 31) (k (Vi 2))),Bt 33 .add 29 32,i 34 (.bin .add (t 33) (k (Vi 1))),Bt 35 .leq 28 34] (Ce 35 0)) (.seq (.block 1 (Oz [i 38 (.call .any (.func z.XOR) [(t 9)]),i 39 (.mov (t 10)),i 40 (.bin .sub (t 39) (k (.int .u64 1))),Bt 41 .and 38 40,i 42 (.conv .i64 (t 41)),i 12 (.mov (t 42))] (.seq (Oz [i 43 (.mov (t 12)),i 44 (.mov (t 8)),Bt 45 .geq 43 44] (.cond (t 45) (.ops [i 46 (.mov (t 12)),i 47 (.mov (t 8)),Bt 48 .sub 46 47,i 12 (.mov (t 48))]) .skip)) (.drawn 0 [i 49 (.mov (t 0)),i 50 (.mov (t 11)),i 51 (.mov (t 0)),i 52 (.mov (t 1)),i 53 (.mov (t 12)),Bt 54 .add 52 53,i 55 (.mov (t 0)),i 56 (.mov (t 1)),i 57 (.mov (t 12)),Bt 58 .add 56 57,i 59 (.idxAddrS z.e (t 55) (t 58)),i 60 (.loadN z.e (t 59)),i 61 (.mov (t 0)),i 62 (.mov (t 11)),i 63 (.idxAddrS z.e (t 61) (t 62)),i 64 (.loadN z.e (t 63)),i 65 (.idxAddrS z.e (t 49) (t 50)),⟨none,none,(.store z.e (t 65) (t 60)),none,[]⟩,i 66 (.idxAddrS z.e (t 51) (t 54)),⟨none,none,(.store z.e (t 66) (t 64)),none,[]⟩])))) (.ops [i 36 (.mov (t 11)),i 37 (.bin .add (t 36) (k (Vi 1))),i 11 (.mov (t 37))])))
def N7q (z:Ids):ACode:=(Oz [i 13 (.mov (t 2)),i 14 (.mov (t 1)),Bt 15 .sub 13 14,i 8 (.mov (t 15))] (Oz [i 16 (.mov (t 8)),i 17 (.bin .geq (t 16) (k (Vi 8)))] (.cond (t 17) (Oz [i 18 (.mov (t 8)),i 19 (.conv .u64 (t 18)),i 9 (.alloc [(.int .u64 0)]),⟨none,none,(.store 1 (t 9) (t 19)),none,[]⟩] (Oz [i 20 (.mov (t 8)),i 21 (.call .any (.func z.NPT) [(t 20)]),i 10 (.mov (t 21))] (Oz [i 22 (.mov (t 1)),i 23 (.mov (t 8)),i 24 (.bin .quo (t 23) (k (Vi 4))),i 25 (.bin .mul (t 24) (k (Vi 2))),Bt 26 .add 22 25,i 27 (.bin .sub (t 26) (k (Vi 1))),i 11 (.mov (t 27))] (Bl 0 (Nzm z))))) .skip)))
def aBRK (z:Ids):AFunc:=⟨67,[],N7q z⟩
theorem N3h {z:Ids}:(aBRK z).ntmps=67:=id rfl
theorem N2q {z:Ids}:(aBRK z).results=[]:=rfl
theorem Ods {z:Ids}:(aBRK z).body=N7q z:=rfl
def N4f (z:Ids):ACode:=(Oz [i 8 (.mov (k (Vi 0))),i 9 (.mov (k (Vi 0)))] (Oz [i 15 (.mov (t 2)),i 16 (.mov (t 1)),Bt 17 .sub 15 16,i 10 (.mov (t 17))] (Oz [i 11 (.alloc [(Vi 0)])] (Oz [i 18 (.mov (t 1)),i 19 (.mov (t 10)),i 20 (.bin .quo (t 19) (k (Vi 4))),i 21 (.bin .mul (t 20) (k (Vi 1))),Bt 22 .add 18 21,i 12 (.mov (t 22))] (Oz [i 23 (.mov (t 1)),i 24 (.mov (t 10)),i 25 (.bin .quo (t 24) (k (Vi 4))),i 26 (.bin .mul (t 25) (k (Vi 2))),Bt 27 .add 23 26,i 13 (.mov (t 27))] (Oz [i 28 (.mov (t 1)),i 29 (.mov (t 10)),i 30 (.bin .quo (t 29) (k (Vi 4))),i 31 (.bin .mul (t 30) (k (Vi 3))),Bt 32 .add 28 31,i 14 (.mov (t 32))] (.seq (Oz [i 33 (.mov (t 10)),i 34 (.bin .geq (t 33) (k (Vi 8)))] (.cond (t 34) (.seq (Oz [i 35 (.mov (t 10)),i 36 (.bin .geq (t 35) (k (Vi 50)))] (.cond (t 36) (Oz [i 37 (.mov (t 0)),i 38 (.mov (t 12)),i 39 (.mov (t 3)),i 40 (.call .any (.func z.MEDA) [(t 37),(t 38),(t 11),(t 39)]),i 12 (.mov (t 40))] (Oz [i 41 (.mov (t 0)),i 42 (.mov (t 13)),i 43 (.mov (t 3)),i 44 (.call .any (.func z.MEDA) [(t 41),(t 42),(t 11),(t 43)]),i 13 (.mov (t 44))] (.ops [i 45 (.mov (t 0)),i 46 (.mov (t 14)),i 47 (.mov (t 3)),i 48 (.call .any (.func z.MEDA) [(t 45),(t 46),(t 11),(t 47)]),i 14 (.mov (t 48))]))) .skip)) (.ops [i 49 (.mov (t 0)),i 50 (.mov (t 12)),i 51 (.mov (t 13)),i 52 (.mov (t 14)),i 53 (.mov (t 3)),i 54 (.call .any (.func z.MED) [(t 49),(t 50),(t 51),(t 52),(t 11),(t 53)]),i 13 (.mov (t 54))])) .skip)) (Oz [i 55 (.load1 (t 11))] (.block 0 (Oz [i 58 (.bin .eql (t 55) (k (Vi 0))),i 57 (.mov (t 58))] (.cond (t 57) (Oz [i 59 (.mov (t 13)),i 8 (.mov (t 59)),i 9 (.mov (k (Vi 1)))] .ret) (Oz [i 61 (.bin .eql (t 55) (k (Vi 12))),i 60 (.mov (t 61))] (.cond (t 60) (Oz [i 62 (.mov (t 13)),i 8 (.mov (t 62)),i 9 (.mov (k (Vi 2)))] .ret) (Oz [i 56 (.mov (t 13)),i 8 (.mov (t 56)),i 9 (.mov (k (Vi 0)))] .ret))))))))))))))
def aCHO (z:Ids):AFunc:=⟨63,[(.tmp 8),(.tmp 9)],N4f z⟩
theorem Ntz {z:Ids}:(aCHO z).ntmps=63:=id rfl
theorem Nsx {z:Ids}:(aCHO z).results=[(.tmp 8),(.tmp 9)]:=rfl
theorem Oaf {z:Ids}:(aCHO z).body=N4f z:=rfl
def Nze (z:Ids):ACode:=(.seq (Oz [i 13 (.mov (t 8)),i 14 (.mov (t 9)),Bt 15 .lss 13 14] (Ce 15 0)) (.block 1 (Ds 0 [i 16 (.mov (t 0)),i 17 (.mov (t 8)),i 18 (.mov (t 0)),i 19 (.mov (t 9)),i 20 (.mov (t 0)),i 21 (.mov (t 9)),i 22 (.idxAddrS z.e (t 20) (t 21)),i 23 (.loadN z.e (t 22)),i 24 (.mov (t 0)),i 25 (.mov (t 8)),i 26 (.idxAddrS z.e (t 24) (t 25)),i 27 (.loadN z.e (t 26)),i 28 (.idxAddrS z.e (t 16) (t 17)),⟨none,none,(.store z.e (t 28) (t 23)),none,[]⟩,i 29 (.idxAddrS z.e (t 18) (t 19)),⟨none,none,(.store z.e (t 29) (t 27)),none,[]⟩] (Oz [i 30 (.mov (t 8)),i 31 (.bin .add (t 30) (k (Vi 1))),i 8 (.mov (t 31))] (.ops [i 32 (.mov (t 9)),i 33 (.bin .sub (t 32) (k (Vi 1))),i 9 (.mov (t 33))])))))
def N7l (z:Ids):ACode:=(Oz [i 10 (.mov (t 1)),i 8 (.mov (t 10))] (Oz [i 11 (.mov (t 2)),i 12 (.bin .sub (t 11) (k (Vi 1))),i 9 (.mov (t 12))] (Bl 0 (Nze z))))
def aREV (z:Ids):AFunc:=⟨34,[],N7l z⟩
theorem N60 {z:Ids}:(aREV z).ntmps=34:=id rfl
theorem N6f {z:Ids}:(aREV z).results=[]:=rfl
theorem Odn {z:Ids}:(aREV z).body=N7l z:=rfl
def Niw (z:Ids):ACode:=(.seq (Oz [i 107 (.mov (t 12)),i 108 (.mov (t 2)),Bt 109 .lss 107 108] (Ce 109 6)) (.seq (.block 7 (.seq (Ds 0 [i 112 (.mov (t 3)),i 113 (.mov (t 0)),i 114 (.mov (t 12)),i 115 (.idxAddrS z.e (t 113) (t 114)),i 116 (.loadN z.e (t 115)),i 117 (.mov (t 0)),i 118 (.mov (t 12)),i 119 (.bin .sub (t 118) (k (Vi 1))),i 120 (.idxAddrS z.e (t 117) (t 119)),i 121 (.loadN z.e (t 120)),i 122 (.call .pure (t 112) [(t 116),(t 121)]),i 123 (.bin .lss (t 122) (k (Vi 0))),Ut 124 123] (.cond (t 124) (.exit 6) .skip)) (.drawn 0 [i 125 (.mov (t 0)),i 126 (.mov (t 12)),i 127 (.mov (t 0)),i 128 (.mov (t 12)),i 129 (.bin .sub (t 128) (k (Vi 1))),i 130 (.mov (t 0)),i 131 (.mov (t 12)),i 132 (.bin .sub (t 131) (k (Vi 1))),i 133 (.idxAddrS z.e (t 130) (t 132)),i 134 (.loadN z.e (t 133)),i 135 (.mov (t 0)),i 136 (.mov (t 12)),i 137 (.idxAddrS z.e (t 135) (t 136)),i 138 (.loadN z.e (t 137)),i 139 (.idxAddrS z.e (t 125) (t 126)),⟨none,none,(.store z.e (t 139) (t 134)),none,[]⟩,i 140 (.idxAddrS z.e (t 127) (t 129)),⟨none,none,(.store z.e (t 140) (t 138)),none,[]⟩]))) (.ops [i 110 (.mov (t 12)),i 111 (.bin .add (t 110) (k (Vi 1))),i 12 (.mov (t 111))])))
def Nzh (z:Ids):ACode:=(.seq (Oz [i 68 (.mov (t 11)),i 69 (.bin .geq (t 68) (k (Vi 1)))] (Ce 69 4)) (.seq (.block 5 (.seq (Ds 0 [i 72 (.mov (t 3)),i 73 (.mov (t 0)),i 74 (.mov (t 11)),i 75 (.idxAddrS z.e (t 73) (t 74)),i 76 (.loadN z.e (t 75)),i 77 (.mov (t 0)),i 78 (.mov (t 11)),i 79 (.bin .sub (t 78) (k (Vi 1))),i 80 (.idxAddrS z.e (t 77) (t 79)),i 81 (.loadN z.e (t 80)),i 82 (.call .pure (t 72) [(t 76),(t 81)]),i 83 (.bin .lss (t 82) (k (Vi 0))),Ut 84 83] (.cond (t 84) (.exit 4) .skip)) (.drawn 0 [i 85 (.mov (t 0)),i 86 (.mov (t 11)),i 87 (.mov (t 0)),i 88 (.mov (t 11)),i 89 (.bin .sub (t 88) (k (Vi 1))),i 90 (.mov (t 0)),i 91 (.mov (t 11)),i 92 (.bin .sub (t 91) (k (Vi 1))),i 93 (.idxAddrS z.e (t 90) (t 92)),i 94 (.loadN z.e (t 93)),i 95 (.mov (t 0)),i 96 (.mov (t 11)),i 97 (.idxAddrS z.e (t 95) (t 96)),i 98 (.loadN z.e (t 97)),i 99 (.idxAddrS z.e (t 85) (t 86)),⟨none,none,(.store z.e (t 99) (t 94)),none,[]⟩,i 100 (.idxAddrS z.e (t 87) (t 89)),⟨none,none,(.store z.e (t 100) (t 98)),none,[]⟩]))) (.ops [i 70 (.mov (t 11)),i 71 (.bin .sub (t 70) (k (Vi 1))),i 11 (.mov (t 71))])))
def Nzg (z:Ids):ACode:=(.seq (Ds 0 [i 19 (.mov (t 9)),i 20 (.mov (t 2)),Bt 21 .lss 19 20,i 22 (.mov (t 21)),⟨(some 23),(some (22,true)),(.mov (t 3)),none,[]⟩,⟨(some 24),(some (22,true)),(.mov (t 0)),none,[]⟩,⟨(some 25),(some (22,true)),(.mov (t 9)),none,[]⟩,⟨(some 26),(some (22,true)),(.idxAddrS z.e (t 24) (t 25)),none,[]⟩,⟨(some 27),(some (22,true)),(.loadN z.e (t 26)),none,[]⟩,⟨(some 28),(some (22,true)),(.mov (t 0)),none,[]⟩,⟨(some 29),(some (22,true)),(.mov (t 9)),none,[]⟩,⟨(some 30),(some (22,true)),(.bin .sub (t 29) (k (Vi 1))),none,[]⟩,⟨(some 31),(some (22,true)),(.idxAddrS z.e (t 28) (t 30)),none,[]⟩,⟨(some 32),(some (22,true)),(.loadN z.e (t 31)),none,[]⟩,⟨(some 33),(some (22,true)),(.call .pure (t 23) [(t 27),(t 32)]),none,[]⟩,⟨(some 34),(some (22,true)),(.bin .lss (t 33) (k (Vi 0))),none,[]⟩,⟨(some 35),(some (22,true)),(.un .not (t 34)),none,[]⟩,At 36 22 35] (Ce 36 2)) (.block 3 (.ops [i 37 (.mov (t 9)),i 38 (.bin .add (t 37) (k (Vi 1))),i 9 (.mov (t 38))])))
def Nzf (z:Ids):ACode:=(.seq (Oz [i 15 (.mov (t 10)),i 16 (.bin .lss (t 15) (k (Vi 5)))] (Ce 16 0)) (.seq (.block 1 (.seq (Bl 2 (Nzg z)) (.seq (Oz [i 39 (.mov (t 9)),i 40 (.mov (t 2)),Bt 41 .eql 39 40] (.cond (t 41) (Oz [i 8 (.mov (k (.bool true)))] .ret) .skip)) (.seq (Oz [i 42 (.mov (t 2)),i 43 (.mov (t 1)),Bt 44 .sub 42 43,i 45 (.bin .lss (t 44) (k (Vi 50)))] (.cond (t 45) (Oz [i 8 (.mov (k (.bool false)))] .ret) .skip)) (Ds 0 [i 46 (.mov (t 0)),i 47 (.mov (t 9)),i 48 (.mov (t 0)),i 49 (.mov (t 9)),i 50 (.bin .sub (t 49) (k (Vi 1))),i 51 (.mov (t 0)),i 52 (.mov (t 9)),i 53 (.bin .sub (t 52) (k (Vi 1))),i 54 (.idxAddrS z.e (t 51) (t 53)),i 55 (.loadN z.e (t 54)),i 56 (.mov (t 0)),i 57 (.mov (t 9)),i 58 (.idxAddrS z.e (t 56) (t 57)),i 59 (.loadN z.e (t 58)),i 60 (.idxAddrS z.e (t 46) (t 47)),⟨none,none,(.store z.e (t 60) (t 55)),none,[]⟩,i 61 (.idxAddrS z.e (t 48) (t 50)),⟨none,none,(.store z.e (t 61) (t 59)),none,[]⟩] (.seq (Oz [i 62 (.mov (t 9)),i 63 (.mov (t 1)),Bt 64 .sub 62 63,i 65 (.bin .geq (t 64) (k (Vi 2)))] (.cond (t 65) (Oz [i 66 (.mov (t 9)),i 67 (.bin .sub (t 66) (k (Vi 1))),i 11 (.mov (t 67))] (Bl 4 (Nzh z))) .skip)) (Oz [i 101 (.mov (t 2)),i 102 (.mov (t 9)),Bt 103 .sub 101 102,i 104 (.bin .geq (t 103) (k (Vi 2)))] (.cond (t 104) (Oz [i 105 (.mov (t 9)),i 106 (.bin .add (t 105) (k (Vi 1))),i 12 (.mov (t 106))] (Bl 6 (Niw z))) .skip)))))))) (.ops [i 17 (.mov (t 10)),i 18 (.bin .add (t 17) (k (Vi 1))),i 10 (.mov (t 18))])))
def N7m (z:Ids):ACode:=(Oz [i 8 (.mov (k (.bool false)))] (Oz [i 13 (.mov (t 1)),i 14 (.bin .add (t 13) (k (Vi 1))),i 9 (.mov (t 14))] (.seq (Oz [i 10 (.mov (k (Vi 0)))] (Bl 0 (Nzf z))) (Oz [i 8 (.mov (k (.bool false)))] .ret))))
def aPIS (z:Ids):AFunc:=⟨141,[(.tmp 8)],N7m z⟩
theorem VV {z:Ids}:(aPIS z).ntmps=141:=id rfl
theorem VU {z:Ids}:(aPIS z).results=[(.tmp 8)]:=rfl
theorem Odo {z:Ids}:(aPIS z).body=N7m z:=rfl
def Nzk (z:Ids):ACode:=(.seq (Ds 0 [i 50 (.mov (t 11)),i 51 (.mov (t 12)),Bt 52 .leq 50 51,i 53 (.mov (t 52)),⟨(some 54),(some (53,true)),(.mov (t 4)),none,[]⟩,⟨(some 55),(some (53,true)),(.mov (t 0)),none,[]⟩,⟨(some 56),(some (53,true)),(.mov (t 1)),none,[]⟩,⟨(some 57),(some (53,true)),(.idxAddrS z.e (t 55) (t 56)),none,[]⟩,⟨(some 58),(some (53,true)),(.loadN z.e (t 57)),none,[]⟩,⟨(some 59),(some (53,true)),(.mov (t 0)),none,[]⟩,⟨(some 60),(some (53,true)),(.mov (t 12)),none,[]⟩,⟨(some 61),(some (53,true)),(.idxAddrS z.e (t 59) (t 60)),none,[]⟩,⟨(some 62),(some (53,true)),(.loadN z.e (t 61)),none,[]⟩,⟨(some 63),(some (53,true)),(.call .pure (t 54) [(t 58),(t 62)]),none,[]⟩,⟨(some 64),(some (53,true)),(.bin .lss (t 63) (k (Vi 0))),none,[]⟩,At 65 53 64] (Ce 65 4)) (.block 5 (.ops [i 66 (.mov (t 12)),i 67 (.bin .sub (t 66) (k (Vi 1))),i 12 (.mov (t 67))])))
def Nzj (z:Ids):ACode:=(.seq (Ds 0 [i 31 (.mov (t 11)),i 32 (.mov (t 12)),Bt 33 .leq 31 32,i 34 (.mov (t 33)),⟨(some 35),(some (34,true)),(.mov (t 4)),none,[]⟩,⟨(some 36),(some (34,true)),(.mov (t 0)),none,[]⟩,⟨(some 37),(some (34,true)),(.mov (t 1)),none,[]⟩,⟨(some 38),(some (34,true)),(.idxAddrS z.e (t 36) (t 37)),none,[]⟩,⟨(some 39),(some (34,true)),(.loadN z.e (t 38)),none,[]⟩,⟨(some 40),(some (34,true)),(.mov (t 0)),none,[]⟩,⟨(some 41),(some (34,true)),(.mov (t 11)),none,[]⟩,⟨(some 42),(some (34,true)),(.idxAddrS z.e (t 40) (t 41)),none,[]⟩,⟨(some 43),(some (34,true)),(.loadN z.e (t 42)),none,[]⟩,⟨(some 44),(some (34,true)),(.call .pure (t 35) [(t 39),(t 43)]),none,[]⟩,⟨(some 45),(some (34,true)),(.bin .lss (t 44) (k (Vi 0))),none,[]⟩,⟨(some 46),(some (34,true)),(.un .not (t 45)),none,[]⟩,At 47 34 46] (Ce 47 2)) (.block 3 (.ops [i 48 (.mov (t 11)),i 49 (.bin .add (t 48) (k (Vi 1))),i 11 (.mov (t 49))])))
def Nzi (z:Ids):ACode:=(.block 1 (.seq (Bl 2 (Nzj z)) (.seq (Bl 4 (Nzk z)) (.seq (Oz [i 68 (.mov (t 11)),i 69 (.mov (t 12)),Bt 70 .gtr 68 69] (.cond (t 70) (.exit 0) .skip)) (Ds 0 [i 71 (.mov (t 0)),i 72 (.mov (t 11)),i 73 (.mov (t 0)),i 74 (.mov (t 12)),i 75 (.mov (t 0)),i 76 (.mov (t 12)),i 77 (.idxAddrS z.e (t 75) (t 76)),i 78 (.loadN z.e (t 77)),i 79 (.mov (t 0)),i 80 (.mov (t 11)),i 81 (.idxAddrS z.e (t 79) (t 80)),i 82 (.loadN z.e (t 81)),i 83 (.idxAddrS z.e (t 71) (t 72)),⟨none,none,(.store z.e (t 83) (t 78)),none,[]⟩,i 84 (.idxAddrS z.e (t 73) (t 74)),⟨none,none,(.store z.e (t 84) (t 82)),none,[]⟩] (Oz [i 85 (.mov (t 11)),i 86 (.bin .add (t 85) (k (Vi 1))),i 11 (.mov (t 86))] (.ops [i 87 (.mov (t 12)),i 88 (.bin .sub (t 87) (k (Vi 1))),i 12 (.mov (t 88))])))))))
def N7n (z:Ids):ACode:=(Oz [i 10 (.mov (k (Vi 0)))] (Ds 0 [i 13 (.mov (t 0)),i 14 (.mov (t 1)),i 15 (.mov (t 0)),i 16 (.mov (t 3)),i 17 (.mov (t 0)),i 18 (.mov (t 3)),i 19 (.idxAddrS z.e (t 17) (t 18)),i 20 (.loadN z.e (t 19)),i 21 (.mov (t 0)),i 22 (.mov (t 1)),i 23 (.idxAddrS z.e (t 21) (t 22)),i 24 (.loadN z.e (t 23)),i 25 (.idxAddrS z.e (t 13) (t 14)),⟨none,none,(.store z.e (t 25) (t 20)),none,[]⟩,i 26 (.idxAddrS z.e (t 15) (t 16)),⟨none,none,(.store z.e (t 26) (t 24)),none,[]⟩] (Oz [i 27 (.mov (t 1)),i 28 (.bin .add (t 27) (k (Vi 1))),i 29 (.mov (t 2)),i 30 (.bin .sub (t 29) (k (Vi 1))),i 11 (.mov (t 28)),i 12 (.mov (t 30))] (.seq (Bl 0 (Nzi z)) (Oz [i 89 (.mov (t 11)),i 10 (.mov (t 89))] .ret)))))
def aPEQ (z:Ids):AFunc:=⟨90,[(.tmp 10)],N7n z⟩
theorem Nlg {z:Ids}:(aPEQ z).ntmps=90:=id rfl
theorem Nkm {z:Ids}:(aPEQ z).results=[(.tmp 10)]:=rfl
theorem Odp {z:Ids}:(aPEQ z).body=N7n z:=rfl
def Nrp (z:Ids):ACode:=(.seq (Ds 0 [i 123 (.mov (t 12)),i 124 (.mov (t 13)),Bt 125 .leq 123 124,i 126 (.mov (t 125)),⟨(some 127),(some (126,true)),(.mov (t 4)),none,[]⟩,⟨(some 128),(some (126,true)),(.mov (t 0)),none,[]⟩,⟨(some 129),(some (126,true)),(.mov (t 13)),none,[]⟩,⟨(some 130),(some (126,true)),(.idxAddrS z.e (t 128) (t 129)),none,[]⟩,⟨(some 131),(some (126,true)),(.loadN z.e (t 130)),none,[]⟩,⟨(some 132),(some (126,true)),(.mov (t 0)),none,[]⟩,⟨(some 133),(some (126,true)),(.mov (t 1)),none,[]⟩,⟨(some 134),(some (126,true)),(.idxAddrS z.e (t 132) (t 133)),none,[]⟩,⟨(some 135),(some (126,true)),(.loadN z.e (t 134)),none,[]⟩,⟨(some 136),(some (126,true)),(.call .pure (t 127) [(t 131),(t 135)]),none,[]⟩,⟨(some 137),(some (126,true)),(.bin .lss (t 136) (k (Vi 0))),none,[]⟩,⟨(some 138),(some (126,true)),(.un .not (t 137)),none,[]⟩,At 139 126 138] (Ce 139 8)) (.block 9 (.ops [i 140 (.mov (t 13)),i 141 (.bin .sub (t 140) (k (Vi 1))),i 13 (.mov (t 141))])))
def Nro (z:Ids):ACode:=(.seq (Ds 0 [i 105 (.mov (t 12)),i 106 (.mov (t 13)),Bt 107 .leq 105 106,i 108 (.mov (t 107)),⟨(some 109),(some (108,true)),(.mov (t 4)),none,[]⟩,⟨(some 110),(some (108,true)),(.mov (t 0)),none,[]⟩,⟨(some 111),(some (108,true)),(.mov (t 12)),none,[]⟩,⟨(some 112),(some (108,true)),(.idxAddrS z.e (t 110) (t 111)),none,[]⟩,⟨(some 113),(some (108,true)),(.loadN z.e (t 112)),none,[]⟩,⟨(some 114),(some (108,true)),(.mov (t 0)),none,[]⟩,⟨(some 115),(some (108,true)),(.mov (t 1)),none,[]⟩,⟨(some 116),(some (108,true)),(.idxAddrS z.e (t 114) (t 115)),none,[]⟩,⟨(some 117),(some (108,true)),(.loadN z.e (t 116)),none,[]⟩,⟨(some 118),(some (108,true)),(.call .pure (t 109) [(t 113),(t 117)]),none,[]⟩,⟨(some 119),(some (108,true)),(.bin .lss (t 118) (k (Vi 0))),none,[]⟩,At 120 108 119] (Ce 120 6)) (.block 7 (.ops [i 121 (.mov (t 12)),i 122 (.bin .add (t 121) (k (Vi 1))),i 12 (.mov (t 122))])))
def Nrn (z:Ids):ACode:=(.block 5 (.seq (Bl 6 (Nro z)) (.seq (Bl 8 (Nrp z)) (.seq (Oz [i 142 (.mov (t 12)),i 143 (.mov (t 13)),Bt 144 .gtr 142 143] (.cond (t 144) (.exit 4) .skip)) (Ds 0 [i 145 (.mov (t 0)),i 146 (.mov (t 12)),i 147 (.mov (t 0)),i 148 (.mov (t 13)),i 149 (.mov (t 0)),i 150 (.mov (t 13)),i 151 (.idxAddrS z.e (t 149) (t 150)),i 152 (.loadN z.e (t 151)),i 153 (.mov (t 0)),i 154 (.mov (t 12)),i 155 (.idxAddrS z.e (t 153) (t 154)),i 156 (.loadN z.e (t 155)),i 157 (.idxAddrS z.e (t 145) (t 146)),⟨none,none,(.store z.e (t 157) (t 152)),none,[]⟩,i 158 (.idxAddrS z.e (t 147) (t 148)),⟨none,none,(.store z.e (t 158) (t 156)),none,[]⟩] (Oz [i 159 (.mov (t 12)),i 160 (.bin .add (t 159) (k (Vi 1))),i 12 (.mov (t 160))] (.ops [i 161 (.mov (t 13)),i 162 (.bin .sub (t 161) (k (Vi 1))),i 13 (.mov (t 162))])))))))
def Nrm (z:Ids):ACode:=(.seq (Ds 0 [i 50 (.mov (t 12)),i 51 (.mov (t 13)),Bt 52 .leq 50 51,i 53 (.mov (t 52)),⟨(some 54),(some (53,true)),(.mov (t 4)),none,[]⟩,⟨(some 55),(some (53,true)),(.mov (t 0)),none,[]⟩,⟨(some 56),(some (53,true)),(.mov (t 13)),none,[]⟩,⟨(some 57),(some (53,true)),(.idxAddrS z.e (t 55) (t 56)),none,[]⟩,⟨(some 58),(some (53,true)),(.loadN z.e (t 57)),none,[]⟩,⟨(some 59),(some (53,true)),(.mov (t 0)),none,[]⟩,⟨(some 60),(some (53,true)),(.mov (t 1)),none,[]⟩,⟨(some 61),(some (53,true)),(.idxAddrS z.e (t 59) (t 60)),none,[]⟩,⟨(some 62),(some (53,true)),(.loadN z.e (t 61)),none,[]⟩,⟨(some 63),(some (53,true)),(.call .pure (t 54) [(t 58),(t 62)]),none,[]⟩,⟨(some 64),(some (53,true)),(.bin .lss (t 63) (k (Vi 0))),none,[]⟩,⟨(some 65),(some (53,true)),(.un .not (t 64)),none,[]⟩,At 66 53 65] (Ce 66 2)) (.block 3 (.ops [i 67 (.mov (t 13)),i 68 (.bin .sub (t 67) (k (Vi 1))),i 13 (.mov (t 68))])))
def Nrl (z:Ids):ACode:=(.seq (Ds 0 [i 32 (.mov (t 12)),i 33 (.mov (t 13)),Bt 34 .leq 32 33,i 35 (.mov (t 34)),⟨(some 36),(some (35,true)),(.mov (t 4)),none,[]⟩,⟨(some 37),(some (35,true)),(.mov (t 0)),none,[]⟩,⟨(some 38),(some (35,true)),(.mov (t 12)),none,[]⟩,⟨(some 39),(some (35,true)),(.idxAddrS z.e (t 37) (t 38)),none,[]⟩,⟨(some 40),(some (35,true)),(.loadN z.e (t 39)),none,[]⟩,⟨(some 41),(some (35,true)),(.mov (t 0)),none,[]⟩,⟨(some 42),(some (35,true)),(.mov (t 1)),none,[]⟩,⟨(some 43),(some (35,true)),(.idxAddrS z.e (t 41) (t 42)),none,[]⟩,⟨(some 44),(some (35,true)),(.loadN z.e (t 43)),none,[]⟩,⟨(some 45),(some (35,true)),(.call .pure (t 36) [(t 40),(t 44)]),none,[]⟩,⟨(some 46),(some (35,true)),(.bin .lss (t 45) (k (Vi 0))),none,[]⟩,At 47 35 46] (Ce 47 0)) (.block 1 (.ops [i 48 (.mov (t 12)),i 49 (.bin .add (t 48) (k (Vi 1))),i 12 (.mov (t 49))])))
def N1h (z:Ids):ACode:=(Oz [i 10 (.mov (k (Vi 0))),i 11 (.mov (k (.bool false)))] (Ds 0 [i 14 (.mov (t 0)),i 15 (.mov (t 1)),i 16 (.mov (t 0)),i 17 (.mov (t 3)),i 18 (.mov (t 0)),i 19 (.mov (t 3)),i 20 (.idxAddrS z.e (t 18) (t 19)),i 21 (.loadN z.e (t 20)),i 22 (.mov (t 0)),i 23 (.mov (t 1)),i 24 (.idxAddrS z.e (t 22) (t 23)),i 25 (.loadN z.e (t 24)),i 26 (.idxAddrS z.e (t 14) (t 15)),⟨none,none,(.store z.e (t 26) (t 21)),none,[]⟩,i 27 (.idxAddrS z.e (t 16) (t 17)),⟨none,none,(.store z.e (t 27) (t 25)),none,[]⟩] (Oz [i 28 (.mov (t 1)),i 29 (.bin .add (t 28) (k (Vi 1))),i 30 (.mov (t 2)),i 31 (.bin .sub (t 30) (k (Vi 1))),i 12 (.mov (t 29)),i 13 (.mov (t 31))] (.seq (Bl 0 (Nrl z)) (.seq (Bl 2 (Nrm z)) (.seq (Oz [i 69 (.mov (t 12)),i 70 (.mov (t 13)),Bt 71 .gtr 69 70] (.cond (t 71) (Ds 0 [i 72 (.mov (t 0)),i 73 (.mov (t 13)),i 74 (.mov (t 0)),i 75 (.mov (t 1)),i 76 (.mov (t 0)),i 77 (.mov (t 1)),i 78 (.idxAddrS z.e (t 76) (t 77)),i 79 (.loadN z.e (t 78)),i 80 (.mov (t 0)),i 81 (.mov (t 13)),i 82 (.idxAddrS z.e (t 80) (t 81)),i 83 (.loadN z.e (t 82)),i 84 (.idxAddrS z.e (t 72) (t 73)),⟨none,none,(.store z.e (t 84) (t 79)),none,[]⟩,i 85 (.idxAddrS z.e (t 74) (t 75)),⟨none,none,(.store z.e (t 85) (t 83)),none,[]⟩] (Oz [i 86 (.mov (t 13)),i 10 (.mov (t 86)),i 11 (.mov (k (.bool true)))] .ret)) .skip)) (Ds 0 [i 87 (.mov (t 0)),i 88 (.mov (t 12)),i 89 (.mov (t 0)),i 90 (.mov (t 13)),i 91 (.mov (t 0)),i 92 (.mov (t 13)),i 93 (.idxAddrS z.e (t 91) (t 92)),i 94 (.loadN z.e (t 93)),i 95 (.mov (t 0)),i 96 (.mov (t 12)),i 97 (.idxAddrS z.e (t 95) (t 96)),i 98 (.loadN z.e (t 97)),i 99 (.idxAddrS z.e (t 87) (t 88)),⟨none,none,(.store z.e (t 99) (t 94)),none,[]⟩,i 100 (.idxAddrS z.e (t 89) (t 90)),⟨none,none,(.store z.e (t 100) (t 98)),none,[]⟩] (Oz [i 101 (.mov (t 12)),i 102 (.bin .add (t 101) (k (Vi 1))),i 12 (.mov (t 102))] (Oz [i 103 (.mov (t 13)),i 104 (.bin .sub (t 103) (k (Vi 1))),i 13 (.mov (t 104))] (.seq (Bl 4 (Nrn z)) (Ds 0 [i 163 (.mov (t 0)),i 164 (.mov (t 13)),i 165 (.mov (t 0)),i 166 (.mov (t 1)),i 167 (.mov (t 0)),i 168 (.mov (t 1)),i 169 (.idxAddrS z.e (t 167) (t 168)),i 170 (.loadN z.e (t 169)),i 171 (.mov (t 0)),i 172 (.mov (t 13)),i 173 (.idxAddrS z.e (t 171) (t 172)),i 174 (.loadN z.e (t 173)),i 175 (.idxAddrS z.e (t 163) (t 164)),⟨none,none,(.store z.e (t 175) (t 170)),none,[]⟩,i 176 (.idxAddrS z.e (t 165) (t 166)),⟨none,none,(.store z.e (t 176) (t 174)),none,[]⟩] (Oz [i 177 (.mov (t 13)),i 10 (.mov (t 177)),i 11 (.mov (k (.bool false)))] .ret))))))))))))
def aPART (z:Ids):AFunc:=⟨178,[(.tmp 10),(.tmp 11)],N1h z⟩
theorem WB {z:Ids}:(aPART z).ntmps=178:=id rfl
theorem W9 {z:Ids}:(aPART z).results=[(.tmp 10),(.tmp 11)]:=rfl
theorem N99 {z:Ids}:(aPART z).body=N1h z:=rfl
def Tk (z:Ids):ACode:=(.block 1 (Oz [i 21 (.mov (t 2)),i 22 (.mov (t 1)),Bt 23 .sub 21 22,i 12 (.mov (t 23))] (.seq (Oz [i 24 (.mov (t 12)),i 25 (.bin .leq (t 24) (k (Vi 12)))] (.cond (t 25) (Oz [i 26 (.mov (t 0)),i 27 (.mov (t 1)),i 28 (.mov (t 2)),i 29 (.mov (t 4)),i 30 (.call .any (.func z.INS) [(t 26),(t 27),(t 28),(t 29)])] .ret) .skip)) (.seq (Oz [i 31 (.mov (t 3)),i 32 (.bin .eql (t 31) (k (Vi 0)))] (.cond (t 32) (Oz [i 33 (.mov (t 0)),i 34 (.mov (t 1)),i 35 (.mov (t 2)),i 36 (.mov (t 4)),i 37 (.call .any (.func z.HEAP) [(t 33),(t 34),(t 35),(t 36)])] .ret) .skip)) (.seq (Oz [i 38 (.mov (t 10)),Ut 39 38] (.cond (t 39) (Oz [i 40 (.mov (t 0)),i 41 (.mov (t 1)),i 42 (.mov (t 2)),i 43 (.mov (t 4)),i 44 (.call .any (.func z.BRK) [(t 40),(t 41),(t 42),(t 43)])] (.ops [i 45 (.mov (t 3)),i 46 (.bin .sub (t 45) (k (Vi 1))),i 3 (.mov (t 46))])) .skip)) (Oz [i 48 (.mov (t 0)),i 49 (.mov (t 1)),i 50 (.mov (t 2)),i 51 (.mov (t 4)),i 52 (.call .any (.func z.CHO) [(t 48),(t 49),(t 50),(t 51)]),i 47 (.mov (t 52)),Et 53 0 47,Et 54 1 47,i 13 (.mov (t 53)),i 14 (.mov (t 54))] (.seq (Oz [i 55 (.mov (t 14)),i 56 (.bin .eql (t 55) (k (Vi 2)))] (.cond (t 56) (Oz [i 57 (.mov (t 0)),i 58 (.mov (t 1)),i 59 (.mov (t 2)),i 60 (.mov (t 4)),i 61 (.call .any (.func z.REV) [(t 57),(t 58),(t 59),(t 60)])] (Oz [i 62 (.mov (t 2)),i 63 (.bin .sub (t 62) (k (Vi 1))),i 64 (.mov (t 13)),i 65 (.mov (t 1)),Bt 66 .sub 64 65,Bt 67 .sub 63 66,i 13 (.mov (t 67))] (.ops [i 14 (.mov (k (Vi 1)))]))) .skip)) (.seq (Oz [i 68 (.mov (t 10)),i 69 (.mov (t 68)),⟨(some 70),(some (69,true)),(.mov (t 11)),none,[]⟩,At 71 69 70,i 72 (.mov (t 71)),⟨(some 73),(some (72,true)),(.mov (t 14)),none,[]⟩,⟨(some 74),(some (72,true)),(.bin .eql (t 73) (k (Vi 1))),none,[]⟩,At 75 72 74] (.cond (t 75) (Oz [i 76 (.mov (t 0)),i 77 (.mov (t 1)),i 78 (.mov (t 2)),i 79 (.mov (t 4)),i 80 (.call .any (.func z.PIS) [(t 76),(t 77),(t 78),(t 79)])] (.cond (t 80) .ret .skip)) .skip)) (.seq (Ds 0 [i 81 (.mov (t 1)),i 82 (.bin .gtr (t 81) (k (Vi 0))),i 83 (.mov (t 82)),⟨(some 84),(some (83,true)),(.mov (t 4)),none,[]⟩,⟨(some 85),(some (83,true)),(.mov (t 0)),none,[]⟩,⟨(some 86),(some (83,true)),(.mov (t 1)),none,[]⟩,⟨(some 87),(some (83,true)),(.bin .sub (t 86) (k (Vi 1))),none,[]⟩,⟨(some 88),(some (83,true)),(.idxAddrS z.e (t 85) (t 87)),none,[]⟩,⟨(some 89),(some (83,true)),(.loadN z.e (t 88)),none,[]⟩,⟨(some 90),(some (83,true)),(.mov (t 0)),none,[]⟩,⟨(some 91),(some (83,true)),(.mov (t 13)),none,[]⟩,⟨(some 92),(some (83,true)),(.idxAddrS z.e (t 90) (t 91)),none,[]⟩,⟨(some 93),(some (83,true)),(.loadN z.e (t 92)),none,[]⟩,⟨(some 94),(some (83,true)),(.call .pure (t 84) [(t 89),(t 93)]),none,[]⟩,⟨(some 95),(some (83,true)),(.bin .lss (t 94) (k (Vi 0))),none,[]⟩,⟨(some 96),(some (83,true)),(.un .not (t 95)),none,[]⟩,At 97 83 96] (.cond (t 97) (Oz [i 98 (.mov (t 0)),i 99 (.mov (t 1)),i 100 (.mov (t 2)),i 101 (.mov (t 13)),i 102 (.mov (t 4)),i 103 (.call .any (.func z.PEQ) [(t 98),(t 99),(t 100),(t 101),(t 102)]),i 15 (.mov (t 103))] (Oz [i 104 (.mov (t 15)),i 1 (.mov (t 104))] (.exit 1))) .skip)) (Oz [i 106 (.mov (t 0)),i 107 (.mov (t 1)),i 108 (.mov (t 2)),i 109 (.mov (t 13)),i 110 (.mov (t 4)),i 111 (.call .any (.func z.PART) [(t 106),(t 107),(t 108),(t 109),(t 110)]),i 105 (.mov (t 111)),Et 112 0 105,Et 113 1 105,i 16 (.mov (t 112)),i 17 (.mov (t 113))] (Oz [i 114 (.mov (t 17)),i 11 (.mov (t 114))] (Oz [i 115 (.mov (t 16)),i 116 (.mov (t 1)),Bt 117 .sub 115 116,i 118 (.mov (t 2)),i 119 (.mov (t 16)),Bt 120 .sub 118 119,i 18 (.mov (t 117)),i 19 (.mov (t 120))] (Oz [i 121 (.mov (t 12)),i 122 (.bin .quo (t 121) (k (Vi 8))),i 20 (.mov (t 122))] (Oz [i 123 (.mov (t 18)),i 124 (.mov (t 19)),Bt 125 .lss 123 124] (.cond (t 125) (Oz [i 126 (.mov (t 18)),i 127 (.mov (t 20)),Bt 128 .geq 126 127,i 10 (.mov (t 128))] (Oz [i 129 (.mov (t 0)),i 130 (.mov (t 1)),i 131 (.mov (t 16)),i 132 (.mov (t 3)),i 133 (.mov (t 4)),i 134 (.call .any (.func z.PDQ) [(t 129),(t 130),(t 131),(t 132),(t 133)])] (.ops [i 135 (.mov (t 16)),i 136 (.bin .add (t 135) (k (Vi 1))),i 1 (.mov (t 136))]))) (Oz [i 137 (.mov (t 19)),i 138 (.mov (t 20)),Bt 139 .geq 137 138,i 10 (.mov (t 139))] (Oz [i 140 (.mov (t 0)),i 141 (.mov (t 16)),i 142 (.bin .add (t 141) (k (Vi 1))),i 143 (.mov (t 2)),i 144 (.mov (t 3)),i 145 (.mov (t 4)),i 146 (.call .any (.func z.PDQ) [(t 140),(t 142),(t 143),(t 144),(t 145)])] (.ops [i 147 (.mov (t 16)),i 2 (.mov (t 147))]))))))))))))))))))
def N1g (z:Ids):ACode:=(Oz [i 10 (.mov (k (.bool true)))] (Oz [i 11 (.mov (k (.bool true)))] (Bl 0 (Tk z))))
def aPDQ (z:Ids):AFunc:=⟨148,[],N1g z⟩
theorem Xl {z:Ids}:(aPDQ z).ntmps=148:=id rfl
theorem Xi {z:Ids}:(aPDQ z).results=[]:=rfl
theorem N8g {z:Ids}:(aPDQ z).body=N1g z:=rfl
def Nr0 (z:Ids):ACode:=(Oz [i 5 (.mov (t 0)),Nt 6 5,i 4 (.mov (t 6))] (.ops [i 7 (.mov (t 0)),i 8 (.mov (t 4)),i 9 (.mov (t 4)),i 10 (.conv .u64 (t 9)),i 11 (.call .any (.func z.LEN) [(t 10)]),i 12 (.mov (t 1)),i 13 (.call .any (.func z.PDQ) [(t 7),(k (Vi 0)),(t 8),(t 11),(t 12)])]))
def aSORT (z:Ids):AFunc:=⟨14,[],Nr0 z⟩
theorem Nyv {z:Ids}:(aSORT z).ntmps=14:=id rfl
theorem Nxm {z:Ids}:(aSORT z).results=[]:=rfl
theorem N58 {z:Ids}:(aSORT z).body=Nr0 z:=rfl
def N4d (z:Ids):ACode:=(Oz [i 2 (.mov (k (Vi 0)))] (.seq (.cond (k (.bool false)) (Oz [i 3 (.mov (t 0)),i 4 (.conv .u32 (t 3)),i 5 (.call .any (.func z.LEN32) [(t 4)]),i 2 (.mov (t 5))] .ret) .skip) (Oz [i 6 (.mov (t 0)),i 7 (.call .any (.func z.LEN64) [(t 6)]),i 2 (.mov (t 7))] .ret)))
def aLEN (z:Ids):AFunc:=⟨8,[(.tmp 2)],N4d z⟩
theorem N9q {z:Ids}:(aLEN z).ntmps=8:=id rfl
theorem N8z {z:Ids}:(aLEN z).results=[(.tmp 2)]:=rfl
theorem Oac {z:Ids}:(aLEN z).body=N4d z:=rfl
def Nfa (z:Ids):ACode:=(Oz [i 2 (.mov (k (Vi 0)))] (.seq (Oz [i 3 (.mov (t 0)),i 4 (.bin .geq (t 3) (k (.int .u64 4294967296)))] (.cond (t 4) (Oz [i 5 (.mov (t 0)),i 6 (.bin .shr (t 5) (k (.int .u64 32))),i 0 (.mov (t 6))] (.ops [i 2 (.mov (k (Vi 32)))])) .skip)) (.seq (Oz [i 7 (.mov (t 0)),i 8 (.bin .geq (t 7) (k (.int .u64 65536)))] (.cond (t 8) (Oz [i 9 (.mov (t 0)),i 10 (.bin .shr (t 9) (k (.int .u64 16))),i 0 (.mov (t 10))] (.ops [i 11 (.mov (t 2)),i 12 (.bin .add (t 11) (k (Vi 16))),i 2 (.mov (t 12))])) .skip)) (.seq (Oz [i 13 (.mov (t 0)),i 14 (.bin .geq (t 13) (k (.int .u64 256)))] (.cond (t 14) (Oz [i 15 (.mov (t 0)),i 16 (.bin .shr (t 15) (k (.int .u64 8))),i 0 (.mov (t 16))] (.ops [i 17 (.mov (t 2)),i 18 (.bin .add (t 17) (k (Vi 8))),i 2 (.mov (t 18))])) .skip)) (Oz [i 19 (.mov (t 2)),i 20 (.mov (t 0)),i 21 (.conv .u8 (t 20)),i 22 (.idxStr (k (.string ⟨#[0,1,2,2,3,3,3,3,4,4,4,4,4,4,4,4,5,5,5,5,5,5,5,5,5,5,5,5,5,5,5,5,6,6,6,6,6,6,6,6,6,6,6,6,6,6,6,6,6,6,6,6,6,6,6,6,6,6,6,6,6,6,6,6,7,7,7,7,7,7,7,7,7,7,7,7,7,7,7,7,7,7,7,7,7,7,7,7,7,7,7,7,7,7,7,7,7,7,7,7,7,7,7,7,7,7,7,7,7,7,7,7,7,7,7,7,7,7,7,7,7,7,7,7,7,7,7,7,8,8,8,8,8,8,8,8,8,8,8,8,8,8,8,8,8,8,8,8,8,8,8,8,8,8,8,8,8,8,8,8,8,8,8,8,8,8,8,8,8,8,8,8,8,8,8,8,8,8,8,8,8,8,8,8,8,8,8,8,8,8,8,8,8,8,8,8,8,8,8,8,8,8,8,8,8,8,8,8,8,8,8,8,8,8,8,8,8,8,8,8,8,8,8,8,8,8,8,8,8,8,8,8,8,8,8,8,8,8,8,8,8,8,8,8,8,8,8,8,8,8,8,8,8,8,8,8]⟩)) (t 21)),i 23 (.conv .i64 (t 22)),Bt 24 .add 19 23,i 2 (.mov (t 24))] .ret)))))
def aLEN64 (z:Ids):AFunc:=⟨25,[(.tmp 2)],Nfa z⟩
theorem No2 {z:Ids}:(aLEN64 z).ntmps=25:=id rfl
theorem Nn5 {z:Ids}:(aLEN64 z).results=[(.tmp 2)]:=rfl
theorem Nqi {z:Ids}:(aLEN64 z).body=Nfa z:=rfl
def N7o (z:Ids):ACode:=(Oz [i 2 (.mov (k (.int .u64 0)))] (Oz [i 3 (.mov (t 0)),i 4 (.conv .u64 (t 3)),i 5 (.call .any (.func z.LEN) [(t 4)]),i 6 (.bin .shl (k (.int .u64 1)) (t 5)),i 2 (.mov (t 6))] .ret))
def aNPT (z:Ids):AFunc:=⟨7,[(.tmp 2)],N7o z⟩
theorem Oci {z:Ids}:(aNPT z).ntmps=7:=id rfl
theorem Ob6 {z:Ids}:(aNPT z).results=[(.tmp 2)]:=rfl
theorem Odq {z:Ids}:(aNPT z).body=N7o z:=rfl
def N7k (z:Ids):ACode:=(Oz [i 2 (.mov (k (.int .u64 0)))] (Ds 0 [i 3 (.mov (t 0)),i 4 (.nilCheck (t 3)),i 5 (.load1 (t 4)),i 6 (.mov (t 0)),i 7 (.nilCheck (t 6)),i 8 (.load1 (t 7)),i 9 (.bin .shl (t 8) (k (.int .u64 13))),Bt 10 .xor 5 9,i 11 (.nilCheck (t 3)),⟨none,none,(.store 1 (t 11) (t 10)),none,[]⟩] (Ds 0 [i 12 (.mov (t 0)),i 13 (.nilCheck (t 12)),i 14 (.load1 (t 13)),i 15 (.mov (t 0)),i 16 (.nilCheck (t 15)),i 17 (.load1 (t 16)),i 18 (.bin .shr (t 17) (k (.int .u64 7))),Bt 19 .xor 14 18,i 20 (.nilCheck (t 12)),⟨none,none,(.store 1 (t 20) (t 19)),none,[]⟩] (Ds 0 [i 21 (.mov (t 0)),i 22 (.nilCheck (t 21)),i 23 (.load1 (t 22)),i 24 (.mov (t 0)),i 25 (.nilCheck (t 24)),i 26 (.load1 (t 25)),i 27 (.bin .shl (t 26) (k (.int .u64 17))),Bt 28 .xor 23 27,i 29 (.nilCheck (t 21)),⟨none,none,(.store 1 (t 29) (t 28)),none,[]⟩] (Oz [i 30 (.mov (t 0)),i 31 (.nilCheck (t 30)),i 32 (.load1 (t 31)),i 2 (.mov (t 32))] .ret)))))
def aXOR (z:Ids):AFunc:=⟨33,[(.tmp 2)],N7k z⟩
theorem Och {z:Ids}:(aXOR z).ntmps=33:=id rfl
theorem Ob5 {z:Ids}:(aXOR z).results=[(.tmp 2)]:=rfl
theorem Odm {z:Ids}:(aXOR z).body=N7k z:=rfl
def N1i (z:Ids):ACode:=(Oz [i 8 (.mov (k (Vi 0)))] (Oz [i 9 (.mov (t 0)),i 10 (.mov (t 1)),i 11 (.bin .sub (t 10) (k (Vi 1))),i 12 (.mov (t 1)),i 13 (.mov (t 1)),i 14 (.bin .add (t 13) (k (Vi 1))),i 15 (.mov (t 2)),i 16 (.mov (t 3)),i 17 (.call .any (.func z.MED) [(t 9),(t 11),(t 12),(t 14),(t 15),(t 16)]),i 8 (.mov (t 17))] .ret))
def aMEDA (z:Ids):AFunc:=⟨18,[(.tmp 8)],N1i z⟩
theorem N9p {z:Ids}:(aMEDA z).ntmps=18:=id rfl
theorem N8y {z:Ids}:(aMEDA z).results=[(.tmp 8)]:=rfl
theorem Oab {z:Ids}:(aMEDA z).body=N1i z:=rfl
def N7p (z:Ids):ACode:=(Oz [i 12 (.mov (k (Vi 0)))] (Oz [i 14 (.mov (t 0)),i 15 (.mov (t 1)),i 16 (.mov (t 2)),i 17 (.mov (t 4)),i 18 (.mov (t 5)),i 19 (.call .any (.func z.ORD) [(t 14),(t 15),(t 16),(t 17),(t 18)]),i 13 (.mov (t 19)),Et 20 0 13,Et 21 1 13,i 1 (.mov (t 20)),i 2 (.mov (t 21))] (Oz [i 23 (.mov (t 0)),i 24 (.mov (t 2)),i 25 (.mov (t 3)),i 26 (.mov (t 4)),i 27 (.mov (t 5)),i 28 (.call .any (.func z.ORD) [(t 23),(t 24),(t 25),(t 26),(t 27)]),i 22 (.mov (t 28)),Et 29 0 22,Et 30 1 22,i 2 (.mov (t 29)),i 3 (.mov (t 30))] (Oz [i 32 (.mov (t 0)),i 33 (.mov (t 1)),i 34 (.mov (t 2)),i 35 (.mov (t 4)),i 36 (.mov (t 5)),i 37 (.call .any (.func z.ORD) [(t 32),(t 33),(t 34),(t 35),(t 36)]),i 31 (.mov (t 37)),Et 38 0 31,Et 39 1 31,i 1 (.mov (t 38)),i 2 (.mov (t 39))] (Oz [i 40 (.mov (t 2)),i 12 (.mov (t 40))] .ret)))))
def aMED (z:Ids):AFunc:=⟨41,[(.tmp 12)],N7p z⟩
theorem Ocj {z:Ids}:(aMED z).ntmps=41:=id rfl
theorem Ob7 {z:Ids}:(aMED z).results=[(.tmp 12)]:=rfl
theorem Odr {z:Ids}:(aMED z).body=N7p z:=rfl
def N4c (z:Ids):ACode:=(Oz [i 10 (.mov (k (Vi 0))),i 11 (.mov (k (Vi 0)))] (.seq (Ds 0 [i 12 (.mov (t 4)),i 13 (.mov (t 0)),i 14 (.mov (t 2)),i 15 (.idxAddrS z.e (t 13) (t 14)),i 16 (.loadN z.e (t 15)),i 17 (.mov (t 0)),i 18 (.mov (t 1)),i 19 (.idxAddrS z.e (t 17) (t 18)),i 20 (.loadN z.e (t 19)),i 21 (.call .pure (t 12) [(t 16),(t 20)]),i 22 (.bin .lss (t 21) (k (Vi 0)))] (.cond (t 22) (Oz [i 23 (.mov (t 3)),i 24 (.nilCheck (t 23)),i 25 (.load1 (t 24)),i 26 (.bin .add (t 25) (k (Vi 1))),i 27 (.nilCheck (t 23)),⟨none,none,(.store 1 (t 27) (t 26)),none,[]⟩] (Oz [i 28 (.mov (t 2)),i 29 (.mov (t 1)),i 10 (.mov (t 28)),i 11 (.mov (t 29))] .ret)) .skip)) (Oz [i 30 (.mov (t 1)),i 31 (.mov (t 2)),i 10 (.mov (t 30)),i 11 (.mov (t 31))] .ret)))
def aORD (z:Ids):AFunc:=⟨32,[(.tmp 10),(.tmp 11)],N4c z⟩
theorem N9o {z:Ids}:(aORD z).ntmps=32:=id rfl
theorem N8x {z:Ids}:(aORD z).results=[(.tmp 10),(.tmp 11)]:=rfl
theorem Oaa {z:Ids}:(aORD z).body=N4c z:=rfl
def Knows (E:Env) (g:FuncId) (af:AFunc) (p:Bool):Prop:=E.tr g=some af/\E.pure g=p/\∀as H,E.orc g as=none/\E.eff g as H=none
class SortAt (E:Env) (z:Ids):Prop where
 dt:E.dt=true
 INS:Knows E z.INS (aINS z) false
 SIFT:Knows E z.SIFT (aSIFT z) false
 HEAP:Knows E z.HEAP (aHEAP z) false
 BRK:Knows E z.BRK (aBRK z) false
 CHO:Knows E z.CHO (aCHO z) false
 REV:Knows E z.REV (aREV z) false
 PIS:Knows E z.PIS (aPIS z) false
 PEQ:Knows E z.PEQ (aPEQ z) false
 PART:Knows E z.PART (aPART z) false
 PDQ:Knows E z.PDQ (aPDQ z) false
 SORT:Knows E z.SORT (aSORT z) false
 LEN:Knows E z.LEN (aLEN z) true
 LEN64:Knows E z.LEN64 (aLEN64 z) true
 NPT:Knows E z.NPT (aNPT z) true
 XOR:Knows E z.XOR (aXOR z) false
 MEDA:Knows E z.MEDA (aMEDA z) false
 MED:Knows E z.MED (aMED z) false
 ORD:Knows E z.ORD (aORD z) false
class EncOk {α:Type} (enc:α->List Value) (z:outParam Ids):Prop where
 len:∀x,(enc x).length=z.e
section
variable {E:Env} {mp:Bool} {lim:Nat} {g:FuncId} {as:List Value} {v:Value} {af:AFunc} {H H':NE} {Q:Value->NE->Prop}
theorem runs (h:Knows E g af false) (hr:PV E af lim [.code af.body] (NB as) H fun v' H1=>v'=v/\H1=H'):NL E false lim g as H Q=Q v H':=by
 refine NL.eq ?_
 rw [Sn (E:=E) (h.2.2 _ _) h.1 h.2.1 rfl]
 exact hr
theorem pcG (h:Knows E g af true) (a:flat 4 v=true) (hr:PV E af H.length [.code af.body] (NB as) (H++[]) fun v' _=>v'=v):NL E mp lim g as H Q=Q v H:=
 Mm (E:=E) (h.2.2 _ _) h.1 h.2.1 a (NM hr)
theorem oneG (hd:E.dt=true) (h:NL E mp lim g as H Q):∃n v H',Rw E n mp lim (.inl g) as H=some [(v,H')]/\Q v H':=by
 obtain ⟨n,L,h1,h2,a⟩:=h
 obtain ⟨⟨v,H'⟩,rfl⟩:=h2 hd
 exact ⟨n,v,H',h1,a _ (Nj.mpr rfl)⟩
end
end Go.AM.Srt


namespace Go.Proofs.YtkppjkkkdpcgiaaGreat.Fn
open Go.AM Go.AM.Sym
abbrev p (d n:Nat) (o:AOp):AIns:=⟨some d,some (n,true),o,none,[]⟩
abbrev q (d n:Nat) (o:AOp):AIns:=⟨some d,some (n,false),o,none,[]⟩
abbrev s (o:AOp):AIns:=⟨none,none,o,none,[]⟩
def pure:List FuncId:=[8,12,13,18,30,31,33,34,35,55,60,61,63,66,67,68,69,92,94,96,100,104,108,110,120,121,124,125,127,128,130,131,135,136,145,154,155,156,170,171,173]
def pf:FuncId->Bool:=fun f=>pure.contains f
def zE:Srt.Ids:=⟨7,154,146,172,147,148,149,150,151,152,153,129,95,130,155,173,174,175,176,188⟩
def zM:Srt.Ids:=⟨3,154,180,190,181,182,183,184,185,186,187,168,142,130,155,173,174,191,192,193⟩
def zL:Srt.Ids:=⟨8,154,157,177,158,159,160,161,162,163,164,133,102,130,155,173,174,178,179,189⟩
def N9v:ACode:=(Oz [Bt 170 .lss 169 168] (.seq (Ce 170 2) (.seq (.block 3 (Oz [mT 171 169,xT 172 5 167 169,Gt 173 5 172,i 21 (.alloc [(.int .u8 0),(Vi 0),(Vi 0),(Vi 0),(Vi 0)]),mT 20 171,St 5 21 173] (Oz [Gt 174 5 21,mT 175 20,Bc 176 .add 175 2,i 177 (.build [(.int .u8 0),(Vi 0),(Vi 0),(Vi 0),(Vi 0)] [(0,(1,(k (.int .u8 5)))),(1,(1,(zT 1))),(3,(1,(t 176)))]),i 178 (.eqv true (.agg [(.int .u8),(.int .i64),(.int .i64),(.int .i64),(.int .i64)]) (t 174) (t 177))] (.cond (t 178) (Oz [i 6 (.mov (k (.bool false)))] .ret) .skip)))) (.ops [Bc 179 .add 169 1,mT 169 179]))))
def N3m:ACode:=(Oz [Bt 34 .lss 33 32] (.seq (Ce 34 0) (.seq (.block 1 (Oz [mT 35 33,xT 36 1 31 33,lT 37 36,mT 10 35,mT 11 37] (Oz [mT 38 10,Bc 39 .add 38 1,mT 40 10,Bc 41 .add 40 1,mT 42 10,Bc 43 .add 42 2,mT 44 11,i 45 (.conv .i64 (t 44)),Bc 46 .mul 45 5,mT 47 1,i 48 (.conv .i64 (t 47)),i 49 (.bin .add (zT 1) (t 48)),i 50 (.build [(Vi 0),(Vi 0),(Vi 0),(Vi 0),(Vi 0),(Vi 0),(Vi 0),(.int .u8 0)] [(0,(1,(t 39))),(1,(1,(t 41))),(2,(1,(t 43))),(3,(1,(t 46))),(4,(1,(t 49))),(6,(1,(zT 1))),(7,(1,(k (.int .u8 127))))]),i 12 (.alloc [(Vi 0),(Vi 0),(Vi 0),(Vi 0),(Vi 0),(Vi 0),(Vi 0),(.int .u8 0)]),St 8 12 50] (Ds 4 [fT 51 0 7,Kt 52 (.load1 (t 51)) [0,1,2,3],mT 53 10,Bc 54 .add 53 2,Wt 55 (.buildSlice 1 [(Vi 0)] [(0,(1,(t 54)))]) 0,⟨(some 56),none,(.appendL 1 8 false (t 52) (t 55)),(some 1),[2,3]⟩,fT 57 1 7,Kt 58 (.load1 (t 57)) [0,1,2,3],Kt 59 (.loadN 8 (t 12)) [0,1,2,3],Wt 60 (.buildSlice 1 [(Vi 0),(Vi 0),(Vi 0),(Vi 0),(Vi 0),(Vi 0),(Vi 0),(.int .u8 0)] [(0,(8,(t 59)))]) 2,Wt 61 (.append 8 64 false (t 58) (t 60)) 3,fT 62 0 7,St 1 62 56,fT 63 1 7,St 1 63 61] (Oz [mT 64 8,Bc 65 .quo 64 1440,mT 13 65] (.seq (Oz [mT 66 13,Bc 67 .mul 66 1440,fT 68 3 12,lT 69 68,Bt 70 .add 67 69,mT 71 8,Bt 72 .lss 70 71] (.cond (t 72) (.ops [mT 73 13,Bc 74 .add 73 1,mT 13 74]) .skip)) (Oz [mT 75 13,Bc 76 .mul 75 1440,fT 77 3 12,lT 78 77,Bt 79 .add 76 78,fT 80 4 12,lT 81 80,Bt 82 .add 79 81,mT 8 82] (.ops [mT 83 9,mT 84 10,Bc 85 .add 84 2,mT 86 8,Ct 87 31 [(t 85),(t 86),(k (.int .u8 1))],i 88 (.buildSlice 1 [(Vi 0),(Vi 0),(Vi 0),(.int .u8 0),(Vi 0),(Vi 0)] [(0,(6,(t 87)))]),i 89 (.append 6 48 false (t 83) (t 88)),mT 9 89])))))))) (.ops [Bc 90 .add 33 1,mT 33 90]))))
def c8:ACode:=(Oz [i 6 (.mov (k (.bool false)))] (Oz [i 22 (.buildSlice 1 [(Vi 0)] [(0,(1,(zT 1)))]),i 23 (.build [Vz,Vz] [(0,(1,(t 22)))]),i 7 (.alloc [Vz,Vz]),St 2 7 23] (Oz [Zm 8 14400] (Oz [mT 24 8,Ct 25 31 [(zT 1),(t 24),(k (.int .u8 1))],i 26 (.buildSlice 1 [(Vi 0),(Vi 0),(Vi 0),(.int .u8 0),(Vi 0),(Vi 0)] [(0,(6,(t 25)))]),mT 9 26] (.seq (Oz [mT 27 0,mT 28 0,Nt 29 28,i 30 (.minmax false [(t 29),(zT 5)]),i 31 (.sliceS 1 (t 27) none (some (t 30)) none),Nt 32 31,Zm 33 0] (Bl 0 N3m)) (Oz [fT 91 0 7,lT 92 91,Nt 93 92,mT 14 93] (Oz [mT 94 14,mT 95 8,Bc 96 .add 95 60,Ct 97 31 [(t 94),(t 96),(k (.int .u8 4))],i 15 (.alloc [(Vi 0),(Vi 0),(Vi 0),(.int .u8 0),(Vi 0),(Vi 0)]),St 6 15 97] (Ds 5 [Wt 100 (.buildSlice 0 [] []) 0,mT 101 9,⟨(some 102),none,(.append0 6 48 false (t 100) (t 101)),(some 1),[2,3,4]⟩,Kt 103 (.loadN 6 (t 15)) [0,1,2,3,4],Wt 104 (.buildSlice 1 [(Vi 0),(Vi 0),(Vi 0),(.int .u8 0),(Vi 0),(Vi 0)] [(0,(6,(t 103)))]) 2,⟨(some 105),none,(.appendL 6 48 false (t 102) (t 104)),(some 3),[4]⟩,Kt 99 (.loadN 2 (t 7)) [0,1,2,3,4],mT 106 2,i 107 (.conv .i64 (t 106)),i 108 (.bin .mul (zT 2) (t 107)),Kt 109 (.call .any (.func 17) [(t 99),(t 105),(zT 7),(t 108)]) [4],mT 98 109,Et 110 0 98,Et 111 1 98,Wt 16 (.alloc [Vz,Vz,Vz,(Vi 0),Vz]) 4,St 5 16 110,mT 17 111] (.seq (Oz [mT 112 17,Bc 113 .neq 112 0,mT 114 113,Qf 115 114 4 16,Ql 116 114 115,q 117 114 (.lenSlice (t 116)),q 118 114 (.bin .neq (t 117) (zT 0)),Ot 119 114 118,mT 120 119,Qf 121 120 1 16,Qf 122 120 2 121,Ql 123 120 122,q 124 120 (.bin .neq (t 123) (zT 0)),Ot 125 120 124,mT 126 125,Qf 127 126 1 16,Qf 128 126 0 127,Ql 129 126 128,q 130 126 (.lenSlice (t 129)),Qm 131 126 14,q 132 126 (.bin .add (t 131) (zT 1)),Qb 133 126 .neq 130 132,Ot 134 126 133] (.cond (t 134) (Oz [i 6 (.mov (k (.bool false)))] .ret) .skip)) (.seq (Oz [mT 135 14,Bc 136 .eql 135 1] (.cond (t 136) (Oz [Ct 137 18 [],mT 6 137] .ret) .skip)) (Ds 2 [Kt 139 (.loadN 2 (t 7)) [0,1],mT 140 9,i 141 (.idxAddrS 6 (t 140) (zT 0)),Kt 142 (.loadN 6 (t 141)) [0,1],mT 143 9,mT 144 14,Bc 145 .sub 144 1,xT 146 6 143 145,Kt 147 (.loadN 6 (t 146)) [0,1],Kt 148 (.loadN 6 (t 15)) [0,1],Wt 149 (.buildSlice 3 [(Vi 0),(Vi 0),(Vi 0),(.int .u8 0),(Vi 0),(Vi 0),(Vi 0),(Vi 0),(Vi 0),(.int .u8 0),(Vi 0),(Vi 0),(Vi 0),(Vi 0),(Vi 0),(.int .u8 0),(Vi 0),(Vi 0)] [(0,(6,(t 142))),(6,(6,(t 147))),(12,(6,(t 148)))]) 0,mT 150 2,i 151 (.conv .i64 (t 150)),i 152 (.bin .mul (zT 2) (t 151)),Kt 153 (.call .any (.func 17) [(t 139),(t 149),(zT 7),(t 152)]) [1],mT 138 153,Et 154 0 138,Et 155 1 138,Wt 18 (.alloc [Vz,Vz,Vz,(Vi 0),Vz]) 1,St 5 18 154,mT 19 155] (.seq (Oz [mT 156 19,Bc 157 .neq 156 0,mT 158 157,Qf 159 158 4 18,Ql 160 158 159,q 161 158 (.lenSlice (t 160)),Qm 162 158 14,q 163 158 (.bin .sub (t 162) (zT 2)),Qb 164 158 .neq 161 163,Ot 165 158 164] (.cond (t 165) (Oz [i 6 (.mov (k (.bool false)))] .ret) .skip)) (.seq (Oz [fT 166 4 18,lT 167 166,Nt 168 167,Zm 169 0] (Bl 2 N9v)) (Oz [Ct 180 18 [],mT 6 180] .ret))))))))))))))
def a8:AFunc:=⟨181,[(.tmp 6)],c8⟩
theorem n8:a8.ntmps=181:=id rfl
theorem r8:a8.results=[(.tmp 6)]:=rfl
theorem b8:a8.body=c8:=rfl
def Nzx:ACode:=(Oz [Bt 52 .lss 51 50] (.seq (Ce 52 2) (.seq (.block 3 (Oz [xT 53 8 49 51,Gt 54 8 53,i 8 (.alloc [(Vi 0),(Vi 0),(Vi 0),(Vi 0),(Vi 0),(Vi 0),(Vi 0),(.int .u8 0)]),St 8 8 54] (.seq (Oz [Gt 55 8 8,Ct 56 34 [(t 55)],Ut 57 56,mT 58 57,Qm 59 58 6,Qf 60 58 0 8,Ql 61 58 60,q 62 58 (.lookup (.int .i64) (.bool false) false (t 59) (t 61)),Ot 63 58 62,mT 64 63,Qm 65 64 3,Qf 66 64 1 8,Ql 67 64 66,q 68 64 (.lookup (.int .i64) (.bool false) false (t 65) (t 67)),q 69 64 (.un .not (t 68)),Ot 70 64 69,mT 71 70,Qm 72 71 3,Qf 73 71 2 8,Ql 74 71 73,q 75 71 (.lookup (.int .i64) (.bool false) false (t 72) (t 74)),q 76 71 (.un .not (t 75)),Ot 77 71 76] (.cond (t 77) (Oz [Zm 2 321] .ret) .skip)) (.ops [mT 78 6,fT 79 0 8,lT 80 79,s (.mapUpdate (.int .i64) (t 78) (t 80) (k (.bool true)))])))) (.ops [Bc 81 .add 51 1,mT 51 81]))))
def N54:ACode:=(Oz [Bt 27 .lss 26 25] (.seq (Ce 27 0) (.seq (.block 1 (Oz [xT 28 1 24 26,lT 29 28,mT 5 29] (.seq (Oz [mT 30 5,Bc 31 .lss 30 1,mT 32 31,Qm 33 32 5,q 34 32 (.bin .gtr (t 33) (zT 999999)),Ot 35 32 34,mT 36 35,Qm 37 36 3,Qm 38 36 5,q 39 36 (.lookup (.int .i64) (.bool false) false (t 37) (t 38)),Ot 40 36 39] (.cond (t 40) (Oz [Zm 2 320] .ret) .skip)) (.ops [mT 41 3,mT 42 5,s (.mapUpdate (.int .i64) (t 41) (t 42) (k (.bool true)))])))) (.ops [Bc 43 .add 26 1,mT 26 43]))))
def c12:ACode:=(Oz [i 1 (.box (t 0)),Zm 2 0] (.seq (Oz [fT 9 0 1,lT 10 9,Nt 11 10,Bc 12 .gtr 11 50,mT 13 12,Qf 14 13 1 1,Ql 15 13 14,q 16 13 (.lenSlice (t 15)),q 17 13 (.bin .gtr (t 16) (zT 200)),Ot 18 13 17] (.cond (t 18) (Oz [Zm 2 5] .ret) .skip)) (Oz [fT 19 0 1,lT 20 19,Nt 21 20,i 22 (.makeMap (some (t 21))),mT 3 22] (.seq (Oz [fT 23 0 1,lT 24 23,Nt 25 24,Zm 26 0] (Bl 0 N54)) (Oz [fT 44 1 1,lT 45 44,Nt 46 45,i 47 (.makeMap (some (t 46))),mT 6 47] (.seq (Oz [fT 48 1 1,lT 49 48,Nt 50 49,Zm 51 0] (Bl 2 Nzx)) (Oz [Zm 2 0] .ret)))))))
def a12:AFunc:=⟨82,[(.tmp 2)],c12⟩
theorem n12:a12.ntmps=82:=id rfl
theorem r12:a12.results=[(.tmp 2)]:=rfl
theorem b12:a12.body=c12:=rfl
def c13:ACode:=(Oz [i 2 (.mov (k (.string ⟨#[]⟩)))] (Oz [Ct 4 35 [],i 3 (.alloc [(.string ⟨#[]⟩),(.string ⟨#[]⟩),(.string ⟨#[]⟩),(.string ⟨#[]⟩),(.string ⟨#[]⟩),(.string ⟨#[]⟩),(.string ⟨#[]⟩),(.string ⟨#[]⟩)]),St 8 3 4] (.seq (Oz [mT 5 0,i 6 (.conv .i64 (t 5)),Bc 7 .geq 6 8] (.cond (t 7) (Oz [i 2 (.mov (k (.string ⟨#[]⟩)))] .ret) .skip)) (Oz [mT 8 0,i 9 (.idxAddrA 8 1 (t 3) (t 8)),lT 10 9,mT 2 10] .ret))))
def a13:AFunc:=⟨11,[(.tmp 2)],c13⟩
theorem n13:a13.ntmps=11:=id rfl
theorem r13:a13.results=[(.tmp 2)]:=rfl
theorem b13:a13.body=c13:=rfl
def c17:ACode:=(Oz [i 4 (.box (t 0)),i 8 (.alloc [Vz,Vz,Vz,(Vi 0),Vz]),Zm 9 0] (.seq (Oz [Gt 15 2 4,Ct 16 12 [(t 15)],mT 10 16] (Oz [mT 17 10,Bc 18 .neq 17 0] (.cond (t 18) (Oz [i 19 (.build [Vz,Vz,Vz,(Vi 0),Vz] []),mT 20 10,St 5 8 19,mT 9 20] .ret) .skip))) (Oz [mT 22 1,Ct 23 36 [(t 22)],mT 21 23,Et 24 0 21,Et 25 1 21,mT 11 24,mT 12 25] (.seq (Oz [mT 26 12,Bc 27 .neq 26 0,mT 28 27,Qm 29 28 2,q 30 28 (.bin .lss (t 29) (zT 1)),Ot 31 28 30,mT 32 31,Qm 33 32 2,q 34 32 (.bin .gtr (t 33) (zT 999999)),Ot 35 32 34,mT 36 35,Qm 37 36 3,q 38 36 (.bin .lss (t 37) (zT 0)),Ot 39 36 38,mT 40 39,Qm 41 40 3,q 42 40 (.bin .gtr (t 41) (zT 1051898399)),Ot 43 40 42] (.cond (t 43) (Oz [i 44 (.build [Vz,Vz,Vz,(Vi 0),Vz] []),St 5 8 44,Zm 9 2] .ret) .skip)) (Oz [mT 45 11,mT 46 2,Ct 47 28 [(t 45),(t 46)],i 48 (.build [Vz,Vz,Vz,(Vi 0),Vz] [(0,(1,(t 47)))]),i 13 (.alloc [Vz,Vz,Vz,(Vi 0),Vz]),St 5 13 48] (.seq (Oz [fT 49 0 13,lT 50 49,Nt 51 50,Bc 52 .eql 51 0] (.cond (t 52) (Oz [i 53 (.build [Vz,Vz,Vz,(Vi 0),Vz] []),St 5 8 53,Zm 9 6] .ret) .skip)) (.seq (Oz [Gt 55 2 4,fT 56 0 13,lT 57 56,Ct 58 37 [(t 55),(t 57)],mT 54 58,Et 59 0 54,Et 60 1 54,fT 61 1 13,St 3 61 59,mT 12 60] (Oz [mT 62 12,Bc 63 .neq 62 0] (.cond (t 63) (Oz [i 64 (.build [Vz,Vz,Vz,(Vi 0),Vz] []),mT 65 12,St 5 8 64,mT 9 65] .ret) .skip))) (Oz [mT 67 1,Ct 68 27 [(t 67)],mT 66 68,Et 69 0 66,Et 70 1 66,mT 14 69,mT 12 70] (.seq (Oz [mT 71 12,Bc 72 .neq 71 0] (.cond (t 72) (Oz [i 73 (.build [Vz,Vz,Vz,(Vi 0),Vz] []),mT 74 12,St 5 8 73,mT 9 74] .ret) .skip)) (Ds 0 [i 75 (.loadR (some 5) (t 13)),i 76 (.loadR (some 2) (t 4)),mT 77 14,mT 78 2,mT 80 3,i 79 (.call .recs (.func 28) [(t 77),(t 78)]),Ct 81 38 [(t 75),(t 76),(t 79),(t 80)],fT 82 4 13,St 1 82 81] (Oz [Gt 83 5 13,St 5 8 83,Zm 9 0] .ret)))))))))))
def a17:AFunc:=⟨84,[(.cellN 5 8),(.tmp 9)],c17⟩
theorem n17:a17.ntmps=84:=id rfl
theorem r17:a17.results=[(.cellN 5 8),(.tmp 9)]:=rfl
theorem b17:a17.body=c17:=rfl
def c18:ACode:=(Oz [i 0 (.mov (k (.bool false)))] (Oz [Ct 14 31 [(zT 1),(zT 500),(k (.int .u8 2))],Ct 15 31 [(zT 3),(zT 800),(k (.int .u8 2))],Ct 16 31 [(zT 1),(zT 501),(k (.int .u8 2))],i 17 (.buildSlice 3 [(Vi 0),(Vi 0),(Vi 0),(.int .u8 0),(Vi 0),(Vi 0),(Vi 0),(Vi 0),(Vi 0),(.int .u8 0),(Vi 0),(Vi 0),(Vi 0),(Vi 0),(Vi 0),(.int .u8 0),(Vi 0),(Vi 0)] [(0,(6,(t 14))),(6,(6,(t 15))),(12,(6,(t 16)))]),mT 1 17] (Oz [i 18 (.build [(.int .u8 0),(Vi 0),(Vi 0),(Vi 0),(Vi 0)] [(0,(1,(k (.int .u8 5)))),(1,(1,(zT 1))),(3,(1,(zT 2)))]),i 2 (.alloc [(.int .u8 0),(Vi 0),(Vi 0),(Vi 0),(Vi 0)]),St 5 2 18] (Oz [i 19 (.build [(.int .u8 0),(Vi 0),(Vi 0),(Vi 0),(Vi 0)] [(0,(1,(k (.int .u8 6)))),(3,(1,(zT 1))),(4,(1,(zT 1)))]),i 3 (.alloc [(.int .u8 0),(Vi 0),(Vi 0),(Vi 0),(Vi 0)]),St 5 3 19] (Ds 1 [Kt 21 (.call .any (.func 39) []) [0],mT 22 1,i 23 (.sliceS 6 (t 22) none (some (zT 2)) none),Kt 24 (.call .any (.func 17) [(t 21),(t 23),(zT 7),(zT 900)]) [0],mT 20 24,Et 25 0 20,Et 26 1 20,Wt 4 (.alloc [Vz,Vz,Vz,(Vi 0),Vz]) 0,St 5 4 25,mT 5 26] (Oz [Ct 28 39 [],mT 29 1,Ct 30 17 [(t 28),(t 29),(zT 7),(zT 900)],mT 27 30,Et 31 0 27,Et 32 1 27,i 6 (.alloc [Vz,Vz,Vz,(Vi 0),Vz]),St 5 6 31,mT 7 32] (Ds 1 [Kt 34 (.call .any (.func 39) []) [0],mT 35 1,i 36 (.sliceS 6 (t 35) none (some (zT 2)) none),Kt 37 (.call .any (.func 17) [(t 34),(t 36),(zT 7),(zT 28800)]) [0],mT 33 37,Et 38 0 33,Et 39 1 33,Wt 8 (.alloc [Vz,Vz,Vz,(Vi 0),Vz]) 0,St 5 8 38,mT 9 39] (Oz [Ct 41 39 [],Ct 42 31 [(zT 1),(zT 500),(k (.int .u8 2))],Ct 43 31 [(zT 1),(zT 505),(k (.int .u8 4))],Ct 44 31 [(zT 1),(zT 600),(k (.int .u8 2))],i 45 (.buildSlice 3 [(Vi 0),(Vi 0),(Vi 0),(.int .u8 0),(Vi 0),(Vi 0),(Vi 0),(Vi 0),(Vi 0),(.int .u8 0),(Vi 0),(Vi 0),(Vi 0),(Vi 0),(Vi 0),(.int .u8 0),(Vi 0),(Vi 0)] [(0,(6,(t 42))),(6,(6,(t 43))),(12,(6,(t 44)))]),Ct 46 17 [(t 41),(t 45),(zT 7),(zT 900)],mT 40 46,Et 47 0 40,Et 48 1 40,i 10 (.alloc [Vz,Vz,Vz,(Vi 0),Vz]),St 5 10 47,mT 11 48] (Oz [Ct 50 39 [],mT 51 1,Ct 52 17 [(t 50),(t 51),(zT 8),(zT 900)],mT 49 52,Et 53 0 49,Et 54 1 49,i 12 (.alloc [Vz,Vz,Vz,(Vi 0),Vz]),St 5 12 53,mT 13 54] (Oz [mT 55 5,mT 56 7,Bt 57 .add 55 56,mT 58 9,Bt 59 .add 57 58,mT 60 11,Bt 61 .add 59 60,Bc 62 .eql 61 0,mT 63 62,Pm 64 63 13,p 65 63 (.bin .eql (t 64) (zT 6)),At 66 63 65,mT 67 66,Pf 68 67 4 4,Pl 69 67 68,p 70 67 (.loadN 5 (t 2)),p 71 67 (.buildSlice 1 [(.int .u8 0),(Vi 0),(Vi 0),(Vi 0),(Vi 0)] [(0,(5,(t 70)))]),p 72 67 (.call .any (.func 30) [(t 69),(t 71)]),At 73 67 72,mT 74 73,Pf 75 74 4 6,Pl 76 74 75,p 77 74 (.loadN 5 (t 3)),p 78 74 (.loadN 5 (t 2)),p 79 74 (.buildSlice 2 [(.int .u8 0),(Vi 0),(Vi 0),(Vi 0),(Vi 0),(.int .u8 0),(Vi 0),(Vi 0),(Vi 0),(Vi 0)] [(0,(5,(t 77))),(5,(5,(t 78)))]),p 80 74 (.call .any (.func 30) [(t 76),(t 79)]),At 81 74 80,mT 82 81,Pf 83 82 4 8,Pl 84 82 83,p 85 82 (.loadN 5 (t 2)),p 86 82 (.build [(.int .u8 0),(Vi 0),(Vi 0),(Vi 0),(Vi 0)] [(0,(1,(k (.int .u8 7)))),(1,(1,(zT 1))),(3,(1,(zT 3))),(4,(1,(zT 28000)))]),p 87 82 (.buildSlice 2 [(.int .u8 0),(Vi 0),(Vi 0),(Vi 0),(Vi 0),(.int .u8 0),(Vi 0),(Vi 0),(Vi 0),(Vi 0)] [(0,(5,(t 85))),(5,(5,(t 86)))]),p 88 82 (.call .any (.func 30) [(t 84),(t 87)]),At 89 82 88,mT 90 89,Pf 91 90 4 10,Pl 92 90 91,p 93 90 (.build [(.int .u8 0),(Vi 0),(Vi 0),(Vi 0),(Vi 0)] [(0,(1,(k (.int .u8 1)))),(1,(1,(zT 2))),(3,(1,(zT 1)))]),p 94 90 (.buildSlice 1 [(.int .u8 0),(Vi 0),(Vi 0),(Vi 0),(Vi 0)] [(0,(5,(t 93)))]),p 95 90 (.call .any (.func 30) [(t 92),(t 94)]),At 96 90 95,mT 97 96,p 98 97 (.call .any (.func 13) [(k (.int .u8 1))]),p 99 97 (.bin .eql (t 98) (k (.string ⟨#[115,116,114,97,121]⟩))),At 100 97 99,mT 101 100,p 102 101 (.call .any (.func 13) [(k (.int .u8 0))]),p 103 101 (.bin .eql (t 102) (k (.string ⟨#[]⟩))),At 104 101 103,mT 105 104,p 106 105 (.call .any (.func 13) [(k (.int .u8 8))]),p 107 105 (.bin .eql (t 106) (k (.string ⟨#[]⟩))),At 108 105 107,mT 0 108] .ret))))))))))
def a18:AFunc:=⟨109,[(.tmp 0)],c18⟩
theorem n18:a18.ntmps=109:=id rfl
theorem r18:a18.results=[(.tmp 0)]:=rfl
theorem b18:a18.body=c18:=rfl
def c27:ACode:=(Oz [i 2 (.mov (k Vz)),Zm 3 0] (.seq (Oz [mT 6 0,Ct 7 55 [(t 6)],Ut 8 7] (.cond (t 8) (Oz [i 2 (.mov (k Vz)),Zm 3 2] .ret) .skip)) (Oz [mT 10 0,Ct 11 56 [(t 10)],mT 9 11,Et 12 0 9,Et 13 1 9,mT 4 12,mT 5 13] (Oz [mT 14 5,mT 2 14,Zm 3 0] .ret))))
def a27:AFunc:=⟨15,[(.tmp 2),(.tmp 3)],c27⟩
theorem n27:a27.ntmps=15:=id rfl
theorem r27:a27.results=[(.tmp 2),(.tmp 3)]:=rfl
theorem b27:a27.body=c27:=rfl
def N53:ACode:=(Oz [Bt 14 .lss 13 12] (.seq (Ce 14 0) (.seq (.block 1 (Oz [xT 15 7 11 13,Gt 16 7 15,i 7 (.alloc [(Vi 0),(Vi 0),(Vi 0),(.int .u8 0),(Vi 0),(Vi 0),(Vi 0)]),St 7 7 16] (Oz [mT 17 1,Bc 18 .eql 17 0,mT 19 18,Qf 20 19 0 7,Qf 21 19 0 20,Ql 22 19 21,Qm 23 19 1,Qb 24 19 .eql 22 23,Ot 25 19 24] (.cond (t 25) (.ops [mT 26 5,Gt 27 7 7,i 28 (.buildSlice 1 [(Vi 0),(Vi 0),(Vi 0),(.int .u8 0),(Vi 0),(Vi 0),(Vi 0)] [(0,(7,(t 27)))]),i 29 (.append 7 56 false (t 26) (t 28)),mT 5 29]) .skip)))) (.ops [Bc 30 .add 13 1,mT 13 30]))))
def c28:ACode:=(Oz [i 4 (.mov (k Vz))] (Oz [mT 8 0,Nt 9 8,i 10 (.makeSlice 7 56 [(Vi 0),(Vi 0),(Vi 0),(.int .u8 0),(Vi 0),(Vi 0),(Vi 0)] (zT 0) (t 9)),mT 5 10] (.seq (Oz [mT 11 0,Nt 12 11,Zm 13 0] (Bl 0 N53)) (Oz [mT 31 5,mT 4 31] .ret))))
def a28:AFunc:=⟨32,[(.tmp 4)],c28⟩
theorem n28:a28.ntmps=32:=id rfl
theorem r28:a28.results=[(.tmp 4)]:=rfl
theorem b28:a28.body=c28:=rfl
def N52:ACode:=(Oz [Bt 14 .lss 13 12] (.seq (Ce 14 0) (.seq (.block 1 (Oz [mT 15 13,mT 5 15] (Ds 0 [mT 16 0,mT 17 5,xT 18 5 16 17,Gt 19 5 18,mT 20 1,mT 21 5,xT 22 5 20 21,Gt 23 5 22,i 24 (.eqv true (.agg [(.int .u8),(.int .i64),(.int .i64),(.int .i64),(.int .i64)]) (t 19) (t 23))] (.cond (t 24) (Oz [i 4 (.mov (k (.bool false)))] .ret) .skip)))) (.ops [Bc 25 .add 13 1,mT 13 25]))))
def c30:ACode:=(Oz [i 4 (.mov (k (.bool false)))] (.seq (Oz [mT 6 0,Nt 7 6,mT 8 1,Nt 9 8,Bt 10 .neq 7 9] (.cond (t 10) (Oz [i 4 (.mov (k (.bool false)))] .ret) .skip)) (.seq (Oz [mT 11 0,Nt 12 11,Zm 13 0] (Bl 0 N52)) (Oz [i 4 (.mov (k (.bool true)))] .ret))))
def a30:AFunc:=⟨26,[(.tmp 4)],c30⟩
theorem n30:a30.ntmps=26:=id rfl
theorem r30:a30.results=[(.tmp 4)]:=rfl
theorem b30:a30.body=c30:=rfl
def c31:ACode:=(Oz [i 6 (.alloc [(Vi 0),(Vi 0),(Vi 0),(.int .u8 0),(Vi 0),(Vi 0)])] (Oz [mT 7 0,mT 8 0,mT 9 2,mT 10 1,mT 11 1,i 12 (.build [(Vi 0),(Vi 0),(Vi 0),(.int .u8 0),(Vi 0),(Vi 0)] [(0,(1,(zT 7))),(1,(1,(t 7))),(2,(1,(t 8))),(3,(1,(t 9))),(4,(1,(t 10))),(5,(1,(t 11)))]),St 6 6 12] .ret))
def a31:AFunc:=⟨13,[(.cellN 6 6)],c31⟩
theorem n31:a31.ntmps=13:=id rfl
theorem r31:a31.results=[(.cellN 6 6)]:=rfl
theorem b31:a31.body=c31:=rfl
def Nzr:ACode:=(Oz [Bt 80 .lss 79 78] (.seq (Ce 80 2) (.seq (.block 3 (Oz [xT 81 8 77 79,Gt 82 8 81,i 23 (.alloc [(Vi 0),(Vi 0),(Vi 0),(Vi 0),(Vi 0),(Vi 0),(Vi 0),(.int .u8 0)]),St 8 23 82] (.seq (Oz [fT 83 1 23,lT 84 83,mT 85 19,Bt 86 .neq 84 85] (.cond (t 86) (.exit 3) .skip)) (Oz [Gt 88 8 23,mT 89 20,Ct 90 68 [(t 88),(t 89)],mT 87 90,Et 91 0 87,Et 92 1 87,i 24 (.alloc [(Vi 0),(Vi 0)]),St 2 24 91,mT 25 92] (Ds 0 [mT 93 25,mT 94 93,Pf 95 94 1 24,Pl 96 94 95,Pm 97 94 16,Pm 98 94 21,Pm 99 94 10,Pf 100 94 2 23,Pl 101 94 100,p 102 94 (.lookup (.int .i64) (Vi 0) false (t 99) (t 101)),Px 103 94 50 97 98,p 104 94 (.idxAddrA 50 1 (t 103) (t 102)),Pl 105 94 104,Pb 106 94 .leq 96 105,At 107 94 106] (.cond (t 107) (Oz [mT 108 18,fT 109 0 23,lT 110 109,fT 111 0 24,lT 112 111,fT 113 1 24,lT 114 113,i 115 (.build [(Vi 0),(Vi 0),(Vi 0)] [(0,(1,(t 110))),(1,(1,(t 112))),(2,(1,(t 114)))]),i 116 (.buildSlice 1 [(Vi 0),(Vi 0),(Vi 0)] [(0,(3,(t 115)))]),i 117 (.append 3 24 false (t 108) (t 116)),mT 18 117] (Ds 0 [fT 118 2 23,lT 119 118,fT 120 1 24,lT 121 120,mT 19 119,mT 20 121] (.exit 2))) .skip)))))) (.ops [Bc 122 .add 79 1,mT 79 122]))))
def N51:ACode:=(.seq (Oz [mT 73 21,Bc 74 .geq 73 0] (Ce 74 0)) (.seq (.block 1 (Oz [mT 77 17,Nt 78 77,Zm 79 0] (Bl 2 Nzr))) (.ops [mT 75 21,Bc 76 .sub 75 1,mT 21 76])))
def c32:ACode:=(Oz [i 4 (.box (t 0)),i 8 (.mov (k Vz)),Zm 9 0] (Oz [Gt 27 2 4,mT 28 1,mT 29 2,mT 30 3,Ct 31 58 [(t 27),(t 28),(t 29),(t 30)],mT 26 31,Et 32 0 26,Et 33 1 26,mT 10 32,mT 11 33] (.seq (Oz [mT 34 11,Bc 35 .neq 34 0] (.cond (t 35) (Oz [mT 36 11,i 8 (.mov (k Vz)),mT 9 36] .ret) .skip)) (Oz [mT 37 10,mT 38 2,i 39 (.lookup (.int .i64) (Vi 0) false (t 37) (t 38)),i 12 (.alloc [(Vi 0)]),St 1 12 39] (Oz [Gt 40 2 4,mT 41 10,mT 42 1,mT 43 3,Ct 44 59 [(t 40),(t 41),(t 42),(t 43)],mT 13 44] (Ds 1 [mT 45 13,mT 46 13,Nt 47 46,Bc 48 .sub 47 1,Kt 49 (.load1 (t 12)) [0],xT 50 50 45 48,i 51 (.idxAddrA 50 1 (t 50) (t 49)),Kt 52 (.load1 (t 51)) [0],Wt 14 (.alloc [(Vi 0)]) 0,St 1 14 52] (.seq (Oz [lT 53 14,Bc 54 .lss 53 0] (.cond (t 54) (Oz [i 8 (.mov (k Vz)),Zm 9 6] .ret) .skip)) (Oz [mT 55 13,i 56 (.makeFunc 61 [] [(t 12),(t 14)]),Ct 57 60 [(t 55),(t 56)],mT 15 57] (Ds 0 [Gt 58 2 4,mT 59 10,lT 60 12,lT 61 14,i 62 (.call .pure (.func 63) [(t 60),(t 61)]),mT 63 15,Ct 64 62 [(t 58),(t 59),(t 62),(t 63)],mT 16 64] (Oz [fT 65 1 4,lT 66 65,Ct 67 65 [(t 66)],Ct 68 64 [(t 67),(.func 66)],mT 17 68] (Oz [i 18 (.mov (k Vz))] (Oz [mT 69 1,mT 70 3,mT 19 69,mT 20 70] (.seq (Oz [mT 71 15,Bc 72 .sub 71 1,mT 21 72] (Bl 0 N51)) (Oz [mT 123 18,mT 8 123,Zm 9 0] .ret))))))))))))))
def a32:AFunc:=⟨124,[(.tmp 8),(.tmp 9)],c32⟩
theorem n32:a32.ntmps=124:=id rfl
theorem r32:a32.results=[(.tmp 8),(.tmp 9)]:=rfl
theorem b32:a32.body=c32:=rfl
def N50:ACode:=(Oz [Bt 12 .lss 11 10] (.seq (Ce 12 0) (.seq (.block 1 (Oz [xT 13 8 9 11,Gt 14 8 13,i 7 (.alloc [(Vi 0),(Vi 0),(Vi 0),(Vi 0),(Vi 0),(Vi 0),(Vi 0),(.int .u8 0)]),St 8 7 14] (Oz [fT 15 0 7,lT 16 15,mT 17 1,Bt 18 .eql 16 17] (.cond (t 18) (Oz [Gt 19 8 7,St 8 4 19,i 5 (.mov (k (.bool true)))] .ret) .skip)))) (.ops [Bc 20 .add 11 1,mT 11 20]))))
def c33:ACode:=(Oz [i 2 (.box (t 0)),i 4 (.alloc [(Vi 0),(Vi 0),(Vi 0),(Vi 0),(Vi 0),(Vi 0),(Vi 0),(.int .u8 0)]),i 5 (.mov (k (.bool false)))] (.seq (Oz [fT 8 1 2,lT 9 8,Nt 10 9,Zm 11 0] (Bl 0 N50)) (Oz [i 21 (.build [(Vi 0),(Vi 0),(Vi 0),(Vi 0),(Vi 0),(Vi 0),(Vi 0),(.int .u8 0)] []),St 8 4 21,i 5 (.mov (k (.bool false)))] .ret)))
def a33:AFunc:=⟨22,[(.cellN 8 4),(.tmp 5)],c33⟩
theorem n33:a33.ntmps=22:=id rfl
theorem r33:a33.results=[(.cellN 8 4),(.tmp 5)]:=rfl
theorem b33:a33.body=c33:=rfl
def N5z:ACode:=(Oz [Bc 34 .lss 33 8] (.seq (Ce 34 0) (.seq (.block 1 (Oz [i 35 (.idxA 8 3 true (t 32) (t 33)),i 5 (.alloc [(Vi 0),(Vi 0),(Vi 0)]),St 3 5 35] (Oz [fT 36 0 5,lT 37 36,fT 38 1 5,lT 39 38,Bt 40 .lss 37 39,mT 41 40,Qf 42 41 0 5,Ql 43 41 42,Qf 44 41 2 5,Ql 45 41 44,Qb 46 41 .gtr 43 45,Ot 47 41 46] (.cond (t 47) (Oz [i 2 (.mov (k (.bool false)))] .ret) .skip)))) (.ops [Bc 48 .add 33 1,mT 33 48]))))
def c34:ACode:=(Oz [i 1 (.box (t 0)),i 2 (.mov (k (.bool false)))] (Oz [fT 6 0 1,lT 7 6,i 8 (.build [(Vi 0),(Vi 0),(Vi 0)] [(0,(1,(t 7))),(1,(1,(zT 1))),(2,(1,(zT 999999)))]),fT 9 1 1,lT 10 9,i 11 (.build [(Vi 0),(Vi 0),(Vi 0)] [(0,(1,(t 10))),(1,(1,(zT 1))),(2,(1,(zT 999999)))]),fT 12 2 1,lT 13 12,i 14 (.build [(Vi 0),(Vi 0),(Vi 0)] [(0,(1,(t 13))),(1,(1,(zT 1))),(2,(1,(zT 999999)))]),fT 15 3 1,lT 16 15,i 17 (.build [(Vi 0),(Vi 0),(Vi 0)] [(0,(1,(t 16))),(1,(1,(zT 0))),(2,(1,(zT 1439)))]),fT 18 4 1,lT 19 18,i 20 (.build [(Vi 0),(Vi 0),(Vi 0)] [(0,(1,(t 19))),(1,(1,(zT 1))),(2,(1,(zT 20160)))]),fT 21 5 1,lT 22 21,i 23 (.build [(Vi 0),(Vi 0),(Vi 0)] [(0,(1,(t 22))),(1,(1,(zT 0))),(2,(1,(zT 10080)))]),fT 24 6 1,lT 25 24,i 26 (.build [(Vi 0),(Vi 0),(Vi 0)] [(0,(1,(t 25))),(1,(1,(zT 0))),(2,(1,(zT 1000000000)))]),fT 27 7 1,lT 28 27,i 29 (.conv .i64 (t 28)),i 30 (.build [(Vi 0),(Vi 0),(Vi 0)] [(0,(1,(t 29))),(1,(1,(zT 1))),(2,(1,(zT 127)))]),i 31 (.build [(Vi 0),(Vi 0),(Vi 0),(Vi 0),(Vi 0),(Vi 0),(Vi 0),(Vi 0),(Vi 0),(Vi 0),(Vi 0),(Vi 0),(Vi 0),(Vi 0),(Vi 0),(Vi 0),(Vi 0),(Vi 0),(Vi 0),(Vi 0),(Vi 0),(Vi 0),(Vi 0),(Vi 0)] [(0,(3,(t 8))),(3,(3,(t 11))),(6,(3,(t 14))),(9,(3,(t 17))),(12,(3,(t 20))),(15,(3,(t 23))),(18,(3,(t 26))),(21,(3,(t 30)))]),i 3 (.alloc [(Vi 0),(Vi 0),(Vi 0),(Vi 0),(Vi 0),(Vi 0),(Vi 0),(Vi 0),(Vi 0),(Vi 0),(Vi 0),(Vi 0),(Vi 0),(Vi 0),(Vi 0),(Vi 0),(Vi 0),(Vi 0),(Vi 0),(Vi 0),(Vi 0),(Vi 0),(Vi 0),(Vi 0)]),St 24 3 31] (.seq (Oz [Gt 32 24 3,Zm 33 0] (Bl 0 N5z)) (Oz [fT 49 1 1,lT 50 49,fT 51 2 1,lT 52 51,Bt 53 .neq 50 52,mT 2 53] .ret))))
def a34:AFunc:=⟨54,[(.tmp 2)],c34⟩
theorem n34:a34.ntmps=54:=id rfl
theorem r34:a34.results=[(.tmp 2)]:=rfl
theorem b34:a34.body=c34:=rfl
def c35:ACode:=(Oz [i 0 (.alloc [(.string ⟨#[]⟩),(.string ⟨#[]⟩),(.string ⟨#[]⟩),(.string ⟨#[]⟩),(.string ⟨#[]⟩),(.string ⟨#[]⟩),(.string ⟨#[]⟩),(.string ⟨#[]⟩)])] (Oz [i 1 (.build [(.string ⟨#[]⟩),(.string ⟨#[]⟩),(.string ⟨#[]⟩),(.string ⟨#[]⟩),(.string ⟨#[]⟩),(.string ⟨#[]⟩),(.string ⟨#[]⟩),(.string ⟨#[]⟩)] [(0,(1,(k (.string ⟨#[]⟩)))),(1,(1,(k (.string ⟨#[115,116,114,97,121]⟩)))),(2,(1,(k (.string ⟨#[97,102,116,101,114]⟩)))),(3,(1,(k (.string ⟨#[106,117,109,112]⟩)))),(4,(1,(k (.string ⟨#[101,97,114,108,121]⟩)))),(5,(1,(k (.string ⟨#[109,105,115,115,101,100]⟩)))),(6,(1,(k (.string ⟨#[100,111,117,98,108,101,100]⟩)))),(7,(1,(k (.string ⟨#[108,111,115,116]⟩))))]),St 8 0 1] .ret))
def a35:AFunc:=⟨2,[(.cellN 8 0)],c35⟩
theorem n35:a35.ntmps=2:=id rfl
theorem r35:a35.results=[(.cellN 8 0)]:=rfl
theorem b35:a35.body=c35:=rfl
def c36:ACode:=(Oz [i 2 (.mov (k Vz)),Zm 3 0] (.seq (Oz [mT 6 0,Ct 7 55 [(t 6)],Ut 8 7] (.cond (t 8) (Oz [i 2 (.mov (k Vz)),Zm 3 2] .ret) .skip)) (Oz [mT 10 0,Ct 11 56 [(t 10)],mT 9 11,Et 12 0 9,Et 13 1 9,mT 4 12,mT 5 13] (Oz [mT 14 4,mT 2 14,Zm 3 0] .ret))))
def a36:AFunc:=⟨15,[(.tmp 2),(.tmp 3)],c36⟩
theorem n36:a36.ntmps=15:=id rfl
theorem r36:a36.results=[(.tmp 2),(.tmp 3)]:=rfl
theorem b36:a36.body=c36:=rfl
def c37:ACode:=(Oz [i 2 (.box (t 0)),i 4 (.alloc [Vz,Vz,(Vi 0)]),Zm 5 0] (.seq (Oz [Gt 8 2 2,mT 9 1,Ct 10 69 [(t 8),(t 9)],mT 6 10] (Oz [mT 11 6,Bc 12 .neq 11 0] (.cond (t 12) (Oz [i 13 (.build [Vz,Vz,(Vi 0)] []),mT 14 6,St 3 4 13,mT 5 14] .ret) .skip))) (Oz [Gt 15 2 2,Ct 16 70 [(t 15)],mT 7 16] (Oz [mT 17 7,mT 18 1,mT 19 7,mT 20 1,Ct 21 72 [(t 19),(t 20)],Ct 22 71 [(t 17),(t 18),(t 21)],St 3 4 22,Zm 5 0] .ret))))
def a37:AFunc:=⟨23,[(.cellN 3 4),(.tmp 5)],c37⟩
theorem n37:a37.ntmps=23:=id rfl
theorem r37:a37.results=[(.cellN 3 4),(.tmp 5)]:=rfl
theorem b37:a37.body=c37:=rfl
def WC:ACode:=(Oz [Bt 25 .lss 24 23] (.seq (Ce 25 0) (.seq (.block 1 (Oz [mT 26 24,xT 27 7 22 24,Gt 28 7 27,i 14 (.alloc [(Vi 0),(Vi 0),(Vi 0),(.int .u8 0),(Vi 0),(Vi 0),(Vi 0)]),mT 13 26,St 7 14 28] (.seq (Oz [mT 29 11,mT 30 13,xT 31 1 29 30,lT 32 31,Ut 33 32] (.cond (t 33) (.ops [mT 34 10,mT 35 13,fT 36 0 14,fT 37 1 36,lT 38 37,i 39 (.build [(.int .u8 0),(Vi 0),(Vi 0),(Vi 0),(Vi 0)] [(0,(1,(k (.int .u8 1)))),(1,(1,(t 35))),(3,(1,(t 38)))]),i 40 (.buildSlice 1 [(.int .u8 0),(Vi 0),(Vi 0),(Vi 0),(Vi 0)] [(0,(5,(t 39)))]),i 41 (.call .any (t 34) [(t 40)])]) .skip)) (.seq (Ds 0 [mT 42 12,mT 43 13,xT 44 3 42 43,fT 45 0 44,lT 46 45,mT 47 12,mT 48 13,xT 49 3 47 48,fT 50 1 49,lT 51 50,Bt 52 .lss 46 51] (.cond (t 52) (.drawn 0 [mT 53 10,Gt 54 5 4,Gt 55 2 5,mT 56 12,mT 57 13,xT 58 3 56 57,Gt 59 3 58,Ct 60 75 [(t 54),(t 55),(t 59)],i 61 (.call .any (t 53) [(t 60)])]) .skip)) (.ops [mT 62 10,Gt 63 5 4,mT 64 2,mT 65 13,Ct 66 76 [(t 63),(t 64),(t 65)],i 67 (.call .any (t 62) [(t 66)])]))))) (.ops [Bc 68 .add 24 1,mT 24 68]))))
def c38:ACode:=(Oz [i 4 (.box (t 0)),i 5 (.box (t 1)),i 8 (.mov (k Vz))] (Oz [i 9 (.alloc [Vz])] (Oz [i 15 (.makeFunc 73 [] [(t 9)]),mT 10 15] (Oz [Gt 17 5 4,Ct 18 74 [(t 17)],mT 16 18,Et 19 0 16,Et 20 1 16,mT 11 19,mT 12 20] (.seq (Oz [fT 21 0 4,lT 22 21,Nt 23 22,Zm 24 0] (Bl 0 WC)) (Oz [mT 69 10,Gt 70 5 4,mT 71 3,Ct 72 77 [(t 70),(t 71)],i 73 (.call .any (t 69) [(t 72)])] (Oz [lT 74 9,mT 8 74] .ret)))))))
def a38:AFunc:=⟨75,[(.tmp 8)],c38⟩
theorem n38:a38.ntmps=75:=id rfl
theorem r38:a38.results=[(.tmp 8)]:=rfl
theorem b38:a38.body=c38:=rfl
def c39:ACode:=(Oz [i 0 (.alloc [Vz,Vz])] (Oz [i 1 (.buildSlice 3 [(Vi 0),(Vi 0),(Vi 0)] [(0,(1,(zT 1))),(1,(1,(zT 2))),(2,(1,(zT 3)))]),i 2 (.build [(Vi 0),(Vi 0),(Vi 0),(Vi 0),(Vi 0),(Vi 0),(Vi 0),(.int .u8 0)] [(0,(1,(zT 1))),(1,(1,(zT 1))),(2,(1,(zT 2))),(3,(1,(zT 600))),(4,(1,(zT 60))),(6,(1,(zT 1000))),(7,(1,(k (.int .u8 127))))]),i 3 (.build [(Vi 0),(Vi 0),(Vi 0),(Vi 0),(Vi 0),(Vi 0),(Vi 0),(.int .u8 0)] [(0,(1,(zT 2))),(1,(1,(zT 2))),(2,(1,(zT 3))),(3,(1,(zT 700))),(4,(1,(zT 100))),(6,(1,(zT 1000))),(7,(1,(k (.int .u8 127))))]),i 4 (.buildSlice 2 [(Vi 0),(Vi 0),(Vi 0),(Vi 0),(Vi 0),(Vi 0),(Vi 0),(.int .u8 0),(Vi 0),(Vi 0),(Vi 0),(Vi 0),(Vi 0),(Vi 0),(Vi 0),(.int .u8 0)] [(0,(8,(t 2))),(8,(8,(t 3)))]),i 5 (.build [Vz,Vz] [(0,(1,(t 1))),(1,(1,(t 4)))]),St 2 0 5] .ret))
def a39:AFunc:=⟨6,[(.cellN 2 0)],c39⟩
theorem n39:a39.ntmps=6:=id rfl
theorem r39:a39.results=[(.cellN 2 0)]:=rfl
theorem b39:a39.body=c39:=rfl
def Nrs:ACode:=(Oz [Bt 11 .lss 10 9] (.seq (Ce 11 0) (.seq (.block 1 (Oz [xT 12 6 8 10,Gt 13 6 12,i 4 (.alloc [(Vi 0),(Vi 0),(Vi 0),(.int .u8 0),(Vi 0),(Vi 0)]),St 6 4 13] (Oz [Gt 14 6 4,Ct 15 92 [(t 14)],Ut 16 15] (.cond (t 16) (Oz [i 2 (.mov (k (.bool false)))] .ret) .skip)))) (.ops [Bc 17 .add 10 1,mT 10 17]))))
def c55:ACode:=(Oz [i 2 (.mov (k (.bool false)))] (.seq (Oz [mT 5 0,Nt 6 5,Bc 7 .gtr 6 2000] (.cond (t 7) (Oz [i 2 (.mov (k (.bool false)))] .ret) .skip)) (.seq (Oz [mT 8 0,Nt 9 8,Zm 10 0] (Bl 0 Nrs)) (Oz [i 2 (.mov (k (.bool true)))] .ret))))
def a55:AFunc:=⟨18,[(.tmp 2)],c55⟩
theorem n55:a55.ntmps=18:=id rfl
theorem r55:a55.results=[(.tmp 2)]:=rfl
theorem b55:a55.body=c55:=rfl
def N5y:ACode:=(Oz [Bt 40 .lss 39 38] (.seq (Ce 40 2) (.seq (.block 3 (Oz [xT 41 7 37 39,Gt 42 7 41,i 10 (.alloc [(Vi 0),(Vi 0),(Vi 0),(.int .u8 0),(Vi 0),(Vi 0),(Vi 0)]),St 7 10 42] (Oz [fT 43 0 10,fT 44 0 43,lT 45 44,fT 46 0 10,fT 47 1 46,lT 48 47,fT 49 0 10,fT 50 3 49,lT 51 50,i 52 (.build [(Vi 0),(Vi 0),(.int .u8 0)] [(0,(1,(t 45))),(1,(1,(t 48))),(2,(1,(t 51)))]),i 11 (.alloc [(Vi 0),(Vi 0),(.int .u8 0)]),St 3 11 52] (.seq (Oz [mT 54 8,Gt 55 3 11,i 56 (.lookup (.ints [.i64,.i64,.u8]) (Vi 0) true (t 54) (t 55)),mT 53 56,Et 57 0 53,Et 58 1 53,mT 12 57,mT 13 58] (Oz [mT 59 13,mT 60 59,Pf 61 60 6 10,Pl 62 60 61,Pm 63 60 12,Pb 64 60 .sub 62 63,p 65 60 (.bin .leq (t 64) (zT 10)),At 66 60 65] (.cond (t 66) (Oz [mT 67 3,Gt 68 7 10,i 69 (.buildSlice 1 [(Vi 0),(Vi 0),(Vi 0),(.int .u8 0),(Vi 0),(Vi 0),(Vi 0)] [(0,(7,(t 68)))]),i 70 (.append 7 56 false (t 67) (t 69)),mT 3 70] (.exit 3)) .skip))) (Oz [mT 71 8,Gt 72 3 11,fT 73 6 10,lT 74 73,s (.mapUpdate (.ints [.i64,.i64,.u8]) (t 71) (t 72) (t 74))] (.ops [mT 75 2,Gt 76 7 10,i 77 (.buildSlice 1 [(Vi 0),(Vi 0),(Vi 0),(.int .u8 0),(Vi 0),(Vi 0),(Vi 0)] [(0,(7,(t 76)))]),i 78 (.append 7 56 false (t 75) (t 77)),mT 2 78])))))) (.ops [Bc 79 .add 39 1,mT 39 79]))))
def N5x:ACode:=(Oz [Bt 22 .lss 21 20] (.seq (Ce 22 0) (.seq (.block 1 (Oz [xT 23 6 19 21,Gt 24 6 23,i 7 (.alloc [(Vi 0),(Vi 0),(Vi 0),(.int .u8 0),(Vi 0),(Vi 0)]),St 6 7 24] (.drawn 2 [mT 25 5,Kt 26 (.loadN 6 (t 7)) [0,1],mT 27 4,Kt 28 (.loadN 6 (t 7)) [0,1],Kt 29 (.call .pure (.func 94) [(t 27),(t 28)]) [0,1],i 30 (.build [(Vi 0),(Vi 0),(Vi 0),(.int .u8 0),(Vi 0),(Vi 0),(Vi 0)] [(0,(6,(t 26))),(6,(1,(t 29)))]),Wt 31 (.buildSlice 1 [(Vi 0),(Vi 0),(Vi 0),(.int .u8 0),(Vi 0),(Vi 0),(Vi 0)] [(0,(7,(t 30)))]) 0,Wt 32 (.append 7 56 false (t 25) (t 31)) 1,mT 5 32]))) (.ops [Bc 33 .add 21 1,mT 21 33]))))
def c56:ACode:=(Oz [i 2 (.mov (k Vz)),i 3 (.mov (k Vz))] (Oz [mT 14 0,Ct 15 93 [(t 14)],mT 4 15] (Oz [mT 16 0,Nt 17 16,i 18 (.makeSlice 7 56 [(Vi 0),(Vi 0),(Vi 0),(.int .u8 0),(Vi 0),(Vi 0),(Vi 0)] (zT 0) (t 17)),mT 5 18] (.seq (Oz [mT 19 0,Nt 20 19,Zm 21 0] (Bl 0 N5x)) (Oz [mT 34 5,Ct 35 95 [(t 34),(.func 96)]] (Oz [i 36 (.makeMap none),mT 8 36] (.seq (Oz [mT 37 5,Nt 38 37,Zm 39 0] (Bl 2 N5y)) (Oz [mT 80 2,mT 81 3,mT 2 80,mT 3 81] .ret))))))))
def a56:AFunc:=⟨82,[(.tmp 2),(.tmp 3)],c56⟩
theorem n56:a56.ntmps=82:=id rfl
theorem r56:a56.results=[(.tmp 2),(.tmp 3)]:=rfl
theorem b56:a56.body=c56:=rfl
def c58:ACode:=(Oz [i 4 (.box (t 0)),i 8 (.mov (k (.map none))),Zm 9 0] (.seq (Oz [Gt 16 2 4,Ct 17 12 [(t 16)],mT 10 17] (Oz [mT 18 10,Bc 19 .neq 18 0] (.cond (t 19) (Oz [mT 20 10,i 8 (.mov (k (.map none))),mT 9 20] .ret) .skip))) (Oz [Gt 21 2 4,Ct 22 97 [(t 21)],mT 11 22] (Oz [mT 24 11,mT 25 1,i 26 (.lookup (.int .i64) (Vi 0) true (t 24) (t 25)),mT 23 26,Et 27 0 23,Et 28 1 23,mT 12 27,mT 13 28] (Oz [mT 30 11,mT 31 2,i 32 (.lookup (.int .i64) (Vi 0) true (t 30) (t 31)),mT 29 32,Et 33 0 29,Et 34 1 29,mT 14 33,mT 15 34] (.seq (Oz [mT 35 13,Ut 36 35,mT 37 36,Qm 38 37 15,q 39 37 (.un .not (t 38)),Ot 40 37 39,mT 41 40,Qm 42 41 3,q 43 41 (.bin .lss (t 42) (zT 0)),Ot 44 41 43,mT 45 44,Qm 46 45 3,q 47 45 (.bin .gtr (t 46) (zT 1051898399)),Ot 48 45 47] (.cond (t 48) (Oz [i 8 (.mov (k (.map none))),Zm 9 2] .ret) .skip)) (Oz [mT 49 11,mT 8 49,Zm 9 0] .ret)))))))
def a58:AFunc:=⟨50,[(.tmp 8),(.tmp 9)],c58⟩
theorem n58:a58.ntmps=50:=id rfl
theorem r58:a58.results=[(.tmp 8),(.tmp 9)]:=rfl
theorem b58:a58.body=c58:=rfl
def c59:ACode:=(Oz [i 4 (.box (t 0)),i 5 (.box (t 1)),i 7 (.box (t 3)),i 8 (.mov (k Vz))] (Oz [i 10 (.makeFunc 98 [] [(t 5),(t 7)]),mT 9 10] (Ds 0 [lT 11 5,mT 12 2,i 13 (.lookup (.int .i64) (Vi 0) false (t 11) (t 12)),lT 14 7,i 15 (.call .pure (.func 63) [(t 13),(t 14)]),fT 16 1 4,lT 17 16,mT 18 9,Ct 19 99 [(t 15),(t 17),(t 18)],mT 8 19] .ret)))
def a59:AFunc:=⟨20,[(.tmp 8)],c59⟩
theorem n59:a59.ntmps=20:=id rfl
theorem r59:a59.results=[(.tmp 8)]:=rfl
theorem b59:a59.body=c59:=rfl
def N5w:ACode:=(Oz [Bt 9 .lss 8 7] (.seq (Ce 9 0) (.seq (.block 1 (Oz [mT 10 8,mT 5 10] (Oz [mT 11 1,mT 12 0,mT 13 5,xT 14 50 12 13,Gt 15 50 14,i 16 (.call .any (t 11) [(t 15)])] (.cond (t 16) (Oz [mT 17 5,mT 4 17] .ret) .skip)))) (.ops [Bc 18 .add 8 1,mT 8 18]))))
def c60:ACode:=(Oz [Zm 4 0] (.seq (Oz [mT 6 0,Nt 7 6,Zm 8 0] (Bl 0 N5w)) (Oz [Zm 4 (-1)] .ret)))
def a60:AFunc:=⟨19,[(.tmp 4)],c60⟩
theorem n60:a60.ntmps=19:=id rfl
theorem r60:a60.results=[(.tmp 4)]:=rfl
theorem b60:a60.body=c60:=rfl
def c61:ACode:=(Oz [i 3 (.box (t 0)),i 4 (.mov (k (.bool false)))] (Ds 0 [lT 5 1,i 6 (.idxAddrA 50 1 (t 3) (t 5)),lT 7 6,lT 8 2,Bt 9 .eql 7 8,mT 4 9] .ret))
def a61:AFunc:=⟨10,[(.tmp 4)],c61⟩
theorem n61:a61.ntmps=10:=id rfl
theorem r61:a61.results=[(.tmp 4)]:=rfl
theorem b61:a61.body=c61:=rfl
def Nzq:ACode:=(Oz [Bt 33 .lss 32 31] (.seq (Ce 33 2) (.seq (.block 3 (Oz [xT 34 8 30 32,Gt 35 8 34,i 13 (.alloc [(Vi 0),(Vi 0),(Vi 0),(Vi 0),(Vi 0),(Vi 0),(Vi 0),(.int .u8 0)]),St 8 13 35] (Oz [mT 36 1,fT 37 2 13,lT 38 37,i 39 (.lookup (.int .i64) (Vi 0) false (t 36) (t 38)),i 40 (.idxAddrA 50 1 (t 10) (t 39)),lT 41 40,mT 14 41] (.seq (Oz [mT 42 14,Bc 43 .lss 42 0] (.cond (t 43) (.exit 3) .skip)) (Oz [Gt 45 8 13,mT 46 14,Ct 47 100 [(t 45),(t 46)],mT 44 47,Et 48 0 44,Et 49 1 44,i 15 (.alloc [(Vi 0),(Vi 0)]),St 2 15 48,mT 16 49] (Oz [mT 50 16] (.cond (t 50) (.drawn 0 [mT 51 1,fT 52 1 13,lT 53 52,i 54 (.lookup (.int .i64) (Vi 0) false (t 51) (t 53)),mT 55 1,fT 56 1 13,lT 57 56,i 58 (.lookup (.int .i64) (Vi 0) false (t 55) (t 57)),i 59 (.idxAddrA 50 1 (t 11) (t 58)),lT 60 59,fT 61 0 15,lT 62 61,fT 63 5 13,lT 64 63,Bt 65 .sub 62 64,i 66 (.minmax true [(t 60),(t 65)]),i 67 (.idxAddrA 50 1 (t 11) (t 54)),St 1 67 66]) .skip))))))) (.ops [Bc 68 .add 32 1,mT 32 68]))))
def N5v:ACode:=(Oz [Bt 21 .lss 20 19] (.seq (Ce 21 0) (.seq (.block 1 (Ds 2 [mT 22 9,mT 23 9,Nt 24 23,Bc 25 .sub 24 1,xT 26 50 22 25,Kt 27 (.loadN 50 (t 26)) [0,1],Kt 28 (.call .pure (.func 63) [(zT 0),(zT (-1))]) [0,1],Wt 10 (.alloc [(Vi 0),(Vi 0),(Vi 0),(Vi 0),(Vi 0),(Vi 0),(Vi 0),(Vi 0),(Vi 0),(Vi 0),(Vi 0),(Vi 0),(Vi 0),(Vi 0),(Vi 0),(Vi 0),(Vi 0),(Vi 0),(Vi 0),(Vi 0),(Vi 0),(Vi 0),(Vi 0),(Vi 0),(Vi 0),(Vi 0),(Vi 0),(Vi 0),(Vi 0),(Vi 0),(Vi 0),(Vi 0),(Vi 0),(Vi 0),(Vi 0),(Vi 0),(Vi 0),(Vi 0),(Vi 0),(Vi 0),(Vi 0),(Vi 0),(Vi 0),(Vi 0),(Vi 0),(Vi 0),(Vi 0),(Vi 0),(Vi 0),(Vi 0)]) 0,Wt 11 (.alloc [(Vi 0),(Vi 0),(Vi 0),(Vi 0),(Vi 0),(Vi 0),(Vi 0),(Vi 0),(Vi 0),(Vi 0),(Vi 0),(Vi 0),(Vi 0),(Vi 0),(Vi 0),(Vi 0),(Vi 0),(Vi 0),(Vi 0),(Vi 0),(Vi 0),(Vi 0),(Vi 0),(Vi 0),(Vi 0),(Vi 0),(Vi 0),(Vi 0),(Vi 0),(Vi 0),(Vi 0),(Vi 0),(Vi 0),(Vi 0),(Vi 0),(Vi 0),(Vi 0),(Vi 0),(Vi 0),(Vi 0),(Vi 0),(Vi 0),(Vi 0),(Vi 0),(Vi 0),(Vi 0),(Vi 0),(Vi 0),(Vi 0),(Vi 0)]) 1,St 50 10 27,St 50 11 28] (.seq (Oz [fT 29 1 4,lT 30 29,Nt 31 30,Zm 32 0] (Bl 2 Nzq)) (.ops [mT 69 9,Gt 70 50 11,i 71 (.buildSlice 1 [(Vi 0),(Vi 0),(Vi 0),(Vi 0),(Vi 0),(Vi 0),(Vi 0),(Vi 0),(Vi 0),(Vi 0),(Vi 0),(Vi 0),(Vi 0),(Vi 0),(Vi 0),(Vi 0),(Vi 0),(Vi 0),(Vi 0),(Vi 0),(Vi 0),(Vi 0),(Vi 0),(Vi 0),(Vi 0),(Vi 0),(Vi 0),(Vi 0),(Vi 0),(Vi 0),(Vi 0),(Vi 0),(Vi 0),(Vi 0),(Vi 0),(Vi 0),(Vi 0),(Vi 0),(Vi 0),(Vi 0),(Vi 0),(Vi 0),(Vi 0),(Vi 0),(Vi 0),(Vi 0),(Vi 0),(Vi 0),(Vi 0),(Vi 0)] [(0,(50,(t 70)))]),i 72 (.append 50 400 false (t 69) (t 71)),mT 9 72])))) (.ops [Bc 73 .add 20 1,mT 20 73]))))
def c62:ACode:=(Oz [i 4 (.box (t 0)),i 6 (.box (t 2)),i 8 (.mov (k Vz))] (Oz [Gt 17 50 6,i 18 (.buildSlice 1 [(Vi 0),(Vi 0),(Vi 0),(Vi 0),(Vi 0),(Vi 0),(Vi 0),(Vi 0),(Vi 0),(Vi 0),(Vi 0),(Vi 0),(Vi 0),(Vi 0),(Vi 0),(Vi 0),(Vi 0),(Vi 0),(Vi 0),(Vi 0),(Vi 0),(Vi 0),(Vi 0),(Vi 0),(Vi 0),(Vi 0),(Vi 0),(Vi 0),(Vi 0),(Vi 0),(Vi 0),(Vi 0),(Vi 0),(Vi 0),(Vi 0),(Vi 0),(Vi 0),(Vi 0),(Vi 0),(Vi 0),(Vi 0),(Vi 0),(Vi 0),(Vi 0),(Vi 0),(Vi 0),(Vi 0),(Vi 0),(Vi 0),(Vi 0)] [(0,(50,(t 17)))]),mT 9 18] (.seq (Oz [mT 19 3,Zm 20 0] (Bl 0 N5v)) (Oz [mT 74 9,mT 8 74] .ret))))
def a62:AFunc:=⟨75,[(.tmp 8)],c62⟩
theorem n62:a62.ntmps=75:=id rfl
theorem r62:a62.results=[(.tmp 8)]:=rfl
theorem b62:a62.body=c62:=rfl
def N5u:ACode:=(Oz [Bc 8 .lss 7 50] (.seq (Ce 8 0) (.seq (.block 1 (Oz [mT 9 7,mT 6 9] (.ops [mT 10 6,i 11 (.idxAddrA 50 1 (t 5) (t 10)),s (.store 1 (t 11) (zT (-1)))]))) (.ops [Bc 12 .add 7 1,mT 7 12]))))
def c63:ACode:=(Oz [i 4 (.alloc [(Vi 0),(Vi 0),(Vi 0),(Vi 0),(Vi 0),(Vi 0),(Vi 0),(Vi 0),(Vi 0),(Vi 0),(Vi 0),(Vi 0),(Vi 0),(Vi 0),(Vi 0),(Vi 0),(Vi 0),(Vi 0),(Vi 0),(Vi 0),(Vi 0),(Vi 0),(Vi 0),(Vi 0),(Vi 0),(Vi 0),(Vi 0),(Vi 0),(Vi 0),(Vi 0),(Vi 0),(Vi 0),(Vi 0),(Vi 0),(Vi 0),(Vi 0),(Vi 0),(Vi 0),(Vi 0),(Vi 0),(Vi 0),(Vi 0),(Vi 0),(Vi 0),(Vi 0),(Vi 0),(Vi 0),(Vi 0),(Vi 0),(Vi 0)])] (Oz [i 5 (.alloc [(Vi 0),(Vi 0),(Vi 0),(Vi 0),(Vi 0),(Vi 0),(Vi 0),(Vi 0),(Vi 0),(Vi 0),(Vi 0),(Vi 0),(Vi 0),(Vi 0),(Vi 0),(Vi 0),(Vi 0),(Vi 0),(Vi 0),(Vi 0),(Vi 0),(Vi 0),(Vi 0),(Vi 0),(Vi 0),(Vi 0),(Vi 0),(Vi 0),(Vi 0),(Vi 0),(Vi 0),(Vi 0),(Vi 0),(Vi 0),(Vi 0),(Vi 0),(Vi 0),(Vi 0),(Vi 0),(Vi 0),(Vi 0),(Vi 0),(Vi 0),(Vi 0),(Vi 0),(Vi 0),(Vi 0),(Vi 0),(Vi 0),(Vi 0)])] (.seq (Oz [Zm 7 0] (Bl 0 N5u)) (Oz [mT 13 0,mT 14 1,i 15 (.idxAddrA 50 1 (t 5) (t 13)),St 1 15 14] (Oz [Gt 16 50 5,St 50 4 16] .ret)))))
def a63:AFunc:=⟨17,[(.cellN 50 4)],c63⟩
theorem n63:a63.ntmps=17:=id rfl
theorem r63:a63.results=[(.cellN 50 4)]:=rfl
theorem b63:a63.body=c63:=rfl
def c64:ACode:=(Oz [i 4 (.mov (k Vz))] (Oz [mT 6 0,Ct 7 101 [(t 6)],mT 5 7] (Oz [mT 8 5,mT 9 1,Ct 10 102 [(t 8),(t 9)]] (Oz [mT 11 5,mT 4 11] .ret))))
def a64:AFunc:=⟨12,[(.tmp 4)],c64⟩
theorem n64:a64.ntmps=12:=id rfl
theorem r64:a64.results=[(.tmp 4)]:=rfl
theorem b64:a64.body=c64:=rfl
def c65:ACode:=(Oz [i 1 (.box (t 0)),i 2 (.mov (k .nilFunc))] (Oz [i 3 (.makeFunc 103 [] [(t 1)]),mT 2 3] .ret))
def a65:AFunc:=⟨4,[(.tmp 2)],c65⟩
theorem n65:a65.ntmps=4:=id rfl
theorem r65:a65.results=[(.tmp 2)]:=rfl
theorem b65:a65.body=c65:=rfl
def c66:ACode:=(Oz [i 2 (.box (t 0)),i 3 (.box (t 1)),Zm 4 0] (Oz [fT 5 0 2,lT 6 5,fT 7 0 3,lT 8 7,Ct 9 67 [(t 6),(t 8)],mT 4 9] .ret))
def a66:AFunc:=⟨10,[(.tmp 4)],c66⟩
theorem n66:a66.ntmps=10:=id rfl
theorem r66:a66.results=[(.tmp 4)]:=rfl
theorem b66:a66.body=c66:=rfl
def c67:ACode:=(Oz [Zm 4 0] (Oz [mT 7 0,Ct 8 104 [(t 7)],mT 5 8] (Oz [mT 9 1,Ct 10 104 [(t 9)],mT 6 10] (.seq (Oz [mT 11 5] (.cond (t 11) (.seq (Oz [mT 12 6] (.cond (t 12) (Oz [Zm 4 0] .ret) .skip)) (Oz [Zm 4 (-1)] .ret)) .skip)) (.seq (Oz [mT 13 6] (.cond (t 13) (Oz [Zm 4 1] .ret) .skip)) (.seq (Oz [mT 14 0,mT 15 1,Bt 16 .lss 14 15] (.cond (t 16) (Oz [Zm 4 (-1)] .ret) .skip)) (.seq (Oz [mT 17 0,mT 18 1,Bt 19 .gtr 17 18] (.cond (t 19) (Oz [Zm 4 1] .ret) .skip)) (Oz [Zm 4 0] .ret))))))))
def a67:AFunc:=⟨20,[(.tmp 4)],c67⟩
theorem n67:a67.ntmps=20:=id rfl
theorem r67:a67.results=[(.tmp 4)]:=rfl
theorem b67:a67.body=c67:=rfl
def Nep:ACode:=(.ops [i 7 (.alloc [(Vi 0),(Vi 0)]),St 2 7 26])
def Neo:ACode:=(.block 1 (Oz [fT 27 0 7,lT 28 27,fT 29 5 2,lT 30 29,Bt 31 .sub 28 30,lT 32 3,Bt 33 .geq 31 32] (.cond (t 33) (Oz [Gt 34 2 7,St 2 4 34,s (.store 1 (t 5) (k (.bool true)))] .retR) .skip)))
def c68:ACode:=(.seq (Oz [i 2 (.box (t 0)),i 3 (.box (t 1)),i 4 (.alloc [(Vi 0),(Vi 0)]),i 5 (.alloc [(.bool false)])] (.seq (Oz [Gt 8 8 2,Ct 9 34 [(t 8)],Ut 10 9,mT 11 10,Ql 12 11 3,q 13 11 (.bin .gtr (t 12) (zT 1051898399)),Ot 14 11 13] (.cond (t 14) (Oz [i 15 (.build [(Vi 0),(Vi 0)] []),St 2 4 15,s (.store 1 (t 5) (k (.bool false)))] .retM) .skip)) (Oz [lT 16 3,i 17 (.minmax true [(t 16),(zT 0)]),St 1 3 17] (Oz [lT 18 3,fT 19 5 2,lT 20 19,Bt 21 .add 18 20,Bc 22 .quo 21 1440,mT 6 22] (.seq (Oz [Gt 23 8 2,mT 24 6,Ct 25 105 [(t 23),(t 24),(zT 1)]] (.block 0 (.rangeF (t 25) [26] Nep Neo))) (Oz [i 35 (.build [(Vi 0),(Vi 0)] []),St 2 4 35,s (.store 1 (t 5) (k (.bool false)))] .retM)))))) .retM)
def a68:AFunc:=⟨36,[(.cellN 2 4),(.cell1 5)],c68⟩
theorem n68:a68.ntmps=36:=id rfl
theorem r68:a68.results=[(.cellN 2 4),(.cell1 5)]:=rfl
theorem b68:a68.body=c68:=rfl
def N5t:ACode:=(Oz [Bt 19 .lss 18 17] (.seq (Ce 19 0) (.seq (.block 1 (Oz [mT 20 18,xT 21 7 16 18,Gt 22 7 21,i 7 (.alloc [(Vi 0),(Vi 0),(Vi 0),(.int .u8 0),(Vi 0),(Vi 0),(Vi 0)]),mT 6 20,St 7 7 22] (.block 2 (.seq (Oz [fT 24 0 7,Gt 25 6 24,i 26 (.buildSlice 1 [(Vi 0),(Vi 0),(Vi 0),(.int .u8 0),(Vi 0),(Vi 0)] [(0,(6,(t 25)))]),Ct 27 55 [(t 26)],Ut 28 27,mT 23 28] (.cond (t 23) .skip (Oz [fT 29 6 7,lT 30 29,Bc 31 .lss 30 0,mT 23 31] (.cond (t 23) .skip (.ops [fT 32 6 7,lT 33 32,Bc 34 .gtr 33 1051898399,mT 23 34]))))) (.cond (t 23) (Oz [Zm 4 2] .ret) (Ds 0 [mT 36 6,Bc 37 .gtr 36 0,mT 38 37,Pf 39 38 0 7,Pf 40 38 0 39,Pl 41 38 40,Pm 42 38 1,p 43 38 (.idxAddrS 7 (t 42) (zT 0)),Pf 44 38 0 43,Pf 45 38 0 44,Pl 46 38 45,Pb 47 38 .neq 41 46,Pm 48 38 47,Qf 49 48 6 7,Ql 50 48 49,Qm 51 48 1,Qm 52 48 6,q 53 48 (.bin .sub (t 52) (zT 1)),Qx 54 48 7 51 53,Qf 55 48 6 54,Ql 56 48 55,Qb 57 48 .lss 50 56,p 58 38 (.pick (t 48) (k (.bool true)) (t 57)),At 59 38 58,mT 35 59] (.cond (t 35) (Oz [Zm 4 2] .ret) .skip))))))) (.ops [Bc 60 .add 18 1,mT 18 60]))))
def c69:ACode:=(Oz [i 2 (.box (t 0)),Zm 4 0] (.seq (Oz [Gt 8 2 2,Ct 9 12 [(t 8)],mT 5 9] (Oz [mT 10 5,Bc 11 .neq 10 0] (.cond (t 11) (Oz [mT 12 5,mT 4 12] .ret) .skip))) (.seq (Oz [mT 13 1,Nt 14 13,Bc 15 .gtr 14 40] (.cond (t 15) (Oz [Zm 4 5] .ret) .skip)) (.seq (Oz [mT 16 1,Nt 17 16,Zm 18 0] (Bl 0 N5t)) (Oz [Zm 4 0] .ret)))))
def a69:AFunc:=⟨61,[(.tmp 4)],c69⟩
theorem n69:a69.ntmps=61:=id rfl
theorem r69:a69.results=[(.tmp 4)]:=rfl
theorem b69:a69.body=c69:=rfl
def c70:ACode:=(Oz [i 1 (.box (t 0)),i 2 (.mov (k (.pointer none)))] (Oz [Gt 3 2 1,i 4 (.makeMap none),i 5 (.build [Vz,Vz,(.map none)] [(0,(2,(t 3))),(2,(1,(t 4)))]),i 6 (.box (t 5)),mT 2 6] .ret))
def a70:AFunc:=⟨7,[(.tmp 2)],c70⟩
theorem n70:a70.ntmps=7:=id rfl
theorem r70:a70.results=[(.tmp 2)]:=rfl
theorem b70:a70.body=c70:=rfl
def N5s:ACode:=(.seq (Oz [mT 19 8,mT 20 2,Nt 21 20,Bt 22 .lss 19 21] (Ce 22 0)) (.seq (.block 1 (Ds 1 [mT 25 2,mT 26 8,Bc 27 .sub 26 1,xT 28 1 25 27,Kt 29 (.load1 (t 28)) [0],mT 30 2,mT 31 8,xT 32 1 30 31,Kt 33 (.load1 (t 32)) [0],i 34 (.build [(Vi 0),(Vi 0),(Vi 0)] [(0,(1,(t 29))),(1,(1,(t 33)))]),Wt 9 (.alloc [(Vi 0),(Vi 0),(Vi 0)]) 0,St 3 9 34] (Ds 0 [mT 35 0,mT 36 1,fT 37 0 9,lT 38 37,xT 39 7 36 38,Gt 40 7 39,mT 41 1,fT 42 1 9,lT 43 42,xT 44 7 41 43,Gt 45 7 44,Ct 46 107 [(t 35),(t 40),(t 45)],fT 47 2 9,St 1 47 46] (Oz [fT 48 2 7,lT 49 48,fT 50 2 9,lT 51 50,Bt 52 .add 49 51,fT 53 2 7,St 1 53 52] (.ops [fT 54 1 7,lT 55 54,Gt 56 3 9,i 57 (.buildSlice 1 [(Vi 0),(Vi 0),(Vi 0)] [(0,(3,(t 56)))]),i 58 (.append 3 24 false (t 55) (t 57)),fT 59 1 7,St 1 59 58]))))) (.ops [mT 23 8,Bc 24 .add 23 1,mT 8 24])))
def c71:ACode:=(Oz [i 6 (.alloc [Vz,Vz,(Vi 0)])] (Oz [mT 10 2,Ct 11 106 [(t 10)],mT 12 1,Nt 13 12,mT 14 2,Nt 15 14,Bt 16 .sub 13 15,i 17 (.bin .mul (zT 30) (t 16)),i 18 (.build [Vz,Vz,(Vi 0)] [(0,(1,(t 11))),(2,(1,(t 17)))]),i 7 (.alloc [Vz,Vz,(Vi 0)]),St 3 7 18] (.seq (Oz [Zm 8 1] (Bl 0 N5s)) (Oz [Gt 60 3 7,St 3 6 60] .ret))))
def a71:AFunc:=⟨61,[(.cellN 3 6)],c71⟩
theorem n71:a71.ntmps=61:=id rfl
theorem r71:a71.results=[(.cellN 3 6)]:=rfl
theorem b71:a71.body=c71:=rfl
def N5r:ACode:=(.seq (Oz [mT 119 16,Bc 120 .geq 119 0] (Ce 120 6)) (.seq (.block 7 (.ops [mT 126 15,mT 127 16,i 128 (.buildSlice 1 [(Vi 0)] [(0,(1,(t 127)))]),i 129 (.append 1 8 false (t 126) (t 128)),mT 15 129])) (.ops [mT 121 5,mT 122 16,xT 123 3 121 122,fT 124 2 123,lT 125 124,mT 16 125])))
def Nzp:ACode:=(.seq (Oz [mT 87 13,Bc 88 .geq 87 0] (Ce 88 4)) (.seq (.block 5 (Ds 1 [mT 91 13,i 92 (.bin .mul (zT 30) (t 91)),mT 93 5,mT 94 13,xT 95 3 93 94,fT 96 0 95,Kt 97 (.load1 (t 96)) [0],Bt 98 .add 92 97,mT 99 5,mT 100 13,xT 101 3 99 100,fT 102 1 101,Kt 103 (.load1 (t 102)) [0],mT 104 13,i 105 (.build [(Vi 0),(Vi 0),(Vi 0)] [(0,(1,(t 98))),(1,(1,(t 103))),(2,(1,(t 104)))]),Wt 14 (.alloc [(Vi 0),(Vi 0),(Vi 0)]) 0,St 3 14 105] (Oz [fT 106 2 12,lT 107 106,Bc 108 .lss 107 0,mT 109 108,Qm 110 109 6,q 111 109 (.loadN 3 (t 12)),q 112 109 (.loadN 3 (t 14)),q 113 109 (.call .any (t 110) [(t 111),(t 112)]),q 114 109 (.un .not (t 113)),Ot 115 109 114] (.cond (t 115) (.ops [Gt 116 3 14,St 3 12 116]) .skip)))) (.ops [mT 89 13,Bc 90 .sub 89 1,mT 13 90])))
def Nzo:ACode:=(.seq (Oz [mT 37 9,mT 38 7,Bt 39 .gtr 37 38] (Ce 39 2)) (.seq (.block 3 (Oz [mT 42 9,mT 43 7,Bt 44 .sub 42 43,Bc 45 .sub 44 1,i 46 (.bin .mul (zT 30) (t 45)),mT 10 46] (Ds 1 [mT 47 0,mT 48 1,mT 49 7,xT 50 7 48 49,Kt 51 (.loadN 7 (t 50)) [0],mT 52 1,mT 53 9,xT 54 7 52 53,Kt 55 (.loadN 7 (t 54)) [0],mT 57 10,mT 59 5,mT 60 9,xT 61 3 59 60,fT 62 0 61,Kt 63 (.load1 (t 62)) [0],mT 65 5,mT 66 9,xT 67 3 65 66,fT 68 1 67,Kt 69 (.load1 (t 68)) [0],Bc 70 .add 69 1,mT 71 9,Wt 11 (.alloc [(Vi 0),(Vi 0),(Vi 0)]) 0,Kt 56 (.call .maps (.func 107) [(t 47),(t 51),(t 55)]) [0],Bt 58 .add 56 57,Bt 64 .add 58 63,i 72 (.build [(Vi 0),(Vi 0),(Vi 0)] [(0,(1,(t 64))),(1,(1,(t 70))),(2,(1,(t 71)))]),St 3 11 72] (Oz [mT 73 6,Gt 74 3 8,Gt 75 3 11,i 76 (.call .any (t 73) [(t 74),(t 75)]),Ut 77 76] (.cond (t 77) (.ops [Gt 78 3 11,St 3 8 78]) .skip))))) (.ops [mT 40 9,Bc 41 .sub 40 1,mT 9 41])))
def N5q:ACode:=(.seq (Oz [mT 23 7,Bc 24 .geq 23 0] (Ce 24 0)) (.seq (.block 1 (Oz [mT 27 1,Nt 28 27,Bc 29 .sub 28 1,mT 30 7,Bt 31 .sub 29 30,i 32 (.bin .mul (zT 30) (t 31)),i 33 (.build [(Vi 0),(Vi 0),(Vi 0)] [(0,(1,(t 32))),(1,(1,(zT 1))),(2,(1,(zT (-1))))]),i 8 (.alloc [(Vi 0),(Vi 0),(Vi 0)]),St 3 8 33] (.seq (Oz [mT 34 1,Nt 35 34,Bc 36 .sub 35 1,mT 9 36] (Bl 2 Nzo)) (.ops [mT 79 5,mT 80 7,Gt 81 3 8,xT 82 3 79 80,St 3 82 81])))) (.ops [mT 25 7,Bc 26 .sub 25 1,mT 7 26])))
def c72:ACode:=(Oz [i 4 (.mov (k Vz))] (Oz [mT 17 1,Nt 18 17,i 19 (.makeSlice 3 24 [(Vi 0),(Vi 0),(Vi 0)] (t 18) (t 18)),mT 5 19] (Oz [i 6 (.mov (.func 108))] (.seq (Oz [mT 20 1,Nt 21 20,Bc 22 .sub 21 1,mT 7 22] (Bl 0 N5q)) (Oz [i 83 (.build [(Vi 0),(Vi 0),(Vi 0)] [(2,(1,(zT (-1))))]),i 12 (.alloc [(Vi 0),(Vi 0),(Vi 0)]),St 3 12 83] (.seq (Oz [mT 84 1,Nt 85 84,Bc 86 .sub 85 1,mT 13 86] (Bl 4 Nzp)) (Oz [i 15 (.mov (k Vz))] (.seq (Oz [fT 117 2 12,lT 118 117,mT 16 118] (Bl 6 N5r)) (Oz [mT 130 15,mT 4 130] .ret)))))))))
def a72:AFunc:=⟨131,[(.tmp 4)],c72⟩
theorem n72:a72.ntmps=131:=id rfl
theorem r72:a72.results=[(.tmp 4)]:=rfl
theorem b72:a72.body=c72:=rfl
def c73:ACode:=(.ops [lT 3 1,mT 4 0,i 5 (.append 5 40 false (t 3) (t 4)),St 1 1 5])
def a73:AFunc:=⟨6,[],c73⟩
theorem n73:a73.ntmps=6:=id rfl
theorem r73:a73.results=[]:=rfl
theorem b73:a73.body=c73:=rfl
def N5p:ACode:=(Oz [Bt 35 .lss 34 33] (.seq (Ce 35 2) (.seq (.block 3 (Oz [xT 36 3 32 34,Gt 37 3 36,i 9 (.alloc [(Vi 0),(Vi 0),(Vi 0)]),St 3 9 37] (.ops [mT 38 5,fT 39 1 9,lT 40 39,Gt 41 3 9,xT 42 3 38 40,St 3 42 41]))) (.ops [Bc 43 .add 34 1,mT 34 43]))))
def N5o:ACode:=(Oz [Bt 23 .lss 22 21] (.seq (Ce 23 0) (.seq (.block 1 (Oz [xT 24 1 20 22,lT 25 24,mT 7 25] (.ops [mT 26 4,mT 27 7,xT 28 1 26 27,s (.store 1 (t 28) (k (.bool true)))]))) (.ops [Bc 29 .add 22 1,mT 22 29]))))
def c74:ACode:=(Oz [i 1 (.box (t 0)),i 2 (.mov (k Vz)),i 3 (.mov (k Vz))] (Oz [fT 10 0 1,lT 11 10,Nt 12 11,i 13 (.makeSlice 1 1 [(.bool false)] (t 12) (t 12)),mT 4 13] (Oz [fT 14 0 1,lT 15 14,Nt 16 15,i 17 (.makeSlice 3 24 [(Vi 0),(Vi 0),(Vi 0)] (t 16) (t 16)),mT 5 17] (.seq (Oz [fT 18 1 1,fT 19 0 18,lT 20 19,Nt 21 20,Zm 22 0] (Bl 0 N5o)) (.seq (Oz [fT 30 1 1,fT 31 1 30,lT 32 31,Nt 33 32,Zm 34 0] (Bl 2 N5p)) (Oz [mT 44 4,mT 45 5,mT 2 44,mT 3 45] .ret))))))
def a74:AFunc:=⟨46,[(.tmp 2),(.tmp 3)],c74⟩
theorem n74:a74.ntmps=46:=id rfl
theorem r74:a74.results=[(.tmp 2),(.tmp 3)]:=rfl
theorem b74:a74.body=c74:=rfl
def c75:ACode:=(Oz [i 3 (.box (t 0)),i 4 (.box (t 1)),i 5 (.box (t 2)),i 6 (.mov (k Vz))] (Ds 2 [fT 10 0 3,Kt 11 (.load1 (t 10)) [0,1],fT 12 0 5,Kt 13 (.load1 (t 12)) [0,1],xT 14 7 11 13,fT 15 0 14,Kt 16 (.loadN 6 (t 15)) [0,1],fT 17 0 3,Kt 18 (.load1 (t 17)) [0,1],fT 19 1 5,Kt 20 (.load1 (t 19)) [0,1],xT 21 7 18 20,fT 22 0 21,Kt 23 (.loadN 6 (t 22)) [0,1],Wt 7 (.alloc [(Vi 0),(Vi 0),(Vi 0),(.int .u8 0),(Vi 0),(Vi 0)]) 0,Wt 8 (.alloc [(Vi 0),(Vi 0),(Vi 0),(.int .u8 0),(Vi 0),(Vi 0)]) 1,⟨none,none,(.storeD 6 (t 7) (t 16)),(some 0),[]⟩,⟨none,none,(.storeD 6 (t 8) (t 23)),(some 1),[]⟩] (Oz [fT 24 1 5,lT 25 24,fT 26 0 5,lT 27 26,fT 28 1 8,lT 29 28,i 30 (.build [(.int .u8 0),(Vi 0),(Vi 0),(Vi 0),(Vi 0)] [(1,(1,(t 25))),(2,(1,(t 27))),(3,(1,(t 29)))]),i 9 (.alloc [(.int .u8 0),(Vi 0),(Vi 0),(Vi 0),(Vi 0)]),St 5 9 30] (.seq (.block 0 (Oz [fT 32 3 7,lT 33 32,i 34 (.bin .eql (t 33) (k (.int .u8 4))),mT 31 34] (.cond (t 31) (.ops [fT 35 0 9,s (.store 1 (t 35) (k (.int .u8 2)))]) (Oz [fT 37 2 5,lT 38 37,Bc 39 .eql 38 80,mT 36 39] (.cond (t 36) (.ops [fT 40 0 9,s (.store 1 (t 40) (k (.int .u8 3)))]) (Oz [fT 42 2 5,lT 43 42,Bc 44 .gtr 43 0,mT 41 44] (.cond (t 41) (.drawn 0 [fT 45 2 5,i 46 (.loadO none (t 45) (t 9)),fT 47 0 9,s (.storeO 1 (t 47) (k (.int .u8 4)) (t 9)),fT 48 4 9,St 1 48 46]) (Oz [fT 50 1 7,lT 51 50,fT 52 1 8,lT 53 52,Bt 54 .neq 51 53,mT 49 54] (.cond (t 49) (Oz [Gt 55 5 3,Gt 56 2 4,Gt 57 3 5,Ct 58 109 [(t 55),(t 56),(t 57)],mT 6 58] .ret) (Oz [i 6 (.mov (k Vz))] .ret)))))))))) (Oz [Gt 59 5 9,i 60 (.buildSlice 1 [(.int .u8 0),(Vi 0),(Vi 0),(Vi 0),(Vi 0)] [(0,(5,(t 59)))]),mT 6 60] .ret)))))
def a75:AFunc:=⟨61,[(.tmp 6)],c75⟩
theorem n75:a75.ntmps=61:=id rfl
theorem r75:a75.results=[(.tmp 6)]:=rfl
theorem b75:a75.body=c75:=rfl
def N5n:ACode:=(Oz [Bt 40 .lss 39 38] (.seq (Ce 40 2) (.seq (.block 3 (Oz [xT 41 7 37 39,Gt 42 7 41,i 14 (.alloc [(Vi 0),(Vi 0),(Vi 0),(.int .u8 0),(Vi 0),(Vi 0),(Vi 0)]),St 7 14 42] (Oz [mT 43 8,Gt 44 7 14,i 45 (.call .any (t 43) [(t 44)]),mT 46 45,Pf 47 46 6 14,Pl 48 46 47,Pf 49 46 6 7,Pl 50 46 49,Pb 51 46 .geq 48 50,At 52 46 51,mT 53 52,Pf 54 53 6 14,Pl 55 53 54,Pm 56 53 9,Pb 57 53 .lss 55 56,At 58 53 57] (.cond (t 58) (.ops [mT 59 12,mT 60 2,fT 61 0 7,fT 62 1 61,lT 63 62,fT 64 6 14,lT 65 64,fT 66 6 7,lT 67 66,Bt 68 .sub 65 67,i 69 (.build [(.int .u8 0),(Vi 0),(Vi 0),(Vi 0),(Vi 0)] [(0,(1,(k (.int .u8 6)))),(1,(1,(t 60))),(3,(1,(t 63))),(4,(1,(t 68)))]),i 70 (.buildSlice 1 [(.int .u8 0),(Vi 0),(Vi 0),(Vi 0),(Vi 0)] [(0,(5,(t 69)))]),i 71 (.append 5 40 false (t 59) (t 70)),mT 12 71]) .skip)))) (.ops [Bc 72 .add 39 1,mT 39 72]))))
def N5m:ACode:=(Oz [Bt 28 .lss 27 26] (.seq (Ce 28 0) (.seq (.block 1 (Oz [xT 29 7 25 27,Gt 30 7 29,i 11 (.alloc [(Vi 0),(Vi 0),(Vi 0),(.int .u8 0),(Vi 0),(Vi 0),(Vi 0)]),St 7 11 30] (Oz [mT 31 8,Gt 32 7 11,i 33 (.call .any (t 31) [(t 32)])] (.cond (t 33) (Oz [fT 34 6 11,lT 35 34,mT 9 35] (.exit 0)) .skip)))) (.ops [Bc 36 .add 27 1,mT 27 36]))))
def c76:ACode:=(Oz [i 3 (.box (t 0)),i 6 (.mov (k Vz))] (Oz [fT 15 0 3,lT 16 15,mT 17 2,xT 18 7 16 17,Gt 19 7 18,i 7 (.alloc [(Vi 0),(Vi 0),(Vi 0),(.int .u8 0),(Vi 0),(Vi 0),(Vi 0)]),St 7 7 19] (Oz [i 20 (.makeFunc 110 [] [(t 7)]),mT 8 20] (Oz [Zm 9 1051898400] (.seq (Oz [fT 21 0 3,lT 22 21,mT 23 2,Bc 24 .add 23 1,i 25 (.sliceS 7 (t 22) (some (t 24)) none none),Nt 26 25,Zm 27 0] (Bl 0 N5m)) (Oz [i 12 (.mov (k Vz))] (.seq (Oz [mT 37 1,Nt 38 37,Zm 39 0] (Bl 2 N5n)) (Oz [mT 73 12,mT 6 73] .ret))))))))
def a76:AFunc:=⟨74,[(.tmp 6)],c76⟩
theorem n76:a76.ntmps=74:=id rfl
theorem r76:a76.results=[(.tmp 6)]:=rfl
theorem b76:a76.body=c76:=rfl
def c77:ACode:=(Oz [i 2 (.box (t 0)),i 4 (.mov (k Vz))] (.seq (Oz [fT 7 1 2,fT 8 0 7,lT 9 8,Nt 10 9,Bc 11 .eql 10 0] (.cond (t 11) (Oz [i 4 (.mov (k Vz))] .ret) .skip)) (Oz [fT 12 1 2,fT 13 0 12,lT 14 13,fT 15 1 2,fT 16 0 15,lT 17 16,Nt 18 17,Bc 19 .sub 18 1,xT 20 1 14 19,lT 21 20,mT 5 21] (Oz [fT 22 0 2,lT 23 22,mT 24 5,xT 25 7 23 24,Gt 26 7 25,i 6 (.alloc [(Vi 0),(Vi 0),(Vi 0),(.int .u8 0),(Vi 0),(Vi 0),(Vi 0)]),St 7 6 26] (.seq (Oz [fT 27 0 6,fT 28 3 27,lT 29 28,i 30 (.bin .eql (t 29) (k (.int .u8 4))),mT 31 30,Qm 32 31 1,Qf 33 31 6 6,Ql 34 31 33,Qb 35 31 .sub 32 34,q 36 31 (.bin .leq (t 35) (zT 20160)),Ot 37 31 36] (.cond (t 37) (Oz [i 4 (.mov (k Vz))] .ret) .skip)) (Oz [mT 38 5,fT 39 0 6,fT 40 1 39,lT 41 40,mT 42 1,fT 43 6 6,lT 44 43,Bt 45 .sub 42 44,i 46 (.build [(.int .u8 0),(Vi 0),(Vi 0),(Vi 0),(Vi 0)] [(0,(1,(k (.int .u8 7)))),(1,(1,(t 38))),(3,(1,(t 41))),(4,(1,(t 45)))]),i 47 (.buildSlice 1 [(.int .u8 0),(Vi 0),(Vi 0),(Vi 0),(Vi 0)] [(0,(5,(t 46)))]),mT 4 47] .ret))))))
def a77:AFunc:=⟨48,[(.tmp 4)],c77⟩
theorem n77:a77.ntmps=48:=id rfl
theorem r77:a77.results=[(.tmp 4)]:=rfl
theorem b77:a77.body=c77:=rfl
def c92:ACode:=(Oz [i 1 (.box (t 0)),i 2 (.mov (k (.bool false)))] (Oz [fT 3 0 1,lT 4 3,Ct 5 120 [(t 4)],mT 6 5,Pf 7 6 1 1,Pl 8 6 7,p 9 6 (.call .any (.func 120) [(t 8)]),At 10 6 9,mT 11 10,Pf 12 11 2 1,Pl 13 11 12,p 14 11 (.call .any (.func 120) [(t 13)]),At 15 11 14,mT 16 15,Pf 17 16 3 1,Pl 18 16 17,p 19 16 (.bin .geq (t 18) (k (.int .u8 1))),At 20 16 19,mT 21 20,Pf 22 21 3 1,Pl 23 21 22,p 24 21 (.bin .leq (t 23) (k (.int .u8 4))),At 25 21 24,mT 26 25,Pf 27 26 4 1,Pl 28 26 27,p 29 26 (.call .any (.func 121) [(t 28)]),At 30 26 29,mT 31 30,Pf 32 31 5 1,Pl 33 31 32,p 34 31 (.call .any (.func 121) [(t 33)]),At 35 31 34,mT 2 35] .ret))
def a92:AFunc:=⟨36,[(.tmp 2)],c92⟩
theorem n92:a92.ntmps=36:=id rfl
theorem r92:a92.results=[(.tmp 2)]:=rfl
theorem b92:a92.body=c92:=rfl
def N5l:ACode:=(Oz [Bt 15 .lss 14 13] (.seq (Ce 15 0) (.seq (.block 1 (Oz [xT 16 6 12 14,Gt 17 6 16,i 5 (.alloc [(Vi 0),(Vi 0),(Vi 0),(.int .u8 0),(Vi 0),(Vi 0)]),St 6 5 17] (Oz [fT 18 2 5,lT 19 18,fT 20 5 5,lT 21 20,Bc 22 .quo 21 1440,i 23 (.build [(Vi 0),(Vi 0)] [(0,(1,(t 19))),(1,(1,(t 22)))]),i 6 (.alloc [(Vi 0),(Vi 0)]),St 2 6 23] (Oz [fT 24 2 5,lT 25 24,fT 26 4 5,lT 27 26,fT 28 5 5,lT 29 28,fT 30 4 5,lT 31 30,Bt 32 .sub 29 31,i 33 (.build [(Vi 0),(Vi 0),(Vi 0)] [(0,(1,(t 25))),(1,(1,(t 27))),(2,(1,(t 32)))]),i 7 (.alloc [(Vi 0),(Vi 0),(Vi 0)]),St 3 7 33] (Oz [mT 35 3,Gt 36 2 6,i 37 (.lookup (.ints [.i64,.i64]) (.agg #[(Vi 0),(Vi 0),(Vi 0)]) true (t 35) (t 36)),mT 34 37,Et 38 0 34,Et 39 1 34,i 8 (.alloc [(Vi 0),(Vi 0),(Vi 0)]),St 3 8 38,mT 9 39] (Oz [mT 40 9,Ut 41 40,mT 42 41,Qf 43 42 2 7,Ql 44 42 43,Qf 45 42 2 8,Ql 46 42 45,Qb 47 42 .lss 44 46,Ot 48 42 47,mT 49 48,Qf 50 49 2 7,Ql 51 49 50,Qf 52 49 2 8,Ql 53 49 52,Qb 54 49 .eql 51 53,Qm 55 49 54,Pf 56 55 1 7,Pl 57 55 56,Pf 58 55 1 8,Pl 59 55 58,Pb 60 55 .lss 57 59,q 61 49 (.pick (t 55) (t 60) (k (.bool false))),Ot 62 49 61] (.cond (t 62) (.ops [mT 63 3,Gt 64 2 6,Gt 65 3 7,s (.mapUpdate (.ints [.i64,.i64]) (t 63) (t 64) (t 65))]) .skip))))))) (.ops [Bc 66 .add 14 1,mT 14 66]))))
def c93:ACode:=(Oz [i 2 (.mov (k Vz))] (Oz [i 11 (.makeMap none),mT 3 11] (.seq (Oz [mT 12 0,Nt 13 12,Zm 14 0] (Bl 0 N5l)) (Oz [mT 67 3,Ct 68 123 [(t 67)],Ct 69 122 [(t 68),(.func 124)],mT 10 69] (Oz [mT 70 10,Ct 71 126 [(t 70),(.func 127)],mT 2 71] .ret)))))
def a93:AFunc:=⟨72,[(.tmp 2)],c93⟩
theorem n93:a93.ntmps=72:=id rfl
theorem r93:a93.results=[(.tmp 2)]:=rfl
theorem b93:a93.body=c93:=rfl
def c94:ACode:=(Oz [i 3 (.box (t 1)),Zm 4 0] (Ds 0 [fT 5 4 3,lT 6 5,mT 7 0,fT 8 2 3,lT 9 8,fT 10 4 3,lT 11 10,i 12 (.call .pure (.func 128) [(t 7),(t 9),(t 11)]),Bt 13 .add 6 12,i 14 (.minmax true [(t 13),(zT 0)]),fT 15 5 3,lT 16 15,i 17 (.minmax false [(t 14),(t 16)]),mT 4 17] .ret))
def a94:AFunc:=⟨18,[(.tmp 4)],c94⟩
theorem n94:a94.ntmps=18:=id rfl
theorem r94:a94.results=[(.tmp 4)]:=rfl
theorem b94:a94.body=c94:=rfl
def c96:ACode:=(Oz [i 2 (.box (t 0)),i 3 (.box (t 1)),Zm 4 0] (Ds 1 [fT 5 6 2,Kt 6 (.load1 (t 5)) [0],fT 7 6 3,Kt 8 (.load1 (t 7)) [0],Kt 9 (.call .pure (.func 67) [(t 6),(t 8)]) [0],fT 10 0 2,fT 11 3 10,Kt 12 (.load1 (t 11)) [0],fT 13 0 3,fT 14 3 13,Kt 15 (.load1 (t 14)) [0],Kt 16 (.call .pure (.func 131) [(t 12),(t 15)]) [0],fT 17 0 2,fT 18 1 17,Kt 19 (.load1 (t 18)) [0],fT 20 0 3,fT 21 1 20,Kt 22 (.load1 (t 21)) [0],Kt 23 (.call .pure (.func 67) [(t 19),(t 22)]) [0],fT 24 0 2,fT 25 2 24,Kt 26 (.load1 (t 25)) [0],fT 27 0 3,fT 28 2 27,Kt 29 (.load1 (t 28)) [0],Kt 30 (.call .pure (.func 67) [(t 26),(t 29)]) [0],fT 31 0 2,fT 32 0 31,Kt 33 (.load1 (t 32)) [0],fT 34 0 3,fT 35 0 34,Kt 36 (.load1 (t 35)) [0],Kt 37 (.call .pure (.func 67) [(t 33),(t 36)]) [0],fT 38 0 2,fT 39 4 38,Kt 40 (.load1 (t 39)) [0],fT 41 0 3,fT 42 4 41,Kt 43 (.load1 (t 42)) [0],Kt 44 (.call .pure (.func 67) [(t 40),(t 43)]) [0],fT 45 0 2,fT 46 5 45,Kt 47 (.load1 (t 46)) [0],fT 48 0 3,fT 49 5 48,Kt 50 (.load1 (t 49)) [0],Kt 51 (.call .pure (.func 67) [(t 47),(t 50)]) [0],Wt 52 (.buildSlice 7 [(Vi 0),(Vi 0),(Vi 0),(Vi 0),(Vi 0),(Vi 0),(Vi 0)] [(0,(1,(t 9))),(1,(1,(t 16))),(2,(1,(t 23))),(3,(1,(t 30))),(4,(1,(t 37))),(5,(1,(t 44))),(6,(1,(t 51)))]) 0,i 53 (.call .pure (.func 125) [(t 52)]),mT 4 53] .ret))
def a96:AFunc:=⟨54,[(.tmp 4)],c96⟩
theorem n96:a96.ntmps=54:=id rfl
theorem r96:a96.results=[(.tmp 4)]:=rfl
theorem b96:a96.body=c96:=rfl
def N5k:ACode:=(Oz [Bt 14 .lss 13 12] (.seq (Ce 14 0) (.seq (.block 1 (Oz [mT 15 13,xT 16 1 11 13,lT 17 16,mT 4 15,mT 5 17] (.ops [mT 18 3,mT 19 5,mT 20 4,s (.mapUpdate (.int .i64) (t 18) (t 19) (t 20))]))) (.ops [Bc 21 .add 13 1,mT 13 21]))))
def c97:ACode:=(Oz [i 1 (.box (t 0)),i 2 (.mov (k (.map none)))] (Oz [fT 6 0 1,lT 7 6,Nt 8 7,i 9 (.makeMap (some (t 8))),mT 3 9] (.seq (Oz [fT 10 0 1,lT 11 10,Nt 12 11,Zm 13 0] (Bl 0 N5k)) (Oz [mT 22 3,mT 2 22] .ret))))
def a97:AFunc:=⟨23,[(.tmp 2)],c97⟩
theorem n97:a97.ntmps=23:=id rfl
theorem r97:a97.results=[(.tmp 2)]:=rfl
theorem b97:a97.body=c97:=rfl
def c98:ACode:=(Oz [i 5 (.box (t 0)),i 6 (.box (t 1))] (Ds 0 [lT 12 3,fT 13 1 5,lT 14 13,i 15 (.lookup (.int .i64) (Vi 0) false (t 12) (t 14)),i 16 (.idxAddrA 50 1 (t 6) (t 15)),lT 17 16,lT 18 3,fT 19 2 5,lT 20 19,i 21 (.lookup (.int .i64) (Vi 0) false (t 18) (t 20)),mT 8 17,mT 9 21] (.seq (Oz [mT 22 8,Bc 23 .lss 22 0] (.cond (t 23) .ret .skip)) (Oz [Gt 25 8 5,mT 26 8,Ct 27 68 [(t 25),(t 26)],mT 24 27,Et 28 0 24,Et 29 1 24,i 10 (.alloc [(Vi 0),(Vi 0)]),St 2 10 28,mT 11 29] (Ds 0 [mT 30 11,mT 31 30,Pf 32 31 1 10,Pl 33 31 32,Pl 34 31 4,p 35 31 (.bin .add (t 34) (zT 86400)),Pb 36 31 .leq 33 35,At 37 31 36,mT 38 37,Pm 39 38 2,Pm 40 38 9,p 41 38 (.nilCheck (t 39)),p 42 38 (.idxAddrA 50 1 (t 41) (t 40)),Pl 43 38 42,p 44 38 (.bin .lss (t 43) (zT 0)),Pm 45 38 44,Qf 46 45 1 10,Ql 47 45 46,Qm 48 45 2,Qm 49 45 9,q 50 45 (.nilCheck (t 48)),q 51 45 (.idxAddrA 50 1 (t 50) (t 49)),Ql 52 45 51,Qb 53 45 .lss 47 52,p 54 38 (.pick (t 45) (k (.bool true)) (t 53)),At 55 38 54] (.cond (t 55) (.drawn 0 [mT 56 2,mT 57 9,fT 58 1 10,lT 59 58,i 60 (.nilCheck (t 56)),i 61 (.idxAddrA 50 1 (t 60) (t 57)),St 1 61 59]) .skip))))))
def a98:AFunc:=⟨62,[],c98⟩
theorem n98:a98.ntmps=62:=id rfl
theorem r98:a98.results=[]:=rfl
theorem b98:a98.body=c98:=rfl
def Nzn:ACode:=(Oz [Bt 24 .lss 23 22] (.seq (Ce 24 2) (.seq (.block 3 (Oz [xT 25 8 21 23,Gt 26 8 25,i 11 (.alloc [(Vi 0),(Vi 0),(Vi 0),(Vi 0),(Vi 0),(Vi 0),(Vi 0),(.int .u8 0)]),St 8 11 26] (.ops [mT 27 2,Gt 28 8 11,Gt 29 50 8,i 30 (.call .any (t 27) [(t 28),(t 29),(t 9)])]))) (.ops [Bc 31 .add 23 1,mT 23 31]))))
def N5j:ACode:=(.block 1 (Oz [mT 14 7,mT 15 7,Nt 16 15,Bc 17 .sub 16 1,xT 18 50 14 17,Gt 19 50 18,i 8 (.alloc [(Vi 0),(Vi 0),(Vi 0),(Vi 0),(Vi 0),(Vi 0),(Vi 0),(Vi 0),(Vi 0),(Vi 0),(Vi 0),(Vi 0),(Vi 0),(Vi 0),(Vi 0),(Vi 0),(Vi 0),(Vi 0),(Vi 0),(Vi 0),(Vi 0),(Vi 0),(Vi 0),(Vi 0),(Vi 0),(Vi 0),(Vi 0),(Vi 0),(Vi 0),(Vi 0),(Vi 0),(Vi 0),(Vi 0),(Vi 0),(Vi 0),(Vi 0),(Vi 0),(Vi 0),(Vi 0),(Vi 0),(Vi 0),(Vi 0),(Vi 0),(Vi 0),(Vi 0),(Vi 0),(Vi 0),(Vi 0),(Vi 0),(Vi 0)]),St 50 8 19] (Oz [Gt 20 50 8,i 9 (.alloc [(Vi 0),(Vi 0),(Vi 0),(Vi 0),(Vi 0),(Vi 0),(Vi 0),(Vi 0),(Vi 0),(Vi 0),(Vi 0),(Vi 0),(Vi 0),(Vi 0),(Vi 0),(Vi 0),(Vi 0),(Vi 0),(Vi 0),(Vi 0),(Vi 0),(Vi 0),(Vi 0),(Vi 0),(Vi 0),(Vi 0),(Vi 0),(Vi 0),(Vi 0),(Vi 0),(Vi 0),(Vi 0),(Vi 0),(Vi 0),(Vi 0),(Vi 0),(Vi 0),(Vi 0),(Vi 0),(Vi 0),(Vi 0),(Vi 0),(Vi 0),(Vi 0),(Vi 0),(Vi 0),(Vi 0),(Vi 0),(Vi 0),(Vi 0)]),St 50 9 20] (.seq (Oz [mT 21 1,Nt 22 21,Zm 23 0] (Bl 2 Nzn)) (.seq (Oz [Gt 32 50 9,Gt 33 50 8,i 34 (.eqv false (.agg [(.int .i64),(.int .i64),(.int .i64),(.int .i64),(.int .i64),(.int .i64),(.int .i64),(.int .i64),(.int .i64),(.int .i64),(.int .i64),(.int .i64),(.int .i64),(.int .i64),(.int .i64),(.int .i64),(.int .i64),(.int .i64),(.int .i64),(.int .i64),(.int .i64),(.int .i64),(.int .i64),(.int .i64),(.int .i64),(.int .i64),(.int .i64),(.int .i64),(.int .i64),(.int .i64),(.int .i64),(.int .i64),(.int .i64),(.int .i64),(.int .i64),(.int .i64),(.int .i64),(.int .i64),(.int .i64),(.int .i64),(.int .i64),(.int .i64),(.int .i64),(.int .i64),(.int .i64),(.int .i64),(.int .i64),(.int .i64),(.int .i64),(.int .i64)]) (t 32) (t 33))] (.cond (t 34) (Oz [mT 35 7,mT 6 35] .ret) .skip)) (.ops [mT 36 7,Gt 37 50 9,i 38 (.buildSlice 1 [(Vi 0),(Vi 0),(Vi 0),(Vi 0),(Vi 0),(Vi 0),(Vi 0),(Vi 0),(Vi 0),(Vi 0),(Vi 0),(Vi 0),(Vi 0),(Vi 0),(Vi 0),(Vi 0),(Vi 0),(Vi 0),(Vi 0),(Vi 0),(Vi 0),(Vi 0),(Vi 0),(Vi 0),(Vi 0),(Vi 0),(Vi 0),(Vi 0),(Vi 0),(Vi 0),(Vi 0),(Vi 0),(Vi 0),(Vi 0),(Vi 0),(Vi 0),(Vi 0),(Vi 0),(Vi 0),(Vi 0),(Vi 0),(Vi 0),(Vi 0),(Vi 0),(Vi 0),(Vi 0),(Vi 0),(Vi 0),(Vi 0),(Vi 0)] [(0,(50,(t 37)))]),i 39 (.append 50 400 false (t 36) (t 38)),mT 7 39]))))))
def c99:ACode:=(Oz [i 3 (.box (t 0)),i 6 (.mov (k Vz))] (Oz [Gt 12 50 3,i 13 (.buildSlice 1 [(Vi 0),(Vi 0),(Vi 0),(Vi 0),(Vi 0),(Vi 0),(Vi 0),(Vi 0),(Vi 0),(Vi 0),(Vi 0),(Vi 0),(Vi 0),(Vi 0),(Vi 0),(Vi 0),(Vi 0),(Vi 0),(Vi 0),(Vi 0),(Vi 0),(Vi 0),(Vi 0),(Vi 0),(Vi 0),(Vi 0),(Vi 0),(Vi 0),(Vi 0),(Vi 0),(Vi 0),(Vi 0),(Vi 0),(Vi 0),(Vi 0),(Vi 0),(Vi 0),(Vi 0),(Vi 0),(Vi 0),(Vi 0),(Vi 0),(Vi 0),(Vi 0),(Vi 0),(Vi 0),(Vi 0),(Vi 0),(Vi 0),(Vi 0)] [(0,(50,(t 12)))]),mT 7 13] (Bl 0 N5j)))
def a99:AFunc:=⟨40,[(.tmp 6)],c99⟩
theorem n99:a99.ntmps=40:=id rfl
theorem r99:a99.results=[(.tmp 6)]:=rfl
theorem b99:a99.body=c99:=rfl
def MN:ACode:=(.ops [i 7 (.alloc [(Vi 0),(Vi 0)]),St 2 7 31])
def MM:ACode:=(.block 1 (Oz [fT 32 1 7,lT 33 32,lT 34 3,Bt 35 .leq 33 34] (.cond (t 35) (Oz [Gt 36 2 7,St 2 4 36,s (.store 1 (t 5) (k (.bool true)))] .retR) .skip)))
def N8c:ACode:=(.seq (Oz [i 2 (.box (t 0)),i 3 (.box (t 1)),i 4 (.alloc [(Vi 0),(Vi 0)]),i 5 (.alloc [(.bool false)])] (.seq (Oz [Gt 8 8 2,Ct 9 34 [(t 8)],Ut 10 9,mT 11 10,Ql 12 11 3,Qf 13 11 3 2,Ql 14 11 13,Qf 15 11 4 2,Ql 16 11 15,Qb 17 11 .add 14 16,Qb 18 11 .lss 12 17,Ot 19 11 18] (.cond (t 19) (Oz [i 20 (.build [(Vi 0),(Vi 0)] []),St 2 4 20,s (.store 1 (t 5) (k (.bool false)))] .retM) .skip)) (Oz [lT 21 3,i 22 (.minmax false [(t 21),(zT 1051898399)]),St 1 3 22] (Oz [lT 23 3,fT 24 4 2,lT 25 24,Bt 26 .sub 23 25,Bc 27 .quo 26 1440,mT 6 27] (.seq (Oz [Gt 28 8 2,mT 29 6,Ct 30 105 [(t 28),(t 29),(zT (-1))]] (.block 0 (.rangeF (t 30) [31] MN MM))) (Oz [i 37 (.build [(Vi 0),(Vi 0)] []),St 2 4 37,s (.store 1 (t 5) (k (.bool false)))] .retM)))))) .retM)
def Ngc:AFunc:=⟨38,[(.cellN 2 4),(.cell1 5)],N8c⟩
theorem n100:Ngc.ntmps=38:=id rfl
theorem Nxq:Ngc.results=[(.cellN 2 4),(.cell1 5)]:=rfl
theorem Oep:Ngc.body=N8c:=rfl
def N8b:ACode:=(Oz [i 2 (.mov (k Vz))] (Oz [mT 3 0,Ct 4 132 [(k Vz),(t 3)],mT 2 4] .ret))
def Nwf:AFunc:=⟨5,[(.tmp 2)],N8b⟩
theorem n101:Nwf.ntmps=5:=id rfl
theorem N88:Nwf.results=[(.tmp 2)]:=rfl
theorem Oeo:Nwf.body=N8b:=rfl
def Nz2:ACode:=(Oz [Bt 8 .lss 7 6] (.seq (Ce 8 0) (.seq (.block 1 (Oz [xT 9 8 5 7,Gt 10 8 9,i 4 (.alloc [(Vi 0),(Vi 0),(Vi 0),(Vi 0),(Vi 0),(Vi 0),(Vi 0),(.int .u8 0)]),St 8 4 10] (Oz [mT 11 0,Gt 12 8 4,i 13 (.call .any (t 11) [(t 12)]),Ut 14 13] (.cond (t 14) .ret .skip)))) (.ops [Bc 15 .add 7 1,mT 7 15]))))
def N8a:ACode:=(Oz [lT 5 1,Nt 6 5,Zm 7 0] (Bl 0 Nz2))
def Nwe:AFunc:=⟨16,[],N8a⟩
theorem n103:Nwe.ntmps=16:=id rfl
theorem N2v:Nwe.results=[]:=rfl
theorem Oen:Nwe.body=N8a:=rfl
def N79:ACode:=(Oz [i 2 (.mov (k (.bool false)))] (Oz [mT 3 0,mT 4 0,Bt 5 .neq 3 4,mT 2 5] .ret))
def Nwd:AFunc:=⟨6,[(.tmp 2)],N79⟩
theorem n104:Nwd.ntmps=6:=id rfl
theorem Oce:Nwd.results=[(.tmp 2)]:=rfl
theorem Oem:Nwd.body=N79:=rfl
def c105:ACode:=(Oz [i 3 (.box (t 0)),i 4 (.box (t 1)),i 5 (.box (t 2)),i 6 (.mov (k .nilFunc))] (Oz [i 7 (.makeFunc 134 [] [(t 4),(t 5),(t 3)]),mT 6 7] .ret))
def a105:AFunc:=⟨8,[(.tmp 6)],c105⟩
theorem n105:a105.ntmps=8:=id rfl
theorem Ocd:a105.results=[(.tmp 6)]:=rfl
theorem Oel:a105.body=c105:=rfl
def N4j:ACode:=(Oz [i 2 (.mov (k Vz))] (.seq (Oz [mT 3 0,i 4 (.eqv false .slice (t 3) (k Vz))] (.cond (t 4) (Oz [i 2 (.mov (k Vz))] .ret) .skip)) (Oz [i 5 (.buildSlice 0 [] []),mT 6 0,i 7 (.append 1 8 false (t 5) (t 6)),mT 2 7] .ret)))
def Nwc:AFunc:=⟨8,[(.tmp 2)],N4j⟩
theorem n106:Nwc.ntmps=8:=id rfl
theorem N6k:Nwc.results=[(.tmp 2)]:=rfl
theorem Oah:Nwc.body=N4j:=rfl
def c107:ACode:=(Oz [i 4 (.box (t 1)),i 5 (.box (t 2)),Zm 6 0] (.seq (.block 0 (Oz [fT 10 0 4,fT 11 3 10,lT 12 11,i 13 (.bin .eql (t 12) (k (.int .u8 4))),mT 9 13] (.cond (t 9) (Oz [Zm 6 80] .ret) (Oz [fT 15 0 4,fT 16 1 15,lT 17 16,fT 18 0 5,fT 19 1 18,lT 20 19,Bt 21 .eql 17 20,mT 14 21] (.cond (t 14) (Oz [Zm 6 0] .ret) .skip))))) (Ds 0 [mT 22 0,i 23 (.nilCheck (t 22)),fT 24 0 23,fT 25 0 24,lT 26 25,fT 27 0 5,fT 28 1 27,lT 29 28,i 30 (.call .pure (.func 136) [(t 26),(t 29)]),mT 7 30] (.seq (Oz [mT 31 7,Bc 32 .lss 31 0] (.cond (t 32) (Oz [Zm 6 80] .ret) .skip)) (Oz [mT 33 0,fT 34 0 4,fT 35 1 34,lT 36 35,fT 37 6 4,lT 38 37,Ct 39 137 [(t 33),(t 36),(t 38)],mT 8 39] (.seq (Oz [mT 40 7,mT 41 8,Nt 42 41,Bt 43 .geq 40 42,mT 44 43,Qm 45 44 8,Qm 46 44 7,Qx 47 44 1 45 46,Ql 48 44 47,q 49 44 (.bin .lss (t 48) (zT 0)),Ot 50 44 49] (.cond (t 50) (Oz [Zm 6 80] .ret) .skip)) (Ds 0 [mT 51 8,mT 52 7,xT 53 1 51 52,lT 54 53,fT 55 6 5,lT 56 55,Bt 57 .sub 54 56,i 58 (.minmax true [(t 57),(zT 0)]),i 59 (.minmax false [(t 58),(zT 60)]),mT 6 59] .ret)))))))
def a107:AFunc:=⟨60,[(.tmp 6)],c107⟩
theorem n107:a107.ntmps=60:=id rfl
theorem Nn8:a107.results=[(.tmp 6)]:=rfl
theorem Oek:a107.body=c107:=rfl
def N78:ACode:=(Oz [i 2 (.box (t 0)),i 3 (.box (t 1)),i 4 (.mov (k (.bool false)))] (Oz [fT 5 0 2,lT 6 5,fT 7 0 3,lT 8 7,Bt 9 .lss 6 8,mT 10 9,Qf 11 10 0 2,Ql 12 10 11,Qf 13 10 0 3,Ql 14 10 13,Qb 15 10 .eql 12 14,Qm 16 10 15,Pf 17 16 1 2,Pl 18 16 17,Pf 19 16 1 3,Pl 20 16 19,Pb 21 16 .gtr 18 20,q 22 10 (.pick (t 16) (t 21) (k (.bool false))),Ot 23 10 22,mT 4 23] .ret))
def Nwb:AFunc:=⟨24,[(.tmp 4)],N78⟩
theorem n108:Nwb.ntmps=24:=id rfl
theorem N6j:Nwb.results=[(.tmp 4)]:=rfl
theorem Oej:Nwb.body=N78:=rfl
def Nz1:ACode:=(Oz [Bt 55 .lss 54 53] (.seq (Ce 55 0) (.seq (.block 1 (Oz [xT 56 3 52 54,Gt 57 3 56,i 13 (.alloc [(Vi 0),(Vi 0),(Vi 0)]),St 3 13 57] (Oz [Gt 59 2 4,fT 60 0 13,lT 61 60,Ct 62 33 [(t 59),(t 61)],mT 58 62,Et 63 0 58,Et 64 1 58,i 14 (.alloc [(Vi 0),(Vi 0),(Vi 0),(Vi 0),(Vi 0),(Vi 0),(Vi 0),(.int .u8 0)]),St 8 14 63,mT 15 64] (.ops [mT 65 11,fT 66 1 5,lT 67 66,fT 68 0 5,lT 69 68,fT 70 2 14,lT 71 70,i 72 (.build [(.int .u8 0),(Vi 0),(Vi 0),(Vi 0),(Vi 0)] [(0,(1,(k (.int .u8 5)))),(1,(1,(t 67))),(2,(1,(t 69))),(3,(1,(t 71)))]),i 73 (.buildSlice 1 [(.int .u8 0),(Vi 0),(Vi 0),(Vi 0),(Vi 0)] [(0,(5,(t 72)))]),i 74 (.append 5 40 false (t 65) (t 73)),mT 11 74])))) (.ops [Bc 75 .add 54 1,mT 54 75]))))
def c109:ACode:=(Oz [i 3 (.box (t 0)),i 4 (.box (t 1)),i 5 (.box (t 2)),i 6 (.mov (k Vz))] (Ds 2 [fT 16 0 3,Kt 17 (.load1 (t 16)) [0,1],fT 18 0 5,Kt 19 (.load1 (t 18)) [0,1],xT 20 7 17 19,Kt 21 (.loadN 7 (t 20)) [0,1],fT 22 0 3,Kt 23 (.load1 (t 22)) [0,1],fT 24 1 5,Kt 25 (.load1 (t 24)) [0,1],xT 26 7 23 25,Kt 27 (.loadN 7 (t 26)) [0,1],Wt 7 (.alloc [(Vi 0),(Vi 0),(Vi 0),(.int .u8 0),(Vi 0),(Vi 0),(Vi 0)]) 0,Wt 8 (.alloc [(Vi 0),(Vi 0),(Vi 0),(.int .u8 0),(Vi 0),(Vi 0),(Vi 0)]) 1,⟨none,none,(.storeD 7 (t 7) (t 21)),(some 0),[]⟩,⟨none,none,(.storeD 7 (t 8) (t 27)),(some 1),[]⟩] (Oz [Gt 29 2 4,fT 30 0 7,fT 31 1 30,lT 32 31,fT 33 0 8,fT 34 1 33,lT 35 34,fT 36 6 7,lT 37 36,Ct 38 32 [(t 29),(t 32),(t 35),(t 37)],mT 28 38,Et 39 0 28,Et 40 1 28,mT 9 39,mT 10 40] (.seq (Oz [mT 41 10,Bc 42 .neq 41 0,mT 43 42,Qm 44 43 9,q 45 43 (.lenSlice (t 44)),q 46 43 (.bin .eql (t 45) (zT 0)),Ot 47 43 46] (.cond (t 47) (Oz [i 6 (.mov (k Vz))] .ret) .skip)) (Oz [i 11 (.mov (k Vz))] (.seq (Oz [mT 48 9,mT 49 9,Nt 50 49,Bc 51 .sub 50 1,i 52 (.sliceS 3 (t 48) none (some (t 51)) none),Nt 53 52,Zm 54 0] (Bl 0 Nz1)) (Oz [mT 76 11,mT 6 76] .ret)))))))
def a109:AFunc:=⟨77,[(.tmp 6)],c109⟩
theorem n109:a109.ntmps=77:=id rfl
theorem Nn7:a109.results=[(.tmp 6)]:=rfl
theorem Oei:a109.body=c109:=rfl
def N77:ACode:=(Oz [i 2 (.box (t 0)),i 3 (.mov (k (.bool false)))] (Oz [fT 4 0 2,fT 5 1 4,lT 6 5,fT 7 0 1,fT 8 1 7,lT 9 8,Bt 10 .eql 6 9,mT 11 10,Pf 12 11 0 2,Pf 13 11 3 12,Pl 14 11 13,Pf 15 11 0 1,Pf 16 11 3 15,Pl 17 11 16,Pb 18 11 .eql 14 17,At 19 11 18,mT 3 19] .ret))
def Nwa:AFunc:=⟨20,[(.tmp 3)],N77⟩
theorem n110:Nwa.ntmps=20:=id rfl
theorem N6i:Nwa.results=[(.tmp 3)]:=rfl
theorem Oeh:Nwa.body=N77:=rfl
def N76:ACode:=(Oz [i 2 (.mov (k (.bool false)))] (Oz [mT 3 0,Bc 4 .geq 3 1,mT 5 4,Pm 6 5 0,p 7 5 (.bin .leq (t 6) (zT 999999)),At 8 5 7,mT 2 8] .ret))
def Nv9:AFunc:=⟨9,[(.tmp 2)],N76⟩
theorem n120:Nv9.ntmps=9:=id rfl
theorem N87:Nv9.results=[(.tmp 2)]:=rfl
theorem Oeg:Nv9.body=N76:=rfl
def N75:ACode:=(Oz [i 2 (.mov (k (.bool false)))] (Oz [mT 3 0,Bc 4 .geq 3 0,mT 5 4,Pm 6 5 0,p 7 5 (.bin .leq (t 6) (zT 1051898399)),At 8 5 7,mT 2 8] .ret))
def Nv8:AFunc:=⟨9,[(.tmp 2)],N75⟩
theorem n121:Nv8.ntmps=9:=id rfl
theorem N86:Nv8.results=[(.tmp 2)]:=rfl
theorem Oef:Nv8.body=N75:=rfl
def N74:ACode:=(Oz [i 4 (.mov (k Vz))] (Oz [mT 6 0,Ct 7 141 [(t 6)],mT 5 7] (Oz [mT 8 5,mT 9 1,Ct 10 142 [(t 8),(t 9)]] (Oz [mT 11 5,mT 4 11] .ret))))
def Nv7:AFunc:=⟨12,[(.tmp 4)],N74⟩
theorem n122:Nv7.ntmps=12:=id rfl
theorem N6h:Nv7.results=[(.tmp 4)]:=rfl
theorem Oee:Nv7.body=N74:=rfl
def N73:ACode:=(Oz [i 1 (.box (t 0)),i 2 (.mov (k .nilFunc))] (Oz [i 3 (.makeFunc 143 [] [(t 1)]),mT 2 3] .ret))
def Nv6:AFunc:=⟨4,[(.tmp 2)],N73⟩
theorem n123:Nv6.ntmps=4:=id rfl
theorem Occ:Nv6.results=[(.tmp 2)]:=rfl
theorem Oed:Nv6.body=N73:=rfl
def c124:ACode:=(Oz [i 2 (.box (t 0)),i 3 (.box (t 1)),Zm 4 0] (Ds 1 [fT 5 0 2,Kt 6 (.load1 (t 5)) [0],fT 7 0 3,Kt 8 (.load1 (t 7)) [0],Kt 9 (.call .pure (.func 67) [(t 6),(t 8)]) [0],fT 10 1 2,Kt 11 (.load1 (t 10)) [0],fT 12 1 3,Kt 13 (.load1 (t 12)) [0],Kt 14 (.call .pure (.func 67) [(t 11),(t 13)]) [0],fT 15 2 2,Kt 16 (.load1 (t 15)) [0],fT 17 2 3,Kt 18 (.load1 (t 17)) [0],Kt 19 (.call .pure (.func 67) [(t 16),(t 18)]) [0],Wt 20 (.buildSlice 3 [(Vi 0),(Vi 0),(Vi 0)] [(0,(1,(t 9))),(1,(1,(t 14))),(2,(1,(t 19)))]) 0,i 21 (.call .pure (.func 125) [(t 20)]),mT 4 21] .ret))
def a124:AFunc:=⟨22,[(.tmp 4)],c124⟩
theorem n124:a124.ntmps=22:=id rfl
theorem Ocb:a124.results=[(.tmp 4)]:=rfl
theorem Oec:a124.body=c124:=rfl
def Nz0:ACode:=(Oz [Bt 9 .lss 8 7] (.seq (Ce 9 0) (.seq (.block 1 (Oz [xT 10 1 6 8,lT 11 10,mT 5 11] (Oz [mT 12 5,mT 13 3,Bt 14 .neq 12 13] (.cond (t 14) (Oz [mT 15 5,mT 2 15] .ret) .skip)))) (.ops [Bc 16 .add 8 1,mT 8 16]))))
def N72:ACode:=(Oz [Zm 2 0] (Oz [Zm 3 0] (.seq (Oz [mT 6 0,Nt 7 6,Zm 8 0] (Bl 0 Nz0)) (Oz [mT 17 3,mT 2 17] .ret))))
def Nv5:AFunc:=⟨18,[(.tmp 2)],N72⟩
theorem n125:Nv5.ntmps=18:=id rfl
theorem N2u:Nv5.results=[(.tmp 2)]:=rfl
theorem Oeb:Nv5.body=N72:=rfl
def Nzz:ACode:=(.seq (Oz [mT 32 7,mT 33 6,Nt 34 33,Bt 35 .lss 32 34] (Ce 35 2)) (.seq (.block 3 (Ds 0 [mT 38 1,mT 39 6,mT 40 7,xT 41 3 39 40,Gt 42 3 41,mT 43 6,mT 44 7,Bc 45 .sub 44 1,xT 46 3 43 45,Gt 47 3 46,i 48 (.call .pure (t 38) [(t 42),(t 47)]),Ut 49 48] (.cond (t 49) (Oz [mT 50 0,mT 51 5,mT 52 6,mT 53 7,xT 54 3 52 53,Gt 55 3 54,xT 56 3 50 51,St 3 56 55] (.ops [mT 57 5,Bc 58 .add 57 1,mT 5 58])) .skip))) (.ops [mT 36 7,Bc 37 .add 36 1,mT 7 37])))
def Nzy:ACode:=(.seq (Oz [mT 12 5,mT 13 0,Nt 14 13,Bt 15 .lss 12 14] (Ce 15 0)) (.seq (.block 1 (Ds 0 [mT 18 1,mT 19 0,mT 20 5,xT 21 3 19 20,Gt 22 3 21,mT 23 0,mT 24 5,Bc 25 .sub 24 1,xT 26 3 23 25,Gt 27 3 26,i 28 (.call .pure (t 18) [(t 22),(t 27)])] (.cond (t 28) (Oz [mT 29 0,mT 30 5,i 31 (.sliceS 3 (t 29) (some (t 30)) none none),mT 6 31] (.seq (Oz [Zm 7 1] (Bl 2 Nzz)) (Oz [mT 59 0,mT 60 5,i 61 (.sliceS 3 (t 59) (some (t 60)) none none),s (.clear [(Vi 0),(Vi 0),(Vi 0)] (t 61))] (Oz [mT 62 0,mT 63 5,i 64 (.sliceS 3 (t 62) none (some (t 63)) none),mT 4 64] .ret)))) .skip))) (.ops [mT 16 5,Bc 17 .add 16 1,mT 5 17])))
def N4i:ACode:=(Oz [i 4 (.mov (k Vz))] (.seq (Oz [mT 8 0,Nt 9 8,Bc 10 .lss 9 2] (.cond (t 10) (Oz [mT 11 0,mT 4 11] .ret) .skip)) (.seq (Oz [Zm 5 1] (Bl 0 Nzy)) (Oz [mT 65 0,mT 4 65] .ret))))
def Nv4:AFunc:=⟨66,[(.tmp 4)],N4i⟩
theorem n126:Nv4.ntmps=66:=id rfl
theorem Nh5:Nv4.results=[(.tmp 4)]:=rfl
theorem Oag:Nv4.body=N4i:=rfl
def c127:ACode:=(Oz [i 2 (.box (t 0)),i 3 (.box (t 1)),i 4 (.mov (k (.bool false)))] (Oz [fT 5 0 2,lT 6 5,fT 7 0 3,lT 8 7,Bt 9 .eql 6 8,mT 10 9,Pf 11 10 1 2,Pl 12 10 11,Pf 13 10 1 3,Pl 14 10 13,Pb 15 10 .eql 12 14,At 16 10 15,mT 4 16] .ret))
def a127:AFunc:=⟨17,[(.tmp 4)],c127⟩
theorem n127:a127.ntmps=17:=id rfl
theorem N85:a127.results=[(.tmp 4)]:=rfl
theorem Oea:a127.body=c127:=rfl
def UX:ACode:=(.ops [i 8 (.alloc [(Vi 0),(Vi 0),(Vi 0)]),St 3 8 12])
def UW:ACode:=(.block 1 (.block 2 (Oz [lT 33 5,fT 34 1 8,lT 35 34,Bt 36 .gtr 33 35,mT 32 36] (.cond (t 32) (.ops [Gt 37 3 8,St 3 7 37]) (Oz [Gt 39 3 7,i 40 (.build [(Vi 0),(Vi 0),(Vi 0)] []),i 41 (.eqv false (.agg [(.int .i64),(.int .i64),(.int .i64)]) (t 39) (t 40)),mT 38 41] (.cond (t 38) (Oz [fT 42 2 8,lT 43 42,St 1 6 43] .retR) (Ds 0 [fT 13 2 7,lT 14 13,fT 15 2 8,lT 16 15,fT 17 2 7,lT 18 17,Bt 19 .sub 16 18,lT 20 5,fT 21 1 7,lT 22 21,Bt 23 .sub 20 22,Bt 24 .mul 19 23,fT 25 1 8,lT 26 25,fT 27 1 7,lT 28 27,Bt 29 .sub 26 28,i 30 (.call .pure (.func 145) [(t 24),(t 29)]),Bt 31 .add 14 30,St 1 6 31] .retR)))))))
def N71:ACode:=(.seq (Oz [i 5 (.box (t 2)),i 6 (.alloc [(Vi 0)])] (Oz [i 7 (.alloc [(Vi 0),(Vi 0),(Vi 0)])] (.seq (Oz [mT 9 0,mT 10 1,Ct 11 144 [(t 9),(t 10)]] (.block 0 (.rangeF (t 11) [12] UX UW))) (Oz [fT 44 2 7,lT 45 44,St 1 6 45] .retM)))) .retM)
def Nje:AFunc:=⟨46,[(.cell1 6)],N71⟩
theorem n128:Nje.ntmps=46:=id rfl
theorem Nxp:Nje.results=[(.cell1 6)]:=rfl
theorem Od9:Nje.body=N71:=rfl
def c131:ACode:=(Oz [Zm 4 0] (Oz [mT 7 0,Ct 8 156 [(t 7)],mT 5 8] (Oz [mT 9 1,Ct 10 156 [(t 9)],mT 6 10] (.seq (Oz [mT 11 5] (.cond (t 11) (.seq (Oz [mT 12 6] (.cond (t 12) (Oz [Zm 4 0] .ret) .skip)) (Oz [Zm 4 (-1)] .ret)) .skip)) (.seq (Oz [mT 13 6] (.cond (t 13) (Oz [Zm 4 1] .ret) .skip)) (.seq (Oz [mT 14 0,mT 15 1,Bt 16 .lss 14 15] (.cond (t 16) (Oz [Zm 4 (-1)] .ret) .skip)) (.seq (Oz [mT 17 0,mT 18 1,Bt 19 .gtr 17 18] (.cond (t 19) (Oz [Zm 4 1] .ret) .skip)) (Oz [Zm 4 0] .ret))))))))
def a131:AFunc:=⟨20,[(.tmp 4)],c131⟩
theorem n131:a131.ntmps=20:=id rfl
theorem N84:a131.results=[(.tmp 4)]:=rfl
theorem Od8:a131.body=c131:=rfl
def XN:ACode:=(.ops [i 5 (.alloc [(Vi 0),(Vi 0),(Vi 0),(Vi 0),(Vi 0),(Vi 0),(Vi 0),(.int .u8 0)]),St 8 5 7])
def XM:ACode:=(.block 1 (.ops [lT 8 2,Gt 9 8 5,i 10 (.buildSlice 1 [(Vi 0),(Vi 0),(Vi 0),(Vi 0),(Vi 0),(Vi 0),(Vi 0),(.int .u8 0)] [(0,(8,(t 9)))]),i 11 (.append 8 64 false (t 8) (t 10)),St 1 2 11]))
def N70:ACode:=(.seq (Oz [i 2 (.box (t 0)),i 4 (.mov (k Vz))] (.seq (Oz [mT 6 1] (.block 0 (.rangeF (t 6) [7] XN XM))) (Oz [lT 12 2,mT 4 12] .retM))) .retM)
def Ngb:AFunc:=⟨13,[(.tmp 4)],N70⟩
theorem n132:Ngb.ntmps=13:=id rfl
theorem N83:Ngb.results=[(.tmp 4)]:=rfl
theorem Od7:Ngb.body=N70:=rfl
def Nzw:ACode:=(.seq (Oz [lT 7 1,Bc 8 .geq 7 0,mT 9 8,Pl 10 9 1,p 11 9 (.bin .leq (t 10) (zT 730484)),At 12 9 11] (Ce 12 0)) (.seq (.block 1 (Oz [Gt 17 8 3,lT 18 1,Ct 19 135 [(t 17),(t 18)],mT 16 19,Et 20 0 16,Et 21 1 16,i 5 (.alloc [(Vi 0),(Vi 0)]),St 2 5 20,mT 6 21] (Oz [mT 22 6,mT 23 22,Pm 24 23 0,p 25 23 (.loadN 2 (t 5)),p 26 23 (.call .any (t 24) [(t 25)]),p 27 23 (.un .not (t 26)),At 28 23 27] (.cond (t 28) .ret .skip)))) (.ops [lT 13 1,lT 14 2,Bt 15 .add 13 14,St 1 1 15])))
def N7z:ACode:=(Bl 0 Nzw)
def Nqq:AFunc:=⟨29,[],N7z⟩
theorem n134:Nqq.ntmps=29:=id rfl
theorem Nn6:Nqq.results=[]:=rfl
theorem Od6:Nqq.body=N7z:=rfl
def N7y:ACode:=(Oz [i 2 (.box (t 0)),i 4 (.alloc [(Vi 0),(Vi 0)]),i 5 (.mov (k (.bool false)))] (Oz [mT 7 1,i 8 (.bin .mul (zT 1440) (t 7)),fT 9 3 2,lT 10 9,Bt 11 .add 8 10,mT 6 11] (.seq (Oz [fT 12 7 2,lT 13 12,mT 14 1,Bc 15 .rem 14 7,Bt 16 .shr 13 15,i 17 (.bin .and (t 16) (k (.int .u8 1))),i 18 (.bin .eql (t 17) (k (.int .u8 0))),mT 19 18,Qm 20 19 6,Qf 21 19 5 2,Ql 22 19 21,Qb 23 19 .sub 20 22,q 24 19 (.bin .lss (t 23) (zT 0)),Ot 25 19 24,mT 26 25,Qm 27 26 6,Qf 28 26 4 2,Ql 29 26 28,Qb 30 26 .add 27 29,q 31 26 (.bin .gtr (t 30) (zT 1051898399)),Ot 32 26 31] (.cond (t 32) (Oz [i 33 (.build [(Vi 0),(Vi 0)] []),St 2 4 33,i 5 (.mov (k (.bool false)))] .ret) .skip)) (Oz [mT 34 6,mT 35 6,fT 36 4 2,lT 37 36,Bt 38 .add 35 37,i 39 (.build [(Vi 0),(Vi 0)] [(0,(1,(t 34))),(1,(1,(t 38)))]),St 2 4 39,i 5 (.mov (k (.bool true)))] .ret))))
def Nv3:AFunc:=⟨40,[(.cellN 2 4),(.tmp 5)],N7y⟩
theorem n135:Nv3.ntmps=40:=id rfl
theorem N82:Nv3.results=[(.cellN 2 4),(.tmp 5)]:=rfl
theorem Od5:Nv3.body=N7y:=rfl
def Nzv:ACode:=(Oz [Bt 9 .lss 8 7] (.seq (Ce 9 0) (.seq (.block 1 (Oz [mT 10 8,mT 5 10] (Oz [mT 11 1,mT 12 0,mT 13 5,xT 14 1 12 13,lT 15 14,Bt 16 .eql 11 15] (.cond (t 16) (Oz [mT 17 5,mT 4 17] .ret) .skip)))) (.ops [Bc 18 .add 8 1,mT 8 18]))))
def N7x:ACode:=(Oz [Zm 4 0] (.seq (Oz [mT 6 0,Nt 7 6,Zm 8 0] (Bl 0 Nzv)) (Oz [Zm 4 (-1)] .ret)))
def Nv2:AFunc:=⟨19,[(.tmp 4)],N7x⟩
theorem n136:Nv2.ntmps=19:=id rfl
theorem N2t:Nv2.results=[(.tmp 4)]:=rfl
theorem Od4:Nv2.body=N7x:=rfl
def N7w:ACode:=(Oz [i 6 (.mov (k Vz))] (Oz [mT 11 1,mT 12 2,i 13 (.build [(Vi 0),(Vi 0)] [(0,(1,(t 11))),(1,(1,(t 12)))]),i 7 (.alloc [(Vi 0),(Vi 0)]),St 2 7 13] (Ds 0 [mT 15 0,i 16 (.nilCheck (t 15)),fT 17 2 16,lT 18 17,Gt 19 2 7,i 20 (.lookup (.ints [.i64,.i64]) Vz true (t 18) (t 19)),mT 14 20,Et 21 0 14,Et 22 1 14,mT 8 21,mT 9 22] (.seq (Oz [mT 23 9,Ut 24 23] (.cond (t 24) (Oz [Zm 10 0] (.seq (Oz [mT 26 0,i 27 (.nilCheck (t 26)),fT 28 0 27,Gt 29 2 28,mT 30 1,mT 31 2,Ct 32 165 [(t 29),(t 30),(t 31)],mT 25 32,Et 33 0 25,Et 34 1 25,mT 8 33,mT 10 34] (Oz [mT 35 10,Bc 36 .neq 35 0] (.cond (t 36) (.ops [i 8 (.mov (k Vz))]) .skip))) (.drawn 0 [mT 37 0,i 38 (.nilCheck (t 37)),fT 39 2 38,lT 40 39,Gt 41 2 7,mT 42 8,s (.mapUpdate (.ints [.i64,.i64]) (t 40) (t 41) (t 42))]))) .skip)) (Oz [mT 43 8,mT 6 43] .ret)))))
def Nv1:AFunc:=⟨44,[(.tmp 6)],N7w⟩
theorem n137:Nv1.ntmps=44:=id rfl
theorem N2s:Nv1.results=[(.tmp 6)]:=rfl
theorem Od3:Nv1.body=N7w:=rfl
def c141:ACode:=(Oz [i 2 (.mov (k Vz))] (Oz [mT 3 0,Ct 4 167 [(k Vz),(t 3)],mT 2 4] .ret))
def a141:AFunc:=⟨5,[(.tmp 2)],c141⟩
theorem n141:a141.ntmps=5:=id rfl
theorem N81:a141.results=[(.tmp 2)]:=rfl
theorem Od2:a141.body=c141:=rfl
def Nzu:ACode:=(Oz [Wt 7 (.mov (t 6)) 2,Et 8 0 7] (.seq (Ce 8 0) (.block 1 (Oz [Wt 9 (.mov (t 6)) 3,Et 10 1 9,i 4 (.alloc [(Vi 0),(Vi 0),(Vi 0)]),St 3 4 10] (Oz [mT 11 0,Gt 12 3 4,i 13 (.call .any (t 11) [(t 12)]),Ut 14 13] (.cond (t 14) .ret .skip))))))
def c143:ACode:=(Oz [lT 5 1,Wt 6 (.mov (t 5)) 1] (Bl 0 Nzu))
def a143:AFunc:=⟨15,[],c143⟩
theorem n143:a143.ntmps=15:=id rfl
theorem Nxo:a143.results=[]:=rfl
theorem Od1:a143.body=c143:=rfl
def N7v:ACode:=(Oz [i 2 (.box (t 0)),i 3 (.box (t 1)),i 4 (.mov (k .nilFunc))] (Oz [i 5 (.makeFunc 169 [] [(t 2),(t 3)]),mT 4 5] .ret))
def Nv0:AFunc:=⟨6,[(.tmp 4)],N7v⟩
theorem n144:Nv0.ntmps=6:=id rfl
theorem Oca:Nv0.results=[(.tmp 4)]:=rfl
theorem Od0:Nv0.body=N7v:=rfl
def c145:ACode:=(Oz [Zm 4 0] (Oz [mT 6 0,mT 7 1,Bt 8 .quo 6 7,mT 5 8] (.seq (Oz [mT 9 0,mT 10 1,Bt 11 .rem 9 10,Bc 12 .lss 11 0] (.cond (t 12) (.ops [mT 13 5,Bc 14 .sub 13 1,mT 5 14]) .skip)) (Oz [mT 15 5,mT 4 15] .ret))))
def a145:AFunc:=⟨16,[(.tmp 4)],c145⟩
theorem n145:a145.ntmps=16:=id rfl
theorem N80:a145.results=[(.tmp 4)]:=rfl
theorem Odz:a145.body=c145:=rfl
def c154:ACode:=(Oz [Zm 2 0] (.seq (Oz [mT 3 0,i 4 (.bin .geq (t 3) (k (.int .u32 65536)))] (.cond (t 4) (Oz [mT 5 0,i 6 (.bin .shr (t 5) (k (.int .u64 16))),mT 0 6] (.ops [Zm 2 16])) .skip)) (.seq (Oz [mT 7 0,i 8 (.bin .geq (t 7) (k (.int .u32 256)))] (.cond (t 8) (Oz [mT 9 0,i 10 (.bin .shr (t 9) (k (.int .u64 8))),mT 0 10] (.ops [mT 11 2,Bc 12 .add 11 8,mT 2 12])) .skip)) (Oz [mT 13 2,mT 14 0,i 15 (.conv .u8 (t 14)),i 16 (.idxStr (k (.string ⟨#[0,1,2,2,3,3,3,3,4,4,4,4,4,4,4,4,5,5,5,5,5,5,5,5,5,5,5,5,5,5,5,5,6,6,6,6,6,6,6,6,6,6,6,6,6,6,6,6,6,6,6,6,6,6,6,6,6,6,6,6,6,6,6,6,7,7,7,7,7,7,7,7,7,7,7,7,7,7,7,7,7,7,7,7,7,7,7,7,7,7,7,7,7,7,7,7,7,7,7,7,7,7,7,7,7,7,7,7,7,7,7,7,7,7,7,7,7,7,7,7,7,7,7,7,7,7,7,7,8,8,8,8,8,8,8,8,8,8,8,8,8,8,8,8,8,8,8,8,8,8,8,8,8,8,8,8,8,8,8,8,8,8,8,8,8,8,8,8,8,8,8,8,8,8,8,8,8,8,8,8,8,8,8,8,8,8,8,8,8,8,8,8,8,8,8,8,8,8,8,8,8,8,8,8,8,8,8,8,8,8,8,8,8,8,8,8,8,8,8,8,8,8,8,8,8,8,8,8,8,8,8,8,8,8,8,8,8,8,8,8,8,8,8,8,8,8,8,8,8,8,8,8,8,8,8,8]⟩)) (t 15)),i 17 (.conv .i64 (t 16)),Bt 18 .add 13 17,mT 2 18] .ret))))
def a154:AFunc:=⟨19,[(.tmp 2)],c154⟩
def c156:ACode:=(Oz [i 2 (.mov (k (.bool false)))] (Oz [mT 3 0,mT 4 0,Bt 5 .neq 3 4,mT 2 5] .ret))
def a156:AFunc:=⟨6,[(.tmp 2)],c156⟩
theorem n156:a156.ntmps=6:=id rfl
theorem Ob9:a156.results=[(.tmp 2)]:=rfl
theorem Ody:a156.body=c156:=rfl
def N7u:ACode:=(Oz [i 3 (.box (t 0)),i 6 (.mov (k Vz)),Zm 7 0] (Oz [Gt 13 2 3,mT 14 1,mT 15 1,mT 16 2,Ct 17 58 [(t 13),(t 14),(t 15),(t 16)],mT 12 17,Et 18 0 12,Et 19 1 12,mT 8 18,mT 9 19] (.seq (Oz [mT 20 9,Bc 21 .neq 20 0] (.cond (t 21) (Oz [mT 22 9,i 6 (.mov (k Vz)),mT 7 22] .ret) .skip)) (Oz [Gt 23 2 3,mT 24 8,mT 25 1,mT 26 2,Ct 27 59 [(t 23),(t 24),(t 25),(t 26)],mT 10 27] (Oz [mT 28 10,mT 29 10,Nt 30 29,Bc 31 .sub 30 1,xT 32 50 28 31,Gt 33 50 32,i 11 (.alloc [(Vi 0),(Vi 0),(Vi 0),(Vi 0),(Vi 0),(Vi 0),(Vi 0),(Vi 0),(Vi 0),(Vi 0),(Vi 0),(Vi 0),(Vi 0),(Vi 0),(Vi 0),(Vi 0),(Vi 0),(Vi 0),(Vi 0),(Vi 0),(Vi 0),(Vi 0),(Vi 0),(Vi 0),(Vi 0),(Vi 0),(Vi 0),(Vi 0),(Vi 0),(Vi 0),(Vi 0),(Vi 0),(Vi 0),(Vi 0),(Vi 0),(Vi 0),(Vi 0),(Vi 0),(Vi 0),(Vi 0),(Vi 0),(Vi 0),(Vi 0),(Vi 0),(Vi 0),(Vi 0),(Vi 0),(Vi 0),(Vi 0),(Vi 0)]),St 50 11 33] (Oz [fT 34 0 3,lT 35 34,Nt 36 35,i 37 (.sliceA 50 1 (t 11) none (some (t 36)) none),Ct 38 106 [(t 37)],mT 6 38,Zm 7 0] .ret))))))
def Nvz:AFunc:=⟨39,[(.tmp 6),(.tmp 7)],N7u⟩
theorem n165:Nvz.ntmps=39:=id rfl
theorem Nxn:Nvz.results=[(.tmp 6),(.tmp 7)]:=rfl
theorem Odx:Nvz.body=N7u:=rfl
def WH:ACode:=(.ops [i 5 (.alloc [(Vi 0),(Vi 0),(Vi 0)]),St 3 5 7])
def WG:ACode:=(.block 1 (.ops [lT 8 2,Gt 9 3 5,i 10 (.buildSlice 1 [(Vi 0),(Vi 0),(Vi 0)] [(0,(3,(t 9)))]),i 11 (.append 3 24 false (t 8) (t 10)),St 1 2 11]))
def c167:ACode:=(.seq (Oz [i 2 (.box (t 0)),i 4 (.mov (k Vz))] (.seq (Oz [mT 6 1] (.block 0 (.rangeF (t 6) [7] WH WG))) (Oz [lT 12 2,mT 4 12] .retM))) .retM)
def a167:AFunc:=⟨13,[(.tmp 4)],c167⟩
theorem n167:a167.ntmps=13:=id rfl
theorem N6g:a167.results=[(.tmp 4)]:=rfl
theorem Odw:a167.body=c167:=rfl
def Nzt:ACode:=(Oz [Bt 16 .lss 15 14] (.seq (Ce 16 0) (.seq (.block 1 (Oz [xT 17 3 13 15,Gt 18 3 17,i 6 (.alloc [(Vi 0),(Vi 0),(Vi 0)]),St 3 6 18] (Oz [fT 19 0 6,lT 20 19,lT 21 2,Bt 22 .neq 20 21,mT 23 22,Qm 24 23 0,q 25 23 (.loadN 3 (t 6)),q 26 23 (.call .any (t 24) [(t 25)]),q 27 23 (.un .not (t 26)),Ot 28 23 27] (.cond (t 28) .ret .skip)))) (.ops [Bc 29 .add 15 1,mT 15 29]))))
def N7t:ACode:=(Oz [lT 7 1,Nt 8 7,i 9 (.makeFunc 171 [] [(t 1),(t 2)]),Ct 10 170 [(t 8),(t 9)],mT 4 10] (Oz [lT 11 1,mT 12 4,i 13 (.sliceS 3 (t 11) (some (t 12)) none none),Nt 14 13,Zm 15 0] (Bl 0 Nzt)))
def Nvy:AFunc:=⟨30,[],N7t⟩
theorem n169:Nvy.ntmps=30:=id rfl
theorem Nsy:Nvy.results=[]:=rfl
theorem Odv:Nvy.body=N7t:=rfl
def Nzs:ACode:=(.seq (Oz [mT 9 5,mT 10 6,Bt 11 .lss 9 10] (Ce 11 0)) (.block 1 (Oz [mT 12 5,mT 13 6,Bt 14 .add 12 13,i 15 (.conv .u64 (t 14)),i 16 (.bin .shr (t 15) (k (.int .u64 1))),i 17 (.conv .i64 (t 16)),mT 7 17] (Oz [mT 18 1,mT 19 7,i 20 (.call .any (t 18) [(t 19)]),Ut 21 20] (.cond (t 21) (.ops [mT 22 7,Bc 23 .add 22 1,mT 5 23]) (.ops [mT 24 7,mT 6 24]))))))
def N7s:ACode:=(Oz [Zm 4 0] (Oz [mT 8 0,Zm 5 0,mT 6 8] (.seq (Bl 0 Nzs) (Oz [mT 25 5,mT 4 25] .ret))))
def Nvx:AFunc:=⟨26,[(.tmp 4)],N7s⟩
theorem n170:Nvx.ntmps=26:=id rfl
theorem N2r:Nvx.results=[(.tmp 4)]:=rfl
theorem Odu:Nvx.body=N7s:=rfl
def c171:ACode:=(Oz [i 4 (.mov (k (.bool false)))] (Ds 0 [lT 5 1,mT 6 0,xT 7 3 5 6,fT 8 0 7,lT 9 8,lT 10 2,Bt 11 .geq 9 10,mT 4 11] .ret))
def a171:AFunc:=⟨12,[(.tmp 4)],c171⟩
theorem n171:a171.ntmps=12:=id rfl
theorem Ob8:a171.results=[(.tmp 4)]:=rfl
theorem Odt:a171.body=c171:=rfl
def table:List (FuncId×AFunc):=[(8,a8),(12,a12),(13,a13),(17,a17),(18,a18),(27,a27),(28,a28),(30,a30),(31,a31),(32,a32),(33,a33),(34,a34),(35,a35),(36,a36),(37,a37),(38,a38),(39,a39),(55,a55),(56,a56),(58,a58),(59,a59),(60,a60),(61,a61),(62,a62),(63,a63),(64,a64),(65,a65),(66,a66),(67,a67),(68,a68),(69,a69),(70,a70),(71,a71),(72,a72),(73,a73),(74,a74),(75,a75),(76,a76),(77,a77),(92,a92),(93,a93),(94,a94),(96,a96),(97,a97),(98,a98),(99,a99),(100,Ngc),(101,Nwf),(103,Nwe),(104,Nwd),(105,a105),(106,Nwc),(107,a107),(108,Nwb),(109,a109),(110,Nwa),(120,Nv9),(121,Nv8),(122,Nv7),(123,Nv6),(124,a124),(125,Nv5),(126,Nv4),(127,a127),(128,Nje),(131,a131),(132,Ngb),(134,Nqq),(135,Nv3),(136,Nv2),(137,Nv1),(141,a141),(143,a143),(144,Nv0),(145,a145),(154,a154),(156,a156),(165,Nvz),(167,a167),(169,Nvy),(170,Nvx),(171,a171),(95,Srt.aSORT zE),(102,Srt.aSORT zL),(129,Srt.aPDQ zE),(130,Srt.aLEN zE),(133,Srt.aPDQ zL),(142,Srt.aSORT zM),(146,Srt.aINS zE),(147,Srt.aHEAP zE),(148,Srt.aBRK zE),(149,Srt.aCHO zE),(150,Srt.aREV zE),(151,Srt.aPIS zE),(152,Srt.aPEQ zE),(153,Srt.aPART zE),(155,Srt.aLEN64 zE),(157,Srt.aINS zL),(158,Srt.aHEAP zL),(159,Srt.aBRK zL),(160,Srt.aCHO zL),(161,Srt.aREV zL),(162,Srt.aPIS zL),(163,Srt.aPEQ zL),(164,Srt.aPART zL),(168,Srt.aPDQ zM),(172,Srt.aSIFT zE),(173,Srt.aNPT zE),(174,Srt.aXOR zE),(175,Srt.aMEDA zE),(176,Srt.aMED zE),(177,Srt.aSIFT zL),(178,Srt.aMEDA zL),(179,Srt.aMED zL),(180,Srt.aINS zM),(181,Srt.aHEAP zM),(182,Srt.aBRK zM),(183,Srt.aCHO zM),(184,Srt.aREV zM),(185,Srt.aPIS zM),(186,Srt.aPEQ zM),(187,Srt.aPART zM),(188,Srt.aORD zE),(189,Srt.aORD zL),(190,Srt.aSIFT zM),(191,Srt.aMEDA zM),(192,Srt.aMED zM),(193,Srt.aORD zM)]
def tr (g:FuncId):Option AFunc:=table.lookup g
theorem e8:tr 8=some a8:=rfl
theorem e12:tr 12=some a12:=rfl
theorem e13:tr 13=some a13:=rfl
theorem e17:tr 17=some a17:=rfl
theorem e18:tr 18=some a18:=rfl
theorem e27:tr 27=some a27:=rfl
theorem e28:tr 28=some a28:=rfl
theorem e30:tr 30=some a30:=rfl
theorem e31:tr 31=some a31:=rfl
theorem e32:tr 32=some a32:=rfl
theorem e33:tr 33=some a33:=rfl
theorem e34:tr 34=some a34:=rfl
theorem e35:tr 35=some a35:=rfl
theorem e36:tr 36=some a36:=rfl
theorem e37:tr 37=some a37:=rfl
theorem e38:tr 38=some a38:=rfl
theorem e39:tr 39=some a39:=rfl
theorem e55:tr 55=some a55:=rfl
theorem e56:tr 56=some a56:=rfl
theorem e58:tr 58=some a58:=rfl
theorem e59:tr 59=some a59:=rfl
theorem e60:tr 60=some a60:=rfl
theorem e61:tr 61=some a61:=rfl
theorem e62:tr 62=some a62:=rfl
theorem e63:tr 63=some a63:=rfl
theorem e64:tr 64=some a64:=rfl
theorem e65:tr 65=some a65:=rfl
theorem e66:tr 66=some a66:=rfl
theorem e67:tr 67=some a67:=rfl
theorem e68:tr 68=some a68:=rfl
theorem e69:tr 69=some a69:=rfl
theorem e70:tr 70=some a70:=rfl
theorem e71:tr 71=some a71:=rfl
theorem e72:tr 72=some a72:=rfl
theorem e73:tr 73=some a73:=rfl
theorem e74:tr 74=some a74:=rfl
theorem e75:tr 75=some a75:=rfl
theorem e76:tr 76=some a76:=rfl
theorem e77:tr 77=some a77:=rfl
theorem e92:tr 92=some a92:=rfl
theorem e93:tr 93=some a93:=rfl
theorem e94:tr 94=some a94:=rfl
theorem e96:tr 96=some a96:=rfl
theorem e97:tr 97=some a97:=rfl
theorem e98:tr 98=some a98:=rfl
theorem e99:tr 99=some a99:=rfl
theorem Odl:tr 100=some Ngc:=rfl
theorem Odk:tr 101=some Nwf:=rfl
theorem Odj:tr 103=some Nwe:=rfl
theorem Odi:tr 104=some Nwd:=rfl
theorem Odh:tr 105=some a105:=rfl
theorem N94:tr 106=some Nwc:=rfl
theorem Odg:tr 107=some a107:=rfl
theorem Odf:tr 108=some Nwb:=rfl
theorem Ode:tr 109=some a109:=rfl
theorem Odd:tr 110=some Nwa:=rfl
theorem Odc:tr 120=some Nv9:=rfl
theorem Odb:tr 121=some Nv8:=rfl
theorem Oda:tr 122=some Nv7:=rfl
theorem Oc9:tr 123=some Nv6:=rfl
theorem Oc8:tr 124=some a124:=rfl
theorem Oc7:tr 125=some Nv5:=rfl
theorem N93:tr 126=some Nv4:=rfl
theorem Oc6:tr 127=some a127:=rfl
theorem Oc5:tr 128=some Nje:=rfl
theorem Oc4:tr 131=some a131:=rfl
theorem Oc3:tr 132=some Ngb:=rfl
theorem Oc2:tr 134=some Nqq:=rfl
theorem Oc1:tr 135=some Nv3:=rfl
theorem Oc0:tr 136=some Nv2:=rfl
theorem Ocz:tr 137=some Nv1:=rfl
theorem Ocy:tr 141=some a141:=rfl
theorem Ocx:tr 143=some a143:=rfl
theorem Ocw:tr 144=some Nv0:=rfl
theorem Ocv:tr 145=some a145:=rfl
theorem Ocu:tr 156=some a156:=rfl
theorem Ocs:tr 165=some Nvz:=rfl
theorem Ocr:tr 167=some a167:=rfl
theorem Ocq:tr 169=some Nvy:=rfl
theorem Ocp:tr 170=some Nvx:=rfl
theorem Oco:tr 171=some a171:=rfl
class OB where
 on:FuncId->Bool
 eff:FuncId->List Value->NE->Option (Value×List (List Value))
 effN:∀g as H,g≠36->g≠27->eff g as H=none
def orc [OB] (g:FuncId) (as:List Value):Option Value:=if (g=18)/\OB.on g=true/\as=[] then some (.bool true) else none
def E [OB]:Env:=⟨tr,pf,orc,true,OB.eff⟩
def Ef [OB]:Env:=⟨tr,pf,orc,false,OB.eff⟩
instance dtE [OB]:DT E E:=⟨rfl⟩
instance dtF [OB]:DT Ef E:=⟨rfl⟩
section
variable {mp:Bool} {lim:Nat} {g:FuncId} {as:List Value} {v:Value} {af:AFunc} {H:NE} {Q:Value->NE->Prop}
theorem pc [OB] (h:(g≠18/\g≠36/\g≠27)) (b:tr g=some af) (hp:pf g=true) (a:flat 4 v=true) (hr:PV E af H.length [.code af.body] (NB as) (H++[]) fun v' _=>v'=v):NL E mp lim g as H Q=Q v H:=
 Mm (E:=E) (by simp [E,OB.effN,orc,h]) b hp a (NM hr)
theorem R8 [OB] (h:(g≠18/\g≠36/\g≠27)) (a:tr g=some af) (hp:pf g=false) (hr:PV E af lim [.code af.body] (NB as) (H++[]) Q):NL E false lim g as H Q:=by
 rw [Sn (E:=E) (by simp [E,OB.effN,orc,h]) a hp rfl];exact NM hr
theorem Ngo [OB] (h:(g≠18/\g≠36/\g≠27)) (a:tr g=some af) (hp:pf g=false) (hr:PV Ef af lim [.code af.body] (NB as) (H++[]) Q):NL Ef false lim g as H Q:=by
 rw [Sn (E:=Ef) (by simp [Ef,OB.effN,orc,h]) a hp rfl];exact NM hr
theorem Nq6 [OB] (h:g≠18) (ho:∀as H,OB.eff g as H=none) (a:tr g=some af) (hp:pf g=false) (hr:PV Ef af lim [.code af.body] (NB as) (H++[]) Q):NL Ef false lim g as H Q:=by
 rw [Sn (E:=Ef) (by simp [Ef,OB.effN,orc,h,ho]) a hp rfl];exact NM hr
theorem NL.eqF [OB] (h:NL E mp lim g as H fun v' H1=>v'=v/\H1=H):NL Ef mp lim g as H Q=Q v H:=NL.eq (NL.weak (E:=Ef) h)
theorem NL.eqF' [OB] {H':NE} (h:NL E mp lim g as H fun v' H1=>v'=v/\H1=H'):NL Ef mp lim g as H Q=Q v H':=NL.eq (NL.weak (E:=Ef) h)
theorem NL.one [OB] (h:NL E mp lim g as H Q):∃n v H',Rw E n mp lim (.inl g) as H=some [(v,H')]/\Q v H':=by
 obtain ⟨n,L,h1,h2,a⟩:=h
 obtain ⟨⟨v,H'⟩,rfl⟩:=h2 rfl
 exact ⟨n,v,H',h1,a _ (Nj.mpr rfl)⟩
end
def encI (n:Int):List Value:=[Vi n]
theorem RJ (n:Int):(encI n).length=1:=id rfl
theorem PQ {H:NE} {i:Nat} {es:List (Value×Value)} (h:NF H i=.map es):i<H.length:=by
 rcases Oh i H.length with h1 | h1
 ·exact h1
 ·unfold NF at h
  rw [Na,Nw h1] at h
  cases h
end Go.Proofs.YtkppjkkkdpcgiaaGreat.Fn


namespace Go.Proofs.YtkppjkkkdpcgiaaGreat.Fn
open Go.AM Go.AM.Sym Go.Net
section
variable {mp:Bool} {lim:Nat} {g:FuncId} {as:List Value} {v:Value} {af:AFunc} {H:NE} {Q:Value->NE->Prop}
end
def Rz (l:Leg):List Value:=[Vi l.id,Vi l.frm,Vi l.dst,Vi l.dep,Vi l.mins,Vi l.cut,Vi l.grams,.int .u8 l.days]
theorem OH (l:Leg):(Rz l).length=8:=id rfl
theorem QH {l:Leg}:(Rz l)[0]? = some (Vi l.id):=id rfl
theorem QG {l:Leg}:(Rz l)[1]? = some (Vi l.frm):=id rfl
theorem QF {l:Leg}:(Rz l)[2]? = some (Vi l.dst):=id rfl
theorem QE {l:Leg}:(Rz l)[3]? = some (Vi l.dep):=id rfl
theorem QD {l:Leg}:(Rz l)[4]? = some (Vi l.mins):=id rfl
theorem QC {l:Leg}:(Rz l)[5]? = some (Vi l.cut):=id rfl
theorem QB {l:Leg}:(Rz l)[6]? = some (Vi l.grams):=id rfl
theorem QA {l:Leg}:(Rz l)[7]? = some (.int .u8 l.days):=id rfl
theorem Sr {α:Type} {X Y:List α} {k:Nat} {d:α}:(X++Y).getD (X.length+k) d=Y.getD k d:=by
 rw [Na,Na,Ob (by omega),Ri]
theorem Sm {α:Type} {X Y:List α} {d:α}:(X++Y).getD X.length d=Y.getD 0 d:=Sr (k:=0)
theorem TE {α:Type} {X Y:List α} {k:Nat} {b:α}:(X++Y).set (X.length+k) b=X++Y.set k b:=by
 rw [Qd _ _ (by omega),Ri]
theorem Ta {α:Type} {X Y:List α} {b:α}:(X++Y).set X.length b=X++Y.set 0 b:=TE (k:=0)
def By (l:Leg):Prop:=0<=l.days/\l.days<=255
theorem _root_.Go.Net.Fine.by {l:Leg} (h:Fine l):By l:=by unfold Fine at h;unfold By;omega
def enc3 (x:Int×Int×Int):List Value:=[Vi x.1,Vi x.2.1,Vi x.2.2]
theorem OY (x:Int×Int×Int):(enc3 x).length=3:=id rfl
def N3j (l:Leg):List (Int×Int×Int):=[(l.id,1,999999),(l.frm,1,999999),(l.dst,1,999999),(l.dep,0,1439),(l.mins,1,20160),(l.cut,0,10080),(l.grams,0,1000000000),(l.days,1,127)]
def inB (x:Int×Int×Int):Prop:=x.2.1<=x.1/\x.1<=x.2.2
theorem Ner {l:Leg}:Fine l↔(∀j,j<8->inB (gt (N3j l) j))/\l.frm≠l.dst:=by
 constructor
 ·intro h
  unfold Fine at h
  refine ⟨fun j a=>?_,by omega⟩
  match j,a with
  | 0,_=>show 1<=l.id/\l.id<=999999;omega
  | 1,_=>show 1<=l.frm/\l.frm<=999999;omega
  | 2,_=>show 1<=l.dst/\l.dst<=999999;omega
  | 3,_=>show 0<=l.dep/\l.dep<=1439;omega
  | 4,_=>show 1<=l.mins/\l.mins<=20160;omega
  | 5,_=>show 0<=l.cut/\l.cut<=10080;omega
  | 6,_=>show 0<=l.grams/\l.grams<=1000000000;omega
  | 7,_=>show 1<=l.days/\l.days<=127;omega
 ·rintro ⟨h,hn⟩
  have b:1<=l.id/\l.id<=999999:=h 0 (by decide)
  have h1:1<=l.frm/\l.frm<=999999:=h 1 (by decide)
  have h2:1<=l.dst/\l.dst<=999999:=h 2 (by decide)
  have c:0<=l.dep/\l.dep<=1439:=h 3 (by decide)
  have d:1<=l.mins/\l.mins<=20160:=h 4 (by decide)
  have h5:0<=l.cut/\l.cut<=10080:=h 5 (by decide)
  have e:0<=l.grams/\l.grams<=1000000000:=h 6 (by decide)
  have f:1<=l.days/\l.days<=127:=h 7 (by decide)
  unfold Fine;omega
theorem Ndv [OB] {mp:Bool} {lim:Nat} {l:Leg} {H:NE} {Q:Value->NE->Prop} (hd:By l):NL E mp lim 34 [.agg (Rz l).toArray] H Q=Q (.bool (decide (Fine l))) H:=by
 refine pc (by decide) e34 rfl rfl ?_
 rw [b34,c34]
 have wd:IntKind.i64.wrap l.days=l.days:=NT (by unfold By at hd;omega) (by unfold By at hd;omega)
 simp only [n34,r34,Rz,wd,SB,seval,NC,NJ,NG,NQ,reduceCtorEq,NB,place,NA,ND]
 refine NR (fun i=>8-i) (fun i fr G=>i<=8/\fr 1=Vp H.length/\fr 32=.agg ((N3j l).flatMap enc3).toArray/\fr 33=Vi i/\NF G H.length=Vc (Rz l)/\∀j,j<i->inB (gt (N3j l) j)) 0
  ⟨Nz _,rfl,by rfl,by rfl,by rw [NV];rfl,fun j q=>by omega⟩ ?_
 intro i fr G ⟨hi,g,a,d,k,b⟩ p
 have hl:=NK k
 rw [NS N5z.eq_1]
 refine NM ?_
 have o:=fun X=>(OM.refl.app (X:=X)).cells k
 by_cases e:i<8
 ·have f:IntKind.i64.wrap ((i:Int)+1)=((i+1:Nat):Int):=OG (by omega)
  have hd:=Nba OY (N3j l) i e
  have n:(i:Int)<8:=by omega
  have m:(0:Int)<=(i:Int):=by omega
  have hL:H.length<=G.length:=by omega
  simp only [n34,r34,g,a,d,n,m,hd,f,enc3,hL,SB,seval,NC,NJ,NG,NQ,reduceCtorEq,NB,place,NA,ND]
  repeat' ((first | refine Xa (fun c=>?_) (fun c=>?_) | refine Xu (fun c=>?_) (fun c=>?_) | refine Xb (fun c=>?_) (fun c=>?_) | refine Xv (fun c=>?_) (fun c=>?_))<;>(try simp only [c,n34,r34,g,a,d,n,m,hd,f,enc3,hL,SB,Nat.reduceLT,NC,NJ,Nat.reduceEqDiff,NG,NQ,reduceCtorEq,NB,place,NA,Nat.reduceAdd,Nat.reduceLeDiff,ND,Int.reduceEq,Int.reduceLT,Int.reduceLE]))
  ·rw [N8]
   rw [Ner]
   intro h
   have:=(h.1 i e).1
   omega
  ·rw [N8]
   rw [Ner]
   intro h
   have:=(h.1 i e).2
   omega
  ·refine p (i+1) _ _ ⟨by omega,g,a,rfl,(OM.refl.app).cells k,fun j q=>?_⟩ (by omega)
   rcases Oh j i with h | h
   ·exact b j h
   ·obtain rfl:j=i:=by omega
    unfold inB;omega
 ·obtain rfl:i=8:=by omega
  simp only [n34,r34,g,a,d,o,Rz,SB,seval,NC,NJ,NG,NQ,reduceCtorEq,NB,place,NA,ND]
  congr 1
  rw [Re]
  simp only [Oa,Ner,Bool.not_eq_true',decide_eq_false_iff_not]
  exact ⟨fun h=>⟨b,h⟩,fun h=>h.2⟩
def Wy:Option (Int×Int)->Value
 | some (a,b)=>.tuple #[.agg #[Vi a,Vi b],.bool true]
 | none=>.tuple #[.agg #[Vi 0,Vi 0],.bool false]
theorem Nbc {x:Option (Int×Int)}:flat 4 (Wy x)=true:=by cases x<;>rfl
def MW (l:Leg) (d:Nat):Option (Int×Int):=if goes l d then some (1440*(d:Int)+l.dep,1440*(d:Int)+l.dep+l.mins) else none
theorem N8e {a:Int} {k:Nat} (b:0<=a) (h1:a<=255) (hk:k<7) :
  IntKind.u8.wrap ((BitVec.ofInt 8 (a.fdiv (2 ^ (min k 8))) &&& BitVec.ofInt 8 1).toNat:Int)=((a.toNat / 2 ^ k % 2:Nat):Int):=by
 obtain ⟨n,rfl⟩:∃n:Nat,a=(n:Int):=⟨a.toNat,by omega⟩
 rw [Pz (by omega),N2]
 have e:((n:Int).fdiv (2 ^ k))=((n / 2 ^ k:Nat):Int):=by
  rw [show ((2:Int) ^ k)=((2 ^ k:Nat):Int) by simp,Qw _ (Int.natCast_nonneg _)]
  rfl
 rw [e,BitVec.ofInt_natCast,BitVec.toNat_and]
 have hl:n / 2 ^ k<256:=Nat.lt_of_le_of_lt (Nat.div_le_self _ _) (by omega)
 have e1:(BitVec.ofInt 8 1).toNat=1:=rfl
 rw [e1,BitVec.toNat_ofNat,Nat.mod_eq_of_lt hl,Nat.and_one_is_mod]
 simp only [IntKind.wrap,IntKind.bits,IntKind.signed]
 simp;omega
theorem Ni4 [OB] {mp:Bool} {lim:Nat} {l:Leg} {d:Nat} {H:NE} {Q:Value->NE->Prop} (hl:Fine l) (hd:d<VI):NL E mp lim 135 [.agg (Rz l).toArray,Vi d] H Q=Q (Wy (MW l d)) H:=by
 refine pc (by decide) Oc1 rfl Nbc ?_
 rw [Od5,N7y]
 rw [Zo] at hd
 have h:=hl.by
 unfold By at h
 have j:Int.tmod (d:Int) 7=((d % 7:Nat):Int):=rfl
 have f:¬(((d % 7:Nat):Int)<0):=by omega
 have c:=N8e (a:=l.days) (k:=d % 7) h.1 h.2 (by omega)
 have r:=hl
 unfold Fine at r
 have m:IntKind.i64.wrap (1440*(d:Int))=1440*(d:Int):=NT (by omega) (by omega)
 have n:IntKind.i64.wrap (1440*(d:Int)+l.dep)=1440*(d:Int)+l.dep:=NT (by omega) (by omega)
 have o:IntKind.i64.wrap (1440*(d:Int)+l.dep-l.cut)=1440*(d:Int)+l.dep-l.cut:=NT (by omega) (by omega)
 have q:IntKind.i64.wrap (1440*(d:Int)+l.dep+l.mins)=1440*(d:Int)+l.dep+l.mins:=NT (by omega) (by omega)
 have hr:runs l.days d=(l.days.toNat / 2 ^ (d % 7) % 2 == 1):=rfl
 have i:l.days.toNat / 2 ^ (d % 7) % 2<2:=P1 _ (by decide)
 generalize l.days.toNat / 2 ^ (d % 7) % 2=b at c hr i
 change IntKind.u8.wrap ((BitVec.ofInt (IntKind.bits .u8) (l.days.fdiv (2 ^ (min (d % 7) (IntKind.bits .u8)))) &&& BitVec.ofInt (IntKind.bits .u8) 1).toNat:Int)=((b:Nat):Int) at c
 have g:goes l d=((b == 1)&&decide (0<=1440*(d:Int)+l.dep-l.cut)&&decide (1440*(d:Int)+l.dep+l.mins<=1051898399)):=by unfold goes OA;rw [hr]
 simp only [n135,N82,OH,QH,QG,QF,QE,QD,QC,QB,QA,NI,j,f,c,m,n,o,q,SB,seval,NC,NJ,NG,NQ,reduceCtorEq,NB,place,NA,ND]
 repeat' ((first | refine Xa (fun e=>?_) (fun e=>?_) | refine Xu (fun e=>?_) (fun e=>?_) | refine Xb (fun e=>?_) (fun e=>?_) | refine Xv (fun e=>?_) (fun e=>?_))<;>(try simp only [e,n135,N82,OH,QH,QG,QF,QE,QD,QC,QB,QA,NI,j,f,c,m,n,o,q,SB,Nat.reduceLT,NC,NJ,Nat.reduceEqDiff,NG,NQ,reduceCtorEq,NB,place,NA,Nat.reduceAdd,Nat.reduceLeDiff,ND,Int.reduceEq,Int.reduceLT,Int.reduceLE]))
 ·obtain rfl:b=0:=by omega
  rw [MW,g];rfl
 ·obtain rfl:b=1:=by omega
  rw [MW,g,N8 (by omega)];rfl
 ·obtain rfl:b=1:=by omega
  rw [MW,g,N8 (p:=_<=(1051898399:Int)) (by omega),Bool.and_false];rfl
 ·obtain rfl:b=1:=by omega
  rw [MW,g,Nq (p:=_<=(1051898399:Int)) (by omega),Nq (by omega)];rfl
theorem Ny1 {a b:Int}:R9 true (Vi a) [Vi b]=some (Vi (max a b)):=by
 simp only [R9,WK,if_true]
 congr 2
 split<;>omega
theorem Nyy {a b:Int}:R9 false (Vi a) [Vi b]=some (Vi (min a b)):=by
 simp only [R9,WK,if_true]
 simp only [Nx,if_false]
 congr 2
 split<;>omega
theorem WN {fr:Nat->Value} {p:Nat} {v:Value}:Te fr [p] [v]=upd fr p v:=rfl
def Pre (l:Leg) (r e s a b:Int) (ok:Bool) (x:LoopB):List Blk:=[Vc (Rz l),Vc [Vi r],Vc [Vi a,Vi b],Vc [.bool ok],Vc (Rz l),Vc [Vi e],Vc [Vi s],.dfr,.loop x]
theorem Nhi [OB] {H X:NE} {l:Leg} {r s e:Int} {lp:LoopB} {Q:Value->NE->Prop} (J:Int->Prop) (F:NE->Prop) (hl:Fine l) (hs:s=1\/s=-1)
  (c:∀e X,0<=e->e<=730484->goes l e.toNat=true->J e->WL E false H.length (H.length+8) [.agg #[Vi (1440*e+l.dep),Vi (1440*e+l.dep+l.mins)]] (H++(Pre l r e s 0 0 false lp++X)) fun v H'=>(v=.bool true/\J (e+s)/\∃w,H'=H++(Pre l r e s 0 0 false lp++w))\/(v=.bool false/\F H'))
  (m:∀e,0<=e->e<=730484->goes l e.toNat=false->J e->J (e+s))
  (k:∀e X,J e->¬(0<=e/\e<=730484)->Q (.tuple #[]) (H++(Pre l r e s 0 0 false lp++X)))
  (z:∀H',F H'->Q (.tuple #[]) H') (y:J e) (he:-2<=e/\e<=2 ^ 40) :
  NL E false H.length 134 [.func (.yield (H.length+8)) #[] #[],Vp (H.length+5),Vp (H.length+6),Vp (H.length+4)] (H++(Pre l r e s 0 0 false lp++X)) Q:=by
 rw [Sn (E:=E) (by simp [E,OB.effN,orc]) (show E.tr 134=some Nqq from Oc2) rfl rfl,Od6,N7z]
 simp only [n134,Nn6,SB,seval,NC,NJ,NG,NQ,reduceCtorEq,NB,place,NA,ND]
 refine NR (fun e:Int=>if s=1 then (730485-e).toNat else (e+1).toNat) (fun e fr G=>J e/\-2<=e/\e<=2 ^ 40/\fr 0=.func (.yield (H.length+8)) #[] #[]/\fr 1=Vp (H.length+5)/\fr 2=Vp (H.length+6)/\fr 3=Vp (H.length+4)/\∃X,G=H++(Pre l r e s 0 0 false lp++X)) e
  ⟨y,he.1,he.2,rfl,rfl,rfl,rfl,X,rfl⟩ ?_
 rintro e fr G ⟨p,b1,b2,f,g,i,j,X,rfl⟩ x
 rw [NS Nzw.eq_1]
 have n:IntKind.i64.wrap (e+s)=e+s:=NT (by omega) (by omega)
 by_cases h1:0<=e
 ·by_cases h2:e<=730484
  ·obtain ⟨d,rfl⟩:∃d:Nat,e=(d:Int):=⟨e.toNat,by omega⟩
   have a:=fun (H:NE) (mp:Bool) (lim:Nat) (Q:Value->NE->Prop)=>Ni4 (mp:=mp) (lim:=lim) (H:=H) (Q:=Q) (l:=l) (d:=d) hl (by rw [Zo];omega)
   have b:∀o:Int,o=(d:Int)+s->(if s=1 then (730485-o).toNat else (o+1).toNat)<(if s=1 then (730485-(d:Int)).toNat else ((d:Int)+1).toNat):=by
    intro o h;subst h
    rcases hs with rfl | rfl
    ·simp;omega
    ·simp;omega
   cases hg:goes l d with
   | false=>
     have t:MW l d=none:=by unfold MW;rw [hg];rfl
     rw [t] at a
     simp only [Wy] at a
     simp only [n134,Nn6,f,g,i,j,h1,h2,Pre,a,OH,QH,QG,QF,QE,QD,QC,QB,QA,NI,Sr,Sm,TE,Ta,n,SB,seval,NC,NJ,NG,NQ,reduceCtorEq,NB,place,NA,ND]
     exact x ((d:Int)+s) _ _ ⟨m _ h1 h2 (by simpa using hg) p,by omega,by omega,f,g,i,j,_,rfl⟩ (b _ rfl)
   | true=>
     have u:MW l d=some (1440*(d:Int)+l.dep,1440*(d:Int)+l.dep+l.mins):=by unfold MW;rw [hg];rfl
     rw [u] at a
     simp only [Wy] at a
     simp only [n134,Nn6,f,g,i,j,h1,h2,Pre,a,OH,QH,QG,QF,QE,QD,QC,QB,QA,NI,Sr,Sm,TE,Ta,n,SB,seval,NC,NJ,NG,NQ,reduceCtorEq,NB,place,NA,ND]
     refine (c _ _ h1 h2 (by simpa using hg) p).mono fun v H' B=>?_
     rcases B with ⟨rfl,q,w,rfl⟩ | ⟨rfl,A⟩
     ·simp only [n134,Nn6,f,g,i,j,h1,h2,Pre,OH,QH,QG,QF,QE,QD,QC,QB,QA,NI,Sr,Sm,TE,Ta,n,SB,seval,NC,NJ,NG,NQ,reduceCtorEq,NB,place,NA,ND]
      exact x ((d:Int)+s) _ _ ⟨q,by omega,by omega,f,g,i,j,_,rfl⟩ (b _ rfl)
     ·refine NM ?_
      simp only [n134,Nn6,f,g,i,j,h1,h2,Pre,OH,QH,QG,QF,QE,QD,QC,QB,QA,NI,Sr,Sm,TE,Ta,n,SB,seval,NC,NJ,NG,NQ,reduceCtorEq,NB,place,NA,ND]
      rw [Nb]
      exact z _ A
  ·simp only [n134,Nn6,f,g,i,j,h1,h2,Pre,OH,QH,QG,QF,QE,QD,QC,QB,QA,NI,Sr,Sm,TE,Ta,n,SB,seval,NC,NJ,NG,NQ,reduceCtorEq,NB,place,NA,ND]
   exact k e X p (by omega)
 ·simp only [n134,Nn6,f,g,i,j,h1,Pre,OH,QH,QG,QF,QE,QD,QC,QB,QA,NI,Sr,Sm,TE,Ta,n,SB,seval,NC,NJ,NG,NQ,reduceCtorEq,NB,place,NA,ND]
  exact k e X p (by omega)
theorem ZC [OB] {lim:Nat} {l:Leg} {e s:Int} {H:NE} {Q:Value->NE->Prop}:NL E false lim 105 [.agg (Rz l).toArray,Vi e,Vi s] H Q=Q (.func (.func 134) #[] #[Vp (H.length+1),Vp (H.length+2),Vp H.length]) (H++[Vc (Rz l),Vc [Vi e],Vc [Vi s]]):=by
 rw [Sn (E:=E) (by simp [E,OB.effN,orc]) (show E.tr 105=some a105 from Odh) rfl rfl,Oel,c105]
 rw [<-Nb H]
 simp only [n105,Ocd,OH,QH,QG,QF,QE,QD,QC,QB,QA,NI,SB,seval,NC,NJ,NG,NQ,reduceCtorEq,NB,place,NA,ND]
theorem Nty {l:Leg} {r:Int}:RY l r=RY l (max r 0):=by
 unfold RY Ze
 congr 2
 funext d
 cases hg:goes l d with
 | false=>rfl
 | true=>
   simp only [Bool.true_and]
   unfold goes at hg
   simp only [Ny,Oa] at hg
   rw [decide_eq_decide]
   omega
theorem No0 {l:Leg} {r:Int} (hl:Fine l) (h:OA<r):RY l r=none:=by
 cases hx:RY l r with
 | none=>rfl
 | some a=>
   obtain ⟨⟨d,_,b,rfl⟩,h2,_⟩:=RO hx
   unfold goes at b
   simp only [Ny,Oa] at b
   unfold Fine at hl
   omega
theorem Nld {l:Leg} {r:Int} {d:Nat} (hd:d<VI) (c:goes l d=true) (hr:r<=1440*(d:Int)+l.dep-l.cut) (b:∀a:Nat,a<d->¬(goes l a=true/\r<=1440*(a:Int)+l.dep-l.cut)):RY l r=some (1440*(d:Int)+l.dep):=by
 unfold RY Ze
 have:(List.range VI).find? (fun (d:Nat)=>goes l d&&decide (r<=1440*(d:Int)+l.dep-l.cut))=some d:=by
  rw [find_range]
  refine ⟨by simp [c,hr],hd,fun j e=>?_⟩
  have:=b j e
  simp only [Bool.and_eq_false_iff,decide_eq_false_iff_not]
  cases hgj:goes l j with
  | false=>exact .inl rfl
  | true=>exact .inr fun h=>this ⟨hgj,h⟩
 rw [this];rfl
theorem Nyu {l:Leg} {r:Int} (b:∀a:Nat,a<VI->¬(goes l a=true/\r<=1440*(a:Int)+l.dep-l.cut)):RY l r=none:=by
 unfold RY Ze
 rw [Option.map_eq_none_iff,Vr]
 intro j c
 have:=b j c
 simp only [Bool.and_eq_false_iff,decide_eq_false_iff_not]
 cases hgj:goes l j with
 | false=>exact .inl rfl
 | true=>exact .inr fun h=>this ⟨hgj,h⟩
theorem Nyt [OB] {H:NE} {l:Leg} {r e:Int} {fr0:Nat->Value} {K':List AItem} (hl:Fine l) (s:0<=r) (m:r<=OA) (he:e=(r+l.cut) / 1440) (f2:fr0 2=Vp H.length) (f3:fr0 3=Vp (H.length+1)) (f4:fr0 4=Vp (H.length+2)) (f5:fr0 5=Vp (H.length+3))
  (hm:marks (K'++[.mark (H.length+7)])=[H.length+7])
  (g:∀(e:Int) (X:NE),PV E a68 H.length (K'++[.mark (H.length+7)]) fr0 (H++[Vc (Rz l),Vc [Vi r],Vc [Vi 0,Vi 0],Vc [.bool false],Vc (Rz l),Vc [Vi e],Vc [Vi 1],.dfr,.dead]++X) fun v' _=>v'=Wy none) :
  NL E false H.length 134 [.func (.yield (H.length+8)) #[] #[],Vp (H.length+5),Vp (H.length+6),Vp (H.length+4)] (H++(Pre l r e 1 0 0 false ⟨0,none,fr0,36,[26],Nep,Neo⟩++[])) fun _ n=>
   Ym (NF n (H.length+7+1)) fun x=>PV E a68 H.length (Y2 x++(K'++[.mark (H.length+7)])) fr0 (n.set (H.length+7+1) .dead) fun v' _=>v'=Wy ((RY l r).map fun a=>(a,a+l.mins)):=by
 have p:=hl
 unfold Fine at p
 unfold OA at m
 refine Nhi (fun e=>0<=e/\∀d:Nat,(d:Int)<e->¬(goes l d=true/\r<=1440*(d:Int)+l.dep-l.cut))
  (fun G=>∃(X:NE) (e a:Int),RY l r=some a/\G=H++(Pre l r e 1 a (a+l.mins) true ⟨2,some .retM,fr0,36,[26],Nep,Neo⟩++X)) hl (.inl rfl) ?_ ?_ ?_ ?_ ⟨by omega,fun d hd h=>by omega⟩ ⟨by omega,by omega⟩
 ·rintro e X h1 h2 k ⟨_,i⟩
  obtain ⟨d,rfl⟩:∃d:Nat,e=(d:Int):=⟨e.toNat,by omega⟩
  rw [N2] at k
  rw [X0 (x:=⟨0,none,fr0,36,[26],Nep,Neo⟩) (by rw [NW];rfl) (by omega) rfl rfl,WN]
  rw [NS Nep.eq_1]
  have b:H.length<=H.length+8:=by omega
  simp only [Pre,f2,f3,f4,f5,Sr,Sm,TE,Ta,b,SB,seval,NC,NJ,NG,NQ,reduceCtorEq,NB,place,NA,ND]
  rw [NS Neo.eq_1]
  have o:IntKind.i64.wrap (1440*(d:Int)+l.dep-l.cut)=1440*(d:Int)+l.dep-l.cut:=NT (by omega) (by omega)
  by_cases h:r<=1440*(d:Int)+l.dep-l.cut
  ·simp only [Pre,f2,f3,f4,f5,OH,QH,QG,QF,QE,QD,QC,QB,QA,NI,Sr,Sm,TE,Ta,b,o,h,SB,seval,NC,NJ,NG,NQ,reduceCtorEq,NB,place,NA,ND]
   exact .inr ⟨_,(d:Int),_,Nld (by rw [Zo];omega) k h (fun c f=>i c (by omega)),rfl⟩
  ·simp only [Pre,f2,f3,f4,f5,OH,QH,QG,QF,QE,QD,QC,QB,QA,NI,Sr,Sm,TE,Ta,b,o,h,SB,seval,NC,NJ,NG,NQ,reduceCtorEq,NB,place,NA,ND]
   refine .inl ⟨⟨by omega,fun c f j=>?_⟩,_,rfl⟩
   rcases Int.lt_or_le (c:Int) (d:Int) with h3 | h3
   ·exact i c h3 j
   ·obtain rfl:c=d:=by omega
    exact h j.2
 ·rintro e h1 h2 k ⟨_,i⟩
  refine ⟨by omega,fun c f j=>?_⟩
  rcases Int.lt_or_le (c:Int) e with h3 | h3
  ·exact i c h3 j
  ·obtain rfl:c=e.toNat:=by omega
   rw [k] at j;simp at j
 ·rintro e X ⟨_,i⟩ q
  have hn:RY l r=none:=Nyu fun c f=>by rw [Zo] at f;exact i c (by omega)
  rw [hn]
  simp only [Pre,SB,seval,NC,NJ,NG,NQ,reduceCtorEq,NB,place,NA,ND]
  have:=g e X
  simp only [Nn,Ox,Ok] at this
  exact this
 ·rintro G ⟨X,e,a,hn,rfl⟩
  rw [hn]
  show Ym _ _
  have b:H.length<=H.length+7:=by omega
  simp only [Pre,hm,f4,f5,r68,b,Nv,SB,seval,NC,NJ,NG,NQ,reduceCtorEq,NB,place,NA,ND]
  show PV E a68 H.length (.code .retM::(K'++[.mark (H.length+7)])) fr0 _ _
  simp only [hm,f4,f5,r68,b,Wy,SB,seval,NC,NJ,NG,NQ,reduceCtorEq,NB,place,NA,ND]
theorem Nre [OB] {mp:Bool} {lim:Nat} {l:Leg} {r:Int} {H:NE} {Q:Value->NE->Prop} (hl:Fine l) (hr:-2 ^ 63<=r) (m:r<2 ^ 63):NL E mp lim 68 [.agg (Rz l).toArray,Vi r] H Q=Q (Wy ((RY l r).map fun a=>(a,a+l.mins))) H:=by
 refine pc (by decide) e68 rfl Nbc ?_
 rw [b68,c68]
 have k:=hl
 unfold Fine at k
 have h:=fun (H:NE) (mp:Bool) (lim:Nat) (Q:Value->NE->Prop)=>Ndv (mp:=mp) (lim:=lim) (H:=H) (Q:=Q) hl.by
 rw [Nq hl] at h
 by_cases hm:OA<r
 ·rw [No0 hl hm]
  unfold OA at hm
  simp only [n68,r68,h,OH,QH,QG,QF,QE,QD,QC,QB,QA,NI,hm,On,Wy,SB,seval,NC,NJ,NG,NQ,reduceCtorEq,NB,place,NA,ND]
 ·rw [Nty]
  unfold OA at hm
  have n:IntKind.i64.wrap (max r 0+l.cut)=max r 0+l.cut:=NT (by omega) (by omega)
  have o:IntKind.i64.wrap (Int.tdiv (max r 0+l.cut) 1440)=(max r 0+l.cut) / 1440:=by
   rw [Ph (by omega)]
   exact NT (by omega) (by omega)
  have i:∀a b c d e f g:Blk,(H++[a,b,c,d,e,f,g]).length=H.length+7:=by intros;simp
  simp only [n68,r68,h,OH,QH,QG,QF,QE,QD,QC,QB,QA,NI,hm,Ny1,n,o,ZC,SB,seval,NC,NJ,NG,NQ,reduceCtorEq,NB,place,NA,ND]
  rw [i]
  refine Nyt hl (by omega) (by unfold OA;omega) rfl rfl rfl rfl rfl rfl fun e X=>?_
  have j:H.length<=H.length+7:=by omega
  show PV E a68 H.length (.inBlock 0::.code _::.code .retM::.mark (H.length+7)::[]) _ _ _
  simp only [n68,r68,j,Wy,SB,seval,NC,NJ,NG,NQ,reduceCtorEq,NB,place,NA,ND]
theorem Nub {l:Leg} {b:Int}:SQ l b=SQ l (min b OA):=by
 unfold SQ Ncw
 congr 3
 funext d
 cases hg:goes l (VI-1-d) with
 | false=>rfl
 | true=>
   simp only [Bool.true_and]
   unfold goes at hg
   simp only [Ny,Oa] at hg
   rw [decide_eq_decide]
   omega
theorem Nzd {l:Leg} {b:Int} {d:Nat} (hd:d<VI) (g:goes l d=true) (f:1440*(d:Int)+l.dep+l.mins<=b) (e:∀c:Nat,d<c->c<VI->¬(goes l c=true/\1440*(c:Int)+l.dep+l.mins<=b)):SQ l b=some (1440*(d:Int)+l.dep):=by
 cases hx:SQ l b with
 | none=>exact absurd f (by have:=Nef hx _ ⟨d,hd,g,rfl⟩;omega)
 | some a=>
   obtain ⟨⟨c,h1,h2,rfl⟩,i,j⟩:=Tw hx
   have:=j _ ⟨d,hd,g,rfl⟩ f
   rcases Oh d c with h | h
   ·exact absurd ⟨h2,i⟩ (e c h h1)
   ·rw [show c=d by omega]
theorem Nlv {l:Leg} {b:Int} (d:∀c:Nat,c<VI->¬(goes l c=true/\1440*(c:Int)+l.dep+l.mins<=b)):SQ l b=none:=by
 cases hx:SQ l b with
 | none=>rfl
 | some a=>
   obtain ⟨⟨c,h1,h2,rfl⟩,e,f⟩:=Tw hx
   exact absurd ⟨h2,e⟩ (d c h1)
theorem Nzc [OB] {H:NE} {l:Leg} {r e:Int} {fr0:Nat->Value} {K':List AItem} (hl:Fine l) (q:l.dep+l.mins<=r) (m:r<=OA) (he:e=(r-l.mins) / 1440) (f2:fr0 2=Vp H.length) (f3:fr0 3=Vp (H.length+1)) (f4:fr0 4=Vp (H.length+2)) (f5:fr0 5=Vp (H.length+3))
  (hm:marks (K'++[.mark (H.length+7)])=[H.length+7])
  (g:∀(e:Int) (X:NE),PV E Ngc H.length (K'++[.mark (H.length+7)]) fr0 (H++[Vc (Rz l),Vc [Vi r],Vc [Vi 0,Vi 0],Vc [.bool false],Vc (Rz l),Vc [Vi e],Vc [Vi (-1)],.dfr,.dead]++X) fun v' _=>v'=Wy none) :
  NL E false H.length 134 [.func (.yield (H.length+8)) #[] #[],Vp (H.length+5),Vp (H.length+6),Vp (H.length+4)] (H++(Pre l r e (-1) 0 0 false ⟨0,none,fr0,38,[31],MN,MM⟩++[])) fun _ n=>
   Ym (NF n (H.length+7+1)) fun x=>PV E Ngc H.length (Y2 x++(K'++[.mark (H.length+7)])) fr0 (n.set (H.length+7+1) .dead) fun v' _=>v'=Wy ((SQ l r).map fun a=>(a,a+l.mins)):=by
 have o:=hl
 unfold Fine at o
 unfold OA at m
 refine Nhi (fun e=>e<=730484/\∀d:Nat,e<(d:Int)->¬(goes l d=true/\1440*(d:Int)+l.dep+l.mins<=r))
  (fun G=>∃(X:NE) (e a:Int),SQ l r=some a/\G=H++(Pre l r e (-1) a (a+l.mins) true ⟨2,some .retM,fr0,38,[31],MN,MM⟩++X)) hl (.inr rfl) ?_ ?_ ?_ ?_ ⟨by omega,fun d hd h=>by omega⟩ ⟨by omega,by omega⟩
 ·rintro e X h1 h2 k ⟨_,i⟩
  obtain ⟨d,rfl⟩:∃d:Nat,e=(d:Int):=⟨e.toNat,by omega⟩
  rw [N2] at k
  rw [X0 (x:=⟨0,none,fr0,38,[31],MN,MM⟩) (by rw [NW];rfl) (by omega) rfl rfl,WN]
  rw [NS MN.eq_1]
  have b:H.length<=H.length+8:=by omega
  simp only [Pre,f2,f3,f4,f5,Sr,Sm,TE,Ta,b,SB,seval,NC,NJ,NG,NQ,reduceCtorEq,NB,place,NA,ND]
  rw [NS MM.eq_1]
  by_cases h:1440*(d:Int)+l.dep+l.mins<=r
  ·simp only [Pre,f2,f3,f4,f5,OH,QH,QG,QF,QE,QD,QC,QB,QA,NI,Sr,Sm,TE,Ta,b,h,SB,seval,NC,NJ,NG,NQ,reduceCtorEq,NB,place,NA,ND]
   exact .inr ⟨_,(d:Int),_,Nzd (by rw [Zo];omega) k h (fun c f _=>i c (by omega)),rfl⟩
  ·simp only [Pre,f2,f3,f4,f5,OH,QH,QG,QF,QE,QD,QC,QB,QA,NI,Sr,Sm,TE,Ta,b,h,SB,seval,NC,NJ,NG,NQ,reduceCtorEq,NB,place,NA,ND]
   refine .inl ⟨⟨by omega,fun c f j=>?_⟩,_,rfl⟩
   rcases Int.lt_or_le (d:Int) (c:Int) with h3 | h3
   ·exact i c h3 j
   ·obtain rfl:c=d:=by omega
    exact h j.2
 ·rintro e h1 h2 k ⟨_,i⟩
  refine ⟨by omega,fun c f j=>?_⟩
  rcases Int.lt_or_le e (c:Int) with h3 | h3
  ·exact i c h3 j
  ·obtain rfl:c=e.toNat:=by omega
   rw [k] at j;simp at j
 ·rintro e X ⟨b,i⟩ p
  have hn:SQ l r=none:=Nlv fun c f=>i c (by omega)
  rw [hn]
  simp only [Pre,SB,seval,NC,NJ,NG,NQ,reduceCtorEq,NB,place,NA,ND]
  have:=g e X
  simp only [Nn,Ox,Ok] at this
  exact this
 ·rintro G ⟨X,e,a,hn,rfl⟩
  rw [hn]
  show Ym _ _
  have b:H.length<=H.length+7:=by omega
  simp only [Pre,hm,f4,f5,Nxq,b,Nv,SB,seval,NC,NJ,NG,NQ,reduceCtorEq,NB,place,NA,ND]
  show PV E Ngc H.length (.code .retM::(K'++[.mark (H.length+7)])) fr0 _ _
  simp only [hm,f4,f5,Nxq,b,Wy,SB,seval,NC,NJ,NG,NQ,reduceCtorEq,NB,place,NA,ND]
theorem N3l [OB] {mp:Bool} {lim:Nat} {l:Leg} {r:Int} {H:NE} {Q:Value->NE->Prop} (hl:Fine l) (hr:-2 ^ 63<=r) (o:r<2 ^ 63):NL E mp lim 100 [.agg (Rz l).toArray,Vi r] H Q=Q (Wy ((SQ l r).map fun a=>(a,a+l.mins))) H:=by
 refine pc (by decide) Odl rfl Nbc ?_
 rw [Oep,N8c]
 have m:=hl
 unfold Fine at m
 have h:=fun (H:NE) (mp:Bool) (lim:Nat) (Q:Value->NE->Prop)=>Ndv (mp:=mp) (lim:=lim) (H:=H) (Q:=Q) hl.by
 rw [Nq hl] at h
 have k:IntKind.i64.wrap (l.dep+l.mins)=l.dep+l.mins:=NT (by omega) (by omega)
 by_cases hm:r<l.dep+l.mins
 ·have:SQ l r=none:=Nlv fun s n t=>by omega
  rw [this]
  simp only [n100,Nxq,h,OH,QH,QG,QF,QE,QD,QC,QB,QA,NI,hm,k,On,Wy,SB,seval,NC,NJ,NG,NQ,reduceCtorEq,NB,place,NA,ND]
 ·rw [Nub]
  unfold OA
  have p:IntKind.i64.wrap (min r 1051898399-l.mins)=min r 1051898399-l.mins:=NT (by omega) (by omega)
  have q:IntKind.i64.wrap (Int.tdiv (min r 1051898399-l.mins) 1440)=(min r 1051898399-l.mins) / 1440:=by
   rw [Ph (by omega)]
   exact NT (by omega) (by omega)
  have i:∀a b c d e f g:Blk,(H++[a,b,c,d,e,f,g]).length=H.length+7:=by intros;simp
  simp only [n100,Nxq,h,OH,QH,QG,QF,QE,QD,QC,QB,QA,NI,hm,k,Nyy,p,q,ZC,SB,seval,NC,NJ,NG,NQ,reduceCtorEq,NB,place,NA,ND]
  rw [i]
  refine Nzc hl (by omega) (by unfold OA;omega) rfl rfl rfl rfl rfl rfl fun e X=>?_
  have j:H.length<=H.length+7:=by omega
  show PV E Ngc H.length (.inBlock 0::.code _::.code .retM::.mark (H.length+7)::[]) _ _ _
  simp only [n100,Nxq,j,Wy,SB,seval,NC,NJ,NG,NQ,reduceCtorEq,NB,place,NA,ND]
end Go.Proofs.YtkppjkkkdpcgiaaGreat.Fn


