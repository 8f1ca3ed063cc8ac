/-
  Joined texts, 5 of 8. A part of the claim that the last text states.
-/
import Derived.ProofKit
import Derived.Deep.Slices
import Derived.OpenShut
import Derived.Lib.ParseIntB
import Derived.Lib.ItoaNum
import Derived.Handed
import Derived.LaidHandle
import Derived.Stop.Joined
import Derived.LaidLaws
import Derived.Laws.Strings
import Derived.Test.YtancgcogjokfcaaGreatDoorPB4
set_option linter.unusedVariables false
set_option linter.unusedSimpArgs false
set_option linter.defProp false
set_option linter.unusedSectionVars false
set_option maxRecDepth 100000
set_option maxHeartbeats 4000000
namespace Go.AM
open Go.ChangeShapes Go.WideShapes Go.ChangeAt Go.RowKit
inductive Ty where
 | int (k:IntKind) | bool | str | slice (t:Ty) | arr (n:Nat) (t:Ty) | nil | pair (a b:Ty)
def Ty.size:Ty->Nat
 | .nil=>0
 | .arr n t=>n*t.size
 | .pair a b=>a.size+b.size
 | _=>1
abbrev Ty.den:Ty->Type
 | .int _=>Int
 | .bool=>Bool
 | .str=>ByteArray
 | .slice t=>List t.den
 | .arr _ t=>List t.den
 | .nil=>Unit
 | .pair a b=>a.den×b.den
def Yu:(t:Ty)->NB->t.den->List Value->Prop
 | .int k,_,n,cs=>cs=[.int k n]/\k.min<=n/\n<=k.max
 | .bool,_,b,cs=>cs=[.bool b]
 | .str,_,s,cs=>cs=[.string s]/\s.size<=maxLen
 | .slice t,H,l,cs=>l.length<=maxLen/\∃p cap,cs=[.slice p l.length cap]/\(p=none->l=[]/\cap=0)/\
   ∀a,p=some a->a.spot=none/\a.off=0/\cap=loose t.size/\(l≠[]->∃es:List (List Value),NF H a.block=.cells true es.flatten/\es.length=l.length/\∀(i:Nat) x e,l[i]? = some x->es[i]? = some e->Yu t H x e)
 | .arr n t,H,l,cs=>∃es:List (List Value),cs=es.flatten/\es.length=n/\l.length=n/\∀(i:Nat) x e,l[i]? = some x->es[i]? = some e->Yu t H x e
 | .nil,_,_,cs=>cs=[]
 | .pair a b,H,x,cs=>∃c d,cs=c++d/\Yu a H x.1 c/\Yu b H x.2 d
theorem Yu.app:∀{t:Ty} {H:NB} {x:t.den} {cs:List Value} (_:Yu t H x cs) (X:NB),Yu t (H++X) x cs
 | .int _,_,_,_,h,_=>h
 | .bool,_,_,_,h,_=>h
 | .str,_,_,_,h,_=>h
 | .nil,_,_,_,h,_=>h
 | .pair a b,_,_,_,⟨c1,c2,e,h1,h2⟩,X=>⟨c1,c2,e,h1.app X,h2.app X⟩
 | .arr n t,H,l,cs,⟨es,e,h1,h2,h3⟩,X=>⟨es,e,h1,h2,fun i x c d hc=>(h3 i x c d hc).app X⟩
 | .slice t,H,l,cs,⟨h0,p,cap,e,h1,h2⟩,X=>by
   refine ⟨h0,p,cap,e,h1,fun a g=>?_⟩
   obtain ⟨k1,k2,k3,j⟩:=h2 a g
   refine ⟨k1,k2,k3,fun hl=>?_⟩
   obtain ⟨es,f,k,m⟩:=j hl
   exact ⟨es,by rw [NZ (NJ f)];exact f,k,fun i x e d he=>(m i x e d he).app X⟩
theorem Xc {k:Nat}:∀{es:List (List Value)},(∀e∈es,e.length=k)->es.flatten.length=es.length*k
 | [],_=>by simp
 | e::es,h=>by
   rw [List.flatten_cons,Nj,h e (by simp),Xc (fun x a=>h x (by simp [a])),Nm,P9];omega
theorem Yu.len:∀{t:Ty} {H:NB} {x:t.den} {cs:List Value} (_:Yu t H x cs),cs.length=t.size
 | .int _,_,_,_,h=>by rw [h.1];rfl
 | .bool,_,_,_,h=>by simp only [Yu] at h;rw [h];rfl
 | .str,_,_,_,h=>by rw [h.1];rfl
 | .nil,_,_,_,h=>by simp only [Yu] at h;rw [h];rfl
 | .pair a b,_,_,_,⟨c1,c2,e,h1,h2⟩=>by rw [e,Nj,h1.len,h2.len];rfl
 | .slice t,H,l,cs,⟨h0,p,cap,e,h1,h2⟩=>by rw [e];rfl
 | .arr n t,H,l,cs,⟨es,e,h1,h2,h3⟩=>by
   rw [e,Xc (k:=t.size),h1];· rfl
   intro c hc
   obtain ⟨i,hi,rfl⟩:=List.mem_iff_getElem.1 hc
   exact (h3 i _ _ (Nf (by omega)) (Nf hi)).len
section
variable {w:World} {Pg:Prg} {W:Nat->Prop} {lim:Nat}
def XQ (H:NB):Prop:=∀(i:Nat) b,H[i]? = some b->owned b=false
theorem XQ.snoc {H:NB} (h:XQ H) {b:Blk} (hb:owned b=false):XQ (H++[b]):=by
 intro i x a
 by_cases hi:i<H.length
 ·rw [Ny hi] at a;exact h i x a
 ·rw [N0 (by omega)] at a
  have:=(List.getElem?_eq_some_iff.1 a).1
  have e:i-H.length=0:=by simp at this;omega
  rw [e] at a;simp at a;subst a;exact hb
def RA (Pg:Prg) (W:Nat->Prop) (lim:Nat) (w:World) (t:Ty) (cs:List Value):Prop:=
 ∀σ H,Inv Pg W lim σ H w->XQ H->∃X a as x,Inv Pg W lim a (H++X) w/\XQ (H++X)/\PQ.le σ a/\OB a as cs/\Yu t (H++X) x as/\∀v∈cs,v.oneCell'=true
theorem RA.atom1 {t:Ty} {v:Value} {x:t.den} (b:atom v=true) (ho:v.oneCell'=true) (hr:∀H,Yu t H x [v]):RA Pg W lim w t [v]:=fun σ H h hn=>
 ⟨[],σ,[v],x,by simpa using h,by simpa using hn,PQ.le_refl _,OB.cons (.atom b) OB.nil,hr _,fun u a=>by simp at a;subst a;exact ho⟩
theorem RA.int {k:IntKind} {n:Int} (h:(Lit.int k n).wf=true):RA Pg W lim w (.int k) [.int k n]:=by
 refine RA.atom1 (x:=n) rfl rfl fun H=>⟨rfl, ?_⟩
 simpa [Lit.wf] using h
theorem RA.bool {b:Bool}:RA Pg W lim w .bool [.bool b]:=RA.atom1 (t:=.bool) (x:=b) rfl rfl fun H=>rfl
theorem RA.str {s:ByteArray} (h:s.size<=maxLen):RA Pg W lim w .str [.string s]:=RA.atom1 (t:=.str) (x:=s) rfl rfl fun H=>⟨rfl,h⟩
theorem RA.nil:RA Pg W lim w .nil []:=fun σ H h hn=>⟨[],σ,[],(),by simpa using h,by simpa using hn,PQ.le_refl _,OB.nil,rfl,fun u a=>by simp at a⟩
theorem RA.pair {a b:Ty} {e f:List Value} (h1:RA Pg W lim w a e) (h2:RA Pg W lim w b f):RA Pg W lim w (.pair a b) (e++f):=by
 intro σ H h hn
 obtain ⟨X,o,as,x,k1,c,k2,k3,i,j⟩:=h1 σ H h hn
 obtain ⟨Y,p,bs,y,k,d,g,l,m,n⟩:=h2 o _ k1 c
 refine ⟨X++Y,p,as++bs,(x,y),by rw [<-Nl];exact k,by rw [<-Nl];exact d,PQ.le_trans k2 g,OB.append (k3.mono g) l,⟨as,bs,rfl, ?_, ?_⟩,fun v hv=>?_⟩
 ·rw [<-Nl];exact i.app Y
 ·rw [<-Nl];exact m
 ·rcases Ob.1 hv with hv | hv
  ·exact j v hv
  ·exact n v hv
def MO (σ:PQ) (n:Nat) (L:Loc):PQ:=fun i=>if i=n then some L else σ i
theorem VP {σ:PQ} {n:Nat} {L:Loc}:MO σ n L n=some L:=Nk rfl
theorem MN {σ:PQ} {n i:Nat} {L:Loc} (h:i≠n):MO σ n L i=σ i:=Ni h
theorem Inv.snoc {σ:PQ} {H:NB} (h:Inv Pg W lim σ H w) (hn:XQ H) (L:Loc) (b:Blk) (hb:owned b=false) (hr:U2 Pg (MO σ H.length L) w L b) :
  Inv Pg W lim (MO σ H.length L) (H++[b]) w/\PQ.le σ (MO σ H.length L):=by
 have c:PQ.le σ (MO σ H.length L):=by
  intro i K hi
  have:=h.lt hi
  rw [MN (by omega)];exact hi
 have d:=hn.snoc hb
 refine ⟨⟨h.toRoot, ?_,fun i j bi bj Li Lj hi k g ho=>?_,fun i x K a ho=>?_,fun i hi=>?_⟩,c⟩
 ·intro i x a f
  by_cases hi:i<H.length
  ·rw [Ny hi] at a
   obtain ⟨K,h1,h2⟩:=h.blk i x a f
   exact ⟨K,c i K h1,h2.mono c fun _=>rfl⟩
  ·rw [N0 (by omega)] at a
   have:=(List.getElem?_eq_some_iff.1 a).1
   have e:i=H.length:=by simp at this;omega
   subst e
   rw [Qg] at a;simp at a;subst a
   exact ⟨L,VP,hr⟩
 ·rw [d i bi hi] at ho;cases ho
 ·rw [d i x a] at ho;cases ho
 ·simp at hi
  rw [MN (by omega)]
  exact h.dom i (by omega)
theorem ZL {t:Ty} {n:Nat} {cs:Nat->List Value} (b:∀i,i<n->RA Pg W lim w t (cs i)) {σ:PQ} {H:NB} (h:Inv Pg W lim σ H w) (hn:XQ H) :
  ∃X d,∃es:List (List Value),∃xs:List t.den,Inv Pg W lim d (H++X) w/\XQ (H++X)/\PQ.le σ d/\es.length=n/\xs.length=n/\
   ∀(i:Nat) x e,xs[i]? = some x->es[i]? = some e->Yu t (H++X) x e/\OB d e (cs i)/\∀v∈cs i,v.oneCell'=true:=by
 induction n with
 | zero=>exact ⟨[],σ,[],[],by simpa using h,by simpa using hn,PQ.le_refl _,rfl,rfl,fun i x e k=>by simp at k⟩
 | succ n ih=>
   obtain ⟨X,A,es,xs,k1,k2,k3,f,g,l⟩:=ih fun i hi=>b i (by omega)
   obtain ⟨Y,B,as,x,m,o,j,p,q,r⟩:=b n (by omega) A _ k1 k2
   refine ⟨X++Y,B,es++[as],xs++[x],by rw [<-Nl];exact m,by rw [<-Nl];exact o,PQ.le_trans k3 j,by simp [f],by simp [g],fun i y e a he=>?_⟩
   rw [<-Nl]
   by_cases hi:i<n
   ·rw [Ny (by omega)] at a he
    obtain ⟨s,u,z⟩:=l i y e a he
    exact ⟨s.app Y,u.mono j,z⟩
   ·have c:i=n:=by
     have:=(List.getElem?_eq_some_iff.1 a).1
     simp at this;omega
    subst c
    rw [N0 (by omega),g] at a
    rw [N0 (by omega),f] at he
    simp at a he
    subst a he
    exact ⟨q,p,r⟩
theorem Ym {e:Nat}:∀(es:List (List Value)),(∀x∈es,x.length=e)->∀(j:Nat) v,es.flatten[j]? = some v->∃x,es[j / e]? = some x/\x[j % e]? = some v
 | [],_,j,v,h=>by simp at h
 | x::es,he,j,v,h=>by
   have c:=he x (by simp)
   rw [List.flatten_cons] at h
   by_cases a:j<x.length
   ·rw [Ny a] at h
    rw [c] at a
    rw [Nat.div_eq_of_lt a,Qs a]
    exact ⟨x,rfl,h⟩
   ·rw [N0 (by omega),c] at h
    rw [c] at a
    obtain ⟨y,h1,h2⟩:=Ym es (fun z d=>he z (by simp [d])) _ _ h
    have b:0<e:=by
     rcases Qp e with h0 | h0
     ·subst h0
      have d:y.length=0:=he y (by have:=Oa h1;simp [this])
      rw [List.length_eq_zero_iff.1 d] at h2;simp at h2
     ·exact h0
    have e1:j / e=(j-e) / e+1:=by rw [<-Nat.add_div_right _ b];congr 1;omega
    have e2:j % e=(j-e) % e:=by rw [Nat.mod_eq_sub_mod (by omega)]
    rw [e1,e2]
    exact ⟨y,by simpa using h1,h2⟩
theorem RA.arr {t:Ty} {n:Nat} {cs:List Value} (hl:cs.length=n*t.size) (m:∀i,i<n->RA Pg W lim w t ((cs.drop (i*t.size)).take t.size)):RA Pg W lim w (.arr n t) cs:=by
 intro σ H h hn
 obtain ⟨X,y,es,xs,k1,k2,k3,q,u,k⟩:=ZL (n:=n) (cs:=fun i=>(cs.drop (i*t.size)).take t.size) m h hn
 have f:∀e∈es,e.length=t.size:=by
  intro e he
  obtain ⟨i,hi,rfl⟩:=List.mem_iff_getElem.1 he
  exact (k i _ _ (Nf (by omega)) (Nf hi)).1.len
 have d:∀(j:Nat) v,cs[j]? = some v->j / t.size<n/\j % t.size<t.size/\((cs.drop (j / t.size*t.size)).take t.size)[j % t.size]? = some v:=by
  intro j v g
  have c:j<n*t.size:=by rw [<-hl];exact (List.getElem?_eq_some_iff.1 g).1
  have b:0<t.size:=by
   rcases Qp t.size with h0 | h0
   ·rw [h0] at c;simp at c
   ·exact h0
  have p:=P3 j b
  refine ⟨(Nat.div_lt_iff_lt_mul b).2 c,p, ?_⟩
  rw [Pj,Nk p,Pk,Nat.div_add_mod' j t.size]
  exact g
 refine ⟨X,y,es.flatten,xs,k1,k2,k3,⟨by rw [Xc f,q,hl],fun j a v r o=>?_⟩,⟨es,rfl,q,u,fun i x e s he=>(k i x e s he).1⟩,fun v o=>?_⟩
 ·obtain ⟨h1,h2,l⟩:=d j v o
  obtain ⟨e,e1,e2⟩:=Ym es f j a r
  exact (k _ _ e (Nf (by omega)) e1).2.1.2 _ _ _ e2 l
 ·obtain ⟨j,g⟩:=List.mem_iff_getElem?.1 o
  obtain ⟨h1,h2,l⟩:=d j v g
  exact (k (j / t.size) _ _ (Nf (by omega)) (Nf (by omega))).2.2 v (Oa l)
theorem RA.nilslice {t:Ty}:RA Pg W lim w (.slice t) [.slice none 0 0]:=by
 refine RA.atom1 (t:=.slice t) (x:=([]:List t.den)) rfl rfl fun H=>⟨N5 _,none,0,rfl,fun _=>⟨rfl,rfl⟩,fun a b=>by cases b⟩
theorem RA.slice {t:Ty} {a:Addr} {len cap:Nat} {cs:Nat->List Value} (hl:len<=cap) (hc:cap<=maxLen) (O:t.size≠0)
  (g:∀i,i<cap->w.cells? 0 (a.add (i*t.size)) t.size=some (cs i)/\RA Pg W lim w t (cs i)):RA Pg W lim w (.slice t) [.slice (some a) len cap]:=by
 intro σ H h hn
 by_cases h0:len=0
 ·subst h0
  obtain ⟨E,F⟩:=h.snoc hn ⟨a.block,a.off,cap*t.size⟩ .dead rfl trivial
  refine ⟨[.dead],_,[.slice (some ⟨H.length,0,none⟩) 0 (loose t.size)],[],E,hn.snoc rfl,F,OB.cons ?_ OB.nil,⟨N5 _,some ⟨H.length,0,none⟩,loose t.size,rfl,fun h=>(by cases h),fun b hb=>?_⟩,fun v p=>by simp at p;subst p;rfl⟩
  ·by_cases z:cap=0
   ·subst z
    exact .eslice VP (.inr ⟨_,rfl⟩)
   ·have d:a.spot=none:=by
     obtain ⟨h1,h2⟩:=g 0 (by omega)
     obtain ⟨_,G,r⟩:=World.cells?_some h1
     have l:=r 0 (by omega)
     rw [Nf (by omega)] at l
     have:=World.cell?_spot l
     simpa [Addr.add] using this
    obtain ⟨b,o,s⟩:=a
    simp only at d;subst d
    exact .lslice (L:=⟨b,o,cap*t.size⟩) (k:=0) VP hl (by simp)
  ·cases hb
   exact ⟨rfl,rfl,rfl,fun h=>absurd rfl h⟩
 ·obtain ⟨X,S,es,xs,k1,k2,k3,T,J,D⟩:=ZL (n:=len) (cs:=cs) (fun i hi=>(g i (by omega)).2) h hn
  have d:a.spot=none:=by
   obtain ⟨h1,h2⟩:=g 0 (by omega)
   obtain ⟨_,G,r⟩:=World.cells?_some h1
   have l:=r 0 (by omega)
   rw [Nf (by omega)] at l
   have:=World.cell?_spot l
   simpa [Addr.add] using this
  have f:∀i,i<len->∀j,j<t.size->∃v,(cs i)[j]? = some v/\w.cell? ⟨a.block,a.off+(i*t.size+j),none⟩=some v:=by
   intro i hi j C
   obtain ⟨_,G,r⟩:=World.cells?_some (g i (by omega)).1
   have l:=r j C
   have I:(cs i)[j]? = some ((cs i)[j]'(by omega)):=Nf _
   rw [I,Go.Deep.add_add] at l
   refine ⟨_,I, ?_⟩
   rw [<-l]
   congr 1
   obtain ⟨b,o,s⟩:=a
   simp only at d;subst d
   exact (addr_add (b:=b) (o:=o)).symm
  obtain ⟨V,_,q⟩:=f 0 (by omega) 0 (by omega)
  have m:∃cells el fz,w.heap[a.block]? = some (.cells cells el fz):=by
   unfold World.cell? at q
   split at q
   ·rename_i c el fz A;exact ⟨c,el,fz,A⟩
   ·cases q
  obtain ⟨cells,el,fz,A⟩:=m
  have B:∀e∈es,e.length=t.size:=by
   intro e he
   obtain ⟨i,hi,rfl⟩:=List.mem_iff_getElem.1 he
   exact (D i _ _ (Nf (by omega)) (Nf hi)).1.len
  have y:U2 Pg (MO S (H++X).length ⟨a.block,a.off,cap*t.size⟩) w ⟨a.block,a.off,cap*t.size⟩ (.cells true es.flatten):=by
   refine ⟨cells,el,fz,A,fun j v p=>?_,fun h=>by cases h⟩
   obtain ⟨e,h1,h2⟩:=Ym es B j v p
   have hi:j / t.size<len:=by have:=(List.getElem?_eq_some_iff.1 h1).1;omega
   have C:j % t.size<t.size:=P3 _ (by omega)
   obtain ⟨U,Q,R⟩:=D _ _ e (Nf (by omega)) h1
   obtain ⟨u,M,N⟩:=f _ hi _ C
   refine ⟨u, ?_,(Q.2 _ _ _ h2 M).mono ?_,R u (Oa M)⟩
   ·rw [Nat.div_add_mod' j t.size] at N
    simpa [World.cell?,A] using N
   ·intro i K hi
    have:=k1.lt hi
    rw [MN (by omega)];exact hi
  obtain ⟨E,F⟩:=k1.snoc k2 _ _ rfl y
  refine ⟨X++[.cells true es.flatten],_,[.slice (some ⟨(H++X).length,0,none⟩) len (loose t.size)],xs,by rw [<-Nl];exact E,by rw [<-Nl];exact k2.snoc rfl,PQ.le_trans k3 F,OB.cons ?_ OB.nil, ?_,fun v p=>by simp at p;subst p;rfl⟩
  ·obtain ⟨b,o,s⟩:=a
   simp only at d;subst d
   exact .lslice (L:=⟨b,o,cap*t.size⟩) (k:=0) VP hl (by simp)
  ·refine ⟨by rw [J];omega,some ⟨(H++X).length,0,none⟩,loose t.size,by rw [J],(fun h=>(by cases h)),fun b hb=>?_⟩
   cases hb
   refine ⟨rfl,rfl,rfl,fun _=>⟨es, ?_,by omega,fun i x e P he=>?_⟩⟩
   ·rw [<-Nl];exact NU
   ·rw [<-Nl];exact (D i x e P he).1.app _
section
variable (P:Program)
def U7 (f:TypeId->Option Ty):List Field->Nat->Option Ty
 | [],_=>some .nil
 | fd::fs,off=>if fd.offset=off then match f fd.type with
   | some ty=>if ty.size=P.cellsOf fd.type then match U7 f fs (off+ty.size) with
     | some r=>some (.pair ty r)
     | none=>none
     else none
   | none=>none
   else none
def Y1:Nat->TypeId->Option Ty
 | 0,_=>none
 | n+1,t=>match P.underlying t with
   | some .bool=>some .bool
   | some (.int k)=>some (.int k)
   | some .string=>some .str
   | some (.slice e)=>match Y1 n e with
     | some ty=>if ty.size=P.cellsOf e/\ty.size≠0 then some (.slice ty) else none
     | none=>none
   | some (.array k e)=>match Y1 n e with
     | some ty=>if ty.size=P.cellsOf e/\k*ty.size=P.cellsOf t then some (.arr k ty) else none
     | none=>none
   | some (.struct fs)=>match U7 P (Y1 n) fs.toList 0 with
     | some ty=>if ty.size=P.cellsOf t then some ty else none
     | none=>none
   | _=>none
end
variable {P:Program} {H:Type} {enc:TypeId×Value->H} {held:Bool}
theorem YH {n m:Nat} {cs:List Value} (ih:∀t ty cs x,Y1 P n t=some ty->DataW.trod enc P w 0 (fun _=>true) held m t cs=some x->RA Pg W lim w ty cs) :
  ∀(a:List Field) (off:Nat) (xs:List (DataW H×List MemPlace)) (ty:Ty),U7 P (Y1 P n) a off=some ty->off+ty.size=cs.length->(∀(i:Nat) f,a[i]? = some f->DataW.trod enc P w 0 (fun _=>true) held m f.type ((cs.drop f.offset).take (P.cellsOf f.type))=xs[i]?)->xs.length=a.length->RA Pg W lim w ty (cs.drop off)
 | [],off,xs,ty,ht,hl,hx,hxl=>by
   simp only [U7,Option.some.injEq] at ht
   subst ht
   rw [Pv (by simp [Ty.size] at hl;omega)]
   exact RA.nil
 | fd::a,off,xs,ty,ht,hl,hx,hxl=>by
   simp only [U7] at ht
   split at ht
   case isFalse=>cases ht
   rename_i ho
   split at ht
   case h_2=>cases ht
   rename_i b h1
   split at ht
   case isFalse=>cases ht
   rename_i g
   split at ht
   case h_2=>cases ht
   rename_i r hr
   cases ht
   simp only [Ty.size] at hl
   match xs,hxl with
   | x0::xs,hxl=>
     have h2:=hx 0 fd rfl
     simp only [Qi] at h2
     have c:=ih _ _ _ _ h1 h2
     have d:=YH (cs:=cs) ih a (off+b.size) xs r hr (by omega) (fun i f e=>by simpa using hx (i+1) f (by simpa using e)) (by simpa using hxl)
     rw [ho,<-g] at c
     have:=RA.pair c d
     rw [<-List.drop_drop,Pe] at this
     exact this
theorem VU:∀(n m:Nat) {t:TypeId} {ty:Ty} {cs:List Value} {x:DataW H×List MemPlace},Y1 P n t=some ty->DataW.trod enc P w 0 (fun _=>true) held m t cs=some x->RA Pg W lim w ty cs
 | 0,_,t,ty,cs,x,ht,_=>by simp [Y1] at ht
 | n+1,m,t,ty,cs,x,ht,h=>by
   simp only [Y1] at ht
   split at ht
   ·rename_i c;cases ht
    obtain ⟨b,rfl,_⟩:=DataW.trod_bool c h
    exact RA.bool
   ·rename_i k c;cases ht
    obtain ⟨b,rfl,_,u⟩:=DataW.trod_int c h
    exact RA.int u
   ·rename_i c;cases ht
    obtain ⟨b,rfl,_,u⟩:=DataW.trod_string c h
    exact RA.str u
   ·rename_i e c
    split at ht
    case h_2=>cases ht
    rename_i d he
    split at ht
    case isFalse=>cases ht
    rename_i g
    cases ht
    rcases Go.Deep.open_slice c h with ⟨rfl,_⟩ | ⟨a,len,cap,v,m',D,Pl,rfl,hb,hl,z,p,A,hi⟩
    ·exact RA.nilslice
    ·simp only [if_true] at p
     subst p
     have l:∀i,∃cs',i<v->w.cells? 0 (a.add (i*d.size)) d.size=some cs'/\RA Pg W lim w d cs':=by
      intro i
      by_cases o:i<v
      ·obtain ⟨cs',h1,h2⟩:=hi i o
       exact ⟨cs',fun _=>⟨by rw [g.1];exact h1,VU n m' he h2⟩⟩
      ·exact ⟨[],fun h=>absurd h o⟩
     exact RA.slice (cs:=fun i=>Classical.choose (l i)) hl z g.2 fun i hi=>Classical.choose_spec (l i) hi
   ·rename_i k e c
    split at ht
    case h_2=>cases ht
    rename_i d he
    split at ht
    case isFalse=>cases ht
    rename_i g
    cases ht
    obtain ⟨xs,m',_,_,j,q,r⟩:=DataW.trod_array c h
    refine RA.arr (by rw [j,g.2]) fun i hi=>?_
    have h1:=r i hi
    rw [Nf (by omega)] at h1
    rw [g.1]
    exact VU n m' he h1
   ·rename_i y c
    split at ht
    case h_2=>cases ht
    rename_i d he
    split at ht
    case isFalse=>cases ht
    rename_i g
    cases ht
    obtain ⟨xs,m',_,_,j,q,r⟩:=DataW.trod_struct c h
    have:=YH (cs:=cs) (fun t ty cs x h1 h2=>VU n m' h1 h2) y.toList 0 xs ty he (by omega) (fun i f s=>r i f (by simpa using s)) (by simpa using q)
    simpa using this
   ·cases ht
end
def isRow:Ty->Bool
 | .nil=>true
 | .pair _ _=>true
 | .arr _ _=>true
 | _=>false
def WB (t:Ty) (H:NB) (x:t.den) (v:Value):Prop:=if isRow t=true then ∃as,v=.agg as.toArray/\Yu t H x as else Yu t H x [v]
abbrev Nv6:List Ty->Type
 | []=>Unit
 | t::ts=>t.den×Nv6 ts
def Ner:(a:List Ty)->NB->Nv6 a->List Value->Prop
 | [],_,_,vs=>vs=[]
 | t::a,H,x,vs=>∃v r,vs=v::r/\WB t H x.1 v/\Ner a H x.2 r
theorem WB.app {t:Ty} {H:NB} {x:t.den} {v:Value} (h:WB t H x v) (X:NB):WB t (H++X) x v:=by
 unfold WB at *
 split
 ·rename_i hr
  rw [Nk hr] at h
  obtain ⟨as,e,k⟩:=h
  exact ⟨as,e,k.app X⟩
 ·rename_i hr
  rw [Ni hr] at h
  exact h.app X
section
variable {P:Program} {H:Type} {enc:TypeId×Value->H} {w:World} {Pg:Prg} {W:Nat->Prop} {lim:Nat}
theorem Ndk {f:TypeId->Option Ty}:∀{a:List Field} {off:Nat} {ty:Ty},U7 P f a off=some ty->isRow ty=true
 | [],off,ty,h=>by simp only [U7,Option.some.injEq] at h;subst h;rfl
 | fd::a,off,ty,h=>by
   simp only [U7] at h
   split at h
   ·split at h
    ·split at h
     ·split at h
      ·cases h;rfl
      ·cases h
     ·cases h
    ·cases h
   ·cases h
theorem Nnn {n:Nat} {t:TypeId} {ty:Ty} {v:Value} {r:Reach} {base:Nat} (d:Y1 P n t=some ty) (g:Value.okWide P w r base t v):if isRow ty=true then ∃cs,v=.agg cs else v.cells.toList=[v]:=by
 cases n with
 | zero=>simp [Y1] at d
 | succ n=>
   simp only [Y1] at d
   split at d
   ·rename_i f;cases d
    obtain ⟨b,rfl⟩:=okWide_bool f g
    rfl
   ·rename_i k f;cases d
    obtain ⟨b,rfl⟩:=okWide_int f g
    rfl
   ·rename_i f;cases d
    obtain ⟨b,rfl⟩:=okWide_string f g
    rfl
   ·rename_i e f
    split at d
    case h_2=>cases d
    split at d
    case isFalse=>cases d
    cases d
    obtain ⟨a,l,c,rfl⟩:=okWide_slice f g
    rfl
   ·rename_i k e f
    split at d
    case h_2=>cases d
    rename_i i he
    split at d
    case isFalse=>cases d
    cases d
    have h:=g
    simp only [Value.okWide,f] at h
    obtain ⟨cs,rfl,_⟩:=h
    exact ⟨cs,rfl⟩
   ·rename_i j f
    split at d
    case h_2=>cases d
    rename_i i he
    split at d
    case isFalse=>cases d
    cases d
    obtain ⟨cs,rfl,_⟩:=okWide_struct f g
    rw [Nk (Ndk he)]
    exact ⟨cs,rfl⟩
   ·cases d
theorem Nai {n:Nat} {r:Reach} {base:Nat}:∀{h:List TypeId} {vs:List Value} {ds:List (DataW H)} {ps:List MemPlace} {tys:List Ty},DataW.TrodAll enc P w 0 (fun _=>true) true h vs ds ps->h.mapM (Y1 P n)=some tys->
  (∀(j:Nat) t v,h[j]? = some t->vs[j]? = some v->Value.okWide P w r base t v)->∀σ H,Inv Pg W lim σ H w->XQ H->
  ∃X k as x,Inv Pg W lim k (H++X) w/\XQ (H++X)/\PQ.le σ k/\OB k as vs/\Ner tys (H++X) x as
 | [],[],[],ps,tys,_,b,_,σ,Hp,hi,hn=>by
   simp at b;subst b
   exact ⟨[],σ,[],(),by simpa using hi,by simpa using hn,PQ.le_refl _,OB.nil,rfl⟩
 | t::h,v::vs,d::ds,ps,tys,hA,b,hv,σ,Hp,hi,hn=>by
   obtain ⟨p,q,h1,h2,rfl⟩:=hA
   rw [List.mapM_cons] at b
   obtain ⟨ty,f,b⟩:=NM b
   obtain ⟨tr,i,b⟩:=NM b
   cases b
   obtain ⟨m,s⟩:=h1
   have hc:=Nnn f (hv 0 t v rfl rfl)
   obtain ⟨X,o,as,x,k1,k2,k3,c,g,u⟩:=VU n m f s σ Hp hi hn
   obtain ⟨Y,G,bs,y,z,A,l,B,C⟩:=Nai h2 i (fun j F v' e1 e2=>hv (j+1) F v' (by simpa using e1) (by simpa using e2)) o _ k1 k2
   have key:∃e,VRel o e v/\WB ty (Hp++X) x e:=by
    split at hc
    ·rename_i hr
     obtain ⟨cs,rfl⟩:=hc
     refine ⟨.agg as.toArray,VRel.agg_iff.2 ⟨by simpa [Value.cells] using c,by simpa [Value.cells] using u⟩, ?_⟩
     unfold WB;rw [Nk hr]
     exact ⟨as,rfl,g⟩
    ·rename_i hr
     rw [hc] at c
     have hl:=c.1
     match as,hl,c,g with
     | [a],_,c,g=>
       refine ⟨a,c.head, ?_⟩
       unfold WB;rw [Ni hr]
       exact g
   obtain ⟨e,D,E⟩:=key
   refine ⟨X++Y,G,e::bs,(x,y),by rw [<-Nl];exact z,by rw [<-Nl];exact A,PQ.le_trans k3 l,OB.cons (D.mono l) B,e,bs,rfl, ?_, ?_⟩
   ·rw [<-Nl];exact E.app Y
   ·rw [<-Nl];exact C
 | [],[],_::_,_,_,hA,_,_,_,_,_,_=>hA.elim
 | [],_::_,_,_,_,hA,_,_,_,_,_,_=>hA.elim
 | _::_,[],_,_,_,hA,_,_,_,_,_,_=>hA.elim
 | _::_,_::_,[],_,_,hA,_,_,_,_,_,_=>hA.elim
theorem XD (hl:laidOutB P=true) {w':World} (hb:Below w.heap.size w w'):∀{a:List TypeId} {vs:List Value} {ds:List (DataW H)} {ps:List MemPlace},(∀t∈a,P.readableRec t=true/\t<P.types.size)->DataW.TrodAll enc P w 0 (fun _=>true) true a vs ds ps->
  (∀x∈ps,x.block<w.heap.size)->DataW.TrodAll enc P w' 0 (fun b=>decide (b<w.heap.size)) true a vs ds ps
 | [],[],[],ps,_,h,_=>h
 | t::a,v::vs,d::ds,ps,hr,h,hlt=>by
   obtain ⟨p,q,h1,h2,rfl⟩:=h
   exact ⟨p,q,Below.trod hl (hr t (by simp)).1 (hr t (by simp)).2 h1 hb fun x e=>hlt x (by simp [e]),XD hl hb (fun f c=>hr f (by simp [c])) h2 fun x e=>hlt x (by simp [e]),rfl⟩
 | [],[],_::_,_,_,hA,_=>hA.elim
 | [],_::_,_,_,_,hA,_=>hA.elim
 | _::_,[],_,_,_,hA,_=>hA.elim
 | _::_,_::_,[],_,_,hA,_=>hA.elim
theorem trodAll_length:∀{a:List TypeId} {vs:List Value} {ds:List (DataW H)} {ps:List MemPlace},DataW.TrodAll enc P w 0 (fun _=>true) true a vs ds ps->ds.length=a.length
 | [],[],[],ps,_=>rfl
 | t::a,v::vs,d::ds,ps,h=>by
   obtain ⟨p,q,h1,h2,rfl⟩:=h
   simp [trodAll_length h2]
 | [],[],_::_,_,hA=>hA.elim
 | [],_::_,_,_,hA=>hA.elim
 | _::_,[],_,_,hA=>hA.elim
 | _::_,_::_,[],_,hA=>hA.elim
end
theorem Yu.sl {t:Ty} {H:NB} {l:List t.den} {cs:List Value} {α:Type} (f:t.den->α) (enc:α->List Value) (he:∀H x c,Yu t H x c->c=enc (f x)) (h:Yu (.slice t) H l cs) :
  ∃p cap,cs=[.slice p (l.map f).length cap]/\Sl H enc t.size p (l.map f)/\l.length<2 ^ 63:=by
 obtain ⟨h0,p,cap,e,h1,h2⟩:=h
 have d:l.length<2 ^ 63:=by unfold maxLen at h0;omega
 refine ⟨p,cap,by rw [e,Nz], ?_,d⟩
 cases p with
 | none=>simp only [Sl];rw [(h1 rfl).1];rfl
 | some a=>
   obtain ⟨k1,k2,k3,o⟩:=h2 a rfl
   refine ⟨k1,fun hn=>?_⟩
   obtain ⟨es,q,g,j⟩:=o (by rintro rfl;exact hn rfl)
   have key:es.flatten=(l.map f).flatMap enc:=by
    have:es=l.map fun x=>enc (f x):=by
     apply O4 (by simpa using g)
     intro i r n
     have s:i<l.length:=by simpa using n
     have:=he _ _ _ (j i l[i] es[i] (Nf _) (Nf _))
     rw [this];simp
    rw [this,List.flatMap_def,List.map_map]
    rfl
   have b:es.flatten.length=l.length*t.size:=by
    have:∀(es:List (List Value)),(∀x∈es,x.length=t.size)->es.flatten.length=es.length*t.size:=by
     intro es
     induction es with
     | nil=>simp
     | cons x es ih=>intro h;simp [ih fun y m=>h y (by simp [m]),h x (by simp),Pt,Q4]
    rw [this es,g]
    intro x k
    obtain ⟨i,hi,rfl⟩:=List.mem_iff_getElem.1 k
    exact (j i _ _ (Nf (by omega)) (Nf hi)).len
   refine ⟨true,_,q, ?_, ?_⟩
   ·rw [k2,b,Nz];omega
   ·rw [k2,Og,key,N9]
    rw [<-key,b,Nz]
    exact Nd _
theorem Yu.slice_mem {t:Ty} {H:NB} {l:List t.den} {cs:List Value} (h:Yu (.slice t) H l cs):∀x∈l,∃c,Yu t H x c:=by
 intro x b
 obtain ⟨h0,p,cap,e,h1,h2⟩:=h
 cases p with
 | none=>rw [(h1 rfl).1] at b;simp at b
 | some a=>
   obtain ⟨k1,k2,k3,d⟩:=h2 a rfl
   obtain ⟨es,g,j,f⟩:=d (by rintro rfl;simp at b)
   obtain ⟨i,hi,rfl⟩:=List.mem_iff_getElem.1 b
   exact ⟨_,f i _ _ (Nf hi) (Nf (by omega))⟩
theorem WB.row {t:Ty} {H:NB} {x:t.den} {v:Value} (hr:isRow t=true) (h:WB t H x v):∃cs,v=.agg cs.toArray/\Yu t H x cs:=by
 unfold WB at h
 rw [Nk hr] at h
 exact h
theorem WB.one {t:Ty} {H:NB} {x:t.den} {v:Value} (hr:isRow t=false) (h:WB t H x v):Yu t H x [v]:=by
 unfold WB at h
 rw [Ni (by rw [hr];decide)] at h
 exact h
end Go.AM


namespace Go.AM
structure Chg (A:List Nat) (H H':NB):Prop where
 len:H.length<=H'.length
 other:∀j,j<H.length->j∉A->NF H' j=NF H j
section
variable {A B:List Nat} {H H' K:NB}
theorem Chg.refl:Chg A H H:=⟨Nd _,fun _ _ _=>rfl⟩
theorem Chg.trans (h:Chg A H H') (k:Chg A H' K):Chg A H K:=⟨Qa h.len k.len,fun j b a=>(k.other j (by have:=h.len;omega) a).trans (h.other j b a)⟩
theorem Chg.trans' (h:Chg A H H') (k:Chg B H' K) (c:∀j,j∈B->j<H.length->j∈A):Chg A H K:=⟨Qa h.len k.len,fun j b a=>(k.other j (by have:=h.len;omega) fun hb=>a (c j hb b)).trans (h.other j b a)⟩
theorem Chg.mono (h:Chg A H H') (d:∀j,j<H.length->j∈A->j∈B):Chg B H H':=⟨h.len,fun j a c=>h.other j a fun b=>c (d j a b)⟩
theorem Chg.app (h:Chg A H H') {X:NB}:Chg A H (H'++X):=⟨by have:=h.len;simp;omega,fun j b a=>by rw [NZ (by have:=h.len;omega)];exact h.other j b a⟩
theorem Chg.pre (h:Chg A (H++K) H'):Chg A H H':=⟨by have:=h.len;simp at this;omega,fun j b a=>by rw [h.other j (by simp;omega) a,NZ b]⟩
theorem Chg.mut {R:Nat} (h:Chg A H H') (m:Mut H' K R) (b:R∈A\/H.length<=R):Chg A H K:=⟨by rw [m.len];exact h.len,fun j c a=>by
 rw [m.other j (by rintro rfl;rcases b with h1 | h1;exact a h1;omega)];exact h.other j c a⟩
theorem Chg.set {R:Nat} {b:Blk} (h:Chg A H H') (a:R∈A\/H.length<=R):Chg A H (H'.set R b):=h.mut (R:=R) ⟨by simp,fun j c=>Q9 c⟩ a
theorem Chg.get (h:Chg A H H') {j:Nat} {b:Blk} (c:NF H j=b) (hl:j<H.length) (a:j∉A):NF H' j=b:=by rw [h.other j hl a];exact c
theorem Chg.cells (h:Chg A H H') {j:Nat} {ro:Bool} {c:List Value} (a:NF H j=.cells ro c) (b:j∉A):NF H' j=.cells ro c:=h.get a (NJ a) b
theorem Chg.sl {α:Type} {enc:α->List Value} {e:Nat} {p:Option Addr} {l:List α} (h:Chg A H H') (b:Sl H enc e p l) (hp:∀a,p=some a->l≠[]->a.block∉A):Sl H' enc e p l:=by
 cases p with
 | none=>exact b
 | some a=>
   refine ⟨b.1,fun hn=>?_⟩
   obtain ⟨ro,c,h2,d⟩:=b.2 hn
   exact ⟨ro,c,h.cells h2 (hp a rfl hn),d⟩
theorem QL.chg (h:QL H H'):Chg A H H':=by obtain ⟨X,rfl⟩:=h;exact Chg.refl.app
theorem Chg.ext (h:Chg [] H H'):QL H H':=by
 refine ⟨H'.drop H.length, ?_⟩
 apply O4
 ·have:=h.len;simp;omega
 intro i h1 h2
 by_cases hi:i<H.length
 ·rw [Qu hi]
  have:=h.other i hi (by simp)
  unfold NF at this
  rw [Na,Na,Nf h1,Nf hi] at this
  exact this
 ·rw [Q8 (by omega),List.getElem_drop]
  congr 1
  omega
end
theorem Sl.lt {α:Type} {H:NB} {enc:α->List Value} {e:Nat} {a:Addr} {l:List α} (h:Sl H enc e (some a) l) (hn:l≠[]):a.block<H.length:=by
 obtain ⟨ro,c,h2,_⟩:=h.2 hn
 exact NJ h2
theorem Sl.some {α:Type} {H:NB} {enc:α->List Value} {e:Nat} {p:Option Addr} {l:List α} (h:Sl H enc e p l) (hn:l≠[]):∃a,p=some a:=by
 cases p with
 | none=>exact absurd h hn
 | some a=>exact ⟨a,rfl⟩
section
variable {α:Type} [Inhabited α] {H:NB} {enc:α->List Value} {e:Nat} {p:Option Addr} {l:List α}
omit [Inhabited α] in
theorem Nk5 {lim S:Nat} (he:∀x,(enc x).length=e) (hp:p=Option.some ⟨S,0,none⟩) (hS:NF H S=.cells false (l.flatMap enc)) (hl:lim<=S) {i:Nat} (hi:i<l.length) (y:α):AM.storeAt lim H (WA p e i) (enc y)=Option.some (H.set S (.cells false ((l.set i y).flatMap enc))):=by
 subst hp
 have h1:i*e+e<=l.length*e:=by
  have:=Om e (Qz hi)
  rw [P9] at this;exact this
 simp only [WA,addrOf,Oj,addr_add,RQ,hS,Nr]
 rw [Nk ⟨hl,by rw [he,QJ he];exact h1⟩,Nrm he y _ _ hi]
end
theorem Ncn {α:Type} {G:NB} {enc:α->List Value} {e:Nat} {p:Option Addr} {l:List α} {lim S:Nat} (he:∀x,(enc x).length=e) (hp:p=some ⟨S,0,none⟩) (hS:NF G S=.cells false (l.flatMap enc)) (hl:lim<=S) {i:Nat} (hi:i<l.length) (y:α) :
  ∃G',(∀X,AM.storeAt lim (G++X) (WA p e i) (enc y)=some (G'++X))/\NF G' S=.cells false ((l.set i y).flatMap enc)/\Mut G G' S:=by
 obtain ⟨G',h1,h2,a⟩:=RN (NJ hS) (.cells false ((l.set i y).flatMap enc))
 exact ⟨G',fun X=>by rw [Nk5 he hp (by rw [NZ (NJ hS)];exact hS) hl hi,h1],h2,a⟩
theorem Own.step {α:Type} {lim lim' e bytes cap:Nat} {G:NB} {enc:α->List Value} {p:Option Addr} {l:List α} (h:Own lim G enc e p cap l) (o:lim'<=lim) (he:∀x,(enc x).length=e) (i:e≠0) (x:α) (hb:(l.length+1)*bytes<=PS) (hn:l.length+1<2 ^ 61) (n:lim<=G.length)
  (X:NB) (b k:Nat) (r:NF (G++X) b=.cells false (enc x)) :
  ∃c,OH lim' none e bytes false (.slice p l.length cap) (.slice (some ⟨b,0,none⟩) 1 k) (G++X)=some (.slice (some ⟨G.length+X.length,0,none⟩) (l.length+1) (loose e),c++[])/\
   Own lim (c++[]) enc e (some ⟨G.length+X.length,0,none⟩) (loose e) (l++[x])/\(∀A H0,H0.length<=lim->Chg A H0 G->Chg A H0 (c++[]))/\(∀j,j<G.length->(∀a,p=some a->j≠a.block)->NF (c++[]) j=NF G j)/\c.length=G.length+X.length+1/\
   (∀j,j<X.length->NF (c++[]) (G.length+j)=X.getD j .dead):=by
 obtain ⟨G',R,f,g,d,_,hp⟩:=h.push1 (lim':=lim') (bytes:=bytes) o he i x hb hn
 have q:lim<=R:=by
  rcases Q7 p with h1 | ⟨a,h1⟩
  ·rw [f h1];exact n
  ·rw [g a h1];exact (h.block h1).1
 refine ⟨G'++(X++[.cells false ((l++[x]).flatMap enc)]),by rw [Nb];exact hp X b k r, ?_,fun A H0 h1 h2=>?_,fun j m hp=>?_,by simp [d.len];omega,fun j m=>?_⟩
 ·rw [Nb]
  refine Own.new ?_ (by omega)
  rw [<-Nl,<-d.len,<-Nj]
  exact NU
 ·rw [Nb]
  exact (h2.mut d (.inr (by omega))).app
 ·rw [Nb,NZ (by rw [d.len];exact m)]
  refine d.other j ?_
  rcases Q7 p with h1 | ⟨a,h1⟩
  ·rw [f h1];omega
  ·rw [g a h1];exact hp a h1
 ·rw [Nb,<-d.len,NK,Na,Ny m,Na]
theorem V4 {α:Type} {lim b e bytes c:Nat} {H:NB} {enc:α->List Value} {p:Option Addr} {l:List α} (hb:NF H b=.cells false []) (f:Sl H enc e p l) (h1:e≠0) (h2:l.length*bytes<=PS) (m:l.length<2 ^ 62) (hn:l≠[]) :
  OH lim none e bytes false (.slice (some ⟨b,0,none⟩) 0 0) (.slice p l.length c) H=some (.slice (some ⟨H.length,0,none⟩) l.length (loose e),H++[.cells false (l.flatMap enc)]):=by
 obtain ⟨a,rfl⟩:=f.some hn
 have h0:l.length≠0:=fun h=>hn (List.length_eq_zero_iff.1 h)
 obtain ⟨k1,k2⟩:=f
 obtain ⟨ro,cs,k3,g,i⟩:=k2 hn
 have hl:AM.loadCells H a (l.length*e)=some (l.flatMap enc):=by
  obtain ⟨j,k,as'⟩:=a
  simp only [NW]
  simp only at k3 g i
  simp only [k3]
  rw [Nk g,i]
 have d:AM.loadCells H ⟨b,0,none⟩ (0*e)=some []:=by simp [NW,hb]
 simp only [OH,firstCells,lenOf,hl,d,h0,Nr,Nat.not_lt_zero,or_false,h1,false_or,No,if_false]
 rw [Ni (by omega),Ni (by unfold loose;omega),Nk (by decide),Ni (by omega)]
 simp [place]
theorem Mk {lim b c e bytes:Nat} {dest:Option Nat} {H:NB} {p:Option Addr} (h1:e≠0):OH lim dest e bytes false (.slice (some ⟨b,0,none⟩) 0 0) (.slice p 0 c) H=some (.slice (some ⟨b,0,none⟩) 0 0,H):=by
 have:firstCells H e false (.slice p 0 c)=some []:=by cases p<;>simp [firstCells]
 simp [OH,this,lenOf,h1]
theorem Mg:∀(k:KK) (n:Nat) (a b:List Value),a.length=n->b.length=n->(∀x∈a,∀y∈b,∃t,TU k x y=some t/\(t=true↔x=y))->∃t,PR (List.replicate n k) a b=some t/\(t=true↔a=b)
 | k,0,a,b,ha,hb,_=>by
   have:=List.length_eq_zero_iff.1 ha;have:=List.length_eq_zero_iff.1 hb
   subst_vars
   exact ⟨true,rfl,by simp⟩
 | k,n+1,a,b,ha,hb,h=>by
   match a,b,ha,hb with
   | x::a,y::b,ha,hb=>
     obtain ⟨t,h1,h2⟩:=h x (by simp) y (by simp)
     obtain ⟨u,c,d⟩:=Mg k n a b (by simpa using ha) (by simpa using hb) fun x e y f=>h x (by simp [e]) y (by simp [f])
     refine ⟨t&&u, ?_, ?_⟩
     ·rw [Qe]
      simp only [PR,h1,c]
     ·rw [Nq,h2,d];simp
theorem Nrh {α:Type} [Inhabited α] {a b:List α} (hl:a.length=b.length) (h:∀i,i<a.length->gt a i=gt b i):a=b:=by
 apply O4 hl
 intro i h1 h2
 have:=h i h1
 rwa [UQ h1,UQ h2] at this
theorem TY {α:Type} [Inhabited α] {l:List α} {i:Nat} (h:i<l.length):l.take (i+1)=l.take i++[gt l i]:=by
 rw [List.take_succ_eq_append_getElem h,UQ h]
theorem Nu6 {z:Value} {n:Nat}:((List.range (n*1)).map fun j=>[z].getD (j % 1) undef)=List.replicate n z:=by
 apply O4 (by simp)
 intro i h1 h2
 simp [Nat.mod_one]
theorem XX:∀(vs a b c:List Value),vs.length=b.length->Rk (a++b++c) a.length vs=a++vs++c:=by
 intro vs
 induction vs with
 | nil=>intro a b c h;simp at h;have:b=[]:=List.length_eq_zero_iff.1 h.symm;subst this;rfl
 | cons v vs ih=>
   intro a b c h
   match b,h with
   | x::b,h=>
     rw [TZ]
     have e1:(a++x::b++c).set a.length v=(a++[v])++b++c:=by simp
     rw [e1]
     have:=ih (a++[v]) b c (by simpa using h)
     rw [Nj] at this
     simp only [Nm,Nn,Nr] at this
     rw [this];simp
theorem Neq {α:Type} {lim R e bytes cap k:Nat} {H:NB} {enc:α->List Value} {p:Option Addr} {old l:List α} {rest:List Value} (he:∀x,(enc x).length=e) (n:e≠0) (q:Sl H enc e p l) (c:NF H R=.cells false (old.flatMap enc++rest)) (hl:lim<=R)
  (hc:old.length+l.length<=cap) (hr:rest.length=(cap-old.length)*e) (j:cap<2 ^ 61) (hb:(old.length+l.length)*bytes<=PS) :
  OH lim none e bytes false (.slice (some ⟨R,0,none⟩) old.length cap) (.slice p l.length k) H=some (.slice (some ⟨R,0,none⟩) (old.length+l.length) cap,H.set R (.cells false ((old++l).flatMap enc++rest.drop (l.length*e)))):=by
 have m:=NJ c
 by_cases hn:l=[]
 ·subst hn
  have g:firstCells H e false (.slice p 0 k)=some []:=by cases p<;>simp [firstCells]
  have b:H.set R (.cells false ((old++[]).flatMap enc++rest.drop (0*e)))=H:=by
   rw [Nb,Ov,Og,<-c]
   apply O4 (by simp)
   intro i h1 h2
   rw [List.getElem_set]
   split
   ·rename_i h;subst h
    have:=We h2
    rw [Nf h2] at this
    exact (Option.some.inj this).symm
   ·rfl
  simp only [Nn,Oq] at hb hc⊢
  rw [b]
  simp only [OH,g,lenOf,Oq,if_true]
  rw [Ni (by omega)]
 ·obtain ⟨a,rfl,g⟩:=q.cells hn
  have d:l.length≠0:=fun h=>hn (List.length_eq_zero_iff.1 h)
  have o:l.length*e<=rest.length:=by rw [hr];exact Om e (by omega)
  have r:AM.loadCells H ⟨R,0,none⟩ (old.length*e)=some (old.flatMap enc):=by
   rw [NW,c]
   simp only [Nr,Og]
   rw [Nk (by rw [Nj,QJ he];omega),<-QJ he,List.take_left]
  have f:AM.storeAt lim H (Addr.add ⟨R,0,none⟩ (old.length*e)) (l.flatMap enc)=some (H.set R (.cells false ((old++l).flatMap enc++rest.drop (l.length*e)))):=by
   simp only [addr_add,RQ,c,Nr]
   rw [Nk ⟨hl,by rw [Nj,QJ he,QJ he];omega⟩]
   have:=XX (l.flatMap enc) (old.flatMap enc) (rest.take (l.length*e)) (rest.drop (l.length*e)) (by rw [QJ he,N7];omega)
   rw [Nl,Pe,QJ he] at this
   rw [this,P5]
  simp only [OH,firstCells,lenOf,g,r,f,d,if_false,No]
  rw [Ni (by omega),Ni (by unfold loose;omega),Nk (by omega),Nk (by omega)]
theorem Own.more {α:Type} {lim lim' e bytes cap:Nat} {G:NB} {enc:α->List Value} {p:Option Addr} {l:List α} (h:Own lim G enc e p cap l) (y:lim'<=lim) (he:∀x,(enc x).length=e) (v:e≠0) (m:List α) (hb:(l.length+m.length)*bytes<=PS) (hn:l.length+m.length<2 ^ 61) (w:lim<=G.length)
  (X:NB) {x:Value} {str:Bool} (h1:firstCells (G++X) e str x=some (m.flatMap enc)) (h2:lenOf x=some m.length) :
  ∃d t b,OH lim' none e bytes str (.slice p l.length cap) x (G++X)=some (.slice t (l.length+m.length) b,d++[])/\Own lim (d++[]) enc e t b (l++m)/\(∀A H0,H0.length<=lim->Chg A H0 G->Chg A H0 (d++[]))/\
   (∀j,j<G.length->(∀a,p=some a->j≠a.block)->NF (d++[]) j=NF G j)/\G.length<=d.length:=by
 by_cases s:m=[]
 ·subst s
  have r:l.length<=cap:=by
   rcases h with ⟨k1,_,k3⟩ | ⟨R,_,k2,_,_⟩
   ·subst k1;simp
   ·rw [k2];simp at hn;unfold loose;omega
  refine ⟨G++X,p,cap, ?_,by rw [Nb,Nb];exact h.app X,fun A H0 u n=>by rw [Nb];exact n.app,fun j c _=>by rw [Nb,NZ c],by simp⟩
  simp only [Nn,Oq] at hb hn h2⊢
  simp only [OH,h1,h2,Oq,if_true,Nb]
  rw [Ni (by omega)]
 ·have i:¬m.length=0:=fun q=>s (List.length_eq_zero_iff.1 q)
  rcases h with ⟨k1,k2,k3⟩ | ⟨R,k1,k2,k3,z⟩
  ·subst k1 k2 k3
   refine ⟨G++(X++[.cells false (m.flatMap enc)]),some ⟨(G++X).length,0,none⟩,loose e, ?_, ?_,fun A H0 u n=>by rw [Nb];exact n.app,fun j c _=>by rw [Nb,NZ c],by simp⟩
   ·simp only [Nn,Nr] at hb hn⊢
    simp only [OH,h1,h2,i,if_false,Nr]
    rw [Ni (by omega)]
    simp [place]
   ·rw [Nb,N6]
    refine Own.new ?_ (by simp;omega)
    rw [<-Nl];exact NU
  ·subst k1 k2
   have g:=NJ k3
   have f:NF (G++X) R=.cells false (l.flatMap enc):=by rw [NZ g];exact k3
   have k:AM.loadCells (G++X) ⟨R,0,none⟩ (l.length*e)=some (l.flatMap enc):=by
    simp only [NW,f,Nr,QJ he,Nd,if_true,Og]
    rw [N9 (by rw [QJ he];exact Nd _)]
   have o:Mut G (G.set R .dead) R:=⟨by simp,fun j c=>Q9 c⟩
   refine ⟨G.set R .dead++(X++[.cells false ((l++m).flatMap enc)]),some ⟨(G++X).length,0,none⟩,loose e, ?_, ?_,fun A H0 u n=>by rw [Nb];exact (n.mut o (.inr (by omega))).app,fun j c hp=>by
    rw [Nb,NZ (by simpa using c)];exact Q9 (hp _ rfl),by simp⟩
   ·simp only [OH,h1,h2,k,f,i,if_false,if_true]
    rw [Ni (by unfold loose;omega)]
    simp [show lim'<=R by omega,place,O3 _ _ g,Nl]
   ·rw [Nb]
    refine Own.new ?_ (by simp;omega)
    rw [<-Nl,show (G++X).length=(G.set R .dead++X).length by simp];exact NU
theorem Own.moreD {α:Type} {lim lim' e bytes cap d:Nat} {G:NB} {enc:α->List Value} {p:Option Addr} {l:List α} (h:Own lim G enc e p cap l) (B:lim'<=lim) (he:∀x,(enc x).length=e) (y:e≠0) (m:List α) (hb:(l.length+m.length)*bytes<=PS) (hn:l.length+m.length<2 ^ 61) (z:lim<=G.length)
  (X:NB) (v:G.length<=d) (w:d<G.length+X.length) {x:Value} {str:Bool} (h1:firstCells (G++X) e str x=some (m.flatMap enc)) (h2:lenOf x=some m.length) :
  ∃c r b,OH lim' (some d) e bytes str (.slice p l.length cap) x (G++X)=some (.slice r (l.length+m.length) b,c++[])/\Own lim (c++[]) enc e r b (l++m)/\(∀A H0,H0.length<=lim->Chg A H0 G->Chg A H0 (c++[]))/\
   (∀j,j<G.length->(∀a,p=some a->j≠a.block)->NF (c++[]) j=NF G j)/\G.length<=c.length/\(m≠[]->r=some ⟨d,0,none⟩)/\(m=[]->r=p):=by
 by_cases o:m=[]
 ·subst o
  have t:l.length<=cap:=by
   rcases h with ⟨k1,_,k3⟩ | ⟨R,_,k2,_,_⟩
   ·subst k1;simp
   ·rw [k2];simp at hn;unfold loose;omega
  refine ⟨G++X,p,cap, ?_,by rw [Nb,Nb];exact h.app X,fun A H0 u n=>by rw [Nb];exact n.app,fun j g _=>by rw [Nb,NZ g],by simp,fun h=>absurd rfl h,fun _=>rfl⟩
  simp only [Nn,Oq] at hb hn h2⊢
  simp only [OH,h1,h2,Oq,if_true,Nb]
  rw [Ni (by omega)]
 ·have i:¬m.length=0:=fun q=>o (List.length_eq_zero_iff.1 q)
  rcases h with ⟨k1,k2,k3⟩ | ⟨R,k1,k2,k3,C⟩
  ·subst k1 k2 k3
   refine ⟨(G++X).set d (.cells false (m.flatMap enc)),some ⟨d,0,none⟩,loose e, ?_, ?_,fun A H0 u n=>by rw [Nb];exact n.app.set (.inr (by omega)),fun j g _=>by rw [Nb,Q9 (by omega),NZ g],by simp,fun _=>rfl,fun h=>absurd h o⟩
   ·simp only [Nn,Nr] at hb hn⊢
    simp only [OH,h1,h2,i,if_false,Nr]
    rw [Ni (by omega)]
    simp [place]
   ·rw [Nb,N6]
    exact Own.new (Rf (by simp;omega)) (by omega)
  ·subst k1 k2
   have s:=NJ k3
   have f:NF (G++X) R=.cells false (l.flatMap enc):=by rw [NZ s];exact k3
   have k:AM.loadCells (G++X) ⟨R,0,none⟩ (l.length*e)=some (l.flatMap enc):=by
    simp only [NW,f,Nr,QJ he,Nd,if_true,Og]
    rw [N9 (by rw [QJ he];exact Nd _)]
   refine ⟨((G++X).set R .dead).set d (.cells false ((l++m).flatMap enc)),some ⟨d,0,none⟩,loose e, ?_, ?_,fun A H0 u n=>by rw [Nb];exact (n.app.set (.inr (by omega))).set (.inr (by omega)),fun j g hp=>by
    rw [Nb,Q9 (by omega),Q9 (hp _ rfl),NZ g],by simp,fun _=>rfl,fun h=>absurd h o⟩
   ·simp only [OH,h1,h2,k,f,i,if_false,if_true]
    rw [Ni (by unfold loose;omega)]
    simp [show lim'<=R by omega,place]
   ·rw [Nb]
    exact Own.new (Rf (by simp;omega)) (by omega)
theorem Xd {α:Type} {e k:Nat} {H:NB} {enc:α->List Value} {p:Option Addr} {m:List α} (c:Sl H enc e p m):firstCells H e false (.slice p m.length k)=some (m.flatMap enc):=by
 by_cases b:m=[]
 ·subst b
  cases p<;>simp [firstCells]
 ·obtain ⟨a,rfl,hl⟩:=c.cells b
  have:m.length≠0:=fun h=>b (List.length_eq_zero_iff.1 h)
  simp [firstCells,this,hl]
theorem Sl.pre {α:Type} {H:NB} {enc:α->List Value} {e:Nat} {p:Option Addr} {l m:List α} (h:Sl H enc e p (l++m)) (he:∀x,(enc x).length=e):Sl H enc e p l:=by
 cases p with
 | none=>simp only [Sl] at h;exact (List.append_eq_nil_iff.1 h).1
 | some a=>
   refine ⟨h.1,fun hn=>?_⟩
   obtain ⟨ro,c,h1,h2,f⟩:=h.2 (by simp [hn])
   have b:l.length*e<=(l++m).length*e:=Om e (by simp)
   refine ⟨ro,c,h1,by omega, ?_⟩
   have d:=Qn (List.take (l.length*e)) f
   rw [Q5,Pd b,P5,Qo (by rw [QJ he];exact Nd _),N9 (l:=l.flatMap enc) (by rw [QJ he];exact Nd _)] at d
   exact d
theorem Sl.row {α:Type} {H:NB} {enc:α->List Value} {e R:Nat} {l:List α} (he:∀x,(enc x).length=e) {ro:Bool} (h:NF H R=.cells ro (l.flatMap enc)):Sl H enc e (Option.some ⟨R,0,none⟩) l:=Sl.lit he (by rw [h];rfl) (by rw [h];rfl)
theorem Own.chg {α:Type} {A:List Nat} {lim e cap:Nat} {G H':NB} {enc:α->List Value} {p:Option Addr} {l:List α} (h:Own lim G enc e p cap l) (hc:Chg A G H') (hp:∀a,p=some a->a.block∉A):Own lim H' enc e p cap l:=by
 rcases h with h | ⟨R,h1,h2,b,c⟩
 ·exact .inl h
 ·exact .inr ⟨R,h1,h2,hc.cells b (hp _ h1),c⟩
def Uo (e c n:Nat):Prop:=c=loose e\/(n<=c/\c<2 ^ 62)
theorem Own.capOk {α:Type} {lim e cap:Nat} {G:NB} {enc:α->List Value} {p:Option Addr} {l:List α} (h:Own lim G enc e p cap l):Uo e cap l.length:=by
 rcases h with ⟨h1,h2,a⟩ | ⟨R,h1,h2,a,b⟩
 ·subst h1 a;exact .inr ⟨Nd _,by decide⟩
 ·exact .inl h2
theorem Nc3 {α:Type} {enc:α->List Value} {e:Nat} (he:∀x,(enc x).length=e):∀(l:List α) (k:Nat),(l.take k).flatMap enc=(l.flatMap enc).take (k*e)
 | [],k=>by simp
 | x::l,0=>by simp
 | x::l,k+1=>by
   rw [P2,Oh,Oh,Nc3 he l k,List.take_append,he,N9 (l:=enc x) (by rw [he,P9];omega),P9,Qq]
theorem Nav {α:Type} {enc:α->List Value} {e:Nat} (he:∀x,(enc x).length=e):∀(l:List α) (k:Nat),(l.drop k).flatMap enc=(l.flatMap enc).drop (k*e)
 | [],k=>by simp
 | x::l,0=>by simp
 | x::l,k+1=>by
   rw [List.drop_succ_cons,Oh,Nav he l k,List.drop_append,he,Pv (as:=enc x) (by rw [he,P9];omega),N6,P9,Qq]
theorem Sl.sub {α:Type} {H:NB} {enc:α->List Value} {e:Nat} {a:Addr} {l:List α} (h:Sl H enc e (Option.some a) l) (he:∀x,(enc x).length=e) {lo hi:Nat} (h1:lo<=hi) (h2:hi<=l.length):Sl H enc e (Option.some (a.add (lo*e))) ((l.take hi).drop lo):=by
 obtain ⟨b,o,s⟩:=a
 have g:=h.1
 simp only at g;subst g
 rw [addr_add]
 refine ⟨rfl,fun hn=>?_⟩
 have f:l≠[]:=by rintro rfl;simp at hn
 obtain ⟨ro,c,k1,k2,k3⟩:=h.2 f
 have d:((l.take hi).drop lo).length=hi-lo:=by simp;omega
 have e1:(hi-lo)*e+lo*e=hi*e:=by rw [<-Pt,Nat.sub_add_cancel h1]
 have e2:hi*e<=l.length*e:=Om e h2
 refine ⟨ro,c,k1,by simp only [d] at *;omega, ?_⟩
 simp only at k2 k3⊢
 rw [d,Nav he,Nc3 he,<-k3,Q5,Pd e2,List.drop_take,List.drop_drop,show hi*e-lo*e=(hi-lo)*e by omega]
theorem T9 {α:Type} {H:NB} {enc:α->List Value} {e:Nat} {p:Option Addr} {l:List α} {c lo hi:Nat} {vlo vhi:Option Value} (g:Sl H enc e p l) (hc:Uo e c l.length) (he:∀x,(enc x).length=e) (hb:∀cap,l.length<=cap->Uj l.length cap vlo vhi none=some (lo,hi,cap)) (h1:lo<=hi) (h2:hi<=l.length) (hn:l.length<2 ^ 63) :
  ∃q c',WJ e (.slice p l.length c) vlo vhi none=some (.slice q (hi-lo) c')/\Sl H enc e q ((l.take hi).drop lo)/\Uo e c' (hi-lo)/\(∀a',q=some a'->∃a,p=some a/\a'.block=a.block)/\(l≠[]->∀a',q=some a'->AM.loadCells H a' 0=some []):=by
 have h0:l≠[]->∀a,p=some a->∀k,k<=l.length->AM.loadCells H (a.add (k*e)) 0=some []:=by
  intro d a m k y
  subst m
  obtain ⟨b,o,s⟩:=a
  have f:=g.1
  simp only at f;subst f
  obtain ⟨ro,cs,k1,k2,k3⟩:=g.2 d
  simp only at k1 k2
  have:=Om e y
  rw [addr_add,NW,k1]
  simp only [Oq,Qc]
  rw [Nk (by omega)]
 have r:l≠[]->∀a,p=some a->AM.loadCells H a 0=some []:=by
  intro d a m
  have:=h0 d a m 0 (N5 _)
  subst m
  obtain ⟨b,o,s⟩:=a
  have f:=g.1
  simp only at f;subst f
  rw [Ov,addr_add,Oq] at this
  exact this
 have u:∀cap,l.length<=cap->bounds unV l.length cap (vlo.map .const) (vhi.map .const) none=some (lo,hi,cap):=fun cap j=>by
  rw [Nbd,<-hb cap j]
  cases vlo<;>cases vhi<;>rfl
 have i:∀(a:Addr) (n:Nat),(a.add n).block=a.block:=fun a n=>by
  unfold Addr.add
  split<;>rfl
 rcases hc with rfl | ⟨v,w⟩
 ·refine ⟨p.map (·.add (lo*e)),loose e, ?_, ?_,.inl rfl,fun a' h=>?_,fun d a' h=>?_⟩
  ·simp only [WJ,U6,O5,if_true,u _ (Nd _)]
  ·cases p with
   | none=>simp only [Sl] at g;subst g;simp [Sl]
   | some a=>exact g.sub he h1 h2
  ·cases p with
   | none=>cases h
   | some a=>cases h;exact ⟨a,rfl,i _ _⟩
  ·cases p with
   | none=>cases h
   | some a=>cases h;exact h0 d a rfl lo (by omega)
 ·have t:¬c=loose e:=by unfold loose;omega
  refine ⟨if c=lo then p else p.map (·.add (lo*e)),c-lo, ?_, ?_,.inr ⟨by omega,by omega⟩,fun a' h=>?_,fun d a' h=>?_⟩
  ·simp only [WJ,U6,O5,Ni t,Nk w,u c v]
  ·split
   ·have h0:(l.take hi).drop lo=[]:=Pv (by simp;omega)
    rw [h0]
    cases p with
    | none=>rfl
    | some a=>exact ⟨g.1,fun h=>absurd rfl h⟩
   ·cases p with
    | none=>simp only [Sl] at g;subst g;simp [Sl]
    | some a=>exact g.sub he h1 h2
  ·split at h
   ·exact ⟨a',h,rfl⟩
   ·cases p with
    | none=>cases h
    | some a=>cases h;exact ⟨a,rfl,i _ _⟩
  ·split at h
   ·exact r d a' h
   ·cases p with
    | none=>cases h
    | some a=>cases h;exact h0 d a rfl lo (by omega)
theorem Nbc:∀l:List UInt8,bytesOf (l.flatMap fun b=>[Value.int .u8 b.toNat])=some l
 | []=>rfl
 | b::l=>by
   rw [Oh]
   show bytesOf (.int .u8 b.toNat::(l.flatMap fun b=>[Value.int .u8 b.toNat]))=_
   rw [Za,Nbc l]
   simp
theorem Nws {H:NB} {p:Option Addr} {l:List UInt8} {c:Nat} (d:Sl H (fun b:UInt8=>[Value.int .u8 b.toNat]) 1 p l) (h0:l=[]->∀a,p=some a->AM.loadCells H a 0=some []):Nub (.slice p l.length c) H=some (.string ⟨l.toArray⟩,H):=by
 cases p with
 | none=>simp only [Sl] at d;subst d;rfl
 | some a=>
   rw [Ndb]
   by_cases hn:l=[]
   ·subst hn
    rw [Nn,h0 rfl a rfl]
    rfl
   ·obtain ⟨a',h1,h2⟩:=d.cells hn
    cases h1
    rw [N8] at h2
    rw [h2]
    simp only [Nbc]
theorem Nla {t:Ty} {H:NB} {l:List t.den} {v:Value} {α:Type} (f:t.den->α) (enc:α->List Value) (he:∀H x c,Yu t H x c->c=enc (f x)) (h:WB (.slice t) H l v) :
  ∃p cap,v=.slice p (l.map f).length cap/\Sl H enc t.size p (l.map f)/\Uo t.size cap (l.map f).length/\(l.map f).length<2 ^ 63:=by
 have h0:=WB.one rfl h
 obtain ⟨p,cap,e,h1,h2⟩:=Yu.sl f enc he h0
 refine ⟨p,cap,List.singleton_inj.1 e,h1, ?_,by simpa using h2⟩
 obtain ⟨_,j,d,b,k1,k2⟩:=h0
 rw [e] at b
 simp only [List.cons.injEq,Value.slice.injEq,and_true] at b
 obtain ⟨e1,_,e3⟩:=b
 subst e1 e3
 cases p with
 | none=>obtain ⟨g,i⟩:=k1 rfl;exact .inr (by rw [g,i];simp)
 | some a=>exact .inl (k2 a rfl).2.2.1
theorem Sl.of_load {α:Type} {H:NB} {enc:α->List Value} {e:Nat} {a:Addr} {l:List α} (d:a.spot=none) (he:∀x,(enc x).length=e) (h:AM.loadCells H a (l.length*e)=Option.some (l.flatMap enc)):Sl H enc e (Option.some a) l:=by
 refine ⟨d,fun hn=>?_⟩
 unfold AM.loadCells at h
 split at h
 ·rename_i ro c hb
  split at h
  ·rename_i b
   exact ⟨ro,c,hb,b,Option.some.inj h⟩
  ·cases h
 ·cases h
theorem U9 {n e lo hi:Nat} {a:Addr} {vlo vhi:Option Value} (hb:Uj n n vlo vhi none=some (lo,hi,n)) (hn:n<2 ^ 62) (hl:lo<n):U3 n e (.pointer (some a)) vlo vhi none=some (.slice (some (a.add (lo*e))) (hi-lo) (n-lo)):=by
 have b:bounds unV n n (vlo.map .const) (vhi.map .const) none=some (lo,hi,n):=by
  rw [Nbd,<-hb]
  cases vlo<;>cases vhi<;>rfl
 simp only [U3,O5,b,Nk hn]
 rw [Ni (by omega)]
theorem Nnp {a:Addr} {n:Nat} (h:a.spot=none):(a.add n).spot=none:=by
 unfold Addr.add
 split
 ·exact h
 ·rfl
theorem Njt {a:Addr} {n:Nat}:(a.add n).block=a.block:=by
 unfold Addr.add
 split<;>rfl
theorem Sl.same {α:Type} {H G:NB} {enc:α->List Value} {e:Nat} {p:Option Addr} {l:List α} (h:Sl H enc e p l) (d:∀a,p=Option.some a->l≠[]->NF G a.block=NF H a.block):Sl G enc e p l:=by
 cases p with
 | none=>exact h
 | some a=>
   refine ⟨h.1,fun hn=>?_⟩
   obtain ⟨ro,c,h2,b⟩:=h.2 hn
   exact ⟨ro,c,by rw [d a rfl hn];exact h2,b⟩
theorem Own.appL {α:Type} {lim lim' e bytes cap:Nat} {G H:NB} {enc:α->List Value} {p:Option Addr} {l:List α} {dest:Option Nat} {str:Bool} {x:Value} (h:Own lim G enc e p cap l):Xj lim' dest e bytes str (.slice p l.length cap) x H=OH lim' dest e bytes str (.slice p l.length cap) x H:=by
 rcases h with ⟨h1,h2,a⟩ | ⟨R,h1,h2,a,b⟩
 ·subst h2;rfl
 ·subst h1;rw [XP,Nk (.inl h2)]
theorem QL.get' {H G:NB} (h:QL H G) {j:Nat} {b:Blk} (a:NF H j=b) (hl:j<H.length):NF G j=b:=by
 obtain ⟨X,rfl⟩:=h
 rw [NZ hl];exact a
end Go.AM


namespace Go.Proofs.YtancgcogjokfcaaGreatDoor.Fn
open Go.AM Go.AM.Sym
def Ngw:Nat->Nat->List UInt8
 | 0,_=>[]
 | f+1,u=>if u<10 then [UInt8.ofNat (48+u)] else Ngw f (u / 10)++[UInt8.ofNat (48+u % 10)]
theorem Xf:∀(f u:Nat),u<10 ^ f->0<f->Ngw f u=Lib.decDigits u
 | 0,_,_,h=>absurd h (by omega)
 | f+1,u,h,_=>by
   unfold Ngw
   rw [Lib.decDigits]
   by_cases a:u<10
   ·rw [Nk a,dif_pos a]
   ·rw [Ni a,dif_neg a]
    have h2:u / 10<10 ^ f:=by rw [Nat.pow_succ] at h;omega
    have b:0<f:=by
     cases f with
     | zero=>simp at h;omega
     | succ f=>omega
    rw [Xf f (u / 10) h2 b]
def NV (n:Int):ByteArray:=⟨(if n<0 then 45::Ngw 20 n.natAbs else Ngw 20 n.toNat).toArray⟩
theorem itoaB_lib {n:Int} (h0:-9223372036854775808<=n) (h1:n<=9223372036854775807):NV n=⟨(Lib.itoa n).toArray⟩:=by
 unfold NV Lib.itoa
 rw [Xf 20 _ (by omega) (by omega),Xf 20 _ (by omega) (by omega)]
def parseV (s:ByteArray):Value:=match Lib.parseIntB 64 s.data.toList with
 | .ok v=>.tuple #[Vi v,.nilIface]
 | .range=>.tuple #[Vi (Lib.intSat 64 s.data.toList),.iface 0 .nilIface]
 | _=>.tuple #[Vi 0,.iface 0 .nilIface]
def fmtO (g:FuncId) (xs:List Value):Option Value:=match xs with
 | [.int .i64 n]=>if g=142/\-9223372036854775808<=n/\n<=9223372036854775807 then some (.string (NV n)) else none
 | [.int .i64 n,.int .i64 m]=>if g=171/\m=10/\-9223372036854775808<=n/\n<=9223372036854775807 then some (.string (NV n)) else none
 | _=>none
def parseO (xs:List Value):Option (Value×List (List Value)×Option (Nat×List Value)):=match xs with
 | [.string s,.int .i64 b,.int .i64 z]=>if b=10/\z=64/\s.size<=281474976710656 then some (parseV s,[],none) else none
 | _=>none
class OA where
 on:Bool
def orc [OA] (g:FuncId) (xs:List Value):Option Value:=if g=142\/g=171 then fmtO g xs else if g=17/\OA.on=true/\xs=[] then some (.bool true) else none
def effP (g:FuncId) (xs:List Value) (H:NB):Option (Value×List (List Value)×Option (Nat×List Value)):=if g=170 then parseO xs else none
def E [OA]:Env:=⟨tr,pf,orc,true,effP⟩
instance dtE [OA]:DT E E:=⟨rfl⟩
section
variable {mp:Bool} {lim:Nat} {g:FuncId} {xs:List Value} {v:Value} {af:AFunc} {H H':NB} {Q:Value->NB->Prop}
theorem pc [OA] (h:g≠17/\g≠142/\g≠171/\g≠170) (b:tr g=some af) (hp:pf g=true) (a:flat 4 v=true) (hr:QZ E af H.length [.code af.body] (ND xs) (H++[]) fun v' _=>v'=v):NP E mp lim g xs H Q=Q v H:=
 Nbx (E:=E) (by simp [E,orc,effP,h]) b hp a (NI hr)
theorem po [OA] (h:g≠17/\g≠142/\g≠171/\g≠170) (b:tr g=some af) (hp:pf g=true) (a:olds H.length 4 v=true) (hr:QZ E af H.length [.code af.body] (ND xs) (H++[]) fun v' _=>v'=v):NP E mp lim g xs H Q=Q v H:=
 Ndj (E:=E) (by simp [E,orc,effP,h]) b hp a (NI hr)
theorem runs [OA] (h:g≠17/\g≠142/\g≠171/\g≠170) (a:tr g=some af) (hp:pf g=false) (hr:QZ E af lim [.code af.body] (ND xs) (H++[]) Q):NP E false lim g xs H Q:=by
 rw [X6 (E:=E) (by simp [E,orc,effP,h]) a hp rfl];exact NI hr
theorem NP.one [OA] (h:NP E mp lim g xs H Q):∃n v H',Rh E n mp lim (.inl g) xs H=some [(v,H')]/\Q v H':=by
 obtain ⟨n,L,h1,h2,a⟩:=h
 obtain ⟨⟨v,H'⟩,rfl⟩:=h2 rfl
 exact ⟨n,v,H',h1,a _ (Ng.mpr rfl)⟩
theorem Ntg [OA] {n:Int} (h0:-9223372036854775808<=n) (h1:n<=9223372036854775807):NP E mp lim 142 [Vi n] H Q=Q (.string (NV n)) H:=
 Ndi (by simp [E,orc,fmtO,h0,h1]) rfl rfl
theorem Nmp [OA] {n:Int} (h0:-9223372036854775808<=n) (h1:n<=9223372036854775807):NP E mp lim 171 [Vi n,Vi 10] H Q=Q (.string (NV n)) H:=
 Ndi (by simp [E,orc,fmtO,h0,h1]) rfl rfl
theorem Nfl [OA] {s:ByteArray} (h:s.size<=281474976710656):NP E false lim 170 [.string s,Vi 10,Vi 64] H Q=Q (parseV s) (H++[]):=by
 rw [Noo (E:=E) (r:=(parseV s,[],none)) (by simp [E,orc]) (by simp [E,effP,parseO,h]) rfl]
 rfl
end
end Go.Proofs.YtancgcogjokfcaaGreatDoor.Fn


namespace Go.AM
open Go.ChangeShapes Go.WideShapes Go.ChangeAt Go.RowKit
theorem Nqt {C:Checked} {os:Os} {g:FuncId} {fn:Func} {s:ChangeSpec} {E:Env} {tys:List Ty} {Z:TypeId} {a:List PathCond} {H:Type} {enc:TypeId×Value->H} {laid:List (String×DataW Unit)}
  (own:ownKnob C.prog.godebug=none) (l:os.Started) (m:C.prog.inits.idxOf? g=none) (K:C.prog.funcs[g]? = some fn) (f:s.vars=[])
  (z:∀ds:List (DataW H),ds.length=fn.params.size->s.fn H ds={ results:=[.lit (.bool true)],args:=ds })
  (B:fn.resultTypes=#[Z]) (hb:C.prog.underlying Z=some .bool) (F:fn.params.toList.mapM (Y1 C.prog 9)=some tys)
  (y:∀t∈fn.params.toList,C.prog.readableRec t=true/\t<C.prog.types.size) (u:laidOutB C.prog=true) (hE:EnvOk C.prog E)
  (witness:∃(w:World) (tape:Tape) (i:Input),w.os=os/\(w.forCall tape i).Shaped C.prog/\i.vars=[]/\Input.okWide C.prog (w.forCall tape i) .any w.heap.size g i/\
   ((s.pre enc C.prog fn a false (w.forCall tape i).memory i.args/\laidMetH C.prog laid (w.forCall tape i).memory)/\sizedMet enc C.prog fn (OpenSpec.ofChange s) false (w.forCall tape i).memory i.args)/\({}:Assume).holds C.prog (lone (Frame.enter C.prog g i.args .normal) [] (w.forCall tape i)))
  (run:∀H vs x,Ner tys H x vs->NP E false H.length g vs H fun v _=>v=.bool true) (M:∀w,laidMetH C.prog laid w->Gl C.prog w) :
  ReturnsInHanded {} C os g .any (fun w args=>(s.pre enc C.prog fn a false w args/\laidMetH C.prog laid w)/\sizedMet enc C.prog fn (OpenSpec.ofChange s) false w args) (s.post enc C.prog fn false true false false):=by
 refine returnsInHanded_of_change_and (X:=fun w _=>laidMetH C.prog laid w) (fun _ _ _ hh h=>laidMetH.of_heap hh h) own l m K witness ?_
 intro w base args ds gs before G T U ac hL I
 have A:=T
 obtain ⟨p,q,J,S,rfl,aa,ab⟩:=T
 rw [f] at S
 obtain ⟨rfl,rfl⟩:=trodVars_none S
 obtain ⟨X,σ,as,x,k1,k2,k3,k4,Y⟩:=Nai J F (fun j t v h1 h2=>G j t v (by simpa using h1) (by simpa using h2)) (fun _=>none) [] (Inv.nil (P:=C.prog) (E:=E) w ⟨w,M w hL,Nd _,fun _ _=>rfl⟩) (fun i b hb=>by simp at hb)
 rw [N6] at k1 k2 Y
 have R:Inv (Prg.mk C.prog E.pure) (fun k=>w.heap.size<=k) X.length σ X w:=⟨k1.toRoot,k1.blk,k1.inj,(fun i b L hb ho=>by rw [k2 i b hb] at ho;cases ho),k1.dom⟩
 obtain ⟨n,LL,Q,D⟩:=run X as x Y
 have c:=(Nt8 hE n).calls _ _ _ _ _ _ Q (Nd _) _ _ _ _ R k4
 rw [show args.toList.toArray=args by simp] at c
 refine c.mono fun e w' hp=>?_
 obtain ⟨r,hr,v',σ',rfl,W,V,d,_⟩:=hp
 rw [D.2 r hr] at W
 rw [W.bool_left]
 have o:Below w.heap.size w w':=⟨d.os,d.tape,d.output.1,d.size,fun k hk=>d.block k (by omega)⟩
 have N:∀x∈p,x.block<w.heap.size:=fun x Q=>by
  have:=A.lt x (by simpa using Q)
  simpa using this
 have O:=z ds (by simpa using trodAll_length J)
 refine ⟨_,rfl,_,_,_,[],p,[],A, ?_, ?_, ?_,o.frame _,fun h=>by cases h⟩
 ·rw [Nb,O,B]
  exact trodAll_mk1 (shut_bool hb true)
 ·rw [Nb,O]
  exact XD u o y J N
 ·rw [Nb,O,f]
  rfl
end Go.AM


namespace Go.Proofs.YtancgcogjokfcaaGreatDoor.Fn
open Go.AM Go.AM.Sym
abbrev QY:=Vector UInt8 32
def u8 (b:UInt8):Value:=.int .u8 b.toNat
def Sk (s:QY):List Value:=s.toList.map u8
theorem RS (s:QY):(Sk s).length=32:=by simp [Sk]
structure Wr where
 pos:Int
 data:QY
 deriving Inhabited,DecidableEq
def Wj (w:Wr):List Value:=Vi w.pos::Sk w.data
theorem R6 (w:Wr):(Wj w).length=33:=by simp [Wj,RS]
theorem Nt6 {a:Int} {s:QY}:Wj ⟨a,s⟩=Vi a::Sk s:=rfl
theorem Yo {w:Wr}:(Wj w)[0]? = some (Vi w.pos):=id rfl
theorem Vd {w:Wr}:((Wj w).drop 1).take 32=Sk w.data:=by
 show (Sk w.data).take 32=_
 rw [N9 (by rw [RS];exact Nd _)]
def Nek (b:Bool):List Value:=[.bool b]
theorem Na3 (b:Bool):(Nek b).length=1:=rfl
theorem No2 {a b:UInt8}:u8 a=u8 b↔a=b:=by
 constructor
 ·intro h
  simp only [u8,Value.int.injEq,Qr] at h
  exact UInt8.toNat_inj.1 (by omega)
 ·rintro rfl;rfl
def UF (n:Nat) (a:Int):Bool:=decide (0<=a/\a<(n:Int))
theorem Ni7 [OA] {mp:Bool} {lim D n c:Nat} {a:Int} {sp:Option Addr} {ro:Bool} {r:List Value} {H:NB} {Q:Value->NB->Prop} (e:NF H D=.cells ro (.slice sp n c::r)) :
  NP E mp lim 67 [Vp D,Vi a] H Q=Q (.bool (UF n a)) H:=by
 refine pc (by decide) e67 rfl rfl ?_
 rw [b67,c67]
 have d:=fun X=>(QL.refl.app (X:=X)).cells e
 simp only [n67,r67,d,Sv,SB,Nat.reduceLT,NC,NH,Nat.reduceEqDiff,NG,NQ,reduceCtorEq,ND,place,NA,Nat.reduceAdd,Nat.reduceLeDiff,NE,Int.reduceEq,Int.reduceLT,Int.reduceLE]
 repeat' ((first | refine Nkz (fun b=>?_) (fun b=>?_) | refine Nm9 (fun b=>?_) (fun b=>?_) | refine Nk0 (fun b=>?_) (fun b=>?_) | refine Nna (fun b=>?_) (fun b=>?_))<;>(try simp only [b,n67,r67,d,Sv,SB,Nat.reduceLT,NC,NH,Nat.reduceEqDiff,NG,NQ,reduceCtorEq,ND,place,NA,Nat.reduceAdd,Nat.reduceLeDiff,NE,Int.reduceEq,Int.reduceLT,Int.reduceLE]))
 all_goals simp [UF];omega
def RO (lost:List Bool):Nat->List Wr->List QY->List QY
 | _,[],s=>s
 | i,w::ws,s=>RO lost (i+1) ws (if UF s.length w.pos&&!lost.getD i false then s.set w.pos.toNat w.data else s)
def QQ (lost:List Bool) (pend:List Wr) (safe:List QY):List QY:=RO lost 0 pend safe
theorem Wl {lost:List Bool} {pend:List Wr} {s:List QY} {i:Nat} (h:i<pend.length):RO lost i (pend.drop i) s=RO lost (i+1) (pend.drop (i+1)) (if UF s.length (gt pend i).pos&&!lost.getD i false then s.set (gt pend i).pos.toNat (gt pend i).data else s):=by
 rw [Pa h,RO,UQ h]
theorem Me (lost:List Bool):∀(a:List Wr) (i:Nat) (s:List QY),(RO lost i a s).length=s.length
 | [],_,_=>rfl
 | w::a,i,s=>by
   rw [RO,Me]
   split
   ·simp
   ·rfl
theorem QX {lost:List Bool} {pend:List Wr} {safe:List QY}:(QQ lost pend safe).length=safe.length:=Me _ _ _ _
theorem Nhg [OA] {lim D S sc F lc ln:Nat} {sp pp pl:Option Addr} {safe:List QY} {pend:List Wr} {lost:List Bool} {H:NB} {Q:Value->NB->Prop}
  (Z:NF H D=Vc [.slice sp safe.length sc,.slice pp pend.length F]) (ah:lim<=D) (hS:safe≠[]->sp=Sa S/\NF H S=Vc (safe.flatMap Sk)/\lim<=S) (ag:S≠D)
  (hP:Sl H Wj 33 pp pend) (ad:∀a,pp=some a->pend≠[]->a.block≠S/\a.block≠D) (hL:Sl H Nek 1 pl lost) (ac:∀a,pl=some a->lost≠[]->a.block≠S/\a.block≠D)
  (al:safe.length<2 ^ 60) (am:pend.length<2 ^ 60) (an:lost.length<2 ^ 60) (ai:ln=lost.length)
  (hQ:∀H',Chg [S,D] H H'->NF H' D=Vc [.slice sp safe.length sc,Vz]->(safe≠[]->NF H' S=Vc ((QQ lost pend safe).flatMap Sk))->Q (.tuple #[]) H') :
  NP E false lim 24 [Vp D,.slice pl ln lc] H Q:=by
 subst ai
 refine runs (by decide) e24 rfl ?_
 rw [b24,c24]
 have aj:=NJ Z
 have aa:=fun X=>(QL.refl.app (X:=X)).cells Z
 simp only [n24,r24,aa,Sv,VM,Option.isNone_some,SB,Nat.reduceLT,NC,NH,Nat.reduceEqDiff,NG,NQ,reduceCtorEq,ND,place,NA,Nat.reduceAdd,Nat.reduceLeDiff,NE,Int.reduceEq,Int.reduceLT,Int.reduceLE]
 refine QC (fun s:Nat×List QY=>pend.length-s.1) (fun s fr G=>s.1<=pend.length/\fr 0=Vp D/\fr 1=.slice pl lost.length lc/\fr 11=.slice pp pend.length F/\fr 12=Vi pend.length/\fr 13=Vi s.1/\
  Chg [S] H G/\s.2.length=safe.length/\(safe≠[]->NF G S=Vc (s.2.flatMap Sk))/\QQ lost pend safe=RO lost s.1 (pend.drop s.1) s.2) (0,safe) ⟨N5 _,(by simp only [FB,Nat.reduceEqDiff]),(by simp only [FB,Nat.reduceEqDiff]),(by simp only [FB,Nat.reduceEqDiff]),(by simp only [FB,Nat.reduceEqDiff]),by rfl,Chg.refl.app,rfl,fun h=>(QL.refl.app (X:=[])).cells (hS h).2.1,rfl⟩ ?_
 rintro ⟨i,cur⟩ fr G ⟨hi,h0,h1,d,f,r,I,u,m,ha⟩ hN
 simp only at hi r u m ha
 rw [QF Nqx.eq_1]
 refine NI ?_
 have A:NF G D=_:=I.cells Z (by simp;omega)
 have J:=NJ A
 have n:=fun X=>(QL.refl.app (X:=X)).cells A
 by_cases l:i<pend.length
 ·have ao:pend≠[]:=by rintro rfl;simp at l
  have M:=I.sl hP fun a e h=>by simp;exact (ad a e h).1
  have L:=I.sl hL fun a e h=>by simp;exact (ac a e h).1
  have x:=fun X=>(M.app X).loadCells R6 l
  have p:=fun c (k:IntKind) (H1:NB)=>M.idx (c:=c) (k:=k) (H1:=H1) l
  have y:IntKind.i64.wrap ((i:Int)+1)=((i+1:Nat):Int):=Ra (by omega)
  have n:=fun X=>(QL.refl.app (X:=X)).cells A
  have o:=fun X (a:Int) (mp:Bool) (lim:Nat) (Q:Value->NB->Prop)=>Ni7 (mp:=mp) (lim:=lim) (a:=a) (Q:=Q) (n X)
  have v:=fun (h:i<lost.length) c (k:IntKind) (H1:NB)=>L.idx (c:=c) (k:=k) (H1:=H1) h
  have z:=fun (h:i<lost.length) X=>(L.app X).loadCell0 Na3 h (by decide)
  have w:lim<=G.length:=by omega
  have aq:i+1<2 ^ 63:=by omega
  have q:G.length<=G.length:=Nd _
  have next:∀(b:List QY) (G' X:NB) (fr':Nat->Value),b=(if UF cur.length (gt pend i).pos&&!lost.getD i false then cur.set (gt pend i).pos.toNat (gt pend i).data else cur)->fr' 0=Vp D->fr' 1=.slice pl lost.length lc->fr' 11=.slice pp pend.length F->fr' 12=Vi pend.length->fr' 13=Vi ((i+1:Nat):Int)->
    Mut G G' S->(safe≠[]->NF G' S=Vc (b.flatMap Sk))->QZ E a24 lim [.inLoop Nqx,.inBlock 0,.code (.ops [Sym.i 45 (.mov (t 0)),Sym.i 46 (.nilCheck (t 45)),Sym.i 47 (.fieldAddr 1 (t 46)),⟨none,none,.store 1 (t 47) (k Vz),none,[]⟩])] fr' (G'++X) Q:=by
   intro b G' X fr' N g0 g1 V W Y C hg
   refine hN (i+1,b) _ _ ⟨by show i+1<=_;omega,g0,g1,V,W,Y,(I.mut C (.inl (by simp))).app, ?_,fun h=>(QL.refl.app (X:=X)).cells (hg h), ?_⟩ (by show _-(i+1)<_;omega)
   ·show b.length=_
    rw [N];split<;>simp [u]
   ·show _=RO _ (i+1) _ b
    rw [ha,Wl l,N]
  cases hh:UF safe.length (gt pend i).pos with
  | false=>
    simp only [n24,r24,h0,h1,d,f,r,l,x,p,n,o,R6,Su,Yo,Vd,Sv,NW,RQ,w,q,y,Nek,Option.isNone_some,Uc,Nnm,Nco,RS,hh,SB,Nat.reduceLT,NC,NH,Nat.reduceEqDiff,NG,NQ,reduceCtorEq,ND,place,NA,Nat.reduceAdd,Nat.reduceLeDiff,NE,Int.reduceEq,Int.reduceLT,Int.reduceLE]
    exact next cur G _ _ (by rw [u,hh];rfl) (by simp only [h0,FB,Nat.reduceEqDiff]) (by simp only [h1,FB,Nat.reduceEqDiff]) (by simp only [d,FB,Nat.reduceEqDiff]) (by simp only [f,FB,Nat.reduceEqDiff]) (by simp only [FB,Nat.reduceEqDiff]) ⟨rfl,fun _ _=>rfl⟩ m
  | true=>
    obtain ⟨k,hk,B⟩:∃k:Nat,(gt pend i).pos=(k:Int)/\k<safe.length:=by
     simp only [UF,Nx] at hh
     exact ⟨(gt pend i).pos.toNat,by omega,by omega⟩
    have R:safe≠[]:=by rintro rfl;simp at B
    obtain ⟨T,ak,ae⟩:=hS R
    have P:∀H1,X9 32 (.slice sp safe.length sc) (Vi (gt pend i).pos) H1=some (.pointer (some (WA sp 32 k)),H1):=fun H1=>by
     rw [T,hk];exact Xa B
    obtain ⟨G',U,K,C⟩:=Ncn (lim:=lim) (e:=32) RS T (m R) ae (show k<cur.length by rw [u];exact B) (gt pend i).data
    by_cases g:i<lost.length
    ·cases hgl:gt lost i with
     | true=>
       simp only [n24,r24,h0,h1,d,f,r,l,x,p,n,o,R6,Su,Yo,Vd,Sv,NW,RQ,w,q,y,Nek,Option.isNone_some,Uc,Nnm,Nco,RS,hh,g,v g,z g,hgl,Vy,show ¬lost.length<=i by omega,Qi,SB,Nat.reduceLT,NC,NH,Nat.reduceEqDiff,NG,NQ,reduceCtorEq,ND,place,NA,Nat.reduceAdd,Nat.reduceLeDiff,NE,Int.reduceEq,Int.reduceLT,Int.reduceLE]
       exact next cur G _ _ (by rw [show lost.getD i false=true by rw [<-hgl];simp [gt,Na,Nf g]];simp) (by simp only [h0,FB,Nat.reduceEqDiff]) (by simp only [h1,FB,Nat.reduceEqDiff]) (by simp only [d,FB,Nat.reduceEqDiff]) (by simp only [f,FB,Nat.reduceEqDiff]) (by simp only [FB,Nat.reduceEqDiff]) ⟨rfl,fun _ _=>rfl⟩ m
     | false=>
       simp only [n24,r24,h0,h1,d,f,r,l,x,p,n,o,R6,Su,Yo,Vd,Sv,NW,RQ,w,q,y,Nek,Option.isNone_some,Uc,Nnm,Nco,RS,hh,g,v g,z g,hgl,Vy,show ¬lost.length<=i by omega,Qi,P,U,SB,Nat.reduceLT,NC,NH,Nat.reduceEqDiff,NG,NQ,reduceCtorEq,ND,place,NA,Nat.reduceAdd,Nat.reduceLeDiff,NE,Int.reduceEq,Int.reduceLT,Int.reduceLE]
       exact next _ G' _ _ (by rw [u,hh,show lost.getD i false=false by rw [<-hgl];simp [gt,Na,Nf g]];simp [hk]) (by simp only [h0,FB,Nat.reduceEqDiff]) (by simp only [h1,FB,Nat.reduceEqDiff]) (by simp only [d,FB,Nat.reduceEqDiff]) (by simp only [f,FB,Nat.reduceEqDiff]) (by simp only [FB,Nat.reduceEqDiff]) C fun _=>K
    ·simp only [n24,r24,h0,h1,d,f,r,l,x,p,n,o,R6,Su,Yo,Vd,Sv,NW,RQ,w,q,y,Nek,Option.isNone_some,Uc,Nnm,Nco,RS,hh,g,Vy,show lost.length<=i by omega,P,U,SB,Nat.reduceLT,NC,NH,Nat.reduceEqDiff,NG,NQ,reduceCtorEq,ND,place,NA,Nat.reduceAdd,Nat.reduceLeDiff,NE,Int.reduceEq,Int.reduceLT,Int.reduceLE]
     exact next _ G' _ _ (by rw [u,hh,show lost.getD i false=false by rw [Na,Nv (by omega)];rfl];simp [hk]) (by simp only [h0,FB,Nat.reduceEqDiff]) (by simp only [h1,FB,Nat.reduceEqDiff]) (by simp only [d,FB,Nat.reduceEqDiff]) (by simp only [f,FB,Nat.reduceEqDiff]) (by simp only [FB,Nat.reduceEqDiff]) C fun _=>K
 ·obtain rfl:i=pend.length:=by omega
  obtain ⟨G',O,ab,C⟩:=RN J (Vc [.slice sp safe.length sc,Vz])
  simp only [n24,r24,h0,h1,d,f,r,l,Uc,Nnm,Nco,RQ,n,ah,O,SB,Nat.reduceLT,NC,NH,Nat.reduceEqDiff,NG,NQ,reduceCtorEq,ND,place,NA,Nat.reduceAdd,Nat.reduceLeDiff,NE,Int.reduceEq,Int.reduceLT,Int.reduceLE]
  refine hQ _ ((I.mono (by simp;intro j _ h;exact .inl h)).mut C (.inl (by simp))).app ((QL.refl.app).cells ab) fun h=>?_
  rw [ha,Qw,RO]
  exact (QL.refl.app).cells (C.cells (m h) ag)
def Uf (b:UInt8):List Value:=[u8 b]
theorem Rt (b:UInt8):(Uf b).length=1:=rfl
theorem Nv2 {b:UInt8}:(Uf b)[0]? = some (.int .u8 b.toNat):=id rfl
def SE (s:ByteArray):List Value:=[.string s]
theorem Rm (s:ByteArray):(SE s).length=1:=rfl
theorem Tx {s:ByteArray}:(SE s)[0]? = some (.string s):=id rfl
instance:Inhabited ByteArray:=⟨ByteArray.empty⟩
theorem Xy {a b:ByteArray}:a=b↔a.data.toList=b.data.toList:=by
 constructor
 ·rintro rfl;rfl
 ·intro h
  cases a;cases b
  simp only at h
  rw [Array.toList_inj.1 h]
theorem Y4 {a b:ByteArray}:(a.toList == b.toList)=decide (a=b):=by
 rw [Q1,beq_iff_eq,Nx,ByteArray.toList_eq,ByteArray.toList_eq,Xy]
def Ry (t:ByteArray):Option Int:=match Lib.parseIntB 64 t.data.toList with
 | .ok v=>if NV v=t then some v else none
 | _=>none
theorem Nfk {l:List UInt8} {v:Int} (h:Lib.parseIntB 64 l=.ok v):-9223372036854775808<=v/\v<=9223372036854775807:=by
 unfold Lib.parseIntB at h
 cases l with
 | nil=>cases h
 | cons c r=>
   simp only at h
   split at h
   ·cases h
   ·cases h
   ·rename_i u a
    by_cases h1:¬c.toNat=45/\2 ^ (64-1)<=u
    ·rw [Nk h1] at h;cases h
    ·rw [Ni h1] at h
     by_cases h2:c.toNat=45/\2 ^ (64-1)<u
     ·rw [Nk h2] at h;cases h
     ·rw [Ni h2] at h
      cases h
      simp only [Nat.add_one_sub_one,Nat.reduceSub,Nat.reducePow] at h1 h2
      by_cases hc:c.toNat=45
      ·rw [Nk hc];omega
      ·rw [Ni hc];omega
def wr1 (a:Addr) (n:Int) (H:NB):NB:=H.set a.block (Vc ((cellsOf (NF H a.block)).set a.off (Vi n)))
def ME:List Addr->List Int->NB->NB
 | a::ps,n::ns,H=>ME ps ns (wr1 a n H)
 | _,_,H=>H
def OkP (lim:Nat) (H:NB) (a:Addr):Prop:=lim<=a.block/\a.spot=none/\∃c,NF H a.block=Vc c/\a.off<c.length
theorem Nsj {a:Addr} {n:Int} {H:NB}:Chg [a.block] H (wr1 a n H):=Chg.refl.set (.inl (by simp))
theorem Nsi {a:Addr} {n:Int} {H:NB}:(wr1 a n H).length=H.length:=by simp [wr1]
theorem OkP.wr {lim:Nat} {H:NB} {a b:Addr} {n:Int} (h:OkP lim H a) (hb:OkP lim H b):OkP lim (wr1 b n H) a:=by
 obtain ⟨h1,h2,c,f,g⟩:=h
 obtain ⟨_,_,d,k3,i⟩:=hb
 refine ⟨h1,h2, ?_⟩
 unfold wr1
 by_cases e:a.block=b.block
 ·rw [e,Rf (NJ k3)]
  rw [e,k3] at f
  cases f
  exact ⟨_,rfl,by rw [k3];simpa [cellsOf] using g⟩
 ·exact ⟨c,by rw [Q9 e];exact f,g⟩
theorem MS {v:Value}:∀{c:List Value} {o:Nat},o<c.length->Rk c o [v]=c.set o v
 | [],_,h=>by simp at h
 | x::c,0,_=>by cases c<;>simp [Rk]
 | x::c,o+1,h=>by rw [ZI,MS (by simpa using h)];rfl
theorem OkP.store {lim:Nat} {H:NB} {a:Addr} {n:Int} (h:OkP lim H a):AM.storeAt lim H a [Vi n]=some (wr1 a n H):=by
 obtain ⟨h1,h2,c,b,d⟩:=h
 obtain ⟨e,f,as'⟩:=a
 simp only at h1 h2 b d
 subst h2
 rw [RQ,b]
 simp only [Nm,Nn,Nr]
 rw [Nk ⟨h1,by omega⟩]
 unfold wr1
 simp only [b,cellsOf]
 rw [MS d]
theorem Nj4:∀(ps:List Addr) (ns:List Int) (H:NB),(ME ps ns H).length=H.length
 | [],_,_=>rfl
 | _::_,[],_=>rfl
 | a::ps,n::ns,H=>by unfold ME;rw [Nj4,Nsi]
theorem Nj5:∀(ps:List Addr) (ns:List Int) (H:NB),Chg (ps.map (·.block)) H (ME ps ns H)
 | [],_,_=>Chg.refl
 | _::_,[],_=>Chg.refl
 | a::ps,n::ns,H=>by
   unfold ME
   exact ((Nsj (a:=a) (n:=n)).mono fun j _ b=>by simp at b;simp [b]).trans ((Nj5 ps ns _).mono fun j _ b=>by simp at b⊢;exact .inr b)
theorem Nor {lim:Nat} {b:Addr}:∀(ps:List Addr) (ns:List Int) (H:NB),(∀a∈ps,OkP lim H a)->OkP lim H b->OkP lim (ME ps ns H) b
 | [],_,_,_,h=>h
 | _::_,[],_,_,h=>h
 | a::ps,n::ns,H,hp,h=>by
   unfold ME
   exact Nor ps ns _ (fun x c=>(hp x (by simp [c])).wr (hp a (by simp))) (h.wr (hp a (by simp)))
theorem Net:∀(ps:List Addr) (ns:List Int) (H:NB) (a:Addr) (n:Int),ps.length=ns.length->ME (ps++[a]) (ns++[n]) H=wr1 a n (ME ps ns H)
 | [],[],_,_,_,_=>rfl
 | [],_::_,_,_,_,h=>by simp at h
 | _::_,[],_,_,_,h=>by simp at h
 | b::ps,m::ns,H,a,n,h=>by
   simp only [N1]
   rw [ME,ME,Net ps ns _ a n (by simpa using h)]
instance:Inhabited Addr:=⟨⟨0,0,none⟩⟩
def Nej (a:Addr):List Value:=[.pointer (some a)]
theorem VH (a:Addr):(Nej a).length=1:=rfl
theorem Nv0 {a:Addr}:(Nej a)[0]? = some (.pointer (some a)):=id rfl
theorem Npc {l:List ByteArray} {i:Nat} {ns:List Int} {v:Int} (h:i<l.length) (a:(l.take i).map Ry=ns.map some) (b:Ry (gt l i)=some v):(l.take (i+1)).map Ry=(ns++[v]).map some:=by
 rw [TY h,Pu,a,Pu]
 simp [b]
theorem YA [OA] {lim c k:Nat} {p q:Option Addr} {l:List ByteArray} {ps:List Addr} {H:NB} {Q:Value->NB->Prop} (hs:Sl H SE 1 p l) (hq:Sl H Nej 1 q ps) (hz:∀t∈l,t.size<=281474976710656) (hp:∀a∈ps,OkP lim H a)
  (K:∀a∈ps,∀x,p=some x->x.block≠a.block) (L:∀a∈ps,∀x,q=some x->x.block≠a.block) (hn:l.length<2 ^ 62) (Z:ps.length<2 ^ 62)
  (T:(l.length≠ps.length\/∃t∈l,Ry t=none)->∀G,Chg (ps.map (·.block)) H G->G.length=H.length->Q (.bool false) G)
  (Y:∀ns,l.map Ry=ns.map some->l.length=ps.length->Q (.bool true) (ME ps ns H)) :
  NP E false lim 143 [.slice p l.length c,.slice q ps.length k] H Q:=by
 refine runs (by decide) Ny9 rfl ?_
 rw [Nz3,c143]
 by_cases hl:l.length=ps.length
 ·simp only [n143,Ndw,hl,SB,seval,NC,NH,NG,NQ,reduceCtorEq,ND,place,NA,NE]
  refine QC (fun i=>l.length-i) (fun i fr G=>i<=l.length/\fr 14=.slice p l.length c/\fr 15=Vi l.length/\fr 16=Vi i/\fr 1=.slice q ps.length k/\∃ns:List Int,ns.length=i/\(l.take i).map Ry=ns.map some/\G=ME (ps.take i) ns H) 0 ⟨N5 _,by rw [hl];rfl,by rw [hl];rfl,by rfl,rfl,[],rfl,by simp,by rw [Nb];cases ps<;>rfl⟩ ?_
  intro i fr G ⟨hi,d,f,g,h1,ns,B,V,u⟩ W
  rw [QF Nq0.eq_1]
  refine NI ?_
  have F:Chg (ps.map (·.block)) H G:=by
   rw [u];exact (Nj5 _ _ _).mono fun j _ z=>by
    obtain ⟨a,J,rfl⟩:=List.mem_map.1 z
    exact List.mem_map.2 ⟨a,Ps J,rfl⟩
  have I:G.length=H.length:=by rw [u,Nj4]
  have U:Sl G SE 1 p l:=F.sl hs fun a D _ z=>by
   obtain ⟨b,hb,e⟩:=List.mem_map.1 z
   exact K b hb a D e.symm
  have w:Sl G Nej 1 q ps:=F.sl hq fun a D _ z=>by
   obtain ⟨b,hb,e⟩:=List.mem_map.1 z
   exact L b hb a D e.symm
  by_cases m:i<l.length
  ·have n:i<ps.length:=by omega
   have N:=fun X=>(U.app X).loadCell0 Rm m (by decide)
   have y:=fun c (kk:IntKind) (H1:NB)=>U.idx (c:=c) (k:=kk) (H1:=H1) m
   have A:=fun X=>(w.app X).loadCell0 VH n (by decide)
   have s:=fun c (kk:IntKind) (H1:NB)=>w.idx (c:=c) (k:=kk) (H1:=H1) n
   have S:IntKind.i64.wrap ((i:Int)+1)=((i+1:Nat):Int):=Ra (by omega)
   have C:=hz _ (Xb m)
   have aa:=fun (mp:Bool) (lim:Nat) (H:NB) (Q:Value->NB->Prop)=>Nfl (lim:=lim) (H:=H) (Q:=Q) C
   have O:∀a∈ps,OkP lim G a:=fun a J=>by
    rw [u];exact Nor _ _ _ (fun x hx=>hp x (Ps hx)) (hp a J)
   have o:Ry (gt l i)=none->Q (.bool false) G:=fun h=>T (.inr ⟨_,Xb m,h⟩) G F I
   simp only [n143,Ndw,d,f,g,h1,m,y,N,Tx,Nfl C,SB,seval,NC,NH,NG,NQ,reduceCtorEq,ND,place,NA,NE]
   unfold parseV
   rcases hv:Lib.parseIntB 64 (gt l i).data.toList with v | _ | _
   rotate_left
   ·have:=o (by unfold Ry;rw [hv])
    simp only [n143,Ndw,d,f,g,h1,VM,SB,seval,NC,NH,NG,NQ,reduceCtorEq,ND,place,NA,NE]
    simpa using this
   ·have:=o (by unfold Ry;rw [hv])
    simp only [n143,Ndw,d,f,g,h1,VM,SB,seval,NC,NH,NG,NQ,reduceCtorEq,ND,place,NA,NE]
    simpa using this
   ·have hr:=Nfk hv
    simp only [n143,Ndw,d,f,g,h1,VM,Nmp hr.1 hr.2,SB,seval,NC,NH,NG,NQ,reduceCtorEq,ND,place,NA,NE]
    by_cases hb:NV v=gt l i
    ·have r:((NV v).toList == (gt l i).toList)=true:=by rw [Y4];exact Oe hb
     have R:Ry (gt l i)=some v:=by unfold Ry;rw [hv];simp only;rw [Nk hb]
     have P:∀v:Int,AM.storeAt lim (G++[]) (gt ps i) [Vi v]=some (wr1 (gt ps i) v G++[]):=fun v=>by rw [Nb,Nb];exact (O _ (Xb n)).store
     simp only [n143,Ndw,d,f,g,h1,r,Ok,s,A,Nv0,P,S,SB,seval,NC,NH,NG,NQ,reduceCtorEq,ND,place,NA,NE]
     refine W (i+1) _ _ ⟨by omega,d,f,rfl,h1,ns++[v],by simp [B],Npc m V R, ?_⟩ (by omega)
     rw [Nb,TY n,Net _ _ _ _ _ (by rw [B,N7];omega),u]
    ·have r:((NV v).toList == (gt l i).toList)=false:=by rw [Y4];exact Oc hb
     have:=o (by unfold Ry;rw [hv];simp only;rw [Ni hb])
     simp only [n143,Ndw,d,f,g,h1,r,Bool.not_false,SB,seval,NC,NH,NG,NQ,reduceCtorEq,ND,place,NA,NE]
     simpa using this
  ·obtain rfl:i=l.length:=by omega
   have:=Y ns (by rw [<-V,Pn]) hl
   simp only [n143,Ndw,d,f,g,h1,m,SB,seval,NC,NH,NG,NQ,reduceCtorEq,ND,place,NA,NE]
   rw [u,hl,Pn] at *
   simpa using this
 ·have:=T (.inl hl) H Chg.refl rfl
  have M:¬((l.length:Int)=(ps.length:Int)):=by omega
  simp only [n143,Ndw,hl,M,SB,seval,NC,NH,NG,NQ,reduceCtorEq,ND,place,NA,NE]
  simpa using this
def Ze (p:Option Addr):List Nat:=match p with
 | none=>[]
 | some a=>[a.block]
theorem Own.moreF {α:Type} {lim lim' e bytes cap:Nat} {G:NB} {enc:α->List Value} {p:Option Addr} {l:List α} (h:Own lim G enc e p cap l) (n:lim'<=lim) (he:∀x,(enc x).length=e) (i:e≠0) (m:List α) (o:m≠[]) (hb:(l.length+m.length)*bytes<=PS) (hn:l.length+m.length<2 ^ 61)
  (X:NB) {x:Value} {str:Bool} (h1:firstCells (G++X) e str x=some (m.flatMap enc)) (h2:lenOf x=some m.length) :
  ∃f,OH lim' none e bytes str (.slice p l.length cap) x (G++X)=some (.slice (Sa ((G++X).length)) (l.length+m.length) (loose e),f++[])/\Own G.length f enc e (Sa ((G++X).length)) (loose e) (l++m)/\Chg (Ze p) G f/\(G++X).length<f.length:=by
 have c:¬m.length=0:=fun q=>o (List.length_eq_zero_iff.1 q)
 rcases h with ⟨k1,k2,k3⟩ | ⟨R,k1,k2,k3,r⟩
 ·subst k1 k2 k3
  refine ⟨G++(X++[Vc (m.flatMap enc)]), ?_, ?_,Chg.refl.app,by simp⟩
  ·simp only [Nn,Nr] at hb hn⊢
   simp only [OH,h1,h2,c,if_false,Nr]
   rw [Ni (by omega)]
   simp [place]
  ·rw [N6]
   refine Own.new ?_ (by simp)
   rw [<-Nl];exact NU
 ·subst k1 k2
  have b:=NJ k3
  have a:NF (G++X) R=Vc (l.flatMap enc):=by rw [NZ b];exact k3
  have d:AM.loadCells (G++X) ⟨R,0,none⟩ (l.length*e)=some (l.flatMap enc):=by
   simp only [NW,a,Nr,QJ he,Nd,if_true,Og]
   rw [N9 (by rw [QJ he];exact Nd _)]
  have g:Mut G (G.set R .dead) R:=⟨by simp,fun j k=>Q9 k⟩
  refine ⟨G.set R .dead++(X++[Vc ((l++m).flatMap enc)]), ?_, ?_,(Chg.refl.mut g (.inl (by simp [Ze]))).app,by simp⟩
  ·simp only [OH,h1,h2,d,a,c,if_false,if_true]
   rw [Ni (by unfold loose;omega)]
   simp [show lim'<=R by omega,place,O3 _ _ b,Nl]
  ·refine Own.new ?_ (by simp)
   rw [<-Nl,show (G++X).length=(G.set R .dead++X).length by simp];exact NU
theorem Nri {α:Type} {X Y:List α} {k:Nat} {d:α}:(X++Y).getD (X.length+k) d=Y.getD k d:=by
 rw [Na,Na,N0 (by omega),Pi]
def Tk {α:Type} (lim:Nat) (G:NB) (enc:α->List Value) (e:Nat) (p:Option Addr) (cap:Nat) (l:List α):Prop:=
 Own lim G enc e p cap l\/∃R,p=Sa R/\cap=l.length/\cap<2 ^ 62/\NF G R=Vc (l.flatMap enc)/\lim<=R
section
variable {α:Type} {lim e cap:Nat} {G:NB} {enc:α->List Value} {p:Option Addr} {l:List α}
theorem Tk.sl (h:Tk lim G enc e p cap l) (he:∀x,(enc x).length=e):Sl G enc e p l:=by
 rcases h with h | ⟨R,rfl,_,_,h,_⟩
 ·exact h.sl he
 ·exact Sl.row he h
theorem Tk.block (h:Tk lim G enc e p cap l) {a:Addr} (b:p=some a):lim<=a.block/\a.block<G.length:=by
 rcases h with h | ⟨R,rfl,_,_,h,hl⟩
 ·exact h.block b
 ·cases b;exact ⟨hl,NJ h⟩
theorem Tk.chg {A:List Nat} {H':NB} (h:Tk lim G enc e p cap l) (hc:Chg A G H') (hp:∀a,p=some a->a.block∉A):Tk lim H' enc e p cap l:=by
 rcases h with h | ⟨R,rfl,h1,h2,b,c⟩
 ·exact .inl (h.chg hc hp)
 ·exact .inr ⟨R,rfl,h1,h2,hc.cells b (hp _ rfl),c⟩
theorem Tk.step {lim' bytes:Nat} (h:Tk lim G enc e p cap l) (o:lim'<=lim) (he:∀x,(enc x).length=e) (i:e≠0) (x:α) (hb:(l.length+1)*bytes<=PS) (hn:l.length+1<2 ^ 61) (n:lim<=G.length)
  (X:NB) (b k:Nat) (s:NF (G++X) b=Vc (enc x)) :
  ∃c,OH lim' none e bytes false (.slice p l.length cap) (.slice (Sa b) 1 k) (G++X)=some (.slice (Sa (G.length+X.length)) (l.length+1) (loose e),c++[])/\
   Own lim (c++[]) enc e (Sa (G.length+X.length)) (loose e) (l++[x])/\(∀A H0,H0.length<=lim->Chg A H0 G->Chg A H0 (c++[]))/\(∀j,j<G.length->(∀a,p=some a->j≠a.block)->NF (c++[]) j=NF G j)/\c.length=G.length+X.length+1/\
   (∀j,j<X.length->NF (c++[]) (G.length+j)=X.getD j .dead):=by
 rcases h with h | ⟨R,rfl,h1,h2,r,u⟩
 ·exact h.step o he i x hb hn n X b k s
 ·have t:=NJ r
  have d:NF ((G++(X++[Vc ((l++[x]).flatMap enc)]))++[]) (G.length+X.length)=Vc ((l++[x]).flatMap enc):=by
   rw [Nb,NK]
   rw [show X.length=X.length+0 from rfl,Nri];rfl
  refine ⟨G++(X++[Vc ((l++[x]).flatMap enc)]), ?_,Own.new d (by omega),fun A H0 _ hc=>(hc.app).app,fun j m _=>?_,by simp;omega,fun j m=>?_⟩
  ·have g:NF (G++X) R=Vc (l.flatMap enc):=by rw [NZ t];exact r
   have f:AM.loadCells (G++X) ⟨R,0,none⟩ (l.length*e)=some (l.flatMap enc):=by
    simp only [NW,g,Nr,QJ he,Nd,if_true,Og]
    rw [N9 (by rw [QJ he];exact Nd _)]
   have hl:AM.loadCells (G++X) ⟨b,0,none⟩ (1*e)=some (enc x):=by
    simp only [NW,s,Nr,Nat.one_mul,he,Nd,if_true,Og]
    rw [N9 (by rw [he];exact Nd _)]
   subst h1
   have q:¬l.length=loose e:=by unfold loose;omega
   simp only [OH,firstCells,lenOf,hl,f,if_false,No,q,Nat.one_ne_zero]
   rw [Ni (by omega),Nk h2,Ni (by omega)]
   simp [place]
  ·rw [Nb,NZ m]
  ·rw [Nb,NK,Na,Ny m,Na]
end
section
variable {α:Type} {lim e cap:Nat} {G G':NB} {enc:α->List Value} {p:Option Addr} {l:List α}
theorem Tk.same (h:Tk lim G enc e p cap l) (c:∀a,p=some a->NF G' a.block=NF G a.block):Tk lim G' enc e p cap l:=by
 rcases h with h | ⟨R,rfl,h1,h2,b,d⟩
 ·rcases h with h | ⟨R,rfl,h1,h2,b⟩
  ·exact .inl (.inl h)
  ·exact .inl (.inr ⟨R,rfl,h1,by rw [c _ rfl];exact h2,b⟩)
 ·exact .inr ⟨R,rfl,h1,h2,by rw [c _ rfl];exact b,d⟩
theorem Tk.app (h:Tk lim G enc e p cap l) (X:NB):Tk lim (G++X) enc e p cap l:=h.same fun a b=>NZ (h.block b).2
theorem Tk.mut {R:Nat} (h:Tk lim G enc e p cap l) (m:Mut G G' R) (hp:∀a,p=some a->a.block≠R):Tk lim G' enc e p cap l:=h.same fun a b=>m.other _ (hp a b)
theorem Tk.moreF {lim' bytes:Nat} (h:Tk lim G enc e p cap l) (f:lim'<=lim) (he:∀x,(enc x).length=e) (d:e≠0) (m:List α) (j:m≠[]) (hb:(l.length+m.length)*bytes<=PS) (hn:l.length+m.length<2 ^ 61)
  (X:NB) {x:Value} {str:Bool} (h1:firstCells (G++X) e str x=some (m.flatMap enc)) (h2:lenOf x=some m.length) :
  ∃b,OH lim' none e bytes str (.slice p l.length cap) x (G++X)=some (.slice (Sa ((G++X).length)) (l.length+m.length) (loose e),b++[])/\Own G.length b enc e (Sa ((G++X).length)) (loose e) (l++m)/\Chg (Ze p) G b/\(G++X).length<b.length:=by
 rcases h with h | ⟨R,rfl,rfl,k2,k3,k⟩
 ·exact Own.moreF h f he d m j hb hn X h1 h2
 ·have g:¬m.length=0:=fun q=>j (List.length_eq_zero_iff.1 q)
  have c:NF (G++X) R=Vc (l.flatMap enc):=by rw [NZ (NJ k3)];exact k3
  have a:AM.loadCells (G++X) ⟨R,0,none⟩ (l.length*e)=some (l.flatMap enc):=by
   simp only [NW,c,Nr,QJ he,Nd,if_true,Og]
   rw [N9 (by rw [QJ he];exact Nd _)]
  have i:¬l.length=loose e:=by unfold loose;omega
  refine ⟨G++(X++[Vc ((l++m).flatMap enc)]), ?_, ?_,Chg.refl.app,by simp⟩
  ·simp only [OH,h1,h2,a,i,g,if_false]
   rw [Ni (by omega),Nk k2,Ni (by omega)]
   simp [place]
  ·refine Own.new ?_ (by simp)
   rw [<-Nl];exact NU
end
def Yn (n:Int):List Value:=[Vi n]
theorem Tz (n:Int):(Yn n).length=1:=rfl
theorem Nv1 {n:Int}:(Yn n)[0]? = some (Vi n):=id rfl
def XT (n:Int):Prop:=-9223372036854775808<=n/\n<=9223372036854775807
theorem WC [OA] {lim k:Nat} {q:Option Addr} {w:ByteArray} {ns:List Int} {H:NB} {Q:Value->NB->Prop} (J:Sl H Yn 1 q ns) (hn:ns.length<2 ^ 40) (hr:∀n∈ns,XT n) (hl:lim<=H.length)
  (D:∀p c G,Chg [] H G->Tk H.length G SE 1 p c (w::ns.map NV)->Q (.slice p (ns.length+1) c) G) :
  NP E false lim 101 [.string w,.slice q ns.length k] H Q:=by
 refine runs (by decide) Nzp rfl ?_
 rw [N0j,Nwq]
 simp only [n101,Nvc,SB,seval,NC,NH,NG,NQ,reduceCtorEq,ND,place,NA,NE]
 refine QC (fun s:Nat×Option Addr×Nat=>ns.length-s.1) (fun s fr G=>s.1<=ns.length/\fr 10=.slice q ns.length k/\fr 11=Vi ns.length/\fr 12=Vi s.1/\fr 5=.slice s.2.1 (s.1+1) s.2.2/\Chg [] H G/\Tk H.length G SE 1 s.2.1 s.2.2 (w::(ns.take s.1).map NV)) (0,Sa H.length,1) ⟨N5 _,rfl,rfl,by rfl,by rfl,Chg.refl.app, ?_⟩ ?_
 ·exact .inr ⟨H.length,rfl,rfl,(by show (1:Nat)<2 ^ 62;decide),NU,Nd _⟩
 rintro ⟨i,p,c⟩ fr G ⟨hi,d,e,f,t,r,l⟩ C
 simp only at hi f t l
 rw [QF Nq4.eq_1]
 refine NI ?_
 by_cases b:i<ns.length
 ·have A:=r.sl J fun _ _ _ h=>by cases h
  have y:=fun X=>(A.app X).loadCell0 Tz b (by decide)
  have m:=fun c (kk:IntKind) (H1:NB)=>A.idx (c:=c) (k:=kk) (H1:=H1) b
  have z:IntKind.i64.wrap ((i:Int)+1)=((i+1:Nat):Int):=Ra (by omega)
  have o:=hr _ (Xb b)
  have g:(w::(ns.take i).map NV).length=i+1:=by simp;omega
  obtain ⟨K,hp,v,u,F⟩:=l.moreF (lim':=lim) (bytes:=16) hl Rm (by decide) [NV (gt ns i)] (by simp) (by rw [g];simp;unfold PS;omega) (by rw [g];simp;omega) [Vc [.string (NV (gt ns i))]] (x:=.slice (Sa G.length) 1 1) (str:=false) (by simp [firstCells,NW,NU,SE]) rfl
  rw [g] at hp
  simp only [n101,Nvc,d,e,f,t,b,m,y,Nv1,Ntg o.1 o.2,z,hp,SB,seval,NC,NH,NG,NQ,reduceCtorEq,ND,place,NA,NE]
  refine C (i+1,_,_) _ _ ⟨by show i+1<=_;omega,d,e,rfl,rfl, ?_, ?_⟩ (by show _-(i+1)<_;omega)
  ·exact (r.trans' u fun j B I=>by
    cases p with
    | none=>simp [Ze] at B
    | some a=>
      simp only [Ze,Ng] at B
      have:=(l.block rfl).1
      omega).app
  ·have:=(v.le r.len).app []
   rw [TY b,Pu,<-N1]
   rw [Nj] at this
   exact .inl this
 ·obtain rfl:i=ns.length:=by omega
  simp only [n101,Nvc,d,e,f,t,b,SB,seval,NC,NH,NG,NQ,reduceCtorEq,ND,place,NA,NE]
  rw [Nb]
  exact D _ _ _ r (by rw [Pn] at l;exact l)
section
variable {κ ν:Type} [DecidableEq κ]
def PE (k:κ):List (κ×ν)->Option ν
 | []=>none
 | (k',v)::l=>if k'=k then some v else PE k l
def Rx (k:κ) (v:ν):List (κ×ν)->List (κ×ν)
 | []=>[(k,v)]
 | (k',v')::l=>if k'=k then (k',v)::l else (k',v')::Rx k v l
def fk (k:κ):List (κ×ν)->Nat->Option (Nat×ν)
 | [],_=>none
 | (k',v)::l,i=>if k'=k then some (i,v) else fk k l (i+1)
theorem Njc (k:κ):∀(l:List (κ×ν)) (i:Nat),(fk k l i).map (·.2)=PE k l
 | [],_=>rfl
 | (k',v)::l,i=>by
   unfold fk PE
   by_cases h:k'=k
   ·rw [Nk h,Nk h];rfl
   ·rw [Ni h,Ni h];exact Njc k l (i+1)
theorem M6 {k:κ} {v v':ν}:∀{l:List (κ×ν)} {i j:Nat},fk k l i=some (j,v)->i<=j/\j-i<l.length/\l.set (j-i) (k,v')=Rx k v' l
 | [],_,_,h=>by cases h
 | (k2,v2)::l,i,j,h=>by
   unfold fk at h
   unfold Rx
   by_cases h2:k2=k
   ·rw [Nk h2] at h
    cases h
    rw [Nk h2,Qg,h2]
    exact ⟨Nd _,by simp,rfl⟩
   ·rw [Ni h2] at h
    obtain ⟨b,c,a⟩:=M6 (v':=v') h
    rw [Ni h2]
    have e:j-i=(j-(i+1))+1:=by omega
    rw [e,P6,a]
    exact ⟨by omega,by simp only [Nm];omega,rfl⟩
theorem Neh {k:κ} {v':ν}:∀{l:List (κ×ν)} {i:Nat},fk k l i=none->l++[(k,v')]=Rx k v' l
 | [],_,_=>rfl
 | (k2,v2)::l,i,h=>by
   unfold fk at h
   unfold Rx
   by_cases h2:k2=k
   ·rw [Nk h2] at h;cases h
   ·rw [Ni h2] at h
    rw [Ni h2,<-Neh h,N1]
theorem Te {k k':κ} {v:ν}:∀{l:List (κ×ν)},PE k' (Rx k v l)=if k'=k then some v else PE k' l
 | []=>by
   unfold Rx PE
   by_cases h:k'=k
   ·rw [Nk h.symm,Nk h]
   ·rw [Ni fun q=>h q.symm,Ni h];rfl
 | (k2,v2)::l=>by
   unfold Rx
   by_cases h2:k2=k
   ·rw [Nk h2]
    subst h2
    by_cases h:k'=k2
    ·rw [Nk h];unfold PE;rw [Nk h.symm]
    ·rw [Ni h];unfold PE;rw [Ni fun q=>h q.symm,Ni fun q=>h q.symm]
   ·rw [Ni h2]
    by_cases h:k2=k'
    ·have:¬k'=k:=fun q=>h2 (h.trans q)
     rw [Ni this];unfold PE;rw [Nk h,Nk h]
    ·unfold PE;rw [Ni h,Ni h];exact Te
def QK (kv:κ->Value) (vv:ν->Value) (es:List (κ×ν)):List (Value×Value):=es.map fun x=>(kv x.1,vv x.2)
def Nu5 (kv:κ->Value):Prop:=∀a b,Sq (kv a) (kv b)=some (decide (a=b))
variable {kv:κ->Value} {vv:ν->Value}
theorem SX (a:Nu5 kv) (k:κ):∀(es:List (κ×ν)) (i:Nat),findKey (kv k) (QK kv vv es) i=some ((fk k es i).map fun x=>(x.1,vv x.2))
 | [],_=>rfl
 | (k',v)::l,i=>by
   unfold QK
   rw [Of]
   unfold findKey fk
   rw [a]
   by_cases h:k'=k
   ·rw [Nk h,Oe h.symm];rfl
   ·rw [Ni h,Oc fun q=>h q.symm]
    exact SX a k l (i+1)
end
structure Ent where
 kind:Int
 item:Int
 cents:Int
 bal:Int
deriving DecidableEq,Inhabited
structure ML where
 name:ByteArray
 ents:List Ent
 its:List Int
structure It where
 from':Int
 point:Int
 refd:Bool
structure Sc where
 item:Int
 place:Int
 scanner:Int
 kind:Int
 at':Int
 seen:Int
deriving DecidableEq,Inhabited
structure BU where
 calls:List (List ByteArray)
 ms:List (Int×ML)
 xs:List (Int×It)
 sc:List Sc
def Rn (l:List Ent):Int:=(l.getLast?.map (·.bal)).getD 0
def SK (n:Int):Bool:=decide (1<=n/\n<=999999)
def WZ (n:Int):Bool:=decide (1<=n/\n<=1000000000)
def Yf (n:Int):Bool:=decide (0<=n/\n<=1051898399)
inductive Cl where
 | join (id:Int) (name:ByteArray)
 | pay (id c:Int)
 | post (id f p c:Int)
 | scan (s:Sc)
 | refund (id c:Int)
def SV:ByteArray:=⟨#[106,111,105,110]⟩
def TK:ByteArray:=⟨#[112,97,121]⟩
def SH:ByteArray:=⟨#[112,111,115,116]⟩
def Tm:ByteArray:=⟨#[115,99,97,110]⟩
def Rb:ByteArray:=⟨#[114,101,102,117,110,100]⟩
def Nm1 (m:ML) (kind item c a:Int):ML:={ m with ents:=m.ents++[⟨kind,item,c,Rn m.ents+a⟩] }
def noM:ML:=⟨ByteArray.empty,[],[]⟩
def noI:It:=⟨0,0,false⟩
def Wh (s:BU) (id kind item c a:Int):BU:={ s with ms:=Rx id (Nm1 ((PE id s.ms).getD noM) kind item c a) s.ms }
def Rv (s:BU):Cl->Int
 | .join id name=>if SK id=false\/name.size<1\/40<name.size then 2 else if (PE id s.ms).isSome then 430 else if 200<=s.ms.length then 5 else 0
 | .pay id c=>if SK id=false\/WZ c=false then 2 else match PE id s.ms with
   | none=>6
   | some m=>if 1000000000000<Rn m.ents+c then 3 else 0
 | .post id f p c=>if SK id=false\/SK f=false\/SK p=false\/WZ c=false then 2 else if (PE id s.xs).isSome then 430 else match PE f s.ms with
   | none=>6
   | some m=>if Rn m.ents<c then 431 else if 2000<=s.xs.length then 5 else 0
 | .scan x=>if x.kind<1\/4<x.kind then 2 else if SK x.item=false\/SK x.place=false\/SK x.scanner=false\/Yf x.at'=false\/Yf x.seen=false then 2 else if (PE x.item s.xs).isNone then 6 else if 2000<=s.sc.length then 5 else 0
 | .refund id c=>if SK id=false\/WZ c=false then 2 else match PE id s.xs with
   | none=>6
   | some x=>if x.refd then 430 else if 1000000000000<Rn ((PE x.from' s.ms).getD noM).ents+c then 3 else 0
def Vn (s:BU):Cl->BU
 | .join id name=>{ s with ms:=Rx id ⟨name,[],[]⟩ s.ms }
 | .pay id c=>Wh s id 1 0 c c
 | .post id f p c=>
   let m:=(PE f s.ms).getD noM
   Wh { s with xs:=Rx id ⟨f,p,false⟩ s.xs,ms:=Rx f { m with its:=m.its++[id] } s.ms } f 2 id c (-c)
 | .scan x=>{ s with sc:=s.sc++[x] }
 | .refund id c=>
   let x:=(PE id s.xs).getD noI
   Wh { s with xs:=Rx id { x with refd:=true } s.xs } x.from' 3 id c c
def Rp:List ByteArray->Option Cl
 | [w,a,b]=>if w=SV then (Ry a).map (fun id=>.join id b) else if w=TK then (match Ry a,Ry b with | some x,some y=>some (.pay x y) | _,_=>none)
   else if w=Rb then (match Ry a,Ry b with | some x,some y=>some (.refund x y) | _,_=>none) else none
 | [w,a,b,c,d]=>if w=SH then (match Ry a,Ry b,Ry c,Ry d with | some x,some y,some z,some u=>some (.post x y z u) | _,_,_,_=>none) else none
 | [w,a,b,c,d,e,f]=>if w=Tm then (match Ry a,Ry b,Ry c,Ry d,Ry e,Ry f with | some x,some y,some z,some u,some v,some t=>some (.scan ⟨x,y,z,u,v,t⟩) | _,_,_,_,_,_=>none) else none
 | _=>none
def RU (s:BU) (c:List ByteArray):Int:=match Rp c with
 | none=>432
 | some x=>Rv s x
def doneD (s:BU) (c:List ByteArray):BU:=match Rp c with
 | none=>s
 | some x=>{ Vn s x with calls:=s.calls++[c] }
structure PM where
 m:ML
 pe:Option Addr
 ce:Nat
 pi:Option Addr
 ci:Nat
structure PC where
 c:List ByteArray
 p:Option Addr
 k:Nat
structure SU where
 calls:List PC
 cp:Option Addr
 cc:Nat
 ms:List (Int×PM)
 M:Nat
 xs:List (Int×It)
 X:Nat
 sc:List Sc
 sp:Option Addr
 sk:Nat
def SU.st (s:SU):BU:=⟨s.calls.map (·.c),s.ms.map fun x=>(x.1,x.2.m),s.xs,s.sc⟩
def Njh (c:PC):List Value:=[.slice c.p c.c.length c.k]
def Z5 (x:Sc):List Value:=[Vi x.item,Vi x.place,Vi x.scanner,.int .u8 x.kind,Vi x.at',Vi x.seen]
def Xe (x:Ent):List Value:=[.int .u8 x.kind,Vi x.item,Vi x.cents,Vi x.bal]
def Tj (m:PM):Value:=.agg #[.string m.m.name,.slice m.pe m.m.ents.length m.ce,.slice m.pi m.m.its.length m.ci]
def UK (x:It):Value:=.agg #[Vi x.from',Vi x.point,.bool x.refd]
def kI (n:Int):Value:=Vi n
theorem Nap:Nu5 kI:=fun a b=>by simp [kI,Sq];rfl
theorem Ww {n:Int}:Sb (.int .i64) (kI n)=true:=by simp [kI,Sb]
theorem Na2 (c:PC):(Njh c).length=1:=rfl
theorem Nry (c:Sc):(Z5 c).length=6:=rfl
theorem SQ (c:Ent):(Xe c).length=4:=rfl
inductive Ro where
 | b | m | x | c | s | e (id:Int) | i (id:Int)
deriving DecidableEq
def bk (p:Option Addr):Option Nat:=p.map (·.block)
def SU.ptr (s:SU) (B:Nat):Ro->Option Nat
 | .b=>some B
 | .m=>some s.M
 | .x=>some s.X
 | .c=>bk s.cp
 | .s=>bk s.sp
 | .e id=>(PE id s.ms).bind fun m=>bk m.pe
 | .i id=>(PE id s.ms).bind fun m=>bk m.pi
structure KB (lim B:Nat) (jv:Value) (s:SU) (G:NB):Prop where
 b:NF G B=Vc [jv,.slice s.cp s.calls.length s.cc,.map (some s.M),.map (some s.X),.slice s.sp s.sc.length s.sk]
 m:NF G s.M=.map (QK kI Tj s.ms)
 x:NF G s.X=.map (QK kI UK s.xs)
 oc:Own lim G Njh 1 s.cp s.cc s.calls
 os:Own lim G Z5 6 s.sp s.sk s.sc
 oe:∀id m,PE id s.ms=some m->Own lim G Xe 4 m.pe m.ce m.m.ents
 oi:∀id m,PE id s.ms=some m->Own lim G Yn 1 m.pi m.ci m.m.its
 cs:∀c∈s.calls,Sl G SE 1 c.p c.c/\∀a,c.p=some a->a.block<G.length
 lB:lim<=B
 lM:lim<=s.M
 lX:lim<=s.X
 inj:∀r r' a,s.ptr B r=some a->s.ptr B r'=some a->r=r'
 cf:∀c∈s.calls,∀a,c.p=some a->∀r,s.ptr B r≠some a.block
section
variable {lim B:Nat} {jv:Value} {s:SU} {G:NB}
theorem KB.lt (h:KB lim B jv s G) {r:Ro} {j:Nat} (hr:s.ptr B r=some j):lim<=j/\j<G.length:=by
 have hb:∀{α:Type} {enc:α->List Value} {e c:Nat} {p:Option Addr} {l:List α},Own lim G enc e p c l->bk p=some j->lim<=j/\j<G.length:=fun ho hp=>by
  obtain ⟨a,rfl,rfl⟩:=Nc.1 hp
  exact ho.block rfl
 cases r with
 | b=>cases hr;exact ⟨h.lB,NJ h.b⟩
 | m=>cases hr;exact ⟨h.lM,by
    rcases Ol s.M G.length with k | k
    ·exact k
    ·have:=h.m;unfold NF at this;rw [Na,Nv k] at this;cases this⟩
 | x=>cases hr;exact ⟨h.lX,by
    rcases Ol s.X G.length with k | k
    ·exact k
    ·have:=h.x;unfold NF at this;rw [Na,Nv k] at this;cases this⟩
 | c=>exact hb h.oc hr
 | s=>exact hb h.os hr
 | e id=>
   obtain ⟨m,d,hp⟩:=Option.bind_eq_some_iff.1 hr
   exact hb (h.oe id m d) hp
 | i id=>
   obtain ⟨m,d,hp⟩:=Option.bind_eq_some_iff.1 hr
   exact hb (h.oi id m d) hp
theorem KB.to {A:List Nat} {G':NB} (h:KB lim B jv s G) (hc:Chg A G G') (l:∀j∈A,(∀r,s.ptr B r≠some j)/\∀c∈s.calls,∀a,c.p=some a->a.block≠j):KB lim B jv s G':=by
 have hn:∀{r:Ro} {j:Nat},s.ptr B r=some j->j∉A:=fun hr k=>(l _ k).1 _ hr
 have hp:∀{p:Option Addr} {r:Ro},s.ptr B r=bk p->∀a,p=some a->a.block∉A:=fun {p r} e a f=>hn (r:=r) (by rw [e,f];rfl)
 refine ⟨hc.get h.b (h.lt (r:=.b) rfl).2 (hn (r:=.b) rfl),hc.get h.m (h.lt (r:=.m) rfl).2 (hn (r:=.m) rfl),hc.get h.x (h.lt (r:=.x) rfl).2 (hn (r:=.x) rfl),h.oc.chg hc (hp (r:=.c) rfl),h.os.chg hc (hp (r:=.s) rfl),fun id m g=>(h.oe id m g).chg hc (hp (r:=.e id) (by simp [SU.ptr,g])),fun id m g=>(h.oi id m g).chg hc (hp (r:=.i id) (by simp [SU.ptr,g])),fun c d=>⟨hc.sl (h.cs c d).1 fun a f _ k=>(l _ k).2 c d a f rfl,fun a f=>by have:=(h.cs c d).2 a f;have:=hc.len;omega⟩,h.lB,h.lM,h.lX,h.inj,h.cf⟩
theorem KB.new {G':NB} (h:KB lim B jv s G) (hc:Chg [] G G'):KB lim B jv s G':=h.to hc fun _ a=>by cases a
end
section
variable {mp:Bool} {lim:Nat} {H:NB} {Q:Value->NB->Prop}
theorem Re [OA] {n:Int}:NP E mp lim 144 [Vi n] H Q=Q (.bool (SK n)) H:=by
 refine pc (by decide) Ny8 rfl rfl ?_
 rw [Nz2,Nwf]
 simp only [n144,Nw7,SB,seval,NC,NH,NG,NQ,reduceCtorEq,ND,place,NA,NE]
 unfold SK
 by_cases h1:(1:Int)<=n<;>by_cases h2:n<=999999
 all_goals simp only [n144,Nw7,h1,h2,SB,seval,NC,NH,NG,NQ,reduceCtorEq,ND,place,NA,NE]
 all_goals simp [*]
theorem QI [OA] {n:Int}:NP E mp lim 146 [Vi n] H Q=Q (.bool (WZ n)) H:=by
 refine pc (by decide) Ny6 rfl rfl ?_
 rw [Nz0,c146]
 simp only [n146,Nw6,SB,seval,NC,NH,NG,NQ,reduceCtorEq,ND,place,NA,NE]
 unfold WZ
 by_cases h1:(1:Int)<=n<;>by_cases h2:n<=1000000000
 all_goals simp only [n146,Nw6,h1,h2,SB,seval,NC,NH,NG,NQ,reduceCtorEq,ND,place,NA,NE]
 all_goals simp [*]
theorem UB [OA] {n:Int}:NP E mp lim 173 [Vi n] H Q=Q (.bool (SK n)) H:=by
 refine pc (by decide) Nyx rfl rfl ?_
 rw [Nzr,c173]
 simp only [n173,Nw4,SB,seval,NC,NH,NG,NQ,reduceCtorEq,ND,place,NA,NE]
 unfold SK
 by_cases h1:(1:Int)<=n<;>by_cases h2:n<=999999
 all_goals simp only [n173,Nw4,h1,h2,SB,seval,NC,NH,NG,NQ,reduceCtorEq,ND,place,NA,NE]
 all_goals simp [*]
theorem UA [OA] {n:Int}:NP E mp lim 174 [Vi n] H Q=Q (.bool (Yf n)) H:=by
 refine pc (by decide) Nyw rfl rfl ?_
 rw [Nzq,Nv9]
 simp only [n174,Nw3,SB,seval,NC,NH,NG,NQ,reduceCtorEq,ND,place,NA,NE]
 unfold Yf
 by_cases h1:(0:Int)<=n<;>by_cases h2:n<=1051898399
 all_goals simp only [n174,Nw3,h1,h2,SB,seval,NC,NH,NG,NQ,reduceCtorEq,ND,place,NA,NE]
 all_goals simp [*]
theorem VG [OA] {B M:Nat} {b c d e:Value} (h:NF H B=Vc [b,c,.map (some M),d,e]):NP E mp lim 53 [Vp B] H Q=Q (.bool false) H:=by
 refine pc (by decide) e53 rfl rfl ?_
 rw [b53,c53]
 have a:=fun X=>(QL.refl.app (X:=X)).cells h
 simp only [n53,r53,a,VM,SB,seval,NC,NH,NG,NQ,reduceCtorEq,ND,place,NA,NE]
theorem Z8 [OA] {p:Option Addr} {c:Nat} {l:List Ent} {nm its:Value} (h:Sl H Xe 4 p l) (hn:l.length<2 ^ 40):NP E mp lim 51 [.agg #[nm,.slice p l.length c,its]] H Q=Q (Vi (Rn l)) H:=by
 refine pc (by decide) e51 rfl rfl ?_
 rw [b51,c51]
 simp only [n51,r51,SB,seval,NC,NH,NG,NQ,reduceCtorEq,ND,place,NA,NE]
 by_cases hl:l=[]
 ·subst hl
  simp only [n51,r51,Nn,SB,seval,NC,NH,NG,NQ,reduceCtorEq,ND,place,NA,NE]
  rfl
 ·have h0:0<l.length:=List.length_pos_iff.2 hl
  have d:¬((l.length:Int)=0):=by omega
  have a:l.length-1<l.length:=by omega
  have g:=Nkx h0 (by omega)
  have e:=fun X=>(h.app X).loadCell (j:=3) SQ a (by decide)
  have b:=fun c (kk:IntKind) (H1:NB)=>h.idx (c:=c) (k:=kk) (H1:=H1) a
  have e3:∀x:Ent,(Xe x)[3]? = some (Vi x.bal):=fun _=>rfl
  have f:Rn l=(gt l (l.length-1)).bal:=by
   unfold Rn
   rw [List.getLast?_eq_getElem?,Nf a,UQ a];rfl
  simp only [n51,r51,d,g,b,e,e3,SB,seval,NC,NH,NG,NQ,reduceCtorEq,ND,place,NA,NE]
  rw [f]
end
theorem Wx {κ ν:Type} [DecidableEq κ] {k:κ} {v:ν} {l:List (κ×ν)} (h:PE k l=some v) (i:Nat):∃j,fk k l i=some (j,v):=by
 rw [<-Njc k l i] at h
 obtain ⟨⟨j,w⟩,h1,rfl⟩:=Nc.1 h
 exact ⟨j,h1⟩
theorem Own.moreE {α:Type} {lim lim' e bytes cap:Nat} {G:NB} {enc:α->List Value} {p:Option Addr} {l:List α} (h:Own lim G enc e p cap l) (n:lim'<=lim) (he:∀x,(enc x).length=e) (g:e≠0) (m:List α) (o:m≠[]) (hb:(l.length+m.length)*bytes<=PS) (hn:l.length+m.length<2 ^ 61)
  (X:NB) (k:Nat) {x:Value} {str:Bool} (h1:firstCells (G++X) e str x=some (m.flatMap enc)) (h2:lenOf x=some m.length) :
  ∃G1,OH lim' (some (G.length+k)) e bytes str (.slice p l.length cap) x (G++X)=some (.slice (Sa (G.length+k)) (l.length+m.length) (loose e),G1++X.set k (Vc ((l++m).flatMap enc)))/\Chg (Ze p) G G1/\G1.length=G.length:=by
 have c:¬m.length=0:=fun q=>o (List.length_eq_zero_iff.1 q)
 rcases h with ⟨k1,k2,k3⟩ | ⟨R,k1,k2,k3,r⟩
 ·subst k1 k2 k3
  refine ⟨G, ?_,Chg.refl,rfl⟩
  simp only [Nn,Nr] at hb hn⊢
  simp only [OH,h1,h2,c,if_false,Nr]
  rw [Ni (by omega)]
  simp [place,P7]
 ·subst k1 k2
  have b:=NJ k3
  have a:NF (G++X) R=Vc (l.flatMap enc):=by rw [NZ b];exact k3
  have d:AM.loadCells (G++X) ⟨R,0,none⟩ (l.length*e)=some (l.flatMap enc):=by
   simp only [NW,a,Nr,QJ he,Nd,if_true,Og]
   rw [N9 (by rw [QJ he];exact Nd _)]
  have f:Mut G (G.set R .dead) R:=⟨by simp,fun j i=>Q9 i⟩
  refine ⟨G.set R .dead, ?_,Chg.refl.mut f (.inl (by simp [Ze])),by simp⟩
  simp only [OH,h1,h2,d,a,c,if_false,if_true]
  rw [Ni (by unfold loose;omega)]
  simp only [show lim'<=R by omega,if_true,place,O3 _ _ b,P5]
  rw [P7 _ _ (by simp)]
  simp
theorem Nka {s:SU} {B:Nat} {id:Int} {m':PM} {r:Ro}:({ s with ms:=Rx id m' s.ms }:SU).ptr B r=if r=.e id then bk m'.pe else if r=.i id then bk m'.pi else s.ptr B r:=by
 cases r with
 | e i=>
   simp only [SU.ptr,Te]
   by_cases q:i=id
   ·subst q;simp
   ·rw [Ni q,Ni (by simpa using q),Ni (by simp)]
 | i i=>
   simp only [SU.ptr,Te]
   by_cases q:i=id
   ·subst q;simp
   ·rw [Ni q,Ni (by simp),Ni (by simpa using q)]
 | _=>simp [SU.ptr]
theorem KB.put {l0 B:Nat} {jv:Value} {s:SU} {G G':NB} {id:Int} {m':PM} {A:List Nat} (h:KB l0 B jv s G) (hc:Chg A G G') (D:∀j∈A,s.ptr B .m=some j\/s.ptr B (.e id)=some j\/s.ptr B (.i id)=some j\/((∀r,s.ptr B r≠some j)/\∀c∈s.calls,∀a,c.p=some a->a.block≠j))
  (I:NF G' s.M=.map (QK kI Tj (Rx id m' s.ms))) (h1:Own l0 G' Xe 4 m'.pe m'.ce m'.m.ents) (h2:Own l0 G' Yn 1 m'.pi m'.ci m'.m.its)
  (F:∀j,bk m'.pe=some j->s.ptr B (.e id)=some j\/G.length<=j) (H:∀j,bk m'.pi=some j->s.ptr B (.i id)=some j\/G.length<=j) (C:∀j,bk m'.pe=some j->bk m'.pi=some j->False) :
  KB l0 B jv { s with ms:=Rx id m' s.ms } G'/\∀r j,({ s with ms:=Rx id m' s.ms }:SU).ptr B r=some j->s.ptr B r=some j\/G.length<=j:=by
 have l:∀r j,({ s with ms:=Rx id m' s.ms }:SU).ptr B r=some j->s.ptr B r=some j\/G.length<=j:=fun r j hr=>by
  rw [Nka] at hr
  by_cases n:r=.e id
  ·rw [Nk n] at hr;subst n;exact F j hr
  ·rw [Ni n] at hr
   by_cases o:r=.i id
   ·rw [Nk o] at hr;subst o;exact H j hr
   ·rw [Ni o] at hr;exact .inl hr
 refine ⟨?_,l⟩
 have hn:∀{r:Ro} {j:Nat},s.ptr B r=some j->r≠.m->r≠.e id->r≠.i id->j∉A:=fun {r j} hr w y z v=>by
  rcases D j v with q | q | q | q
  ·exact w (h.inj _ _ _ hr q)
  ·exact y (h.inj _ _ _ hr q)
  ·exact z (h.inj _ _ _ hr q)
  ·exact q.1 _ hr
 have hp:∀{p:Option Addr} {r:Ro},s.ptr B r=bk p->r≠.m->r≠.e id->r≠.i id->∀a,p=some a->a.block∉A:=fun {p r} e w y z a k=>hn (r:=r) (by rw [e,k];rfl) w y z
 have u:∀c∈s.calls,∀a,c.p=some a->a.block∉A:=fun c f a k v=>by
  rcases D _ v with q | q | q | q
  ·exact h.cf c f a k _ q
  ·exact h.cf c f a k _ q
  ·exact h.cf c f a k _ q
  ·exact q.2 c f a k rfl
 refine ⟨hc.get h.b (h.lt (r:=.b) rfl).2 (hn (r:=.b) rfl (by simp) (by simp) (by simp)),I,hc.get h.x (h.lt (r:=.x) rfl).2 (hn (r:=.x) rfl (by simp) (by simp) (by simp)),
  h.oc.chg hc (hp (r:=.c) rfl (by simp) (by simp) (by simp)),h.os.chg hc (hp (r:=.s) rfl (by simp) (by simp) (by simp)),fun i m g=>?_,fun i m g=>?_,
  fun c f=>⟨hc.sl (h.cs c f).1 fun a k _=>u c f a k,fun a k=>by have:=(h.cs c f).2 a k;have:=hc.len;omega⟩,h.lB,h.lM,h.lX, ?_, ?_⟩
 ·have g:PE i (Rx id m' s.ms)=some m:=g
  rw [Te] at g
  by_cases q:i=id
  ·rw [Nk q] at g;cases g;exact h1
  ·rw [Ni q] at g;exact (h.oe i m g).chg hc (hp (r:=.e i) (by simp [SU.ptr,g]) (by simp) (by simpa using q) (by simp))
 ·have g:PE i (Rx id m' s.ms)=some m:=g
  rw [Te] at g
  by_cases q:i=id
  ·rw [Nk q] at g;cases g;exact h2
  ·rw [Ni q] at g;exact (h.oi i m g).chg hc (hp (r:=.i i) (by simp [SU.ptr,g]) (by simp) (by simp) (by simpa using q))
 ·intro r r' j hr d
  have k1:=l r j hr
  have k2:=l r' j d
  rcases k1 with k1 | k1
  ·rcases k2 with k2 | k2
   ·exact h.inj _ _ _ k1 k2
   ·have:=(h.lt k1).2;omega
  ·have ge:∀{r:Ro},s.ptr B r=some j->False:=fun q=>by have:=(h.lt q).2;omega
   rw [Nka] at hr d
   by_cases n:r=.e id<;>by_cases o:r'=.e id
   ·rw [n,o]
   ·rw [Nk n] at hr
    rw [Ni o] at d
    by_cases t:r'=.i id
    ·rw [Nk t] at d;exact (C j hr d).elim
    ·rw [Ni t] at d;exact (ge d).elim
   ·rw [Nk o] at d
    rw [Ni n] at hr
    by_cases t:r=.i id
    ·rw [Nk t] at hr;exact (C j d hr).elim
    ·rw [Ni t] at hr;exact (ge hr).elim
   ·rw [Ni n] at hr
    rw [Ni o] at d
    by_cases t:r=.i id
    ·by_cases E:r'=.i id
     ·rw [t,E]
     ·rw [Ni E] at d;exact (ge d).elim
    ·rw [Ni t] at hr;exact (ge hr).elim
 ·intro c f a k r hr
  rcases l r _ hr with q | q
  ·exact h.cf c f a k r q
  ·have:=(h.cs c f).2 a k;omega
theorem Nhs {s:SU} {id:Int} {m':PM}:({ s with ms:=Rx id m' s.ms }:SU).st={ s.st with ms:=Rx id m'.m s.st.ms }:=by
 simp only [SU.st,BU.mk.injEq,Qr,and_true]
 induction s.ms with
 | nil=>rfl
 | cons x l ih=>
   obtain ⟨k,v⟩:=x
   simp only [Rx,Of]
   by_cases q:k=id
   ·rw [Nk q,Nk q];rfl
   ·rw [Ni q,Ni q,Of,ih]
theorem RH {s:SU} {id:Int}:PE id s.st.ms=(PE id s.ms).map (·.m):=by
 simp only [SU.st]
 induction s.ms with
 | nil=>rfl
 | cons x l ih=>
   obtain ⟨k,v⟩:=x
   simp only [PE,Of]
   by_cases q:k=id
   ·rw [Nk q,Nk q];rfl
   ·rw [Ni q,Ni q,ih]
theorem Na0 [OA] {lim l0 B:Nat} {jv:Value} {s:SU} {G:NB} {id kind item c d:Int} {m:PM} {Q:Value->NB->Prop} (h:KB l0 B jv s G) (hl:lim<=l0) (l:PE id s.ms=some m) (hn:m.m.ents.length<2 ^ 40) (Z:l0<=G.length)
  (W:-9223372036854775808<=Rn m.m.ents+d) (Y:Rn m.m.ents+d<=9223372036854775807)
  (V:∀A G' s',(∀j∈A,∃r,s.ptr B r=some j)->Chg A G G'->KB l0 B jv s' G'->s'.st=Wh s.st id kind item c d->(∀r j,s'.ptr B r=some j->s.ptr B r=some j\/G.length<=j)->s'.calls=s.calls->Q (.tuple #[]) G') :
  NP E false lim 148 [Vp B,Vi id,.int .u8 kind,Vi item,Vi c,Vi d] G Q:=by
 refine runs (by decide) Ny4 rfl ?_
 rw [Nzy,c148]
 have F:=fun X=>(QL.refl.app (X:=X)).cells h.b
 have K:∀X,NF (G++X) s.M=.map (QK kI Tj s.ms):=fun X=>by rw [NZ (h.lt (r:=.m) rfl).2];exact h.m
 obtain ⟨j,hj⟩:=Wx l 0
 have H:findKey (Vi id) (QK kI Tj s.ms) 0=some (some (j,Tj m)):=by
  have:=SX (vv:=Tj) Nap id s.ms 0
  rw [hj] at this;exact this
 have I:Sb (.int .i64) (Vi id)=true:=Ww
 have J:lim<=G.length:=by omega
 have v:=h.oe id m l
 have L:=v.sl SQ
 have u:=fun X (mp:Bool) (lim:Nat) (Q:Value->NB->Prop)=>Z8 (mp:=mp) (lim:=lim) (Q:=Q) (c:=m.ce) (nm:=.string m.m.name) (its:=.slice m.pi m.m.its.length m.ci) (L.app X) hn
 have hw:IntKind.i64.wrap (Rn m.m.ents+d)=Rn m.m.ents+d:=QP (by omega) (by omega)
 obtain ⟨G1,t,n,p⟩:=Own.moreE v (lim':=lim) (bytes:=32) hl SQ (by decide) [⟨kind,item,c,Rn m.m.ents+d⟩] (by simp) (by simp;unfold PS;omega) (by simp;omega) [Vc [.string m.m.name,.slice m.pe m.m.ents.length m.ce,.slice m.pi m.m.its.length m.ci],Vc (Xe ⟨kind,item,c,Rn m.m.ents+d⟩),.dead] 2 (x:=.slice (Sa (G.length+1)) 1 1) (str:=false) (by simp [firstCells,NW,NK,Xe]) rfl
 simp only [Xe,Qk,P6,Pw] at t
 have C:=fun X=>(QL.refl.app (X:=X)).cells (n.cells h.b fun hj=>by
  have:s.ptr B (.e id)=some B:=by simp [SU.ptr,l];revert hj;cases m.pe<;>simp [Ze,bk];intro e;exact e.symm
  exact absurd (h.inj (.e id) .b B this rfl) (by simp))
 have D:∀X,NF (G1++X) s.M=.map (QK kI Tj s.ms):=fun X=>by
  have f:=(h.lt (r:=.m) rfl).2
  rw [NZ (by rw [p];exact f)]
  exact n.get h.m f fun hj=>by
   have:s.ptr B (.e id)=some s.M:=by simp [SU.ptr,l];revert hj;cases m.pe<;>simp [Ze,bk];intro e;exact e.symm
   exact absurd (h.inj (.e id) .m s.M this rfl) (by simp)
 obtain ⟨r1,P,r3,r4⟩:=Zx p
 have f:lim<=s.M:=by have:=h.lM;omega
 have y:(QK kI Tj s.ms).set j (Vi id,.agg #[.string m.m.name,.slice (Sa (G.length+2)) (m.m.ents.length+1) (loose 4),.slice m.pi m.m.its.length m.ci])=QK kI Tj (Rx id ⟨Nm1 m.m kind item c d,Sa (G.length+2),loose 4,m.pi,m.ci⟩ s.ms):=by
  have:=(M6 (v':=(⟨Nm1 m.m kind item c d,Sa (G.length+2),loose 4,m.pi,m.ci⟩:PM)) hj).2.2
  rw [Nat.sub_zero] at this
  rw [<-this]
  simp [QK,List.map_set,Tj,kI,Nm1]
 have w:∀j∈Ze m.pe,s.ptr B (.e id)=some j:=fun j hj=>by simp [SU.ptr,l];revert hj;cases m.pe<;>simp [Ze,bk];intro e;exact e.symm
 have U:s.M<G1.length:=by rw [p];exact (h.lt (r:=.m) rfl).2
 have o:∀(X:NB) (b:Blk),Chg (s.M::Ze m.pe) G ((G1++X).set s.M b):=fun X b=>((n.mono fun j _ hj=>by simp [hj]).app).set (.inl (by simp))
 have O:∀j∈s.M::Ze m.pe,s.ptr B .m=some j\/s.ptr B (.e id)=some j\/s.ptr B (.i id)=some j:=fun j hj=>by
  rcases Nh.1 hj with rfl | hj
  ·exact .inl rfl
  ·exact .inr (.inl (w j hj))
 have g:∀a,m.pi=some a->s.ptr B (.i id)=some a.block:=fun a k=>by simp [SU.ptr,l,bk,k]
 have fin:∀(X:NB) (b:Blk),b=.map (QK kI Tj (Rx id ⟨Nm1 m.m kind item c d,Sa (G.length+2),loose 4,m.pi,m.ci⟩ s.ms))->X.getD 2 .dead=Vc (List.flatMap Xe (m.m.ents++[(⟨kind,item,c,Rn m.m.ents+d⟩:Ent)]))->Q (.tuple #[]) ((G1++X).set s.M b):=by
  intro X b T S
  subst T
  obtain ⟨k1,k2⟩:=h.put (id:=id) (m':=⟨Nm1 m.m kind item c d,Sa (G.length+2),loose 4,m.pi,m.ci⟩) (o X _) (fun j hj=>(O j hj).imp (fun q=>q) (Or.imp (fun q=>q) .inl)) (Rf (show s.M<(G1++X).length by rw [Nj];omega)) (Own.new (R:=G.length+2) (by rw [Q9 (by omega),P];exact S) (by omega)) ((h.oi id m l).chg (o _ _) fun a k hj=>(by
   rcases Nh.1 hj with q | q
   ·exact absurd (h.inj (.i id) .m _ (g a k) (by rw [q];rfl)) (by simp)
   ·exact absurd (h.inj (.i id) (.e id) _ (g a k) (w _ q)) (by simp))) (fun x z=>(by
   simp only [bk,Ns,Option.some.injEq] at z;omega)) (fun x z=>(by
   obtain ⟨a,k,rfl⟩:=Nc.1 z
   exact .inl (g a k))) (fun x z N=>(by
   obtain ⟨a,k,rfl⟩:=Nc.1 N
   have:=(h.lt (g a k)).2
   simp only [bk,Ns,Option.some.injEq] at z;omega))
  refine V _ _ _ (fun j hj=>?_) (o _ _) k1 ?_ k2 rfl
  ·rcases O j hj with q | q | q<;>exact ⟨_,q⟩
  ·rw [Nhs]
   unfold Wh
   rw [RH,l];rfl
 simp only [n148,Nyg,F,NS,K,I,H,Tj,J,u,hw,t,r1,P,r3,r4,C,D,f,y,SB,seval,NC,NH,NG,NQ,reduceCtorEq,ND,place,NA,NE]
 exact fin _ _ rfl rfl
section
variable {l0 B:Nat} {jv:Value} {s:SU} {G G':NB} {A:List Nat}
theorem KB.putX {id:Int} {x:It} (h:KB l0 B jv s G) (hc:Chg A G G') (n:∀j∈A,j=s.X) (o:NF G' s.X=.map (QK kI UK (Rx id x s.xs))):KB l0 B jv { s with xs:=Rx id x s.xs } G':=by
 have hn:∀{r:Ro} {j:Nat},s.ptr B r=some j->r≠.x->j∉A:=fun {r j} hr l k=>by
  have:=n j k;subst this
  exact l (h.inj _ _ _ hr rfl)
 have hp:∀{p:Option Addr} {r:Ro},s.ptr B r=bk p->r≠.x->∀a,p=some a->a.block∉A:=fun {p r} e l a g=>hn (r:=r) (by rw [e,g];rfl) l
 have he:∀r,({ s with xs:=Rx id x s.xs }:SU).ptr B r=s.ptr B r:=fun r=>by cases r<;>rfl
 exact ⟨hc.get h.b (h.lt (r:=.b) rfl).2 (hn (r:=.b) rfl (by simp)),hc.get h.m (h.lt (r:=.m) rfl).2 (hn (r:=.m) rfl (by simp)),o,h.oc.chg hc (hp (r:=.c) rfl (by simp)),h.os.chg hc (hp (r:=.s) rfl (by simp)),
  fun i m f=>(h.oe i m f).chg hc (hp (r:=.e i) (by have f:PE i s.ms=some m:=f;simp [SU.ptr,f]) (by simp)),fun i m f=>(h.oi i m f).chg hc (hp (r:=.i i) (by have f:PE i s.ms=some m:=f;simp [SU.ptr,f]) (by simp)),
  fun c d=>⟨hc.sl (h.cs c d).1 fun a g _ k=>h.cf c d a g .x (by rw [n _ k];rfl),fun a g=>by have:=(h.cs c d).2 a g;have:=hc.len;omega⟩,h.lB,h.lM,h.lX,fun r r' j=>by rw [he,he];exact h.inj r r' j,fun c d a g r=>by rw [he];exact h.cf c d a g r⟩
theorem KB.putS {sc:List Sc} {sp:Option Addr} {sk:Nat} (h:KB l0 B jv s G) (hc:Chg A G G') (y:∀j∈A,j=B\/s.ptr B .s=some j)
  (z:NF G' B=Vc [jv,.slice s.cp s.calls.length s.cc,.map (some s.M),.map (some s.X),.slice sp sc.length sk]) (ho:Own l0 G' Z5 6 sp sk sc) (C:∀j,bk sp=some j->s.ptr B .s=some j\/G.length<=j) :
  KB l0 B jv { s with sc:=sc,sp:=sp,sk:=sk } G'/\∀r j,({ s with sc:=sc,sp:=sp,sk:=sk }:SU).ptr B r=some j->s.ptr B r=some j\/G.length<=j:=by
 have he:∀r,r≠.s->({ s with sc:=sc,sp:=sp,sk:=sk }:SU).ptr B r=s.ptr B r:=fun r hr=>by cases r<;>first | rfl | exact absurd rfl hr
 have l:∀r j,({ s with sc:=sc,sp:=sp,sk:=sk }:SU).ptr B r=some j->s.ptr B r=some j\/G.length<=j:=fun r j hr=>by
  by_cases q:r=.s
  ·subst q;exact C j hr
  ·rw [he r q] at hr;exact .inl hr
 have hn:∀{r:Ro} {j:Nat},s.ptr B r=some j->r≠.b->r≠.s->j∉A:=fun {r j} hr v w u=>by
  rcases y j u with q | q
  ·subst q;exact v (h.inj _ _ _ hr rfl)
  ·exact w (h.inj _ _ _ hr q)
 have hp:∀{p:Option Addr} {r:Ro},s.ptr B r=bk p->r≠.b->r≠.s->∀a,p=some a->a.block∉A:=fun {p r} e v w a g=>hn (r:=r) (by rw [e,g];rfl) v w
 refine ⟨⟨z,hc.get h.m (h.lt (r:=.m) rfl).2 (hn (r:=.m) rfl (by simp) (by simp)),hc.get h.x (h.lt (r:=.x) rfl).2 (hn (r:=.x) rfl (by simp) (by simp)),h.oc.chg hc (hp (r:=.c) rfl (by simp) (by simp)),ho,
  fun i m n=>(h.oe i m n).chg hc (hp (r:=.e i) (by have n:PE i s.ms=some m:=n;simp [SU.ptr,n]) (by simp) (by simp)),fun i m n=>(h.oi i m n).chg hc (hp (r:=.i i) (by have n:PE i s.ms=some m:=n;simp [SU.ptr,n]) (by simp) (by simp)),
  fun c d=>⟨hc.sl (h.cs c d).1 fun a g _ u=>(by
   rcases y _ u with q | q
   ·exact h.cf c d a g .b (by rw [q];rfl)
   ·exact h.cf c d a g _ q),fun a g=>by have:=(h.cs c d).2 a g;have:=hc.len;omega⟩,h.lB,h.lM,h.lX,fun r r' j hr f=>?_,fun c d a g r hr=>?_⟩,l⟩
 ·by_cases o:r=.s<;>by_cases t:r'=.s
  ·rw [o,t]
  ·rcases l r j hr with k | k
   ·exact h.inj _ _ _ k (by rw [<-he r' t];exact f)
   ·rw [he r' t] at f;have:=(h.lt f).2;omega
  ·rcases l r' j f with k | k
   ·exact h.inj _ _ _ (by rw [<-he r o];exact hr) k
   ·rw [he r o] at hr;have:=(h.lt hr).2;omega
  ·exact h.inj _ _ _ (by rw [<-he r o];exact hr) (by rw [<-he r' t];exact f)
 ·rcases l r _ hr with q | q
  ·exact h.cf c d a g r q
  ·have:=(h.cs c d).2 a g;omega
theorem KB.putC {x:PC} {cp:Option Addr} {cc:Nat} (h:KB l0 B jv s G) (hc:Chg A G G') (y:∀j∈A,j=B\/s.ptr B .c=some j)
  (z:NF G' B=Vc [jv,.slice cp (s.calls++[x]).length cc,.map (some s.M),.map (some s.X),.slice s.sp s.sc.length s.sk]) (ho:Own l0 G' Njh 1 cp cc (s.calls++[x])) (C:∀j,bk cp=some j->s.ptr B .c=some j\/G.length<=j)
  (D:Sl G' SE 1 x.p x.c) (n:∀a,x.p=some a->G.length<=a.block/\a.block<G'.length/\∀j,bk cp=some j->a.block≠j) :
  KB l0 B jv { s with calls:=s.calls++[x],cp:=cp,cc:=cc } G'/\∀r j,({ s with calls:=s.calls++[x],cp:=cp,cc:=cc }:SU).ptr B r=some j->s.ptr B r=some j\/G.length<=j:=by
 have he:∀r,r≠.c->({ s with calls:=s.calls++[x],cp:=cp,cc:=cc }:SU).ptr B r=s.ptr B r:=fun r hr=>by cases r<;>first | rfl | exact absurd rfl hr
 have g:∀r j,({ s with calls:=s.calls++[x],cp:=cp,cc:=cc }:SU).ptr B r=some j->s.ptr B r=some j\/G.length<=j:=fun r j hr=>by
  by_cases q:r=.c
  ·subst q;exact C j hr
  ·rw [he r q] at hr;exact .inl hr
 have hn:∀{r:Ro} {j:Nat},s.ptr B r=some j->r≠.b->r≠.c->j∉A:=fun {r j} hr v w u=>by
  rcases y j u with q | q
  ·subst q;exact v (h.inj _ _ _ hr rfl)
  ·exact w (h.inj _ _ _ hr q)
 have hp:∀{p:Option Addr} {r:Ro},s.ptr B r=bk p->r≠.b->r≠.c->∀a,p=some a->a.block∉A:=fun {p r} e v w a d=>hn (r:=r) (by rw [e,d];rfl) v w
 refine ⟨⟨z,hc.get h.m (h.lt (r:=.m) rfl).2 (hn (r:=.m) rfl (by simp) (by simp)),hc.get h.x (h.lt (r:=.x) rfl).2 (hn (r:=.x) rfl (by simp) (by simp)),ho,h.os.chg hc (hp (r:=.s) rfl (by simp) (by simp)),
  fun i m l=>(h.oe i m l).chg hc (hp (r:=.e i) (by have l:PE i s.ms=some m:=l;simp [SU.ptr,l]) (by simp) (by simp)),fun i m l=>(h.oi i m l).chg hc (hp (r:=.i i) (by have l:PE i s.ms=some m:=l;simp [SU.ptr,l]) (by simp) (by simp)),
  fun c hcm=>?_,h.lB,h.lM,h.lX,fun r r' j hr f=>?_,fun c hcm a d r hr=>?_⟩,g⟩
 ·rcases Ob.1 hcm with hcm | hcm
  ·exact ⟨hc.sl (h.cs c hcm).1 fun a d _ u=>(by
    rcases y _ u with q | q
    ·exact h.cf c hcm a d .b (by rw [q];rfl)
    ·exact h.cf c hcm a d _ q),fun a d=>by have:=(h.cs c hcm).2 a d;have:=hc.len;omega⟩
  ·obtain rfl:=Ng.1 hcm
   exact ⟨D,fun a d=>(n a d).2.1⟩
 ·by_cases o:r=.c<;>by_cases t:r'=.c
  ·rw [o,t]
  ·rcases g r j hr with k | k
   ·exact h.inj _ _ _ k (by rw [<-he r' t];exact f)
   ·rw [he r' t] at f;have:=(h.lt f).2;omega
  ·rcases g r' j f with k | k
   ·exact h.inj _ _ _ (by rw [<-he r o];exact hr) k
   ·rw [he r o] at hr;have:=(h.lt hr).2;omega
  ·exact h.inj _ _ _ (by rw [<-he r o];exact hr) (by rw [<-he r' t];exact f)
 ·rcases Ob.1 hcm with hcm | hcm
  ·rcases g r _ hr with q | q
   ·exact h.cf c hcm a d r q
   ·have:=(h.cs c hcm).2 a d;omega
  ·obtain rfl:=Ng.1 hcm
   by_cases q:r=.c
   ·subst q;exact (n a d).2.2 _ hr rfl
   ·rw [he r q] at hr
    have:=(h.lt hr).2
    have:=(n a d).1
    omega
end
section
variable {lim l0 B:Nat} {jv:Value} {s:SU} {G:NB} {Q:Value->NB->Prop}
def Left (l0 B:Nat) (jv:Value) (s:SU) (G:NB) (u:BU) (s':SU) (G':NB):Prop:=
 KB l0 B jv s' G'/\s'.st=u/\(∀r j,s'.ptr B r=some j->s.ptr B r=some j\/G.length<=j)/\s'.calls=s.calls/\∃A,(∀j∈A,∃r,s.ptr B r=some j)/\Chg A G G'
theorem Wy {κ ν:Type} [DecidableEq κ] {k:κ} {l:List (κ×ν)} (h:PE k l=none) (i:Nat):fk k l i=none:=by
 rw [<-Njc k l i] at h
 exact Option.map_eq_none_iff.1 h
theorem Nq9 [OA] {k1 k2 k3:Nat} {id:Int} {name:ByteArray} (h:KB l0 B jv s G) (hl:lim<=l0) (h1:NF G k1=Vc [.string name]) (h2:NF G k2=Vc [Vp B]) (p:NF G k3=Vc [Vi id])
  (o:PE id s.ms=none) (q:∀s' G',Left l0 B jv s G (Vn s.st (.join id name)) s' G'->Q (.tuple #[]) G') :
  NP E false lim 145 [Vp k1,Vp k2,Vp k3] G Q:=by
 refine runs (by decide) Ny7 rfl ?_
 rw [Nz1,c145]
 have g:=fun X=>(QL.refl.app (X:=X)).cells h.b
 have d:=fun X=>(QL.refl.app (X:=X)).cells h1
 have e:=fun X=>(QL.refl.app (X:=X)).cells h2
 have f:=fun X=>(QL.refl.app (X:=X)).cells p
 have n:∀X,NF (G++X) s.M=.map (QK kI Tj s.ms):=fun X=>by rw [NZ (h.lt (r:=.m) rfl).2];exact h.m
 have i:findKey (Vi id) (QK kI Tj s.ms) 0=some none:=by
  have:=SX (vv:=Tj) Nap id s.ms 0
  rw [Wy o] at this;exact this
 have k:Sb (.int .i64) (Vi id)=true:=Ww
 have l:lim<=s.M:=by have:=h.lM;omega
 have c:QK kI Tj s.ms++[(Vi id,.agg #[.string name,Vz,Vz])]=QK kI Tj (Rx id ⟨⟨name,[],[]⟩,none,0,none,0⟩ s.ms):=by
  rw [<-Neh (Wy o 0)]
  simp [QK,Tj,kI]
 have fin:∀(X:NB),Q (.tuple #[]) ((G++X).set s.M (.map (QK kI Tj (Rx id ⟨⟨name,[],[]⟩,none,0,none,0⟩ s.ms)))):=fun X=>by
  have hc:∀b:Blk,Chg [s.M] G ((G++X).set s.M b):=fun b=>(Chg.refl.app).set (.inl (by simp))
  obtain ⟨t,u⟩:=h.put (id:=id) (m':=⟨⟨name,[],[]⟩,none,0,none,0⟩) (hc _) (fun j a=>.inl (by rw [Ng.1 a];rfl)) (Rf (by rw [Nj];have:=(h.lt (r:=.m) rfl).2;omega)) Own.nil Own.nil (by intro j a;cases a) (by intro j a;cases a) (by intro j a;cases a)
  refine q _ _ ⟨t, ?_,u,rfl,[s.M],fun j a=>⟨.m,by rw [Ng.1 a];rfl⟩,hc _⟩
  rw [Nhs];rfl
 simp only [n145,Nyh,d,e,f,g,NS,n,k,i,c,l,SB,seval,NC,NH,NG,NQ,reduceCtorEq,ND,place,NA,NE]
 simpa using fin []
theorem Nsu [OA] {k1 k2 k3:Nat} {id c:Int} {m:PM} (h:KB l0 B jv s G) (hl:lim<=l0) (h1:NF G k1=Vc [Vp B]) (h2:NF G k2=Vc [Vi id]) (j:NF G k3=Vc [Vi c])
  (p:PE id s.ms=some m) (hn:m.m.ents.length<2 ^ 40) (i:l0<=G.length) (e:-9223372036854775808<=Rn m.m.ents+c) (f:Rn m.m.ents+c<=9223372036854775807)
  (o:∀s' G',Left l0 B jv s G (Vn s.st (.pay id c)) s' G'->Q (.tuple #[]) G') :
  NP E false lim 147 [Vp k1,Vp k2,Vp k3] G Q:=by
 refine runs (by decide) Ny5 rfl ?_
 rw [Nzz,Nwe]
 have a:=fun X=>(QL.refl.app (X:=X)).cells h1
 have b:=fun X=>(QL.refl.app (X:=X)).cells h2
 have d:=fun X=>(QL.refl.app (X:=X)).cells j
 simp only [n147,Nw5,a,b,d,SB,seval,NC,NH,NG,NQ,reduceCtorEq,ND,place,NA,NE]
 rw [Nb]
 refine Na0 h hl p hn i e f fun A G' s' k l n q hp g=>?_
 refine NI ?_
 simp only [n147,Nw5,SB,seval,NC,NH,NG,NQ,reduceCtorEq,ND,place,NA,NE]
 simpa using o s' G' ⟨n,q,hp,g,A,k,l⟩
theorem Npo [OA] {k1 k2 k3 U l V:Nat} {id f p c:Int} {m:PM} (h:KB l0 B jv s G) (hl:lim<=l0) (h1:NF G k1=Vc [Vi f]) (h2:NF G k2=Vc [Vi p]) (h3:NF G k3=Vc [Vp B]) (h4:NF G U=Vc [Vi id])
  (h5:NF G l=Vc [.string m.m.name,.slice m.pe m.m.ents.length m.ce,.slice m.pi m.m.its.length m.ci]) (h6:NF G V=Vc [Vi c])
  (hk:∀j∈[k1,k2,k3,U,l,V],∀r,s.ptr B r≠some j) (a3:lim<=l) (hd:∀j∈[k1,k2,k3,U,V],j≠l) (a4:∀c∈s.calls,∀a,c.p=some a->a.block≠l)
  (L:PE f s.ms=some m) (N:PE id s.xs=none) (hn:m.m.ents.length<2 ^ 40) (bv:m.m.its.length<2 ^ 40) (bu:l0<=G.length) (bm:-9223372036854775808<=Rn m.m.ents-c) (bn:Rn m.m.ents-c<=9223372036854775807) (bo:0<=c) (bp:c<=9223372036854775807)
  (hQ:∀s' G',(∃A,(∀j∈A,j=l\/∃r,s.ptr B r=some j)/\Chg A G G')->KB l0 B jv s' G'->s'.st=Vn s.st (.post id f p c)->(∀r j,s'.ptr B r=some j->s.ptr B r=some j\/G.length<=j)->s'.calls=s.calls->Q (.tuple #[]) G') :
  NP E false lim 149 [Vp k1,Vp k2,Vp k3,Vp U,Vp l,Vp V] G Q:=by
 refine runs (by decide) Ny3 rfl ?_
 rw [Nzx,Nwd]
 have ay:=fun X=>(QL.refl.app (X:=X)).cells h.b
 have al:=fun X=>(QL.refl.app (X:=X)).cells h1
 have am:=fun X=>(QL.refl.app (X:=X)).cells h2
 have an:=fun X=>(QL.refl.app (X:=X)).cells h3
 have ao:=fun X=>(QL.refl.app (X:=X)).cells h4
 have bb:∀X,NF (G++X) s.X=.map (QK kI UK s.xs):=fun X=>by rw [NZ (h.lt (r:=.x) rfl).2];exact h.x
 have a0:findKey (Vi id) (QK kI UK s.xs) 0=some none:=by
  have:=SX (vv:=UK) Nap id s.xs 0
  rw [Wy N] at this;exact this
 have Z:∀n,Sb (.int .i64) (Vi n)=true:=fun n=>Ww
 have a8:lim<=s.X:=by have:=h.lX;omega
 have ac:QK kI UK s.xs++[(Vi id,.agg #[Vi f,Vi p,.bool false])]=QK kI UK (Rx id ⟨f,p,false⟩ s.xs):=by
  rw [<-Neh (Wy N 0)]
  simp [QK,UK,kI]
 simp only [n149,Npm,al,am,an,ao,ay,NS,bb,Z,a0,ac,a8,SB,seval,NC,NH,NG,NQ,reduceCtorEq,ND,place,NA,NE]
 rw [Nb]
 have g:=fun {j:Nat} (d:j∈[k1,k2,k3,U,l,V])=>hk j d
 have W:∀b:Blk,Chg [s.X] G (G.set s.X b):=fun b=>Chg.refl.set (.inl (by simp))
 have D:=h.putX (id:=id) (x:=⟨f,p,false⟩) (W _) (fun j d=>Ng.1 d) (Rf (h.lt (r:=.x) rfl).2)
 have I:=W (.map (QK kI UK (Rx id ⟨f,p,false⟩ s.xs)))
 have w:∀{j:Nat} {c:List Value},NF G j=Vc c->j∈[k1,k2,k3,U,l,V]->NF (G.set s.X (.map (QK kI UK (Rx id ⟨f,p,false⟩ s.xs)))) j=Vc c:=fun d L=>I.cells d fun e=>g L .x (by rw [Ng.1 e];rfl)
 have g1:=w h1 (by simp)
 have g3:=w h3 (by simp)
 have g4:=w h4 (by simp)
 have g5:=w h5 (by simp)
 have g6:=w h6 (by simp)
 have bq:(G.set s.X (.map (QK kI UK (Rx id ⟨f,p,false⟩ s.xs)))).length=G.length:=by simp
 generalize G.set s.X (.map (QK kI UK (Rx id ⟨f,p,false⟩ s.xs)))=G1 at *
 have bh:=fun X=>(QL.refl.app (X:=X)).cells g1
 have ak:=fun X=>(QL.refl.app (X:=X)).cells g4
 obtain ⟨u,aw,av,O,a5⟩:=Own.moreF (D.oi f m L) (lim':=lim) (bytes:=8) hl Tz (by decide) [id] (by simp) (by simp;unfold PS;omega) (by simp;omega) [Vc [Vi id]] (x:=.slice (Sa G1.length) 1 1) (str:=false) (by simp [firstCells,NW,NU,Yn]) rfl
 have y:∀j∈Ze m.pi,s.ptr B (.i f)=some j:=fun j d=>by simp [SU.ptr,L];revert d;cases m.pi<;>simp [Ze,bk];intro e;exact e.symm
 have o:∀{j:Nat} {c:List Value},NF G1 j=Vc c->s.ptr B (.i f)≠some j->NF (u++[]) j=Vc c:=fun d hn=>by
  rw [Nb];exact O.cells d fun e=>hn (y _ e)
 have e1:=o g1 (g (by simp) _)
 have e3:=o g3 (g (by simp) _)
 have e4:=o g4 (g (by simp) _)
 have e5:=o g5 (g (by simp) _)
 have e6:=o g6 (g (by simp) _)
 have aq:B≠l:=fun e=>g (j:=l) (by simp) .b (by rw [<-e];rfl)
 have au:s.M≠l:=fun e=>g (j:=l) (by simp) .m (by rw [<-e];rfl)
 have eB:=o D.b fun e=>absurd (h.inj (.i f) .b _ e rfl) (by simp)
 have eM:NF (u++[]) s.M=.map (QK kI Tj s.ms):=by
  rw [Nb];exact O.get D.m (D.lt (r:=.m) rfl).2 fun e=>absurd (h.inj (.i f) .m _ (y _ e) rfl) (by simp)
 have ax:∀b:Blk,Chg (l::s.M::Ze m.pi) G1 ((u++[]).set l b):=fun b=>((O.mono fun j _ d=>by simp [d]).app).set (.inl (by simp))
 have ad:l<(u++[]).length:=by have:=NJ e5;exact this
 have ab:∀(b:Blk),NF ((u++[]).set l b) l=b:=fun b=>Rf ad
 have t:∀(b:Blk) {j:Nat} {x:Blk},NF (u++[]) j=x->j≠l->NF ((u++[]).set l b) j=x:=fun b j x d hn=>by rw [Q9 hn];exact d
 have f1:=fun b=>t b e1 (hd _ (by simp))
 have f3:=fun b=>t b e3 (hd _ (by simp))
 have f4:=fun b=>t b e4 (hd _ (by simp))
 have f6:=fun b=>t b e6 (hd _ (by simp))
 have fB:=fun b=>t b eB aq
 have fM:=fun b=>t b eM au
 obtain ⟨j,d⟩:=Wx L 0
 have Y:findKey (Vi f) (QK kI Tj s.ms) 0=some (some (j,Tj m)):=by
  have:=SX (vv:=Tj) Nap f s.ms 0
  rw [d] at this;exact this
 have a6:lim<=s.M:=by have:=h.lM;omega
 have S:(QK kI Tj s.ms).set j (Vi f,.agg #[.string m.m.name,.slice m.pe m.m.ents.length m.ce,.slice (Sa (G1.length+1)) (m.m.its.length+1) (loose 1)])=QK kI Tj (Rx f ⟨{ m.m with its:=m.m.its++[id] },m.pe,m.ce,Sa (G1.length+1),loose 1⟩ s.ms):=by
  have:=(M6 (v':=(⟨{ m.m with its:=m.m.its++[id] },m.pe,m.ce,Sa (G1.length+1),loose 1⟩:PM)) d).2.2
  rw [Nat.sub_zero] at this
  rw [<-this]
  simp [QK,List.map_set,Tj,kI]
 simp only [n149,Npm,g5,g4,ak,aw,e5,a3,ab,SB,seval,NC,NH,NG,NQ,reduceCtorEq,ND,place,NA,NE]
 have K:=ax (Vc [.string m.m.name,.slice m.pe m.m.ents.length m.ce,.slice (Sa (G1.length+1)) (m.m.its.length+1) (loose 1)])
 have f1:=f1 (Vc [.string m.m.name,.slice m.pe m.m.ents.length m.ce,.slice (Sa (G1.length+1)) (m.m.its.length+1) (loose 1)])
 have f3:=f3 (Vc [.string m.m.name,.slice m.pe m.m.ents.length m.ce,.slice (Sa (G1.length+1)) (m.m.its.length+1) (loose 1)])
 have f4:=f4 (Vc [.string m.m.name,.slice m.pe m.m.ents.length m.ce,.slice (Sa (G1.length+1)) (m.m.its.length+1) (loose 1)])
 have f6:=f6 (Vc [.string m.m.name,.slice m.pe m.m.ents.length m.ce,.slice (Sa (G1.length+1)) (m.m.its.length+1) (loose 1)])
 have fB:=fB (Vc [.string m.m.name,.slice m.pe m.m.ents.length m.ce,.slice (Sa (G1.length+1)) (m.m.its.length+1) (loose 1)])
 have fM:=fM (Vc [.string m.m.name,.slice m.pe m.m.ents.length m.ce,.slice (Sa (G1.length+1)) (m.m.its.length+1) (loose 1)])
 have f5:=ab (Vc [.string m.m.name,.slice m.pe m.m.ents.length m.ce,.slice (Sa (G1.length+1)) (m.m.its.length+1) (loose 1)])
 have br:G1.length+1<((u++[]).set l (Vc [.string m.m.name,.slice m.pe m.m.ents.length m.ce,.slice (Sa (G1.length+1)) (m.m.its.length+1) (loose 1)])).length:=by rw [Pz,Nb];simpa using a5
 have fO:NF ((u++[]).set l (Vc [.string m.m.name,.slice m.pe m.m.ents.length m.ce,.slice (Sa (G1.length+1)) (m.m.its.length+1) (loose 1)])) (G1.length+1)=Vc ((m.m.its++[id]).flatMap Yn):=by
  have bg:l<G1.length:=NJ g5
  rw [Q9 (by omega),Nb]
  rcases av with ⟨_,q,_⟩ | ⟨R,q,_,q2,_⟩
  ·cases q
  ·cases q
   refine (Qn (NF u) ?_).trans q2
   rw [Nj];rfl
 generalize (u++[]).set l (Vc [.string m.m.name,.slice m.pe m.m.ents.length m.ce,.slice (Sa (G1.length+1)) (m.m.its.length+1) (loose 1)])=C at *
 have ae:=fun X=>(QL.refl.app (X:=X)).cells f1
 have ag:=fun X=>(QL.refl.app (X:=X)).cells f3
 have ah:=fun X=>(QL.refl.app (X:=X)).cells f5
 have ai:=fun X=>(QL.refl.app (X:=X)).cells fB
 have v:s.M<C.length:=by have h3:s.M<G1.length:=(D.lt (r:=.m) rfl).2;have:=K.len;omega
 have aj:∀X,NF (C++X) s.M=.map (QK kI Tj s.ms):=fun X=>by rw [NZ v];exact fM
 have T:∀(X:NB) (b:Blk),(C++X).set s.M b=C.set s.M b++X:=fun X b=>O3 _ _ v
 simp only [n149,Npm,ae,ag,ah,ai,aj,NS,Z,Y,a6,S,T,SB,seval,NC,NH,NG,NQ,reduceCtorEq,ND,place,NA,NE]
 have P:∀b:Blk,Chg (l::s.M::Ze m.pi) G1 (C.set s.M b):=fun b=>K.set (.inl (by simp))
 have H:∀b:Blk,Chg [s.M] C (C.set s.M b):=fun b=>Chg.refl.set (.inl (by simp))
 have z:∀a,m.pe=some a->s.ptr B (.e f)=some a.block:=fun a F=>by simp [SU.ptr,L,bk,F]
 have ad:l<G1.length:=NJ g5
 have bl:s.M<G1.length:=(D.lt (r:=.m) rfl).2
 have K4:∀b:Blk,b=.map (QK kI Tj (Rx f ⟨{ m.m with its:=m.m.its++[id] },m.pe,m.ce,Sa (G1.length+1),loose 1⟩ s.ms))->_:=fun b eb=>D.put (G':=C.set s.M b) (id:=f) (m':=⟨{ m.m with its:=m.m.its++[id] },m.pe,m.ce,Sa (G1.length+1),loose 1⟩) (P b) (fun j d=>(by
   rcases Nh.1 d with q | q
   ·subst q
    exact .inr (.inr (.inr ⟨fun r=>g (by simp) r,a4⟩))
   ·rcases Nh.1 q with q | q
    ·subst q;exact .inl rfl
    ·exact .inr (.inr (.inl (y _ q))))) (by rw [Rf v,eb]) ((D.oe f m L).chg (P b) fun a F d=>(by
   rcases Nh.1 d with q | q
   ·exact g (j:=l) (by simp) _ (by rw [<-q];exact z a F)
   ·rcases Nh.1 q with q | q
    ·exact absurd (h.inj (.e f) .m _ (z a F) (by rw [q];rfl)) (by simp)
    ·exact absurd (h.inj (.e f) (.i f) _ (z a F) (y _ q)) (by simp))) (Own.new (by rw [Q9 (by omega)];exact fO) (by omega)) (fun x N=>(by
   obtain ⟨a,F,rfl⟩:=Nc.1 N
   exact .inl (z a F))) (fun x N=>(by
   simp only [bk,Ns,Option.some.injEq] at N;omega)) (fun x N ba=>(by
   obtain ⟨a,F,rfl⟩:=Nc.1 N
   have:=(D.lt (r:=.e f) (z a F)).2
   simp only [bk,Ns,Option.some.injEq] at ba;omega))
 obtain ⟨K4,aa⟩:=K4 _ rfl
 have J:=P (.map (QK kI Tj (Rx f ⟨{ m.m with its:=m.m.its++[id] },m.pe,m.ce,Sa (G1.length+1),loose 1⟩ s.ms)))
 have i1:=(H (.map (QK kI Tj (Rx f ⟨{ m.m with its:=m.m.its++[id] },m.pe,m.ce,Sa (G1.length+1),loose 1⟩ s.ms)))).cells f1 fun e=>g (j:=k1) (by simp) .m (by rw [Ng.1 e];rfl)
 have i3:=(H (.map (QK kI Tj (Rx f ⟨{ m.m with its:=m.m.its++[id] },m.pe,m.ce,Sa (G1.length+1),loose 1⟩ s.ms)))).cells f3 fun e=>g (j:=k3) (by simp) .m (by rw [Ng.1 e];rfl)
 have i4:=(H (.map (QK kI Tj (Rx f ⟨{ m.m with its:=m.m.its++[id] },m.pe,m.ce,Sa (G1.length+1),loose 1⟩ s.ms)))).cells f4 fun e=>g (j:=U) (by simp) .m (by rw [Ng.1 e];rfl)
 have i6:=(H (.map (QK kI Tj (Rx f ⟨{ m.m with its:=m.m.its++[id] },m.pe,m.ce,Sa (G1.length+1),loose 1⟩ s.ms)))).cells f6 fun e=>g (j:=V) (by simp) .m (by rw [Ng.1 e];rfl)
 generalize C.set s.M (.map (QK kI Tj (Rx f ⟨{ m.m with its:=m.m.its++[id] },m.pe,m.ce,Sa (G1.length+1),loose 1⟩ s.ms)))=G4 at *
 have bc:=fun X=>(QL.refl.app (X:=X)).cells i1
 have bd:=fun X=>(QL.refl.app (X:=X)).cells i3
 have be:=fun X=>(QL.refl.app (X:=X)).cells i4
 have bf:=fun X=>(QL.refl.app (X:=X)).cells i6
 have a9:IntKind.i64.wrap (0-c)=-c:=by rw [QP (by omega) (by omega)];omega
 simp only [n149,Npm,bc,bd,be,bf,a9,SB,seval,NC,NH,NG,NQ,reduceCtorEq,ND,place,NA,NE]
 rw [Nb]
 have a2:PE f (Rx f (⟨{ m.m with its:=m.m.its++[id] },m.pe,m.ce,Sa (G1.length+1),loose 1⟩:PM) s.ms)=some ⟨{ m.m with its:=m.m.its++[id] },m.pe,m.ce,Sa (G1.length+1),loose 1⟩:=by rw [Te,Nk rfl]
 have bt:G1.length<=G4.length:=J.len
 refine Na0 K4 hl a2 hn (by omega) (by show _<=Rn m.m.ents+-c;omega) (by show Rn m.m.ents+-c<=_;omega) fun A G' s' hA hC hK hs hp az=>?_
 refine NI ?_
 simp only [n149,Npm,SB,seval,NC,NH,NG,NQ,reduceCtorEq,ND,place,NA,NE]
 rw [Nb]
 have old:∀r,({ s with xs:=Rx id ⟨f,p,false⟩ s.xs }:SU).ptr B r=s.ptr B r:=fun r=>by cases r<;>rfl
 refine hQ s' G' ⟨l::s.X::s.M::(Ze m.pi++A.filter fun j=>decide (j<G.length)),fun j d=>?_, ?_⟩ hK ?_ (fun r j hr=>?_) az
 ·simp only [Nh,Ob,Oo,Nx] at d
  rcases d with q | q | q | q | ⟨q,q2⟩
  ·exact .inl q
  ·exact .inr ⟨.x,by rw [q];rfl⟩
  ·exact .inr ⟨.m,by rw [q];rfl⟩
  ·exact .inr ⟨_,y _ q⟩
  ·obtain ⟨r,hr⟩:=hA j q
   rcases aa r j hr with k | k
   ·rw [old r] at k;exact .inr ⟨r,k⟩
   ·omega
 ·refine ((I.mono fun j _ d=>?_).trans' J fun j d _=>?_).trans' hC fun j d hl=>?_
  ·rw [Ng.1 d];simp
  ·rcases Nh.1 d with q | q
   ·simp [q]
   ·rcases Nh.1 q with q | q
    ·simp [q]
    ·simp [q]
  ·simp [d,hl]
 ·rw [hs,Nhs]
  have e:(PE f s.st.ms).getD noM=m.m:=by rw [RH,L];rfl
  unfold Vn
  simp only [e]
  unfold Wh
  simp only [Te,if_true,Oj]
  rfl
 ·rcases hp r j hr with q | q
  ·rcases aa r j q with k | k
   ·rw [old r] at k;exact .inl k
   ·right;omega
  ·right;omega
theorem Npe [OA] {k1 k2:Nat} {x:Sc} (h:KB l0 B jv s G) (hl:lim<=l0) (h1:NF G k1=Vc [Vp B]) (h2:NF G k2=Vc (Z5 x))
  (y:∀j∈[k1],∀r,s.ptr B r≠some j) (hn:s.sc.length<2 ^ 30) (z:l0<=G.length)
  (w:∀s' G',Left l0 B jv s G (Vn s.st (.scan x)) s' G'->Q (.tuple #[]) G') :
  NP E false lim 150 [Vp k1,Vp k2] G Q:=by
 refine runs (by decide) Ny2 rfl ?_
 rw [Nzw,Nwc]
 have n:=fun X=>(QL.refl.app (X:=X)).cells h.b
 have m:=fun X=>(QL.refl.app (X:=X)).cells h1
 have k:=fun X=>(QL.refl.app (X:=X)).cells h2
 simp only [Z5] at k
 have o:lim<=B:=by have:=h.lB;omega
 obtain ⟨G1,i,g,l⟩:=Own.moreE h.os (lim':=lim) (bytes:=48) hl Nry (by decide) [x] (by simp) (by simp;unfold PS;omega) (by simp;omega) [Vc (Z5 x),.dead] 1 (x:=.slice (Sa G.length) 1 1) (str:=false) (by simp [firstCells,NW,NU,Z5]) rfl
 rw [<-h.os.appL] at i
 simp only [Z5,Qk,P6,Pw] at i
 have d:∀j∈Ze s.sp,s.ptr B .s=some j:=fun j c=>by simp only [SU.ptr];revert c;cases s.sp<;>simp [Ze,bk];intro e;exact e.symm
 have u:=fun X=>(QL.refl.app (X:=X)).cells (g.cells h1 fun c=>y k1 (by simp) .s (d _ c))
 have v:=fun X=>(QL.refl.app (X:=X)).cells (g.cells h.b fun c=>absurd (h.inj .s .b _ (d _ c) rfl) (by simp))
 obtain ⟨D,p,F,H⟩:=Zx l
 have f:B<G1.length:=by rw [l];exact (h.lt (r:=.b) rfl).2
 have a:∀(X:NB) (b:Blk),(G1++X).set B b=G1.set B b++X:=fun X b=>O3 _ _ f
 have fin:∀(X:NB),X.getD 1 .dead=Vc ((s.sc++[x]).flatMap Z5)->Q (.tuple #[]) (G1.set B (Vc [jv,.slice s.cp s.calls.length s.cc,.map (some s.M),.map (some s.X),.slice (Sa (G.length+1)) (s.sc.length+1) (loose 6)])++X):=fun X t=>by
  have hc:∀b:Blk,Chg (B::Ze s.sp) G (G1.set B b++X):=fun b=>((g.mono fun j _ c=>by simp [c]).set (.inl (by simp))).app
  obtain ⟨A,C⟩:=h.putS (sc:=s.sc++[x]) (sp:=Sa (G.length+1)) (sk:=loose 6) (hc _) (fun j c=>(Nh.1 c).imp (fun q=>q) (d j)) (by rw [NZ (by simpa using f),Rf f,Nj]) (Own.new (R:=G.length+1) (by
   refine Eq.trans ?_ t
   rw [<-p X 1]
   rcases Ol 1 X.length with q | q
   ·rw [<-a,Q9 (by omega)]
   ·rw [<-a,Q9 (by omega)]) (by omega)) (fun j c=>by simp only [bk,Ns,Option.some.injEq] at c;omega)
  exact w _ _ ⟨A,rfl,C,rfl,B::Ze s.sp,fun j c=>(by
   rcases Nh.1 c with q | q
   ·exact ⟨.b,by rw [q];rfl⟩
   ·exact ⟨.s,d j q⟩),hc _⟩
 simp only [n150,Nyf,m,k,n,i,u,v,D,p,F,H,a,o,SB,seval,NC,NH,NG,NQ,reduceCtorEq,ND,place,NA,NE]
 exact fin _ rfl
theorem Nh0 [OA] {k1 k2 k3 n:Nat} {id c:Int} {x:It} {b0:Bool} {m:PM} (h:KB l0 B jv s G) (hl:lim<=l0) (h1:NF G k1=Vc [Vi x.from',Vi x.point,.bool b0]) (h2:NF G k2=Vc [Vp B]) (h3:NF G k3=Vc [Vi id]) (h4:NF G n=Vc [Vi c])
  (Z:∀j∈[k1,k2,k3,n],∀r,s.ptr B r≠some j) (L:lim<=k1) (J:∀j∈[k2,k3,n],j≠k1) (M:∀c∈s.calls,∀a,c.p=some a->a.block≠k1)
  (hx:PE id s.xs=some x) (hm:PE x.from' s.ms=some m) (hn:m.m.ents.length<2 ^ 40) (ac:l0<=G.length) (F:-9223372036854775808<=Rn m.m.ents+c) (H:Rn m.m.ents+c<=9223372036854775807)
  (hQ:∀s' G',(∃A,(∀j∈A,j=k1\/∃r,s.ptr B r=some j)/\Chg A G G')->KB l0 B jv s' G'->s'.st=Vn s.st (.refund id c)->(∀r j,s'.ptr B r=some j->s.ptr B r=some j\/G.length<=j)->s'.calls=s.calls->Q (.tuple #[]) G') :
  NP E false lim 151 [Vp k1,Vp k2,Vp k3,Vp n] G Q:=by
 refine runs (by decide) Ny1 rfl ?_
 rw [Nzv,Nwb]
 have g:Chg [k1] G (G.set k1 (Vc [Vi x.from',Vi x.point,.bool true])):=Chg.refl.set (.inl (by simp))
 have t:=h.to g fun j d=>by
  rw [Ng.1 d]
  exact ⟨Z k1 (by simp),M⟩
 have D:=fun X=>(QL.refl.app (X:=X)).cells h1
 have V:NF (G.set k1 (Vc [Vi x.from',Vi x.point,.bool true])) k1=Vc [Vi x.from',Vi x.point,.bool true]:=Rf (NJ h1)
 have W:=g.cells h2 (by simpa using J k2 (by simp))
 have Y:=g.cells h3 (by simpa using J k3 (by simp))
 have g4:=g.cells h4 (by simpa using J n (by simp))
 simp only [n151,Nsp,D,L,SB,seval,NC,NH,NG,NQ,reduceCtorEq,ND,place,NA,NE]
 simp only [Nb]
 have aa:(G.set k1 (Vc [Vi x.from',Vi x.point,.bool true])).length=G.length:=by simp
 generalize G.set k1 (Vc [Vi x.from',Vi x.point,.bool true])=G1 at *
 have gB:=t.b
 have gX:=t.x
 obtain ⟨j,d⟩:=Wx hx 0
 have K:findKey (Vi id) (QK kI UK s.xs) 0=some (some (j,UK x)):=by
  have:=SX (vv:=UK) Nap id s.xs 0
  rw [d] at this;exact this
 have N:Sb (.int .i64) (Vi id)=true:=Ww
 have O:lim<=s.X:=by have:=h.lX;omega
 have o:(QK kI UK s.xs).set j (Vi id,.agg #[Vi x.from',Vi x.point,.bool true])=QK kI UK (Rx id { x with refd:=true } s.xs):=by
  have:=(M6 (v':=({ x with refd:=true }:It)) d).2.2
  rw [Nat.sub_zero] at this
  rw [<-this]
  simp [QK,List.map_set,UK,kI]
 have v:=fun X=>(QL.refl.app (X:=X)).cells V
 have w:=fun X=>(QL.refl.app (X:=X)).cells W
 have y:=fun X=>(QL.refl.app (X:=X)).cells Y
 have z:=fun X=>(QL.refl.app (X:=X)).cells gB
 have k:s.X<G1.length:=(t.lt (r:=.x) rfl).2
 have C:∀X,NF (G1++X) s.X=.map (QK kI UK s.xs):=fun X=>by rw [NZ k];exact gX
 have l:∀(X:NB) (b:Blk),(G1++X).set s.X b=G1.set s.X b++X:=fun X b=>O3 _ _ k
 rw [<-Nb G1]
 simp only [n151,Nsp,v,w,y,z,C,NS,N,K,O,o,l,SB,seval,NC,NH,NG,NQ,reduceCtorEq,ND,place,NA,NE]
 have f:∀b:Blk,Chg [s.X] G1 (G1.set s.X b):=fun b=>Chg.refl.set (.inl (by simp))
 have K2:=t.putX (id:=id) (x:={ x with refd:=true }) (f _) (fun j d=>Ng.1 d) (Rf k)
 have u:∀j∈[k1,k2,k3,n],j∉[s.X]:=fun j d e=>Z j d .x (by rw [Ng.1 e];rfl)
 have i1:=(f (.map (QK kI UK (Rx id { x with refd:=true } s.xs)))).cells V (u _ (by simp))
 have i2:=(f (.map (QK kI UK (Rx id { x with refd:=true } s.xs)))).cells W (u _ (by simp))
 have i3:=(f (.map (QK kI UK (Rx id { x with refd:=true } s.xs)))).cells Y (u _ (by simp))
 have i4:=(f (.map (QK kI UK (Rx id { x with refd:=true } s.xs)))).cells g4 (u _ (by simp))
 have i:=f (.map (QK kI UK (Rx id { x with refd:=true } s.xs)))
 generalize G1.set s.X (.map (QK kI UK (Rx id { x with refd:=true } s.xs)))=G2 at *
 have R:=fun X=>(QL.refl.app (X:=X)).cells i1
 have S:=fun X=>(QL.refl.app (X:=X)).cells i2
 have T:=fun X=>(QL.refl.app (X:=X)).cells i3
 have U:=fun X=>(QL.refl.app (X:=X)).cells i4
 simp only [n151,Nsp,R,S,T,U,SB,seval,NC,NH,NG,NQ,reduceCtorEq,ND,place,NA,NE]
 rw [Nb]
 have P:PE x.from' ({ s with xs:=Rx id { x with refd:=true } s.xs }:SU).ms=some m:=hm
 have ab:G1.length<=G2.length:=i.len
 refine Na0 K2 hl P hn (by omega) F H fun A G' s' hA hC hK hs hp I=>?_
 refine NI ?_
 simp only [n151,Nsp,SB,seval,NC,NH,NG,NQ,reduceCtorEq,ND,place,NA,NE]
 rw [Nb]
 have old:∀r,({ s with xs:=Rx id { x with refd:=true } s.xs }:SU).ptr B r=s.ptr B r:=fun r=>by cases r<;>rfl
 refine hQ s' G' ⟨k1::s.X::A.filter fun j=>decide (j<G.length),fun j d=>?_, ?_⟩ hK ?_ (fun r j hr=>?_) I
 ·simp only [Nh,Oo,Nx] at d
  rcases d with q | q | ⟨q,q2⟩
  ·exact .inl q
  ·exact .inr ⟨.x,by rw [q];rfl⟩
  ·obtain ⟨r,hr⟩:=hA j q
   rw [old r] at hr;exact .inr ⟨r,hr⟩
 ·refine ((g.mono fun j _ d=>?_).trans' i fun j d _=>?_).trans' hC fun j d hl=>?_
  ·rw [Ng.1 d];simp
  ·rw [Ng.1 d];simp
  ·simp [d,hl]
 ·rw [hs]
  have e:(PE id s.st.xs).getD noI=x:=by show (PE id s.xs).getD noI=x;rw [hx];rfl
  unfold Vn
  simp only [e]
  rfl
 ·rcases hp r j hr with q | q
  ·rw [old r] at q;exact .inl q
  ·right;omega
end
section
variable {lim l0 B:Nat} {jv:Value} {s:SU} {G:NB} {Q:Value->NB->Prop}
theorem lkM {id:Int} {ms:List (Int×PM)}:findKey (Vi id) (QK kI Tj ms) 0=some ((fk id ms 0).map fun x=>(x.1,Tj x.2)):=SX (vv:=Tj) Nap id ms 0
theorem lkX {id:Int} {xs:List (Int×It)}:findKey (Vi id) (QK kI UK xs) 0=some ((fk id xs 0).map fun x=>(x.1,UK x.2)):=SX (vv:=UK) Nap id xs 0
theorem Nvd [OA] {p:Option Addr} {k:Nat} {l:List ByteArray} (h:KB l0 B jv s G) (hl:lim<=l0) (N:l0<=G.length) (O:Sl G SE 1 p l) (F:∀a,p=some a->a.block<G.length) (R:∀t∈l,t.size<=281474976710656) (hn:l.length<2 ^ 40)
  (he:∀id m,PE id s.ms=some m->m.m.ents.length<2 ^ 40/\0<=Rn m.m.ents/\Rn m.m.ents<=1000000000000)
  (C:l.length≠2\/(∃t∈l,Ry t=none)->∀G',Chg [] G G'->Q (.tuple #[.nilFunc,Vi 432]) G')
  (i:∀id c e G',l.map Ry=[some id,some c]->Rv s.st (.pay id c)=e->e≠0->Chg [] G G'->Q (.tuple #[.nilFunc,Vi e]) G')
  (D:∀id c G' k1 k2 k3,l.map Ry=[some id,some c]->Rv s.st (.pay id c)=0->Chg [] G G'->G.length<=k1->G.length<=k2->G.length<=k3->NF G' k1=Vc [Vp B]->NF G' k2=Vc [Vi id]->NF G' k3=Vc [Vi c]->
   Q (.tuple #[.func (.func 147) #[] #[Vp k1,Vp k2,Vp k3],Vi 0]) G') :
  NP E false lim 103 [Vp B,.slice p l.length k] G Q:=by
 refine runs (by decide) Nzn rfl ?_
 rw [N0h,Nwo]
 have o:lim<=G.length:=by omega
 simp only [n103,Nh1,o,SB,seval,NC,NH,NG,NQ,reduceCtorEq,ND,place,NA,NE]
 refine YA (ps:=[⟨G.length+1,0,none⟩,⟨G.length+2,0,none⟩]) (O.app _) (Sl.row VH (ro:=false) (by simp [NK,Nej])) R ?_ ?_ ?_ (by omega) (by show (2:Nat)<2 ^ 62;decide) (fun L G' hc v=>?_) fun ns g v=>?_
 ·intro a q
  simp only [Nh,Np,or_false] at q
  rcases q with rfl | rfl
  ·exact ⟨by show lim<=G.length+1;omega,rfl,[Vi 0],by rw [NK];rfl,by show 0<1;decide⟩
  ·exact ⟨by show lim<=G.length+2;omega,rfl,[Vi 0],by rw [NK];rfl,by show 0<1;decide⟩
 ·intro a q x H
  have:=F x H
  simp only [Nh,Np,or_false] at q
  rcases q with rfl | rfl
  ·show x.block≠G.length+1;omega
  ·show x.block≠G.length+2;omega
 ·intro a q x H
  cases H
  simp only [Nh,Np,or_false] at q
  rcases q with rfl | rfl
  ·show G.length+3≠G.length+1;omega
  ·show G.length+3≠G.length+2;omega
 ·refine NI ?_
  simp only [n103,Nh1,SB,seval,NC,NH,NG,NQ,reduceCtorEq,ND,place,NA,NE]
  rw [Nb]
  refine C L G' (hc.pre.mono fun j I J=>?_)
  simp at J;omega
 ·obtain ⟨id,c,rfl⟩:∃id c,ns=[id,c]:=by
   have:ns.length=2:=by rw [<-Nz (f:=some),<-g,Nz,v];rfl
   match ns,this with
   | [a,b],_=>exact ⟨a,b,rfl⟩
  have P:ME [⟨G.length+1,0,none⟩,⟨G.length+2,0,none⟩] [id,c] (G++[Vc [Vp B],Vc [Vi 0],Vc [Vi 0],Vc [Vp (G.length+1),Vp (G.length+2)]]) =
    G++[Vc [Vp B],Vc [Vi id],Vc [Vi c],Vc [Vp (G.length+1),Vp (G.length+2)]]:=by
   simp [ME,wr1,NK,VQ,cellsOf]
  rw [P]
  have w:=fun X=>(QL.refl.app (X:=X)).cells h.b
  have z:∀X,NF (G++X) s.M=.map (QK kI Tj s.ms):=fun X=>by rw [NZ (h.lt (r:=.m) rfl).2];exact h.m
  have y:Sb (.int .i64) (Vi id)=true:=Ww
  cases hi:SK id
  ·simp only [n103,Nh1,Re,QI,hi,SB,seval,NC,NH,NG,NQ,reduceCtorEq,ND,place,NA,NE]
   exact i id c 2 _ g (by simp [Rv,hi]) (by decide) Chg.refl.app
  ·cases hct:WZ c
   ·simp only [n103,Nh1,Re,QI,hi,hct,SB,seval,NC,NH,NG,NQ,reduceCtorEq,ND,place,NA,NE]
    exact i id c 2 _ g (by simp [Rv,hct]) (by decide) Chg.refl.app
   ·cases hg:PE id s.ms with
    | none=>
      have n:findKey (Vi id) (QK kI Tj s.ms) 0=some none:=by rw [lkM,Wy hg];rfl
      simp only [n103,Nh1,Re,QI,hi,hct,w,z,y,n,NS,o,SB,seval,NC,NH,NG,NQ,reduceCtorEq,ND,place,NA,NE]
      exact i id c 6 _ g (by simp [Rv,hi,hct,RH,hg]) (by decide) Chg.refl.app
    | some m=>
      obtain ⟨j,I⟩:=Wx hg 0
      have n:findKey (Vi id) (QK kI Tj s.ms) 0=some (some (j,Tj m)):=by rw [lkM,I];rfl
      obtain ⟨S,T,U⟩:=he id m hg
      have u:=fun X (mp:Bool) (lim:Nat) (Q:Value->NB->Prop)=>Z8 (mp:=mp) (lim:=lim) (Q:=Q) (c:=m.ce) (nm:=.string m.m.name) (its:=.slice m.pi m.m.its.length m.ci) (((h.oe id m hg).sl SQ).app X) S
      have K:1<=c/\c<=1000000000:=O8 hct
      have A:IntKind.i64.wrap (Rn m.m.ents+c)=Rn m.m.ents+c:=QP (by omega) (by omega)
      by_cases d:1000000000000<Rn m.m.ents+c
      ·simp only [n103,Nh1,Re,QI,hi,hct,w,z,y,n,NS,Tj,o,u,A,d,SB,seval,NC,NH,NG,NQ,reduceCtorEq,ND,place,NA,NE]
       exact i id c 3 _ g (by simp [Rv,hi,hct,RH,hg,d]) (by decide) Chg.refl.app
      ·simp only [n103,Nh1,Re,QI,hi,hct,w,z,y,n,NS,Tj,o,u,A,d,SB,seval,NC,NH,NG,NQ,reduceCtorEq,ND,place,NA,NE]
       refine D id c _ G.length (G.length+1) (G.length+2) g (by simp [Rv,hi,hct,RH,hg,d]) Chg.refl.app (Nd _) (by omega) (by omega) (by rw [NU];rfl) (by rw [NK];rfl) (by rw [NK];rfl)
end
section
variable {lim l0 B:Nat} {jv:Value} {s:SU} {G:NB} {Q:Value->NB->Prop}
theorem YV {κ ν:Type} {kv:κ->Value} {vv:ν->Value} {es:List (κ×ν)}:(QK kv vv es).length=es.length:=by simp [QK]
theorem Nss [OA] {p:Option Addr} {k:Nat} {l:List ByteArray} (h:KB l0 B jv s G) (hl:lim<=l0) (S:l0<=G.length) (U:Sl G SE 1 p l) (P:∀a,p=some a->a.block<G.length) (W:∀t∈l,t.size<=281474976710656) (hn:l.length<2 ^ 40)
  (he:∀id m,PE id s.ms=some m->m.m.ents.length<2 ^ 40/\0<=Rn m.m.ents/\Rn m.m.ents<=1000000000000)
  (N:l.length≠4\/(∃t∈l,Ry t=none)->∀G',Chg [] G G'->Q (.tuple #[.nilFunc,Vi 432]) G')
  (o:∀id f g c e G',l.map Ry=[some id,some f,some g,some c]->Rv s.st (.post id f g c)=e->e≠0->Chg [] G G'->Q (.tuple #[.nilFunc,Vi e]) G')
  (O:∀id f g c m G',l.map Ry=[some id,some f,some g,some c]->Rv s.st (.post id f g c)=0->PE f s.ms=some m->Chg [] G G'->NF G' (G.length+2)=Vc [Vi f]->NF G' (G.length+3)=Vc [Vi g]->NF G' G.length=Vc [Vp B]->NF G' (G.length+1)=Vc [Vi id]->
   NF G' (G.length+7)=Vc [.string m.m.name,.slice m.pe m.m.ents.length m.ce,.slice m.pi m.m.its.length m.ci]->NF G' (G.length+4)=Vc [Vi c]->
   Q (.tuple #[.func (.func 149) #[] #[Vp (G.length+2),Vp (G.length+3),Vp G.length,Vp (G.length+1),Vp (G.length+7),Vp (G.length+4)],Vi 0]) G') :
  NP E false lim 104 [Vp B,.slice p l.length k] G Q:=by
 refine runs (by decide) Nzm rfl ?_
 rw [N0g,Nwn]
 have v:lim<=G.length:=by omega
 simp only [n104,Naa,v,SB,seval,NC,NH,NG,NQ,reduceCtorEq,ND,place,NA,NE]
 refine YA (ps:=[⟨G.length+1,0,none⟩,⟨G.length+2,0,none⟩,⟨G.length+3,0,none⟩,⟨G.length+4,0,none⟩]) (U.app _) (Sl.row VH (ro:=false) (by simp [NK,Nej])) W ?_ ?_ ?_ (by omega) (by show (4:Nat)<2 ^ 62;decide) (fun q G' hc J=>?_) fun ns d J=>?_
 ·intro a I
  simp only [Nh,Np,or_false] at I
  rcases I with rfl | rfl | rfl | rfl
  ·exact ⟨by show lim<=G.length+1;omega,rfl,[Vi 0],by rw [NK];rfl,by show 0<1;decide⟩
  ·exact ⟨by show lim<=G.length+2;omega,rfl,[Vi 0],by rw [NK];rfl,by show 0<1;decide⟩
  ·exact ⟨by show lim<=G.length+3;omega,rfl,[Vi 0],by rw [NK];rfl,by show 0<1;decide⟩
  ·exact ⟨by show lim<=G.length+4;omega,rfl,[Vi 0],by rw [NK];rfl,by show 0<1;decide⟩
 ·intro a I x H
  have:=P x H
  simp only [Nh,Np,or_false] at I
  rcases I with rfl | rfl | rfl | rfl
  ·show x.block≠G.length+1;omega
  ·show x.block≠G.length+2;omega
  ·show x.block≠G.length+3;omega
  ·show x.block≠G.length+4;omega
 ·intro a I x H
  cases H
  simp only [Nh,Np,or_false] at I
  rcases I with rfl | rfl | rfl | rfl
  ·show G.length+5≠G.length+1;omega
  ·show G.length+5≠G.length+2;omega
  ·show G.length+5≠G.length+3;omega
  ·show G.length+5≠G.length+4;omega
 ·refine NI ?_
  simp only [n104,Naa,SB,seval,NC,NH,NG,NQ,reduceCtorEq,ND,place,NA,NE]
  rw [Nb]
  refine N q G' (hc.pre.mono fun j L R=>?_)
  simp at R;omega
 ·obtain ⟨id,f,g,c,rfl⟩:∃id f g c,ns=[id,f,g,c]:=by
   have:ns.length=4:=by rw [<-Nz (f:=some),<-d,Nz,J];rfl
   match ns,this with
   | [a0,a1,a2,a3],_=>exact ⟨a0,a1,a2,a3,rfl⟩
  have V:ME [⟨G.length+1,0,none⟩,⟨G.length+2,0,none⟩,⟨G.length+3,0,none⟩,⟨G.length+4,0,none⟩] [id,f,g,c] (G++[Vc [Vp B],Vc [Vi 0],Vc [Vi 0],Vc [Vi 0],Vc [Vi 0],Vc [Vp (G.length+1),Vp (G.length+2),Vp (G.length+3),Vp (G.length+4)]]) =
    G++[Vc [Vp B],Vc [Vi id],Vc [Vi f],Vc [Vi g],Vc [Vi c],Vc [Vp (G.length+1),Vp (G.length+2),Vp (G.length+3),Vp (G.length+4)]]:=by
   simp [ME,wr1,NK,VQ,cellsOf]
  rw [V]
  have w:=fun X=>(QL.refl.app (X:=X)).cells h.b
  have F:∀X,NF (G++X) s.M=.map (QK kI Tj s.ms):=fun X=>by rw [NZ (h.lt (r:=.m) rfl).2];exact h.m
  have C:∀X,NF (G++X) s.X=.map (QK kI UK s.xs):=fun X=>by rw [NZ (h.lt (r:=.x) rfl).2];exact h.x
  have z:∀n,Sb (.int .i64) (Vi n)=true:=fun n=>Ww
  cases hi:SK id
  ·simp only [n104,Naa,Re,QI,hi,SB,seval,NC,NH,NG,NQ,reduceCtorEq,ND,place,NA,NE]
   exact o id f g c 2 _ d (by simp [Rv,hi]) (by decide) Chg.refl.app
  cases q:SK f
  ·simp only [n104,Naa,Re,QI,hi,q,SB,seval,NC,NH,NG,NQ,reduceCtorEq,ND,place,NA,NE]
   exact o id f g c 2 _ d (by simp [Rv,q]) (by decide) Chg.refl.app
  cases hp:SK g
  ·simp only [n104,Naa,Re,QI,hi,q,hp,SB,seval,NC,NH,NG,NQ,reduceCtorEq,ND,place,NA,NE]
   exact o id f g c 2 _ d (by simp [Rv,hp]) (by decide) Chg.refl.app
  cases hct:WZ c
  ·simp only [n104,Naa,Re,QI,hi,q,hp,hct,SB,seval,NC,NH,NG,NQ,reduceCtorEq,ND,place,NA,NE]
   exact o id f g c 2 _ d (by simp [Rv,hct]) (by decide) Chg.refl.app
  cases H:PE id s.xs with
  | some x=>
    obtain ⟨j,L⟩:=Wx H 0
    have u:findKey (Vi id) (QK kI UK s.xs) 0=some (some (j,UK x)):=by rw [lkX,L];rfl
    simp only [n104,Naa,Re,QI,hi,q,hp,hct,w,C,z,u,NS,UK,v,SB,seval,NC,NH,NG,NQ,reduceCtorEq,ND,place,NA,NE]
    exact o id f g c 430 _ d (by simp [Rv,hi,q,hp,hct,SU.st,H]) (by decide) Chg.refl.app
  | none=>
    have D:findKey (Vi id) (QK kI UK s.xs) 0=some none:=by rw [lkX,Wy H];rfl
    cases hg:PE f s.ms with
    | none=>
      have u:findKey (Vi f) (QK kI Tj s.ms) 0=some none:=by rw [lkM,Wy hg];rfl
      simp only [n104,Naa,Re,QI,hi,q,hp,hct,w,C,F,z,D,u,NS,v,SB,seval,NC,NH,NG,NQ,reduceCtorEq,ND,place,NA,NE]
      have A:PE id s.st.xs=none:=H
      exact o id f g c 6 _ d (by simp [Rv,hi,q,hp,hct,RH,hg,A]) (by decide) Chg.refl.app
    | some m=>
      obtain ⟨j,L⟩:=Wx hg 0
      have u:findKey (Vi f) (QK kI Tj s.ms) 0=some (some (j,Tj m)):=by rw [lkM,L];rfl
      obtain ⟨Y,Z,m3⟩:=he f m hg
      have y:=fun X (mp:Bool) (lim:Nat) (Q:Value->NB->Prop)=>Z8 (mp:=mp) (lim:=lim) (Q:=Q) (c:=m.ce) (nm:=.string m.m.name) (its:=.slice m.pi m.m.its.length m.ci) (((h.oe f m hg).sl SQ).app X) Y
      have A:PE id s.st.xs=none:=H
      by_cases i:Rn m.m.ents<c
      ·simp only [n104,Naa,Re,QI,hi,q,hp,hct,w,C,F,z,D,u,NS,Tj,v,y,i,SB,seval,NC,NH,NG,NQ,reduceCtorEq,ND,place,NA,NE]
       exact o id f g c 431 _ d (by simp [Rv,hi,q,hp,hct,RH,hg,A,i]) (by decide) Chg.refl.app
      ·by_cases T:2000<=s.xs.length
       ·have K:(2000:Int)<=(s.xs.length:Int):=by omega
        simp only [n104,Naa,Re,QI,hi,q,hp,hct,w,C,F,z,D,u,NS,Tj,v,y,i,YV,K,SB,seval,NC,NH,NG,NQ,reduceCtorEq,ND,place,NA,NE]
        exact o id f g c 5 _ d (by simp only [Rv,hi,q,hp,hct,RH,hg,A,i];simp [SU.st,T];omega) (by decide) Chg.refl.app
       ·have K:¬(2000:Int)<=(s.xs.length:Int):=by omega
        simp only [n104,Naa,Re,QI,hi,q,hp,hct,w,C,F,z,D,u,NS,Tj,v,y,i,YV,K,SB,seval,NC,NH,NG,NQ,reduceCtorEq,ND,place,NA,NE]
        exact O id f g c m _ d (by simp only [Rv,hi,q,hp,hct,RH,hg,A,i];simp [SU.st];omega) hg Chg.refl.app (by rw [NK];rfl) (by rw [NK];rfl) (by rw [NU];rfl) (by rw [NK];rfl) (by rw [NK];rfl) (by rw [NK];rfl)
theorem Nld [OA] {p:Option Addr} {k:Nat} {l:List ByteArray} (h:KB l0 B jv s G) (hl:lim<=l0) (V:l0<=G.length) (W:Sl G SE 1 p l) (P:∀a,p=some a->a.block<G.length) (Z:∀t∈l,t.size<=281474976710656) (hn:l.length<2 ^ 40)
  (he:∀id m,PE id s.ms=some m->m.m.ents.length<2 ^ 40/\0<=Rn m.m.ents/\Rn m.m.ents<=1000000000000)
  (F:∀id x,PE id s.xs=some x->∃m,PE x.from' s.ms=some m)
  (L:l.length≠2\/(∃t∈l,Ry t=none)->∀G',Chg [] G G'->Q (.tuple #[.nilFunc,Vi 432]) G')
  (i:∀id c e G',l.map Ry=[some id,some c]->Rv s.st (.refund id c)=e->e≠0->Chg [] G G'->Q (.tuple #[.nilFunc,Vi e]) G')
  (N:∀id c x m G',l.map Ry=[some id,some c]->Rv s.st (.refund id c)=0->PE id s.xs=some x->PE x.from' s.ms=some m->Chg [] G G'->NF G' (G.length+4)=Vc [Vi x.from',Vi x.point,.bool x.refd]->NF G' G.length=Vc [Vp B]->NF G' (G.length+1)=Vc [Vi id]->NF G' (G.length+2)=Vc [Vi c]->
   Q (.tuple #[.func (.func 151) #[] #[Vp (G.length+4),Vp G.length,Vp (G.length+1),Vp (G.length+2)],Vi 0]) G') :
  NP E false lim 106 [Vp B,.slice p l.length k] G Q:=by
 refine runs (by decide) Nzk rfl ?_
 rw [N0e,Nwm]
 have q:lim<=G.length:=by omega
 simp only [n106,Nfh,q,SB,seval,NC,NH,NG,NQ,reduceCtorEq,ND,place,NA,NE]
 refine YA (ps:=[⟨G.length+1,0,none⟩,⟨G.length+2,0,none⟩]) (W.app _) (Sl.row VH (ro:=false) (by simp [NK,Nej])) Z ?_ ?_ ?_ (by omega) (by show (2:Nat)<2 ^ 62;decide) (fun U G' hc D=>?_) fun ns d D=>?_
 ·intro a A
  simp only [Nh,Np,or_false] at A
  rcases A with rfl | rfl
  ·exact ⟨by show lim<=G.length+1;omega,rfl,[Vi 0],by rw [NK];rfl,by show 0<1;decide⟩
  ·exact ⟨by show lim<=G.length+2;omega,rfl,[Vi 0],by rw [NK];rfl,by show 0<1;decide⟩
 ·intro a A x v
  have:=P x v
  simp only [Nh,Np,or_false] at A
  rcases A with rfl | rfl
  ·show x.block≠G.length+1;omega
  ·show x.block≠G.length+2;omega
 ·intro a A x v
  cases v
  simp only [Nh,Np,or_false] at A
  rcases A with rfl | rfl
  ·show G.length+3≠G.length+1;omega
  ·show G.length+3≠G.length+2;omega
 ·refine NI ?_
  simp only [n106,Nfh,SB,seval,NC,NH,NG,NQ,reduceCtorEq,ND,place,NA,NE]
  rw [Nb]
  refine L U G' (hc.pre.mono fun j R S=>?_)
  simp at S;omega
 ·obtain ⟨id,c,rfl⟩:∃id c,ns=[id,c]:=by
   have:ns.length=2:=by rw [<-Nz (f:=some),<-d,Nz,D];rfl
   match ns,this with
   | [a0,a1],_=>exact ⟨a0,a1,rfl⟩
  have Y:ME [⟨G.length+1,0,none⟩,⟨G.length+2,0,none⟩] [id,c] (G++[Vc [Vp B],Vc [Vi 0],Vc [Vi 0],Vc [Vp (G.length+1),Vp (G.length+2)]]) =
    G++[Vc [Vp B],Vc [Vi id],Vc [Vi c],Vc [Vp (G.length+1),Vp (G.length+2)]]:=by
   simp [ME,wr1,NK,VQ,cellsOf]
  rw [Y]
  have w:=fun X=>(QL.refl.app (X:=X)).cells h.b
  have J:∀X,NF (G++X) s.M=.map (QK kI Tj s.ms):=fun X=>by rw [NZ (h.lt (r:=.m) rfl).2];exact h.m
  have z:∀X,NF (G++X) s.X=.map (QK kI UK s.xs):=fun X=>by rw [NZ (h.lt (r:=.x) rfl).2];exact h.x
  have y:∀n,Sb (.int .i64) (Vi n)=true:=fun n=>Ww
  cases hi:SK id
  ·simp only [n106,Nfh,Re,QI,hi,SB,seval,NC,NH,NG,NQ,reduceCtorEq,ND,place,NA,NE]
   exact i id c 2 _ d (by simp [Rv,hi]) (by decide) Chg.refl.app
  cases hct:WZ c
  ·simp only [n106,Nfh,Re,QI,hi,hct,SB,seval,NC,NH,NG,NQ,reduceCtorEq,ND,place,NA,NE]
   exact i id c 2 _ d (by simp [Rv,hct]) (by decide) Chg.refl.app
  cases v:PE id s.xs with
  | none=>
    have o:findKey (Vi id) (QK kI UK s.xs) 0=some none:=by rw [lkX,Wy v];rfl
    simp only [n106,Nfh,Re,QI,hi,hct,w,z,y,o,NS,q,SB,seval,NC,NH,NG,NQ,reduceCtorEq,ND,place,NA,NE]
    have u:PE id s.st.xs=none:=v
    exact i id c 6 _ d (by simp [Rv,hi,hct,u]) (by decide) Chg.refl.app
  | some x=>
    obtain ⟨j,R⟩:=Wx v 0
    have o:findKey (Vi id) (QK kI UK s.xs) 0=some (some (j,UK x)):=by rw [lkX,R];rfl
    have u:PE id s.st.xs=some x:=v
    cases hr:x.refd
    ·obtain ⟨m,H⟩:=F id x v
     obtain ⟨j2,O⟩:=Wx H 0
     have I:findKey (Vi x.from') (QK kI Tj s.ms) 0=some (some (j2,Tj m)):=by rw [lkM,O];rfl
     obtain ⟨m1,m2,m3⟩:=he _ m H
     have C:=fun X (mp:Bool) (lim:Nat) (Q:Value->NB->Prop)=>Z8 (mp:=mp) (lim:=lim) (Q:=Q) (c:=m.ce) (nm:=.string m.m.name) (its:=.slice m.pi m.m.its.length m.ci) (((h.oe _ m H).sl SQ).app X) m1
     have T:1<=c/\c<=1000000000:=O8 hct
     have K:IntKind.i64.wrap (Rn m.m.ents+c)=Rn m.m.ents+c:=QP (by omega) (by omega)
     by_cases g:1000000000000<Rn m.m.ents+c
     ·simp only [n106,Nfh,Re,QI,hi,hct,w,z,J,y,o,I,NS,UK,Tj,q,hr,C,K,g,SB,seval,NC,NH,NG,NQ,reduceCtorEq,ND,place,NA,NE]
      exact i id c 3 _ d (by simp [Rv,hi,hct,u,hr,RH,H,g]) (by decide) Chg.refl.app
     ·simp only [n106,Nfh,Re,QI,hi,hct,w,z,J,y,o,I,NS,UK,Tj,q,hr,C,K,g,SB,seval,NC,NH,NG,NQ,reduceCtorEq,ND,place,NA,NE]
      exact N id c x m _ d (by simp [Rv,hi,hct,u,hr,RH,H,g]) v H Chg.refl.app (by rw [NK,hr];rfl) (by rw [NU];rfl) (by rw [NK];rfl) (by rw [NK];rfl)
    ·simp only [n106,Nfh,Re,QI,hi,hct,w,z,y,o,NS,UK,q,hr,SB,seval,NC,NH,NG,NQ,reduceCtorEq,ND,place,NA,NE]
     exact i id c 430 _ d (by simp [Rv,hi,hct,u,hr]) (by decide) Chg.refl.app
end
section
variable {mp:Bool} {lim l0 B:Nat} {jv:Value} {s:SU} {G H:NB} {Q:Value->NB->Prop}
def Nd3 (x:Sc):Bool:=SK x.item&&SK x.place&&SK x.scanner&&decide (1<=x.kind)&&decide (x.kind<=4)&&Yf x.at'&&Yf x.seen
theorem Npb [OA] {x:Sc}:NP E mp lim 160 [.agg #[Vi x.item,Vi x.place,Vi x.scanner,.int .u8 x.kind,Vi x.at',Vi x.seen]] H Q=Q (.bool (Nd3 x)) H:=by
 refine pc (by decide) Nyy rfl rfl ?_
 rw [Nzs,c160]
 simp only [n160,Nfg,UB,UA,SB,seval,NC,NH,NG,NQ,reduceCtorEq,ND,place,NA,NE]
 unfold Nd3
 cases h1:SK x.item
 ·simp only [n160,Nfg,UB,UA,h1,SB,seval,NC,NH,NG,NQ,reduceCtorEq,ND,place,NA,NE]
  rfl
 cases h2:SK x.place
 ·simp only [n160,Nfg,UB,UA,h1,h2,SB,seval,NC,NH,NG,NQ,reduceCtorEq,ND,place,NA,NE]
  rfl
 cases h3:SK x.scanner
 ·simp only [n160,Nfg,UB,UA,h1,h2,h3,SB,seval,NC,NH,NG,NQ,reduceCtorEq,ND,place,NA,NE]
  rfl
 by_cases a:1<=x.kind
 case neg=>
  simp only [n160,Nfg,UB,UA,h1,h2,h3,a,SB,seval,NC,NH,NG,NQ,reduceCtorEq,ND,place,NA,NE]
  simp [a]
 by_cases b:x.kind<=4
 case neg=>
  simp only [n160,Nfg,UB,UA,h1,h2,h3,a,b,SB,seval,NC,NH,NG,NQ,reduceCtorEq,ND,place,NA,NE]
  simp [b]
 cases h6:Yf x.at'
 ·simp only [n160,Nfg,UB,UA,h1,h2,h3,a,b,h6,SB,seval,NC,NH,NG,NQ,reduceCtorEq,ND,place,NA,NE]
  simp
 ·simp only [n160,Nfg,UB,UA,h1,h2,h3,a,b,h6,SB,seval,NC,NH,NG,NQ,reduceCtorEq,ND,place,NA,NE]
  simp [a,b]
theorem Nw0 [OA] {x:Sc} {k c:Nat} (p:NF H k=Vc (Z5 x)):NP E mp lim 131 [.slice (Sa k) 1 c] H Q=Q (.bool (Nd3 x)) H:=by
 refine pc (by decide) Nza rfl rfl ?_
 rw [Nz4,c131]
 simp only [n131,Nsq,SB,seval,NC,NH,NG,NQ,reduceCtorEq,ND,place,NA,NE]
 refine QC (fun i=>1-i) (fun i fr G=>i<=1/\fr 8=.slice (Sa k) 1 c/\fr 9=Vi 1/\fr 10=Vi i/\NF G k=Vc (Z5 x)/\H.length<=G.length/\(i=1->Nd3 x=true)) 0 ⟨by omega,rfl,rfl,by rfl,(QL.refl.app).cells p,by simp,fun h=>by cases h⟩ ?_
 intro i fr G ⟨hi,f,g,d,o,j,l⟩ n
 rw [QF Nq1.eq_1]
 refine NI ?_
 by_cases q:i<1
 ·obtain rfl:i=0:=by omega
  have b:=fun X=>(QL.refl.app (X:=X)).cells o
  simp only [Z5] at b
  have a:fr 10=Vi 0:=d
  have e:H.length<=G.length:=j
  have m:IntKind.i64.wrap 1=1:=by decide
  cases ho:Nd3 x
  ·simp only [n131,Nsq,f,g,a,b,e,Npb,ho,SB,seval,NC,NH,NG,NQ,reduceCtorEq,ND,place,NA,NE]
  ·simp only [n131,Nsq,f,g,a,b,e,Npb,ho,m,SB,seval,NC,NH,NG,NQ,reduceCtorEq,ND,place,NA,NE]
   rw [ho] at n
   exact n 1 _ _ ⟨by omega,f,g,rfl,(QL.refl.app).cells o,by simp;omega,fun _=>rfl⟩ (by omega)
 ·obtain rfl:i=1:=by omega
  simp only [n131,Nsq,f,g,d,l rfl,SB,seval,NC,NH,NG,NQ,reduceCtorEq,ND,place,NA,NE]
end
section
variable {lim l0 B:Nat} {jv:Value} {s:SU} {G:NB} {Q:Value->NB->Prop}
theorem Nsn [OA] {p:Option Addr} {k:Nat} {l:List ByteArray} (h:KB l0 B jv s G) (hl:lim<=l0) (Z:l0<=G.length) (hs:Sl G SE 1 p l) (T:∀a,p=some a->a.block<G.length) (hz:∀t∈l,t.size<=281474976710656) (hn:l.length<2 ^ 40)
  (R:l.length≠6\/(∃t∈l,Ry t=none)->∀G',Chg [] G G'->Q (.tuple #[.nilFunc,Vi 432]) G')
  (y:∀x e G',l.map Ry=[some x.item,some x.place,some x.scanner,some x.kind,some x.at',some x.seen]->Rv s.st (.scan x)=e->e≠0->Chg [] G G'->Q (.tuple #[.nilFunc,Vi e]) G')
  (S:∀x G',l.map Ry=[some x.item,some x.place,some x.scanner,some x.kind,some x.at',some x.seen]->Rv s.st (.scan x)=0->Chg [] G G'->NF G' G.length=Vc [Vp B]->NF G' (G.length+1)=Vc (Z5 x)->
   Q (.tuple #[.func (.func 150) #[] #[Vp G.length,Vp (G.length+1)],Vi 0]) G') :
  NP E false lim 105 [Vp B,.slice p l.length k] G Q:=by
 refine runs (by decide) Nzl rfl ?_
 rw [N0f,c105]
 have z:lim<=G.length:=by omega
 simp only [n105,Nfi,z,SB,seval,NC,NH,NG,NQ,reduceCtorEq,ND,place,NA,NE]
 refine YA (ps:=[⟨G.length+1,0,none⟩,⟨G.length+1,1,none⟩,⟨G.length+1,2,none⟩,⟨G.length+2,0,none⟩,⟨G.length+1,4,none⟩,⟨G.length+1,5,none⟩]) (hs.app _) (Sl.row VH (ro:=false) (by simp [NK,Nej])) hz ?_ ?_ ?_ (by omega) (by show (6:Nat)<2 ^ 62;decide) (fun W G' hc J=>?_) fun ns v J=>?_
 ·intro a I
  simp only [Nh,Np,or_false] at I
  rcases I with rfl | rfl | rfl | rfl | rfl | rfl
  ·exact ⟨by show lim<=G.length+1;omega,rfl,_,by rw [NK];rfl,by show 0<6;decide⟩
  ·exact ⟨by show lim<=G.length+1;omega,rfl,_,by rw [NK];rfl,by show 1<6;decide⟩
  ·exact ⟨by show lim<=G.length+1;omega,rfl,_,by rw [NK];rfl,by show 2<6;decide⟩
  ·exact ⟨by show lim<=G.length+2;omega,rfl,_,by rw [NK];rfl,by show 0<1;decide⟩
  ·exact ⟨by show lim<=G.length+1;omega,rfl,_,by rw [NK];rfl,by show 4<6;decide⟩
  ·exact ⟨by show lim<=G.length+1;omega,rfl,_,by rw [NK];rfl,by show 5<6;decide⟩
 ·intro a I x L
  have:=T x L
  simp only [Nh,Np,or_false] at I
  rcases I with rfl | rfl | rfl | rfl | rfl | rfl
  ·show x.block≠G.length+1;omega
  ·show x.block≠G.length+1;omega
  ·show x.block≠G.length+1;omega
  ·show x.block≠G.length+2;omega
  ·show x.block≠G.length+1;omega
  ·show x.block≠G.length+1;omega
 ·intro a I x L
  cases L
  simp only [Nh,Np,or_false] at I
  rcases I with rfl | rfl | rfl | rfl | rfl | rfl
  ·show G.length+3≠G.length+1;omega
  ·show G.length+3≠G.length+1;omega
  ·show G.length+3≠G.length+1;omega
  ·show G.length+3≠G.length+2;omega
  ·show G.length+3≠G.length+1;omega
  ·show G.length+3≠G.length+1;omega
 ·refine NI ?_
  simp only [n105,Nfi,SB,seval,NC,NH,NG,NQ,reduceCtorEq,ND,place,NA,NE]
  rw [Nb]
  refine R W G' (hc.pre.mono fun j U V=>?_)
  simp at V;omega
 ·obtain ⟨d,i,m,g,o,q,rfl⟩:∃d i m g o q,ns=[d,i,m,g,o,q]:=by
   have:ns.length=6:=by rw [<-Nz (f:=some),<-v,Nz,J];rfl
   match ns,this with
   | [a1,a2,a3,a4,a5,a6],_=>exact ⟨a1,a2,a3,a4,a5,a6,rfl⟩
  have hw:ME [⟨G.length+1,0,none⟩,⟨G.length+1,1,none⟩,⟨G.length+1,2,none⟩,⟨G.length+2,0,none⟩,⟨G.length+1,4,none⟩,⟨G.length+1,5,none⟩] [d,i,m,g,o,q] (G++[Vc [Vp B],Vc [Vi 0,Vi 0,Vi 0,.int .u8 0,Vi 0,Vi 0],Vc [Vi 0],Vc [Vp (G.length+1),.pointer (some ⟨G.length+1,1,none⟩),.pointer (some ⟨G.length+1,2,none⟩),Vp (G.length+2),.pointer (some ⟨G.length+1,4,none⟩),.pointer (some ⟨G.length+1,5,none⟩)]])=G++[Vc [Vp B],Vc [Vi d,Vi i,Vi m,.int .u8 0,Vi o,Vi q],Vc [Vi g],Vc [Vp (G.length+1),.pointer (some ⟨G.length+1,1,none⟩),.pointer (some ⟨G.length+1,2,none⟩),Vp (G.length+2),.pointer (some ⟨G.length+1,4,none⟩),.pointer (some ⟨G.length+1,5,none⟩)]]:=by
   simp [ME,wr1,NK,VQ,cellsOf]
  rw [hw]
  have M:=fun X=>(QL.refl.app (X:=X)).cells h.b
  have P:∀X,NF (G++X) s.X=.map (QK kI UK s.xs):=fun X=>by rw [NZ (h.lt (r:=.x) rfl).2];exact h.x
  have N:∀n,Sb (.int .i64) (Vi n)=true:=fun n=>Ww
  by_cases u:g<1
  ·simp only [n105,Nfi,u,SB,seval,NC,NH,NG,NQ,reduceCtorEq,ND,place,NA,NE]
   exact y ⟨d,i,m,g,o,q⟩ 2 _ v (by simp [Rv,u]) (by decide) Chg.refl.app
  by_cases w:4<g
  ·simp only [n105,Nfi,u,w,SB,seval,NC,NH,NG,NQ,reduceCtorEq,ND,place,NA,NE]
   exact y ⟨d,i,m,g,o,q⟩ 2 _ v (by simp [Rv,w]) (by decide) Chg.refl.app
  have F:IntKind.u8.wrap g=g:=by
   simp only [IntKind.wrap,IntKind.bits,IntKind.signed]
   simp;omega
  have D:∀(X:NB) (mp:Bool) (lim k c:Nat) (Q:Value->NB->Prop),NF (G++X) k=Vc [Vi d,Vi i,Vi m,.int .u8 g,Vi o,Vi q]->NP E mp lim 131 [.slice (Sa k) 1 c] (G++X) Q=Q (.bool (Nd3 ⟨d,i,m,g,o,q⟩)) (G++X):=fun X mp lim k c Q Y=>Nw0 Y
  have K:Nd3 ⟨d,i,m,g,o,q⟩=(SK d&&SK i&&SK m&&Yf o&&Yf q):=by
   unfold Nd3
   rw [Oe (show 1<=g by omega),Oe (show g<=4 by omega)]
   simp
  cases ho:Nd3 ⟨d,i,m,g,o,q⟩
  ·simp only [n105,Nfi,u,w,F,z,D,ho,SB,seval,NC,NH,NG,NQ,reduceCtorEq,ND,place,NA,NE]
   exact y ⟨d,i,m,g,o,q⟩ 2 _ v (by
    rw [K] at ho
    unfold Rv
    simp only
    rw [Ni (by omega),Nk]
    revert ho
    cases SK d<;>cases SK i<;>cases SK m<;>cases Yf o<;>cases Yf q<;>simp) (by decide) Chg.refl.app
  have A:¬(SK d=false\/SK i=false\/SK m=false\/Yf o=false\/Yf q=false):=by
   rw [K] at ho
   revert ho
   cases SK d<;>cases SK i<;>cases SK m<;>cases Yf o<;>cases Yf q<;>simp
  cases L:PE d s.xs with
  | none=>
    have C:findKey (Vi d) (QK kI UK s.xs) 0=some none:=by rw [lkX,Wy L];rfl
    simp only [n105,Nfi,u,w,F,z,D,ho,M,P,N,C,NS,SB,seval,NC,NH,NG,NQ,reduceCtorEq,ND,place,NA,NE]
    have H:PE d s.st.xs=none:=L
    exact y ⟨d,i,m,g,o,q⟩ 6 _ v (by unfold Rv;simp only;rw [Ni (by omega),Ni A,H];rfl) (by decide) Chg.refl.app
  | some x=>
    obtain ⟨j,U⟩:=Wx L 0
    have C:findKey (Vi d) (QK kI UK s.xs) 0=some (some (j,UK x)):=by rw [lkX,U];rfl
    have H:PE d s.st.xs=some x:=L
    by_cases hm:2000<=s.sc.length
    ·have O:(2000:Int)<=(s.sc.length:Int):=by omega
     simp only [n105,Nfi,u,w,F,z,D,ho,M,P,N,C,NS,UK,O,SB,seval,NC,NH,NG,NQ,reduceCtorEq,ND,place,NA,NE]
     exact y ⟨d,i,m,g,o,q⟩ 5 _ v (by unfold Rv;simp only;rw [Ni (by omega),Ni A,H];simp [SU.st,hm]) (by decide) Chg.refl.app
    ·have O:¬(2000:Int)<=(s.sc.length:Int):=by omega
     simp only [n105,Nfi,u,w,F,z,D,ho,M,P,N,C,NS,UK,O,SB,seval,NC,NH,NG,NQ,reduceCtorEq,ND,place,NA,NE]
     exact S ⟨d,i,m,g,o,q⟩ _ v (by unfold Rv;simp only;rw [Ni (by omega),Ni A,H];simp [SU.st];omega) Chg.refl.app (by rw [NU];rfl) (by rw [NK];rfl)
end
section
variable {lim l0 B:Nat} {jv:Value} {s:SU} {G:NB} {Q:Value->NB->Prop}
theorem Ntf [OA] {p:Option Addr} {k:Nat} {l:List ByteArray} (h:KB l0 B jv s G) (hl:lim<=l0) (ac:l0<=G.length) (hs:Sl G SE 1 p l) (P:Uo 1 k l.length) (aa:∀a,p=some a->a.block<G.length) (hz:∀t∈l,t.size<=281474976710656) (hn:l.length<2 ^ 40)
  (L:(∀a b,l=[a,b]->Ry a=none)->∀G',Chg [] G G'->Q (.tuple #[.nilFunc,Vi 432]) G')
  (A:∀a b id e G',l=[a,b]->Ry a=some id->Rv s.st (.join id b)=e->e≠0->Chg [] G G'->Q (.tuple #[.nilFunc,Vi e]) G')
  (Z:∀a b id G',l=[a,b]->Ry a=some id->Rv s.st (.join id b)=0->Chg [] G G'->NF G' (G.length+3)=Vc [.string b]->NF G' G.length=Vc [Vp B]->NF G' (G.length+1)=Vc [Vi id]->
   Q (.tuple #[.func (.func 145) #[] #[Vp (G.length+3),Vp G.length,Vp (G.length+1)],Vi 0]) G') :
  NP E false lim 102 [Vp B,.slice p l.length k] G Q:=by
 refine runs (by decide) Nzo rfl ?_
 rw [N0i,Nwp]
 have u:lim<=G.length:=by omega
 by_cases h2:l.length=2
 case neg=>
  have Y:¬((l.length:Int)=2):=by omega
  simp only [n102,Ndx,u,Y,SB,seval,NC,NH,NG,NQ,reduceCtorEq,ND,place,NA,NE]
  exact L (fun a b e=>by rw [e] at h2;exact absurd rfl h2) _ Chg.refl.app
 obtain ⟨a,b,rfl⟩:∃a b,l=[a,b]:=by
  match l,h2 with
  | [a,b],_=>exact ⟨a,b,rfl⟩
 obtain ⟨q,cq,z,W,_,V,_⟩:=T9 (vlo:=none) (vhi:=some (Vi 1)) (lo:=0) (hi:=1) hs P Rm (fun cap hc=>by rw [Nep (by decide) (by have:2<=cap:=hc;omega)];rfl) (N5 _) (by show 1<=2;decide) (by show 2<2 ^ 63;decide)
 have z:WJ 1 (.slice p 2 k) none (some (Vi 1)) none=some (.slice q 1 cq):=z
 simp only [n102,Ndx,u,z,SB,seval,NC,NH,NG,NQ,reduceCtorEq,ND,place,NA,NE]
 refine YA (l:=[a]) (ps:=[⟨G.length+1,0,none⟩]) (W.app _) (Sl.row VH (ro:=false) (by simp [NK,Nej])) (fun t ht=>hz t (by rw [Ng.1 ht];simp)) ?_ ?_ ?_ (by show (1:Nat)<2 ^ 62;decide) (by show (1:Nat)<2 ^ 62;decide) (fun hf G' hc R=>?_) fun ns T R=>?_
 ·intro x U
  obtain rfl:=Ng.1 U
  exact ⟨by show lim<=G.length+1;omega,rfl,_,by rw [NK];rfl,by show 0<1;decide⟩
 ·intro x U y hy
  obtain rfl:=Ng.1 U
  obtain ⟨y',ab,e⟩:=V y hy
  have:=aa y' ab
  show y.block≠G.length+1;omega
 ·intro x U y hy
  obtain rfl:=Ng.1 U
  cases hy
  show G.length+2≠G.length+1;omega
 ·refine NI ?_
  simp only [n102,Ndx,SB,seval,NC,NH,NG,NQ,reduceCtorEq,ND,place,NA,NE]
  rw [Nb]
  refine L (fun x y e=>?_) G' (hc.pre.mono fun j hj hA=>?_)
  ·cases e
   rcases hf with q | ⟨t,ht,hq⟩
   ·exact absurd rfl q
   ·rw [Ng.1 ht] at hq;exact hq
  ·simp at hA;omega
 ·obtain ⟨id,rfl⟩:∃id,ns=[id]:=by
   have:ns.length=1:=by rw [<-Nz (f:=some),<-T];rfl
   match ns,this with
   | [a1],_=>exact ⟨a1,rfl⟩
  have w:Ry a=some id:=by simpa using T
  have hw:ME [⟨G.length+1,0,none⟩] [id] (G++[Vc [Vp B],Vc [Vi 0],Vc [Vp (G.length+1)]])=G++[Vc [Vp B],Vc [Vi id],Vc [Vp (G.length+1)]]:=by
   simp [ME,wr1,NK,VQ,cellsOf]
  rw [hw]
  have H:=fun X=>(QL.refl.app (X:=X)).cells h.b
  have K:∀X,NF (G++X) s.M=.map (QK kI Tj s.ms):=fun X=>by rw [NZ (h.lt (r:=.m) rfl).2];exact h.m
  have I:∀n,Sb (.int .i64) (Vi n)=true:=fun n=>Ww
  have v:=fun X=>(hs.app X).loadCell0 Rm (i:=1) (by show 1<2;decide) (by decide)
  have F:=fun c (kk:IntKind) (H1:NB)=>hs.idx (c:=c) (k:=kk) (H1:=H1) (i:=1) (by show 1<2;decide)
  have e1:gt [a,b] 1=b:=rfl
  simp only [e1,Nm,Nn,Nr,Nat.reduceAdd] at v F
  have d:∀c (kk:IntKind) (H1:NB),X9 1 (.slice p 2 c) (.int kk 1) H1=some (.pointer (some (WA p 1 1)),H1):=F
  cases hi:SK id
  ·simp only [n102,Ndx,d,v,Tx,u,Re,hi,SB,seval,NC,NH,NG,NQ,reduceCtorEq,ND,place,NA,NE]
   exact A a b id 2 _ rfl w (by simp [Rv,hi]) (by decide) Chg.refl.app
  by_cases N:b.size<1
  ·have g:(b.size:Int)<1:=by omega
   simp only [n102,Ndx,d,v,Tx,u,Re,hi,g,SB,seval,NC,NH,NG,NQ,reduceCtorEq,ND,place,NA,NE]
   exact A a b id 2 _ rfl w (by unfold Rv;simp only;rw [Nk (.inr (.inl N))]) (by decide) Chg.refl.app
  have g:¬(b.size:Int)<1:=by omega
  by_cases O:40<b.size
  ·have o:(40:Int)<b.size:=by omega
   simp only [n102,Ndx,d,v,Tx,u,Re,hi,g,o,SB,seval,NC,NH,NG,NQ,reduceCtorEq,ND,place,NA,NE]
   exact A a b id 2 _ rfl w (by simp [Rv,O]) (by decide) Chg.refl.app
  have o:¬(40:Int)<b.size:=by omega
  have C:¬(SK id=false\/b.size<1\/40<b.size):=by
   rintro (q | q | q)
   ·rw [hi] at q;cases q
   ·exact N q
   ·exact O q
  cases hg:PE id s.ms with
  | some m=>
    obtain ⟨j,hj⟩:=Wx hg 0
    have D:findKey (Vi id) (QK kI Tj s.ms) 0=some (some (j,Tj m)):=by rw [lkM,hj];rfl
    simp only [n102,Ndx,d,v,Tx,u,Re,hi,g,o,H,K,I,D,NS,Tj,SB,seval,NC,NH,NG,NQ,reduceCtorEq,ND,place,NA,NE]
    exact A a b id 430 _ rfl w (by unfold Rv;simp only;rw [Ni C,RH,hg];rfl) (by decide) Chg.refl.app
  | none=>
    have D:findKey (Vi id) (QK kI Tj s.ms) 0=some none:=by rw [lkM,Wy hg];rfl
    have S:s.st.ms.length=s.ms.length:=by simp [SU.st]
    by_cases hm:200<=s.ms.length
    ·have J:(200:Int)<=(s.ms.length:Int):=by omega
     simp only [n102,Ndx,d,v,Tx,u,Re,hi,g,o,H,K,I,D,NS,YV,J,SB,seval,NC,NH,NG,NQ,reduceCtorEq,ND,place,NA,NE]
     exact A a b id 5 _ rfl w (by unfold Rv;simp only;rw [Ni C,RH,hg,S,Nk hm];rfl) (by decide) Chg.refl.app
    ·have J:¬(200:Int)<=(s.ms.length:Int):=by omega
     simp only [n102,Ndx,d,v,Tx,u,Re,hi,g,o,H,K,I,D,NS,YV,J,SB,seval,NC,NH,NG,NQ,reduceCtorEq,ND,place,NA,NE]
     exact Z a b id _ rfl w (by unfold Rv;simp only;rw [Ni C,RH,hg,S,Ni hm];rfl) Chg.refl.app (by rw [NK];rfl) (by rw [NU];rfl) (by rw [NK];rfl)
end
section
variable {mp:Bool} {lim:Nat} {H:NB} {Q:Value->NB->Prop}
def fnV (g:FuncId):Value:=.func (.func g) #[] #[]
def Ua:List (Value×Value):=[(.string SV,fnV 102),(.string TK,fnV 103),(.string SH,fnV 104),(.string Tm,fnV 105),(.string Rb,fnV 106)]
theorem Nan {a b:ByteArray}:Sq (.string a) (.string b)=some (decide (a=b)):=by
 simp only [Sq,Option.some.injEq]
 rw [Q1,decide_eq_true_iff]
 cases a with | mk a=>cases b with | mk b=>
 show ByteArray.beq ⟨a⟩ ⟨b⟩=true↔_
 unfold ByteArray.beq
 simp
theorem rows_ok [OA] (hl:lim<=H.length):NP E false lim 54 [] H Q=Q (.map (some H.length)) (H++[.map Ua]):=by
 rw [X6 (E:=E) (by simp [E,orc,effP]) (show E.tr 54=some a54 from e54) rfl rfl,b54,c54,<-Nb H]
 have b:Sq (.string ⟨#[112,97,121]⟩) (.string ⟨#[106,111,105,110]⟩)=some false:=by rw [Nan];decide
 have c:Sq (.string ⟨#[112,111,115,116]⟩) (.string ⟨#[106,111,105,110]⟩)=some false:=by rw [Nan];decide
 have d:Sq (.string ⟨#[112,111,115,116]⟩) (.string ⟨#[112,97,121]⟩)=some false:=by rw [Nan];decide
 have e:Sq (.string ⟨#[115,99,97,110]⟩) (.string ⟨#[106,111,105,110]⟩)=some false:=by rw [Nan];decide
 have f:Sq (.string ⟨#[115,99,97,110]⟩) (.string ⟨#[112,97,121]⟩)=some false:=by rw [Nan];decide
 have g:Sq (.string ⟨#[115,99,97,110]⟩) (.string ⟨#[112,111,115,116]⟩)=some false:=by rw [Nan];decide
 have h:Sq (.string ⟨#[114,101,102,117,110,100]⟩) (.string ⟨#[106,111,105,110]⟩)=some false:=by rw [Nan];decide
 have i:Sq (.string ⟨#[114,101,102,117,110,100]⟩) (.string ⟨#[112,97,121]⟩)=some false:=by rw [Nan];decide
 have j:Sq (.string ⟨#[114,101,102,117,110,100]⟩) (.string ⟨#[112,111,115,116]⟩)=some false:=by rw [Nan];decide
 have a:Sq (.string ⟨#[114,101,102,117,110,100]⟩) (.string ⟨#[115,99,97,110]⟩)=some false:=by rw [Nan];decide
 simp only [n54,r54,Nc1,findKey,b,c,d,e,f,g,h,i,j,a,hl,SB,seval,NC,NH,NG,NQ,reduceCtorEq,ND,place,NA,NE]
 rfl
theorem Xw {w:ByteArray}:findKey (.string w) Ua 0=if w=SV then some (some (0,fnV 102)) else if w=TK then some (some (1,fnV 103)) else if w=SH then some (some (2,fnV 104)) else if w=Tm then some (some (3,fnV 105)) else if w=Rb then some (some (4,fnV 106)) else some none:=by
 unfold Ua
 simp only [findKey,Nan]
 by_cases h1:w=SV
 ·rw [Nk h1];simp only [Oe h1]
 by_cases h2:w=TK
 ·rw [Ni h1];rw [Nk h2];simp only [Oc h1,Oe h2]
 by_cases a:w=SH
 ·rw [Ni h1];rw [Ni h2];rw [Nk a];simp only [Oc h1,Oc h2,Oe a]
 by_cases b:w=Tm
 ·rw [Ni h1];rw [Ni h2];rw [Ni a];rw [Nk b];simp only [Oc h1,Oc h2,Oc a,Oe b]
 by_cases c:w=Rb
 ·rw [Ni h1];rw [Ni h2];rw [Ni a];rw [Ni b];rw [Nk c];simp only [Oc h1,Oc h2,Oc a,Oc b,Oe c]
 rw [Ni h1];rw [Ni h2];rw [Ni a];rw [Ni b];rw [Ni c];simp only [Oc h1,Oc h2,Oc a,Oc b,Oc c]
theorem Nc8 [OA] {a:Addr} {c:Nat} {l:List ByteArray} (f:Sl H SE 1 (some a) l) (hn:l≠[]) (hb:l.length<2 ^ 40) (e:Q (.slice (Sa (H.length+1)) l.length (loose 1)) (H++[Vc [],Vc (l.flatMap SE)])) :
  NP E false lim 55 [.slice (some a) l.length c] H Q:=by
 refine runs (by decide) e55 rfl ?_
 rw [b55,c55]
 have d:=V4 (lim:=lim) (b:=H.length) (bytes:=16) (c:=c) (H:=H++[Vc []]) (by rw [NU];rfl) (f.app _) (by decide) (by unfold PS;omega) (by omega) hn
 simp only [Nj,Nm,Nn,Nr,Nl,N1,N6] at d
 simp only [n55,r55,VM,d,SB,seval,NC,NH,NG,NQ,reduceCtorEq,ND,place,NA,NE]
 exact e
end
structure Wf (n:Nat) (u:BU):Prop where
 calls:u.calls.length<=n
 ents:∀id m,PE id u.ms=some m->m.ents.length<=n/\m.its.length<=n/\0<=Rn m.ents/\Rn m.ents<=1000000000000
 frm:∀id x,PE id u.xs=some x->∃m,PE x.from' u.ms=some m
 sc:u.sc.length<=2000
theorem Ve {l:List Ent} {e:Ent}:Rn (l++[e])=e.bal:=by simp [Rn]
def Nck (n:Nat) (ms:List (Int×ML)):Prop:=∀id m,PE id ms=some m->m.ents.length<=n/\m.its.length<=n/\0<=Rn m.ents/\Rn m.ents<=1000000000000
theorem Nck.put {n:Nat} {ms:List (Int×ML)} {id:Int} {m:ML} (h:Nck n ms) (b:m.ents.length<=n/\m.its.length<=n/\0<=Rn m.ents/\Rn m.ents<=1000000000000):Nck n (Rx id m ms):=fun i x a=>by
 rw [Te] at a
 by_cases q:i=id
 ·rw [Nk q] at a;cases a;exact b
 ·rw [Ni q] at a;exact h i x a
theorem Nck.le {n k:Nat} {ms:List (Int×ML)} (h:Nck n ms) (b:n<=k):Nck k ms:=fun i x a=>by
 have:=h i x a
 exact ⟨by omega,by omega,this.2.2⟩
theorem WP {κ ν:Type} [DecidableEq κ] {k k':κ} {v:ν} {l:List (κ×ν)} (h:∃m,PE k' l=some m):∃m,PE k' (Rx k v l)=some m:=by
 rw [Te]
 by_cases q:k'=k
 ·rw [Nk q];exact ⟨_,rfl⟩
 ·rw [Ni q];exact h
theorem Wf.step {n:Nat} {u:BU} {c:Cl} (h:Wf n u) (he:Rv u c=0):Wf (n+1) (Vn u c):=by
 have a:Nck (n+1) u.ms:=(show Nck n u.ms from h.ents).le (by omega)
 cases c with
 | join id name=>
   exact ⟨by have:=h.calls;show u.calls.length<=_;omega,a.put ⟨by simp,by simp,by simp [Rn],by simp [Rn]⟩,fun i x b=>WP (h.frm i x b),h.sc⟩
 | pay id c=>
   unfold Rv at he
   simp only at he
   split at he
   ·cases he
   rename_i h1
   cases hg:PE id u.ms with
   | none=>rw [hg] at he;cases he
   | some m=>
     rw [hg] at he
     simp only at he
     have hc:WZ c=true:=by cases q:WZ c<;>simp_all
     have g:1<=c/\c<=1000000000:=O8 hc
     have hb:¬1000000000000<Rn m.ents+c:=by
      intro q;rw [Nk q] at he;cases he
     have j:=h.ents id m hg
     unfold Vn Wh
     simp only [hg,Oj]
     exact ⟨by have:=h.calls;show u.calls.length<=_;omega,a.put ⟨by show (m.ents++_).length<=_;simp;omega,by show m.its.length<=_;omega,by show 0<=Rn (m.ents++_);rw [Ve];show 0<=Rn m.ents+c;omega,by show Rn (m.ents++_)<=_;rw [Ve];show Rn m.ents+c<=_;omega⟩,fun i x b=>WP (h.frm i x b),h.sc⟩
 | post id f p c=>
   unfold Rv at he
   simp only at he
   split at he
   ·cases he
   rename_i h1
   split at he
   ·cases he
   cases hg:PE f u.ms with
   | none=>rw [hg] at he;cases he
   | some m=>
     rw [hg] at he
     simp only at he
     have hc:WZ c=true:=by cases q:WZ c<;>simp_all
     have g:1<=c/\c<=1000000000:=O8 hc
     have hb:¬Rn m.ents<c:=by
      intro q;rw [Nk q] at he;cases he
     have j:=h.ents f m hg
     unfold Vn Wh
     simp only [hg,Oj,Te,if_true]
     have h2:Nck (n+1) (Rx f { m with its:=m.its++[id] } u.ms):=a.put ⟨by show m.ents.length<=_;omega,by show (m.its++_).length<=_;simp;omega,j.2.2⟩
     refine ⟨by have:=h.calls;show u.calls.length<=_;omega,h2.put ⟨by show (m.ents++_).length<=_;simp;omega,by show (m.its++_).length<=_;simp;omega,by show 0<=Rn (m.ents++_);rw [Ve];show 0<=Rn m.ents+-c;omega,by show Rn (m.ents++_)<=_;rw [Ve];show Rn m.ents+-c<=_;omega⟩,fun i x b=>WP (WP ?_),h.sc⟩
     have b:PE i (Rx id ⟨f,p,false⟩ u.xs)=some x:=b
     rw [Te] at b
     by_cases q:i=id
     ·rw [Nk q] at b;cases b;exact ⟨m,hg⟩
     ·rw [Ni q] at b;exact h.frm i x b
 | scan x=>
   unfold Rv at he
   simp only at he
   split at he
   ·cases he
   split at he
   ·cases he
   split at he
   ·cases he
   split at he
   ·cases he
   rename_i k
   exact ⟨by have:=h.calls;show u.calls.length<=_;omega,a,h.frm,by show (u.sc++[x]).length<=2000;simp;omega⟩
 | refund id c=>
   unfold Rv at he
   simp only at he
   split at he
   ·cases he
   rename_i h1
   cases hg:PE id u.xs with
   | none=>rw [hg] at he;cases he
   | some x=>
     rw [hg] at he
     simp only at he
     split at he
     ·cases he
     obtain ⟨m,d⟩:=h.frm id x hg
     rw [d] at he
     simp only [Oj] at he
     have hc:WZ c=true:=by cases q:WZ c<;>simp_all
     have g:1<=c/\c<=1000000000:=O8 hc
     have hb:¬1000000000000<Rn m.ents+c:=by
      intro q;rw [Nk q] at he;cases he
     have j:=h.ents _ m d
     unfold Vn Wh
     simp only [hg,Oj,d]
     refine ⟨by have:=h.calls;show u.calls.length<=_;omega,a.put ⟨by show (m.ents++_).length<=_;simp;omega,by show m.its.length<=_;omega,by show 0<=Rn (m.ents++_);rw [Ve];show 0<=Rn m.ents+c;omega,by show Rn (m.ents++_)<=_;rw [Ve];show Rn m.ents+c<=_;omega⟩,fun i y e=>WP ?_,h.sc⟩
     have e:PE i (Rx id { x with refd:=true } u.xs)=some y:=e
     rw [Te] at e
     by_cases q:i=id
     ·rw [Nk q] at e;cases e;exact ⟨m,d⟩
     ·rw [Ni q] at e;exact h.frm i y e
section
variable {lim l0 B:Nat} {jv:Value} {s:SU} {G:NB} {Q:Value->NB->Prop}
structure Aft (l0 B:Nat) (jv:Value) (s:SU) (G:NB) (u:BU) (s':SU) (G':NB):Prop where
 kb:KB l0 B jv s' G'
 st:s'.st=u
 ptr:∀r j,s'.ptr B r=some j->s.ptr B r=some j\/G.length<=j
 calls:∀x∈s'.calls,x∈s.calls\/∀a,x.p=some a->G.length<=a.block
 chg:∃A,(∀j∈A,∃r,s.ptr B r=some j)/\Chg A G G'
def R18:ACode:=Vf (Vf (Vf (Vf (Vf (Vf c18)))))
theorem XE [OA] {fr:Nat->Value} {H:NB} {e:Int} (he:e≠0) (b:Q (Vi e) H) :
  QZ E a18 lim [.ops none [mT 26 31,Et 32 0 26,Et 33 1 26,mT 7 32,mT 8 33],.code R18] (upd fr 31 (.tuple #[.nilFunc,Vi e])) H Q:=by
 simp only [R18,c18,Vf]
 have a:¬(e=0):=he
 simp only [n18,r18,a,SB,seval,NC,NH,NG,NQ,reduceCtorEq,ND,place,NA,NE]
 exact b
def D18:ACode:=Vf (Vf (Vf R18))
theorem Nuk [OA] {fr:Nat->Value} {s1:SU} {G1:NB} {p:Option Addr} {c:List ByteArray} {k:Nat} (z:fr 0=Vp B) (A:fr 1=.slice p c.length k) (hl:lim<=l0)
  (u:c≠[]) (hc:c.length<2 ^ 30) (l:KB l0 B jv s1 G1) (v:Sl G1 SE 1 p c) (L:s1.calls.length<2 ^ 30) (F:l0<=G1.length)
  (K:∀s' G',Aft l0 B jv s1 G1 { s1.st with calls:=s1.st.calls++[c] } s' G'->Q (Vi 0) G') :
  QZ E a18 lim [.ops none [],.code D18] fr (G1++[]) Q:=by
 simp only [D18,R18,c18,Vf]
 have g:=fun X=>(QL.refl.app (X:=X)).cells l.b
 obtain ⟨a,rfl⟩:=v.some u
 simp only [n18,r18,z,A,g,SB,seval,NC,NH,NG,NQ,reduceCtorEq,ND,place,NA,NE]
 refine Nc8 (v.app _) u (by omega) ?_
 have y:lim<=B:=by have:=l.lB;omega
 obtain ⟨h,s,o,t⟩:=Own.moreE l.oc (lim':=lim) (bytes:=24) hl Na2 (by decide) [⟨c,Sa (G1.length+3),loose 1⟩] (by simp) (by simp;unfold PS;omega) (by simp;omega) [Vc [.slice (Sa (G1.length+3)) c.length (loose 1)],.dead,Vc [],Vc (c.flatMap SE)] 1 (x:=.slice (Sa G1.length) 1 1) (str:=false) (by simp [firstCells,NW,NU,Njh]) rfl
 simp only [Qk,P6,Pw] at s
 have n:∀j∈Ze s1.cp,s1.ptr B .c=some j:=fun j d=>by simp only [SU.ptr];revert d;cases s1.cp<;>simp [Ze,bk];intro e;exact e.symm
 have J:=fun X=>(QL.refl.app (X:=X)).cells (o.cells l.b fun d=>absurd (l.inj .c .b _ (n _ d) rfl) (by simp))
 obtain ⟨P,G,S,T⟩:=Zx t
 have m:B<h.length:=by rw [t];exact (l.lt (r:=.b) rfl).2
 have f:∀(X:NB) (b:Blk),(h++X).set B b=h.set B b++X:=fun X b=>O3 _ _ m
 have fin:∀(X:NB),X.getD 1 .dead=Vc (List.flatMap Njh (s1.calls++[(⟨c,Sa (G1.length+3),loose 1⟩:PC)]))->X.getD 3 .dead=Vc (c.flatMap SE)->Q (Vi 0) (h.set B (Vc [jv,.slice (Sa (G1.length+1)) (s1.calls.length+1) (loose 1),.map (some s1.M),.map (some s1.X),.slice s1.sp s1.sc.length s1.sk])++X):=fun X H w=>by
  have hc:∀b:Blk,Chg (B::Ze s1.cp) G1 (h.set B b++X):=fun b=>((o.mono fun j _ d=>by simp [d]).set (.inl (by simp))).app
  have D:∀(b:Blk) (i:Nat),NF (h.set B b++X) (G1.length+i)=X.getD i .dead:=fun b i=>by
   rw [<-f,Q9 (by omega),G]
  have C:NF (h.set B (Vc [jv,.slice (Sa (G1.length+1)) (s1.calls.length+1) (loose 1),.map (some s1.M),.map (some s1.X),.slice s1.sp s1.sc.length s1.sk])++X) (G1.length+3)=Vc (c.flatMap SE):=by rw [D,w]
  obtain ⟨N,O⟩:=l.putC (x:=⟨c,Sa (G1.length+3),loose 1⟩) (cp:=Sa (G1.length+1)) (cc:=loose 1) (hc _) (fun j d=>(Nh.1 d).imp (fun q=>q) (n j)) (by rw [NZ (by simpa using m),Rf m,Nj];rfl) (Own.new (R:=G1.length+1) (by rw [D,H]) (by omega)) (fun j d=>by simp only [bk,Ns,Option.some.injEq] at d;omega) (Sl.row Rm (ro:=false) C) (fun x hx=>by
   cases hx
   exact ⟨by show G1.length<=G1.length+3;omega,NJ C,fun j d=>by simp only [bk,Ns,Option.some.injEq] at d;show G1.length+3≠j;omega⟩)
  refine K _ _ ⟨N, ?_,O,fun x hx=>?_,B::Ze s1.cp,fun j d=>?_,hc _⟩
  ·simp [SU.st]
  ·rcases Ob.1 hx with hx | hx
   ·exact .inl hx
   ·rw [Ng.1 hx]
    exact .inr fun a I=>by cases I;show G1.length<=G1.length+3;omega
  ·rcases Nh.1 d with q | q
   ·exact ⟨.b,by rw [q];rfl⟩
   ·exact ⟨.c,n j q⟩
 simp only [n18,r18,z,A,g,s,J,P,G,S,T,f,y,SB,seval,NC,NH,NG,NQ,reduceCtorEq,ND,place,NA,NE]
 exact fin _ rfl rfl
theorem Nwy [OA] {fr:Nat->Value} {H:NB} {g:FuncId} {cs:Array Value} {p:Option Addr} {c:List ByteArray} {k:Nat} {s t u v:Value} {P:SU->NB->Prop} (i:fr 0=Vp B) (j:fr 1=.slice p c.length k) (hl:lim<=l0)
  (l:NF H B=Vc [.pointer none,s,t,u,v]) (e:c≠[]) (hc:c.length<2 ^ 30)
  (b:∀h:Value->NB->Prop,(∀s1 G1,KB l0 B (.pointer none) s1 G1->Sl G1 SE 1 p c->s1.calls.length<2 ^ 30->l0<=G1.length->P s1 G1->h (.tuple #[]) G1)->NP E false lim g cs.toList H h)
  (r:∀s1 G1 s' G',P s1 G1->Aft l0 B (.pointer none) s1 G1 { s1.st with calls:=s1.st.calls++[c] } s' G'->Q (Vi 0) G') :
  QZ E a18 lim [.ops none [mT 26 31,Et 32 0 26,Et 33 1 26,mT 7 32,mT 8 33],.code R18] (upd fr 31 (.tuple #[.func (.func g) #[] cs,Vi 0])) H Q:=by
 simp only [R18,c18,Vf]
 have o:=fun X=>(QL.refl.app (X:=X)).cells l
 simp only [n18,r18,i,j,l,VM,Nb,SB,seval,NC,NH,NG,NQ,reduceCtorEq,ND,place,NA,NE]
 refine b _ fun s1 G1 m f d a q=>?_
 refine NI ?_
 exact Nuk (fr:=upd _ _ _) i j hl e hc m f d a fun s' G' n=>r s1 G1 s' G' q n
structure Mid (l0 B:Nat) (jv:Value) (s:SU) (g h:Nat) (H':NB) (p:Option Addr) (c:List ByteArray) (u:BU) (s1:SU) (G1:NB):Prop where
 kb:KB l0 B jv s1 G1
 arg:Sl G1 SE 1 p c
 len:s1.calls.length<2 ^ 30
 big:l0<=G1.length
 st:s1.st=u
 ptr:∀r j,s1.ptr B r=some j->s.ptr B r=some j\/H'.length<=j
 calls:s1.calls=s.calls
 chg:∃A,(∀j∈A,(∃r,s.ptr B r=some j)\/g<=j/\j<h)/\Chg A H' G1
def Nwu [OA] (lim l0 B:Nat) (jv:Value) (s:SU) (G:NB) (A:List Nat) (p:Option Addr) (c:List ByteArray) (k:Nat) (Q:Value->NB->Prop) (u:BU):Prop:=
 ∀(fr:Nat->Value) (H:NB) (g:FuncId) (cs:Array Value),fr 0=Vp B->fr 1=.slice p c.length k->Chg [] G H->
  (∀H',Chg A H H'->∀a:Value->NB->Prop,(∀s1 G1,Mid l0 B jv s G.length H.length H' p c u s1 G1->a (.tuple #[]) G1)->NP E false lim g cs.toList H' a)->
  QZ E a18 lim [.ops none [mT 26 31,Et 32 0 26,Et 33 1 26,mT 7 32,mT 8 33],.code R18] (upd fr 31 (.tuple #[.func (.func g) #[] cs,Vi 0])) H Q
end
theorem PZ:¬SV=TK:=by decide
theorem PP:¬SV=SH:=by decide
theorem PO:¬SV=Tm:=by decide
theorem OQ:¬SV=Rb:=by decide
theorem PY:¬TK=SV:=by decide
theorem PX:¬TK=SH:=by decide
theorem PW:¬TK=Tm:=by decide
theorem OV:¬TK=Rb:=by decide
theorem PN:¬SH=SV:=by decide
theorem PV:¬SH=TK:=by decide
theorem PL:¬SH=Tm:=by decide
theorem OP:¬SH=Rb:=by decide
theorem PK:¬Tm=SV:=by decide
theorem PU:¬Tm=TK:=by decide
theorem PI:¬Tm=SH:=by decide
theorem OJ:¬Tm=Rb:=by decide
theorem OO:¬Rb=SV:=by decide
theorem OU:¬Rb=TK:=by decide
theorem OM:¬Rb=SH:=by decide
theorem OL:¬Rb=Tm:=by decide
theorem Nff {l:List ByteArray} (h:l.length≠2\/∃t∈l,Ry t=none):Rp (TK::l)=none:=by
 match l,h with
 | [],_=>rfl
 | [a0],_=>rfl
 | [a0,a1],h=>
   rcases h with q | ⟨t,a,q⟩
   ·exact absurd rfl q
   ·simp only [Nh,Np,or_false] at a
    unfold Rp
    simp only [PZ,PP,PO,OQ,PY,PX,PW,OV,PN,PV,PL,OP,PK,PU,PI,OJ,OO,OU,OM,OL,if_false,if_true]
    rcases a with rfl | rfl
    ·simp [q]
    ·split<;>simp_all
 | [a0,a1,a2],_=>rfl
 | [a0,a1,a2,a3],_=>unfold Rp;simp only [PZ,PP,PO,OQ,PY,PX,PW,OV,PN,PV,PL,OP,PK,PU,PI,OJ,OO,OU,OM,OL,if_false]
 | [a0,a1,a2,a3,a4],_=>rfl
 | [a0,a1,a2,a3,a4,a5],_=>unfold Rp;simp only [PZ,PP,PO,OQ,PY,PX,PW,OV,PN,PV,PL,OP,PK,PU,PI,OJ,OO,OU,OM,OL,if_false]
 | a0::a1::a2::a3::a4::a5::a6::r,_=>rfl
theorem ZJ {l:List ByteArray} {x y:Int} (h:l.map Ry=[some x,some y]):Rp (TK::l)=some (.pay x y):=by
 have hl:l.length=2:=by rw [<-Nz (f:=Ry),h];rfl
 match l,hl,h with
 | [a0,a1],_,h=>
   simp only [Of,List.map_nil,List.cons.injEq,and_true] at h
   unfold Rp
   simp only [PZ,PP,PO,OQ,PY,PX,PW,OV,PN,PV,PL,OP,PK,PU,PI,OJ,OO,OU,OM,OL,if_false,if_true,h]
theorem MX {l:List ByteArray} (h:l.length≠2\/∃t∈l,Ry t=none):Rp (Rb::l)=none:=by
 match l,h with
 | [],_=>rfl
 | [a0],_=>rfl
 | [a0,a1],h=>
   rcases h with q | ⟨t,a,q⟩
   ·exact absurd rfl q
   ·simp only [Nh,Np,or_false] at a
    unfold Rp
    simp only [PZ,PP,PO,OQ,PY,PX,PW,OV,PN,PV,PL,OP,PK,PU,PI,OJ,OO,OU,OM,OL,if_false,if_true]
    rcases a with rfl | rfl
    ·simp [q]
    ·split<;>simp_all
 | [a0,a1,a2],_=>rfl
 | [a0,a1,a2,a3],_=>unfold Rp;simp only [PZ,PP,PO,OQ,PY,PX,PW,OV,PN,PV,PL,OP,PK,PU,PI,OJ,OO,OU,OM,OL,if_false]
 | [a0,a1,a2,a3,a4],_=>rfl
 | [a0,a1,a2,a3,a4,a5],_=>unfold Rp;simp only [PZ,PP,PO,OQ,PY,PX,PW,OV,PN,PV,PL,OP,PK,PU,PI,OJ,OO,OU,OM,OL,if_false]
 | a0::a1::a2::a3::a4::a5::a6::r,_=>rfl
theorem WO {l:List ByteArray} {x y:Int} (h:l.map Ry=[some x,some y]):Rp (Rb::l)=some (.refund x y):=by
 have hl:l.length=2:=by rw [<-Nz (f:=Ry),h];rfl
 match l,hl,h with
 | [a0,a1],_,h=>
   simp only [Of,List.map_nil,List.cons.injEq,and_true] at h
   unfold Rp
   simp only [PZ,PP,PO,OQ,PY,PX,PW,OV,PN,PV,PL,OP,PK,PU,PI,OJ,OO,OU,OM,OL,if_false,if_true,h]
theorem Ndu {l:List ByteArray} (h:l.length≠4\/∃t∈l,Ry t=none):Rp (SH::l)=none:=by
 match l,h with
 | [],_=>rfl
 | [a0],_=>rfl
 | [a0,a1],_=>unfold Rp;simp only [PZ,PP,PO,OQ,PY,PX,PW,OV,PN,PV,PL,OP,PK,PU,PI,OJ,OO,OU,OM,OL,if_false]
 | [a0,a1,a2],_=>rfl
 | [a0,a1,a2,a3],h=>
   rcases h with q | ⟨t,a,q⟩
   ·exact absurd rfl q
   ·simp only [Nh,Np,or_false] at a
    unfold Rp
    simp only [PZ,PP,PO,OQ,PY,PX,PW,OV,PN,PV,PL,OP,PK,PU,PI,OJ,OO,OU,OM,OL,if_false,if_true]
    rcases a with rfl | rfl | rfl | rfl
    ·simp [q]
    ·split<;>simp_all
    ·split<;>simp_all
    ·split<;>simp_all
 | [a0,a1,a2,a3,a4],_=>rfl
 | [a0,a1,a2,a3,a4,a5],_=>unfold Rp;simp only [PZ,PP,PO,OQ,PY,PX,PW,OV,PN,PV,PL,OP,PK,PU,PI,OJ,OO,OU,OM,OL,if_false]
 | a0::a1::a2::a3::a4::a5::a6::r,_=>rfl
theorem YC {l:List ByteArray} {x y z u:Int} (h:l.map Ry=[some x,some y,some z,some u]):Rp (SH::l)=some (.post x y z u):=by
 have hl:l.length=4:=by rw [<-Nz (f:=Ry),h];rfl
 match l,hl,h with
 | [a0,a1,a2,a3],_,h=>
   simp only [Of,List.map_nil,List.cons.injEq,and_true] at h
   unfold Rp
   simp only [PZ,PP,PO,OQ,PY,PX,PW,OV,PN,PV,PL,OP,PK,PU,PI,OJ,OO,OU,OM,OL,if_false,if_true,h]
theorem Ndt {l:List ByteArray} (h:l.length≠6\/∃t∈l,Ry t=none):Rp (Tm::l)=none:=by
 match l,h with
 | [],_=>rfl
 | [a0],_=>rfl
 | [a0,a1],_=>unfold Rp;simp only [PZ,PP,PO,OQ,PY,PX,PW,OV,PN,PV,PL,OP,PK,PU,PI,OJ,OO,OU,OM,OL,if_false]
 | [a0,a1,a2],_=>rfl
 | [a0,a1,a2,a3],_=>unfold Rp;simp only [PZ,PP,PO,OQ,PY,PX,PW,OV,PN,PV,PL,OP,PK,PU,PI,OJ,OO,OU,OM,OL,if_false]
 | [a0,a1,a2,a3,a4],_=>rfl
 | [a0,a1,a2,a3,a4,a5],h=>
   rcases h with q | ⟨t,a,q⟩
   ·exact absurd rfl q
   ·simp only [Nh,Np,or_false] at a
    unfold Rp
    simp only [PZ,PP,PO,OQ,PY,PX,PW,OV,PN,PV,PL,OP,PK,PU,PI,OJ,OO,OU,OM,OL,if_false,if_true]
    rcases a with rfl | rfl | rfl | rfl | rfl | rfl
    ·simp [q]
    ·split<;>simp_all
    ·split<;>simp_all
    ·split<;>simp_all
    ·split<;>simp_all
    ·split<;>simp_all
 | a0::a1::a2::a3::a4::a5::a6::r,_=>rfl
theorem YB {l:List ByteArray} {x y z u v w:Int} (h:l.map Ry=[some x,some y,some z,some u,some v,some w]):Rp (Tm::l)=some (.scan ⟨x,y,z,u,v,w⟩):=by
 have hl:l.length=6:=by rw [<-Nz (f:=Ry),h];rfl
 match l,hl,h with
 | [a0,a1,a2,a3,a4,a5],_,h=>
   simp only [Of,List.map_nil,List.cons.injEq,and_true] at h
   unfold Rp
   simp only [PZ,PP,PO,OQ,PY,PX,PW,OV,PN,PV,PL,OP,PK,PU,PI,OJ,OO,OU,OM,OL,if_false,if_true,h]
theorem Ndv {l:List ByteArray} (h:∀a b,l=[a,b]->Ry a=none):Rp (SV::l)=none:=by
 match l,h with
 | [],_=>rfl
 | [a],_=>rfl
 | [a,b],h=>
   unfold Rp
   simp only [if_true,h a b rfl]
   rfl
 | [a,b,c],_=>rfl
 | [a,b,c,d],_=>unfold Rp;simp only [PZ,PP,PO,OQ,PY,PX,PW,OV,PN,PV,PL,OP,PK,PU,PI,OJ,OO,OU,OM,OL,if_false]
 | [a,b,c,d,e],_=>rfl
 | [a,b,c,d,e,f],_=>unfold Rp;simp only [PZ,PP,PO,OQ,PY,PX,PW,OV,PN,PV,PL,OP,PK,PU,PI,OJ,OO,OU,OM,OL,if_false]
 | a::b::c::d::e::f::g::r,_=>rfl
theorem YD {a b:ByteArray} {id:Int} (h:Ry a=some id):Rp [SV,a,b]=some (.join id b):=by
 unfold Rp
 simp only [if_true,h]
 rfl
theorem Npk {w:ByteArray} {l:List ByteArray} (h1:¬w=SV) (h2:¬w=TK) (a:¬w=SH) (b:¬w=Tm) (c:¬w=Rb):Rp (w::l)=none:=by
 unfold Rp
 split
 ·rename_i e;cases e;simp only [h1,h2,c,if_false]
 ·rename_i e;cases e;simp only [a,if_false]
 ·rename_i e;cases e;simp only [b,if_false]
 ·rfl
end Go.Proofs.YtancgcogjokfcaaGreatDoor.Fn


