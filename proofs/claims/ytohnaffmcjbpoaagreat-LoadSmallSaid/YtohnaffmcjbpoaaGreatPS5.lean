/-
  Joined texts, 5 of 10. A part of the claim that the last text states.
-/
import Derived.ProofKit
import Derived.Deep.Slices
import Derived.OpenShut
import Derived.Test.YtohnaffmcjbpoaaGreatPS4
set_option linter.unusedVariables false
set_option linter.unusedSimpArgs false
set_option linter.defProp false
set_option linter.unusedSectionVars false
set_option maxRecDepth 100000
set_option maxHeartbeats 4000000
namespace Go.AM
open Go.ChangeShapes Go.WideShapes Go.ChangeAt Go.RowKit
inductive Ty where
 | int (k:IntKind) | bool | str | slice (t:Ty) | arr (n:Nat) (t:Ty) | nil | pair (a b:Ty)
def Ty.size:Ty->Nat
 | .nil=>0
 | .arr n t=>n*t.size
 | .pair a b=>a.size+b.size
 | _=>1
abbrev Ty.den:Ty->Type
 | .int _=>Int
 | .bool=>Bool
 | .str=>ByteArray
 | .slice t=>List t.den
 | .arr _ t=>List t.den
 | .nil=>Unit
 | .pair a b=>a.den×b.den
def Rep:(t:Ty)->NB->t.den->List Value->Prop
 | .int k,_,n,cs=>cs=[.int k n]/\k.min<=n/\n<=k.max
 | .bool,_,b,cs=>cs=[.bool b]
 | .str,_,s,cs=>cs=[.string s]/\s.size<=maxLen
 | .slice t,H,l,cs=>l.length<=maxLen/\∃p cap,cs=[.slice p l.length cap]/\(p=none->l=[]/\cap=0)/\
   ∀a,p=some a->a.spot=none/\a.off=0/\cap=loose t.size/\(l≠[]->∃es:List (List Value),NC H a.block=.cells true es.flatten/\es.length=l.length/\∀(i:Nat) x e,l[i]? = some x->es[i]? = some e->Rep t H x e)
 | .arr n t,H,l,cs=>∃es:List (List Value),cs=es.flatten/\es.length=n/\l.length=n/\∀(i:Nat) x e,l[i]? = some x->es[i]? = some e->Rep t H x e
 | .nil,_,_,cs=>cs=[]
 | .pair a b,H,x,cs=>∃c d,cs=c++d/\Rep a H x.1 c/\Rep b H x.2 d
theorem Rep.app:∀{t:Ty} {H:NB} {x:t.den} {cs:List Value} (_:Rep t H x cs) (X:NB),Rep t (H++X) x cs
 | .int _,_,_,_,h,_=>h
 | .bool,_,_,_,h,_=>h
 | .str,_,_,_,h,_=>h
 | .nil,_,_,_,h,_=>h
 | .pair a b,_,_,_,⟨c1,c2,e,h1,h2⟩,X=>⟨c1,c2,e,h1.app X,h2.app X⟩
 | .arr n t,H,l,cs,⟨es,e,h1,h2,h3⟩,X=>⟨es,e,h1,h2,fun i x c d hc=>(h3 i x c d hc).app X⟩
 | .slice t,H,l,cs,⟨h0,p,cap,e,h1,h2⟩,X=>by
   refine ⟨h0,p,cap,e,h1,fun a g=>?_⟩
   obtain ⟨k1,k2,k3,j⟩:=h2 a g
   refine ⟨k1,k2,k3,fun hl=>?_⟩
   obtain ⟨es,f,k,m⟩:=j hl
   exact ⟨es,by rw [NK (ND f)];exact f,k,fun i x e d he=>(m i x e d he).app X⟩
theorem Yc {k:Nat}:∀{es:List (List Value)},(∀e∈es,e.length=k)->es.flatten.length=es.length*k
 | [],_=>by simp
 | e::es,h=>by
   rw [List.flatten_cons,Nb,h e (by simp),Yc (fun x a=>h x (by simp [a])),Nj,P7];omega
theorem Rep.len:∀{t:Ty} {H:NB} {x:t.den} {cs:List Value} (_:Rep t H x cs),cs.length=t.size
 | .int _,_,_,_,h=>by rw [h.1];rfl
 | .bool,_,_,_,h=>by simp only [Rep] at h;rw [h];rfl
 | .str,_,_,_,h=>by rw [h.1];rfl
 | .nil,_,_,_,h=>by simp only [Rep] at h;rw [h];rfl
 | .pair a b,_,_,_,⟨c1,c2,e,h1,h2⟩=>by rw [e,Nb,h1.len,h2.len];rfl
 | .slice t,H,l,cs,⟨h0,p,cap,e,h1,h2⟩=>by rw [e];rfl
 | .arr n t,H,l,cs,⟨es,e,h1,h2,h3⟩=>by
   rw [e,Yc (k:=t.size),h1];· rfl
   intro c hc
   obtain ⟨i,hi,rfl⟩:=List.mem_iff_getElem.1 hc
   exact (h3 i _ _ (Np (by omega)) (Np hi)).len
section
variable {w:World} {Pg:Prg} {W:Nat->Prop} {lim:Nat}
def YR (H:NB):Prop:=∀(i:Nat) b,H[i]? = some b->owned b=false
theorem YR.snoc {H:NB} (h:YR H) {b:Blk} (c:owned b=false):YR (H++[b]):=by
 intro i x a
 by_cases hi:i<H.length
 ·rw [Od hi] at a;exact h i x a
 ·rw [Og (by omega)] at a
  have:=(List.getElem?_eq_some_iff.1 a).1
  have e:i-H.length=0:=by simp at this;omega
  rw [e] at a;simp at a;subst a;exact c
def RU (Pg:Prg) (W:Nat->Prop) (lim:Nat) (w:World) (t:Ty) (cs:List Value):Prop:=
 ∀σ H,Inv Pg W lim σ H w->YR H->∃X a as x,Inv Pg W lim a (H++X) w/\YR (H++X)/\PT.le σ a/\OV a as cs/\Rep t (H++X) x as/\∀v∈cs,v.oneCell'=true
theorem RU.atom1 {t:Ty} {v:Value} {x:t.den} (b:atom v=true) (ho:v.oneCell'=true) (hr:∀H,Rep t H x [v]):RU Pg W lim w t [v]:=fun σ H h hn=>
 ⟨[],σ,[v],x,by simpa using h,by simpa using hn,PT.le_refl _,OV.cons (.atom b) OV.nil,hr _,fun u a=>by simp at a;subst a;exact ho⟩
theorem RU.int {k:IntKind} {n:Int} (h:(Lit.int k n).wf=true):RU Pg W lim w (.int k) [.int k n]:=by
 refine RU.atom1 (x:=n) rfl rfl fun H=>⟨rfl, ?_⟩
 simpa [Lit.wf] using h
theorem RU.bool {b:Bool}:RU Pg W lim w .bool [.bool b]:=RU.atom1 (t:=.bool) (x:=b) rfl rfl fun H=>rfl
theorem RU.str {s:ByteArray} (h:s.size<=maxLen):RU Pg W lim w .str [.string s]:=RU.atom1 (t:=.str) (x:=s) rfl rfl fun H=>⟨rfl,h⟩
theorem RU.nil:RU Pg W lim w .nil []:=fun σ H h hn=>⟨[],σ,[],(),by simpa using h,by simpa using hn,PT.le_refl _,OV.nil,rfl,fun u a=>by simp at a⟩
theorem RU.pair {a b:Ty} {e f:List Value} (h1:RU Pg W lim w a e) (h2:RU Pg W lim w b f):RU Pg W lim w (.pair a b) (e++f):=by
 intro σ H h hn
 obtain ⟨X,o,as,x,k1,c,k2,k3,i,j⟩:=h1 σ H h hn
 obtain ⟨Y,p,bs,y,k,d,g,l,m,n⟩:=h2 o _ k1 c
 refine ⟨X++Y,p,as++bs,(x,y),by rw [<-Nr];exact k,by rw [<-Nr];exact d,PT.le_trans k2 g,OV.append (k3.mono g) l,⟨as,bs,rfl, ?_, ?_⟩,fun v hv=>?_⟩
 ·rw [<-Nr];exact i.app Y
 ·rw [<-Nr];exact m
 ·rcases Nw.1 hv with hv | hv
  ·exact j v hv
  ·exact n v hv
def Nby (σ:PT) (n:Nat) (L:Loc):PT:=fun i=>if i=n then some L else σ i
theorem Xa {σ:PT} {n:Nat} {L:Loc}:Nby σ n L n=some L:=Nk rfl
theorem Nbx {σ:PT} {n i:Nat} {L:Loc} (h:i≠n):Nby σ n L i=σ i:=Nf h
theorem Inv.snoc {σ:PT} {H:NB} (h:Inv Pg W lim σ H w) (hn:YR H) (L:Loc) (b:Blk) (g:owned b=false) (hr:UW Pg (Nby σ H.length L) w L b) :
  Inv Pg W lim (Nby σ H.length L) (H++[b]) w/\PT.le σ (Nby σ H.length L):=by
 have c:PT.le σ (Nby σ H.length L):=by
  intro i K hi
  have:=h.lt hi
  rw [Nbx (by omega)];exact hi
 have d:=hn.snoc g
 refine ⟨⟨?_,fun i j bi bj Li Lj hi l k ho=>?_,fun i x K a ho=>?_,h.fresh,fun i hi=>?_⟩,c⟩
 ·intro i x a f
  by_cases hi:i<H.length
  ·rw [Od hi] at a
   obtain ⟨K,h1,h2⟩:=h.blk i x a f
   exact ⟨K,c i K h1,h2.mono c fun _=>rfl⟩
  ·rw [Og (by omega)] at a
   have:=(List.getElem?_eq_some_iff.1 a).1
   have e:i=H.length:=by simp at this;omega
   subst e
   rw [Q2] at a;simp at a;subst a
   exact ⟨L,Xa,hr⟩
 ·rw [d i bi hi] at ho;cases ho
 ·rw [d i x a] at ho;cases ho
 ·simp at hi
  rw [Nbx (by omega)]
  exact h.dom i (by omega)
theorem MX {t:Ty} {n:Nat} {cs:Nat->List Value} (b:∀i,i<n->RU Pg W lim w t (cs i)) {σ:PT} {H:NB} (h:Inv Pg W lim σ H w) (hn:YR H) :
  ∃X d,∃es:List (List Value),∃xs:List t.den,Inv Pg W lim d (H++X) w/\YR (H++X)/\PT.le σ d/\es.length=n/\xs.length=n/\
   ∀(i:Nat) x e,xs[i]? = some x->es[i]? = some e->Rep t (H++X) x e/\OV d e (cs i)/\∀v∈cs i,v.oneCell'=true:=by
 induction n with
 | zero=>exact ⟨[],σ,[],[],by simpa using h,by simpa using hn,PT.le_refl _,rfl,rfl,fun i x e k=>by simp at k⟩
 | succ n ih=>
   obtain ⟨X,s,es,xs,k1,k2,k3,f,g,l⟩:=ih fun i hi=>b i (by omega)
   obtain ⟨Y,u,as,x,m,o,j,p,q,r⟩:=b n (by omega) s _ k1 k2
   refine ⟨X++Y,u,es++[as],xs++[x],by rw [<-Nr];exact m,by rw [<-Nr];exact o,PT.le_trans k3 j,by simp [f],by simp [g],fun i y e a he=>?_⟩
   rw [<-Nr]
   by_cases hi:i<n
   ·rw [Od (by omega)] at a he
    obtain ⟨q1,q2,q3⟩:=l i y e a he
    exact ⟨q1.app Y,q2.mono j,q3⟩
   ·have c:i=n:=by
     have:=(List.getElem?_eq_some_iff.1 a).1
     simp at this;omega
    subst c
    rw [Og (by omega),g] at a
    rw [Og (by omega),f] at he
    simp at a he
    subst a he
    exact ⟨q,p,r⟩
theorem Zh {e:Nat}:∀(es:List (List Value)),(∀x∈es,x.length=e)->∀(j:Nat) v,es.flatten[j]? = some v->∃x,es[j / e]? = some x/\x[j % e]? = some v
 | [],_,j,v,h=>by simp at h
 | x::es,he,j,v,h=>by
   have c:=he x (by simp)
   rw [List.flatten_cons] at h
   by_cases a:j<x.length
   ·rw [Od a] at h
    rw [c] at a
    rw [Nat.div_eq_of_lt a,Qj a]
    exact ⟨x,rfl,h⟩
   ·rw [Og (by omega),c] at h
    rw [c] at a
    obtain ⟨y,h1,h2⟩:=Zh es (fun z d=>he z (by simp [d])) _ _ h
    have b:0<e:=by
     rcases Rq e with h0 | h0
     ·subst h0
      have d:y.length=0:=he y (by have:=Ok h1;simp [this])
      rw [List.length_eq_zero_iff.1 d] at h2;simp at h2
     ·exact h0
    have e1:j / e=(j-e) / e+1:=by rw [<-Nat.add_div_right _ b];congr 1;omega
    have e2:j % e=(j-e) % e:=by rw [Nat.mod_eq_sub_mod (by omega)]
    rw [e1,e2]
    exact ⟨y,by simpa using h1,h2⟩
theorem RU.arr {t:Ty} {n:Nat} {cs:List Value} (hl:cs.length=n*t.size) (m:∀i,i<n->RU Pg W lim w t ((cs.drop (i*t.size)).take t.size)):RU Pg W lim w (.arr n t) cs:=by
 intro σ H h hn
 obtain ⟨X,y,es,xs,k1,k2,k3,q,u,k⟩:=MX (n:=n) (cs:=fun i=>(cs.drop (i*t.size)).take t.size) m h hn
 have f:∀e∈es,e.length=t.size:=by
  intro e he
  obtain ⟨i,hi,rfl⟩:=List.mem_iff_getElem.1 he
  exact (k i _ _ (Np (by omega)) (Np hi)).1.len
 have d:∀(j:Nat) v,cs[j]? = some v->j / t.size<n/\j % t.size<t.size/\((cs.drop (j / t.size*t.size)).take t.size)[j % t.size]? = some v:=by
  intro j v g
  have c:j<n*t.size:=by rw [<-hl];exact (List.getElem?_eq_some_iff.1 g).1
  have b:0<t.size:=by
   rcases Rq t.size with h0 | h0
   ·rw [h0] at c;simp at c
   ·exact h0
  have p:=Re j b
  refine ⟨(Nat.div_lt_iff_lt_mul b).2 c,p, ?_⟩
  rw [Q4,Nk p,Q5,Nat.div_add_mod' j t.size]
  exact g
 refine ⟨X,y,es.flatten,xs,k1,k2,k3,⟨by rw [Yc f,q,hl],fun j a v r o=>?_⟩,⟨es,rfl,q,u,fun i x e s he=>(k i x e s he).1⟩,fun v o=>?_⟩
 ·obtain ⟨h1,h2,l⟩:=d j v o
  obtain ⟨e,e1,e2⟩:=Zh es f j a r
  exact (k _ _ e (Np (by omega)) e1).2.1.2 _ _ _ e2 l
 ·obtain ⟨j,g⟩:=List.mem_iff_getElem?.1 o
  obtain ⟨h1,h2,l⟩:=d j v g
  exact (k (j / t.size) _ _ (Np (by omega)) (Np (by omega))).2.2 v (Ok l)
theorem RU.nilslice {t:Ty}:RU Pg W lim w (.slice t) [.slice none 0 0]:=by
 refine RU.atom1 (t:=.slice t) (x:=([]:List t.den)) rfl rfl fun H=>⟨Nv _,none,0,rfl,fun _=>⟨rfl,rfl⟩,fun a b=>by cases b⟩
theorem RU.slice {t:Ty} {a:Addr} {len cap:Nat} {cs:Nat->List Value} (hl:len<=cap) (hc:cap<=maxLen) (Q:t.size≠0)
  (g:∀i,i<cap->w.cells? 0 (a.add (i*t.size)) t.size=some (cs i)/\RU Pg W lim w t (cs i)):RU Pg W lim w (.slice t) [.slice (some a) len cap]:=by
 intro σ H h hn
 by_cases P:len=0
 ·subst P
  obtain ⟨F,G⟩:=h.snoc hn ⟨a.block,a.off,cap*t.size⟩ .dead rfl trivial
  refine ⟨[.dead],_,[.slice (some ⟨H.length,0,none⟩) 0 (loose t.size)],[],F,hn.snoc rfl,G,OV.cons ?_ OV.nil,⟨Nv _,some ⟨H.length,0,none⟩,loose t.size,rfl,fun h=>(by cases h),fun b B=>?_⟩,fun v p=>by simp at p;subst p;rfl⟩
  ·by_cases z:cap=0
   ·subst z
    exact .eslice Xa (.inr ⟨_,rfl⟩)
   ·have d:a.spot=none:=by
     obtain ⟨h1,h2⟩:=g 0 (by omega)
     obtain ⟨_,I,r⟩:=World.cells?_some h1
     have l:=r 0 (by omega)
     rw [Np (by omega)] at l
     have:=World.cell?_spot l
     simpa [Addr.add] using this
    obtain ⟨b,o,s⟩:=a
    simp only at d;subst d
    exact .lslice (L:=⟨b,o,cap*t.size⟩) (k:=0) Xa hl (by simp)
  ·cases B
   exact ⟨rfl,rfl,rfl,fun h=>absurd rfl h⟩
 ·obtain ⟨X,S,es,xs,k1,k2,k3,T,M,E⟩:=MX (n:=len) (cs:=cs) (fun i hi=>(g i (by omega)).2) h hn
  have d:a.spot=none:=by
   obtain ⟨h1,h2⟩:=g 0 (by omega)
   obtain ⟨_,I,r⟩:=World.cells?_some h1
   have l:=r 0 (by omega)
   rw [Np (by omega)] at l
   have:=World.cell?_spot l
   simpa [Addr.add] using this
  have f:∀i,i<len->∀j,j<t.size->∃v,(cs i)[j]? = some v/\w.cell? ⟨a.block,a.off+(i*t.size+j),none⟩=some v:=by
   intro i hi j D
   obtain ⟨_,I,r⟩:=World.cells?_some (g i (by omega)).1
   have l:=r j D
   have J:(cs i)[j]? = some ((cs i)[j]'(by omega)):=Np _
   rw [J,Go.Deep.add_add] at l
   refine ⟨_,J, ?_⟩
   rw [<-l]
   congr 1
   obtain ⟨b,o,s⟩:=a
   simp only at d;subst d
   exact (addr_add (b:=b) (o:=o)).symm
  obtain ⟨v0,_,q⟩:=f 0 (by omega) 0 (by omega)
  have m:∃cells el fz,w.heap[a.block]? = some (.cells cells el fz):=by
   unfold World.cell? at q
   split at q
   ·rename_i c el fz A;exact ⟨c,el,fz,A⟩
   ·cases q
  obtain ⟨cells,el,fz,A⟩:=m
  have C:∀e∈es,e.length=t.size:=by
   intro e he
   obtain ⟨i,hi,rfl⟩:=List.mem_iff_getElem.1 he
   exact (E i _ _ (Np (by omega)) (Np hi)).1.len
  have y:UW Pg (Nby S (H++X).length ⟨a.block,a.off,cap*t.size⟩) w ⟨a.block,a.off,cap*t.size⟩ (.cells true es.flatten):=by
   refine ⟨cells,el,fz,A,fun j v p=>?_,fun h=>by cases h⟩
   obtain ⟨e,h1,h2⟩:=Zh es C j v p
   have hi:j / t.size<len:=by have:=(List.getElem?_eq_some_iff.1 h1).1;omega
   have D:j % t.size<t.size:=Re _ (by omega)
   obtain ⟨q1,q2,q3⟩:=E _ _ e (Np (by omega)) h1
   obtain ⟨u,N,O⟩:=f _ hi _ D
   refine ⟨u, ?_,(q2.2 _ _ _ h2 N).mono ?_,q3 u (Ok N)⟩
   ·rw [Nat.div_add_mod' j t.size] at O
    simpa [World.cell?,A] using O
   ·intro i K hi
    have:=k1.lt hi
    rw [Nbx (by omega)];exact hi
  obtain ⟨F,G⟩:=k1.snoc k2 _ _ rfl y
  refine ⟨X++[.cells true es.flatten],_,[.slice (some ⟨(H++X).length,0,none⟩) len (loose t.size)],xs,by rw [<-Nr];exact F,by rw [<-Nr];exact k2.snoc rfl,PT.le_trans k3 G,OV.cons ?_ OV.nil, ?_,fun v p=>by simp at p;subst p;rfl⟩
  ·obtain ⟨b,o,s⟩:=a
   simp only at d;subst d
   exact .lslice (L:=⟨b,o,cap*t.size⟩) (k:=0) Xa hl (by simp)
  ·refine ⟨by rw [M];omega,some ⟨(H++X).length,0,none⟩,loose t.size,by rw [M],(fun h=>(by cases h)),fun b B=>?_⟩
   cases B
   refine ⟨rfl,rfl,rfl,fun _=>⟨es, ?_,by omega,fun i x e R he=>?_⟩⟩
   ·rw [<-Nr];exact NN
   ·rw [<-Nr];exact (E i x e R he).1.app _
section
variable (P:Program)
def UZ (f:TypeId->Option Ty):List Field->Nat->Option Ty
 | [],_=>some .nil
 | fd::fs,off=>if fd.offset=off then match f fd.type with
   | some ty=>if ty.size=P.cellsOf fd.type then match UZ f fs (off+ty.size) with
     | some r=>some (.pair ty r)
     | none=>none
     else none
   | none=>none
   else none
def Ml:Nat->TypeId->Option Ty
 | 0,_=>none
 | n+1,t=>match P.underlying t with
   | some .bool=>some .bool
   | some (.int k)=>some (.int k)
   | some .string=>some .str
   | some (.slice e)=>match Ml n e with
     | some ty=>if ty.size=P.cellsOf e/\ty.size≠0 then some (.slice ty) else none
     | none=>none
   | some (.array k e)=>match Ml n e with
     | some ty=>if ty.size=P.cellsOf e/\k*ty.size=P.cellsOf t then some (.arr k ty) else none
     | none=>none
   | some (.struct fs)=>match UZ P (Ml n) fs.toList 0 with
     | some ty=>if ty.size=P.cellsOf t then some ty else none
     | none=>none
   | _=>none
end
variable {P:Program} {H:Type} {enc:TypeId×Value->H} {held:Bool}
theorem ZG {n m:Nat} {cs:List Value} (ih:∀t ty cs x,Ml P n t=some ty->DataW.trod enc P w 0 (fun _=>true) held m t cs=some x->RU Pg W lim w ty cs) :
  ∀(fs:List Field) (off:Nat) (xs:List (DataW H×List MemPlace)) (ty:Ty),UZ P (Ml P n) fs off=some ty->off+ty.size=cs.length->(∀(i:Nat) f,fs[i]? = some f->DataW.trod enc P w 0 (fun _=>true) held m f.type ((cs.drop f.offset).take (P.cellsOf f.type))=xs[i]?)->xs.length=fs.length->RU Pg W lim w ty (cs.drop off)
 | [],off,xs,ty,ht,hl,hx,hxl=>by
   simp only [UZ,Option.some.injEq] at ht
   subst ht
   rw [Qt (by simp [Ty.size] at hl;omega)]
   exact RU.nil
 | fd::fs,off,xs,ty,ht,hl,hx,hxl=>by
   simp only [UZ] at ht
   split at ht
   case isFalse=>cases ht
   rename_i ho
   split at ht
   case h_2=>cases ht
   rename_i a h1
   split at ht
   case isFalse=>cases ht
   rename_i e
   split at ht
   case h_2=>cases ht
   rename_i r hr
   cases ht
   simp only [Ty.size] at hl
   match xs,hxl with
   | x0::xs,hxl=>
     have h2:=hx 0 fd rfl
     simp only [O8] at h2
     have b:=ih _ _ _ _ h1 h2
     have c:=ZG (cs:=cs) ih fs (off+a.size) xs r hr (by omega) (fun i f d=>by simpa using hx (i+1) f (by simpa using d)) (by simpa using hxl)
     rw [ho,<-e] at b
     have:=RU.pair b c
     rw [<-List.drop_drop,P8] at this
     exact this
theorem Xd:∀(n m:Nat) {t:TypeId} {ty:Ty} {cs:List Value} {x:DataW H×List MemPlace},Ml P n t=some ty->DataW.trod enc P w 0 (fun _=>true) held m t cs=some x->RU Pg W lim w ty cs
 | 0,_,t,ty,cs,x,ht,_=>by simp [Ml] at ht
 | n+1,m,t,ty,cs,x,ht,h=>by
   simp only [Ml] at ht
   split at ht
   ·rename_i c;cases ht
    obtain ⟨b,rfl,_⟩:=DataW.trod_bool c h
    exact RU.bool
   ·rename_i k c;cases ht
    obtain ⟨b,rfl,_,hw⟩:=DataW.trod_int c h
    exact RU.int hw
   ·rename_i c;cases ht
    obtain ⟨b,rfl,_,hw⟩:=DataW.trod_string c h
    exact RU.str hw
   ·rename_i e c
    split at ht
    case h_2=>cases ht
    rename_i d he
    split at ht
    case isFalse=>cases ht
    rename_i g
    cases ht
    rcases Go.Deep.open_slice c h with ⟨rfl,_⟩ | ⟨a,len,cap,v,r,D,Pl,rfl,z,hl,y,p,A,hi⟩
    ·exact RU.nilslice
    ·simp only [if_true] at p
     subst p
     have l:∀i,∃cs',i<v->w.cells? 0 (a.add (i*d.size)) d.size=some cs'/\RU Pg W lim w d cs':=by
      intro i
      by_cases o:i<v
      ·obtain ⟨cs',h1,h2⟩:=hi i o
       exact ⟨cs',fun _=>⟨by rw [g.1];exact h1,Xd n r he h2⟩⟩
      ·exact ⟨[],fun h=>absurd h o⟩
     exact RU.slice (cs:=fun i=>Classical.choose (l i)) hl y g.2 fun i hi=>Classical.choose_spec (l i) hi
   ·rename_i k e c
    split at ht
    case h_2=>cases ht
    rename_i d he
    split at ht
    case isFalse=>cases ht
    rename_i g
    cases ht
    obtain ⟨xs,r,_,_,j,q,s⟩:=DataW.trod_array c h
    refine RU.arr (by rw [j,g.2]) fun i hi=>?_
    have h1:=s i hi
    rw [Np (by omega)] at h1
    rw [g.1]
    exact Xd n r he h1
   ·rename_i fs c
    split at ht
    case h_2=>cases ht
    rename_i d he
    split at ht
    case isFalse=>cases ht
    rename_i g
    cases ht
    obtain ⟨xs,r,_,_,j,q,s⟩:=DataW.trod_struct c h
    have:=ZG (cs:=cs) (fun t ty cs x h1 h2=>Xd n r h1 h2) fs.toList 0 xs ty he (by omega) (fun i f u=>s i f (by simpa using u)) (by simpa using q)
    simpa using this
   ·cases ht
end
def isRow:Ty->Bool
 | .nil=>true
 | .pair _ _=>true
 | .arr _ _=>true
 | _=>false
def Mg (t:Ty) (H:NB) (x:t.den) (v:Value):Prop:=if isRow t=true then ∃as,v=.agg as.toArray/\Rep t H x as else Rep t H x [v]
abbrev N19:List Ty->Type
 | []=>Unit
 | t::ts=>t.den×N19 ts
def Nha:(a:List Ty)->NB->N19 a->List Value->Prop
 | [],_,_,vs=>vs=[]
 | t::a,H,x,vs=>∃v r,vs=v::r/\Mg t H x.1 v/\Nha a H x.2 r
theorem Mg.app {t:Ty} {H:NB} {x:t.den} {v:Value} (h:Mg t H x v) (X:NB):Mg t (H++X) x v:=by
 unfold Mg at *
 split
 ·rename_i hr
  rw [Nk hr] at h
  obtain ⟨as,e,k⟩:=h
  exact ⟨as,e,k.app X⟩
 ·rename_i hr
  rw [Nf hr] at h
  exact h.app X
section
variable {P:Program} {H:Type} {enc:TypeId×Value->H} {w:World} {Pg:Prg} {W:Nat->Prop} {lim:Nat}
theorem Nfv {f:TypeId->Option Ty}:∀{fs:List Field} {off:Nat} {ty:Ty},UZ P f fs off=some ty->isRow ty=true
 | [],off,ty,h=>by simp only [UZ,Option.some.injEq] at h;subst h;rfl
 | fd::fs,off,ty,h=>by
   simp only [UZ] at h
   split at h
   ·split at h
    ·split at h
     ·split at h
      ·cases h;rfl
      ·cases h
     ·cases h
    ·cases h
   ·cases h
theorem Nro {n:Nat} {t:TypeId} {ty:Ty} {v:Value} {r:Reach} {base:Nat} (d:Ml P n t=some ty) (g:Value.okWide P w r base t v):if isRow ty=true then ∃cs,v=.agg cs else v.cells.toList=[v]:=by
 cases n with
 | zero=>simp [Ml] at d
 | succ n=>
   simp only [Ml] at d
   split at d
   ·rename_i f;cases d
    obtain ⟨b,rfl⟩:=okWide_bool f g
    rfl
   ·rename_i k f;cases d
    obtain ⟨b,rfl⟩:=okWide_int f g
    rfl
   ·rename_i f;cases d
    obtain ⟨b,rfl⟩:=okWide_string f g
    rfl
   ·rename_i e f
    split at d
    case h_2=>cases d
    split at d
    case isFalse=>cases d
    cases d
    obtain ⟨a,l,c,rfl⟩:=okWide_slice f g
    rfl
   ·rename_i k e f
    split at d
    case h_2=>cases d
    rename_i i he
    split at d
    case isFalse=>cases d
    cases d
    have h:=g
    simp only [Value.okWide,f] at h
    obtain ⟨cs,rfl,_⟩:=h
    exact ⟨cs,rfl⟩
   ·rename_i fs f
    split at d
    case h_2=>cases d
    rename_i i he
    split at d
    case isFalse=>cases d
    cases d
    obtain ⟨cs,rfl,_⟩:=okWide_struct f g
    rw [Nk (Nfv he)]
    exact ⟨cs,rfl⟩
   ·cases d
theorem Nch {n:Nat} {r:Reach} {base:Nat}:∀{h:List TypeId} {vs:List Value} {ds:List (DataW H)} {ps:List MemPlace} {tys:List Ty},DataW.TrodAll enc P w 0 (fun _=>true) true h vs ds ps->h.mapM (Ml P n)=some tys->
  (∀(j:Nat) t v,h[j]? = some t->vs[j]? = some v->Value.okWide P w r base t v)->∀σ H,Inv Pg W lim σ H w->YR H->
  ∃X k as x,Inv Pg W lim k (H++X) w/\YR (H++X)/\PT.le σ k/\OV k as vs/\Nha tys (H++X) x as
 | [],[],[],ps,tys,_,b,_,σ,Hp,hi,hn=>by
   simp at b;subst b
   exact ⟨[],σ,[],(),by simpa using hi,by simpa using hn,PT.le_refl _,OV.nil,rfl⟩
 | t::h,v::vs,d::ds,ps,tys,hA,b,hv,σ,Hp,hi,hn=>by
   obtain ⟨p,q,h1,h2,rfl⟩:=hA
   rw [List.mapM_cons] at b
   obtain ⟨ty,f,b⟩:=OD b
   obtain ⟨tr,i,b⟩:=OD b
   cases b
   obtain ⟨m,s⟩:=h1
   have hc:=Nro f (hv 0 t v rfl rfl)
   obtain ⟨X,o,as,x,k1,k2,k3,c,g,u⟩:=Xd n m f s σ Hp hi hn
   obtain ⟨Y,E,bs,y,z,A,l,B,C⟩:=Nch h2 i (fun j D v' e1 e2=>hv (j+1) D v' (by simpa using e1) (by simpa using e2)) o _ k1 k2
   have key:∃e,VRel o e v/\Mg ty (Hp++X) x e:=by
    split at hc
    ·rename_i hr
     obtain ⟨cs,rfl⟩:=hc
     refine ⟨.agg as.toArray,VRel.agg_iff.2 ⟨by simpa [Value.cells] using c,by simpa [Value.cells] using u⟩, ?_⟩
     unfold Mg;rw [Nk hr]
     exact ⟨as,rfl,g⟩
    ·rename_i hr
     rw [hc] at c
     have hl:=c.1
     match as,hl,c,g with
     | [a],_,c,g=>
       refine ⟨a,c.head, ?_⟩
       unfold Mg;rw [Nf hr]
       exact g
   obtain ⟨e,q1,q2⟩:=key
   refine ⟨X++Y,E,e::bs,(x,y),by rw [<-Nr];exact z,by rw [<-Nr];exact A,PT.le_trans k3 l,OV.cons (q1.mono l) B,e,bs,rfl, ?_, ?_⟩
   ·rw [<-Nr];exact q2.app Y
   ·rw [<-Nr];exact C
 | [],[],_::_,_,_,hA,_,_,_,_,_,_=>hA.elim
 | [],_::_,_,_,_,hA,_,_,_,_,_,_=>hA.elim
 | _::_,[],_,_,_,hA,_,_,_,_,_,_=>hA.elim
 | _::_,_::_,[],_,_,hA,_,_,_,_,_,_=>hA.elim
theorem YG (hl:laidOutB P=true) {w':World} (f:Below w.heap.size w w'):∀{a:List TypeId} {vs:List Value} {ds:List (DataW H)} {ps:List MemPlace},(∀t∈a,P.readableRec t=true/\t<P.types.size)->DataW.TrodAll enc P w 0 (fun _=>true) true a vs ds ps->
  (∀x∈ps,x.block<w.heap.size)->DataW.TrodAll enc P w' 0 (fun b=>decide (b<w.heap.size)) true a vs ds ps
 | [],[],[],ps,_,h,_=>h
 | t::a,v::vs,d::ds,ps,hr,h,hlt=>by
   obtain ⟨p,q,h1,h2,rfl⟩:=h
   exact ⟨p,q,Below.trod hl (hr t (by simp)).1 (hr t (by simp)).2 h1 f fun x e=>hlt x (by simp [e]),YG hl f (fun g c=>hr g (by simp [c])) h2 fun x e=>hlt x (by simp [e]),rfl⟩
 | [],[],_::_,_,_,hA,_=>hA.elim
 | [],_::_,_,_,_,hA,_=>hA.elim
 | _::_,[],_,_,_,hA,_=>hA.elim
 | _::_,_::_,[],_,_,hA,_=>hA.elim
theorem trodAll_length:∀{a:List TypeId} {vs:List Value} {ds:List (DataW H)} {ps:List MemPlace},DataW.TrodAll enc P w 0 (fun _=>true) true a vs ds ps->ds.length=a.length
 | [],[],[],ps,_=>rfl
 | t::a,v::vs,d::ds,ps,h=>by
   obtain ⟨p,q,h1,h2,rfl⟩:=h
   simp [trodAll_length h2]
 | [],[],_::_,_,hA=>hA.elim
 | [],_::_,_,_,hA=>hA.elim
 | _::_,[],_,_,hA=>hA.elim
 | _::_,_::_,[],_,hA=>hA.elim
end
theorem Ni0 {C:Checked} {os:Os} {g:FuncId} {fn:Func} {s:ChangeSpec} {E:Env} {tys:List Ty} {Z:TypeId} {a:List PathCond} {H:Type} {enc:TypeId×Value->H}
  (own:ownKnob C.prog.godebug=none) (l:os.Started) (m:C.prog.inits.idxOf? g=none) (M:C.prog.funcs[g]? = some fn) (f:s.vars=[])
  (z:∀ds:List (DataW H),ds.length=fn.params.size->s.fn H ds={ results:=[.lit (.bool true)],args:=ds })
  (D:fn.resultTypes=#[Z]) (B:C.prog.underlying Z=some .bool) (G:fn.params.toList.mapM (Ml C.prog 9)=some tys)
  (y:∀t∈fn.params.toList,C.prog.readableRec t=true/\t<C.prog.types.size) (u:laidOutB C.prog=true) (hE:EnvOk C.prog E)
  (witness:∃(w:World) (tape:Tape) (i:Input),w.os=os/\(w.forCall tape i).Shaped C.prog/\i.vars=[]/\Input.okWide C.prog (w.forCall tape i) .any w.heap.size g i/\
   s.pre6 enc C.prog fn a false (w.forCall tape i).memory i.args/\({}:Assume).holds C.prog (lone (Frame.enter C.prog g i.args .normal) [] (w.forCall tape i)))
  (run:∀H vs x,Nha tys H x vs->NR E false H.length g vs H fun v _=>v=.bool true) :
  ReturnsInHanded {} C os g .any (s.pre6 enc C.prog fn a false) (s.post enc C.prog fn false true false false):=by
 refine returnsInHanded_of_change own l m M witness ?_
 intro w base args ds gs before I T U J
 have A:=T
 obtain ⟨p,q,K,S,rfl,aa,ac⟩:=T
 rw [f] at S
 obtain ⟨rfl,rfl⟩:=trodVars_none S
 obtain ⟨X,σ,as,x,k1,k2,k3,k4,Y⟩:=Nch K G (fun j t v h1 h2=>I j t v (by simpa using h1) (by simpa using h2)) (fun _=>none) [] (Inv.nil (P:=C.prog) (E:=E) w) (fun i b B=>by simp at B)
 rw [Ob] at k1 k2 Y
 have R:Inv (Prg.mk C.prog E.pure) (fun k=>w.heap.size<=k) X.length σ X w:=⟨k1.blk,k1.inj,(fun i b L B ho=>by rw [k2 i b B] at ho;cases ho),k1.fresh,k1.dom⟩
 obtain ⟨n,LL,Q,F⟩:=run X as x Y
 have c:=(Ng5 hE n).calls _ _ _ _ _ _ Q (Ng _) _ _ _ _ R k4
 rw [show args.toList.toArray=args by simp] at c
 refine c.mono fun e w' hp=>?_
 obtain ⟨r,hr,v',σ',rfl,W,V,d,_⟩:=hp
 rw [F.2 r hr] at W
 rw [W.bool_left]
 have o:Below w.heap.size w w':=⟨d.os,d.tape,d.output,d.size,fun k hk=>d.block k (by omega)⟩
 have N:∀x∈p,x.block<w.heap.size:=fun x Q=>by
  have:=A.lt x (by simpa using Q)
  simpa using this
 have O:=z ds (by simpa using trodAll_length K)
 refine ⟨_,rfl,_,_,_,[],p,[],A, ?_, ?_, ?_,o.frame _,fun h=>by cases h⟩
 ·rw [Na,O,D]
  exact trodAll_mk1 (shut_bool B true)
 ·rw [Na,O]
  exact YG u o y K N
 ·rw [Na,O,f]
  rfl
theorem Rep.sl {t:Ty} {H:NB} {l:List t.den} {cs:List Value} {α:Type} (f:t.den->α) (enc:α->List Value) (he:∀H x c,Rep t H x c->c=enc (f x)) (h:Rep (.slice t) H l cs) :
  ∃p cap,cs=[.slice p (l.map f).length cap]/\Sl H enc t.size p (l.map f)/\l.length<2 ^ 63:=by
 obtain ⟨k,p,cap,e,h1,h2⟩:=h
 have d:l.length<2 ^ 63:=by unfold maxLen at k;omega
 refine ⟨p,cap,by rw [e,Ou], ?_,d⟩
 cases p with
 | none=>simp only [Sl];rw [(h1 rfl).1];rfl
 | some a=>
   obtain ⟨k1,k2,k3,q⟩:=h2 a rfl
   refine ⟨k1,fun hn=>?_⟩
   obtain ⟨es,r,g,j⟩:=q (by rintro rfl;exact hn rfl)
   have key:es.flatten=(l.map f).flatMap enc:=by
    have:es=l.map fun x=>enc (f x):=by
     apply Qo (by simpa using g)
     intro i s o
     have u:i<l.length:=by simpa using o
     have:=he _ _ _ (j i l[i] es[i] (Np _) (Np _))
     rw [this];simp
    rw [this,Sb,List.map_map]
    rfl
   have b:es.flatten.length=l.length*t.size:=by
    have:∀(es:List (List Value)),(∀x∈es,x.length=t.size)->es.flatten.length=es.length*t.size:=by
     intro es
     induction es with
     | nil=>simp
     | cons x es ih=>intro h;simp [ih fun y n=>h y (by simp [n]),h x (by simp),Qg,Qk]
    rw [this es,g]
    intro x m
    obtain ⟨i,hi,rfl⟩:=List.mem_iff_getElem.1 m
    exact (j i _ _ (Np (by omega)) (Np hi)).len
   refine ⟨true,_,r, ?_, ?_⟩
   ·rw [k2,b,Ou];omega
   ·rw [k2,Po,key,Oo]
    rw [<-key,b,Ou]
    exact Ng _
theorem Mg.row {t:Ty} {H:NB} {x:t.den} {v:Value} (hr:isRow t=true) (h:Mg t H x v):∃cs,v=.agg cs.toArray/\Rep t H x cs:=by
 unfold Mg at h
 rw [Nk hr] at h
 exact h
theorem Mg.one {t:Ty} {H:NB} {x:t.den} {v:Value} (hr:isRow t=false) (h:Mg t H x v):Rep t H x [v]:=by
 unfold Mg at h
 rw [Nf (by rw [hr];decide)] at h
 exact h
end Go.AM


namespace Go.AM
structure Chg (A:List Nat) (H H':NB):Prop where
 len:H.length<=H'.length
 other:∀j,j<H.length->j∉A->NC H' j=NC H j
section
variable {A B:List Nat} {H H' K:NB}
theorem Chg.refl:Chg A H H:=⟨Ng _,fun _ _ _=>rfl⟩
theorem Chg.trans (h:Chg A H H') (k:Chg A H' K):Chg A H K:=⟨Rc h.len k.len,fun j b a=>(k.other j (by have:=h.len;omega) a).trans (h.other j b a)⟩
theorem Chg.trans' (h:Chg A H H') (k:Chg B H' K) (hB:∀j,j∈B->j<H.length->j∈A):Chg A H K:=⟨Rc h.len k.len,fun j b a=>(k.other j (by have:=h.len;omega) fun c=>a (hB j c b)).trans (h.other j b a)⟩
theorem Chg.mono (h:Chg A H H') (c:∀j,j<H.length->j∈A->j∈B):Chg B H H':=⟨h.len,fun j a hB=>h.other j a fun b=>hB (c j a b)⟩
theorem Chg.app (h:Chg A H H') {X:NB}:Chg A H (H'++X):=⟨by have:=h.len;simp;omega,fun j b a=>by rw [NK (by have:=h.len;omega)];exact h.other j b a⟩
theorem Chg.pre (h:Chg A (H++K) H'):Chg A H H':=⟨by have:=h.len;simp at this;omega,fun j b a=>by rw [h.other j (by simp;omega) a,NK b]⟩
theorem Chg.mut {R:Nat} (h:Chg A H H') (m:Mut H' K R) (b:R∈A\/H.length<=R):Chg A H K:=⟨by rw [m.len];exact h.len,fun j c a=>by
 rw [m.other j (by rintro rfl;rcases b with h1 | h1;exact a h1;omega)];exact h.other j c a⟩
theorem Chg.set {R:Nat} {b:Blk} (h:Chg A H H') (a:R∈A\/H.length<=R):Chg A H (H'.set R b):=h.mut (R:=R) ⟨by simp,fun j c=>OQ c⟩ a
theorem Chg.get (h:Chg A H H') {j:Nat} {b:Blk} (c:NC H j=b) (hl:j<H.length) (a:j∉A):NC H' j=b:=by rw [h.other j hl a];exact c
theorem Chg.cells (h:Chg A H H') {j:Nat} {ro:Bool} {c:List Value} (a:NC H j=.cells ro c) (b:j∉A):NC H' j=.cells ro c:=h.get a (ND a) b
theorem Chg.sl {α:Type} {enc:α->List Value} {e:Nat} {p:Option Addr} {l:List α} (h:Chg A H H') (b:Sl H enc e p l) (hp:∀a,p=some a->l≠[]->a.block∉A):Sl H' enc e p l:=by
 cases p with
 | none=>exact b
 | some a=>
   refine ⟨b.1,fun hn=>?_⟩
   obtain ⟨ro,c,h2,d⟩:=b.2 hn
   exact ⟨ro,c,h.cells h2 (hp a rfl hn),d⟩
theorem NZ.chg (h:NZ H H'):Chg A H H':=by obtain ⟨X,rfl⟩:=h;exact Chg.refl.app
theorem Chg.ext (h:Chg [] H H'):NZ H H':=by
 refine ⟨H'.drop H.length, ?_⟩
 apply Qo
 ·have:=h.len;simp;omega
 intro i h1 h2
 by_cases hi:i<H.length
 ·rw [Rk hi]
  have:=h.other i hi (by simp)
  unfold NC at this
  rw [Nc,Nc,Np h1,Np hi] at this
  exact this
 ·rw [Sd (by omega),Rj]
  congr 1
  omega
end
theorem Sl.lt {α:Type} {H:NB} {enc:α->List Value} {e:Nat} {a:Addr} {l:List α} (h:Sl H enc e (some a) l) (hn:l≠[]):a.block<H.length:=by
 obtain ⟨ro,c,h2,_⟩:=h.2 hn
 exact ND h2
theorem Sl.some {α:Type} {H:NB} {enc:α->List Value} {e:Nat} {p:Option Addr} {l:List α} (h:Sl H enc e p l) (hn:l≠[]):∃a,p=some a:=by
 cases p with
 | none=>exact absurd h hn
 | some a=>exact ⟨a,rfl⟩
section
variable {α:Type} [Inhabited α] {H:NB} {enc:α->List Value} {e:Nat} {p:Option Addr} {l:List α}
omit [Inhabited α] in
theorem Nos {lim S:Nat} (he:∀x,(enc x).length=e) (hp:p=Option.some ⟨S,0,none⟩) (hS:NC H S=.cells false (l.flatMap enc)) (hl:lim<=S) {i:Nat} (hi:i<l.length) (y:α):AM.storeAt lim H (SX p e i) (enc y)=Option.some (H.set S (.cells false ((l.set i y).flatMap enc))):=by
 subst hp
 have h1:i*e+e<=l.length*e:=by
  have:=Pj e (Q1 hi)
  rw [P7] at this;exact this
 simp only [SX,addrOf,Pq,addr_add,Ur,hS,N0]
 rw [Nk ⟨hl,by rw [he,QW he];exact h1⟩,Ni8 he y _ _ hi]
end
theorem Uq {α:Type} {G:NB} {enc:α->List Value} {e:Nat} {p:Option Addr} {l:List α} {lim S:Nat} (he:∀x,(enc x).length=e) (hp:p=some ⟨S,0,none⟩) (hS:NC G S=.cells false (l.flatMap enc)) (hl:lim<=S) {i:Nat} (hi:i<l.length) (y:α) :
  ∃G',(∀X,AM.storeAt lim (G++X) (SX p e i) (enc y)=some (G'++X))/\NC G' S=.cells false ((l.set i y).flatMap enc)/\Mut G G' S:=by
 obtain ⟨G',h1,h2,a⟩:=OO (ND hS) (.cells false ((l.set i y).flatMap enc))
 exact ⟨G',fun X=>by rw [Nos he hp (by rw [NK (ND hS)];exact hS) hl hi,h1],h2,a⟩
theorem Own.step {α:Type} {lim lim' e bytes cap:Nat} {G:NB} {enc:α->List Value} {p:Option Addr} {l:List α} (h:Own lim G enc e p cap l) (o:lim'<=lim) (he:∀x,(enc x).length=e) (i:e≠0) (x:α) (r:(l.length+1)*bytes<=PM) (hn:l.length+1<2 ^ 61) (n:lim<=G.length)
  (X:NB) (b k:Nat) (s:NC (G++X) b=.cells false (enc x)) :
  ∃c,OW lim' none e bytes false (.slice p l.length cap) (.slice (some ⟨b,0,none⟩) 1 k) (G++X)=some (.slice (some ⟨G.length+X.length,0,none⟩) (l.length+1) (loose e),c++[])/\
   Own lim (c++[]) enc e (some ⟨G.length+X.length,0,none⟩) (loose e) (l++[x])/\(∀A H0,H0.length<=lim->Chg A H0 G->Chg A H0 (c++[]))/\(∀j,j<G.length->(∀a,p=some a->j≠a.block)->NC (c++[]) j=NC G j)/\c.length=G.length+X.length+1/\
   (∀j,j<X.length->NC (c++[]) (G.length+j)=X.getD j .dead):=by
 obtain ⟨G',R,f,g,d,_,hp⟩:=h.push1 (lim':=lim') (bytes:=bytes) o he i x r hn
 have q:lim<=R:=by
  rcases Sc p with h1 | ⟨a,h1⟩
  ·rw [f h1];exact n
  ·rw [g a h1];exact (h.block h1).1
 refine ⟨G'++(X++[.cells false ((l++[x]).flatMap enc)]),by rw [Na];exact hp X b k s, ?_,fun A H0 h1 h2=>?_,fun j m hp=>?_,by simp [d.len];omega,fun j m=>?_⟩
 ·rw [Na]
  refine Own.new ?_ (by omega)
  rw [<-Nr,<-d.len,<-Nb]
  exact NN
 ·rw [Na]
  exact (h2.mut d (.inr (by omega))).app
 ·rw [Na,NK (by rw [d.len];exact m)]
  refine d.other j ?_
  rcases Sc p with h1 | ⟨a,h1⟩
  ·rw [f h1];omega
  ·rw [g a h1];exact hp a h1
 ·rw [Na,<-d.len,OL,Nc,Od m,Nc]
theorem QH {α:Type} [Inhabited α] {l:List α} {i:Nat} (h:i<l.length):l.take (i+1)=l.take i++[gt l i]:=by
 rw [Pu h,OJ h]
theorem Nkf:∀(vs a b c:List Value),vs.length=b.length->RF (a++b++c) a.length vs=a++vs++c:=by
 intro vs
 induction vs with
 | nil=>intro a b c h;simp at h;have:b=[]:=List.length_eq_zero_iff.1 h.symm;subst this;rfl
 | cons v vs ih=>
   intro a b c h
   match b,h with
   | x::b,h=>
     rw [Us]
     have e1:(a++x::b++c).set a.length v=(a++[v])++b++c:=by simp
     rw [e1]
     have:=ih (a++[v]) b c (by simpa using h)
     rw [Nb] at this
     simp only [Nj,Nl,N0] at this
     rw [this];simp
theorem Own.more {α:Type} {lim lim' e bytes cap:Nat} {G:NB} {enc:α->List Value} {p:Option Addr} {l:List α} (h:Own lim G enc e p cap l) (w:lim'<=lim) (he:∀x,(enc x).length=e) (u:e≠0) (m:List α) (o:(l.length+m.length)*bytes<=PM) (hn:l.length+m.length<2 ^ 61) (v:lim<=G.length)
  (X:NB) {x:Value} {str:Bool} (h1:firstCells (G++X) e str x=some (m.flatMap enc)) (h2:lenOf x=some m.length) :
  ∃d t b,OW lim' none e bytes str (.slice p l.length cap) x (G++X)=some (.slice t (l.length+m.length) b,d++[])/\Own lim (d++[]) enc e t b (l++m)/\(∀A H0,H0.length<=lim->Chg A H0 G->Chg A H0 (d++[]))/\
   (∀j,j<G.length->(∀a,p=some a->j≠a.block)->NC (d++[]) j=NC G j)/\G.length<=d.length:=by
 by_cases s:m=[]
 ·subst s
  have r:l.length<=cap:=by
   rcases h with ⟨k1,_,k3⟩ | ⟨R,_,k2,_,_⟩
   ·subst k1;simp
   ·rw [k2];simp at hn;unfold loose;omega
  refine ⟨G++X,p,cap, ?_,by rw [Na,Na];exact h.app X,fun A H0 q1 q2=>by rw [Na];exact q2.app,fun j c _=>by rw [Na,NK c],by simp⟩
  simp only [Nl,Oj] at o hn h2⊢
  simp only [OW,h1,h2,Oj,if_true,Na]
  rw [Nf (by omega)]
 ·have i:¬m.length=0:=fun q=>s (List.length_eq_zero_iff.1 q)
  rcases h with ⟨k1,k2,k3⟩ | ⟨R,k1,k2,k3,y⟩
  ·subst k1 k2 k3
   refine ⟨G++(X++[.cells false (m.flatMap enc)]),some ⟨(G++X).length,0,none⟩,loose e, ?_, ?_,fun A H0 q1 q2=>by rw [Na];exact q2.app,fun j c _=>by rw [Na,NK c],by simp⟩
   ·simp only [Nl,N0] at o hn⊢
    simp only [OW,h1,h2,i,if_false,N0]
    rw [Nf (by omega)]
    simp [place]
   ·rw [Na,Ob]
    refine Own.new ?_ (by simp;omega)
    rw [<-Nr];exact NN
  ·subst k1 k2
   have g:=ND k3
   have f:NC (G++X) R=.cells false (l.flatMap enc):=by rw [NK g];exact k3
   have k:AM.loadCells (G++X) ⟨R,0,none⟩ (l.length*e)=some (l.flatMap enc):=by
    simp only [QM,f,N0,QW he,Ng,if_true,Po]
    rw [Oo (by rw [QW he];exact Ng _)]
   have n:Mut G (G.set R .dead) R:=⟨by simp,fun j c=>OQ c⟩
   refine ⟨G.set R .dead++(X++[.cells false ((l++m).flatMap enc)]),some ⟨(G++X).length,0,none⟩,loose e, ?_, ?_,fun A H0 q1 q2=>by rw [Na];exact (q2.mut n (.inr (by omega))).app,fun j c hp=>by
    rw [Na,NK (by simpa using c)];exact OQ (hp _ rfl),by simp⟩
   ·simp only [OW,h1,h2,k,f,i,if_false,if_true]
    rw [Nf (by unfold loose;omega)]
    simp [show lim'<=R by omega,place,P9 _ _ g,Nr]
   ·rw [Na]
    refine Own.new ?_ (by simp;omega)
    rw [<-Nr,show (G++X).length=(G.set R .dead++X).length by simp];exact NN
theorem Own.moreD {α:Type} {lim lim' e bytes cap d:Nat} {G:NB} {enc:α->List Value} {p:Option Addr} {l:List α} (h:Own lim G enc e p cap l) (z:lim'<=lim) (he:∀x,(enc x).length=e) (w:e≠0) (m:List α) (s:(l.length+m.length)*bytes<=PM) (hn:l.length+m.length<2 ^ 61) (y:lim<=G.length)
  (X:NB) (u:G.length<=d) (v:d<G.length+X.length) {x:Value} {str:Bool} (h1:firstCells (G++X) e str x=some (m.flatMap enc)) (h2:lenOf x=some m.length) :
  ∃c o b,OW lim' (some d) e bytes str (.slice p l.length cap) x (G++X)=some (.slice o (l.length+m.length) b,c++[])/\Own lim (c++[]) enc e o b (l++m)/\(∀A H0,H0.length<=lim->Chg A H0 G->Chg A H0 (c++[]))/\
   (∀j,j<G.length->(∀a,p=some a->j≠a.block)->NC (c++[]) j=NC G j)/\G.length<=c.length/\(m≠[]->o=some ⟨d,0,none⟩)/\(m=[]->o=p):=by
 by_cases n:m=[]
 ·subst n
  have t:l.length<=cap:=by
   rcases h with ⟨k1,_,k3⟩ | ⟨R,_,k2,_,_⟩
   ·subst k1;simp
   ·rw [k2];simp at hn;unfold loose;omega
  refine ⟨G++X,p,cap, ?_,by rw [Na,Na];exact h.app X,fun A H0 q1 q2=>by rw [Na];exact q2.app,fun j g _=>by rw [Na,NK g],by simp,fun h=>absurd rfl h,fun _=>rfl⟩
  simp only [Nl,Oj] at s hn h2⊢
  simp only [OW,h1,h2,Oj,if_true,Na]
  rw [Nf (by omega)]
 ·have i:¬m.length=0:=fun q=>n (List.length_eq_zero_iff.1 q)
  rcases h with ⟨k1,k2,k3⟩ | ⟨R,k1,k2,k3,B⟩
  ·subst k1 k2 k3
   refine ⟨(G++X).set d (.cells false (m.flatMap enc)),some ⟨d,0,none⟩,loose e, ?_, ?_,fun A H0 q1 q2=>by rw [Na];exact q2.app.set (.inr (by omega)),fun j g _=>by rw [Na,OQ (by omega),NK g],by simp,fun _=>rfl,fun h=>absurd h n⟩
   ·simp only [Nl,N0] at s hn⊢
    simp only [OW,h1,h2,i,if_false,N0]
    rw [Nf (by omega)]
    simp [place]
   ·rw [Na,Ob]
    exact Own.new (Uu (by simp;omega)) (by omega)
  ·subst k1 k2
   have r:=ND k3
   have f:NC (G++X) R=.cells false (l.flatMap enc):=by rw [NK r];exact k3
   have k:AM.loadCells (G++X) ⟨R,0,none⟩ (l.length*e)=some (l.flatMap enc):=by
    simp only [QM,f,N0,QW he,Ng,if_true,Po]
    rw [Oo (by rw [QW he];exact Ng _)]
   refine ⟨((G++X).set R .dead).set d (.cells false ((l++m).flatMap enc)),some ⟨d,0,none⟩,loose e, ?_, ?_,fun A H0 q1 q2=>by rw [Na];exact (q2.app.set (.inr (by omega))).set (.inr (by omega)),fun j g hp=>by
    rw [Na,OQ (by omega),OQ (hp _ rfl),NK g],by simp,fun _=>rfl,fun h=>absurd h n⟩
   ·simp only [OW,h1,h2,k,f,i,if_false,if_true]
    rw [Nf (by unfold loose;omega)]
    simp [show lim'<=R by omega,place]
   ·rw [Na]
    exact Own.new (Uu (by simp;omega)) (by omega)
theorem QG {α:Type} {e k:Nat} {H:NB} {enc:α->List Value} {p:Option Addr} {m:List α} (c:Sl H enc e p m):firstCells H e false (.slice p m.length k)=some (m.flatMap enc):=by
 by_cases b:m=[]
 ·subst b
  cases p<;>simp [firstCells]
 ·obtain ⟨a,rfl,hl⟩:=c.cells b
  have:m.length≠0:=fun h=>b (List.length_eq_zero_iff.1 h)
  simp [firstCells,this,hl]
theorem Sl.pre {α:Type} {H:NB} {enc:α->List Value} {e:Nat} {p:Option Addr} {l m:List α} (h:Sl H enc e p (l++m)) (he:∀x,(enc x).length=e):Sl H enc e p l:=by
 cases p with
 | none=>simp only [Sl] at h;exact (List.append_eq_nil_iff.1 h).1
 | some a=>
   refine ⟨h.1,fun hn=>?_⟩
   obtain ⟨ro,c,h1,h2,f⟩:=h.2 (by simp [hn])
   have b:l.length*e<=(l++m).length*e:=Pj e (by simp)
   refine ⟨ro,c,h1,by omega, ?_⟩
   have d:=Rw (List.take (l.length*e)) f
   rw [R9,Pa b,Pc,Rd (by rw [QW he];exact Ng _),Oo (l:=l.flatMap enc) (by rw [QW he];exact Ng _)] at d
   exact d
theorem Sl.row {α:Type} {H:NB} {enc:α->List Value} {e R:Nat} {l:List α} (he:∀x,(enc x).length=e) {ro:Bool} (h:NC H R=.cells ro (l.flatMap enc)):Sl H enc e (Option.some ⟨R,0,none⟩) l:=Sl.lit he (by rw [h];rfl) (by rw [h];rfl)
theorem Own.chg {α:Type} {A:List Nat} {lim e cap:Nat} {G H':NB} {enc:α->List Value} {p:Option Addr} {l:List α} (h:Own lim G enc e p cap l) (hc:Chg A G H') (hp:∀a,p=some a->a.block∉A):Own lim H' enc e p cap l:=by
 rcases h with h | ⟨R,h1,h2,b,c⟩
 ·exact .inl h
 ·exact .inr ⟨R,h1,h2,hc.cells b (hp _ h1),c⟩
def Nxb (e c n:Nat):Prop:=c=loose e\/(n<=c/\c<2 ^ 62)
theorem Own.capOk {α:Type} {lim e cap:Nat} {G:NB} {enc:α->List Value} {p:Option Addr} {l:List α} (h:Own lim G enc e p cap l):Nxb e cap l.length:=by
 rcases h with ⟨h1,h2,a⟩ | ⟨R,h1,h2,a,b⟩
 ·subst h1 a;exact .inr ⟨Ng _,by decide⟩
 ·exact .inl h2
theorem Nfb {α:Type} {enc:α->List Value} {e:Nat} (he:∀x,(enc x).length=e):∀(l:List α) (k:Nat),(l.take k).flatMap enc=(l.flatMap enc).take (k*e)
 | [],k=>by simp
 | x::l,0=>by simp
 | x::l,k+1=>by
   rw [Pt,N2,N2,Nfb he l k,List.take_append,he,Oo (l:=enc x) (by rw [he,P7];omega),P7,Rf]
theorem Ncp {α:Type} {enc:α->List Value} {e:Nat} (he:∀x,(enc x).length=e):∀(l:List α) (k:Nat),(l.drop k).flatMap enc=(l.flatMap enc).drop (k*e)
 | [],k=>by simp
 | x::l,0=>by simp
 | x::l,k+1=>by
   rw [List.drop_succ_cons,N2,Ncp he l k,List.drop_append,he,Qt (as:=enc x) (by rw [he,P7];omega),Ob,P7,Rf]
theorem Sl.sub {α:Type} {H:NB} {enc:α->List Value} {e:Nat} {a:Addr} {l:List α} (h:Sl H enc e (Option.some a) l) (he:∀x,(enc x).length=e) {lo hi:Nat} (h1:lo<=hi) (h2:hi<=l.length):Sl H enc e (Option.some (a.add (lo*e))) ((l.take hi).drop lo):=by
 obtain ⟨b,o,s⟩:=a
 have g:=h.1
 simp only at g;subst g
 rw [addr_add]
 refine ⟨rfl,fun hn=>?_⟩
 have f:l≠[]:=by rintro rfl;simp at hn
 obtain ⟨ro,c,k1,k2,k3⟩:=h.2 f
 have d:((l.take hi).drop lo).length=hi-lo:=by simp;omega
 have e1:(hi-lo)*e+lo*e=hi*e:=by rw [<-Qg,Nat.sub_add_cancel h1]
 have e2:hi*e<=l.length*e:=Pj e h2
 refine ⟨ro,c,k1,by simp only [d] at *;omega, ?_⟩
 simp only at k2 k3⊢
 rw [d,Ncp he,Nfb he,<-k3,R9,Pa e2,List.drop_take,List.drop_drop,show hi*e-lo*e=(hi-lo)*e by omega]
theorem Yw {α:Type} {H:NB} {enc:α->List Value} {e:Nat} {p:Option Addr} {l:List α} {c lo hi:Nat} {vlo vhi:Option Value} (g:Sl H enc e p l) (hc:Nxb e c l.length) (he:∀x,(enc x).length=e) (y:∀cap,l.length<=cap->U7 l.length cap vlo vhi none=some (lo,hi,cap)) (h1:lo<=hi) (h2:hi<=l.length) (hn:l.length<2 ^ 63) :
  ∃r c',Ua e (.slice p l.length c) vlo vhi none=some (.slice r (hi-lo) c')/\Sl H enc e r ((l.take hi).drop lo)/\Nxb e c' (hi-lo)/\(∀a',r=some a'->∃a,p=some a/\a'.block=a.block)/\(l≠[]->∀a',r=some a'->AM.loadCells H a' 0=some []):=by
 have j:l≠[]->∀a,p=some a->∀k,k<=l.length->AM.loadCells H (a.add (k*e)) 0=some []:=by
  intro d a q k z
  subst q
  obtain ⟨b,o,s⟩:=a
  have f:=g.1
  simp only at f;subst f
  obtain ⟨ro,cs,k1,k2,k3⟩:=g.2 d
  simp only at k1 k2
  have:=Pj e z
  rw [addr_add,QM,k1]
  simp only [Oj,Qn]
  rw [Nk (by omega)]
 have t:l≠[]->∀a,p=some a->AM.loadCells H a 0=some []:=by
  intro d a q
  have:=j d a q 0 (Nv _)
  subst q
  obtain ⟨b,o,s⟩:=a
  have f:=g.1
  simp only at f;subst f
  rw [Q0,addr_add,Oj] at this
  exact this
 have hB:∀cap,l.length<=cap->bounds unV l.length cap (vlo.map .const) (vhi.map .const) none=some (lo,hi,cap):=fun cap m=>by
  rw [Nwy,<-y cap m]
  cases vlo<;>cases vhi<;>rfl
 have i:∀(a:Addr) (n:Nat),(a.add n).block=a.block:=fun a n=>by
  unfold Addr.add
  split<;>rfl
 rcases hc with rfl | ⟨v,w⟩
 ·refine ⟨p.map (·.add (lo*e)),loose e, ?_, ?_,.inl rfl,fun a' h=>?_,fun d a' h=>?_⟩
  ·simp only [Ua,Uj,Ov,if_true,hB _ (Ng _)]
  ·cases p with
   | none=>simp only [Sl] at g;subst g;simp [Sl]
   | some a=>exact g.sub he h1 h2
  ·cases p with
   | none=>cases h
   | some a=>cases h;exact ⟨a,rfl,i _ _⟩
  ·cases p with
   | none=>cases h
   | some a=>cases h;exact j d a rfl lo (by omega)
 ·have u:¬c=loose e:=by unfold loose;omega
  refine ⟨if c=lo then p else p.map (·.add (lo*e)),c-lo, ?_, ?_,.inr ⟨by omega,by omega⟩,fun a' h=>?_,fun d a' h=>?_⟩
  ·simp only [Ua,Uj,Ov,Nf u,Nk w,hB c v]
  ·split
   ·have j:(l.take hi).drop lo=[]:=Qt (by simp;omega)
    rw [j]
    cases p with
    | none=>rfl
    | some a=>exact ⟨g.1,fun h=>absurd rfl h⟩
   ·cases p with
    | none=>simp only [Sl] at g;subst g;simp [Sl]
    | some a=>exact g.sub he h1 h2
  ·split at h
   ·exact ⟨a',h,rfl⟩
   ·cases p with
    | none=>cases h
    | some a=>cases h;exact ⟨a,rfl,i _ _⟩
  ·split at h
   ·exact t d a' h
   ·cases p with
    | none=>cases h
    | some a=>cases h;exact j d a rfl lo (by omega)
theorem Sl.same {α:Type} {H G:NB} {enc:α->List Value} {e:Nat} {p:Option Addr} {l:List α} (h:Sl H enc e p l) (d:∀a,p=Option.some a->l≠[]->NC G a.block=NC H a.block):Sl G enc e p l:=by
 cases p with
 | none=>exact h
 | some a=>
   refine ⟨h.1,fun hn=>?_⟩
   obtain ⟨ro,c,h2,b⟩:=h.2 hn
   exact ⟨ro,c,by rw [d a rfl hn];exact h2,b⟩
theorem Own.appL {α:Type} {lim lim' e bytes cap:Nat} {G H:NB} {enc:α->List Value} {p:Option Addr} {l:List α} {dest:Option Nat} {str:Bool} {x:Value} (h:Own lim G enc e p cap l):VQ lim' dest e bytes str (.slice p l.length cap) x H=OW lim' dest e bytes str (.slice p l.length cap) x H:=by
 rcases h with ⟨h1,h2,a⟩ | ⟨R,h1,h2,a,b⟩
 ·subst h2;rfl
 ·subst h1;rw [YQ,Nk (.inl h2)]
theorem NZ.get' {H G:NB} (h:NZ H G) {j:Nat} {b:Blk} (a:NC H j=b) (hl:j<H.length):NC G j=b:=by
 obtain ⟨X,rfl⟩:=h
 rw [NK hl];exact a
end Go.AM


namespace Go.AM.Srt
open Go.AM Go.AM.Sym
structure Ids where
 (e LEN32 INS SIFT HEAP BRK CHO REV PIS PEQ PART PDQ SORT LEN LEN64 NPT XOR MEDA MED ORD:Nat)
def Nuh (z:Ids):ACode:=(.seq (Ds 0 [mT 18 9,mT 19 1,Bt 20 .gtr 18 19,mT 21 20,⟨(some 22),(some (21,true)),(.mov (t 3)),none,[]⟩,⟨(some 23),(some (21,true)),(.mov (t 0)),none,[]⟩,⟨(some 24),(some (21,true)),(.mov (t 9)),none,[]⟩,⟨(some 25),(some (21,true)),(.idxAddrS z.e (t 23) (t 24)),none,[]⟩,⟨(some 26),(some (21,true)),(.loadN z.e (t 25)),none,[]⟩,⟨(some 27),(some (21,true)),(.mov (t 0)),none,[]⟩,⟨(some 28),(some (21,true)),(.mov (t 9)),none,[]⟩,⟨(some 29),(some (21,true)),(.bin .sub (t 28) (zT 1)),none,[]⟩,⟨(some 30),(some (21,true)),(.idxAddrS z.e (t 27) (t 29)),none,[]⟩,⟨(some 31),(some (21,true)),(.loadN z.e (t 30)),none,[]⟩,⟨(some 32),(some (21,true)),(.call .pure (t 22) [(t 26),(t 31)]),none,[]⟩,⟨(some 33),(some (21,true)),(.bin .lss (t 32) (zT 0)),none,[]⟩,At 34 21 33] (Ce 34 2)) (.seq (.block 3 (.drawn 0 [mT 37 0,mT 38 9,mT 39 0,mT 40 9,Bc 41 .sub 40 1,mT 42 0,mT 43 9,Bc 44 .sub 43 1,i 45 (.idxAddrS z.e (t 42) (t 44)),i 46 (.loadN z.e (t 45)),mT 47 0,mT 48 9,i 49 (.idxAddrS z.e (t 47) (t 48)),i 50 (.loadN z.e (t 49)),i 51 (.idxAddrS z.e (t 37) (t 38)),⟨none,none,(.store z.e (t 51) (t 46)),none,[]⟩,i 52 (.idxAddrS z.e (t 39) (t 41)),⟨none,none,(.store z.e (t 52) (t 50)),none,[]⟩])) (.ops [mT 35 9,Bc 36 .sub 35 1,mT 9 36])))
def Nlo (z:Ids):ACode:=(.seq (Oz [mT 12 8,mT 13 2,Bt 14 .lss 12 13] (Ce 14 0)) (.seq (.block 1 (Oz [mT 17 8,mT 9 17] (Bl 2 (Nuh z)))) (.ops [mT 15 8,Bc 16 .add 15 1,mT 8 16])))
def Nzb (z:Ids):ACode:=(Oz [mT 10 1,Bc 11 .add 10 1,mT 8 11] (Bl 0 (Nlo z)))
def aINS (z:Ids):AFunc:=⟨53,[],Nzb z⟩
theorem Niq {z:Ids}:(aINS z).ntmps=53:=id rfl
theorem N26 {z:Ids}:(aINS z).results=[]:=rfl
theorem N33 {z:Ids}:(aINS z).body=Nzb z:=rfl
def Nnm (z:Ids):ACode:=(.block 1 (Oz [mT 13 10,i 14 (.bin .mul (zT 2) (t 13)),Bc 15 .add 14 1,mT 11 15] (.seq (Oz [mT 16 11,mT 17 2,Bt 18 .geq 16 17] (.cond (t 18) (.exit 0) .skip)) (.seq (Ds 0 [mT 19 11,Bc 20 .add 19 1,mT 21 2,Bt 22 .lss 20 21,mT 23 22,⟨(some 24),(some (23,true)),(.mov (t 4)),none,[]⟩,⟨(some 25),(some (23,true)),(.mov (t 0)),none,[]⟩,⟨(some 26),(some (23,true)),(.mov (t 3)),none,[]⟩,⟨(some 27),(some (23,true)),(.mov (t 11)),none,[]⟩,⟨(some 28),(some (23,true)),(.bin .add (t 26) (t 27)),none,[]⟩,⟨(some 29),(some (23,true)),(.idxAddrS z.e (t 25) (t 28)),none,[]⟩,⟨(some 30),(some (23,true)),(.loadN z.e (t 29)),none,[]⟩,⟨(some 31),(some (23,true)),(.mov (t 0)),none,[]⟩,⟨(some 32),(some (23,true)),(.mov (t 3)),none,[]⟩,⟨(some 33),(some (23,true)),(.mov (t 11)),none,[]⟩,⟨(some 34),(some (23,true)),(.bin .add (t 32) (t 33)),none,[]⟩,⟨(some 35),(some (23,true)),(.bin .add (t 34) (zT 1)),none,[]⟩,⟨(some 36),(some (23,true)),(.idxAddrS z.e (t 31) (t 35)),none,[]⟩,⟨(some 37),(some (23,true)),(.loadN z.e (t 36)),none,[]⟩,⟨(some 38),(some (23,true)),(.call .pure (t 24) [(t 30),(t 37)]),none,[]⟩,⟨(some 39),(some (23,true)),(.bin .lss (t 38) (zT 0)),none,[]⟩,At 40 23 39] (.cond (t 40) (.ops [mT 41 11,Bc 42 .add 41 1,mT 11 42]) .skip)) (.seq (Ds 0 [mT 43 4,mT 44 0,mT 45 3,mT 46 10,Bt 47 .add 45 46,i 48 (.idxAddrS z.e (t 44) (t 47)),i 49 (.loadN z.e (t 48)),mT 50 0,mT 51 3,mT 52 11,Bt 53 .add 51 52,i 54 (.idxAddrS z.e (t 50) (t 53)),i 55 (.loadN z.e (t 54)),i 56 (.call .pure (t 43) [(t 49),(t 55)]),Bc 57 .lss 56 0,Ut 58 57] (.cond (t 58) .ret .skip)) (Ds 0 [mT 59 0,mT 60 3,mT 61 10,Bt 62 .add 60 61,mT 63 0,mT 64 3,mT 65 11,Bt 66 .add 64 65,mT 67 0,mT 68 3,mT 69 11,Bt 70 .add 68 69,i 71 (.idxAddrS z.e (t 67) (t 70)),i 72 (.loadN z.e (t 71)),mT 73 0,mT 74 3,mT 75 10,Bt 76 .add 74 75,i 77 (.idxAddrS z.e (t 73) (t 76)),i 78 (.loadN z.e (t 77)),i 79 (.idxAddrS z.e (t 59) (t 62)),⟨none,none,(.store z.e (t 79) (t 72)),none,[]⟩,i 80 (.idxAddrS z.e (t 63) (t 66)),⟨none,none,(.store z.e (t 80) (t 78)),none,[]⟩] (.ops [mT 81 11,mT 10 81])))))))
def Nwr (z:Ids):ACode:=(Oz [mT 12 1,mT 10 12] (Bl 0 (Nnm z)))
def aSIFT (z:Ids):AFunc:=⟨82,[],Nwr z⟩
theorem Naa {z:Ids}:(aSIFT z).ntmps=82:=id rfl
theorem Nm3 {z:Ids}:(aSIFT z).results=[]:=rfl
theorem N3y {z:Ids}:(aSIFT z).body=Nwr z:=rfl
def Nnt (z:Ids):ACode:=(.seq (Oz [mT 32 12,Bc 33 .geq 32 0] (Ce 33 2)) (.seq (.block 3 (Ds 0 [mT 36 0,mT 37 8,mT 38 0,mT 39 8,mT 40 12,Bt 41 .add 39 40,mT 42 0,mT 43 8,mT 44 12,Bt 45 .add 43 44,i 46 (.idxAddrS z.e (t 42) (t 45)),i 47 (.loadN z.e (t 46)),mT 48 0,mT 49 8,i 50 (.idxAddrS z.e (t 48) (t 49)),i 51 (.loadN z.e (t 50)),i 52 (.idxAddrS z.e (t 36) (t 37)),⟨none,none,(.store z.e (t 52) (t 47)),none,[]⟩,i 53 (.idxAddrS z.e (t 38) (t 41)),⟨none,none,(.store z.e (t 53) (t 51)),none,[]⟩] (.ops [mT 54 0,mT 55 9,mT 56 12,mT 57 8,mT 58 3,i 59 (.call .any (.func z.SIFT) [(t 54),(t 55),(t 56),(t 57),(t 58)])]))) (.ops [mT 34 12,Bc 35 .sub 34 1,mT 12 35])))
def Nns (z:Ids):ACode:=(.seq (Oz [mT 20 11,Bc 21 .geq 20 0] (Ce 21 0)) (.seq (.block 1 (.ops [mT 24 0,mT 25 11,mT 26 10,mT 27 8,mT 28 3,i 29 (.call .any (.func z.SIFT) [(t 24),(t 25),(t 26),(t 27),(t 28)])])) (.ops [mT 22 11,Bc 23 .sub 22 1,mT 11 23])))
def Nwv (z:Ids):ACode:=(Oz [mT 13 1,mT 8 13] (Oz [Zm 9 0] (Oz [mT 14 2,mT 15 1,Bt 16 .sub 14 15,mT 10 16] (.seq (Oz [mT 17 10,Bc 18 .sub 17 1,Bc 19 .quo 18 2,mT 11 19] (Bl 0 (Nns z))) (Oz [mT 30 10,Bc 31 .sub 30 1,mT 12 31] (Bl 2 (Nnt z)))))))
def aHEAP (z:Ids):AFunc:=⟨60,[],Nwv z⟩
theorem Nir {z:Ids}:(aHEAP z).ntmps=60:=id rfl
theorem N27 {z:Ids}:(aHEAP z).results=[]:=rfl
theorem N34 {z:Ids}:(aHEAP z).body=Nwv z:=rfl
def Nui (z:Ids):ACode:=(.seq (Oz [mT 28 11,mT 29 1,mT 30 8,Bc 31 .quo 30 4,Bc 32 .mul 31 2,Bt 33 .add 29 32,Bc 34 .add 33 1,Bt 35 .leq 28 34] (Ce 35 0)) (.seq (.block 1 (Oz [i 38 (.call .any (.func z.XOR) [(t 9)]),mT 39 10,i 40 (.bin .sub (t 39) (k (.int .u64 1))),Bt 41 .and 38 40,i 42 (.conv .i64 (t 41)),mT 12 42] (.seq (Oz [mT 43 12,mT 44 8,Bt 45 .geq 43 44] (.cond (t 45) (.ops [mT 46 12,mT 47 8,Bt 48 .sub 46 47,mT 12 48]) .skip)) (.drawn 0 [mT 49 0,mT 50 11,mT 51 0,mT 52 1,mT 53 12,Bt 54 .add 52 53,mT 55 0,mT 56 1,mT 57 12,Bt 58 .add 56 57,i 59 (.idxAddrS z.e (t 55) (t 58)),i 60 (.loadN z.e (t 59)),mT 61 0,mT 62 11,i 63 (.idxAddrS z.e (t 61) (t 62)),i 64 (.loadN z.e (t 63)),i 65 (.idxAddrS z.e (t 49) (t 50)),⟨none,none,(.store z.e (t 65) (t 60)),none,[]⟩,i 66 (.idxAddrS z.e (t 51) (t 54)),⟨none,none,(.store z.e (t 66) (t 64)),none,[]⟩])))) (.ops [mT 36 11,Bc 37 .add 36 1,mT 11 37])))
def N2i (z:Ids):ACode:=(Oz [mT 13 2,mT 14 1,Bt 15 .sub 13 14,mT 8 15] (Oz [mT 16 8,Bc 17 .geq 16 8] (.cond (t 17) (Oz [mT 18 8,i 19 (.conv .u64 (t 18)),i 9 (.alloc [(.int .u64 0)]),⟨none,none,(.store 1 (t 9) (t 19)),none,[]⟩] (Oz [mT 20 8,i 21 (.call .any (.func z.NPT) [(t 20)]),mT 10 21] (Oz [mT 22 1,mT 23 8,Bc 24 .quo 23 4,Bc 25 .mul 24 2,Bt 26 .add 22 25,Bc 27 .sub 26 1,mT 11 27] (Bl 0 (Nui z))))) .skip)))
def aBRK (z:Ids):AFunc:=⟨67,[],N2i z⟩
theorem Nx7 {z:Ids}:(aBRK z).ntmps=67:=id rfl
theorem N49 {z:Ids}:(aBRK z).results=[]:=rfl
theorem N5y {z:Ids}:(aBRK z).body=N2i z:=rfl
def Nzc (z:Ids):ACode:=(Oz [Zm 8 0,Zm 9 0] (Oz [mT 15 2,mT 16 1,Bt 17 .sub 15 16,mT 10 17] (Oz [i 11 (.alloc [(Vi 0)])] (Oz [mT 18 1,mT 19 10,Bc 20 .quo 19 4,Bc 21 .mul 20 1,Bt 22 .add 18 21,mT 12 22] (Oz [mT 23 1,mT 24 10,Bc 25 .quo 24 4,Bc 26 .mul 25 2,Bt 27 .add 23 26,mT 13 27] (Oz [mT 28 1,mT 29 10,Bc 30 .quo 29 4,Bc 31 .mul 30 3,Bt 32 .add 28 31,mT 14 32] (.seq (Oz [mT 33 10,Bc 34 .geq 33 8] (.cond (t 34) (.seq (Oz [mT 35 10,Bc 36 .geq 35 50] (.cond (t 36) (Oz [mT 37 0,mT 38 12,mT 39 3,i 40 (.call .any (.func z.MEDA) [(t 37),(t 38),(t 11),(t 39)]),mT 12 40] (Oz [mT 41 0,mT 42 13,mT 43 3,i 44 (.call .any (.func z.MEDA) [(t 41),(t 42),(t 11),(t 43)]),mT 13 44] (.ops [mT 45 0,mT 46 14,mT 47 3,i 48 (.call .any (.func z.MEDA) [(t 45),(t 46),(t 11),(t 47)]),mT 14 48]))) .skip)) (.ops [mT 49 0,mT 50 12,mT 51 13,mT 52 14,mT 53 3,i 54 (.call .any (.func z.MED) [(t 49),(t 50),(t 51),(t 52),(t 11),(t 53)]),mT 13 54])) .skip)) (Oz [lT 55 11] (.block 0 (Oz [Bc 58 .eql 55 0,mT 57 58] (.cond (t 57) (Oz [mT 59 13,mT 8 59,Zm 9 1] .ret) (Oz [Bc 61 .eql 55 12,mT 60 61] (.cond (t 60) (Oz [mT 62 13,mT 8 62,Zm 9 2] .ret) (Oz [mT 56 13,mT 8 56,Zm 9 0] .ret))))))))))))))
def aCHO (z:Ids):AFunc:=⟨63,[(.tmp 8),(.tmp 9)],Nzc z⟩
theorem Nqa {z:Ids}:(aCHO z).ntmps=63:=id rfl
theorem Npc {z:Ids}:(aCHO z).results=[(.tmp 8),(.tmp 9)]:=rfl
theorem N35 {z:Ids}:(aCHO z).body=Nzc z:=rfl
def Nua (z:Ids):ACode:=(.seq (Oz [mT 13 8,mT 14 9,Bt 15 .lss 13 14] (Ce 15 0)) (.block 1 (Ds 0 [mT 16 0,mT 17 8,mT 18 0,mT 19 9,mT 20 0,mT 21 9,i 22 (.idxAddrS z.e (t 20) (t 21)),i 23 (.loadN z.e (t 22)),mT 24 0,mT 25 8,i 26 (.idxAddrS z.e (t 24) (t 25)),i 27 (.loadN z.e (t 26)),i 28 (.idxAddrS z.e (t 16) (t 17)),⟨none,none,(.store z.e (t 28) (t 23)),none,[]⟩,i 29 (.idxAddrS z.e (t 18) (t 19)),⟨none,none,(.store z.e (t 29) (t 27)),none,[]⟩] (Oz [mT 30 8,Bc 31 .add 30 1,mT 8 31] (.ops [mT 32 9,Bc 33 .sub 32 1,mT 9 33])))))
def N2d (z:Ids):ACode:=(Oz [mT 10 1,mT 8 10] (Oz [mT 11 2,Bc 12 .sub 11 1,mT 9 12] (Bl 0 (Nua z))))
def aREV (z:Ids):AFunc:=⟨34,[],N2d z⟩
theorem N1m {z:Ids}:(aREV z).ntmps=34:=id rfl
theorem N45 {z:Ids}:(aREV z).results=[]:=rfl
theorem N5t {z:Ids}:(aREV z).body=N2d z:=rfl
def Ngq (z:Ids):ACode:=(.seq (Oz [mT 107 12,mT 108 2,Bt 109 .lss 107 108] (Ce 109 6)) (.seq (.block 7 (.seq (Ds 0 [mT 112 3,mT 113 0,mT 114 12,i 115 (.idxAddrS z.e (t 113) (t 114)),i 116 (.loadN z.e (t 115)),mT 117 0,mT 118 12,Bc 119 .sub 118 1,i 120 (.idxAddrS z.e (t 117) (t 119)),i 121 (.loadN z.e (t 120)),i 122 (.call .pure (t 112) [(t 116),(t 121)]),Bc 123 .lss 122 0,Ut 124 123] (.cond (t 124) (.exit 6) .skip)) (.drawn 0 [mT 125 0,mT 126 12,mT 127 0,mT 128 12,Bc 129 .sub 128 1,mT 130 0,mT 131 12,Bc 132 .sub 131 1,i 133 (.idxAddrS z.e (t 130) (t 132)),i 134 (.loadN z.e (t 133)),mT 135 0,mT 136 12,i 137 (.idxAddrS z.e (t 135) (t 136)),i 138 (.loadN z.e (t 137)),i 139 (.idxAddrS z.e (t 125) (t 126)),⟨none,none,(.store z.e (t 139) (t 134)),none,[]⟩,i 140 (.idxAddrS z.e (t 127) (t 129)),⟨none,none,(.store z.e (t 140) (t 138)),none,[]⟩]))) (.ops [mT 110 12,Bc 111 .add 110 1,mT 12 111])))
def Nud (z:Ids):ACode:=(.seq (Oz [mT 68 11,Bc 69 .geq 68 1] (Ce 69 4)) (.seq (.block 5 (.seq (Ds 0 [mT 72 3,mT 73 0,mT 74 11,i 75 (.idxAddrS z.e (t 73) (t 74)),i 76 (.loadN z.e (t 75)),mT 77 0,mT 78 11,Bc 79 .sub 78 1,i 80 (.idxAddrS z.e (t 77) (t 79)),i 81 (.loadN z.e (t 80)),i 82 (.call .pure (t 72) [(t 76),(t 81)]),Bc 83 .lss 82 0,Ut 84 83] (.cond (t 84) (.exit 4) .skip)) (.drawn 0 [mT 85 0,mT 86 11,mT 87 0,mT 88 11,Bc 89 .sub 88 1,mT 90 0,mT 91 11,Bc 92 .sub 91 1,i 93 (.idxAddrS z.e (t 90) (t 92)),i 94 (.loadN z.e (t 93)),mT 95 0,mT 96 11,i 97 (.idxAddrS z.e (t 95) (t 96)),i 98 (.loadN z.e (t 97)),i 99 (.idxAddrS z.e (t 85) (t 86)),⟨none,none,(.store z.e (t 99) (t 94)),none,[]⟩,i 100 (.idxAddrS z.e (t 87) (t 89)),⟨none,none,(.store z.e (t 100) (t 98)),none,[]⟩]))) (.ops [mT 70 11,Bc 71 .sub 70 1,mT 11 71])))
def Nuc (z:Ids):ACode:=(.seq (Ds 0 [mT 19 9,mT 20 2,Bt 21 .lss 19 20,mT 22 21,⟨(some 23),(some (22,true)),(.mov (t 3)),none,[]⟩,⟨(some 24),(some (22,true)),(.mov (t 0)),none,[]⟩,⟨(some 25),(some (22,true)),(.mov (t 9)),none,[]⟩,⟨(some 26),(some (22,true)),(.idxAddrS z.e (t 24) (t 25)),none,[]⟩,⟨(some 27),(some (22,true)),(.loadN z.e (t 26)),none,[]⟩,⟨(some 28),(some (22,true)),(.mov (t 0)),none,[]⟩,⟨(some 29),(some (22,true)),(.mov (t 9)),none,[]⟩,⟨(some 30),(some (22,true)),(.bin .sub (t 29) (zT 1)),none,[]⟩,⟨(some 31),(some (22,true)),(.idxAddrS z.e (t 28) (t 30)),none,[]⟩,⟨(some 32),(some (22,true)),(.loadN z.e (t 31)),none,[]⟩,⟨(some 33),(some (22,true)),(.call .pure (t 23) [(t 27),(t 32)]),none,[]⟩,⟨(some 34),(some (22,true)),(.bin .lss (t 33) (zT 0)),none,[]⟩,⟨(some 35),(some (22,true)),(.un .not (t 34)),none,[]⟩,At 36 22 35] (Ce 36 2)) (.block 3 (.ops [mT 37 9,Bc 38 .add 37 1,mT 9 38])))
def Nub (z:Ids):ACode:=(.seq (Oz [mT 15 10,Bc 16 .lss 15 5] (Ce 16 0)) (.seq (.block 1 (.seq (Bl 2 (Nuc z)) (.seq (Oz [mT 39 9,mT 40 2,Bt 41 .eql 39 40] (.cond (t 41) (Oz [i 8 (.mov (k (.bool true)))] .ret) .skip)) (.seq (Oz [mT 42 2,mT 43 1,Bt 44 .sub 42 43,Bc 45 .lss 44 50] (.cond (t 45) (Oz [i 8 (.mov (k (.bool false)))] .ret) .skip)) (Ds 0 [mT 46 0,mT 47 9,mT 48 0,mT 49 9,Bc 50 .sub 49 1,mT 51 0,mT 52 9,Bc 53 .sub 52 1,i 54 (.idxAddrS z.e (t 51) (t 53)),i 55 (.loadN z.e (t 54)),mT 56 0,mT 57 9,i 58 (.idxAddrS z.e (t 56) (t 57)),i 59 (.loadN z.e (t 58)),i 60 (.idxAddrS z.e (t 46) (t 47)),⟨none,none,(.store z.e (t 60) (t 55)),none,[]⟩,i 61 (.idxAddrS z.e (t 48) (t 50)),⟨none,none,(.store z.e (t 61) (t 59)),none,[]⟩] (.seq (Oz [mT 62 9,mT 63 1,Bt 64 .sub 62 63,Bc 65 .geq 64 2] (.cond (t 65) (Oz [mT 66 9,Bc 67 .sub 66 1,mT 11 67] (Bl 4 (Nud z))) .skip)) (Oz [mT 101 2,mT 102 9,Bt 103 .sub 101 102,Bc 104 .geq 103 2] (.cond (t 104) (Oz [mT 105 9,Bc 106 .add 105 1,mT 12 106] (Bl 6 (Ngq z))) .skip)))))))) (.ops [mT 17 10,Bc 18 .add 17 1,mT 10 18])))
def N2e (z:Ids):ACode:=(Oz [i 8 (.mov (k (.bool false)))] (Oz [mT 13 1,Bc 14 .add 13 1,mT 9 14] (.seq (Oz [Zm 10 0] (Bl 0 (Nub z))) (Oz [i 8 (.mov (k (.bool false)))] .ret))))
def aPIS (z:Ids):AFunc:=⟨141,[(.tmp 8)],N2e z⟩
theorem VH {z:Ids}:(aPIS z).ntmps=141:=id rfl
theorem N05 {z:Ids}:(aPIS z).results=[(.tmp 8)]:=rfl
theorem N5u {z:Ids}:(aPIS z).body=N2e z:=rfl
def Nug (z:Ids):ACode:=(.seq (Ds 0 [mT 50 11,mT 51 12,Bt 52 .leq 50 51,mT 53 52,⟨(some 54),(some (53,true)),(.mov (t 4)),none,[]⟩,⟨(some 55),(some (53,true)),(.mov (t 0)),none,[]⟩,⟨(some 56),(some (53,true)),(.mov (t 1)),none,[]⟩,⟨(some 57),(some (53,true)),(.idxAddrS z.e (t 55) (t 56)),none,[]⟩,⟨(some 58),(some (53,true)),(.loadN z.e (t 57)),none,[]⟩,⟨(some 59),(some (53,true)),(.mov (t 0)),none,[]⟩,⟨(some 60),(some (53,true)),(.mov (t 12)),none,[]⟩,⟨(some 61),(some (53,true)),(.idxAddrS z.e (t 59) (t 60)),none,[]⟩,⟨(some 62),(some (53,true)),(.loadN z.e (t 61)),none,[]⟩,⟨(some 63),(some (53,true)),(.call .pure (t 54) [(t 58),(t 62)]),none,[]⟩,⟨(some 64),(some (53,true)),(.bin .lss (t 63) (zT 0)),none,[]⟩,At 65 53 64] (Ce 65 4)) (.block 5 (.ops [mT 66 12,Bc 67 .sub 66 1,mT 12 67])))
def Nuf (z:Ids):ACode:=(.seq (Ds 0 [mT 31 11,mT 32 12,Bt 33 .leq 31 32,mT 34 33,⟨(some 35),(some (34,true)),(.mov (t 4)),none,[]⟩,⟨(some 36),(some (34,true)),(.mov (t 0)),none,[]⟩,⟨(some 37),(some (34,true)),(.mov (t 1)),none,[]⟩,⟨(some 38),(some (34,true)),(.idxAddrS z.e (t 36) (t 37)),none,[]⟩,⟨(some 39),(some (34,true)),(.loadN z.e (t 38)),none,[]⟩,⟨(some 40),(some (34,true)),(.mov (t 0)),none,[]⟩,⟨(some 41),(some (34,true)),(.mov (t 11)),none,[]⟩,⟨(some 42),(some (34,true)),(.idxAddrS z.e (t 40) (t 41)),none,[]⟩,⟨(some 43),(some (34,true)),(.loadN z.e (t 42)),none,[]⟩,⟨(some 44),(some (34,true)),(.call .pure (t 35) [(t 39),(t 43)]),none,[]⟩,⟨(some 45),(some (34,true)),(.bin .lss (t 44) (zT 0)),none,[]⟩,⟨(some 46),(some (34,true)),(.un .not (t 45)),none,[]⟩,At 47 34 46] (Ce 47 2)) (.block 3 (.ops [mT 48 11,Bc 49 .add 48 1,mT 11 49])))
def Nue (z:Ids):ACode:=(.block 1 (.seq (Bl 2 (Nuf z)) (.seq (Bl 4 (Nug z)) (.seq (Oz [mT 68 11,mT 69 12,Bt 70 .gtr 68 69] (.cond (t 70) (.exit 0) .skip)) (Ds 0 [mT 71 0,mT 72 11,mT 73 0,mT 74 12,mT 75 0,mT 76 12,i 77 (.idxAddrS z.e (t 75) (t 76)),i 78 (.loadN z.e (t 77)),mT 79 0,mT 80 11,i 81 (.idxAddrS z.e (t 79) (t 80)),i 82 (.loadN z.e (t 81)),i 83 (.idxAddrS z.e (t 71) (t 72)),⟨none,none,(.store z.e (t 83) (t 78)),none,[]⟩,i 84 (.idxAddrS z.e (t 73) (t 74)),⟨none,none,(.store z.e (t 84) (t 82)),none,[]⟩] (Oz [mT 85 11,Bc 86 .add 85 1,mT 11 86] (.ops [mT 87 12,Bc 88 .sub 87 1,mT 12 88])))))))
def N2f (z:Ids):ACode:=(Oz [Zm 10 0] (Ds 0 [mT 13 0,mT 14 1,mT 15 0,mT 16 3,mT 17 0,mT 18 3,i 19 (.idxAddrS z.e (t 17) (t 18)),i 20 (.loadN z.e (t 19)),mT 21 0,mT 22 1,i 23 (.idxAddrS z.e (t 21) (t 22)),i 24 (.loadN z.e (t 23)),i 25 (.idxAddrS z.e (t 13) (t 14)),⟨none,none,(.store z.e (t 25) (t 20)),none,[]⟩,i 26 (.idxAddrS z.e (t 15) (t 16)),⟨none,none,(.store z.e (t 26) (t 24)),none,[]⟩] (Oz [mT 27 1,Bc 28 .add 27 1,mT 29 2,Bc 30 .sub 29 1,mT 11 28,mT 12 30] (.seq (Bl 0 (Nue z)) (Oz [mT 89 11,mT 10 89] .ret)))))
def aPEQ (z:Ids):AFunc:=⟨90,[(.tmp 10)],N2f z⟩
theorem Nla {z:Ids}:(aPEQ z).ntmps=90:=id rfl
theorem N46 {z:Ids}:(aPEQ z).results=[(.tmp 10)]:=rfl
theorem N5v {z:Ids}:(aPEQ z).body=N2f z:=rfl
def Nnr (z:Ids):ACode:=(.seq (Ds 0 [mT 123 12,mT 124 13,Bt 125 .leq 123 124,mT 126 125,⟨(some 127),(some (126,true)),(.mov (t 4)),none,[]⟩,⟨(some 128),(some (126,true)),(.mov (t 0)),none,[]⟩,⟨(some 129),(some (126,true)),(.mov (t 13)),none,[]⟩,⟨(some 130),(some (126,true)),(.idxAddrS z.e (t 128) (t 129)),none,[]⟩,⟨(some 131),(some (126,true)),(.loadN z.e (t 130)),none,[]⟩,⟨(some 132),(some (126,true)),(.mov (t 0)),none,[]⟩,⟨(some 133),(some (126,true)),(.mov (t 1)),none,[]⟩,⟨(some 134),(some (126,true)),(.idxAddrS z.e (t 132) (t 133)),none,[]⟩,⟨(some 135),(some (126,true)),(.loadN z.e (t 134)),none,[]⟩,⟨(some 136),(some (126,true)),(.call .pure (t 127) [(t 131),(t 135)]),none,[]⟩,⟨(some 137),(some (126,true)),(.bin .lss (t 136) (zT 0)),none,[]⟩,⟨(some 138),(some (126,true)),(.un .not (t 137)),none,[]⟩,At 139 126 138] (Ce 139 8)) (.block 9 (.ops [mT 140 13,Bc 141 .sub 140 1,mT 13 141])))
def Nnq (z:Ids):ACode:=(.seq (Ds 0 [mT 105 12,mT 106 13,Bt 107 .leq 105 106,mT 108 107,⟨(some 109),(some (108,true)),(.mov (t 4)),none,[]⟩,⟨(some 110),(some (108,true)),(.mov (t 0)),none,[]⟩,⟨(some 111),(some (108,true)),(.mov (t 12)),none,[]⟩,⟨(some 112),(some (108,true)),(.idxAddrS z.e (t 110) (t 111)),none,[]⟩,⟨(some 113),(some (108,true)),(.loadN z.e (t 112)),none,[]⟩,⟨(some 114),(some (108,true)),(.mov (t 0)),none,[]⟩,⟨(some 115),(some (108,true)),(.mov (t 1)),none,[]⟩,⟨(some 116),(some (108,true)),(.idxAddrS z.e (t 114) (t 115)),none,[]⟩,⟨(some 117),(some (108,true)),(.loadN z.e (t 116)),none,[]⟩,⟨(some 118),(some (108,true)),(.call .pure (t 109) [(t 113),(t 117)]),none,[]⟩,⟨(some 119),(some (108,true)),(.bin .lss (t 118) (zT 0)),none,[]⟩,At 120 108 119] (Ce 120 6)) (.block 7 (.ops [mT 121 12,Bc 122 .add 121 1,mT 12 122])))
def Nnp (z:Ids):ACode:=(.block 5 (.seq (Bl 6 (Nnq z)) (.seq (Bl 8 (Nnr z)) (.seq (Oz [mT 142 12,mT 143 13,Bt 144 .gtr 142 143] (.cond (t 144) (.exit 4) .skip)) (Ds 0 [mT 145 0,mT 146 12,mT 147 0,mT 148 13,mT 149 0,mT 150 13,i 151 (.idxAddrS z.e (t 149) (t 150)),i 152 (.loadN z.e (t 151)),mT 153 0,mT 154 12,i 155 (.idxAddrS z.e (t 153) (t 154)),i 156 (.loadN z.e (t 155)),i 157 (.idxAddrS z.e (t 145) (t 146)),⟨none,none,(.store z.e (t 157) (t 152)),none,[]⟩,i 158 (.idxAddrS z.e (t 147) (t 148)),⟨none,none,(.store z.e (t 158) (t 156)),none,[]⟩] (Oz [mT 159 12,Bc 160 .add 159 1,mT 12 160] (.ops [mT 161 13,Bc 162 .sub 161 1,mT 13 162])))))))
def Nno (z:Ids):ACode:=(.seq (Ds 0 [mT 50 12,mT 51 13,Bt 52 .leq 50 51,mT 53 52,⟨(some 54),(some (53,true)),(.mov (t 4)),none,[]⟩,⟨(some 55),(some (53,true)),(.mov (t 0)),none,[]⟩,⟨(some 56),(some (53,true)),(.mov (t 13)),none,[]⟩,⟨(some 57),(some (53,true)),(.idxAddrS z.e (t 55) (t 56)),none,[]⟩,⟨(some 58),(some (53,true)),(.loadN z.e (t 57)),none,[]⟩,⟨(some 59),(some (53,true)),(.mov (t 0)),none,[]⟩,⟨(some 60),(some (53,true)),(.mov (t 1)),none,[]⟩,⟨(some 61),(some (53,true)),(.idxAddrS z.e (t 59) (t 60)),none,[]⟩,⟨(some 62),(some (53,true)),(.loadN z.e (t 61)),none,[]⟩,⟨(some 63),(some (53,true)),(.call .pure (t 54) [(t 58),(t 62)]),none,[]⟩,⟨(some 64),(some (53,true)),(.bin .lss (t 63) (zT 0)),none,[]⟩,⟨(some 65),(some (53,true)),(.un .not (t 64)),none,[]⟩,At 66 53 65] (Ce 66 2)) (.block 3 (.ops [mT 67 13,Bc 68 .sub 67 1,mT 13 68])))
def Nnn (z:Ids):ACode:=(.seq (Ds 0 [mT 32 12,mT 33 13,Bt 34 .leq 32 33,mT 35 34,⟨(some 36),(some (35,true)),(.mov (t 4)),none,[]⟩,⟨(some 37),(some (35,true)),(.mov (t 0)),none,[]⟩,⟨(some 38),(some (35,true)),(.mov (t 12)),none,[]⟩,⟨(some 39),(some (35,true)),(.idxAddrS z.e (t 37) (t 38)),none,[]⟩,⟨(some 40),(some (35,true)),(.loadN z.e (t 39)),none,[]⟩,⟨(some 41),(some (35,true)),(.mov (t 0)),none,[]⟩,⟨(some 42),(some (35,true)),(.mov (t 1)),none,[]⟩,⟨(some 43),(some (35,true)),(.idxAddrS z.e (t 41) (t 42)),none,[]⟩,⟨(some 44),(some (35,true)),(.loadN z.e (t 43)),none,[]⟩,⟨(some 45),(some (35,true)),(.call .pure (t 36) [(t 40),(t 44)]),none,[]⟩,⟨(some 46),(some (35,true)),(.bin .lss (t 45) (zT 0)),none,[]⟩,At 47 35 46] (Ce 47 0)) (.block 1 (.ops [mT 48 12,Bc 49 .add 48 1,mT 12 49])))
def Nwt (z:Ids):ACode:=(Oz [Zm 10 0,i 11 (.mov (k (.bool false)))] (Ds 0 [mT 14 0,mT 15 1,mT 16 0,mT 17 3,mT 18 0,mT 19 3,i 20 (.idxAddrS z.e (t 18) (t 19)),i 21 (.loadN z.e (t 20)),mT 22 0,mT 23 1,i 24 (.idxAddrS z.e (t 22) (t 23)),i 25 (.loadN z.e (t 24)),i 26 (.idxAddrS z.e (t 14) (t 15)),⟨none,none,(.store z.e (t 26) (t 21)),none,[]⟩,i 27 (.idxAddrS z.e (t 16) (t 17)),⟨none,none,(.store z.e (t 27) (t 25)),none,[]⟩] (Oz [mT 28 1,Bc 29 .add 28 1,mT 30 2,Bc 31 .sub 30 1,mT 12 29,mT 13 31] (.seq (Bl 0 (Nnn z)) (.seq (Bl 2 (Nno z)) (.seq (Oz [mT 69 12,mT 70 13,Bt 71 .gtr 69 70] (.cond (t 71) (Ds 0 [mT 72 0,mT 73 13,mT 74 0,mT 75 1,mT 76 0,mT 77 1,i 78 (.idxAddrS z.e (t 76) (t 77)),i 79 (.loadN z.e (t 78)),mT 80 0,mT 81 13,i 82 (.idxAddrS z.e (t 80) (t 81)),i 83 (.loadN z.e (t 82)),i 84 (.idxAddrS z.e (t 72) (t 73)),⟨none,none,(.store z.e (t 84) (t 79)),none,[]⟩,i 85 (.idxAddrS z.e (t 74) (t 75)),⟨none,none,(.store z.e (t 85) (t 83)),none,[]⟩] (Oz [mT 86 13,mT 10 86,i 11 (.mov (k (.bool true)))] .ret)) .skip)) (Ds 0 [mT 87 0,mT 88 12,mT 89 0,mT 90 13,mT 91 0,mT 92 13,i 93 (.idxAddrS z.e (t 91) (t 92)),i 94 (.loadN z.e (t 93)),mT 95 0,mT 96 12,i 97 (.idxAddrS z.e (t 95) (t 96)),i 98 (.loadN z.e (t 97)),i 99 (.idxAddrS z.e (t 87) (t 88)),⟨none,none,(.store z.e (t 99) (t 94)),none,[]⟩,i 100 (.idxAddrS z.e (t 89) (t 90)),⟨none,none,(.store z.e (t 100) (t 98)),none,[]⟩] (Oz [mT 101 12,Bc 102 .add 101 1,mT 12 102] (Oz [mT 103 13,Bc 104 .sub 103 1,mT 13 104] (.seq (Bl 4 (Nnp z)) (Ds 0 [mT 163 0,mT 164 13,mT 165 0,mT 166 1,mT 167 0,mT 168 1,i 169 (.idxAddrS z.e (t 167) (t 168)),i 170 (.loadN z.e (t 169)),mT 171 0,mT 172 13,i 173 (.idxAddrS z.e (t 171) (t 172)),i 174 (.loadN z.e (t 173)),i 175 (.idxAddrS z.e (t 163) (t 164)),⟨none,none,(.store z.e (t 175) (t 170)),none,[]⟩,i 176 (.idxAddrS z.e (t 165) (t 166)),⟨none,none,(.store z.e (t 176) (t 174)),none,[]⟩] (Oz [mT 177 13,mT 10 177,i 11 (.mov (k (.bool false)))] .ret))))))))))))
def aPART (z:Ids):AFunc:=⟨178,[(.tmp 10),(.tmp 11)],Nwt z⟩
theorem WP {z:Ids}:(aPART z).ntmps=178:=id rfl
theorem Nzv {z:Ids}:(aPART z).results=[(.tmp 10),(.tmp 11)]:=rfl
theorem N3z {z:Ids}:(aPART z).body=Nwt z:=rfl
def TD (z:Ids):ACode:=(.block 1 (Oz [mT 21 2,mT 22 1,Bt 23 .sub 21 22,mT 12 23] (.seq (Oz [mT 24 12,Bc 25 .leq 24 12] (.cond (t 25) (Oz [mT 26 0,mT 27 1,mT 28 2,mT 29 4,i 30 (.call .any (.func z.INS) [(t 26),(t 27),(t 28),(t 29)])] .ret) .skip)) (.seq (Oz [mT 31 3,Bc 32 .eql 31 0] (.cond (t 32) (Oz [mT 33 0,mT 34 1,mT 35 2,mT 36 4,i 37 (.call .any (.func z.HEAP) [(t 33),(t 34),(t 35),(t 36)])] .ret) .skip)) (.seq (Oz [mT 38 10,Ut 39 38] (.cond (t 39) (Oz [mT 40 0,mT 41 1,mT 42 2,mT 43 4,i 44 (.call .any (.func z.BRK) [(t 40),(t 41),(t 42),(t 43)])] (.ops [mT 45 3,Bc 46 .sub 45 1,mT 3 46])) .skip)) (Oz [mT 48 0,mT 49 1,mT 50 2,mT 51 4,i 52 (.call .any (.func z.CHO) [(t 48),(t 49),(t 50),(t 51)]),mT 47 52,Et 53 0 47,Et 54 1 47,mT 13 53,mT 14 54] (.seq (Oz [mT 55 14,Bc 56 .eql 55 2] (.cond (t 56) (Oz [mT 57 0,mT 58 1,mT 59 2,mT 60 4,i 61 (.call .any (.func z.REV) [(t 57),(t 58),(t 59),(t 60)])] (Oz [mT 62 2,Bc 63 .sub 62 1,mT 64 13,mT 65 1,Bt 66 .sub 64 65,Bt 67 .sub 63 66,mT 13 67] (.ops [Zm 14 1]))) .skip)) (.seq (Oz [mT 68 10,mT 69 68,⟨(some 70),(some (69,true)),(.mov (t 11)),none,[]⟩,At 71 69 70,mT 72 71,⟨(some 73),(some (72,true)),(.mov (t 14)),none,[]⟩,⟨(some 74),(some (72,true)),(.bin .eql (t 73) (zT 1)),none,[]⟩,At 75 72 74] (.cond (t 75) (Oz [mT 76 0,mT 77 1,mT 78 2,mT 79 4,i 80 (.call .any (.func z.PIS) [(t 76),(t 77),(t 78),(t 79)])] (.cond (t 80) .ret .skip)) .skip)) (.seq (Ds 0 [mT 81 1,Bc 82 .gtr 81 0,mT 83 82,⟨(some 84),(some (83,true)),(.mov (t 4)),none,[]⟩,⟨(some 85),(some (83,true)),(.mov (t 0)),none,[]⟩,⟨(some 86),(some (83,true)),(.mov (t 1)),none,[]⟩,⟨(some 87),(some (83,true)),(.bin .sub (t 86) (zT 1)),none,[]⟩,⟨(some 88),(some (83,true)),(.idxAddrS z.e (t 85) (t 87)),none,[]⟩,⟨(some 89),(some (83,true)),(.loadN z.e (t 88)),none,[]⟩,⟨(some 90),(some (83,true)),(.mov (t 0)),none,[]⟩,⟨(some 91),(some (83,true)),(.mov (t 13)),none,[]⟩,⟨(some 92),(some (83,true)),(.idxAddrS z.e (t 90) (t 91)),none,[]⟩,⟨(some 93),(some (83,true)),(.loadN z.e (t 92)),none,[]⟩,⟨(some 94),(some (83,true)),(.call .pure (t 84) [(t 89),(t 93)]),none,[]⟩,⟨(some 95),(some (83,true)),(.bin .lss (t 94) (zT 0)),none,[]⟩,⟨(some 96),(some (83,true)),(.un .not (t 95)),none,[]⟩,At 97 83 96] (.cond (t 97) (Oz [mT 98 0,mT 99 1,mT 100 2,mT 101 13,mT 102 4,i 103 (.call .any (.func z.PEQ) [(t 98),(t 99),(t 100),(t 101),(t 102)]),mT 15 103] (Oz [mT 104 15,mT 1 104] (.exit 1))) .skip)) (Oz [mT 106 0,mT 107 1,mT 108 2,mT 109 13,mT 110 4,i 111 (.call .any (.func z.PART) [(t 106),(t 107),(t 108),(t 109),(t 110)]),mT 105 111,Et 112 0 105,Et 113 1 105,mT 16 112,mT 17 113] (Oz [mT 114 17,mT 11 114] (Oz [mT 115 16,mT 116 1,Bt 117 .sub 115 116,mT 118 2,mT 119 16,Bt 120 .sub 118 119,mT 18 117,mT 19 120] (Oz [mT 121 12,Bc 122 .quo 121 8,mT 20 122] (Oz [mT 123 18,mT 124 19,Bt 125 .lss 123 124] (.cond (t 125) (Oz [mT 126 18,mT 127 20,Bt 128 .geq 126 127,mT 10 128] (Oz [mT 129 0,mT 130 1,mT 131 16,mT 132 3,mT 133 4,i 134 (.call .any (.func z.PDQ) [(t 129),(t 130),(t 131),(t 132),(t 133)])] (.ops [mT 135 16,Bc 136 .add 135 1,mT 1 136]))) (Oz [mT 137 19,mT 138 20,Bt 139 .geq 137 138,mT 10 139] (Oz [mT 140 0,mT 141 16,Bc 142 .add 141 1,mT 143 2,mT 144 3,mT 145 4,i 146 (.call .any (.func z.PDQ) [(t 140),(t 142),(t 143),(t 144),(t 145)])] (.ops [mT 147 16,mT 2 147]))))))))))))))))))
def Nws (z:Ids):ACode:=(Oz [i 10 (.mov (k (.bool true)))] (Oz [i 11 (.mov (k (.bool true)))] (Bl 0 (TD z))))
def aPDQ (z:Ids):AFunc:=⟨148,[],Nws z⟩
theorem WO {z:Ids}:(aPDQ z).ntmps=148:=id rfl
theorem Nxp {z:Ids}:(aPDQ z).results=[]:=rfl
theorem N2r {z:Ids}:(aPDQ z).body=Nws z:=rfl
def Nn7 (z:Ids):ACode:=(Oz [mT 5 0,Nt 6 5,mT 4 6] (.ops [mT 7 0,mT 8 4,mT 9 4,i 10 (.conv .u64 (t 9)),i 11 (.call .any (.func z.LEN) [(t 10)]),mT 12 1,i 13 (.call .any (.func z.PDQ) [(t 7),(zT 0),(t 8),(t 11),(t 12)])]))
def aSORT (z:Ids):AFunc:=⟨14,[],Nn7 z⟩
theorem Ntv {z:Ids}:(aSORT z).ntmps=14:=id rfl
theorem Nsy {z:Ids}:(aSORT z).results=[]:=rfl
theorem N0u {z:Ids}:(aSORT z).body=Nn7 z:=rfl
def Nza (z:Ids):ACode:=(Oz [Zm 2 0] (.seq (.cond (k (.bool false)) (Oz [mT 3 0,i 4 (.conv .u32 (t 3)),i 5 (.call .any (.func z.LEN32) [(t 4)]),mT 2 5] .ret) .skip) (Oz [mT 6 0,i 7 (.call .any (.func z.LEN64) [(t 6)]),mT 2 7] .ret)))
def aLEN (z:Ids):AFunc:=⟨8,[(.tmp 2)],Nza z⟩
theorem N3n {z:Ids}:(aLEN z).ntmps=8:=id rfl
theorem N25 {z:Ids}:(aLEN z).results=[(.tmp 2)]:=rfl
theorem N32 {z:Ids}:(aLEN z).body=Nza z:=rfl
def Nc8 (z:Ids):ACode:=(Oz [Zm 2 0] (.seq (Oz [mT 3 0,i 4 (.bin .geq (t 3) (k (.int .u64 4294967296)))] (.cond (t 4) (Oz [mT 5 0,i 6 (.bin .shr (t 5) (k (.int .u64 32))),mT 0 6] (.ops [Zm 2 32])) .skip)) (.seq (Oz [mT 7 0,i 8 (.bin .geq (t 7) (k (.int .u64 65536)))] (.cond (t 8) (Oz [mT 9 0,i 10 (.bin .shr (t 9) (k (.int .u64 16))),mT 0 10] (.ops [mT 11 2,Bc 12 .add 11 16,mT 2 12])) .skip)) (.seq (Oz [mT 13 0,i 14 (.bin .geq (t 13) (k (.int .u64 256)))] (.cond (t 14) (Oz [mT 15 0,i 16 (.bin .shr (t 15) (k (.int .u64 8))),mT 0 16] (.ops [mT 17 2,Bc 18 .add 17 8,mT 2 18])) .skip)) (Oz [mT 19 2,mT 20 0,i 21 (.conv .u8 (t 20)),i 22 (.idxStr (k (.string ⟨#[0,1,2,2,3,3,3,3,4,4,4,4,4,4,4,4,5,5,5,5,5,5,5,5,5,5,5,5,5,5,5,5,6,6,6,6,6,6,6,6,6,6,6,6,6,6,6,6,6,6,6,6,6,6,6,6,6,6,6,6,6,6,6,6,7,7,7,7,7,7,7,7,7,7,7,7,7,7,7,7,7,7,7,7,7,7,7,7,7,7,7,7,7,7,7,7,7,7,7,7,7,7,7,7,7,7,7,7,7,7,7,7,7,7,7,7,7,7,7,7,7,7,7,7,7,7,7,7,8,8,8,8,8,8,8,8,8,8,8,8,8,8,8,8,8,8,8,8,8,8,8,8,8,8,8,8,8,8,8,8,8,8,8,8,8,8,8,8,8,8,8,8,8,8,8,8,8,8,8,8,8,8,8,8,8,8,8,8,8,8,8,8,8,8,8,8,8,8,8,8,8,8,8,8,8,8,8,8,8,8,8,8,8,8,8,8,8,8,8,8,8,8,8,8,8,8,8,8,8,8,8,8,8,8,8,8,8,8,8,8,8,8,8,8,8,8,8,8,8,8,8,8,8,8,8,8]⟩)) (t 21)),i 23 (.conv .i64 (t 22)),Bt 24 .add 19 23,mT 2 24] .ret)))))
def aLEN64 (z:Ids):AFunc:=⟨25,[(.tmp 2)],Nc8 z⟩
theorem Nlb {z:Ids}:(aLEN64 z).ntmps=25:=id rfl
theorem Nkl {z:Ids}:(aLEN64 z).results=[(.tmp 2)]:=rfl
theorem Nmd {z:Ids}:(aLEN64 z).body=Nc8 z:=rfl
def N2g (z:Ids):ACode:=(Oz [i 2 (.mov (k (.int .u64 0)))] (Oz [mT 3 0,i 4 (.conv .u64 (t 3)),i 5 (.call .any (.func z.LEN) [(t 4)]),i 6 (.bin .shl (k (.int .u64 1)) (t 5)),mT 2 6] .ret))
def aNPT (z:Ids):AFunc:=⟨7,[(.tmp 2)],N2g z⟩
theorem N5h {z:Ids}:(aNPT z).ntmps=7:=id rfl
theorem N47 {z:Ids}:(aNPT z).results=[(.tmp 2)]:=rfl
theorem N5w {z:Ids}:(aNPT z).body=N2g z:=rfl
def N2c (z:Ids):ACode:=(Oz [i 2 (.mov (k (.int .u64 0)))] (Ds 0 [mT 3 0,i 4 (.nilCheck (t 3)),lT 5 4,mT 6 0,i 7 (.nilCheck (t 6)),lT 8 7,i 9 (.bin .shl (t 8) (k (.int .u64 13))),Bt 10 .xor 5 9,i 11 (.nilCheck (t 3)),⟨none,none,(.store 1 (t 11) (t 10)),none,[]⟩] (Ds 0 [mT 12 0,i 13 (.nilCheck (t 12)),lT 14 13,mT 15 0,i 16 (.nilCheck (t 15)),lT 17 16,i 18 (.bin .shr (t 17) (k (.int .u64 7))),Bt 19 .xor 14 18,i 20 (.nilCheck (t 12)),⟨none,none,(.store 1 (t 20) (t 19)),none,[]⟩] (Ds 0 [mT 21 0,i 22 (.nilCheck (t 21)),lT 23 22,mT 24 0,i 25 (.nilCheck (t 24)),lT 26 25,i 27 (.bin .shl (t 26) (k (.int .u64 17))),Bt 28 .xor 23 27,i 29 (.nilCheck (t 21)),⟨none,none,(.store 1 (t 29) (t 28)),none,[]⟩] (Oz [mT 30 0,i 31 (.nilCheck (t 30)),lT 32 31,mT 2 32] .ret)))))
def aXOR (z:Ids):AFunc:=⟨33,[(.tmp 2)],N2c z⟩
theorem N5g {z:Ids}:(aXOR z).ntmps=33:=id rfl
theorem N44 {z:Ids}:(aXOR z).results=[(.tmp 2)]:=rfl
theorem N5s {z:Ids}:(aXOR z).body=N2c z:=rfl
def Nwu (z:Ids):ACode:=(Oz [Zm 8 0] (Oz [mT 9 0,mT 10 1,Bc 11 .sub 10 1,mT 12 1,mT 13 1,Bc 14 .add 13 1,mT 15 2,mT 16 3,i 17 (.call .any (.func z.MED) [(t 9),(t 11),(t 12),(t 14),(t 15),(t 16)]),mT 8 17] .ret))
def aMEDA (z:Ids):AFunc:=⟨18,[(.tmp 8)],Nwu z⟩
theorem N3m {z:Ids}:(aMEDA z).ntmps=18:=id rfl
theorem N24 {z:Ids}:(aMEDA z).results=[(.tmp 8)]:=rfl
theorem N31 {z:Ids}:(aMEDA z).body=Nwu z:=rfl
def N2h (z:Ids):ACode:=(Oz [Zm 12 0] (Oz [mT 14 0,mT 15 1,mT 16 2,mT 17 4,mT 18 5,i 19 (.call .any (.func z.ORD) [(t 14),(t 15),(t 16),(t 17),(t 18)]),mT 13 19,Et 20 0 13,Et 21 1 13,mT 1 20,mT 2 21] (Oz [mT 23 0,mT 24 2,mT 25 3,mT 26 4,mT 27 5,i 28 (.call .any (.func z.ORD) [(t 23),(t 24),(t 25),(t 26),(t 27)]),mT 22 28,Et 29 0 22,Et 30 1 22,mT 2 29,mT 3 30] (Oz [mT 32 0,mT 33 1,mT 34 2,mT 35 4,mT 36 5,i 37 (.call .any (.func z.ORD) [(t 32),(t 33),(t 34),(t 35),(t 36)]),mT 31 37,Et 38 0 31,Et 39 1 31,mT 1 38,mT 2 39] (Oz [mT 40 2,mT 12 40] .ret)))))
def aMED (z:Ids):AFunc:=⟨41,[(.tmp 12)],N2h z⟩
theorem N5i {z:Ids}:(aMED z).ntmps=41:=id rfl
theorem N48 {z:Ids}:(aMED z).results=[(.tmp 12)]:=rfl
theorem N5x {z:Ids}:(aMED z).body=N2h z:=rfl
def Ny9 (z:Ids):ACode:=(Oz [Zm 10 0,Zm 11 0] (.seq (Ds 0 [mT 12 4,mT 13 0,mT 14 2,i 15 (.idxAddrS z.e (t 13) (t 14)),i 16 (.loadN z.e (t 15)),mT 17 0,mT 18 1,i 19 (.idxAddrS z.e (t 17) (t 18)),i 20 (.loadN z.e (t 19)),i 21 (.call .pure (t 12) [(t 16),(t 20)]),Bc 22 .lss 21 0] (.cond (t 22) (Oz [mT 23 3,i 24 (.nilCheck (t 23)),lT 25 24,Bc 26 .add 25 1,i 27 (.nilCheck (t 23)),⟨none,none,(.store 1 (t 27) (t 26)),none,[]⟩] (Oz [mT 28 2,mT 29 1,mT 10 28,mT 11 29] .ret)) .skip)) (Oz [mT 30 1,mT 31 2,mT 10 30,mT 11 31] .ret)))
def aORD (z:Ids):AFunc:=⟨32,[(.tmp 10),(.tmp 11)],Ny9 z⟩
theorem N3l {z:Ids}:(aORD z).ntmps=32:=id rfl
theorem N23 {z:Ids}:(aORD z).results=[(.tmp 10),(.tmp 11)]:=rfl
theorem N30 {z:Ids}:(aORD z).body=Ny9 z:=rfl
def Knows (E:Env) (g:FuncId) (af:AFunc) (p:Bool):Prop:=E.tr g=some af/\E.pure g=p/\∀as,E.orc g as=none
class SortAt (E:Env) (z:Ids):Prop where
 dt:E.dt=true
 INS:Knows E z.INS (aINS z) false
 SIFT:Knows E z.SIFT (aSIFT z) false
 HEAP:Knows E z.HEAP (aHEAP z) false
 BRK:Knows E z.BRK (aBRK z) false
 CHO:Knows E z.CHO (aCHO z) false
 REV:Knows E z.REV (aREV z) false
 PIS:Knows E z.PIS (aPIS z) false
 PEQ:Knows E z.PEQ (aPEQ z) false
 PART:Knows E z.PART (aPART z) false
 PDQ:Knows E z.PDQ (aPDQ z) false
 SORT:Knows E z.SORT (aSORT z) false
 LEN:Knows E z.LEN (aLEN z) true
 LEN64:Knows E z.LEN64 (aLEN64 z) true
 NPT:Knows E z.NPT (aNPT z) true
 XOR:Knows E z.XOR (aXOR z) false
 MEDA:Knows E z.MEDA (aMEDA z) false
 MED:Knows E z.MED (aMED z) false
 ORD:Knows E z.ORD (aORD z) false
class EncOk {α:Type} (enc:α->List Value) (z:outParam Ids):Prop where
 len:∀x,(enc x).length=z.e
section
variable {E:Env} {mp:Bool} {lim:Nat} {g:FuncId} {as:List Value} {v:Value} {af:AFunc} {H H':NB} {Q:Value->NB->Prop}
theorem runs (h:Knows E g af false) (hr:PI E af lim [.code af.body] (NH as) H fun v' H1=>v'=v/\H1=H'):NR E false lim g as H Q=Q v H':=by
 refine NR.eq ?_
 rw [UV (E:=E) (h.2.2 _) h.1 h.2.1 rfl]
 exact hr
theorem pcG (h:Knows E g af true) (a:flat 4 v=true) (hr:PI E af H.length [.code af.body] (NH as) (H++[]) fun v' _=>v'=v):NR E mp lim g as H Q=Q v H:=
 Zu (E:=E) (h.2.2 _) h.1 h.2.1 a (NI hr)
theorem oneG (hd:E.dt=true) (h:NR E mp lim g as H Q):∃n v H',QR E n mp lim (.inl g) as H=some [(v,H')]/\Q v H':=by
 obtain ⟨n,L,h1,h2,a⟩:=h
 obtain ⟨⟨v,H'⟩,rfl⟩:=h2 hd
 exact ⟨n,v,H',h1,a _ (Ni.mpr rfl)⟩
end
end Go.AM.Srt


namespace Go.Proofs.YtohnaffmcjbpoaaGreat.Fn
open Go.AM Go.AM.Sym
abbrev p (d n:Nat) (o:AOp):AIns:=⟨some d,some (n,true),o,none,[]⟩
abbrev q (d n:Nat) (o:AOp):AIns:=⟨some d,some (n,false),o,none,[]⟩
abbrev s (o:AOp):AIns:=⟨none,none,o,none,[]⟩
def pure:List FuncId:=[4,7,9,12,13,17,22,23,24,27,30,35,38,41,49,53,54,55,57,58,66,67,68,75,77,78,79,82,83,85,95,96,97,99,101,102,103,104,106,108,129,130]
def pf:FuncId->Bool:=fun f=>pure.contains f
def zL:Srt.Ids:=⟨4,95,87,107,88,89,90,91,92,93,94,65,40,66,96,108,109,110,111,131⟩
def zC:Srt.Ids:=⟨3,95,113,132,114,115,116,117,118,119,120,100,76,66,96,108,109,133,134,138⟩
def zP:Srt.Ids:=⟨2,95,121,135,122,123,124,125,126,127,128,105,84,66,96,108,109,136,137,139⟩
def N1u:ACode:=(Oz [Bt 56 .lss 55 54] (.seq (Ce 56 6) (.seq (.block 7 (Oz [xT 57 1 53 55,lT 58 57,mT 8 58] (Ds 0 [Gt 59 2 6,mT 60 2,mT 61 3,mT 62 5,Bt 63 .add 61 62,mT 64 4,Bt 65 .add 63 64,mT 66 8,Bt 67 .add 65 66,Bc 68 .rem 67 5,i 69 (.bin .add (zT 1) (t 68)),i 70 (.sliceS 3 (t 60) none (some (t 69)) none),mT 71 3,mT 72 4,Bt 73 .add 71 72,Bc 74 .rem 73 3,i 75 (.bin .add (zT 1) (t 74)),mT 76 8,i 77 (.call .pure (.func 9) [(t 59),(t 70),(t 75),(t 76)]),Ut 78 77,mT 79 78,q 80 79 (.loadN 2 (t 6)),Qm 81 79 2,Qm 82 79 3,Qm 83 79 5,Qb 84 79 .add 82 83,q 85 79 (.bin .rem (t 84) (zT 5)),q 86 79 (.sliceS 3 (t 81) (some (t 85)) none none),Qm 87 79 8,q 88 79 (.call .pure (.func 9) [(t 80),(t 86),(zT 3),(t 87)]),q 89 79 (.un .not (t 88)),Ot 90 79 89] (.cond (t 90) (Oz [i 0 (.mov (k (.bool false)))] .ret) .skip)))) (.ops [Bc 91 .add 55 1,mT 55 91]))))
def N1t:ACode:=(.seq (Oz [mT 33 5,mT 34 4,Bt 35 .lss 33 34] (Ce 35 4)) (.seq (.block 5 (Ds 3 [Wt 38 (.buildSlice 3 [(Vi 0),(Vi 0),(Vi 0)] [(0,(1,(zT 2))),(1,(1,(zT 3))),(2,(1,(zT 1)))]) 0,mT 39 1,mT 40 3,xT 41 8 39 40,Kt 42 (.loadN 8 (t 41)) [0,1,2],mT 43 1,mT 44 5,xT 45 8 43 44,Kt 46 (.loadN 8 (t 45)) [0,1,2],mT 47 1,mT 48 4,xT 49 8 47 48,Kt 50 (.loadN 8 (t 49)) [0,1,2],Wt 51 (.buildSlice 3 [(Vi 0),(Vi 0),(Vi 0),(Vi 0),(Vi 0),(Vi 0),(Vi 0),(.int .u8 0),(Vi 0),(Vi 0),(Vi 0),(Vi 0),(Vi 0),(Vi 0),(Vi 0),(.int .u8 0),(Vi 0),(Vi 0),(Vi 0),(Vi 0),(Vi 0),(Vi 0),(Vi 0),(.int .u8 0)] [(0,(8,(t 42))),(8,(8,(t 46))),(16,(8,(t 50)))]) 1,i 52 (.build [Vz,Vz] [(0,(1,(t 38))),(1,(1,(t 51)))]),Wt 6 (.alloc [Vz,Vz]) 2,St 2 6 52] (Oz [i 53 (.buildSlice 4 [(Vi 0),(Vi 0),(Vi 0),(Vi 0)] [(0,(1,(zT 659))),(1,(1,(zT 780))),(2,(1,(zT 2100))),(3,(1,(zT 3600)))]),Nt 54 53,Zm 55 0] (Bl 6 N1u)))) (.ops [mT 36 5,Bc 37 .add 36 1,mT 5 37])))
def N1s:ACode:=(.seq (Oz [mT 28 4,mT 29 3,Bt 30 .lss 28 29] (Ce 30 2)) (.seq (.block 3 (Oz [Zm 5 0] (Bl 4 N1t))) (.ops [mT 31 4,Bc 32 .add 31 1,mT 4 32])))
def N1r:ACode:=(.seq (Oz [mT 24 3,Bc 25 .lss 24 8] (Ce 25 0)) (.seq (.block 1 (Oz [Zm 4 0] (Bl 2 N1s))) (.ops [mT 26 3,Bc 27 .add 26 1,mT 3 27])))
def c4:ACode:=(Oz [i 0 (.mov (k (.bool false)))] (Oz [Ct 9 11 [(zT 1),(zT 1),(zT 2),(zT 600),(zT 60),(zT 0),(zT 100)],Ct 10 11 [(zT 5),(zT 1),(zT 2),(zT 540),(zT 120),(zT 30),(zT 70)],Ct 11 11 [(zT 2),(zT 2),(zT 3),(zT 720),(zT 60),(zT 60),(zT 50)],Ct 12 11 [(zT 9),(zT 2),(zT 3),(zT 660),(zT 60),(zT 0),(zT 30)],Ct 13 11 [(zT 3),(zT 1),(zT 3),(zT 540),(zT 180),(zT 0),(zT 20)],Ct 14 11 [(zT 4),(zT 3),(zT 1),(zT 0),(zT 1440),(zT 1440),(zT 9)],Ct 15 11 [(zT 6),(zT 3),(zT 2),(zT 1439),(zT 1),(zT 0),(zT 40)],Ct 16 11 [(zT 7),(zT 2),(zT 1),(zT 100),(zT 3000),(zT 0),(zT 60)],i 17 (.buildSlice 8 [(Vi 0),(Vi 0),(Vi 0),(Vi 0),(Vi 0),(Vi 0),(Vi 0),(.int .u8 0),(Vi 0),(Vi 0),(Vi 0),(Vi 0),(Vi 0),(Vi 0),(Vi 0),(.int .u8 0),(Vi 0),(Vi 0),(Vi 0),(Vi 0),(Vi 0),(Vi 0),(Vi 0),(.int .u8 0),(Vi 0),(Vi 0),(Vi 0),(Vi 0),(Vi 0),(Vi 0),(Vi 0),(.int .u8 0),(Vi 0),(Vi 0),(Vi 0),(Vi 0),(Vi 0),(Vi 0),(Vi 0),(.int .u8 0),(Vi 0),(Vi 0),(Vi 0),(Vi 0),(Vi 0),(Vi 0),(Vi 0),(.int .u8 0),(Vi 0),(Vi 0),(Vi 0),(Vi 0),(Vi 0),(Vi 0),(Vi 0),(.int .u8 0),(Vi 0),(Vi 0),(Vi 0),(Vi 0),(Vi 0),(Vi 0),(Vi 0),(.int .u8 0)] [(0,(8,(t 9))),(8,(8,(t 10))),(16,(8,(t 11))),(24,(8,(t 12))),(32,(8,(t 13))),(40,(8,(t 14))),(48,(8,(t 15))),(56,(8,(t 16)))]),mT 1 17] (Oz [i 18 (.build [(Vi 0),(Vi 0),(Vi 0)] [(0,(1,(zT 1))),(1,(1,(zT 0))),(2,(1,(zT 250)))]),i 19 (.build [(Vi 0),(Vi 0),(Vi 0)] [(0,(1,(zT 2))),(1,(1,(zT 650))),(2,(1,(zT 60)))]),i 20 (.build [(Vi 0),(Vi 0),(Vi 0)] [(0,(1,(zT 1))),(1,(1,(zT 580))),(2,(1,(zT 40)))]),i 21 (.build [(Vi 0),(Vi 0),(Vi 0)] [(0,(1,(zT 3))),(1,(1,(zT 700))),(2,(1,(zT 5)))]),i 22 (.build [(Vi 0),(Vi 0),(Vi 0)] [(0,(1,(zT 1))),(1,(1,(zT 2000))),(2,(1,(zT 500)))]),i 23 (.buildSlice 5 [(Vi 0),(Vi 0),(Vi 0),(Vi 0),(Vi 0),(Vi 0),(Vi 0),(Vi 0),(Vi 0),(Vi 0),(Vi 0),(Vi 0),(Vi 0),(Vi 0),(Vi 0)] [(0,(3,(t 18))),(3,(3,(t 19))),(6,(3,(t 20))),(9,(3,(t 21))),(12,(3,(t 22)))]),mT 2 23] (.seq (Oz [Zm 3 0] (Bl 0 N1r)) (Oz [Ct 92 12 [],mT 93 92,p 94 93 (.call .any (.func 7) []),At 95 93 94,mT 0 95] .ret)))))
def a4:AFunc:=⟨96,[(.tmp 0)],c4⟩
theorem n4:a4.ntmps=96:=id rfl
theorem r4:a4.results=[(.tmp 0)]:=rfl
theorem b4:a4.body=c4:=rfl
def N3t:ACode:=(Oz [Bt 20 .lss 19 18] (.seq (Ce 20 0) (.seq (.block 1 (Oz [mT 21 19,xT 22 1 17 19,lT 23 22,mT 2 21,mT 3 23] (Oz [Ct 25 20 [],mT 26 1,mT 27 3,Ct 28 17 [(t 25),(t 26),(zT 2),(t 27)],mT 24 28,Et 29 0 24,Et 30 1 24,mT 4 29,mT 5 30] (Oz [mT 31 4,i 32 (.buildSlice 3 [(Vi 0),(Vi 0),(Vi 0)] [(0,(1,(zT 100))),(1,(1,(zT 200))),(2,(1,(zT 250)))]),mT 33 2,xT 34 1 32 33,lT 35 34,Bt 36 .neq 31 35,mT 37 36,Qm 38 37 5,q 39 37 (.bin .neq (t 38) (zT 0)),Ot 40 37 39] (.cond (t 40) (Oz [i 0 (.mov (k (.bool false)))] .ret) .skip))))) (.ops [Bc 41 .add 19 1,mT 19 41]))))
def c7:ACode:=(Oz [i 0 (.mov (k (.bool false)))] (Oz [i 15 (.build [(Vi 0),(Vi 0),(Vi 0)] [(0,(1,(zT 1))),(2,(1,(zT 250)))]),i 16 (.buildSlice 1 [(Vi 0),(Vi 0),(Vi 0)] [(0,(3,(t 15)))]),mT 1 16] (.seq (Oz [i 17 (.buildSlice 3 [(Vi 0),(Vi 0),(Vi 0)] [(0,(1,(zT 660))),(1,(1,(zT 2100))),(2,(1,(zT 3540)))]),Nt 18 17,Zm 19 0] (Bl 0 N3t)) (Oz [i 42 (.build [(Vi 0),(Vi 0),(Vi 0),(Vi 0)] [(0,(1,(zT 1))),(1,(1,(zT 600))),(2,(1,(zT 660))),(3,(1,(zT 100)))]),i 43 (.build [(Vi 0),(Vi 0),(Vi 0),(Vi 0)] [(0,(1,(zT 1))),(1,(1,(zT 2040))),(2,(1,(zT 2100))),(3,(1,(zT 100)))]),i 44 (.buildSlice 2 [(Vi 0),(Vi 0),(Vi 0),(Vi 0),(Vi 0),(Vi 0),(Vi 0),(Vi 0)] [(0,(4,(t 42))),(4,(4,(t 43)))]),mT 6 44] (Oz [Ct 46 20 [],mT 47 1,Ct 48 21 [(t 46),(t 47),(zT 2),(zT 2100)],mT 45 48,Et 49 0 45,Et 50 1 45,mT 7 49,mT 8 50] (Oz [Ct 52 20 [],mT 53 1,mT 54 7,Ct 55 22 [(t 52),(t 53),(zT 2),(zT 2100),(t 54)],mT 51 55,Et 56 0 51,Et 57 1 51,mT 9 56,mT 10 57] (Oz [Ct 59 20 [],mT 60 1,Ct 61 18 [(t 59),(t 60),(zT 2),(zT 2100)],mT 58 61,Et 62 0 58,Et 63 1 58,i 11 (.alloc [Vz,Vz]),St 2 11 62,mT 12 63] (Oz [Ct 65 20 [],mT 66 1,Ct 67 18 [(t 65),(t 66),(zT 2),(zT 3540)],mT 64 67,Et 68 0 64,Et 69 1 64,i 13 (.alloc [Vz,Vz]),St 2 13 68,mT 14 69] (Oz [mT 70 8,Bc 71 .eql 70 0,mT 72 71,Pm 73 72 7,Pm 74 72 6,p 75 72 (.call .any (.func 23) [(t 73),(t 74)]),At 76 72 75,mT 77 76,Pm 78 77 9,p 79 77 (.bin .eql (t 78) (zT 200)),At 80 77 79,mT 81 80,Pm 82 81 10,At 83 81 82,mT 84 83,Pm 85 84 12,p 86 84 (.bin .eql (t 85) (zT 0)),At 87 84 86,mT 88 87,Pf 89 88 0 11,Pl 90 88 89,p 91 88 (.buildSlice 2 [(Vi 0),(Vi 0)] [(0,(1,(zT 0))),(1,(1,(zT (-1))))]),p 92 88 (.call .any (.func 24) [(t 90),(t 91)]),At 93 88 92,mT 94 93,Pf 95 94 1 11,Pl 96 94 95,Pm 97 94 6,p 98 94 (.call .any (.func 23) [(t 96),(t 97)]),At 99 94 98,mT 100 99,Pm 101 100 14,p 102 100 (.bin .eql (t 101) (zT 0)),At 103 100 102,mT 104 103,Pf 105 104 0 13,Pl 106 104 105,p 107 104 (.buildSlice 2 [(Vi 0),(Vi 0)] [(0,(1,(zT (-1)))),(1,(1,(zT (-1))))]),p 108 104 (.call .any (.func 24) [(t 106),(t 107)]),At 109 104 108,mT 110 109,Pf 111 110 1 13,Pl 112 110 111,p 113 110 (.lenSlice (t 112)),p 114 110 (.bin .eql (t 113) (zT 0)),At 115 110 114,mT 0 115] .ret)))))))))
def a7:AFunc:=⟨116,[(.tmp 0)],c7⟩
theorem n7:a7.ntmps=116:=id rfl
theorem r7:a7.results=[(.tmp 0)]:=rfl
theorem b7:a7.body=c7:=rfl
def Nyc:ACode:=(.seq (Oz [mT 98 18,fT 99 1 16,lT 100 99,Nt 101 100,Bt 102 .lss 98 101] (Ce 102 0)) (.seq (.block 1 (Ds 2 [fT 105 1 14,Kt 106 (.load1 (t 105)) [0,1],mT 107 18,xT 108 4 106 107,Kt 109 (.loadN 4 (t 108)) [0,1],fT 110 1 16,Kt 111 (.load1 (t 110)) [0,1],mT 112 18,xT 113 4 111 112,Kt 114 (.loadN 4 (t 113)) [0,1],Wt 19 (.alloc [(Vi 0),(Vi 0),(Vi 0),(Vi 0)]) 0,Wt 20 (.alloc [(Vi 0),(Vi 0),(Vi 0),(Vi 0)]) 1,⟨none,none,(.storeD 4 (t 19) (t 109)),(some 0),[]⟩,⟨none,none,(.storeD 4 (t 20) (t 114)),(some 1),[]⟩] (Oz [fT 115 0 19,lT 116 115,fT 117 0 20,lT 118 117,Bt 119 .neq 116 118,mT 120 119,Qf 121 120 1 19,Ql 122 120 121,Qf 123 120 1 20,Ql 124 120 123,Qb 125 120 .neq 122 124,Ot 126 120 125,mT 127 126,Qf 128 127 2 19,Ql 129 127 128,Qf 130 127 2 20,Ql 131 127 130,Qb 132 127 .neq 129 131,Ot 133 127 132,mT 134 133,Qf 135 134 3 19,Ql 136 134 135,Qf 137 134 3 20,Ql 138 134 137,Qb 139 134 .neq 136 138,Ot 140 134 139] (.cond (t 140) (Oz [i 8 (.mov (k (.bool false)))] .ret) .skip)))) (.ops [mT 103 18,Bc 104 .add 103 1,mT 18 104])))
def c9:ACode:=(Oz [i 4 (.box (t 0)),i 8 (.mov (k (.bool false)))] (Oz [Gt 24 2 4,mT 25 1,mT 26 2,mT 27 3,Ct 28 17 [(t 24),(t 25),(t 26),(t 27)],mT 23 28,Et 29 0 23,Et 30 1 23,mT 9 29,mT 10 30] (Ds 0 [Gt 32 2 4,mT 33 1,mT 35 2,mT 36 3,i 34 (.call .mk (.func 28) [(t 33)]),i 37 (.call .pure (.func 27) [(t 32),(t 34),(t 35),(t 36)]),mT 31 37,Et 38 0 31,Et 39 1 31,mT 11 38,mT 12 39] (.seq (Oz [mT 40 10,mT 41 12,Bt 42 .neq 40 41,mT 43 42,Qm 44 43 9,Qm 45 43 11,Qb 46 43 .neq 44 45,Ot 47 43 46] (.cond (t 47) (Oz [i 8 (.mov (k (.bool false)))] .ret) .skip)) (Oz [Gt 49 2 4,mT 50 1,mT 51 2,mT 52 3,Ct 53 21 [(t 49),(t 50),(t 51),(t 52)],mT 48 53,Et 54 0 48,Et 55 1 48,mT 13 54,mT 10 55] (Oz [Gt 57 2 4,mT 58 1,mT 59 2,mT 60 3,Ct 61 18 [(t 57),(t 58),(t 59),(t 60)],mT 56 61,Et 62 0 56,Et 63 1 56,i 14 (.alloc [Vz,Vz]),St 2 14 62,mT 15 63] (Ds 1 [Kt 65 (.loadN 2 (t 4)) [0],mT 66 1,mT 68 2,mT 69 3,Wt 16 (.alloc [Vz,Vz]) 0,Kt 67 (.call .mk (.func 28) [(t 66)]) [0],Kt 70 (.call .any (.func 29) [(t 65),(t 67),(t 68),(t 69)]) [0],mT 64 70,Et 71 0 64,Et 72 1 64,St 2 16 71,mT 17 72] (.seq (Oz [mT 73 10,mT 74 12,Bt 75 .neq 73 74,mT 76 75,Qm 77 76 15,Qm 78 76 12,Qb 79 76 .neq 77 78,Ot 80 76 79,mT 81 80,Qf 82 81 0 14,Ql 83 81 82,Qf 84 81 0 16,Ql 85 81 84,q 86 81 (.call .any (.func 24) [(t 83),(t 85)]),q 87 81 (.un .not (t 86)),Ot 88 81 87,mT 89 88,Qf 90 89 1 14,Ql 91 89 90,q 92 89 (.lenSlice (t 91)),Qf 93 89 1 16,Ql 94 89 93,q 95 89 (.lenSlice (t 94)),Qb 96 89 .neq 92 95,Ot 97 89 96] (.cond (t 97) (Oz [i 8 (.mov (k (.bool false)))] .ret) .skip)) (.seq (Oz [Zm 18 0] (Bl 0 Nyc)) (Ds 0 [Gt 142 2 4,mT 143 1,mT 145 2,mT 146 3,mT 147 13,i 144 (.call .mk (.func 28) [(t 143)]),i 148 (.call .mk (.func 31) [(t 147)]),i 149 (.call .pure (.func 30) [(t 142),(t 144),(t 145),(t 146),(t 148)]),mT 141 149,Et 150 0 141,Et 151 1 141,mT 21 150,mT 22 151] (Oz [mT 152 12,Bc 153 .neq 152 0,mT 154 153,Pm 155 154 13,p 156 154 (.lenSlice (t 155)),p 157 154 (.bin .eql (t 156) (zT 0)),At 158 154 157,mT 159 158,Qm 160 159 12,q 161 159 (.bin .eql (t 160) (zT 0)),Qm 162 159 161,Pm 163 162 22,q 164 159 (.pick (t 162) (t 163) (k (.bool false))),Qm 165 159 164,Pm 166 165 21,Pm 167 165 11,Pb 168 165 .eql 166 167,q 169 159 (.pick (t 165) (t 168) (k (.bool false))),Ot 170 159 169,mT 8 170] .ret)))))))))))
def a9:AFunc:=⟨171,[(.tmp 8)],c9⟩
theorem n9:a9.ntmps=171:=id rfl
theorem r9:a9.results=[(.tmp 8)]:=rfl
theorem b9:a9.body=c9:=rfl
def c11:ACode:=(Oz [i 14 (.alloc [(Vi 0),(Vi 0),(Vi 0),(Vi 0),(Vi 0),(Vi 0),(Vi 0),(.int .u8 0)])] (Oz [mT 15 0,mT 16 1,mT 17 2,mT 18 3,mT 19 4,mT 20 5,mT 21 6,i 22 (.build [(Vi 0),(Vi 0),(Vi 0),(Vi 0),(Vi 0),(Vi 0),(Vi 0),(.int .u8 0)] [(0,(1,(t 15))),(1,(1,(t 16))),(2,(1,(t 17))),(3,(1,(t 18))),(4,(1,(t 19))),(5,(1,(t 20))),(6,(1,(t 21))),(7,(1,(k (.int .u8 127))))]),St 8 14 22] .ret))
def a11:AFunc:=⟨23,[(.cellN 8 14)],c11⟩
theorem n11:a11.ntmps=23:=id rfl
theorem r11:a11.results=[(.cellN 8 14)]:=rfl
theorem b11:a11.body=c11:=rfl
def Nvd:ACode:=(.seq (Oz [mT 83 9,mT 84 7,Bt 85 .lss 83 84] (Ce 85 8)) (.seq (.block 9 (.ops [mT 88 8,mT 89 9,Bc 90 .rem 89 2,i 91 (.bin .add (zT 1) (t 90)),mT 92 9,i 93 (.bin .mul (zT 20) (t 92)),i 94 (.build [(Vi 0),(Vi 0),(Vi 0)] [(0,(1,(t 91))),(1,(1,(t 93))),(2,(1,(zT 3)))]),i 95 (.buildSlice 1 [(Vi 0),(Vi 0),(Vi 0)] [(0,(3,(t 94)))]),i 96 (.append 3 24 false (t 88) (t 95)),mT 8 96])) (.ops [mT 86 9,Bc 87 .add 86 1,mT 9 87])))
def Nvc:ACode:=(.seq (Oz [mT 79 7,Bc 80 .lss 79 53] (Ce 80 6)) (.seq (.block 7 (Oz [i 8 (.mov (k Vz))] (.seq (Oz [Zm 9 0] (Bl 8 Nvd)) (Oz [Ct 97 20 [],mT 98 8,Ct 99 9 [(t 97),(t 98),(zT 2),(zT 660)],Ut 100 99,mT 101 100,q 102 101 (.call .any (.func 20) []),Qm 103 101 8,q 104 101 (.call .any (.func 9) [(t 102),(t 103),(zT 3),(zT 660)]),q 105 101 (.un .not (t 104)),Ot 106 101 105] (.cond (t 106) (Oz [i 0 (.mov (k (.bool false)))] .ret) .skip))))) (.ops [mT 81 7,Bc 82 .add 81 1,mT 7 82])))
def Nvb:ACode:=(Oz [Bt 53 .lss 52 51] (.seq (Ce 53 4) (.seq (.block 5 (Oz [xT 54 1 50 52,lT 55 54,mT 6 55] (Oz [Ct 56 20 [],mT 57 6,i 58 (.build [(Vi 0),(Vi 0),(Vi 0)] [(0,(1,(t 57))),(2,(1,(zT 1)))]),i 59 (.buildSlice 1 [(Vi 0),(Vi 0),(Vi 0)] [(0,(3,(t 58)))]),Ct 60 9 [(t 56),(t 59),(zT 2),(zT 700)],Ut 61 60,mT 62 61,q 63 62 (.call .any (.func 20) []),Qm 64 62 6,q 65 62 (.build [(Vi 0),(Vi 0),(Vi 0)] [(0,(1,(zT 1))),(1,(1,(t 64))),(2,(1,(zT 1)))]),q 66 62 (.buildSlice 1 [(Vi 0),(Vi 0),(Vi 0)] [(0,(3,(t 65)))]),q 67 62 (.call .any (.func 9) [(t 63),(t 66),(zT 2),(zT 700)]),q 68 62 (.un .not (t 67)),Ot 69 62 68,mT 70 69,q 71 70 (.call .any (.func 20) []),Qm 72 70 6,q 73 70 (.build [(Vi 0),(Vi 0),(Vi 0)] [(0,(1,(zT 1))),(2,(1,(t 72)))]),q 74 70 (.buildSlice 1 [(Vi 0),(Vi 0),(Vi 0)] [(0,(3,(t 73)))]),q 75 70 (.call .any (.func 9) [(t 71),(t 74),(zT 2),(zT 700)]),q 76 70 (.un .not (t 75)),Ot 77 70 76] (.cond (t 77) (Oz [i 0 (.mov (k (.bool false)))] .ret) .skip)))) (.ops [Bc 78 .add 52 1,mT 52 78]))))
def Nva:ACode:=(.seq (Oz [mT 20 4,Bc 21 .lss 20 4] (Ce 21 2)) (.seq (.block 3 (Oz [Ct 24 20 [],mT 25 1,mT 26 4,mT 27 3,Ct 28 9 [(t 24),(t 25),(t 26),(t 27)],Ut 29 28,mT 30 29,q 31 30 (.call .any (.func 20) []),Qm 32 30 3,q 33 30 (.bin .sub (t 32) (zT 900)),q 34 30 (.minmax true [(zT 0),(t 33)]),q 35 30 (.build [(Vi 0),(Vi 0),(Vi 0)] [(0,(1,(zT 1))),(1,(1,(t 34))),(2,(1,(zT 150)))]),Qm 36 30 3,q 37 30 (.minmax true [(t 36),(zT 0)]),q 38 30 (.build [(Vi 0),(Vi 0),(Vi 0)] [(0,(1,(zT 2))),(1,(1,(t 37))),(2,(1,(zT 7)))]),Qm 39 30 3,q 40 30 (.minmax true [(zT 0),(t 39)]),q 41 30 (.bin .add (t 40) (zT 1)),q 42 30 (.build [(Vi 0),(Vi 0),(Vi 0)] [(0,(1,(zT 2))),(1,(1,(t 41))),(2,(1,(zT 9)))]),q 43 30 (.buildSlice 3 [(Vi 0),(Vi 0),(Vi 0),(Vi 0),(Vi 0),(Vi 0),(Vi 0),(Vi 0),(Vi 0)] [(0,(3,(t 35))),(3,(3,(t 38))),(6,(3,(t 42)))]),Qm 44 30 4,Qm 45 30 3,q 46 30 (.call .any (.func 9) [(t 31),(t 43),(t 44),(t 45)]),q 47 30 (.un .not (t 46)),Ot 48 30 47] (.cond (t 48) (Oz [i 0 (.mov (k (.bool false)))] .ret) .skip))) (.ops [mT 22 4,Bc 23 .add 22 1,mT 4 23])))
def Nu9:ACode:=(Oz [Bt 17 .lss 16 15] (.seq (Ce 17 0) (.seq (.block 1 (Oz [xT 18 1 14 16,lT 19 18,mT 3 19] (Oz [Zm 4 0] (Bl 2 Nva)))) (.ops [Bc 49 .add 16 1,mT 16 49]))))
def c12:ACode:=(Oz [i 0 (.mov (k (.bool false)))] (Oz [i 12 (.build [(Vi 0),(Vi 0),(Vi 0)] [(0,(1,(zT 1))),(1,(1,(zT 0))),(2,(1,(zT 100000)))]),i 13 (.buildSlice 1 [(Vi 0),(Vi 0),(Vi 0)] [(0,(3,(t 12)))]),mT 1 13] (.seq (Oz [i 14 (.buildSlice 13 [(Vi 0),(Vi 0),(Vi 0),(Vi 0),(Vi 0),(Vi 0),(Vi 0),(Vi 0),(Vi 0),(Vi 0),(Vi 0),(Vi 0),(Vi 0)] [(0,(1,(zT (-1)))),(1,(1,(zT 0))),(2,(1,(zT 659))),(3,(1,(zT 660))),(4,(1,(zT 20160))),(5,(1,(zT 20759))),(6,(1,(zT 20760))),(7,(1,(zT 20761))),(8,(1,(zT 20820))),(9,(1,(zT 30000))),(10,(1,(zT 1051898398))),(11,(1,(zT 1051898399))),(12,(1,(zT 1051898400)))]),Nt 15 14,Zm 16 0] (Bl 0 Nu9)) (.seq (Oz [i 50 (.buildSlice 9 [(Vi 0),(Vi 0),(Vi 0),(Vi 0),(Vi 0),(Vi 0),(Vi 0),(Vi 0),(Vi 0)] [(0,(1,(zT (-1)))),(1,(1,(zT 0))),(2,(1,(zT 1))),(3,(1,(zT 2))),(4,(1,(zT 999999999))),(5,(1,(zT 1000000000))),(6,(1,(zT 1000000001))),(7,(1,(zT 1051898399))),(8,(1,(zT 1051898400)))]),Nt 51 50,Zm 52 0] (Bl 4 Nvb)) (.seq (Oz [Zm 7 48] (Bl 6 Nvc)) (Oz [Ct 107 20 [],i 10 (.alloc [Vz,Vz]),St 2 10 107] (Oz [fT 108 0 10,lT 109 108,i 110 (.idxAddrS 1 (t 109) (zT 1)),s (.store 1 (t 110) (zT 1))] (Oz [Ct 111 20 [],i 11 (.alloc [Vz,Vz]),St 2 11 111] (Oz [fT 112 1 11,lT 113 112,i 114 (.idxAddrS 8 (t 113) (zT 0)),fT 115 6 114,s (.store 1 (t 115) (zT 0))] (Oz [Gt 116 2 10,mT 117 1,Ct 118 9 [(t 116),(t 117),(zT 9),(zT (-1))],mT 119 118,p 120 119 (.loadN 2 (t 11)),Pm 121 119 1,p 122 119 (.call .any (.func 9) [(t 120),(t 121),(zT 2),(zT 2100)]),At 123 119 122,mT 124 123,p 125 124 (.build [Vz,Vz] []),p 126 124 (.call .any (.func 9) [(t 125),(k Vz),(zT 1),(zT 0)]),At 127 124 126,mT 128 127,p 129 128 (.call .any (.func 20) []),p 130 128 (.call .any (.func 9) [(t 129),(k Vz),(zT 2),(zT 9999)]),At 131 128 130,mT 0 131] .ret))))))))))
def a12:AFunc:=⟨132,[(.tmp 0)],c12⟩
theorem n12:a12.ntmps=132:=id rfl
theorem XD:a12.results=[(.tmp 0)]:=rfl
theorem b12:a12.body=c12:=rfl
def Nu8:ACode:=(Oz [Bt 52 .lss 51 50] (.seq (Ce 52 2) (.seq (.block 3 (Oz [xT 53 8 49 51,Gt 54 8 53,i 8 (.alloc [(Vi 0),(Vi 0),(Vi 0),(Vi 0),(Vi 0),(Vi 0),(Vi 0),(.int .u8 0)]),St 8 8 54] (.seq (Oz [Gt 55 8 8,Ct 56 35 [(t 55)],Ut 57 56,mT 58 57,Qm 59 58 6,Qf 60 58 0 8,Ql 61 58 60,q 62 58 (.lookup (.int .i64) (.bool false) false (t 59) (t 61)),Ot 63 58 62,mT 64 63,Qm 65 64 3,Qf 66 64 1 8,Ql 67 64 66,q 68 64 (.lookup (.int .i64) (.bool false) false (t 65) (t 67)),q 69 64 (.un .not (t 68)),Ot 70 64 69,mT 71 70,Qm 72 71 3,Qf 73 71 2 8,Ql 74 71 73,q 75 71 (.lookup (.int .i64) (.bool false) false (t 72) (t 74)),q 76 71 (.un .not (t 75)),Ot 77 71 76] (.cond (t 77) (Oz [Zm 2 321] .ret) .skip)) (.ops [mT 78 6,fT 79 0 8,lT 80 79,s (.mapUpdate (.int .i64) (t 78) (t 80) (k (.bool true)))])))) (.ops [Bc 81 .add 51 1,mT 51 81]))))
def N0q:ACode:=(Oz [Bt 27 .lss 26 25] (.seq (Ce 27 0) (.seq (.block 1 (Oz [xT 28 1 24 26,lT 29 28,mT 5 29] (.seq (Oz [mT 30 5,Bc 31 .lss 30 1,mT 32 31,Qm 33 32 5,q 34 32 (.bin .gtr (t 33) (zT 999999)),Ot 35 32 34,mT 36 35,Qm 37 36 3,Qm 38 36 5,q 39 36 (.lookup (.int .i64) (.bool false) false (t 37) (t 38)),Ot 40 36 39] (.cond (t 40) (Oz [Zm 2 320] .ret) .skip)) (.ops [mT 41 3,mT 42 5,s (.mapUpdate (.int .i64) (t 41) (t 42) (k (.bool true)))])))) (.ops [Bc 43 .add 26 1,mT 26 43]))))
def c13:ACode:=(Oz [i 1 (.box (t 0)),Zm 2 0] (.seq (Oz [fT 9 0 1,lT 10 9,Nt 11 10,Bc 12 .gtr 11 50,mT 13 12,Qf 14 13 1 1,Ql 15 13 14,q 16 13 (.lenSlice (t 15)),q 17 13 (.bin .gtr (t 16) (zT 200)),Ot 18 13 17] (.cond (t 18) (Oz [Zm 2 5] .ret) .skip)) (Oz [fT 19 0 1,lT 20 19,Nt 21 20,i 22 (.makeMap (some (t 21))),mT 3 22] (.seq (Oz [fT 23 0 1,lT 24 23,Nt 25 24,Zm 26 0] (Bl 0 N0q)) (Oz [fT 44 1 1,lT 45 44,Nt 46 45,i 47 (.makeMap (some (t 46))),mT 6 47] (.seq (Oz [fT 48 1 1,lT 49 48,Nt 50 49,Zm 51 0] (Bl 2 Nu8)) (Oz [Zm 2 0] .ret)))))))
def a13:AFunc:=⟨82,[(.tmp 2)],c13⟩
theorem n13:a13.ntmps=82:=id rfl
theorem r13:a13.results=[(.tmp 2)]:=rfl
theorem b13:a13.body=c13:=rfl
def c17:ACode:=(Oz [i 4 (.box (t 0)),Zm 8 0,Zm 9 0] (.seq (Oz [Gt 11 2 4,mT 12 1,mT 13 2,mT 14 3,Ct 15 38 [(t 11),(t 12),(t 13),(t 14)],mT 10 15] (Oz [mT 16 10,Bc 17 .neq 16 0] (.cond (t 17) (Oz [mT 18 10,Zm 8 0,mT 9 18] .ret) .skip))) (Oz [Gt 19 2 4,mT 20 1,mT 21 2,mT 22 3,Ct 23 39 [(t 19),(t 20),(t 21),(t 22)],i 24 (.nilCheck (t 23)),fT 25 7 24,lT 26 25,mT 8 26,Zm 9 0] .ret)))
def a17:AFunc:=⟨27,[(.tmp 8),(.tmp 9)],c17⟩
theorem n17:a17.ntmps=27:=id rfl
theorem r17:a17.results=[(.tmp 8),(.tmp 9)]:=rfl
theorem b17:a17.body=c17:=rfl
def Nu7:ACode:=(Oz [Bt 111 .lss 110 109] (.seq (Ce 111 4) (.seq (.block 5 (Oz [xT 112 11 108 110,Gt 113 11 112,i 23 (.alloc [(Vi 0),(Vi 0),(Vi 0),(Vi 0),(Vi 0),(Vi 0),(Vi 0),(.int .u8 0),(Vi 0),(Vi 0),(Vi 0)]),St 11 23 113] (Oz [fT 114 8 23,Gt 115 2 114,i 24 (.alloc [(Vi 0),(Vi 0)]),St 2 24 115] (Oz [mT 117 12,fT 118 0 23,fT 119 1 118,lT 120 119,i 121 (.lookup (.int .i64) (Vi 0) true (t 117) (t 120)),mT 116 121,Et 122 0 116,Et 123 1 116,mT 25 122,mT 26 123] (Oz [mT 125 12,fT 126 0 23,fT 127 2 126,lT 128 127,i 129 (.lookup (.int .i64) (Vi 0) true (t 125) (t 128)),mT 124 129,Et 130 0 124,Et 131 1 124,mT 27 130,mT 28 131] (Oz [mT 132 26,mT 133 132,Pm 134 133 25,Pf 135 133 0 24,Pl 136 133 135,Pf 137 133 0 23,Pf 138 133 5 137,Pl 139 133 138,Pb 140 133 .sub 136 139,Pb 141 133 .leq 134 140,At 142 133 141,mT 143 142,Pm 144 143 28,p 145 143 (.un .not (t 144)),Pm 146 143 145,Qm 147 146 27,Qf 148 146 1 24,Ql 149 146 148,Qb 150 146 .gtr 147 149,p 151 143 (.pick (t 146) (k (.bool true)) (t 150)),At 152 143 151] (.cond (t 152) (.ops [fT 153 1 17,lT 154 153,fT 155 0 23,fT 156 0 155,lT 157 156,fT 158 0 24,lT 159 158,fT 160 1 24,lT 161 160,fT 162 0 23,fT 163 6 162,lT 164 163,i 165 (.build [(Vi 0),(Vi 0),(Vi 0),(Vi 0)] [(0,(1,(t 157))),(1,(1,(t 159))),(2,(1,(t 161))),(3,(1,(t 164)))]),i 166 (.buildSlice 1 [(Vi 0),(Vi 0),(Vi 0),(Vi 0)] [(0,(4,(t 165)))]),i 167 (.append 4 32 false (t 154) (t 166)),fT 168 1 17,St 1 168 167]) .skip))))))) (.ops [Bc 169 .add 110 1,mT 110 169]))))
def Nu6:ACode:=(Oz [Bt 87 .lss 86 85] (.seq (Ce 87 2) (.seq (.block 3 (Oz [xT 88 1 84 86,lT 89 88,mT 19 89] (Oz [mT 91 12,mT 92 19,i 93 (.lookup (.int .i64) (Vi 0) true (t 91) (t 92)),mT 90 93,Et 94 0 90,Et 95 1 90,mT 20 94,mT 21 95] (.seq (Oz [mT 96 21,Ut 97 96] (.cond (t 97) (.ops [Zm 20 (-1)]) .skip)) (.ops [fT 98 0 17,lT 99 98,mT 100 20,i 101 (.buildSlice 1 [(Vi 0)] [(0,(1,(t 100)))]),i 102 (.append 1 8 false (t 99) (t 101)),fT 103 0 17,St 1 103 102]))))) (.ops [Bc 104 .add 86 1,mT 86 104]))))
def Nu5:ACode:=(Oz [Bt 53 .lss 52 51] (.seq (Ce 53 0) (.seq (.block 1 (Oz [mT 54 52,xT 55 2 50 52,Gt 56 2 55,i 14 (.alloc [(Vi 0),(Vi 0)]),mT 13 54,St 2 14 56] (Oz [mT 58 12,fT 59 0 14,lT 60 59,i 61 (.lookup (.int .i64) (Vi 0) true (t 58) (t 60)),mT 57 61,Et 62 0 57,Et 63 1 57,mT 15 62,mT 16 63] (Oz [mT 64 16,Ut 65 64,mT 66 65,Pm 67 66 11,p 68 66 (.nilCheck (t 67)),Pf 69 66 4 68,Pl 70 66 69,Pm 71 66 13,p 72 66 (.bin .add (t 71) (zT 2)),Px 73 66 1 70 72,Pl 74 66 73,p 75 66 (.bin .geq (t 74) (zT 0)),At 76 66 75] (.cond (t 76) (.ops [mT 77 12,fT 78 0 14,lT 79 78,fT 80 1 14,lT 81 80,s (.mapUpdate (.int .i64) (t 77) (t 79) (t 81))]) .skip))))) (.ops [Bc 82 .add 52 1,mT 52 82]))))
def c18:ACode:=(Oz [i 4 (.box (t 0)),i 8 (.alloc [Vz,Vz]),Zm 9 0] (.seq (Oz [Gt 29 2 4,mT 30 1,mT 31 2,mT 32 3,Ct 33 38 [(t 29),(t 30),(t 31),(t 32)],mT 10 33] (Oz [mT 34 10,Bc 35 .neq 34 0] (.cond (t 35) (Oz [i 36 (.build [Vz,Vz] []),mT 37 10,St 2 8 36,mT 9 37] .ret) .skip))) (Oz [Gt 38 2 4,mT 39 1,mT 40 2,mT 41 3,Ct 42 39 [(t 38),(t 39),(t 40),(t 41)],mT 11 42] (Oz [fT 43 0 4,lT 44 43,Nt 45 44,i 46 (.makeMap (some (t 45))),mT 12 46] (.seq (Oz [mT 47 11,i 48 (.nilCheck (t 47)),fT 49 0 48,lT 50 49,Nt 51 50,Zm 52 0] (Bl 0 Nu5)) (Oz [i 17 (.alloc [Vz,Vz])] (.seq (Oz [fT 83 0 4,lT 84 83,Nt 85 84,Zm 86 0] (Bl 2 Nu6)) (.seq (Oz [mT 105 11,i 106 (.nilCheck (t 105)),fT 107 6 106,lT 108 107,Nt 109 108,Zm 110 0] (Bl 4 Nu7)) (Oz [fT 170 1 17,lT 171 170,Ct 172 40 [(t 171),(.func 41)]] (Oz [Gt 173 2 17,St 2 8 173,Zm 9 0] .ret))))))))))
def a18:AFunc:=⟨174,[(.cellN 2 8),(.tmp 9)],c18⟩
theorem n18:a18.ntmps=174:=id rfl
theorem r18:a18.results=[(.cellN 2 8),(.tmp 9)]:=rfl
theorem b18:a18.body=c18:=rfl
def c20:ACode:=(Oz [i 0 (.alloc [Vz,Vz])] (Oz [i 1 (.buildSlice 2 [(Vi 0),(Vi 0)] [(0,(1,(zT 1))),(1,(1,(zT 2)))]),Ct 2 11 [(zT 1),(zT 1),(zT 2),(zT 600),(zT 60),(zT 0),(zT 100)],i 3 (.buildSlice 1 [(Vi 0),(Vi 0),(Vi 0),(Vi 0),(Vi 0),(Vi 0),(Vi 0),(.int .u8 0)] [(0,(8,(t 2)))]),i 4 (.build [Vz,Vz] [(0,(1,(t 1))),(1,(1,(t 3)))]),St 2 0 4] .ret))
def a20:AFunc:=⟨5,[(.cellN 2 0)],c20⟩
theorem n20:a20.ntmps=5:=id rfl
theorem r20:a20.results=[(.cellN 2 0)]:=rfl
theorem b20:a20.body=c20:=rfl
def N0p:ACode:=(Oz [Bt 35 .lss 34 33] (.seq (Ce 35 0) (.seq (.block 1 (Oz [xT 36 11 32 34,Gt 37 11 36,i 14 (.alloc [(Vi 0),(Vi 0),(Vi 0),(Vi 0),(Vi 0),(Vi 0),(Vi 0),(.int .u8 0),(Vi 0),(Vi 0),(Vi 0)]),St 11 14 37] (Ds 0 [mT 38 11,i 39 (.nilCheck (t 38)),fT 40 2 39,lT 41 40,fT 42 10 14,lT 43 42,Bc 44 .xor 43 1,xT 45 2 41 44,fT 46 1 45,lT 47 46,mT 15 47] (Oz [mT 48 15,Bc 49 .gtr 48 0] (.cond (t 49) (.ops [mT 50 12,fT 51 0 14,fT 52 0 51,lT 53 52,fT 54 8 14,fT 55 0 54,lT 56 55,fT 57 8 14,fT 58 1 57,lT 59 58,mT 60 15,i 61 (.build [(Vi 0),(Vi 0),(Vi 0),(Vi 0)] [(0,(1,(t 53))),(1,(1,(t 56))),(2,(1,(t 59))),(3,(1,(t 60)))]),i 62 (.buildSlice 1 [(Vi 0),(Vi 0),(Vi 0),(Vi 0)] [(0,(4,(t 61)))]),i 63 (.append 4 32 false (t 50) (t 62)),mT 12 63]) .skip))))) (.ops [Bc 64 .add 34 1,mT 34 64]))))
def c21:ACode:=(Oz [i 4 (.box (t 0)),i 8 (.mov (k Vz)),Zm 9 0] (.seq (Oz [Gt 16 2 4,mT 17 1,mT 18 2,mT 19 3,Ct 20 38 [(t 16),(t 17),(t 18),(t 19)],mT 10 20] (Oz [mT 21 10,Bc 22 .neq 21 0] (.cond (t 22) (Oz [mT 23 10,i 8 (.mov (k Vz)),mT 9 23] .ret) .skip))) (Oz [Gt 24 2 4,mT 25 1,mT 26 2,mT 27 3,Ct 28 39 [(t 24),(t 25),(t 26),(t 27)],mT 11 28] (Oz [i 12 (.mov (k Vz))] (.seq (Oz [mT 29 11,i 30 (.nilCheck (t 29)),fT 31 6 30,lT 32 31,Nt 33 32,Zm 34 0] (Bl 0 N0p)) (Oz [mT 65 12,Ct 66 40 [(t 65),(.func 41)]] (Oz [mT 67 12,mT 8 67,Zm 9 0] .ret)))))))
def a21:AFunc:=⟨68,[(.tmp 8),(.tmp 9)],c21⟩
theorem n21:a21.ntmps=68:=id rfl
theorem r21:a21.results=[(.tmp 8),(.tmp 9)]:=rfl
theorem b21:a21.body=c21:=rfl
def Nu4:ACode:=(Oz [Bt 79 .lss 78 77] (.seq (Ce 79 4) (.seq (.block 5 (Oz [mT 80 78,xT 81 4 76 78,Gt 82 4 81,i 20 (.alloc [(Vi 0),(Vi 0),(Vi 0),(Vi 0)]),mT 19 80,St 4 20 82] (Oz [lT 84 12,fT 85 0 20,lT 86 85,fT 87 1 20,lT 88 87,fT 89 2 20,lT 90 89,i 91 (.build [(Vi 0),(Vi 0),(Vi 0),(Vi 0)] [(0,(1,(t 86))),(1,(1,(t 88))),(2,(1,(t 90)))]),i 92 (.lookup (.ints [.i64,.i64,.i64,.i64]) (.agg #[(Vi 0),(Vi 0),(Vi 0),(Vi 0),(Vi 0),(Vi 0),(Vi 0),(.int .u8 0)]) true (t 84) (t 91)),mT 83 92,Et 93 0 83,Et 94 1 83,i 21 (.alloc [(Vi 0),(Vi 0),(Vi 0),(Vi 0),(Vi 0),(Vi 0),(Vi 0),(.int .u8 0)]),St 8 21 93,mT 22 94] (.seq (Ds 0 [mT 95 22,Ut 96 95,mT 97 96,Qf 98 97 3 20,Ql 99 97 98,q 100 97 (.bin .lss (t 99) (zT 1)),Ot 101 97 100,mT 102 101,Qf 103 102 3 20,Ql 104 102 103,Qf 105 102 6 21,Ql 106 102 105,Qb 107 102 .gtr 104 106,Ot 108 102 107,mT 109 108,Qm 110 109 19,q 111 109 (.bin .gtr (t 110) (zT 0)),Qm 112 109 111,Pm 113 112 4,Pm 114 112 19,p 115 112 (.bin .sub (t 114) (zT 1)),Px 116 112 4 113 115,p 117 112 (.loadN 4 (t 116)),p 118 112 (.loadN 4 (t 20)),p 119 112 (.call .pure (.func 41) [(t 117),(t 118)]),p 120 112 (.bin .geq (t 119) (zT 0)),q 121 109 (.pick (t 112) (t 120) (k (.bool false))),Ot 122 109 121] (.cond (t 122) (Oz [Zm 10 0,i 11 (.mov (k (.bool false)))] .retM) .skip)) (Oz [mT 123 16,fT 124 1 21,lT 125 124,fT 126 1 20,lT 127 126,fT 128 5 21,lT 129 128,Bt 130 .sub 127 129,fT 131 3 20,lT 132 131,i 133 (.un .neg (t 132)),i 134 (.build [(Vi 0),(Vi 0),(Vi 0)] [(0,(1,(t 125))),(1,(1,(t 130))),(2,(1,(t 133)))]),fT 135 2 21,lT 136 135,fT 137 2 20,lT 138 137,fT 139 3 20,lT 140 139,i 141 (.build [(Vi 0),(Vi 0),(Vi 0)] [(0,(1,(t 136))),(1,(1,(t 138))),(2,(1,(t 140)))]),i 142 (.buildSlice 2 [(Vi 0),(Vi 0),(Vi 0),(Vi 0),(Vi 0),(Vi 0)] [(0,(3,(t 134))),(3,(3,(t 141)))]),i 143 (.append 3 24 false (t 123) (t 142)),mT 16 143] (Oz [fT 144 2 21,lT 145 144,mT 146 2,Bt 147 .eql 145 146] (.cond (t 147) (.ops [mT 148 15,fT 149 3 20,lT 150 149,Bt 151 .add 148 150,mT 15 151]) .skip))))))) (.ops [Bc 152 .add 78 1,mT 78 152]))))
def Nu3:ACode:=(Oz [Bt 48 .lss 47 46] (.seq (Ce 48 2) (.seq (.block 3 (Oz [xT 49 3 45 47,Gt 50 3 49,i 18 (.alloc [(Vi 0),(Vi 0),(Vi 0)]),St 3 18 50] (Oz [mT 51 16,fT 52 0 18,lT 53 52,fT 54 1 18,lT 55 54,fT 56 2 18,lT 57 56,i 58 (.build [(Vi 0),(Vi 0),(Vi 0)] [(0,(1,(t 53))),(1,(1,(t 55))),(2,(1,(t 57)))]),i 59 (.buildSlice 1 [(Vi 0),(Vi 0),(Vi 0)] [(0,(3,(t 58)))]),i 60 (.append 3 24 false (t 51) (t 59)),mT 16 60] (Oz [fT 61 0 18,lT 62 61,mT 63 2,Bt 64 .eql 62 63,mT 65 64,Pf 66 65 1 18,Pl 67 65 66,Pm 68 65 3,Pb 69 65 .leq 67 68,At 70 65 69] (.cond (t 70) (.ops [mT 71 15,fT 72 2 18,lT 73 72,Bt 74 .add 71 73,mT 15 74]) .skip))))) (.ops [Bc 75 .add 47 1,mT 47 75]))))
def Vr:ACode:=(Oz [i 13 (.alloc [(Vi 0),(Vi 0),(Vi 0),(Vi 0),(Vi 0),(Vi 0),(Vi 0),(.int .u8 0)]),St 8 13 34] (.ops [i 14 (.alloc [(Vi 0),(Vi 0)]),St 2 14 35]))
def Vq:ACode:=(.block 1 (.ops [lT 36 12,fT 37 0 13,lT 38 37,fT 39 0 14,lT 40 39,fT 41 1 14,lT 42 41,i 43 (.build [(Vi 0),(Vi 0),(Vi 0),(Vi 0)] [(0,(1,(t 38))),(1,(1,(t 40))),(2,(1,(t 42)))]),Gt 44 8 13,s (.mapUpdate (.ints [.i64,.i64,.i64,.i64]) (t 36) (t 43) (t 44))]))
def c22:ACode:=(.seq (Oz [i 5 (.box (t 0)),Zm 10 0,i 11 (.mov (k (.bool false)))] (.seq (Oz [Gt 23 2 5,mT 24 1,mT 25 2,mT 26 3,Ct 27 38 [(t 23),(t 24),(t 25),(t 26)],Bc 28 .neq 27 0] (.cond (t 28) (Oz [Zm 10 0,i 11 (.mov (k (.bool false)))] .retM) .skip)) (Oz [i 29 (.makeMap none),i 12 (.alloc [(.map none)]),St 1 12 29] (.seq (Oz [Gt 30 2 5,mT 31 2,mT 32 3,Ct 33 45 [(t 30),(t 31),(t 32)]] (.block 0 (.rangeF (t 33) [34,35] Vr Vq))) (Oz [Zm 15 0] (Oz [i 16 (.mov (k Vz))] (.seq (Oz [mT 45 1,Nt 46 45,Zm 47 0] (Bl 2 Nu3)) (.seq (Oz [mT 76 4,Nt 77 76,Zm 78 0] (Bl 4 Nu4)) (.seq (Oz [mT 153 16,Ct 154 46 [(t 153)],Ut 155 154] (.cond (t 155) (Oz [Zm 10 0,i 11 (.mov (k (.bool false)))] .retM) .skip)) (Oz [mT 156 15,mT 10 156,i 11 (.mov (k (.bool true)))] .retM)))))))))) .retM)
def a22:AFunc:=⟨157,[(.tmp 10),(.tmp 11)],c22⟩
theorem n22:a22.ntmps=157:=id rfl
theorem r22:a22.results=[(.tmp 10),(.tmp 11)]:=rfl
theorem b22:a22.body=c22:=rfl
def N0o:ACode:=(.seq (Oz [mT 11 5,mT 12 0,Nt 13 12,Bt 14 .lss 11 13] (Ce 14 0)) (.seq (.block 1 (Ds 0 [mT 17 0,mT 18 5,xT 19 4 17 18,Gt 20 4 19,mT 21 1,mT 22 5,xT 23 4 21 22,Gt 24 4 23,i 25 (.eqv true (.agg [(.int .i64),(.int .i64),(.int .i64),(.int .i64)]) (t 20) (t 24))] (.cond (t 25) (Oz [i 4 (.mov (k (.bool false)))] .ret) .skip))) (.ops [mT 15 5,Bc 16 .add 15 1,mT 5 16])))
def c23:ACode:=(Oz [i 4 (.mov (k (.bool false)))] (.seq (Oz [mT 6 0,Nt 7 6,mT 8 1,Nt 9 8,Bt 10 .neq 7 9] (.cond (t 10) (Oz [i 4 (.mov (k (.bool false)))] .ret) .skip)) (.seq (Oz [Zm 5 0] (Bl 0 N0o)) (Oz [i 4 (.mov (k (.bool true)))] .ret))))
def a23:AFunc:=⟨26,[(.tmp 4)],c23⟩
theorem n23:a23.ntmps=26:=id rfl
theorem r23:a23.results=[(.tmp 4)]:=rfl
theorem b23:a23.body=c23:=rfl
def N0n:ACode:=(.seq (Oz [mT 11 5,mT 12 0,Nt 13 12,Bt 14 .lss 11 13] (Ce 14 0)) (.seq (.block 1 (Ds 0 [mT 17 0,mT 18 5,xT 19 1 17 18,lT 20 19,mT 21 1,mT 22 5,xT 23 1 21 22,lT 24 23,Bt 25 .neq 20 24] (.cond (t 25) (Oz [i 4 (.mov (k (.bool false)))] .ret) .skip))) (.ops [mT 15 5,Bc 16 .add 15 1,mT 5 16])))
def c24:ACode:=(Oz [i 4 (.mov (k (.bool false)))] (.seq (Oz [mT 6 0,Nt 7 6,mT 8 1,Nt 9 8,Bt 10 .neq 7 9] (.cond (t 10) (Oz [i 4 (.mov (k (.bool false)))] .ret) .skip)) (.seq (Oz [Zm 5 0] (Bl 0 N0n)) (Oz [i 4 (.mov (k (.bool true)))] .ret))))
def a24:AFunc:=⟨26,[(.tmp 4)],c24⟩
theorem n24:a24.ntmps=26:=id rfl
theorem r24:a24.results=[(.tmp 4)]:=rfl
theorem b24:a24.body=c24:=rfl
def c27:ACode:=(Oz [i 4 (.box (t 0)),Zm 8 0,Zm 9 0] (Oz [Gt 13 2 4,mT 14 1,mT 15 2,mT 16 3,Ct 17 49 [(t 13),(t 14),(t 15),(t 16)],mT 10 17] (.seq (Oz [mT 18 10,Bc 19 .neq 18 0] (.cond (t 19) (Oz [mT 20 10,Zm 8 0,mT 9 20] .ret) .skip)) (Oz [Gt 22 2 4,mT 23 1,mT 24 2,mT 25 3,Ct 26 51 [(t 22),(t 23),(t 24),(t 25)],Ct 27 50 [(t 26)],mT 21 27,Et 28 0 21,Et 29 1 21,mT 11 28,mT 12 29] (Oz [mT 30 11,mT 8 30,Zm 9 0] .ret)))))
def a27:AFunc:=⟨31,[(.tmp 8),(.tmp 9)],c27⟩
theorem n27:a27.ntmps=31:=id rfl
theorem r27:a27.results=[(.tmp 8),(.tmp 9)]:=rfl
theorem b27:a27.body=c27:=rfl
def N0m:ACode:=(.seq (Oz [mT 5 4,mT 6 0,Nt 7 6,Bt 8 .lss 5 7] (Ce 8 0)) (.seq (.block 1 (.drawn 2 [mT 11 3,mT 12 0,mT 13 4,xT 14 3 12 13,fT 15 0 14,Kt 16 (.load1 (t 15)) [0,1],mT 17 0,mT 18 4,xT 19 3 17 18,fT 20 1 19,Kt 21 (.load1 (t 20)) [0,1],mT 22 0,mT 23 4,xT 24 3 22 23,fT 25 2 24,Kt 26 (.load1 (t 25)) [0,1],i 27 (.build [(Vi 0),(Vi 0),(Vi 0)] [(0,(1,(t 16))),(1,(1,(t 21))),(2,(1,(t 26)))]),Wt 28 (.buildSlice 1 [(Vi 0),(Vi 0),(Vi 0)] [(0,(3,(t 27)))]) 0,Wt 29 (.append 3 24 false (t 11) (t 28)) 1,mT 3 29])) (.ops [mT 9 4,Bc 10 .add 9 1,mT 4 10])))
def c28:ACode:=(Oz [i 2 (.mov (k Vz))] (Oz [i 3 (.mov (k Vz))] (.seq (Oz [Zm 4 0] (Bl 0 N0m)) (Oz [mT 30 3,mT 2 30] .ret))))
def a28:AFunc:=⟨31,[(.tmp 2)],c28⟩
theorem n28:a28.ntmps=31:=id rfl
theorem r28:a28.results=[(.tmp 2)]:=rfl
theorem b28:a28.body=c28:=rfl
def Nnv:ACode:=(.seq (Oz [mT 98 18,fT 99 3 11,lT 100 99,Nt 101 100,Bt 102 .lss 98 101] (Ce 102 4)) (.seq (.block 5 (Oz [mT 105 13,fT 106 1 11,lT 107 106,mT 108 18,xT 109 4 107 108,fT 110 0 109,lT 111 110,xT 112 2 105 111,fT 113 0 112,lT 114 113,Bc 115 .geq 114 0,mT 116 115,Pm 117 116 13,Pf 118 116 1 11,Pl 119 116 118,Pm 120 116 18,Px 121 116 4 119 120,Pf 122 116 1 121,Pl 123 116 122,Px 124 116 2 117 123,Pf 125 116 0 124,Pl 126 116 125,p 127 116 (.bin .lss (t 126) (zT 0)),At 128 116 127] (.cond (t 128) (.drawn 2 [fT 129 1 14,Kt 130 (.load1 (t 129)) [0,1],fT 131 3 11,Kt 132 (.load1 (t 131)) [0,1],mT 133 18,xT 134 4 132 133,Kt 135 (.loadN 4 (t 134)) [0,1],Wt 136 (.buildSlice 1 [(Vi 0),(Vi 0),(Vi 0),(Vi 0)] [(0,(4,(t 135)))]) 0,Wt 137 (.append 4 32 false (t 130) (t 136)) 1,fT 138 1 14,St 1 138 137]) .skip))) (.ops [mT 103 18,Bc 104 .add 103 1,mT 18 104])))
def Nu2:ACode:=(.seq (Oz [mT 45 17,fT 46 0 11,lT 47 46,Nt 48 47,Bt 49 .lss 45 48] (Ce 49 2)) (.seq (.block 3 (Ds 0 [fT 52 0 11,lT 53 52,mT 54 17,xT 55 2 53 54,fT 56 0 55,lT 57 56,fT 58 0 4,lT 59 58,mT 60 15,xT 61 1 59 60,lT 62 61,Bt 63 .eql 57 62,mT 64 63,Pm 65 64 13,Pm 66 64 17,Px 67 64 2 65 66,Pf 68 64 0 67,Pl 69 64 68,p 70 64 (.bin .geq (t 69) (zT 0)),At 71 64 70,mT 72 71,Pm 73 72 16,p 74 72 (.bin .lss (t 73) (zT 0)),Pm 75 72 74,Qf 76 75 0 11,Ql 77 75 76,Qm 78 75 17,Qx 79 75 2 77 78,Qf 80 75 1 79,Ql 81 75 80,Qm 82 75 16,Qb 83 75 .lss 81 82,p 84 72 (.pick (t 75) (k (.bool true)) (t 83)),At 85 72 84] (.cond (t 85) (.ops [fT 86 0 11,lT 87 86,mT 88 17,xT 89 2 87 88,fT 90 1 89,lT 91 90,mT 16 91]) .skip))) (.ops [mT 50 17,Bc 51 .add 50 1,mT 17 51])))
def Nu1:ACode:=(.seq (Oz [mT 38 15,fT 39 0 4,lT 40 39,Nt 41 40,Bt 42 .lss 38 41] (Ce 42 0)) (.seq (.block 1 (Oz [Zm 16 (-1)] (.seq (Oz [Zm 17 2] (Bl 2 Nu2)) (.ops [fT 92 0 14,lT 93 92,mT 94 16,i 95 (.buildSlice 1 [(Vi 0)] [(0,(1,(t 94)))]),i 96 (.append 1 8 false (t 93) (t 95)),fT 97 0 14,St 1 97 96])))) (.ops [mT 43 15,Bc 44 .add 43 1,mT 15 44])))
def c29:ACode:=(Oz [i 4 (.box (t 0)),i 8 (.alloc [Vz,Vz]),Zm 9 0] (Oz [Gt 19 2 4,mT 20 1,mT 21 2,mT 22 3,Ct 23 49 [(t 19),(t 20),(t 21),(t 22)],mT 10 23] (.seq (Oz [mT 24 10,Bc 25 .neq 24 0] (.cond (t 25) (Oz [i 26 (.build [Vz,Vz] []),mT 27 10,St 2 8 26,mT 9 27] .ret) .skip)) (Oz [Gt 28 2 4,mT 29 1,mT 30 2,mT 31 3,Ct 32 51 [(t 28),(t 29),(t 30),(t 31)],i 11 (.alloc [Vz,Vz,(Vi 0),Vz]),St 4 11 32] (Oz [Gt 34 4 11,Ct 35 50 [(t 34)],mT 33 35,Et 36 0 33,Et 37 1 33,mT 12 36,mT 13 37] (Oz [i 14 (.alloc [Vz,Vz])] (.seq (Oz [Zm 15 0] (Bl 0 Nu1)) (.seq (Oz [Zm 18 0] (Bl 4 Nnv)) (Oz [Gt 139 2 14,St 2 8 139,Zm 9 0] .ret)))))))))
def a29:AFunc:=⟨140,[(.cellN 2 8),(.tmp 9)],c29⟩
theorem n29:a29.ntmps=140:=id rfl
theorem r29:a29.results=[(.cellN 2 8),(.tmp 9)]:=rfl
theorem b29:a29.body=c29:=rfl
def N0l:ACode:=(.seq (Oz [mT 114 17,mT 115 4,Nt 116 115,Bt 117 .lss 114 116] (Ce 117 4)) (.seq (.block 5 (Ds 1 [Kt 121 (.loadN 2 (t 5)) [0],mT 122 4,mT 123 17,xT 124 4 122 123,fT 125 0 124,Kt 126 (.load1 (t 125)) [0],Kt 127 (.call .pure (.func 54) [(t 121),(t 126)]) [0],mT 120 127,Et 128 0 120,Et 129 1 120,Wt 18 (.alloc [(Vi 0),(Vi 0),(Vi 0),(Vi 0),(Vi 0),(Vi 0),(Vi 0),(.int .u8 0)]) 0,St 8 18 128,mT 19 129] (Ds 0 [Gt 130 2 5,mT 131 1,mT 132 4,fT 133 1 18,lT 134 133,mT 135 4,mT 136 17,xT 137 4 135 136,fT 138 1 137,lT 139 138,fT 140 5 18,lT 141 140,Bt 142 .sub 139 141,i 143 (.call .pure (.func 55) [(t 130),(t 131),(t 132),(t 134),(t 142)]),Bc 144 .lss 143 0] (.cond (t 144) (Oz [Zm 10 0,i 11 (.mov (k (.bool false)))] .ret) .skip)))) (.ops [mT 118 17,Bc 119 .add 118 1,mT 17 119])))
def Nu0:ACode:=(.seq (Oz [mT 36 15,mT 37 12,Nt 38 37,Bt 39 .lss 36 38] (Ce 39 2)) (.seq (.block 3 (Oz [mT 42 12,mT 43 15,xT 44 4 42 43,Gt 45 4 44,i 16 (.alloc [(Vi 0),(Vi 0),(Vi 0),(Vi 0)]),St 4 16 45] (.drawn 0 [mT 46 14,mT 47 46,Qf 48 47 0 16,Ql 49 47 48,Qm 50 47 4,Qm 51 47 13,Qx 52 47 4 50 51,Qf 53 47 0 52,Ql 54 47 53,Qb 55 47 .eql 49 54,Qm 56 47 55,Pf 57 56 1 16,Pl 58 56 57,Pm 59 56 4,Pm 60 56 13,Px 61 56 4 59 60,Pf 62 56 1 61,Pl 63 56 62,Pb 64 56 .eql 58 63,q 65 47 (.pick (t 56) (t 64) (k (.bool false))),Qm 66 47 65,Pf 67 66 2 16,Pl 68 66 67,Pm 69 66 4,Pm 70 66 13,Px 71 66 4 69 70,Pf 72 66 2 71,Pl 73 66 72,Pb 74 66 .eql 68 73,q 75 47 (.pick (t 66) (t 74) (k (.bool false))),Qm 76 47 75,Pm 77 76 4,Pm 78 76 13,Px 79 76 4 77 78,Pf 80 76 3 79,Pl 81 76 80,p 82 76 (.bin .geq (t 81) (zT 1)),q 83 47 (.pick (t 76) (t 82) (k (.bool false))),Qm 84 47 83,Pm 85 84 4,Pm 86 84 13,Px 87 84 4 85 86,Pf 88 84 3 87,Pl 89 84 88,Pf 90 84 3 16,Pl 91 84 90,Pb 92 84 .leq 89 91,q 93 47 (.pick (t 84) (t 92) (k (.bool false))),Ot 94 47 93,mT 14 94]))) (.ops [mT 40 15,Bc 41 .add 40 1,mT 15 41])))
def N0k:ACode:=(.seq (Oz [mT 30 13,mT 31 4,Nt 32 31,Bt 33 .lss 30 32] (Ce 33 0)) (.seq (.block 1 (Oz [i 14 (.mov (k (.bool false)))] (.seq (Oz [Zm 15 0] (Bl 2 Nu0)) (Ds 0 [mT 95 14,Ut 96 95,mT 97 96,Qm 98 97 13,q 99 97 (.bin .gtr (t 98) (zT 0)),Qm 100 97 99,Pm 101 100 4,Pm 102 100 13,Px 103 100 4 101 102,p 104 100 (.loadN 4 (t 103)),Pm 105 100 4,Pm 106 100 13,p 107 100 (.bin .sub (t 106) (zT 1)),Px 108 100 4 105 107,p 109 100 (.loadN 4 (t 108)),p 110 100 (.call .pure (.func 53) [(t 104),(t 109)]),p 111 100 (.un .not (t 110)),q 112 97 (.pick (t 100) (t 111) (k (.bool false))),Ot 113 97 112] (.cond (t 113) (Oz [Zm 10 0,i 11 (.mov (k (.bool false)))] .ret) .skip))))) (.ops [mT 34 13,Bc 35 .add 34 1,mT 13 35])))
def c30:ACode:=(Oz [i 5 (.box (t 0)),Zm 10 0,i 11 (.mov (k (.bool false)))] (.seq (Oz [Gt 20 2 5,mT 21 1,mT 22 2,mT 23 3,Ct 24 49 [(t 20),(t 21),(t 22),(t 23)],Bc 25 .neq 24 0] (.cond (t 25) (Oz [Zm 10 0,i 11 (.mov (k (.bool false)))] .ret) .skip)) (Oz [Gt 26 2 5,mT 27 2,mT 28 3,Ct 29 52 [(t 26),(t 27),(t 28)],mT 12 29] (.seq (Oz [Zm 13 0] (Bl 0 N0k)) (.seq (Oz [Zm 17 0] (Bl 4 N0l)) (Oz [Gt 145 2 5,mT 146 1,mT 147 4,mT 148 2,mT 149 3,Ct 150 55 [(t 145),(t 146),(t 147),(t 148),(t 149)],mT 10 150,i 11 (.mov (k (.bool true)))] .ret))))))
def a30:AFunc:=⟨151,[(.tmp 10),(.tmp 11)],c30⟩
theorem n30:a30.ntmps=151:=id rfl
theorem r30:a30.results=[(.tmp 10),(.tmp 11)]:=rfl
theorem b30:a30.body=c30:=rfl
def N0j:ACode:=(.seq (Oz [mT 5 4,mT 6 0,Nt 7 6,Bt 8 .lss 5 7] (Ce 8 0)) (.seq (.block 1 (.drawn 2 [mT 11 3,mT 12 0,mT 13 4,xT 14 4 12 13,fT 15 0 14,Kt 16 (.load1 (t 15)) [0,1],mT 17 0,mT 18 4,xT 19 4 17 18,fT 20 1 19,Kt 21 (.load1 (t 20)) [0,1],mT 22 0,mT 23 4,xT 24 4 22 23,fT 25 2 24,Kt 26 (.load1 (t 25)) [0,1],mT 27 0,mT 28 4,xT 29 4 27 28,fT 30 3 29,Kt 31 (.load1 (t 30)) [0,1],i 32 (.build [(Vi 0),(Vi 0),(Vi 0),(Vi 0)] [(0,(1,(t 16))),(1,(1,(t 21))),(2,(1,(t 26))),(3,(1,(t 31)))]),Wt 33 (.buildSlice 1 [(Vi 0),(Vi 0),(Vi 0),(Vi 0)] [(0,(4,(t 32)))]) 0,Wt 34 (.append 4 32 false (t 11) (t 33)) 1,mT 3 34])) (.ops [mT 9 4,Bc 10 .add 9 1,mT 4 10])))
def c31:ACode:=(Oz [i 2 (.mov (k Vz))] (Oz [i 3 (.mov (k Vz))] (.seq (Oz [Zm 4 0] (Bl 0 N0j)) (Oz [mT 35 3,mT 2 35] .ret))))
def a31:AFunc:=⟨36,[(.tmp 2)],c31⟩
theorem n31:a31.ntmps=36:=id rfl
theorem r31:a31.results=[(.tmp 2)]:=rfl
theorem b31:a31.body=c31:=rfl
def N0i:ACode:=(Oz [Bc 34 .lss 33 8] (.seq (Ce 34 0) (.seq (.block 1 (Oz [i 35 (.idxA 8 3 true (t 32) (t 33)),i 5 (.alloc [(Vi 0),(Vi 0),(Vi 0)]),St 3 5 35] (Oz [fT 36 0 5,lT 37 36,fT 38 1 5,lT 39 38,Bt 40 .lss 37 39,mT 41 40,Qf 42 41 0 5,Ql 43 41 42,Qf 44 41 2 5,Ql 45 41 44,Qb 46 41 .gtr 43 45,Ot 47 41 46] (.cond (t 47) (Oz [i 2 (.mov (k (.bool false)))] .ret) .skip)))) (.ops [Bc 48 .add 33 1,mT 33 48]))))
def c35:ACode:=(Oz [i 1 (.box (t 0)),i 2 (.mov (k (.bool false)))] (Oz [fT 6 0 1,lT 7 6,i 8 (.build [(Vi 0),(Vi 0),(Vi 0)] [(0,(1,(t 7))),(1,(1,(zT 1))),(2,(1,(zT 999999)))]),fT 9 1 1,lT 10 9,i 11 (.build [(Vi 0),(Vi 0),(Vi 0)] [(0,(1,(t 10))),(1,(1,(zT 1))),(2,(1,(zT 999999)))]),fT 12 2 1,lT 13 12,i 14 (.build [(Vi 0),(Vi 0),(Vi 0)] [(0,(1,(t 13))),(1,(1,(zT 1))),(2,(1,(zT 999999)))]),fT 15 3 1,lT 16 15,i 17 (.build [(Vi 0),(Vi 0),(Vi 0)] [(0,(1,(t 16))),(1,(1,(zT 0))),(2,(1,(zT 1439)))]),fT 18 4 1,lT 19 18,i 20 (.build [(Vi 0),(Vi 0),(Vi 0)] [(0,(1,(t 19))),(1,(1,(zT 1))),(2,(1,(zT 20160)))]),fT 21 5 1,lT 22 21,i 23 (.build [(Vi 0),(Vi 0),(Vi 0)] [(0,(1,(t 22))),(1,(1,(zT 0))),(2,(1,(zT 10080)))]),fT 24 6 1,lT 25 24,i 26 (.build [(Vi 0),(Vi 0),(Vi 0)] [(0,(1,(t 25))),(1,(1,(zT 0))),(2,(1,(zT 1000000000)))]),fT 27 7 1,lT 28 27,i 29 (.conv .i64 (t 28)),i 30 (.build [(Vi 0),(Vi 0),(Vi 0)] [(0,(1,(t 29))),(1,(1,(zT 1))),(2,(1,(zT 127)))]),i 31 (.build [(Vi 0),(Vi 0),(Vi 0),(Vi 0),(Vi 0),(Vi 0),(Vi 0),(Vi 0),(Vi 0),(Vi 0),(Vi 0),(Vi 0),(Vi 0),(Vi 0),(Vi 0),(Vi 0),(Vi 0),(Vi 0),(Vi 0),(Vi 0),(Vi 0),(Vi 0),(Vi 0),(Vi 0)] [(0,(3,(t 8))),(3,(3,(t 11))),(6,(3,(t 14))),(9,(3,(t 17))),(12,(3,(t 20))),(15,(3,(t 23))),(18,(3,(t 26))),(21,(3,(t 30)))]),i 3 (.alloc [(Vi 0),(Vi 0),(Vi 0),(Vi 0),(Vi 0),(Vi 0),(Vi 0),(Vi 0),(Vi 0),(Vi 0),(Vi 0),(Vi 0),(Vi 0),(Vi 0),(Vi 0),(Vi 0),(Vi 0),(Vi 0),(Vi 0),(Vi 0),(Vi 0),(Vi 0),(Vi 0),(Vi 0)]),St 24 3 31] (.seq (Oz [Gt 32 24 3,Zm 33 0] (Bl 0 N0i)) (Oz [fT 49 1 1,lT 50 49,fT 51 2 1,lT 52 51,Bt 53 .neq 50 52,mT 2 53] .ret))))
def a35:AFunc:=⟨54,[(.tmp 2)],c35⟩
theorem n35:a35.ntmps=54:=id rfl
theorem r35:a35.results=[(.tmp 2)]:=rfl
theorem b35:a35.body=c35:=rfl
def N0h:ACode:=(Oz [Bt 36 .lss 35 34] (.seq (Ce 36 0) (.seq (.block 1 (Oz [xT 37 3 33 35,Gt 38 3 37,i 11 (.alloc [(Vi 0),(Vi 0),(Vi 0)]),St 3 11 38] (.seq (Oz [fT 39 0 4,lT 40 39,fT 41 0 11,lT 42 41,Ct 43 57 [(t 40),(t 42)],Ut 44 43,mT 45 44,Qf 46 45 1 11,Ql 47 45 46,q 48 45 (.bin .lss (t 47) (zT 0)),Ot 49 45 48,mT 50 49,Qf 51 50 1 11,Ql 52 50 51,q 53 50 (.bin .gtr (t 52) (zT 1051898399)),Ot 54 50 53] (.cond (t 54) (Oz [Zm 8 340] .ret) .skip)) (Oz [fT 55 2 11,lT 56 55,Bc 57 .lss 56 0,mT 58 57,Qf 59 58 2 11,Ql 60 58 59,q 61 58 (.bin .gtr (t 60) (zT 1000000000)),Ot 62 58 61] (.cond (t 62) (Oz [Zm 8 340] .ret) .skip))))) (.ops [Bc 63 .add 35 1,mT 35 63]))))
def c38:ACode:=(Oz [i 4 (.box (t 0)),Zm 8 0] (.seq (Oz [Gt 12 2 4,Ct 13 13 [(t 12)],mT 9 13] (Oz [mT 14 9,Bc 15 .neq 14 0] (.cond (t 15) (Oz [mT 16 9,mT 8 16] .ret) .skip))) (.seq (Oz [fT 17 0 4,lT 18 17,mT 19 2,Ct 20 57 [(t 18),(t 19)],Ut 21 20,mT 22 21,Qm 23 22 3,q 24 22 (.bin .lss (t 23) (zT 0)),Ot 25 22 24,mT 26 25,Qm 27 26 3,q 28 26 (.bin .gtr (t 27) (zT 1051898399)),Ot 29 26 28] (.cond (t 29) (Oz [Zm 8 2] .ret) .skip)) (.seq (Oz [mT 30 1,Nt 31 30,Bc 32 .gtr 31 50] (.cond (t 32) (Oz [Zm 8 5] .ret) .skip)) (.seq (Oz [mT 33 1,Nt 34 33,Zm 35 0] (Bl 0 N0h)) (Oz [Zm 8 0] .ret))))))
def a38:AFunc:=⟨64,[(.tmp 8)],c38⟩
theorem n38:a38.ntmps=64:=id rfl
theorem r38:a38.results=[(.tmp 8)]:=rfl
theorem b38:a38.body=c38:=rfl
def Nuz:ACode:=(.seq (Oz [mT 142 20] (Ce 142 8)) (.seq (.block 9 (.drawn 0 [i 145 (.loadR none (t 9)),i 146 (.nilCheck (t 145)),fT 147 7 146,i 148 (.loadR none (t 147)),lT 149 9,i 150 (.call .recs (.func 64) [(t 149),(zT 0),(zT 1152921504606846976)]),Bt 151 .add 148 150,i 152 (.nilCheck (t 145)),fT 153 7 152,St 1 153 151])) (.ops [lT 143 9,Ct 144 63 [(t 143)],mT 20 144])))
def Nuy:ACode:=(Oz [Bt 81 .lss 80 79] (.seq (Ce 81 4) (.seq (.block 5 (Oz [xT 82 3 78 80,Gt 83 3 82,i 16 (.alloc [(Vi 0),(Vi 0),(Vi 0)]),St 3 16 83] (Oz [fT 84 1 16,lT 85 84,mT 86 3,Bt 87 .leq 85 86] (.cond (t 87) (.drawn 0 [lT 88 9,lT 89 10,fT 90 0 16,lT 91 90,fT 92 1 16,lT 93 92,i 94 (.build [(Vi 0),(Vi 0)] [(0,(1,(t 91))),(1,(1,(t 93)))]),i 95 (.call .pure (t 89) [(t 94)]),fT 96 2 16,lT 97 96,Ct 98 61 [(t 88),(zT 0),(t 95),(t 97)]]) .skip)))) (.ops [Bc 99 .add 80 1,mT 80 99]))))
def Nux:ACode:=(Oz [Bt 28 .lss 27 26] (.seq (Ce 28 0) (.seq (.block 1 (Oz [xT 29 3 25 27,Gt 30 3 29,i 12 (.alloc [(Vi 0),(Vi 0),(Vi 0)]),St 3 12 30] (.ops [lT 31 9,fT 32 0 12,lT 33 32,fT 34 1 12,lT 35 34,i 36 (.build [(Vi 0),(Vi 0)] [(0,(1,(t 33))),(1,(1,(t 35)))]),fT 37 0 12,lT 38 37,lT 39 6,Bt 40 .neq 38 39,mT 41 40,Pf 42 41 1 12,Pl 43 41 42,Pm 44 41 3,Pb 45 41 .leq 43 44,At 46 41 45,Ct 47 59 [(t 31),(t 36),(t 46)]]))) (.ops [Bc 48 .add 27 1,mT 27 48]))))
def Wy:ACode:=(Oz [i 17 (.alloc [(Vi 0),(Vi 0),(Vi 0),(Vi 0),(Vi 0),(Vi 0),(Vi 0),(.int .u8 0)]),St 8 17 104] (.ops [i 18 (.alloc [(Vi 0),(Vi 0)]),St 2 18 105]))
def Wx:ACode:=(.block 7 (Ds 0 [lT 106 9,lT 107 10,fT 108 1 17,lT 109 108,fT 110 0 18,lT 111 110,fT 112 5 17,lT 113 112,Bt 114 .sub 111 113,i 115 (.build [(Vi 0),(Vi 0)] [(0,(1,(t 109))),(1,(1,(t 114)))]),i 116 (.call .pure (t 107) [(t 115)]),lT 117 10,fT 118 2 17,lT 119 118,fT 120 1 18,lT 121 120,i 122 (.build [(Vi 0),(Vi 0)] [(0,(1,(t 119))),(1,(1,(t 121)))]),i 123 (.call .pure (t 117) [(t 122)]),fT 124 6 17,lT 125 124,Ct 126 61 [(t 106),(t 116),(t 123),(t 125)],mT 19 126] (.drawn 2 [Kt 128 (.load1 (t 9)) [0,1],i 129 (.nilCheck (t 128)),fT 130 6 129,Kt 131 (.load1 (t 130)) [0,1],Kt 132 (.loadN 8 (t 17)) [0,1],Kt 133 (.loadN 2 (t 18)) [0,1],mT 134 19,i 135 (.build [(Vi 0),(Vi 0),(Vi 0),(Vi 0),(Vi 0),(Vi 0),(Vi 0),(.int .u8 0),(Vi 0),(Vi 0),(Vi 0)] [(0,(8,(t 132))),(8,(2,(t 133))),(10,(1,(t 134)))]),Wt 136 (.buildSlice 1 [(Vi 0),(Vi 0),(Vi 0),(Vi 0),(Vi 0),(Vi 0),(Vi 0),(.int .u8 0),(Vi 0),(Vi 0),(Vi 0)] [(0,(11,(t 135)))]) 0,Wt 137 (.appendL 11 88 false (t 131) (t 136)) 1,Kt 127 (.load1 (t 9)) [0,1],i 138 (.nilCheck (t 127)),fT 139 6 138,St 1 139 137])))
def Xk:ACode:=(Oz [i 13 (.alloc [(Vi 0),(Vi 0),(Vi 0),(Vi 0),(Vi 0),(Vi 0),(Vi 0),(.int .u8 0)]),St 8 13 53] (.ops [i 14 (.alloc [(Vi 0),(Vi 0)]),St 2 14 54]))
def Xj:ACode:=(.block 3 (Oz [lT 55 9,fT 56 1 13,lT 57 56,fT 58 0 14,lT 59 58,fT 60 5 13,lT 61 60,Bt 62 .sub 59 61,i 63 (.build [(Vi 0),(Vi 0)] [(0,(1,(t 57))),(1,(1,(t 62)))]),Ct 64 59 [(t 55),(t 63),(k (.bool true))]] (.ops [lT 65 9,fT 66 2 13,lT 67 66,fT 68 1 14,lT 69 68,i 70 (.build [(Vi 0),(Vi 0)] [(0,(1,(t 67))),(1,(1,(t 69)))]),fT 71 2 13,lT 72 71,lT 73 6,Bt 74 .neq 72 73,Ct 75 59 [(t 65),(t 70),(t 74)]])))
def c39:ACode:=(.seq (Oz [i 4 (.box (t 0)),i 6 (.box (t 2)),i 8 (.mov (k (.pointer none)))] (Oz [i 21 (.makeMap none),i 22 (.build [Vz,(.map none),Vz,Vz,Vz,Vz,Vz,(Vi 0)] [(1,(1,(t 21)))]),i 23 (.box (t 22)),i 9 (.alloc [(.pointer none)]),St 1 9 23] (Oz [i 24 (.makeFunc 58 [] [(t 6),(t 9)]),i 10 (.alloc [.nilFunc]),St 1 10 24] (.seq (Oz [mT 25 1,Nt 26 25,Zm 27 0] (Bl 0 Nux)) (.seq (Oz [Gt 49 2 4,lT 50 6,mT 51 3,Ct 52 45 [(t 49),(t 50),(t 51)]] (.block 2 (.rangeF (t 52) [53,54] Xk Xj))) (Oz [lT 76 9,Ct 77 60 [(t 76)]] (.seq (Oz [mT 78 1,Nt 79 78,Zm 80 0] (Bl 4 Nuy)) (.seq (Oz [Gt 100 2 4,lT 101 6,mT 102 3,Ct 103 45 [(t 100),(t 101),(t 102)]] (.block 6 (.rangeF (t 103) [104,105] Wy Wx))) (Oz [lT 140 9,Ct 141 62 [(t 140)]] (.seq (Oz [i 20 (.mov (k (.bool true)))] (Bl 8 Nuz)) (Oz [lT 154 9,mT 8 154] .retM))))))))))) .retM)
def a39:AFunc:=⟨155,[(.tmp 8)],c39⟩
theorem n39:a39.ntmps=155:=id rfl
theorem r39:a39.results=[(.tmp 8)]:=rfl
theorem b39:a39.body=c39:=rfl
def c41:ACode:=(Oz [i 2 (.box (t 0)),i 3 (.box (t 1)),Zm 4 0] (Ds 1 [fT 5 1 2,Kt 6 (.load1 (t 5)) [0],fT 7 1 3,Kt 8 (.load1 (t 7)) [0],Kt 9 (.call .pure (.func 68) [(t 6),(t 8)]) [0],fT 10 0 2,Kt 11 (.load1 (t 10)) [0],fT 12 0 3,Kt 13 (.load1 (t 12)) [0],Kt 14 (.call .pure (.func 68) [(t 11),(t 13)]) [0],Wt 15 (.buildSlice 2 [(Vi 0),(Vi 0)] [(0,(1,(t 9))),(1,(1,(t 14)))]) 0,i 16 (.call .pure (.func 67) [(t 15)]),mT 4 16] .ret))
def a41:AFunc:=⟨17,[(.tmp 4)],c41⟩
theorem n41:a41.ntmps=17:=id rfl
theorem r41:a41.results=[(.tmp 4)]:=rfl
theorem b41:a41.body=c41:=rfl
def c45:ACode:=(Oz [i 3 (.box (t 0)),i 4 (.box (t 1)),i 5 (.box (t 2)),i 6 (.mov (k .nilFunc))] (Oz [i 7 (.makeFunc 74 [] [(t 5),(t 3),(t 4)]),mT 6 7] .ret))
def a45:AFunc:=⟨8,[(.tmp 6)],c45⟩
theorem n45:a45.ntmps=8:=id rfl
theorem r45:a45.results=[(.tmp 6)]:=rfl
theorem b45:a45.body=c45:=rfl
def N0g:ACode:=(Oz [Bt 11 .lss 10 9] (.seq (Ce 11 0) (.seq (.block 1 (Oz [mT 12 10,xT 13 3 8 10,Gt 14 3 13,i 5 (.alloc [(Vi 0),(Vi 0),(Vi 0)]),mT 4 12,St 3 5 14] (.seq (Ds 0 [mT 15 4,Bc 16 .gtr 15 0,mT 17 16,Pm 18 17 0,Pm 19 17 4,p 20 17 (.bin .sub (t 19) (zT 1)),Px 21 17 3 18 20,Pf 22 17 0 21,Pl 23 17 22,Pf 24 17 0 5,Pl 25 17 24,Pb 26 17 .neq 23 25,At 27 17 26] (.cond (t 27) (.ops [Zm 3 0]) .skip)) (Oz [mT 28 3,fT 29 2 5,lT 30 29,Bt 31 .add 28 30,mT 3 31] (Oz [mT 32 3,Bc 33 .lss 32 0] (.cond (t 33) (Oz [i 2 (.mov (k (.bool false)))] .ret) .skip)))))) (.ops [Bc 34 .add 10 1,mT 10 34]))))
def c46:ACode:=(Oz [i 2 (.mov (k (.bool false)))] (Oz [mT 6 0,Ct 7 76 [(t 6),(.func 77)]] (Oz [Zm 3 0] (.seq (Oz [mT 8 0,Nt 9 8,Zm 10 0] (Bl 0 N0g)) (Oz [i 2 (.mov (k (.bool true)))] .ret)))))
def a46:AFunc:=⟨35,[(.tmp 2)],c46⟩
theorem n46:a46.ntmps=35:=id rfl
theorem r46:a46.results=[(.tmp 2)]:=rfl
theorem b46:a46.body=c46:=rfl
def N0f:ACode:=(.seq (Oz [mT 32 10,mT 33 1,Nt 34 33,Bt 35 .lss 32 34] (Ce 35 0)) (.seq (.block 1 (Oz [mT 38 1,mT 39 10,xT 40 3 38 39,Gt 41 3 40,i 11 (.alloc [(Vi 0),(Vi 0),(Vi 0)]),St 3 11 41] (Oz [Gt 42 2 4,fT 43 0 11,lT 44 43,Ct 45 79 [(t 42),(t 44)],Ut 46 45,mT 47 46,Qf 48 47 1 11,Ql 49 47 48,q 50 47 (.bin .lss (t 49) (zT 0)),Ot 51 47 50,mT 52 51,Qf 53 52 1 11,Ql 54 52 53,q 55 52 (.bin .gtr (t 54) (zT 1051898399)),Ot 56 52 55,mT 57 56,Qf 58 57 2 11,Ql 59 57 58,q 60 57 (.bin .lss (t 59) (zT 0)),Ot 61 57 60,mT 62 61,Qf 63 62 2 11,Ql 64 62 63,q 65 62 (.bin .gtr (t 64) (zT 1000000000)),Ot 66 62 65] (.cond (t 66) (Oz [Zm 8 340] .ret) .skip)))) (.ops [mT 36 10,Bc 37 .add 36 1,mT 10 37])))
def c49:ACode:=(Oz [i 4 (.box (t 0)),Zm 8 0] (Oz [Gt 12 2 4,Ct 13 78 [(t 12)],mT 9 13] (.seq (Oz [mT 14 9,Bc 15 .neq 14 0] (.cond (t 15) (Oz [mT 16 9,mT 8 16] .ret) .skip)) (.seq (Oz [Gt 17 2 4,mT 18 2,Ct 19 79 [(t 17),(t 18)],Ut 20 19,mT 21 20,Qm 22 21 3,q 23 21 (.bin .lss (t 22) (zT 0)),Ot 24 21 23,mT 25 24,Qm 26 25 3,q 27 25 (.bin .gtr (t 26) (zT 1051898399)),Ot 28 25 27] (.cond (t 28) (Oz [Zm 8 2] .ret) .skip)) (.seq (Oz [mT 29 1,Nt 30 29,Bc 31 .gtr 30 50] (.cond (t 31) (Oz [Zm 8 5] .ret) .skip)) (.seq (Oz [Zm 10 0] (Bl 0 N0f)) (Oz [Zm 8 0] .ret)))))))
def a49:AFunc:=⟨67,[(.tmp 8)],c49⟩
theorem n49:a49.ntmps=67:=id rfl
theorem r49:a49.results=[(.tmp 8)]:=rfl
theorem b49:a49.body=c49:=rfl
def Nuw:ACode:=(.seq (Oz [mT 54 9,Bc 55 .neq 54 0] (Ce 55 4)) (.block 5 (Oz [mT 56 5,mT 57 9,xT 58 2 56 57,fT 59 0 58,lT 60 59,mT 10 60] (Oz [mT 61 5,mT 62 9,xT 63 2 61 62,fT 64 1 63,lT 65 64] (.cond (t 65) (Ds 0 [fT 66 1 1,lT 67 66,mT 68 10,fT 69 1 1,lT 70 69,mT 71 10,xT 72 4 70 71,fT 73 3 72,lT 74 73,mT 75 6,Bt 76 .sub 74 75,xT 77 4 67 68,fT 78 3 77,St 1 78 76] (Ds 0 [fT 79 1 1,lT 80 79,mT 81 10,fT 82 1 1,lT 83 82,mT 84 10,xT 85 4 83 84,fT 86 2 85,lT 87 86,mT 88 6,Bt 89 .add 87 88,xT 90 4 80 81,fT 91 2 90,St 1 91 89] (.ops [fT 92 1 1,lT 93 92,mT 94 10,xT 95 4 93 94,fT 96 1 95,lT 97 96,mT 9 97]))) (Ds 0 [fT 98 1 1,lT 99 98,mT 100 10,fT 101 1 1,lT 102 101,mT 103 10,xT 104 4 102 103,fT 105 2 104,lT 106 105,mT 107 6,Bt 108 .sub 106 107,xT 109 4 99 100,fT 110 2 109,St 1 110 108] (Ds 0 [fT 111 1 1,lT 112 111,mT 113 10,fT 114 1 1,lT 115 114,mT 116 10,xT 117 4 115 116,fT 118 3 117,lT 119 118,mT 120 6,Bt 121 .add 119 120,xT 122 4 112 113,fT 123 3 122,St 1 123 121] (.ops [fT 124 1 1,lT 125 124,mT 126 10,xT 127 4 125 126,fT 128 0 127,lT 129 128,mT 9 129]))))))))
def Nuv:ACode:=(.seq (Oz [mT 22 7,Bc 23 .neq 22 0] (Ce 23 2)) (.block 3 (Ds 1 [fT 24 1 1,Kt 25 (.load1 (t 24)) [0],mT 26 5,mT 27 7,xT 28 2 26 27,fT 29 0 28,Kt 30 (.load1 (t 29)) [0],xT 31 4 25 30,Kt 32 (.loadN 4 (t 31)) [0],Wt 8 (.alloc [(Vi 0),(Vi 0),(Vi 0),(Vi 0)]) 0,St 4 8 32] (Oz [mT 33 5,mT 34 7,xT 35 2 33 34,fT 36 1 35,lT 37 36] (.cond (t 37) (.seq (Oz [fT 38 3 8,lT 39 38,mT 40 6,Bt 41 .lss 39 40] (.cond (t 41) (.ops [fT 42 3 8,lT 43 42,mT 6 43]) .skip)) (.ops [fT 44 1 8,lT 45 44,mT 7 45])) (.seq (Oz [fT 46 2 8,lT 47 46,mT 48 6,Bt 49 .lss 47 48] (.cond (t 49) (.ops [fT 50 2 8,lT 51 50,mT 6 51]) .skip)) (.ops [fT 52 0 8,lT 53 52,mT 7 53])))))))
def N0e:ACode:=(.block 1 (Oz [Gt 13 4 1,Ct 14 80 [(t 13)],mT 5 14] (.seq (Oz [mT 15 5,i 16 (.idxAddrS 2 (t 15) (zT 1)),fT 17 0 16,lT 18 17,Bc 19 .lss 18 0] (.cond (t 19) (Oz [mT 20 4,mT 21 5,mT 2 20,mT 3 21] .ret) .skip)) (Oz [Zm 6 1152921504606846976] (.seq (Oz [Zm 7 1] (Bl 2 Nuv)) (.seq (Oz [Zm 9 1] (Bl 4 Nuw)) (.ops [mT 130 4,mT 131 6,Bt 132 .add 130 131,mT 4 132])))))))
def c50:ACode:=(Oz [i 1 (.box (t 0)),Zm 2 0,i 3 (.mov (k Vz))] (Oz [fT 11 2 1,lT 12 11,mT 4 12] (Bl 0 N0e)))
def a50:AFunc:=⟨133,[(.tmp 2),(.tmp 3)],c50⟩
theorem n50:a50.ntmps=133:=id rfl
theorem r50:a50.results=[(.tmp 2),(.tmp 3)]:=rfl
theorem b50:a50.body=c50:=rfl
def Nuu:ACode:=(.seq (Oz [mT 156 21,fT 157 0 9,lT 158 157,Nt 159 158,Bt 160 .lss 156 159] (Ce 160 6)) (.seq (.block 7 (Ds 0 [fT 163 0 9,lT 164 163,mT 165 21,xT 166 2 164 165,fT 167 0 166,lT 168 167,fT 169 0 9,lT 170 169,mT 171 19,xT 172 2 170 171,fT 173 0 172,lT 174 173,Bt 175 .eql 168 174,mT 176 175,Pf 177 176 0 9,Pl 178 176 177,Pm 179 176 21,Px 180 176 2 178 179,Pf 181 176 1 180,Pl 182 176 181,Pf 183 176 0 9,Pl 184 176 183,Pm 185 176 19,Px 186 176 2 184 185,Pf 187 176 1 186,Pl 188 176 187,Pb 189 176 .gtr 182 188,At 190 176 189,mT 191 190,Pm 192 191 20,p 193 191 (.bin .lss (t 192) (zT 0)),Pm 194 191 193,Qf 195 194 0 9,Ql 196 194 195,Qm 197 194 21,Qx 198 194 2 196 197,Qf 199 194 1 198,Ql 200 194 199,Qf 201 194 0 9,Ql 202 194 201,Qm 203 194 20,Qx 204 194 2 202 203,Qf 205 194 1 204,Ql 206 194 205,Qb 207 194 .lss 200 206,p 208 191 (.pick (t 194) (k (.bool true)) (t 207)),At 209 191 208] (.cond (t 209) (.ops [mT 210 21,mT 20 210]) .skip))) (.ops [mT 161 21,Bc 162 .add 161 1,mT 21 162])))
def Nut:ACode:=(.seq (Oz [mT 149 19,fT 150 0 9,lT 151 150,Nt 152 151,Bt 153 .lss 149 152] (Ce 153 4)) (.seq (.block 5 (Oz [Zm 20 (-1)] (.seq (Oz [Zm 21 2] (Bl 6 Nuu)) (Oz [mT 211 20,Bc 212 .geq 211 0] (.cond (t 212) (.ops [fT 213 1 9,lT 214 213,mT 215 19,mT 216 20,i 217 (.build [(Vi 0),(Vi 0),(Vi 0),(Vi 0)] [(0,(1,(t 215))),(1,(1,(t 216))),(2,(1,(zT 1152921504606846976)))]),i 218 (.buildSlice 1 [(Vi 0),(Vi 0),(Vi 0),(Vi 0)] [(0,(4,(t 217)))]),i 219 (.append 4 32 false (t 214) (t 218)),fT 220 1 9,St 1 220 219]) .skip))))) (.ops [mT 154 19,Bc 155 .add 154 1,mT 19 155])))
def Nus:ACode:=(.seq (Oz [mT 92 16,mT 93 1,Nt 94 93,Bt 95 .lss 92 94] (Ce 95 2)) (.seq (.block 3 (.seq (Oz [mT 98 1,mT 99 16,xT 100 3 98 99,fT 101 1 100,lT 102 101,mT 103 3,Bt 104 .gtr 102 103] (.cond (t 104) (.exit 3) .skip)) (.seq (Oz [mT 105 1,mT 106 16,xT 107 3 105 106,fT 108 0 107,lT 109 108,mT 110 2,Bt 111 .eql 109 110] (.cond (t 111) (Ds 0 [fT 112 2 9,lT 113 112,mT 114 1,mT 115 16,xT 116 3 114 115,fT 117 2 116,lT 118 117,Bt 119 .add 113 118,fT 120 2 9,St 1 120 119] (.exit 3)) .skip)) (Ds 1 [Kt 122 (.loadN 4 (t 9)) [0],mT 123 1,mT 124 16,xT 125 3 123 124,fT 126 0 125,Kt 127 (.load1 (t 126)) [0],mT 128 1,mT 129 16,xT 130 3 128 129,fT 131 1 130,Kt 132 (.load1 (t 131)) [0],Kt 133 (.call .any (.func 81) [(t 122),(t 127),(t 132)]) [0],mT 121 133,Et 134 0 121,Et 135 1 121,Wt 18 (.alloc [Vz,Vz,(Vi 0),Vz]) 0,mT 17 134,St 4 18 135] (Oz [Gt 136 4 18,St 4 9 136] (.drawn 2 [fT 137 1 9,Kt 138 (.load1 (t 137)) [0,1],mT 139 17,mT 140 1,mT 141 16,xT 142 3 140 141,fT 143 2 142,Kt 144 (.load1 (t 143)) [0,1],i 145 (.build [(Vi 0),(Vi 0),(Vi 0),(Vi 0)] [(0,(1,(zT 0))),(1,(1,(t 139))),(2,(1,(t 144)))]),Wt 146 (.buildSlice 1 [(Vi 0),(Vi 0),(Vi 0),(Vi 0)] [(0,(4,(t 145)))]) 0,Wt 147 (.append 4 32 false (t 138) (t 146)) 1,fT 148 1 9,St 1 148 147])))))) (.ops [mT 96 16,Bc 97 .add 96 1,mT 16 97])))
def Nnu:ACode:=(.seq (Oz [mT 30 10,fT 31 3 9,lT 32 31,Nt 33 32,Bt 34 .lss 30 33] (Ce 34 0)) (.seq (.block 1 (Ds 1 [Kt 38 (.loadN 2 (t 4)) [0],fT 39 3 9,Kt 40 (.load1 (t 39)) [0],mT 41 10,xT 42 4 40 41,fT 43 0 42,Kt 44 (.load1 (t 43)) [0],Kt 45 (.call .pure (.func 54) [(t 38),(t 44)]) [0],mT 37 45,Et 46 0 37,Et 47 1 37,Wt 11 (.alloc [(Vi 0),(Vi 0),(Vi 0),(Vi 0),(Vi 0),(Vi 0),(Vi 0),(.int .u8 0)]) 0,St 8 11 46,mT 12 47] (Ds 1 [Kt 49 (.loadN 4 (t 9)) [0],fT 50 1 11,Kt 51 (.load1 (t 50)) [0],fT 52 3 9,Kt 53 (.load1 (t 52)) [0],mT 54 10,xT 55 4 53 54,fT 56 1 55,Kt 57 (.load1 (t 56)) [0],fT 58 5 11,Kt 59 (.load1 (t 58)) [0],Bt 60 .sub 57 59,Kt 61 (.call .any (.func 81) [(t 49),(t 51),(t 60)]) [0],mT 48 61,Et 62 0 48,Et 63 1 48,Wt 14 (.alloc [Vz,Vz,(Vi 0),Vz]) 0,mT 13 62,St 4 14 63] (Oz [Zm 15 1] (.seq (Oz [fT 64 2 11,lT 65 64,mT 66 2,Bt 67 .neq 65 66] (.cond (t 67) (.drawn 0 [Gt 69 4 14,fT 70 2 11,lT 71 70,fT 72 3 9,lT 73 72,mT 74 10,xT 75 4 73 74,fT 76 2 75,lT 77 76,Ct 78 81 [(t 69),(t 71),(t 77)],mT 68 78,Et 79 0 68,Et 80 1 68,mT 15 79,St 4 14 80]) .skip)) (Oz [Gt 81 4 14,St 4 9 81] (.ops [fT 82 1 9,lT 83 82,mT 84 13,mT 85 15,fT 86 6 11,lT 87 86,i 88 (.build [(Vi 0),(Vi 0),(Vi 0),(Vi 0)] [(0,(1,(t 84))),(1,(1,(t 85))),(2,(1,(t 87)))]),i 89 (.buildSlice 1 [(Vi 0),(Vi 0),(Vi 0),(Vi 0)] [(0,(4,(t 88)))]),i 90 (.append 4 32 false (t 83) (t 89)),fT 91 1 9,St 1 91 90]))))))) (.ops [mT 35 10,Bc 36 .add 35 1,mT 10 36])))
def c51:ACode:=(Oz [i 4 (.box (t 0)),i 8 (.alloc [Vz,Vz,(Vi 0),Vz])] (Oz [i 22 (.build [(Vi 0),(Vi 0)] [(0,(1,(zT 0))),(1,(1,(zT 0)))]),i 23 (.build [(Vi 0),(Vi 0)] [(0,(1,(zT (-1)))),(1,(1,(zT 0)))]),i 24 (.buildSlice 2 [(Vi 0),(Vi 0),(Vi 0),(Vi 0)] [(0,(2,(t 22))),(2,(2,(t 23)))]),Gt 25 2 4,mT 26 2,mT 27 3,Ct 28 52 [(t 25),(t 26),(t 27)],i 29 (.build [Vz,Vz,(Vi 0),Vz] [(0,(1,(t 24))),(3,(1,(t 28)))]),i 9 (.alloc [Vz,Vz,(Vi 0),Vz]),St 4 9 29] (.seq (Oz [Zm 10 0] (Bl 0 Nnu)) (.seq (Oz [Zm 16 0] (Bl 2 Nus)) (.seq (Oz [Zm 19 2] (Bl 4 Nut)) (Oz [Gt 221 4 9,St 4 8 221] .ret))))))
def a51:AFunc:=⟨222,[(.cellN 4 8)],c51⟩
theorem n51:a51.ntmps=222:=id rfl
theorem r51:a51.results=[(.cellN 4 8)]:=rfl
theorem b51:a51.body=c51:=rfl
def Nur:ACode:=(.seq (Ds 0 [mT 76 14,Bc 77 .gtr 76 0,mT 78 77,Pm 79 78 7,Pm 80 78 14,p 81 78 (.bin .sub (t 80) (zT 1)),Px 82 78 4 79 81,p 83 78 (.loadN 4 (t 82)),p 84 78 (.loadN 4 (t 13)),p 85 78 (.call .pure (.func 53) [(t 83),(t 84)]),At 86 78 85] (Ce 86 4)) (.block 5 (.ops [mT 87 14,Bc 88 .sub 87 1,mT 14 88])))
def N0d:ACode:=(.seq (Oz [mT 32 10,mT 33 2,Bc 34 .quo 33 1440,Bt 35 .leq 32 34,mT 36 35,Pf 37 36 1 9,Pl 38 36 37,Pm 39 36 1,Pb 40 36 .neq 38 39,At 41 36 40] (Ce 41 2)) (.seq (.block 3 (Oz [Gt 45 8 9,mT 46 10,Ct 47 82 [(t 45),(t 46)],mT 44 47,Et 48 0 44,Et 49 1 44,i 11 (.alloc [(Vi 0),(Vi 0)]),St 2 11 48,mT 12 49] (.seq (Oz [mT 50 12,Ut 51 50,mT 52 51,Qf 53 52 0 11,Ql 54 52 53,Qm 55 52 2,q 56 52 (.bin .sub (t 55) (zT 20160)),Qb 57 52 .lss 54 56,Ot 58 52 57,mT 59 58,Qf 60 59 1 11,Ql 61 59 60,Qm 62 59 2,Qb 63 59 .gtr 61 62,Ot 64 59 63] (.cond (t 64) (.exit 3) .skip)) (Oz [fT 65 0 9,lT 66 65,fT 67 0 11,lT 68 67,fT 69 1 11,lT 70 69,fT 71 6 9,lT 72 71,i 73 (.build [(Vi 0),(Vi 0),(Vi 0),(Vi 0)] [(0,(1,(t 66))),(1,(1,(t 68))),(2,(1,(t 70))),(3,(1,(t 72)))]),i 13 (.alloc [(Vi 0),(Vi 0),(Vi 0),(Vi 0)]),St 4 13 73] (Oz [mT 74 7,Nt 75 74,mT 14 75] (.seq (Bl 4 Nur) (Oz [i 15 (.mov (k Vz))] (Oz [mT 89 15,mT 90 7,mT 91 14,i 92 (.sliceS 4 (t 90) none (some (t 91)) none),i 93 (.append 4 32 false (t 89) (t 92)),mT 15 93] (Oz [mT 94 15,Gt 95 4 13,i 96 (.buildSlice 1 [(Vi 0),(Vi 0),(Vi 0),(Vi 0)] [(0,(4,(t 95)))]),i 97 (.append 4 32 false (t 94) (t 96)),mT 15 97] (.ops [mT 98 15,mT 99 7,mT 100 14,i 101 (.sliceS 4 (t 99) (some (t 100)) none none),i 102 (.append 4 32 false (t 98) (t 101)),mT 7 102])))))))))) (.ops [mT 42 10,Bc 43 .add 42 1,mT 10 43])))
def N0c:ACode:=(.seq (Oz [mT 16 8,fT 17 1 3,lT 18 17,Nt 19 18,Bt 20 .lss 16 19] (Ce 20 0)) (.seq (.block 1 (Oz [fT 23 1 3,lT 24 23,mT 25 8,xT 26 8 24 25,Gt 27 8 26,i 9 (.alloc [(Vi 0),(Vi 0),(Vi 0),(Vi 0),(Vi 0),(Vi 0),(Vi 0),(.int .u8 0)]),St 8 9 27] (Oz [mT 28 2,Bc 29 .sub 28 20160,Bc 30 .quo 29 1440,Bc 31 .sub 30 1,mT 10 31] (Bl 2 N0d)))) (.ops [mT 21 8,Bc 22 .add 21 1,mT 8 22])))
def c52:ACode:=(Oz [i 3 (.box (t 0)),i 6 (.mov (k Vz))] (Oz [i 7 (.mov (k Vz))] (.seq (Oz [Zm 8 0] (Bl 0 N0c)) (Oz [mT 103 7,mT 6 103] .ret))))
def a52:AFunc:=⟨104,[(.tmp 6)],c52⟩
theorem n52:a52.ntmps=104:=id rfl
theorem r52:a52.results=[(.tmp 6)]:=rfl
theorem b52:a52.body=c52:=rfl
def c53:ACode:=(Oz [i 2 (.box (t 0)),i 3 (.box (t 1)),i 4 (.mov (k (.bool false)))] (Oz [fT 5 1 2,lT 6 5,fT 7 1 3,lT 8 7,Bt 9 .gtr 6 8,mT 10 9,Qf 11 10 1 2,Ql 12 10 11,Qf 13 10 1 3,Ql 14 10 13,Qb 15 10 .eql 12 14,Qm 16 10 15,Pf 17 16 0 2,Pl 18 16 17,Pf 19 16 0 3,Pl 20 16 19,Pb 21 16 .gtr 18 20,q 22 10 (.pick (t 16) (t 21) (k (.bool false))),Ot 23 10 22,mT 4 23] .ret))
def a53:AFunc:=⟨24,[(.tmp 4)],c53⟩
theorem n53:a53.ntmps=24:=id rfl
theorem r53:a53.results=[(.tmp 4)]:=rfl
theorem b53:a53.body=c53:=rfl
def N0b:ACode:=(.seq (Oz [mT 7 6,fT 8 1 2,lT 9 8,Nt 10 9,Bt 11 .lss 7 10] (Ce 11 0)) (.seq (.block 1 (Oz [fT 14 1 2,lT 15 14,mT 16 6,xT 17 8 15 16,fT 18 0 17,lT 19 18,mT 20 1,Bt 21 .eql 19 20] (.cond (t 21) (Oz [fT 22 1 2,lT 23 22,mT 24 6,xT 25 8 23 24,Gt 26 8 25,St 8 4 26,i 5 (.mov (k (.bool true)))] .ret) .skip))) (.ops [mT 12 6,Bc 13 .add 12 1,mT 6 13])))
def c54:ACode:=(Oz [i 2 (.box (t 0)),i 4 (.alloc [(Vi 0),(Vi 0),(Vi 0),(Vi 0),(Vi 0),(Vi 0),(Vi 0),(.int .u8 0)]),i 5 (.mov (k (.bool false)))] (.seq (Oz [Zm 6 0] (Bl 0 N0b)) (Oz [i 27 (.build [(Vi 0),(Vi 0),(Vi 0),(Vi 0),(Vi 0),(Vi 0),(Vi 0),(.int .u8 0)] []),St 8 4 27,i 5 (.mov (k (.bool false)))] .ret)))
def a54:AFunc:=⟨28,[(.cellN 8 4),(.tmp 5)],c54⟩
theorem n54:a54.ntmps=28:=id rfl
theorem r54:a54.results=[(.cellN 8 4),(.tmp 5)]:=rfl
theorem b54:a54.body=c54:=rfl
def N0a:ACode:=(.seq (Oz [mT 45 13,mT 46 2,Nt 47 46,Bt 48 .lss 45 47] (Ce 48 2)) (.seq (.block 3 (Ds 1 [Kt 52 (.loadN 2 (t 5)) [0],mT 53 2,mT 54 13,xT 55 4 53 54,fT 56 0 55,Kt 57 (.load1 (t 56)) [0],Kt 58 (.call .pure (.func 54) [(t 52),(t 57)]) [0],mT 51 58,Et 59 0 51,Et 60 1 51,Wt 14 (.alloc [(Vi 0),(Vi 0),(Vi 0),(Vi 0),(Vi 0),(Vi 0),(Vi 0),(.int .u8 0)]) 0,St 8 14 59,mT 15 60] (.seq (Oz [fT 61 2 14,lT 62 61,mT 63 3,Bt 64 .eql 62 63,mT 65 64,Pm 66 65 2,Pm 67 65 13,Px 68 65 4 66 67,Pf 69 65 2 68,Pl 70 65 69,Pm 71 65 4,Pb 72 65 .leq 70 71,At 73 65 72] (.cond (t 73) (.ops [mT 74 11,mT 75 2,mT 76 13,xT 77 4 75 76,fT 78 3 77,lT 79 78,Bt 80 .add 74 79,mT 11 80]) .skip)) (Ds 0 [fT 81 1 14,lT 82 81,mT 83 3,Bt 84 .eql 82 83,mT 85 84,Pm 86 85 2,Pm 87 85 13,Px 88 85 4 86 87,Pf 89 85 1 88,Pl 90 85 89,Pf 91 85 5 14,Pl 92 85 91,Pb 93 85 .sub 90 92,Pm 94 85 4,Pb 95 85 .leq 93 94,At 96 85 95] (.cond (t 96) (.ops [mT 97 11,mT 98 2,mT 99 13,xT 100 4 98 99,fT 101 3 100,lT 102 101,Bt 103 .sub 97 102,mT 11 103]) .skip))))) (.ops [mT 49 13,Bc 50 .add 49 1,mT 13 50])))
def Nz9:ACode:=(.seq (Oz [mT 16 12,mT 17 1,Nt 18 17,Bt 19 .lss 16 18] (Ce 19 0)) (.seq (.block 1 (Oz [mT 22 1,mT 23 12,xT 24 3 22 23,fT 25 0 24,lT 26 25,mT 27 3,Bt 28 .eql 26 27,mT 29 28,Pm 30 29 1,Pm 31 29 12,Px 32 29 3 30 31,Pf 33 29 1 32,Pl 34 29 33,Pm 35 29 4,Pb 36 29 .leq 34 35,At 37 29 36] (.cond (t 37) (.ops [mT 38 11,mT 39 1,mT 40 12,xT 41 3 39 40,fT 42 2 41,lT 43 42,Bt 44 .add 38 43,mT 11 44]) .skip))) (.ops [mT 20 12,Bc 21 .add 20 1,mT 12 21])))
def c55:ACode:=(Oz [i 5 (.box (t 0)),Zm 10 0] (Oz [Zm 11 0] (.seq (Oz [Zm 12 0] (Bl 0 Nz9)) (.seq (Oz [Zm 13 0] (Bl 2 N0a)) (Oz [mT 104 11,mT 10 104] .ret)))))
def a55:AFunc:=⟨105,[(.tmp 10)],c55⟩
theorem n55:a55.ntmps=105:=id rfl
theorem r55:a55.results=[(.tmp 10)]:=rfl
theorem b55:a55.body=c55:=rfl
def c57:ACode:=(Oz [i 4 (.mov (k (.bool false)))] (Oz [mT 5 0,mT 6 1,Ct 7 83 [(t 5),(t 6)],Bc 8 .geq 7 0,mT 4 8] .ret))
def a57:AFunc:=⟨9,[(.tmp 4)],c57⟩
theorem n57:a57.ntmps=9:=id rfl
theorem r57:a57.results=[(.tmp 4)]:=rfl
theorem b57:a57.body=c57:=rfl
def c58:ACode:=(Oz [i 3 (.box (t 0)),Zm 4 0] (.seq (Oz [fT 5 0 3,lT 6 5,lT 7 1,Bt 8 .eql 6 7] (.cond (t 8) (Oz [Zm 4 1] .ret) .skip)) (Ds 0 [lT 9 2,i 10 (.nilCheck (t 9)),fT 11 1 10,lT 12 11,Gt 13 2 3,i 14 (.lookup (.ints [.i64,.i64]) (Vi 0) false (t 12) (t 13)),mT 4 14] .ret)))
def a58:AFunc:=⟨15,[(.tmp 4)],c58⟩
theorem n58:a58.ntmps=15:=id rfl
theorem r58:a58.results=[(.tmp 4)]:=rfl
theorem b58:a58.body=c58:=rfl
def c59:ACode:=(Oz [i 4 (.box (t 1))] (Ds 0 [mT 9 0,i 10 (.nilCheck (t 9)),fT 11 1 10,lT 12 11,Gt 13 2 4,i 14 (.lookup (.ints [.i64,.i64]) (Vi 0) true (t 12) (t 13)),mT 8 14,Et 15 0 8,Et 16 1 8,mT 6 15,mT 7 16] (Oz [mT 17 2,mT 18 17,Pm 19 18 7,p 20 18 (.un .not (t 19)),At 21 18 20] (.cond (t 21) (Ds 0 [mT 22 0,i 23 (.nilCheck (t 22)),fT 24 1 23,lT 25 24,Gt 26 2 4,s (.mapUpdate (.ints [.i64,.i64]) (t 25) (t 26) (zT 0))] (.drawn 2 [mT 27 0,mT 28 0,i 29 (.nilCheck (t 28)),fT 30 0 29,Kt 31 (.load1 (t 30)) [0,1],Kt 32 (.loadN 2 (t 4)) [0,1],Wt 33 (.buildSlice 1 [(Vi 0),(Vi 0)] [(0,(2,(t 32)))]) 0,Wt 34 (.append 2 16 false (t 31) (t 33)) 1,i 35 (.nilCheck (t 27)),fT 36 0 35,St 1 36 34])) .skip))))
def a59:AFunc:=⟨37,[],c59⟩
theorem n59:a59.ntmps=37:=id rfl
theorem r59:a59.results=[]:=rfl
theorem b59:a59.body=c59:=rfl
def Nz8:ACode:=(Oz [Bt 25 .lss 24 23] (.seq (Ce 25 0) (.seq (.block 1 (Oz [mT 26 24,xT 27 2 22 24,Gt 28 2 27,i 3 (.alloc [(Vi 0),(Vi 0)]),mT 2 26,St 2 3 28] (Ds 0 [mT 29 0,i 30 (.nilCheck (t 29)),fT 31 1 30,lT 32 31,Gt 33 2 3,mT 34 2,Bc 35 .add 34 2,s (.mapUpdate (.ints [.i64,.i64]) (t 32) (t 33) (t 35))] (Ds 0 [mT 36 2,Bc 37 .gtr 36 0,mT 38 37,Pm 39 38 0,p 40 38 (.nilCheck (t 39)),Pf 41 38 0 40,Pl 42 38 41,Pm 43 38 2,p 44 38 (.bin .sub (t 43) (zT 1)),Px 45 38 2 42 44,Pf 46 38 0 45,Pl 47 38 46,Pf 48 38 0 3,Pl 49 38 48,Pb 50 38 .eql 47 49,At 51 38 50] (.cond (t 51) (.ops [mT 52 0,mT 53 2,Bc 54 .add 53 1,mT 55 2,Bc 56 .add 55 2,Ct 57 61 [(t 52),(t 54),(t 56),(zT 1152921504606846976)]]) .skip))))) (.ops [Bc 58 .add 24 1,mT 24 58]))))
def c60:ACode:=(Oz [mT 4 0,i 5 (.nilCheck (t 4)),fT 6 0 5,lT 7 6,Ct 8 84 [(t 7),(.func 85)]] (Oz [mT 9 0,mT 10 0,i 11 (.nilCheck (t 10)),fT 12 0 11,lT 13 12,Nt 14 13,Bc 15 .add 14 2,i 16 (.makeSlice 1 24 [Vz] (t 15) (t 15)),i 17 (.nilCheck (t 9)),fT 18 3 17,St 1 18 16] (Oz [mT 19 0,i 20 (.nilCheck (t 19)),fT 21 0 20,lT 22 21,Nt 23 22,Zm 24 0] (Bl 0 Nz8))))
def a60:AFunc:=⟨59,[],c60⟩
theorem n60:a60.ntmps=59:=id rfl
theorem r60:a60.results=[]:=rfl
theorem b60:a60.body=c60:=rfl
def c61:ACode:=(Oz [Zm 8 0] (Oz [mT 10 0,i 11 (.nilCheck (t 10)),fT 12 2 11,lT 13 12,Nt 14 13,mT 9 14] (Oz [mT 15 0,mT 16 0,i 17 (.nilCheck (t 16)),fT 18 2 17,lT 19 18,mT 20 2,mT 21 3,i 22 (.build [(Vi 0),(Vi 0)] [(0,(1,(t 20))),(1,(1,(t 21)))]),mT 23 1,i 24 (.build [(Vi 0),(Vi 0)] [(0,(1,(t 23)))]),i 25 (.buildSlice 2 [(Vi 0),(Vi 0),(Vi 0),(Vi 0)] [(0,(2,(t 22))),(2,(2,(t 24)))]),i 26 (.append 2 16 false (t 19) (t 25)),i 27 (.nilCheck (t 15)),fT 28 2 27,St 1 28 26] (Ds 2 [mT 34 0,i 35 (.nilCheck (t 34)),fT 36 3 35,Kt 37 (.load1 (t 36)) [0,1],mT 38 1,xT 39 1 37 38,Kt 40 (.load1 (t 39)) [0,1],mT 41 9,Wt 42 (.buildSlice 1 [(Vi 0)] [(0,(1,(t 41)))]) 0,Wt 43 (.appendL 1 8 false (t 40) (t 42)) 1,mT 29 0,i 30 (.nilCheck (t 29)),fT 31 3 30,Kt 32 (.load1 (t 31)) [0,1],mT 33 1,xT 44 1 32 33,St 1 44 43] (Ds 2 [mT 50 0,i 51 (.nilCheck (t 50)),fT 52 3 51,Kt 53 (.load1 (t 52)) [0,1],mT 54 2,xT 55 1 53 54,Kt 56 (.load1 (t 55)) [0,1],mT 57 9,Bc 58 .add 57 1,Wt 59 (.buildSlice 1 [(Vi 0)] [(0,(1,(t 58)))]) 0,Wt 60 (.appendL 1 8 false (t 56) (t 59)) 1,mT 45 0,i 46 (.nilCheck (t 45)),fT 47 3 46,Kt 48 (.load1 (t 47)) [0,1],mT 49 2,xT 61 1 48 49,St 1 61 60] (Oz [mT 62 9,mT 8 62] .ret))))))
def a61:AFunc:=⟨63,[(.tmp 8)],c61⟩
theorem n61:a61.ntmps=63:=id rfl
theorem r61:a61.results=[(.tmp 8)]:=rfl
theorem b61:a61.body=c61:=rfl
def Nz7:ACode:=(Oz [Bt 28 .lss 27 26] (.seq (Ce 28 0) (.seq (.block 1 (Oz [mT 29 27,xT 30 2 25 27,Gt 31 2 30,i 3 (.alloc [(Vi 0),(Vi 0)]),mT 2 29,St 2 3 31] (.drawn 0 [mT 32 0,i 33 (.nilCheck (t 32)),fT 34 4 33,lT 35 34,mT 36 2,Bc 37 .add 36 2,fT 38 1 3,lT 39 38,Bc 40 .add 39 1,xT 41 1 35 37,St 1 41 40]))) (.ops [Bc 42 .add 27 1,mT 27 42]))))
def c62:ACode:=(Oz [mT 4 0,mT 5 0,i 6 (.nilCheck (t 5)),fT 7 3 6,lT 8 7,Nt 9 8,i 10 (.makeSlice 1 8 [(Vi 0)] (t 9) (t 9)),i 11 (.nilCheck (t 4)),fT 12 5 11,St 1 12 10] (Oz [mT 13 0,mT 14 0,i 15 (.nilCheck (t 14)),fT 16 3 15,lT 17 16,Nt 18 17,i 19 (.makeSlice 1 8 [(Vi 0)] (t 18) (t 18)),i 20 (.nilCheck (t 13)),fT 21 4 20,St 1 21 19] (.seq (Oz [mT 22 0,i 23 (.nilCheck (t 22)),fT 24 0 23,lT 25 24,Nt 26 25,Zm 27 0] (Bl 0 Nz7)) (.ops [mT 43 0,i 44 (.nilCheck (t 43)),fT 45 4 44,lT 46 45,i 47 (.idxAddrS 1 (t 46) (zT 1)),s (.store 1 (t 47) (zT 1051898401))]))))
def a62:AFunc:=⟨48,[],c62⟩
theorem n62:a62.ntmps=48:=id rfl
theorem r62:a62.results=[]:=rfl
theorem b62:a62.body=c62:=rfl
def Nuq:ACode:=(Oz [Bt 50 .lss 49 48] (.seq (Ce 50 2) (.seq (.block 3 (Oz [xT 51 1 47 49,lT 52 51,mT 6 52] (Oz [mT 53 0,i 54 (.nilCheck (t 53)),fT 55 2 54,lT 56 55,mT 57 6,xT 58 2 56 57,Gt 59 2 58,i 7 (.alloc [(Vi 0),(Vi 0)]),St 2 7 59] (Ds 0 [fT 60 1 7,lT 61 60,Bc 62 .gtr 61 0,mT 63 62,Pm 64 63 0,p 65 63 (.nilCheck (t 64)),Pf 66 63 4 65,Pl 67 63 66,Pf 68 63 0 7,Pl 69 63 68,Px 70 63 1 67 69,Pl 71 63 70,p 72 63 (.bin .lss (t 71) (zT 0)),At 73 63 72] (.cond (t 73) (Ds 0 [mT 74 0,i 75 (.nilCheck (t 74)),fT 76 4 75,lT 77 76,fT 78 0 7,lT 79 78,mT 80 0,i 81 (.nilCheck (t 80)),fT 82 4 81,lT 83 82,mT 84 4,xT 85 1 83 84,lT 86 85,Bc 87 .add 86 1,xT 88 1 77 79,St 1 88 87] (.ops [mT 89 3,fT 90 0 7,lT 91 90,i 92 (.buildSlice 1 [(Vi 0)] [(0,(1,(t 91)))]),i 93 (.append 1 8 false (t 89) (t 92)),mT 3 93])) .skip))))) (.ops [Bc 94 .add 49 1,mT 49 94]))))
def Nup:ACode:=(.seq (Oz [mT 33 3,Nt 34 33,Bc 35 .gtr 34 0] (Ce 35 0)) (.block 1 (Oz [mT 36 3,i 37 (.idxAddrS 1 (t 36) (zT 0)),lT 38 37,mT 4 38] (Oz [mT 39 3,i 40 (.sliceS 1 (t 39) (some (zT 1)) none none),mT 3 40] (Oz [mT 41 0,i 42 (.nilCheck (t 41)),fT 43 3 42,lT 44 43,mT 45 4,xT 46 1 44 45,lT 47 46,Nt 48 47,Zm 49 0] (Bl 2 Nuq))))))
def c63:ACode:=(Oz [i 2 (.mov (k (.bool false)))] (Oz [mT 8 0,mT 9 0,i 10 (.nilCheck (t 9)),fT 11 3 10,lT 12 11,Nt 13 12,i 14 (.makeSlice 1 8 [(Vi 0)] (t 13) (t 13)),i 15 (.nilCheck (t 8)),fT 16 5 15,St 1 16 14] (Oz [mT 17 0,i 18 (.buildSlice 1 [(Vi 0)] [(0,(1,(zT (-1))))]),mT 19 0,i 20 (.nilCheck (t 19)),fT 21 3 20,lT 22 21,Nt 23 22,Ct 24 86 [(t 18),(t 23)],i 25 (.nilCheck (t 17)),fT 26 4 25,St 1 26 24] (Oz [mT 27 0,i 28 (.nilCheck (t 27)),fT 29 4 28,lT 30 29,i 31 (.idxAddrS 1 (t 30) (zT 0)),s (.store 1 (t 31) (zT 0))] (Oz [i 32 (.buildSlice 1 [(Vi 0)] [(0,(1,(zT 0)))]),mT 3 32] (.seq (Bl 0 Nup) (Oz [mT 95 0,i 96 (.nilCheck (t 95)),fT 97 4 96,lT 98 97,i 99 (.idxAddrS 1 (t 98) (zT 1)),lT 100 99,Bc 101 .geq 100 0,mT 2 101] .ret)))))))
def a63:AFunc:=⟨102,[(.tmp 2)],c63⟩
theorem n63:a63.ntmps=102:=id rfl
theorem r63:a63.results=[(.tmp 2)]:=rfl
theorem b63:a63.body=c63:=rfl
def Nuo:ACode:=(.seq (Ds 0 [mT 17 0,i 18 (.nilCheck (t 17)),fT 19 5 18,lT 20 19,mT 21 1,xT 22 1 20 21,lT 23 22,mT 24 0,i 25 (.nilCheck (t 24)),fT 26 3 25,lT 27 26,mT 28 1,xT 29 1 27 28,lT 30 29,Nt 31 30,Bt 32 .lss 23 31] (Ce 32 0)) (.block 1 (Ds 0 [mT 33 0,i 34 (.nilCheck (t 33)),fT 35 3 34,lT 36 35,mT 37 1,xT 38 1 36 37,lT 39 38,mT 40 0,i 41 (.nilCheck (t 40)),fT 42 5 41,lT 43 42,mT 44 1,xT 45 1 43 44,lT 46 45,xT 47 1 39 46,lT 48 47,mT 9 48] (Oz [mT 49 0,i 50 (.nilCheck (t 49)),fT 51 2 50,lT 52 51,mT 53 9,xT 54 2 52 53,Gt 55 2 54,i 10 (.alloc [(Vi 0),(Vi 0)]),St 2 10 55] (.seq (Ds 0 [fT 56 1 10,lT 57 56,Bc 58 .gtr 57 0,mT 59 58,Pm 60 59 0,p 61 59 (.nilCheck (t 60)),Pf 62 59 4 61,Pl 63 59 62,Pf 64 59 0 10,Pl 65 59 64,Px 66 59 1 63 65,Pl 67 59 66,Pm 68 59 0,p 69 59 (.nilCheck (t 68)),Pf 70 59 4 69,Pl 71 59 70,Pm 72 59 1,Px 73 59 1 71 72,Pl 74 59 73,Pb 75 59 .gtr 67 74,At 76 59 75] (.cond (t 76) (Oz [mT 77 7,fT 78 0 10,lT 79 78,mT 80 2,mT 81 8,Bt 82 .sub 80 81,fT 83 1 10,lT 84 83,i 85 (.minmax false [(t 82),(t 84)]),i 86 (.call .any (t 77) [(t 79),(t 85)]),mT 11 86] (Oz [mT 87 0,i 88 (.nilCheck (t 87)),fT 89 2 88,lT 90 89,mT 91 9,xT 92 2 90 91,fT 93 1 92,lT 94 93,mT 95 11,Bt 96 .sub 94 95,xT 97 2 90 91,fT 98 1 97,St 1 98 96] (Oz [mT 99 0,i 100 (.nilCheck (t 99)),fT 101 2 100,lT 102 101,mT 103 9,Bc 104 .xor 103 1,xT 105 2 102 104,fT 106 1 105,lT 107 106,mT 108 11,Bt 109 .add 107 108,xT 110 2 102 104,fT 111 1 110,St 1 111 109] (Oz [mT 112 8,mT 113 11,Bt 114 .add 112 113,mT 8 114] (Oz [mT 115 8,mT 116 2,Bt 117 .eql 115 116] (.cond (t 117) (Oz [mT 118 8,mT 6 118] .ret) .skip)))))) .skip)) (.ops [mT 119 0,i 120 (.nilCheck (t 119)),fT 121 5 120,lT 122 121,mT 123 1,xT 124 1 122 123,lT 125 124,Bc 126 .add 125 1,xT 127 1 122 123,St 1 127 126]))))))
def c64:ACode:=(Oz [Zm 6 0] (.seq (Oz [mT 12 1,Bc 13 .eql 12 1] (.cond (t 13) (Oz [mT 14 2,mT 6 14] .ret) .skip)) (Oz [mT 15 0,i 16 (.makeFunc 64 [(t 15)] []),mT 7 16] (Oz [Zm 8 0] (.seq (Bl 0 Nuo) (Oz [mT 128 8,mT 6 128] .ret))))))
def a64:AFunc:=⟨129,[(.tmp 6)],c64⟩
theorem n64:a64.ntmps=129:=id rfl
theorem r64:a64.results=[(.tmp 6)]:=rfl
theorem b64:a64.body=c64:=rfl
def Nz6:ACode:=(Oz [Bt 9 .lss 8 7] (.seq (Ce 9 0) (.seq (.block 1 (Oz [xT 10 1 6 8,lT 11 10,mT 5 11] (Oz [mT 12 5,mT 13 3,Bt 14 .neq 12 13] (.cond (t 14) (Oz [mT 15 5,mT 2 15] .ret) .skip)))) (.ops [Bc 16 .add 8 1,mT 8 16]))))
def c67:ACode:=(Oz [Zm 2 0] (Oz [Zm 3 0] (.seq (Oz [mT 6 0,Nt 7 6,Zm 8 0] (Bl 0 Nz6)) (Oz [mT 17 3,mT 2 17] .ret))))
def a67:AFunc:=⟨18,[(.tmp 2)],c67⟩
theorem n67:a67.ntmps=18:=id rfl
theorem r67:a67.results=[(.tmp 2)]:=rfl
theorem b67:a67.body=c67:=rfl
def c68:ACode:=(Oz [Zm 4 0] (Oz [mT 7 0,Ct 8 97 [(t 7)],mT 5 8] (Oz [mT 9 1,Ct 10 97 [(t 9)],mT 6 10] (.seq (Oz [mT 11 5] (.cond (t 11) (.seq (Oz [mT 12 6] (.cond (t 12) (Oz [Zm 4 0] .ret) .skip)) (Oz [Zm 4 (-1)] .ret)) .skip)) (.seq (Oz [mT 13 6] (.cond (t 13) (Oz [Zm 4 1] .ret) .skip)) (.seq (Oz [mT 14 0,mT 15 1,Bt 16 .lss 14 15] (.cond (t 16) (Oz [Zm 4 (-1)] .ret) .skip)) (.seq (Oz [mT 17 0,mT 18 1,Bt 19 .gtr 17 18] (.cond (t 19) (Oz [Zm 4 1] .ret) .skip)) (Oz [Zm 4 0] .ret))))))))
def a68:AFunc:=⟨20,[(.tmp 4)],c68⟩
theorem n68:a68.ntmps=20:=id rfl
theorem r68:a68.results=[(.tmp 4)]:=rfl
theorem b68:a68.body=c68:=rfl
def Nz5:ACode:=(.seq (Oz [mT 27 8,lT 28 1,Bc 29 .quo 28 1440,Bt 30 .leq 27 29] (Ce 30 2)) (.seq (.block 3 (Oz [Gt 34 8 7,mT 35 8,Ct 36 75 [(t 34),(t 35)],mT 33 36,Et 37 0 33,Et 38 1 33,i 9 (.alloc [(Vi 0),(Vi 0)]),St 2 9 37,mT 10 38] (.seq (Oz [mT 39 10,Ut 40 39,mT 41 40,Qf 42 41 0 9,Ql 43 41 42,Qm 44 41 5,Qb 45 41 .lss 43 44,Ot 46 41 45,mT 47 46,Qf 48 47 1 9,Ql 49 47 48,Ql 50 47 1,Qb 51 47 .gtr 49 50,Ot 52 47 51] (.cond (t 52) (.exit 3) .skip)) (Oz [mT 53 0,Gt 54 8 7,Gt 55 2 9,i 56 (.call .any (t 53) [(t 54),(t 55)]),Ut 57 56] (.cond (t 57) .ret .skip))))) (.ops [mT 31 8,Bc 32 .add 31 1,mT 8 32])))
def Nz4:ACode:=(Oz [Bt 18 .lss 17 16] (.seq (Ce 18 0) (.seq (.block 1 (Oz [xT 19 8 15 17,Gt 20 8 19,i 7 (.alloc [(Vi 0),(Vi 0),(Vi 0),(Vi 0),(Vi 0),(Vi 0),(Vi 0),(.int .u8 0)]),St 8 7 20] (.seq (Oz [fT 21 1 7,lT 22 21,lT 23 3,Bt 24 .eql 22 23] (.cond (t 24) (.exit 1) .skip)) (Oz [mT 25 5,Bc 26 .quo 25 1440,mT 8 26] (Bl 2 Nz5))))) (.ops [Bc 58 .add 17 1,mT 17 58]))))
def c74:ACode:=(Oz [lT 11 1,Bc 12 .sub 11 20160,i 13 (.minmax true [(zT 0),(t 12)]),mT 5 13] (Oz [fT 14 1 2,lT 15 14,Nt 16 15,Zm 17 0] (Bl 0 Nz4)))
def a74:AFunc:=⟨59,[],c74⟩
theorem n74:a74.ntmps=59:=id rfl
theorem r74:a74.results=[]:=rfl
theorem b74:a74.body=c74:=rfl
def c75:ACode:=(Oz [i 2 (.box (t 0)),i 4 (.alloc [(Vi 0),(Vi 0)]),i 5 (.mov (k (.bool false)))] (.seq (Oz [Gt 6 8 2,Ct 7 35 [(t 6)],Ut 8 7,mT 9 8,Qm 10 9 1,q 11 9 (.bin .lss (t 10) (zT 0)),Ot 12 9 11,mT 13 12,Qm 14 13 1,q 15 13 (.bin .gtr (t 14) (zT 730484)),Ot 16 13 15] (.cond (t 16) (Oz [i 17 (.build [(Vi 0),(Vi 0)] []),St 2 4 17,i 5 (.mov (k (.bool false)))] .ret) .skip)) (Oz [Gt 18 8 2,mT 19 1,Ct 20 99 [(t 18),(t 19)],Et 21 0 20,Et 22 1 20,St 2 4 21,mT 5 22] .ret)))
def a75:AFunc:=⟨23,[(.cellN 2 4),(.tmp 5)],c75⟩
theorem n75:a75.ntmps=23:=id rfl
theorem r75:a75.results=[(.cellN 2 4),(.tmp 5)]:=rfl
theorem b75:a75.body=c75:=rfl
def c77:ACode:=(Oz [i 2 (.box (t 0)),i 3 (.box (t 1)),Zm 4 0] (Ds 1 [fT 5 0 2,Kt 6 (.load1 (t 5)) [0],fT 7 0 3,Kt 8 (.load1 (t 7)) [0],Kt 9 (.call .pure (.func 68) [(t 6),(t 8)]) [0],fT 10 1 2,Kt 11 (.load1 (t 10)) [0],fT 12 1 3,Kt 13 (.load1 (t 12)) [0],Kt 14 (.call .pure (.func 68) [(t 11),(t 13)]) [0],fT 15 2 3,Kt 16 (.load1 (t 15)) [0],fT 17 2 2,Kt 18 (.load1 (t 17)) [0],Kt 19 (.call .pure (.func 68) [(t 16),(t 18)]) [0],Wt 20 (.buildSlice 3 [(Vi 0),(Vi 0),(Vi 0)] [(0,(1,(t 9))),(1,(1,(t 14))),(2,(1,(t 19)))]) 0,i 21 (.call .pure (.func 67) [(t 20)]),mT 4 21] .ret))
def a77:AFunc:=⟨22,[(.tmp 4)],c77⟩
theorem n77:a77.ntmps=22:=id rfl
theorem r77:a77.results=[(.tmp 4)]:=rfl
theorem b77:a77.body=c77:=rfl
def Nun:ACode:=(.seq (Oz [mT 73 6,mT 74 4,Bt 75 .lss 73 74] (Ce 75 4)) (.seq (.block 5 (Ds 0 [fT 78 1 1,lT 79 78,mT 80 6,xT 81 8 79 80,fT 82 0 81,lT 83 82,fT 84 0 5,lT 85 84,Bt 86 .eql 83 85] (.cond (t 86) (Oz [Zm 2 321] .ret) .skip))) (.ops [mT 76 6,Bc 77 .add 76 1,mT 6 77])))
def Nz3:ACode:=(.seq (Oz [mT 42 4,fT 43 1 1,lT 44 43,Nt 45 44,Bt 46 .lss 42 45] (Ce 46 2)) (.seq (.block 3 (Oz [fT 49 1 1,lT 50 49,mT 51 4,xT 52 8 50 51,Gt 53 8 52,i 5 (.alloc [(Vi 0),(Vi 0),(Vi 0),(Vi 0),(Vi 0),(Vi 0),(Vi 0),(.int .u8 0)]),St 8 5 53] (.seq (Oz [Gt 54 8 5,Ct 55 103 [(t 54)],Ut 56 55,mT 57 56,Qf 58 57 0 1,Ql 59 57 58,Qf 60 57 1 5,Ql 61 57 60,q 62 57 (.call .any (.func 102) [(t 59),(t 61)]),q 63 57 (.bin .eql (t 62) (zT 0)),Ot 64 57 63,mT 65 64,Qf 66 65 0 1,Ql 67 65 66,Qf 68 65 2 5,Ql 69 65 68,q 70 65 (.call .any (.func 102) [(t 67),(t 69)]),q 71 65 (.bin .eql (t 70) (zT 0)),Ot 72 65 71] (.cond (t 72) (Oz [Zm 2 321] .ret) .skip)) (Oz [Zm 6 0] (Bl 4 Nun))))) (.ops [mT 47 4,Bc 48 .add 47 1,mT 4 48])))
def Nz2:ACode:=(.seq (Oz [mT 17 3,fT 18 0 1,lT 19 18,Nt 20 19,Bt 21 .lss 17 20] (Ce 21 0)) (.seq (.block 1 (Ds 0 [fT 24 0 1,lT 25 24,mT 26 3,xT 27 1 25 26,lT 28 27,i 29 (.call .pure (.func 101) [(t 28),(zT 1),(zT 999999)]),Ut 30 29,mT 31 30,Qf 32 31 0 1,Ql 33 31 32,Qf 34 31 0 1,Ql 35 31 34,Qm 36 31 3,Qx 37 31 1 35 36,Ql 38 31 37,q 39 31 (.call .pure (.func 102) [(t 33),(t 38)]),q 40 31 (.bin .gtr (t 39) (zT 1)),Ot 41 31 40] (.cond (t 41) (Oz [Zm 2 320] .ret) .skip))) (.ops [mT 22 3,Bc 23 .add 22 1,mT 3 23])))
def c78:ACode:=(Oz [i 1 (.box (t 0)),Zm 2 0] (.seq (Oz [fT 7 0 1,lT 8 7,Nt 9 8,Bc 10 .gtr 9 50,mT 11 10,Qf 12 11 1 1,Ql 13 11 12,q 14 11 (.lenSlice (t 13)),q 15 11 (.bin .gtr (t 14) (zT 200)),Ot 16 11 15] (.cond (t 16) (Oz [Zm 2 5] .ret) .skip)) (.seq (Oz [Zm 3 0] (Bl 0 Nz2)) (.seq (Oz [Zm 4 0] (Bl 2 Nz3)) (Oz [Zm 2 0] .ret)))))
def a78:AFunc:=⟨87,[(.tmp 2)],c78⟩
theorem n78:a78.ntmps=87:=id rfl
theorem r78:a78.results=[(.tmp 2)]:=rfl
theorem b78:a78.body=c78:=rfl
def Nz1:ACode:=(.seq (Oz [mT 6 5,fT 7 0 2,lT 8 7,Nt 9 8,Bt 10 .lss 6 9] (Ce 10 0)) (.seq (.block 1 (Oz [fT 13 0 2,lT 14 13,mT 15 5,xT 16 1 14 15,lT 17 16,mT 18 1,Bt 19 .eql 17 18] (.cond (t 19) (Oz [i 4 (.mov (k (.bool true)))] .ret) .skip))) (.ops [mT 11 5,Bc 12 .add 11 1,mT 5 12])))
def c79:ACode:=(Oz [i 2 (.box (t 0)),i 4 (.mov (k (.bool false)))] (.seq (Oz [Zm 5 0] (Bl 0 Nz1)) (Oz [i 4 (.mov (k (.bool false)))] .ret)))
def a79:AFunc:=⟨20,[(.tmp 4)],c79⟩
theorem n79:a79.ntmps=20:=id rfl
theorem r79:a79.results=[(.tmp 4)]:=rfl
theorem b79:a79.body=c79:=rfl
def Nul:ACode:=(.seq (Oz [mT 33 7,fT 34 1 1,lT 35 34,Nt 36 35,Bt 37 .lss 33 36] (Ce 37 4)) (.seq (.block 5 (Oz [fT 40 1 1,lT 41 40,mT 42 7,xT 43 4 41 42,Gt 44 4 43,i 8 (.alloc [(Vi 0),(Vi 0),(Vi 0),(Vi 0)]),St 4 8 44] (.seq (Ds 0 [fT 45 0 8,lT 46 45,mT 47 5,mT 48 6,xT 49 1 47 48,lT 50 49,Bt 51 .eql 46 50,mT 52 51,Pf 53 52 2 8,Pl 54 52 53,p 55 52 (.bin .gtr (t 54) (zT 0)),At 56 52 55,mT 57 56,Pm 58 57 3,Pf 59 57 1 8,Pl 60 57 59,Px 61 57 2 58 60,Pf 62 57 0 61,Pl 63 57 62,p 64 57 (.bin .lss (t 63) (zT 0)),At 65 57 64] (.cond (t 65) (Oz [mT 66 3,fT 67 1 8,lT 68 67,mT 69 7,i 70 (.build [(Vi 0),(.bool false)] [(0,(1,(t 69)))]),xT 71 2 66 68,St 2 71 70] (.ops [mT 72 5,fT 73 1 8,lT 74 73,i 75 (.buildSlice 1 [(Vi 0)] [(0,(1,(t 74)))]),i 76 (.append 1 8 false (t 72) (t 75)),mT 5 76])) .skip)) (Ds 0 [fT 77 1 8,lT 78 77,mT 79 5,mT 80 6,xT 81 1 79 80,lT 82 81,Bt 83 .eql 78 82,mT 84 83,Pf 85 84 3 8,Pl 86 84 85,p 87 84 (.bin .gtr (t 86) (zT 0)),At 88 84 87,mT 89 88,Pm 90 89 3,Pf 91 89 0 8,Pl 92 89 91,Px 93 89 2 90 92,Pf 94 89 0 93,Pl 95 89 94,p 96 89 (.bin .lss (t 95) (zT 0)),At 97 89 96] (.cond (t 97) (Oz [mT 98 3,fT 99 0 8,lT 100 99,mT 101 7,i 102 (.build [(Vi 0),(.bool false)] [(0,(1,(t 101))),(1,(1,(k (.bool true))))]),xT 103 2 98 100,St 2 103 102] (.ops [mT 104 5,fT 105 0 8,lT 106 105,i 107 (.buildSlice 1 [(Vi 0)] [(0,(1,(t 106)))]),i 108 (.append 1 8 false (t 104) (t 107)),mT 5 108])) .skip))))) (.ops [mT 38 7,Bc 39 .add 38 1,mT 7 39])))
def Nuk:ACode:=(.seq (Oz [mT 27 6,mT 28 5,Nt 29 28,Bt 30 .lss 27 29] (Ce 30 2)) (.seq (.block 3 (Oz [Zm 7 0] (Bl 4 Nul))) (.ops [mT 31 6,Bc 32 .add 31 1,mT 6 32])))
def Nuj:ACode:=(.seq (Oz [mT 9 4,fT 10 0 1,lT 11 10,Nt 12 11,Bt 13 .lss 9 12] (Ce 13 0)) (.seq (.block 1 (.ops [mT 16 3,i 17 (.build [(Vi 0),(.bool false)] [(0,(1,(zT (-1))))]),i 18 (.buildSlice 1 [(Vi 0),(.bool false)] [(0,(2,(t 17)))]),i 19 (.append 2 16 false (t 16) (t 18)),mT 3 19])) (.ops [mT 14 4,Bc 15 .add 14 1,mT 4 15])))
def c80:ACode:=(Oz [i 1 (.box (t 0)),i 2 (.mov (k Vz))] (Oz [i 3 (.mov (k Vz))] (.seq (Oz [Zm 4 0] (Bl 0 Nuj)) (Oz [i 20 (.buildSlice 1 [(Vi 0)] [(0,(1,(zT 0)))]),mT 5 20] (Oz [mT 21 3,fT 22 1 1,lT 23 22,Nt 24 23,i 25 (.idxAddrS 2 (t 21) (zT 0)),fT 26 0 25,St 1 26 24] (.seq (Oz [Zm 6 0] (Bl 2 Nuk)) (Oz [mT 109 3,mT 2 109] .ret)))))))
def a80:AFunc:=⟨110,[(.tmp 2)],c80⟩
theorem n80:a80.ntmps=110:=id rfl
theorem r80:a80.results=[(.tmp 2)]:=rfl
theorem b80:a80.body=c80:=rfl
def Nz0:ACode:=(.seq (Oz [mT 9 8,fT 10 0 3,lT 11 10,Nt 12 11,Bt 13 .lss 9 12] (Ce 13 0)) (.seq (.block 1 (Oz [fT 16 0 3,lT 17 16,mT 18 8,xT 19 2 17 18,fT 20 0 19,lT 21 20,mT 22 1,Bt 23 .eql 21 22,mT 24 23,Pf 25 24 0 3,Pl 26 24 25,Pm 27 24 8,Px 28 24 2 26 27,Pf 29 24 1 28,Pl 30 24 29,Pm 31 24 2,Pb 32 24 .eql 30 31,At 33 24 32] (.cond (t 33) (Ds 0 [mT 34 8,Gt 35 4 3,mT 6 34,St 4 7 35] .ret) .skip))) (.ops [mT 14 8,Bc 15 .add 14 1,mT 8 15])))
def c81:ACode:=(Oz [i 3 (.box (t 0)),Zm 6 0,i 7 (.alloc [Vz,Vz,(Vi 0),Vz])] (.seq (Oz [Zm 8 0] (Bl 0 Nz0)) (Oz [fT 36 0 3,lT 37 36,mT 38 1,mT 39 2,i 40 (.build [(Vi 0),(Vi 0)] [(0,(1,(t 38))),(1,(1,(t 39)))]),i 41 (.buildSlice 1 [(Vi 0),(Vi 0)] [(0,(2,(t 40)))]),i 42 (.append 2 16 false (t 37) (t 41)),fT 43 0 3,St 1 43 42] (Ds 0 [fT 44 0 3,lT 45 44,Nt 46 45,Bc 47 .sub 46 1,Gt 48 4 3,mT 6 47,St 4 7 48] .ret))))
def a81:AFunc:=⟨49,[(.tmp 6),(.cellN 4 7)],c81⟩
theorem n81:a81.ntmps=49:=id rfl
theorem r81:a81.results=[(.tmp 6),(.cellN 4 7)]:=rfl
theorem b81:a81.body=c81:=rfl
def c82:ACode:=(Oz [i 2 (.box (t 0)),i 4 (.alloc [(Vi 0),(Vi 0)]),i 5 (.mov (k (.bool false)))] (.seq (Oz [Gt 7 8 2,Ct 8 103 [(t 7)],Ut 9 8,mT 10 9,Qm 11 10 1,q 12 10 (.call .any (.func 101) [(t 11),(zT 0),(zT 730484)]),q 13 10 (.un .not (t 12)),Ot 14 10 13,mT 15 14,q 16 15 (.loadN 8 (t 2)),Qm 17 15 1,q 18 15 (.bin .rem (t 17) (zT 7)),q 19 15 (.call .any (.func 104) [(t 16),(t 18)]),q 20 15 (.un .not (t 19)),Ot 21 15 20] (.cond (t 21) (Oz [i 22 (.build [(Vi 0),(Vi 0)] []),St 2 4 22,i 5 (.mov (k (.bool false)))] .ret) .skip)) (Oz [mT 23 1,Bc 24 .mul 23 1440,fT 25 3 2,lT 26 25,Bt 27 .add 24 26,mT 6 27] (.seq (Oz [mT 28 6,fT 29 5 2,lT 30 29,Bt 31 .sub 28 30,Bc 32 .lss 31 0,mT 33 32,Qm 34 33 6,Qf 35 33 4 2,Ql 36 33 35,Qb 37 33 .add 34 36,q 38 33 (.bin .gtr (t 37) (zT 1051898399)),Ot 39 33 38] (.cond (t 39) (Oz [i 40 (.build [(Vi 0),(Vi 0)] []),St 2 4 40,i 5 (.mov (k (.bool false)))] .ret) .skip)) (Oz [mT 41 6,mT 42 6,fT 43 4 2,lT 44 43,Bt 45 .add 42 44,i 46 (.build [(Vi 0),(Vi 0)] [(0,(1,(t 41))),(1,(1,(t 45)))]),St 2 4 46,i 5 (.mov (k (.bool true)))] .ret)))))
def a82:AFunc:=⟨47,[(.cellN 2 4),(.tmp 5)],c82⟩
theorem n82:a82.ntmps=47:=id rfl
theorem r82:a82.results=[(.cellN 2 4),(.tmp 5)]:=rfl
theorem b82:a82.body=c82:=rfl
def Nzz:ACode:=(Oz [Bt 9 .lss 8 7] (.seq (Ce 9 0) (.seq (.block 1 (Oz [mT 10 8,mT 5 10] (Oz [mT 11 1,mT 12 0,mT 13 5,xT 14 1 12 13,lT 15 14,Bt 16 .eql 11 15] (.cond (t 16) (Oz [mT 17 5,mT 4 17] .ret) .skip)))) (.ops [Bc 18 .add 8 1,mT 8 18]))))
def c83:ACode:=(Oz [Zm 4 0] (.seq (Oz [mT 6 0,Nt 7 6,Zm 8 0] (Bl 0 Nzz)) (Oz [Zm 4 (-1)] .ret)))
def a83:AFunc:=⟨19,[(.tmp 4)],c83⟩
theorem n83:a83.ntmps=19:=id rfl
theorem r83:a83.results=[(.tmp 4)]:=rfl
theorem b83:a83.body=c83:=rfl
def c85:ACode:=(Oz [i 2 (.box (t 0)),i 3 (.box (t 1)),Zm 4 0] (Ds 1 [fT 5 0 2,Kt 6 (.load1 (t 5)) [0],fT 7 0 3,Kt 8 (.load1 (t 7)) [0],Kt 9 (.call .pure (.func 68) [(t 6),(t 8)]) [0],fT 10 1 2,Kt 11 (.load1 (t 10)) [0],fT 12 1 3,Kt 13 (.load1 (t 12)) [0],Kt 14 (.call .pure (.func 68) [(t 11),(t 13)]) [0],Wt 15 (.buildSlice 2 [(Vi 0),(Vi 0)] [(0,(1,(t 9))),(1,(1,(t 14)))]) 0,i 16 (.call .pure (.func 67) [(t 15)]),mT 4 16] .ret))
def a85:AFunc:=⟨17,[(.tmp 4)],c85⟩
theorem n85:a85.ntmps=17:=id rfl
theorem r85:a85.results=[(.tmp 4)]:=rfl
theorem b85:a85.body=c85:=rfl
def Nzy:ACode:=(.seq (Oz [mT 34 8,mT 35 7,Nt 36 35,Bt 37 .lss 34 36] (Ce 37 0)) (.block 1 (.drawn 0 [mT 38 8,mT 39 7,mT 40 8,i 41 (.sliceS 1 (t 39) (some (t 40)) none none),mT 42 7,mT 43 8,i 44 (.sliceS 1 (t 42) none (some (t 43)) none),i 45 (.copy 1 (t 41) (t 44)),Bt 46 .add 38 45,mT 8 46])))
def c86:ACode:=(Oz [i 4 (.mov (k Vz))] (.seq (Oz [mT 9 1,Bc 10 .lss 9 0] (.cond (t 10) (.ops [i 11 (.die (k (.string ⟨#[99,97,110,110,111,116,32,98,101,32,110,101,103,97,116,105,118,101]⟩))),s (.die (t 11))]) .skip)) (Oz [mT 13 0,Nt 14 13,i 15 (.conv .u64 (t 14)),mT 16 1,i 17 (.conv .u64 (t 16)),Ct 18 106 [(t 15),(t 17)],mT 12 18,Et 19 0 12,Et 20 1 12,mT 5 19,mT 6 20] (.seq (Oz [mT 21 5,i 22 (.bin .gtr (t 21) (k (.int .u64 0))),mT 23 22,Qm 24 23 6,q 25 23 (.bin .gtr (t 24) (k (.int .u64 9223372036854775807))),Ot 26 23 25] (.cond (t 26) (.ops [i 27 (.die (k (.string ⟨#[116,104,101,32,114,101,115,117,108,116,32,111,102,32,40,108,101,110,40,120,41,32,42,32,99,111,117,110,116,41,32,111,118,101,114,102,108,111,119,115]⟩))),s (.die (t 27))]) .skip)) (Oz [mT 28 6,i 29 (.conv .i64 (t 28)),i 30 (.makeSlice 1 8 [(Vi 0)] (t 29) (t 29)),mT 7 30] (Oz [mT 31 7,mT 32 0,i 33 (.copy 1 (t 31) (t 32)),mT 8 33] (.seq (Bl 0 Nzy) (Oz [mT 47 7,mT 4 47] .ret))))))))
def a86:AFunc:=⟨48,[(.tmp 4)],c86⟩
theorem n86:a86.ntmps=48:=id rfl
theorem r86:a86.results=[(.tmp 4)]:=rfl
theorem b86:a86.body=c86:=rfl
def c95:ACode:=(Oz [Zm 2 0] (.seq (Oz [mT 3 0,i 4 (.bin .geq (t 3) (k (.int .u32 65536)))] (.cond (t 4) (Oz [mT 5 0,i 6 (.bin .shr (t 5) (k (.int .u64 16))),mT 0 6] (.ops [Zm 2 16])) .skip)) (.seq (Oz [mT 7 0,i 8 (.bin .geq (t 7) (k (.int .u32 256)))] (.cond (t 8) (Oz [mT 9 0,i 10 (.bin .shr (t 9) (k (.int .u64 8))),mT 0 10] (.ops [mT 11 2,Bc 12 .add 11 8,mT 2 12])) .skip)) (Oz [mT 13 2,mT 14 0,i 15 (.conv .u8 (t 14)),i 16 (.idxStr (k (.string ⟨#[0,1,2,2,3,3,3,3,4,4,4,4,4,4,4,4,5,5,5,5,5,5,5,5,5,5,5,5,5,5,5,5,6,6,6,6,6,6,6,6,6,6,6,6,6,6,6,6,6,6,6,6,6,6,6,6,6,6,6,6,6,6,6,6,7,7,7,7,7,7,7,7,7,7,7,7,7,7,7,7,7,7,7,7,7,7,7,7,7,7,7,7,7,7,7,7,7,7,7,7,7,7,7,7,7,7,7,7,7,7,7,7,7,7,7,7,7,7,7,7,7,7,7,7,7,7,7,7,8,8,8,8,8,8,8,8,8,8,8,8,8,8,8,8,8,8,8,8,8,8,8,8,8,8,8,8,8,8,8,8,8,8,8,8,8,8,8,8,8,8,8,8,8,8,8,8,8,8,8,8,8,8,8,8,8,8,8,8,8,8,8,8,8,8,8,8,8,8,8,8,8,8,8,8,8,8,8,8,8,8,8,8,8,8,8,8,8,8,8,8,8,8,8,8,8,8,8,8,8,8,8,8,8,8,8,8,8,8,8,8,8,8,8,8,8,8,8,8,8,8,8,8,8,8,8,8]⟩)) (t 15)),i 17 (.conv .i64 (t 16)),Bt 18 .add 13 17,mT 2 18] .ret))))
def a95:AFunc:=⟨19,[(.tmp 2)],c95⟩
theorem b95:a95.body=c95:=rfl
def c97:ACode:=(Oz [i 2 (.mov (k (.bool false)))] (Oz [mT 3 0,mT 4 0,Bt 5 .neq 3 4,mT 2 5] .ret))
def a97:AFunc:=⟨6,[(.tmp 2)],c97⟩
theorem n97:a97.ntmps=6:=id rfl
theorem r97:a97.results=[(.tmp 2)]:=rfl
theorem b97:a97.body=c97:=rfl
def c99:ACode:=(Oz [i 2 (.box (t 0)),i 4 (.alloc [(Vi 0),(Vi 0)]),i 5 (.mov (k (.bool false)))] (Oz [mT 7 1,i 8 (.bin .mul (zT 1440) (t 7)),fT 9 3 2,lT 10 9,Bt 11 .add 8 10,mT 6 11] (.seq (Oz [fT 12 7 2,lT 13 12,mT 14 1,Bc 15 .rem 14 7,Bt 16 .shr 13 15,i 17 (.bin .and (t 16) (k (.int .u8 1))),i 18 (.bin .eql (t 17) (k (.int .u8 0))),mT 19 18,Qm 20 19 6,Qf 21 19 5 2,Ql 22 19 21,Qb 23 19 .sub 20 22,q 24 19 (.bin .lss (t 23) (zT 0)),Ot 25 19 24,mT 26 25,Qm 27 26 6,Qf 28 26 4 2,Ql 29 26 28,Qb 30 26 .add 27 29,q 31 26 (.bin .gtr (t 30) (zT 1051898399)),Ot 32 26 31] (.cond (t 32) (Oz [i 33 (.build [(Vi 0),(Vi 0)] []),St 2 4 33,i 5 (.mov (k (.bool false)))] .ret) .skip)) (Oz [mT 34 6,mT 35 6,fT 36 4 2,lT 37 36,Bt 38 .add 35 37,i 39 (.build [(Vi 0),(Vi 0)] [(0,(1,(t 34))),(1,(1,(t 38)))]),St 2 4 39,i 5 (.mov (k (.bool true)))] .ret))))
def a99:AFunc:=⟨40,[(.cellN 2 4),(.tmp 5)],c99⟩
theorem n99:a99.ntmps=40:=id rfl
theorem r99:a99.results=[(.cellN 2 4),(.tmp 5)]:=rfl
theorem b99:a99.body=c99:=rfl
def N2n:ACode:=(Oz [i 6 (.mov (k (.bool false)))] (Oz [mT 7 0,mT 8 1,Bt 9 .geq 7 8,mT 10 9,Pm 11 10 0,Pm 12 10 2,Pb 13 10 .leq 11 12,At 14 10 13,mT 6 14] .ret))
def Nr2:AFunc:=⟨15,[(.tmp 6)],N2n⟩
theorem n101:Nr2.ntmps=15:=id rfl
theorem N29:Nr2.results=[(.tmp 6)]:=rfl
theorem N54:Nr2.body=N2n:=rfl
def Nvf:ACode:=(.seq (Oz [mT 7 6,mT 8 0,Nt 9 8,Bt 10 .lss 7 9] (Ce 10 0)) (.seq (.block 1 (Oz [mT 13 0,mT 14 6,xT 15 1 13 14,lT 16 15,mT 17 1,Bt 18 .eql 16 17] (.cond (t 18) (.ops [mT 19 5,Bc 20 .add 19 1,mT 5 20]) .skip))) (.ops [mT 11 6,Bc 12 .add 11 1,mT 6 12])))
def N2m:ACode:=(Oz [Zm 4 0] (Oz [Zm 5 0] (.seq (Oz [Zm 6 0] (Bl 0 Nvf)) (Oz [mT 21 5,mT 4 21] .ret))))
def Nr1:AFunc:=⟨22,[(.tmp 4)],N2m⟩
theorem n102:Nr1.ntmps=22:=id rfl
theorem N5c:Nr1.results=[(.tmp 4)]:=rfl
theorem N53:Nr1.body=N2m:=rfl
def N2l:ACode:=(Oz [i 1 (.box (t 0)),i 2 (.mov (k (.bool false)))] (Oz [fT 3 0 1,lT 4 3,Ct 5 101 [(t 4),(zT 1),(zT 999999)],mT 6 5,Pf 7 6 1 1,Pl 8 6 7,p 9 6 (.call .any (.func 101) [(t 8),(zT 1),(zT 999999)]),At 10 6 9,mT 11 10,Pf 12 11 2 1,Pl 13 11 12,p 14 11 (.call .any (.func 101) [(t 13),(zT 1),(zT 999999)]),At 15 11 14,mT 16 15,Pf 17 16 1 1,Pl 18 16 17,Pf 19 16 2 1,Pl 20 16 19,Pb 21 16 .neq 18 20,At 22 16 21,mT 23 22,Pf 24 23 3 1,Pl 25 23 24,p 26 23 (.call .any (.func 101) [(t 25),(zT 0),(zT 1439)]),At 27 23 26,mT 28 27,Pf 29 28 4 1,Pl 30 28 29,p 31 28 (.call .any (.func 101) [(t 30),(zT 1),(zT 20160)]),At 32 28 31,mT 33 32,Pf 34 33 5 1,Pl 35 33 34,p 36 33 (.call .any (.func 101) [(t 35),(zT 0),(zT 10080)]),At 37 33 36,mT 38 37,Pf 39 38 6 1,Pl 40 38 39,p 41 38 (.call .any (.func 101) [(t 40),(zT 0),(zT 1000000000)]),At 42 38 41,mT 43 42,Pf 44 43 7 1,Pl 45 43 44,p 46 43 (.bin .geq (t 45) (k (.int .u8 1))),At 47 43 46,mT 48 47,Pf 49 48 7 1,Pl 50 48 49,p 51 48 (.bin .leq (t 50) (k (.int .u8 127))),At 52 48 51,mT 2 52] .ret))
def Nr0:AFunc:=⟨53,[(.tmp 2)],N2l⟩
theorem n103:Nr0.ntmps=53:=id rfl
theorem Nd1:Nr0.results=[(.tmp 2)]:=rfl
theorem N52:Nr0.body=N2l:=rfl
def Nve:ACode:=(.seq (Oz [mT 10 6,mT 11 1,Bt 12 .lss 10 11] (Ce 12 0)) (.seq (.block 1 (.ops [mT 15 5,Bc 16 .quo 15 2,mT 5 16])) (.ops [mT 13 6,Bc 14 .add 13 1,mT 6 14])))
def N2k:ACode:=(Oz [i 2 (.box (t 0)),i 4 (.mov (k (.bool false)))] (Oz [fT 7 7 2,lT 8 7,i 9 (.conv .i64 (t 8)),mT 5 9] (.seq (Oz [Zm 6 0] (Bl 0 Nve)) (Oz [mT 17 5,Bc 18 .rem 17 2,Bc 19 .eql 18 1,mT 4 19] .ret))))
def Nrz:AFunc:=⟨20,[(.tmp 4)],N2k⟩
theorem n104:Nrz.ntmps=20:=id rfl
theorem N28:Nrz.results=[(.tmp 4)]:=rfl
theorem N51:Nrz.body=N2k:=rfl
def N2j:ACode:=(Oz [i 4 (.mov (k (.int .u64 0))),i 5 (.mov (k (.int .u64 0)))] (.seq (.cond (k (.bool false)) (Oz [mT 11 0,i 12 (.conv .u32 (t 11)),mT 13 1,i 14 (.conv .u32 (t 13)),Ct 15 129 [(t 12),(t 14)],mT 10 15,Et 16 0 10,Et 17 1 10,mT 6 16,mT 7 17] (Oz [mT 18 6,i 19 (.conv .u64 (t 18)),mT 20 7,i 21 (.conv .u64 (t 20)),mT 4 19,mT 5 21] .ret)) .skip) (Oz [mT 23 0,mT 24 1,Ct 25 130 [(t 23),(t 24)],mT 22 25,Et 26 0 22,Et 27 1 22,mT 8 26,mT 9 27] (Oz [mT 28 8,mT 29 9,mT 4 28,mT 5 29] .ret))))
def Nry:AFunc:=⟨30,[(.tmp 4),(.tmp 5)],N2j⟩
theorem n106:Nry.ntmps=30:=id rfl
theorem N5b:Nry.results=[(.tmp 4),(.tmp 5)]:=rfl
theorem N50:Nry.body=N2j:=rfl
def N5r:ACode:=(Oz [i 4 (.mov (k (.int .u32 0))),i 5 (.mov (k (.int .u32 0)))] (Oz [mT 7 0,i 8 (.conv .u64 (t 7)),mT 9 1,i 10 (.conv .u64 (t 9)),Bt 11 .mul 8 10,mT 6 11] (Oz [mT 12 6,i 13 (.bin .shr (t 12) (k (.int .u64 32))),i 14 (.conv .u32 (t 13)),mT 15 6,i 16 (.conv .u32 (t 15)),mT 4 14,mT 5 16] .ret)))
def N36:AFunc:=⟨17,[(.tmp 4),(.tmp 5)],N5r⟩
def c130:ACode:=(Oz [i 4 (.mov (k (.int .u64 0))),i 5 (.mov (k (.int .u64 0)))] (Oz [mT 14 0,i 15 (.bin .and (t 14) (k (.int .u64 4294967295))),mT 6 15] (Oz [mT 16 0,i 17 (.bin .shr (t 16) (k (.int .u64 32))),mT 7 17] (Oz [mT 18 1,i 19 (.bin .and (t 18) (k (.int .u64 4294967295))),mT 8 19] (Oz [mT 20 1,i 21 (.bin .shr (t 20) (k (.int .u64 32))),mT 9 21] (Oz [mT 22 6,mT 23 8,Bt 24 .mul 22 23,mT 10 24] (Oz [mT 25 7,mT 26 8,Bt 27 .mul 25 26,mT 28 10,i 29 (.bin .shr (t 28) (k (.int .u64 32))),Bt 30 .add 27 29,mT 11 30] (Oz [mT 31 11,i 32 (.bin .and (t 31) (k (.int .u64 4294967295))),mT 12 32] (Oz [mT 33 11,i 34 (.bin .shr (t 33) (k (.int .u64 32))),mT 13 34] (Oz [mT 35 12,mT 36 6,mT 37 9,Bt 38 .mul 36 37,Bt 39 .add 35 38,mT 12 39] (Oz [mT 40 7,mT 41 9,Bt 42 .mul 40 41,mT 43 13,Bt 44 .add 42 43,mT 45 12,i 46 (.bin .shr (t 45) (k (.int .u64 32))),Bt 47 .add 44 46,mT 4 47] (Oz [mT 48 0,mT 49 1,Bt 50 .mul 48 49,mT 5 50] .ret))))))))))))
def a130:AFunc:=⟨51,[(.tmp 4),(.tmp 5)],c130⟩
theorem n130:a130.ntmps=51:=id rfl
theorem N5a:a130.results=[(.tmp 4),(.tmp 5)]:=rfl
theorem N5z:a130.body=c130:=rfl
def table:List (FuncId×AFunc):=[(4,a4),(7,a7),(9,a9),(11,a11),(12,a12),(13,a13),(17,a17),(18,a18),(20,a20),(21,a21),(22,a22),(23,a23),(24,a24),(27,a27),(28,a28),(29,a29),(30,a30),(31,a31),(35,a35),(38,a38),(39,a39),(41,a41),(45,a45),(46,a46),(49,a49),(50,a50),(51,a51),(52,a52),(53,a53),(54,a54),(55,a55),(57,a57),(58,a58),(59,a59),(60,a60),(61,a61),(62,a62),(63,a63),(64,a64),(67,a67),(68,a68),(74,a74),(75,a75),(77,a77),(78,a78),(79,a79),(80,a80),(81,a81),(82,a82),(83,a83),(85,a85),(86,a86),(95,a95),(97,a97),(99,a99),(101,Nr2),(102,Nr1),(103,Nr0),(104,Nrz),(106,Nry),(129,N36),(130,a130),(40,Srt.aSORT zL),(65,Srt.aPDQ zL),(66,Srt.aLEN zL),(76,Srt.aSORT zC),(84,Srt.aSORT zP),(87,Srt.aINS zL),(88,Srt.aHEAP zL),(89,Srt.aBRK zL),(90,Srt.aCHO zL),(91,Srt.aREV zL),(92,Srt.aPIS zL),(93,Srt.aPEQ zL),(94,Srt.aPART zL),(96,Srt.aLEN64 zL),(100,Srt.aPDQ zC),(105,Srt.aPDQ zP),(107,Srt.aSIFT zL),(108,Srt.aNPT zL),(109,Srt.aXOR zL),(110,Srt.aMEDA zL),(111,Srt.aMED zL),(113,Srt.aINS zC),(114,Srt.aHEAP zC),(115,Srt.aBRK zC),(116,Srt.aCHO zC),(117,Srt.aREV zC),(118,Srt.aPIS zC),(119,Srt.aPEQ zC),(120,Srt.aPART zC),(121,Srt.aINS zP),(122,Srt.aHEAP zP),(123,Srt.aBRK zP),(124,Srt.aCHO zP),(125,Srt.aREV zP),(126,Srt.aPIS zP),(127,Srt.aPEQ zP),(128,Srt.aPART zP),(131,Srt.aORD zL),(132,Srt.aSIFT zC),(133,Srt.aMEDA zC),(134,Srt.aMED zC),(135,Srt.aSIFT zP),(136,Srt.aMEDA zP),(137,Srt.aMED zP),(138,Srt.aORD zC),(139,Srt.aORD zP)]
def tr (g:FuncId):Option AFunc:=table.lookup g
theorem e4:tr 4=some a4:=rfl
theorem e7:tr 7=some a7:=rfl
theorem e9:tr 9=some a9:=rfl
theorem e11:tr 11=some a11:=rfl
theorem e12:tr 12=some a12:=rfl
theorem e13:tr 13=some a13:=rfl
theorem e17:tr 17=some a17:=rfl
theorem e18:tr 18=some a18:=rfl
theorem e20:tr 20=some a20:=rfl
theorem e21:tr 21=some a21:=rfl
theorem e22:tr 22=some a22:=rfl
theorem e23:tr 23=some a23:=rfl
theorem e24:tr 24=some a24:=rfl
theorem e27:tr 27=some a27:=rfl
theorem e28:tr 28=some a28:=rfl
theorem e29:tr 29=some a29:=rfl
theorem e30:tr 30=some a30:=rfl
theorem e31:tr 31=some a31:=rfl
theorem e35:tr 35=some a35:=rfl
theorem e38:tr 38=some a38:=rfl
theorem e39:tr 39=some a39:=rfl
theorem e41:tr 41=some a41:=rfl
theorem e45:tr 45=some a45:=rfl
theorem e46:tr 46=some a46:=rfl
theorem e49:tr 49=some a49:=rfl
theorem e50:tr 50=some a50:=rfl
theorem e51:tr 51=some a51:=rfl
theorem e52:tr 52=some a52:=rfl
theorem e53:tr 53=some a53:=rfl
theorem e54:tr 54=some a54:=rfl
theorem e55:tr 55=some a55:=rfl
theorem e57:tr 57=some a57:=rfl
theorem e58:tr 58=some a58:=rfl
theorem e59:tr 59=some a59:=rfl
theorem e60:tr 60=some a60:=rfl
theorem e61:tr 61=some a61:=rfl
theorem e62:tr 62=some a62:=rfl
theorem e63:tr 63=some a63:=rfl
theorem e64:tr 64=some a64:=rfl
theorem e67:tr 67=some a67:=rfl
theorem e68:tr 68=some a68:=rfl
theorem e74:tr 74=some a74:=rfl
theorem e75:tr 75=some a75:=rfl
theorem e77:tr 77=some a77:=rfl
theorem e78:tr 78=some a78:=rfl
theorem e79:tr 79=some a79:=rfl
theorem e80:tr 80=some a80:=rfl
theorem e81:tr 81=some a81:=rfl
theorem e82:tr 82=some a82:=rfl
theorem e83:tr 83=some a83:=rfl
theorem e85:tr 85=some a85:=rfl
theorem e86:tr 86=some a86:=rfl
theorem e97:tr 97=some a97:=rfl
theorem e99:tr 99=some a99:=rfl
theorem N5o:tr 101=some Nr2:=rfl
theorem N5n:tr 102=some Nr1:=rfl
theorem N5m:tr 103=some Nr0:=rfl
theorem N5l:tr 104=some Nrz:=rfl
theorem N5k:tr 106=some Nry:=rfl
theorem N5j:tr 130=some a130:=rfl
end Go.Proofs.YtohnaffmcjbpoaaGreat.Fn


namespace Go.Proofs.YtohnaffmcjbpoaaGreat.Fn
open Go.AM Go.AM.Sym Go.Net
class OB where
 on:FuncId->Bool
def orc [OB] (g:FuncId) (as:List Value):Option Value:=if (g=7\/g=999)/\OB.on g=true/\as=[] then some (.bool true) else none
def E [OB]:Env:=⟨tr,pf,orc,true⟩
instance dtE [OB]:DT E E:=⟨rfl⟩
section
variable {mp:Bool} {lim:Nat} {g:FuncId} {as:List Value} {v:Value} {af:AFunc} {H:NB} {Q:Value->NB->Prop}
theorem pc [OB] (h:g≠7/\g≠999) (b:tr g=some af) (hp:pf g=true) (a:flat 4 v=true) (hr:PI E af H.length [.code af.body] (NH as) (H++[]) fun v' _=>v'=v):NR E mp lim g as H Q=Q v H:=
 Zu (E:=E) (by simp [E,orc,h]) b hp a (NI hr)
theorem po [OB] (h:g≠7/\g≠999) (b:tr g=some af) (hp:pf g=true) (a:olds H.length 4 v=true) (hr:PI E af H.length [.code af.body] (NH as) (H++[]) fun v' _=>v'=v):NR E mp lim g as H Q=Q v H:=
 Nfs (E:=E) (by simp [E,orc,h]) b hp a (NI hr)
theorem Te [OB] (h:g≠7/\g≠999) (a:tr g=some af) (hp:pf g=false) (hr:PI E af lim [.code af.body] (NH as) (H++[]) Q):NR E false lim g as H Q:=by
 rw [UV (E:=E) (by simp [E,orc,h]) a hp rfl];exact NI hr
theorem NR.one [OB] (h:NR E mp lim g as H Q):∃n v H',QR E n mp lim (.inl g) as H=some [(v,H')]/\Q v H':=by
 obtain ⟨n,L,h1,h2,a⟩:=h
 obtain ⟨⟨v,H'⟩,rfl⟩:=h2 rfl
 exact ⟨n,v,H',h1,a _ (Ni.mpr rfl)⟩
theorem Nmf [OB] (h:OB.on 7=true) (mp:Bool) (lim:Nat) (H:NB) (Q:Value->NB->Prop):NR E mp lim 7 [] H Q=Q (.bool true) H:=
 Nr9 (E:=E) (by simp [E,orc,h]) rfl rfl
end
def QO (l:Leg):List Value:=[Vi l.id,Vi l.frm,Vi l.dst,Vi l.dep,Vi l.mins,Vi l.cut,Vi l.grams,.int .u8 l.days]
theorem NV (l:Leg):(QO l).length=8:=id rfl
theorem SV {l:Leg}:(QO l)[0]? = some (Vi l.id):=id rfl
theorem PY {l:Leg}:(QO l)[1]? = some (Vi l.frm):=id rfl
theorem QX {l:Leg}:(QO l)[2]? = some (Vi l.dst):=id rfl
theorem WA {l:Leg}:(QO l)[3]? = some (Vi l.dep):=id rfl
theorem Yf {l:Leg}:(QO l)[4]? = some (Vi l.mins):=id rfl
theorem Si {l:Leg}:(QO l)[5]? = some (Vi l.cut):=id rfl
theorem Ud {l:Leg}:(QO l)[6]? = some (Vi l.grams):=id rfl
theorem Ngy {l:Leg}:(QO l)[7]? = some (.int .u8 l.days):=id rfl
theorem Nv0 {α:Type} {X Y:List α} {k:Nat} {d:α}:(X++Y).getD (X.length+k) d=Y.getD k d:=by
 rw [Nc,Nc,Og (by omega),R8]
def encI (n:Int):List Value:=[Vi n]
theorem OU (n:Int):(encI n).length=1:=id rfl
theorem XY {H:NB} {i:Nat} {es:List (Value×Value)} (h:NC H i=.map es):i<H.length:=by
 rcases Om i H.length with h1 | h1
 ·exact h1
 ·unfold NC at h
  rw [Nc,N8 h1] at h
  cases h
def By (l:Leg):Prop:=0<=l.days/\l.days<=255
theorem _root_.Go.Net.Fine.by {l:Leg} (h:Fine l):By l:=by unfold Fine at h;unfold By;omega
def enc3 (x:Int×Int×Int):List Value:=[Vi x.1,Vi x.2.1,Vi x.2.2]
theorem Vk (x:Int×Int×Int):(enc3 x).length=3:=id rfl
def lims (l:Leg):List (Int×Int×Int):=[(l.id,1,999999),(l.frm,1,999999),(l.dst,1,999999),(l.dep,0,1439),(l.mins,1,20160),(l.cut,0,10080),(l.grams,0,1000000000),(l.days,1,127)]
def inB (x:Int×Int×Int):Prop:=x.2.1<=x.1/\x.1<=x.2.2
theorem Ncq {l:Leg}:Fine l↔(∀j,j<8->inB (gt (lims l) j))/\l.frm≠l.dst:=by
 constructor
 ·intro h
  unfold Fine at h
  refine ⟨fun j a=>?_,by omega⟩
  match j,a with
  | 0,_=>show 1<=l.id/\l.id<=999999;omega
  | 1,_=>show 1<=l.frm/\l.frm<=999999;omega
  | 2,_=>show 1<=l.dst/\l.dst<=999999;omega
  | 3,_=>show 0<=l.dep/\l.dep<=1439;omega
  | 4,_=>show 1<=l.mins/\l.mins<=20160;omega
  | 5,_=>show 0<=l.cut/\l.cut<=10080;omega
  | 6,_=>show 0<=l.grams/\l.grams<=1000000000;omega
  | 7,_=>show 1<=l.days/\l.days<=127;omega
 ·rintro ⟨h,hn⟩
  have b:1<=l.id/\l.id<=999999:=h 0 (by decide)
  have h1:1<=l.frm/\l.frm<=999999:=h 1 (by decide)
  have h2:1<=l.dst/\l.dst<=999999:=h 2 (by decide)
  have c:0<=l.dep/\l.dep<=1439:=h 3 (by decide)
  have d:1<=l.mins/\l.mins<=20160:=h 4 (by decide)
  have e:0<=l.cut/\l.cut<=10080:=h 5 (by decide)
  have f:0<=l.grams/\l.grams<=1000000000:=h 6 (by decide)
  have g:1<=l.days/\l.days<=127:=h 7 (by decide)
  unfold Fine;omega
theorem Nhx [OB] {mp:Bool} {lim:Nat} {l:Leg} {H:NB} {Q:Value->NB->Prop} (hd:By l):NR E mp lim 35 [.agg (QO l).toArray] H Q=Q (.bool (decide (Fine l))) H:=by
 refine pc (by decide) e35 rfl rfl ?_
 rw [b35,c35]
 have wd:IntKind.i64.wrap l.days=l.days:=NY (by unfold By at hd;omega) (by unfold By at hd;omega)
 simp only [n35,QO,wd,SB,seval,NJ,NH,place,NA]
 refine NM (fun i=>8-i) (fun i fr G=>i<=8/\fr 1=Vp H.length/\fr 32=.agg ((lims l).flatMap enc3).toArray/\fr 33=Vi i/\NC G H.length=Vc (QO l)/\∀j,j<i->inB (gt (lims l) j)) 0
  ⟨Nv _,rfl,by rfl,by rfl,by rw [NN];rfl,fun j p=>by omega⟩ ?_
 intro i fr G ⟨hi,g1,d,b,e,a⟩ o
 have hl:=ND e
 rw [NQ N0i.eq_1]
 refine NI ?_
 have g:=fun X=>(NZ.refl.app (X:=X)).cells e
 by_cases c:i<8
 ·have f:IntKind.i64.wrap ((i:Int)+1)=((i+1:Nat):Int):=NS (by omega)
  have hd:=MG Vk (lims l) i c
  have m:(i:Int)<8:=by omega
  have k:(0:Int)<=(i:Int):=by omega
  have n:H.length<=G.length:=by omega
  simp only [n35,d,b,m,k,hd,enc3,n,SB,seval,NJ,NF,place,NA]
  repeat' ((first | refine Yu (fun hw=>?_) (fun hw=>?_) | refine Y8 (fun hw=>?_) (fun hw=>?_) | refine Yv (fun hw=>?_) (fun hw=>?_) | refine Y9 (fun hw=>?_) (fun hw=>?_))<;>(try simp only [hw,n35,r35,b,f,SB,Nat.reduceLT,NJ,Nat.reduceEqDiff,NF,NG]))
  ·rw [Nx]
   rw [Ncq]
   intro h
   have:=(h.1 i c).1
   omega
  ·rw [Nx]
   rw [Ncq]
   intro h
   have:=(h.1 i c).2
   omega
  ·refine o (i+1) _ _ ⟨by omega,g1,d,rfl,(NZ.refl.app).cells e,fun j p=>?_⟩ (by omega)
   rcases Om j i with h | h
   ·exact a j h
   ·obtain rfl:j=i:=by omega
    unfold inB;omega
 ·obtain rfl:i=8:=by omega
  simp only [n35,r35,g1,b,g,QO,SB,seval,NJ,NF,NG]
  congr 1
  rw [Rb]
  simp only [N3,Ncq]
  exact ⟨fun h=>⟨a,h⟩,fun h=>h.2⟩
def WR:Option (Int×Int)->Value
 | some (a,b)=>.tuple #[.agg #[Vi a,Vi b],.bool true]
 | none=>.tuple #[.agg #[Vi 0,Vi 0],.bool false]
theorem MJ {x:Option (Int×Int)}:flat 4 (WR x)=true:=by cases x<;>rfl
def U4 (l:Leg) (d:Nat):Option (Int×Int):=if goes l d then some (1440*(d:Int)+l.dep,1440*(d:Int)+l.dep+l.mins) else none
theorem N2p {a:Int} {k:Nat} (b:0<=a) (h1:a<=255) (c:k<7) :
  IntKind.u8.wrap ((BitVec.ofInt 8 (a.fdiv (2 ^ (min k 8))) &&& BitVec.ofInt 8 1).toNat:Int)=((a.toNat / 2 ^ k % 2:Nat):Int):=by
 obtain ⟨n,rfl⟩:∃n:Nat,a=(n:Int):=⟨a.toNat,by omega⟩
 rw [Pa (by omega),O0]
 have e:((n:Int).fdiv (2 ^ k))=((n / 2 ^ k:Nat):Int):=by
  rw [show ((2:Int) ^ k)=((2 ^ k:Nat):Int) by simp,Rg _ (Int.natCast_nonneg _)]
  rfl
 rw [e,BitVec.ofInt_natCast,Ry]
 have hl:n / 2 ^ k<256:=Nat.lt_of_le_of_lt (R0 _ _) (by omega)
 have e1:(BitVec.ofInt 8 1).toNat=1:=rfl
 rw [e1,Qv,Qj hl,Nat.and_one_is_mod]
 simp only [IntKind.wrap,IntKind.bits,IntKind.signed]
 simp;omega
theorem Ng0 [OB] {mp:Bool} {lim:Nat} {l:Leg} {d:Nat} {H:NB} {Q:Value->NB->Prop} (hl:Fine l) (hd:d<Njg):NR E mp lim 99 [.agg (QO l).toArray,Vi d] H Q=Q (WR (U4 l d)) H:=by
 refine pc (by decide) e99 rfl MJ ?_
 rw [b99,c99]
 rw [Nn3] at hd
 have g:=hl.by
 unfold By at g
 have i:Int.tmod (d:Int) 7=((d % 7:Nat):Int):=rfl
 have f:¬(((d % 7:Nat):Int)<0):=by omega
 have c:=N2p (a:=l.days) (k:=d % 7) g.1 g.2 (by omega)
 have j:=hl
 unfold Fine at j
 have m:IntKind.i64.wrap (1440*(d:Int))=1440*(d:Int):=NY (by omega) (by omega)
 have n:IntKind.i64.wrap (1440*(d:Int)+l.dep)=1440*(d:Int)+l.dep:=NY (by omega) (by omega)
 have o:IntKind.i64.wrap (1440*(d:Int)+l.dep-l.cut)=1440*(d:Int)+l.dep-l.cut:=NY (by omega) (by omega)
 have q:IntKind.i64.wrap (1440*(d:Int)+l.dep+l.mins)=1440*(d:Int)+l.dep+l.mins:=NY (by omega) (by omega)
 have hr:runs l.days d=(l.days.toNat / 2 ^ (d % 7) % 2 == 1):=rfl
 have h:l.days.toNat / 2 ^ (d % 7) % 2<2:=Re _ (by decide)
 generalize l.days.toNat / 2 ^ (d % 7) % 2=b at c hr h
 change IntKind.u8.wrap ((BitVec.ofInt (IntKind.bits .u8) (l.days.fdiv (2 ^ (min (d % 7) (IntKind.bits .u8)))) &&& BitVec.ofInt (IntKind.bits .u8) 1).toNat:Int)=((b:Nat):Int) at c
 have e:goes l d=((b == 1)&&decide (0<=1440*(d:Int)+l.dep-l.cut)&&decide (1440*(d:Int)+l.dep+l.mins<=1051898399)):=by unfold goes OP;rw [hr]
 simp only [n99,WA,Ngy,i,f,c,m,n,SB,seval,NJ,NF,NH,place,NA]
 repeat' ((first | refine Yu (fun hw=>?_) (fun hw=>?_) | refine Y8 (fun hw=>?_) (fun hw=>?_) | refine Yv (fun hw=>?_) (fun hw=>?_) | refine Y9 (fun hw=>?_) (fun hw=>?_))<;>(try simp only [hw,n99,r99,Yf,Si,o,q,SB,Nat.reduceLT,NJ,Nat.reduceEqDiff,NF,NA,Nat.reduceAdd,NG]))
 ·obtain rfl:b=0:=by omega
  rw [U4,e];rfl
 ·obtain rfl:b=1:=by omega
  rw [U4,e,Nx (by omega)];rfl
 ·obtain rfl:b=1:=by omega
  rw [U4,e,Nx (p:=_<=(1051898399:Int)) (by omega),Bool.and_false];rfl
 ·obtain rfl:b=1:=by omega
  rw [U4,e,No (p:=_<=(1051898399:Int)) (by omega),No (by omega)];rfl
theorem N3q {a b:Int}:Sq true (Vi a) [Vi b]=some (Vi (max a b)):=by
 simp only [Sq,Xx,if_true]
 congr 2
 split<;>omega
theorem N3o {a b:Int}:Sq false (Vi a) [Vi b]=some (Vi (min a b)):=by
 simp only [Sq,Xx,if_true]
 simp only [Oe,if_false]
 congr 2
 split<;>omega
theorem N3j [OB] {mp:Bool} {lim:Nat} {l:Leg} {d:Int} {H:NB} {Q:Value->NB->Prop} (hl:Fine l):NR E mp lim 75 [.agg (QO l).toArray,Vi d] H Q=Q (WR (if 0<=d/\d<730485 then U4 l d.toNat else none)) H:=by
 refine pc (by decide) e75 rfl MJ ?_
 rw [b75,c75]
 have b:=fun (H:NB) (mp:Bool) (lim:Nat) (Q:Value->NB->Prop)=>Nhx (mp:=mp) (lim:=lim) (H:=H) (Q:=Q) hl.by
 rw [No hl] at b
 by_cases h1:d<0
 ·rw [Nf (by omega)]
  simp only [n75,r75,b,NV,OH,h1,WR,SB,seval,NE,NJ,NF,PW,NH,place,NA,NG]
 ·by_cases h2:730484<d
  ·rw [Nf (by omega)]
   simp only [n75,r75,b,NV,OH,h1,h2,WR,SB,seval,NE,NJ,NF,PW,NH,place,NA,NG]
  ·rw [Nk (by omega)]
   obtain ⟨n,rfl⟩:∃n:Nat,d=(n:Int):=⟨d.toNat,by omega⟩
   have a:=fun (H:NB) (mp:Bool) (lim:Nat) (Q:Value->NB->Prop)=>Ng0 (mp:=mp) (lim:=lim) (H:=H) (Q:=Q) (l:=l) (d:=n) hl (by rw [Nn3];omega)
   rw [O0]
   cases hx:U4 l n with
   | none=>
     rw [hx] at a
     simp only [WR] at a
     simp only [n75,r75,b,NV,OH,h1,h2,a,WR,SB,seval,NE,NJ,NF,PW,NH,place,NA,NG]
   | some p=>
     rw [hx] at a
     simp only [WR] at a
     simp only [n75,r75,b,NV,OH,h1,h2,a,WR,SB,seval,NE,NJ,NF,PW,NH,place,NA,NG]
def QJ (pp:Option Addr) (np cp:Nat) (pl:Option Addr) (nl cl:Nat):List Value:=[.slice pp np cp,.slice pl nl cl]
theorem OG {pp pl:Option Addr} {np cp nl cl:Nat}:(QJ pp np cp pl nl cl).length=2:=id rfl
theorem QE {pp pl:Option Addr} {np cp nl cl:Nat}:(QJ pp np cp pl nl cl)[0]? = some (.slice pp np cp):=id rfl
theorem Sr {pp pl:Option Addr} {np cp nl cl:Nat}:(QJ pp np cp pl nl cl)[1]? = some (.slice pl nl cl):=id rfl
structure NetIn (H:NB) (pp pl:Option Addr) (P:List Int) (L:List Leg):Prop where
 sp:Sl H encI 1 pp P
 sl:Sl H QO 8 pl L
 np:P.length<2 ^ 63
 nl:L.length<2 ^ 63
 bys:∀l∈L,By l
theorem NetIn.app {H:NB} {pp pl:Option Addr} {P:List Int} {L:List Leg} (h:NetIn H pp pl P L) (X:NB):NetIn (H++X) pp pl P L:=⟨h.sp.app X,h.sl.app X,h.np,h.nl,h.bys⟩
theorem NetIn.ext {H G:NB} {pp pl:Option Addr} {P:List Int} {L:List Leg} (h:NetIn H pp pl P L) (e:NZ H G):NetIn G pp pl P L:=⟨e.sl h.sp,e.sl h.sl,h.np,h.nl,h.bys⟩
def Uk (a:List Int):List (Value×Value):=a.map fun k=>(Vi k,.bool true)
theorem Ngk {b:List Int} {a:Int} {i:Nat} (h:a∉b):findKey (Vi a) (Uk b) i=some none:=by
 unfold Uk
 exact Ncr (f:=fun k:Int=>k) (g:=fun _=>.bool true) fun x c e=>h (e▸c)
theorem Na7 {b:List Int} {a:Int} {i:Nat} (h:a∈b):∃j,findKey (Vi a) (Uk b) i=some (some (j,.bool true)):=by
 unfold Uk
 exact Nam (f:=fun k:Int=>k) (g:=fun _=>.bool true) ⟨a,h,rfl⟩ fun _ _ _=>rfl
theorem Nnd {b:List Int} {a:Int}:Uk b++[(Vi a,.bool true)]=Uk (b++[a]):=by simp [Uk]
def pOk (P:List Int) (i:Nat):Prop:=1<=gt P i/\gt P i<=999999/\gt P i∉P.take i
instance (P:List Int) (i:Nat):Decidable (pOk P i):=by unfold pOk;infer_instance
def T9 (P:List Int):Prop:=∀i,i<P.length->pOk P i
instance (P:List Int):Decidable (T9 P):=by unfold T9;infer_instance
def lOk (P:List Int) (L:List Leg) (i:Nat):Prop:=Fine (gt L i)/\(gt L i).id∉(L.take i).map (·.id)/\(gt L i).frm∈P/\(gt L i).dst∈P
instance (P:List Int) (L:List Leg) (i:Nat):Decidable (lOk P L i):=by unfold lOk;infer_instance
def X0 (P:List Int) (L:List Leg):Prop:=∀i,i<L.length->lOk P L i
instance (P:List Int) (L:List Leg):Decidable (X0 P L):=by unfold X0;infer_instance
def QB (P:List Int) (L:List Leg):Int:=if 50<P.length\/200<L.length then 5 else if ¬T9 P then 320 else if ¬X0 P L then 321 else 0
theorem Nj4 [OB] {H G:NB} {pp pl:Option Addr} {P:List Int} {L:List Leg} {cp cl R:Nat} {fr:Nat->Value} {K:List AItem} {v:Value} (hn:NetIn G pp pl P L) (ac:NC G R=Vc (QJ pp P.length cp pl L.length cl))
  (Z:NC G (R+1)=.map (Uk P)) (hR:H.length<=R) (f1:fr 1=Vp R) (f3:fr 3=.map (some (R+1))) (f6:fr 6=.map (some G.length)) (N:fr 49=.slice pl L.length cl) (O:fr 50=Vi L.length) (S:fr 51=Vi 0)
  (C:¬X0 P L->v=Vi 321)
  (T:∀fr' G',X0 P L->PI E a13 H.length K fr' (G'++[]) fun v' _=>v'=v) :
  PI E a13 H.length (.code (.loop Nu8)::.inBlock 2::K) fr (G++[.map []]) fun v' _=>v'=v:=by
 have V:=XY Z
 refine NM (fun i=>L.length-i) (fun i fr G'=>i<=L.length/\fr 3=.map (some (R+1))/\fr 6=.map (some G.length)/\fr 49=.slice pl L.length cl/\fr 50=Vi L.length/\fr 51=Vi i/\
  G.length<G'.length/\Sl G' QO 8 pl L/\NC G' (R+1)=.map (Uk P)/\NC G' G.length=.map (Uk ((L.take i).map (·.id)))/\∀j,j<i->lOk P L j) 0
  ⟨Nv _,f3,f6,N,O,S,by simp,hn.sl.app _,by rw [NK V];exact Z,NN,fun j x=>by omega⟩ ?_
 intro i fr G' ⟨hi,I,B,m,f,n,Y,A,u,F,w⟩ hN
 rw [NQ Nu8.eq_1]
 refine NI ?_
 by_cases a:i<L.length
 ·have aa:=Nat.le_of_lt Y
  have U:=hn.bys _ (PK a)
  have z:∀X,NC (G'++X) (R+1)=.map (Uk P):=fun X=>by rw [NK (XY u)];exact u
  have t:∀X,NC (G'++X) G.length=.map (Uk ((L.take i).map (·.id))):=fun X=>by rw [NK Y];exact F
  have o:=fun X=>(A.app X).loadCells NV a
  have d:=fun c (k:IntKind) (H1:NB)=>A.idx (c:=c) (k:=k) (H1:=H1) a
  have W:IntKind.i64.wrap ((i:Int)+1)=((i+1:Nat):Int):=NS (by have:=hn.nl;omega)
  have D:H.length<=G.length:=by omega
  have e:H.length<=G'.length:=by omega
  have g:=fun (H:NB) (mp:Bool) (lim:Nat) (Q:Value->NB->Prop)=>Nhx (mp:=mp) (lim:=lim) (H:=H) (Q:=Q) U
  have p:¬lOk P L i->v=Vi 321:=fun h=>C fun hh=>h (hh i a)
  by_cases M:Fine (gt L i)
  ·rw [No M] at g
   by_cases l:(gt L i).id∈(L.take i).map (·.id)
   ·obtain ⟨j,x⟩:=Na7 (i:=0) l
    simp only [n13,r13,B,m,f,n,a,d,o,t,x,g,NV,SV,OH,e,SB,seval,NE,NJ,NF,PW,place,NA,NG]
    exact (p fun h=>h.2.1 l).symm
   ·have x:=Ngk (i:=0) l
    by_cases r:(gt L i).frm∈P
    ·obtain ⟨j1,s⟩:=Na7 (i:=0) r
     by_cases q:(gt L i).dst∈P
     ·obtain ⟨j2,y⟩:=Na7 (i:=0) q
      simp only [n13,I,B,m,f,n,a,d,o,W,t,z,x,s,y,g,NV,SV,PY,QX,OH,D,e,SB,seval,NE,NJ,NF,PW,place,NA]
      refine hN (i+1) _ _ ⟨by omega,I,B,m,f,rfl,by simp;omega, ?_, ?_, ?_,fun j x=>?_⟩ (by omega)
      ·refine A.sim fun b ro c J=>?_
       rw [OQ (by rintro rfl;rw [F] at J;cases J),NK (ND J)];exact J
      ·rw [OQ (by omega),NK (XY u)];exact u
      ·rw [Uu (by simp;omega),Nnd,QH a,Pe];rfl
      ·rcases Om j i with h | h
       ·exact w j h
       ·obtain rfl:j=i:=by omega
        exact ⟨M,l,r,q⟩
     ·have y:=Ngk (i:=0) q
      simp only [n13,r13,I,B,m,f,n,a,d,o,t,z,x,s,y,g,NV,SV,PY,QX,OH,e,SB,seval,NE,NJ,NF,PW,place,NA,NG]
      exact (p fun h=>q h.2.2.2).symm
    ·have s:=Ngk (i:=0) r
     simp only [n13,r13,I,B,m,f,n,a,d,o,t,z,x,s,g,NV,SV,PY,OH,e,SB,seval,NE,NJ,NF,PW,place,NA,NG]
     exact (p fun h=>r h.2.2.1).symm
  ·rw [Nx M] at g
   simp only [n13,r13,m,f,n,a,d,o,g,NV,OH,e,SB,seval,NE,NJ,NF,PW,place,NA,NG]
   exact (p fun h=>M h.1).symm
 ·obtain rfl:i=L.length:=by omega
  simp only [n13,f,n,a,SB,seval,NJ,NF]
  exact T _ _ w
theorem Nsh [OB] {mp:Bool} {lim:Nat} {pp pl:Option Addr} {P:List Int} {L:List Leg} {cp cl:Nat} {H:NB} {Q:Value->NB->Prop} (hn:NetIn H pp pl P L) :
  NR E mp lim 13 [.agg (QJ pp P.length cp pl L.length cl).toArray] H Q=Q (Vi (QB P L)) H:=by
 refine pc (by decide) e13 rfl rfl ?_
 rw [b13,c13]
 by_cases s:50<(P.length:Int)
 ·simp only [n13,r13,QE,s,SB,seval,NJ,NF,NH,place,NA,NG]
  rw [QB,Nk (by omega)]
 by_cases o:200<(L.length:Int)
 ·simp only [n13,r13,QE,Sr,s,o,SB,seval,NJ,NF,NH,place,NA,NG]
  rw [QB,Nk (by omega)]
 simp only [n13,QE,Sr,s,o,SB,seval,NJ,NF,NH,place,NA]
 have y:QB P L=if ¬T9 P then 320 else if ¬X0 P L then 321 else 0:=by rw [QB,Nf (by omega)]
 refine NM (fun i=>P.length-i) (fun i fr G=>i<=P.length/\fr 1=Vp H.length/\fr 3=.map (some (H.length+1))/\fr 24=.slice pp P.length cp/\fr 25=Vi P.length/\fr 26=Vi i/\
  H.length+1<G.length/\Sl G encI 1 pp P/\Sl G QO 8 pl L/\NC G H.length=Vc (QJ pp P.length cp pl L.length cl)/\NC G (H.length+1)=.map (Uk (P.take i))/\∀j,j<i->pOk P j) 0
  ⟨Nv _,rfl,rfl,rfl,rfl,by rfl,by simp,hn.sp.app _,hn.sl.app _,NN,OL,fun j v=>by omega⟩ ?_
 intro i fr G ⟨hi,h1,z,g,f,l,I,n,x,u,B,p⟩ J
 rw [NQ N0q.eq_1]
 refine NI ?_
 have D:=fun X=>(NZ.refl.app (X:=X)).cells u
 have w:∀X,NC (G++X) (H.length+1)=.map (Uk (P.take i)):=fun X=>by rw [NK I];exact B
 have C:H.length<=H.length+1:=by omega
 by_cases a:i<P.length
 ·have m:=fun X=>(n.app X).loadCell0 OU a (by decide)
  simp only [encI,O8] at m
  have d:=fun c (k:IntKind) (H1:NB)=>n.idx (c:=c) (k:=k) (H1:=H1) a
  have F:IntKind.i64.wrap ((i:Int)+1)=((i+1:Nat):Int):=NS (by omega)
  have r:¬pOk P i->QB P L=320:=fun h=>by rw [y,Nk fun M=>h (M i a)]
  by_cases A:gt P i<1
  ·simp only [n13,r13,g,f,l,a,d,m,A,SB,seval,NJ,NF,NG]
   rw [r fun h=>by have:=h.1;omega]
  ·by_cases q:999999<gt P i
   ·simp only [n13,r13,g,f,l,a,d,m,A,q,SB,seval,NJ,NF,NG]
    rw [r fun h=>by have:=h.2.1;omega]
   ·by_cases e:gt P i∈P.take i
    ·obtain ⟨j,v⟩:=Na7 (i:=0) e
     simp only [n13,r13,z,g,f,l,a,d,m,w,A,q,v,SB,seval,NJ,NF,NG]
     rw [r fun h=>h.2.2 e]
    ·have v:=Ngk (i:=0) e
     simp only [n13,z,g,f,l,a,d,m,F,w,A,q,v,C,SB,seval,NJ,NF]
     have t:∀b ro c,NC G b=.cells ro c->NC ((G++[]).set (H.length+1) (.map (Uk (P.take i)++[(Value.int .i64 (gt P i),Value.bool true)]))) b=.cells ro c:=fun b ro c q=>by
      rw [OQ (by rintro rfl;rw [B] at q;cases q),NK (ND q)];exact q
     refine J (i+1) _ _ ⟨by omega,h1,z,g,f,rfl,by simp;omega,n.sim t,x.sim t,t _ _ _ u, ?_,fun j v=>?_⟩ (by omega)
     ·rw [Uu (by simp;omega),Nnd,QH a]
     ·rcases Om j i with h | h
      ·exact p j h
      ·obtain rfl:j=i:=by omega
       exact ⟨by omega,by omega,e⟩
 ·obtain rfl:i=P.length:=by omega
  rw [Of] at B
  have K:T9 P:=p
  rw [Nf (by simpa using K)] at y
  simp only [n13,h1,f,l,a,D,Sr,SB,seval,NJ,NF,place]
  refine Nj4 (H:=H) (R:=H.length) (G:=G) ⟨n,x,hn.np,hn.nl,hn.bys⟩ u B (Ng _) h1 z rfl rfl rfl rfl (fun h=>by rw [y,Nk h]) fun fr' G' h=>?_
  rw [Nf (by simpa using h)] at y
  rw [y]
  simp only [n13,r13,SB,seval,NJ,NG]
theorem T9.idx {P:List Int} (h:T9 P) {i:Nat} (hi:i<P.length):P.idxOf (gt P i)=i:=by
 have h1:=(h i hi).2.2
 have h2:P.idxOf (gt P i)<=i:=by
  rw [OJ hi]
  apply Oq;intro hc
  have:=List.not_of_lt_findIdx (xs:=P) (p:=(· == P[i])) (i:=i) (by unfold List.idxOf at hc;omega)
  simp at this
 rcases Om (P.idxOf (gt P i)) i with h3 | h3
 ·exfalso
  apply h1
  have a:gt P i∈P:=PK hi
  have hl:=Qd a
  have:=Qs hl
  rw [List.mem_take_iff_getElem]
  exact ⟨P.idxOf (gt P i),by omega,this⟩
 ·omega
theorem UX {P:List Int} {L:List Leg} (h:QB P L=0):P.length<=50/\L.length<=200/\T9 P/\X0 P L:=by
 unfold QB at h
 split at h
 ·cases h
 ·split at h
  ·cases h
  ·split at h
   ·cases h
   ·rename_i h1 h2 a
    exact ⟨by omega,by omega,by simpa using h2,by simpa using a⟩
def Nkp (P:List Int):Int->Nat:=fun p=>P.idxOf p
theorem Nom {P:List Int} {L:List Leg} (h:QB P L=0):NetOk 50 P L (Nkp P):=by
 obtain ⟨h1,h2,g,d⟩:=UX h
 have key:∀l∈L,Fine l/\l.frm∈P/\l.dst∈P:=fun l hl=>by
  obtain ⟨i,hi,rfl⟩:=List.mem_iff_getElem.1 hl
  have:=d i hi
  unfold lOk at this
  rw [OJ hi] at this
  exact ⟨this.1,this.2.2⟩
 refine ⟨fun l hl=>(key l hl).1,fun l hl=>(key l hl).2.1,fun l hl=>(key l hl).2.2,fun a c b f e=>?_,fun a c=>?_⟩
 ·have h1:=Qs (Qd c)
  have h2:=Qs (Qd f)
  rw [<-h1,<-h2]
  congr 1
 ·have:=Qd c
  show P.idxOf a<50
  omega
def Ncd (P:List Int) (p:Int):Int:=if p∈P then (Nkp P p:Int) else -1
theorem Ne2 {P:List Int} {p:Int}:0<=Ncd P p↔p∈P:=by
 unfold Ncd;split
 ·rename_i h;exact ⟨fun _=>h,fun _=>by omega⟩
 ·rename_i h;exact ⟨fun a=>by omega,fun a=>absurd a h⟩
theorem TT {H:NB} {q:Option Addr} {T:List Int} {i:Nat} (h:Sl H encI 1 q T) (hi:i<T.length):∀X,AM.loadCell (H++X) (SX q 1 i)=some (Vi (gt T i)):=fun X=>by
 rw [(h.app X).loadCell0 OU hi (by decide)];rfl
theorem V6 {H:NB} {q:Option Addr} {T:List Int} {i n:Nat} (h:Sl H encI 1 q T) (hi:i<n) (a:T.length=n):∀(c:Nat) (k:IntKind) (H1:NB),Vh 1 (.slice q n c) (.int k (i:Int)) H1=some (.pointer (some (SX q 1 i)),H1):=fun c k H1=>by
 subst a;exact h.idx hi
def PZ (p:Option Addr):List Nat:=match p with
 | none=>[]
 | some a=>[a.block]
theorem Own.moreF {α:Type} {lim lim' e bytes cap:Nat} {G:NB} {enc:α->List Value} {p:Option Addr} {l:List α} (h:Own lim G enc e p cap l) (o:lim'<=lim) (he:∀x,(enc x).length=e) (k:e≠0) (m:List α) (r:m≠[]) (i:(l.length+m.length)*bytes<=PM) (hn:l.length+m.length<2 ^ 61)
  (X:NB) {x:Value} {str:Bool} (h1:firstCells (G++X) e str x=some (m.flatMap enc)) (h2:lenOf x=some m.length) :
  ∃f,OW lim' none e bytes str (.slice p l.length cap) x (G++X)=some (.slice (Sa ((G++X).length)) (l.length+m.length) (loose e),f++[])/\Own G.length f enc e (Sa ((G++X).length)) (loose e) (l++m)/\Chg (PZ p) G f/\(G++X).length<f.length:=by
 have c:¬m.length=0:=fun q=>r (List.length_eq_zero_iff.1 q)
 rcases h with ⟨k1,k2,k3⟩ | ⟨R,k1,k2,k3,s⟩
 ·subst k1 k2 k3
  refine ⟨G++(X++[Vc (m.flatMap enc)]), ?_, ?_,Chg.refl.app,by simp⟩
  ·simp only [Nl,N0] at i hn⊢
   simp only [OW,h1,h2,c,if_false,N0]
   rw [Nf (by omega)]
   simp [place]
  ·rw [Ob]
   refine Own.new ?_ (by simp)
   rw [<-Nr];exact NN
 ·subst k1 k2
  have b:=ND k3
  have a:NC (G++X) R=Vc (l.flatMap enc):=by rw [NK b];exact k3
  have d:AM.loadCells (G++X) ⟨R,0,none⟩ (l.length*e)=some (l.flatMap enc):=by
   simp only [QM,a,N0,QW he,Ng,if_true,Po]
   rw [Oo (by rw [QW he];exact Ng _)]
  have g:Mut G (G.set R .dead) R:=⟨by simp,fun j n=>OQ n⟩
  refine ⟨G.set R .dead++(X++[Vc ((l++m).flatMap enc)]), ?_, ?_,(Chg.refl.mut g (.inl (by simp [PZ]))).app,by simp⟩
  ·simp only [OW,h1,h2,d,a,c,if_false,if_true]
   rw [Nf (by unfold loose;omega)]
   simp [show lim'<=R by omega,place,P9 _ _ b,Nr]
  ·refine Own.new ?_ (by simp)
   rw [<-Nr,show (G++X).length=(G.set R .dead++X).length by simp];exact NN
theorem UO {α:Type} [Inhabited α] {G:NB} {enc:α->List Value} {e:Nat} {l:List α} {lim S:Nat} (he:∀x,(enc x).length=e) (hS:NC G S=Vc (l.flatMap enc)) (hl:lim<=S) {i j:Nat} (hi:i<l.length) (f:j<e) {v:Value} (y:α) (b:enc y=(enc (gt l i)).set j v) :
  ∃G',(∀X,AM.storeAt lim (G++X) ((SX (Sa S) e i).add j) [v]=some (G'++X))/\NC G' S=Vc ((l.set i y).flatMap enc)/\Mut G G' S:=by
 obtain ⟨G',h1,h2,c⟩:=OO (ND hS) (Vc ((l.set i y).flatMap enc))
 refine ⟨G',fun X=>?_,h2,c⟩
 have d:i*e+e<=l.length*e:=by
  have:=Pj e (Q1 hi)
  rw [P7] at this;exact this
 have a:NC (G++X) S=Vc (l.flatMap enc):=by rw [NK (ND hS)];exact hS
 simp only [SX,addrOf,Pq,addr_add,Ur,a,N0,Ow]
 rw [Nk ⟨hl,by rw [QW he];omega⟩,<-h1]
 congr 3
 show (l.flatMap enc).set (i*e+j) v=_
 clear h1 h2 c hS a d
 induction l generalizing i with
 | nil=>simp at hi
 | cons x l ih=>
   cases i with
   | zero=>
     rw [ZP] at b
     rw [Q0,N0,Qr,N2,N2,P9 _ _ (by rw [he];exact f),b]
   | succ i=>
     rw [OT] at b
     rw [Ph,N2,N2,Q9 _ _ (by rw [he,P7];omega),he,show (i+1)*e+j-e=i*e+j by rw [P7];omega,ih (by simpa using hi) b]
section
variable {G:NB} {pp pl:Option Addr} {P:List Int} {L:List Leg}
theorem NetIn.sim {H:NB} (h:NetIn H pp pl P L) (a:∀b ro c,NC H b=.cells ro c->NC G b=.cells ro c):NetIn G pp pl P L:=⟨h.sp.sim a,h.sl.sim a,h.np,h.nl,h.bys⟩
end
theorem Nes {α:Type} [Inhabited α] {a b:List α} {i:Nat} (hl:a.length=b.length) (hi:i<a.length) (c:∀j,j<i->gt a j=gt b j) (he:gt a i=gt b i):∀j,j<i+1->gt a j=gt b j:=fun j d=>by
 rcases Om j i with h | h
 ·exact c j h
 ·obtain rfl:j=i:=by omega
  exact he
theorem Nhu {α:Type} [Inhabited α] {a b:List α} (hl:a.length=b.length) (c:∀j,j<a.length->gt a j=gt b j):a=b:=by
 apply Qo hl
 intro i h1 h2
 have:=c i h1
 rwa [OJ h1,OJ h2] at this
theorem XQ [OB] {mp:Bool} {lim ca cb:Nat} {p q:Option Addr} {a b:List Int} {H:NB} {Q:Value->NB->Prop} (m:Sl H encI 1 p a) (n:Sl H encI 1 q b) (hn:a.length<2 ^ 62) :
  NR E mp lim 24 [.slice p a.length ca,.slice q b.length cb] H Q=Q (.bool (decide (a=b))) H:=by
 refine pc (by decide) e24 rfl rfl ?_
 rw [b24,c24]
 by_cases hl:a.length=b.length
 case neg=>
  have h1:¬(a.length:Int)=(b.length:Int):=by omega
  simp only [n24,r24,Nn h1,SB,seval,NJ,NF,reduceCtorEq,NH,NG]
  congr 1
  rw [eq_comm,decide_eq_false_iff_not]
  rintro rfl
  exact hl rfl
 have h1:(a.length:Int)=(b.length:Int):=by omega
 simp only [n24,Nq h1,SB,seval,NJ,NF,reduceCtorEq,NH]
 refine NM (fun j=>a.length-j) (fun j fr G=>j<=a.length/\fr 0=.slice p a.length ca/\fr 1=.slice q b.length cb/\fr 5=Vi j/\NZ H G/\∀i,i<j->gt a i=gt b i) 0 ⟨Nv _,rfl,rfl,by rfl,NZ.refl.app,fun i hi=>by omega⟩ ?_
 intro j fr G ⟨t,g,f1,f5,f,e⟩ s
 rw [NQ N0n.eq_1]
 refine NI ?_
 by_cases d:j<a.length
 case neg=>
  obtain rfl:j=a.length:=by omega
  simp only [n24,r24,g,f5,d,SB,seval,NJ,NF,reduceCtorEq,NG]
  rw [No (Nhu hl e)]
 have l1:=fun X=>((f.sl m).app X).loadCell0 OU d (by decide)
 have l:=fun X=>((f.sl n).app X).loadCell0 OU (by omega:j<b.length) (by decide)
 simp only [encI,O8] at l1 l
 have o:=fun c (kk:IntKind) (H1:NB)=>(f.sl m).idx (c:=c) (k:=kk) (H1:=H1) d
 have r:=fun c (kk:IntKind) (H1:NB)=>(f.sl n).idx (c:=c) (k:=kk) (H1:=H1) (by omega:j<b.length)
 have h:IntKind.i64.wrap ((j:Int)+1)=((j+1:Nat):Int):=NS (by omega)
 by_cases he:gt a j=gt b j
 ·simp only [n24,g,f1,f5,d,l1,l,o,r,h,Nq he,SB,seval,NJ,NF,reduceCtorEq]
  exact s (j+1) _ _ ⟨by omega,g,f1,rfl,f.app,Nes hl d e he⟩ (by omega)
 ·simp only [n24,r24,g,f1,f5,d,l1,l,o,r,Nn he,SB,seval,NJ,NF,reduceCtorEq,NG]
  rw [Nx]
  rintro rfl
  exact he rfl
end Go.Proofs.YtohnaffmcjbpoaaGreat.Fn


namespace Go.Proofs.YtohnaffmcjbpoaaGreat.Fn
open Go.AM Go.AM.Sym Go.Net Go.Flow
def enc2 (x:Int×Int):List Value:=[Vi x.1,Vi x.2]
theorem PO (x:Int×Int):(enc2 x).length=2:=id rfl
def Tq (n:Nat):List Value:=[Vi n]
theorem RZ (n:Nat):(Tq n).length=1:=id rfl
abbrev Yo:=Option Addr×Nat×Nat
def Ncw (x:Yo):List Value:=[.slice x.1 x.2.1 x.2.2]
theorem VK (x:Yo):(Ncw x).length=1:=id rfl
def SF (l:List Pr):List (Int×Int):=l.flatMap fun p=>[((p.head:Int),p.room),((p.tail:Int),p.flow)]
theorem RV:∀{l:List Pr},(SF l).length=2*l.length
 | []=>rfl
 | p::l=>by
   have:=RV (l:=l)
   unfold SF at this⊢
   rw [N2,Nb,this];simp;omega
theorem VP:∀{l:List Pr} {i:Nat},i / 2<l.length->gt (SF l) i=((hd l i:Int),rm l i)
 | p::l,0,_=>rfl
 | p::l,1,_=>rfl
 | p::l,i+2,h=>by
   have ih:=VP (l:=l) (i:=i) (by simp at h;omega)
   have e:SF (p::l)=((p.head:Int),p.room)::((p.tail:Int),p.flow)::SF l:=rfl
   rw [e,OT,OT,ih]
   have h1:(i+2) / 2=i / 2+1:=by omega
   have h2:(i+2) % 2=i % 2:=by omega
   unfold hd rm
   rw [h1,h2,OT]
theorem Nfm:∀{l:List Pr} {i:Nat} {d:Int},i / 2<l.length->((SF l).set i ((hd l i:Int),rm l i-d)).set (tw i) ((hd l (tw i):Int),rm l (tw i)+d)=SF (RB l i d)
 | p::l,0,d,_=>rfl
 | p::l,1,d,_=>by
   show ((p.head:Int),p.room+d)::((p.tail:Int),p.flow-d)::SF l=((p.head:Int),p.room - -d)::((p.tail:Int),p.flow+-d)::SF l
   rw [Int.sub_neg,Int.sub_eq_add_neg]
 | p::l,i+2,d,h=>by
   have ih:=Nfm (l:=l) (i:=i) (d:=d) (by simp at h;omega)
   have e:∀(p:Pr) l,SF (p::l)=((p.head:Int),p.room)::((p.tail:Int),p.flow)::SF l:=fun _ _=>rfl
   have h1:∀j,(j+2) / 2=j / 2+1:=fun j=>by omega
   have h2:∀j,(j+2) % 2=j % 2:=fun j=>by omega
   have b:tw (i+2)=tw i+2:=by unfold tw;rw [h2];split<;>omega
   have a:∀j,hd (p::l) (j+2)=hd l j/\rm (p::l) (j+2)=rm l j:=fun j=>by
    unfold hd rm
    rw [h1,h2,OT];exact ⟨rfl,rfl⟩
   have c:RB (p::l) (i+2) d=p::RB l i d:=by
    unfold RB
    rw [h1,h2,OT,Ph]
   rw [b,(a i).1,(a i).2,(a (tw i)).1,(a (tw i)).2,c,e,e,Ph,Ph,Ph,Ph,ih]
structure Stays (Ba Bn A:Nat) (G:NB) (w:List Value) (pv po:Option Addr) (cv co:Nat) (ols:List Yo) (out:List (List Nat)) (L:List Int) (na ca nn cn:Nat):Prop where
 hdr:w.length=8/\w[2]? = some (.slice (Sa Ba) na ca)/\w[3]? = some (.slice po out.length co)/\w[4]? = some (.slice pv L.length cv)/\w[5]? = some (.slice (Sa Bn) nn cn)
 keep:∀G',Chg [Ba,Bn] G G'->NC G' A=Vc w/\Sl G' encI 1 pv L/\Sl G' Ncw 1 po ols/\∀v,v<out.length->Sl G' Tq 1 (gt ols v).1 (gt out v)
 len:ols.length=out.length/\L.length=out.length
 cut:∀v,v<out.length->(gt ols v).2.1=(gt out v).length
theorem Stays.chg {Ba Bn A:Nat} {G G':NB} {w:List Value} {pv po:Option Addr} {cv co:Nat} {ols:List Yo} {out:List (List Nat)} {L:List Int} {na ca nn cn:Nat} (h:Stays Ba Bn A G w pv po cv co ols out L na ca nn cn) (hc:Chg [Ba,Bn] G G'):Stays Ba Bn A G' w pv po cv co ols out L na ca nn cn:=
 ⟨h.hdr,fun a h2=>h.keep a (hc.trans h2),h.len,h.cut⟩
theorem Ngm {L:List Int} {v:Nat} (h:v<L.length):gt L v=RJ L v:=by
 rw [OJ h];unfold RJ;rw [Nc,Np h];rfl
end Go.Proofs.YtohnaffmcjbpoaaGreat.Fn


