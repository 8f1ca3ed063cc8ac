/-
  Joined texts, 6 of 11. A part of the claim that the last text states.
-/
import Derived.ProofKit
import Derived.Deep.Slices
import Derived.OpenShut
import Derived.Sort.AssemblyPlain
import Derived.Lib.BitFns
import Derived.Test.YtkppjkkkdpcgiaaGreatPT5
set_option linter.unusedVariables false
set_option linter.unusedSimpArgs false
set_option linter.defProp false
set_option linter.unusedSectionVars false
set_option maxRecDepth 100000
set_option maxHeartbeats 4000000
namespace Go.AM
open Go.ChangeShapes Go.WideShapes Go.ChangeAt Go.RowKit
variable {H:NA} {v:Value} {cs:List Value}
inductive Ty where
 | int (k:IntKind) | bool | str | slice (t:Ty) | arr (n:Nat) (t:Ty) | nil | pair (a b:Ty)
def Ty.size:Ty->Nat
 | .nil=>0
 | .arr n t=>n*t.size
 | .pair a b=>a.size+b.size
 | _=>1
abbrev Ty.den:Ty->Type
 | .int _=>Int
 | .bool=>Bool
 | .str=>ByteArray
 | .slice t=>List t.den
 | .arr _ t=>List t.den
 | .nil=>Unit
 | .pair a b=>a.den×b.den
def Y2:(t:Ty)->NA->t.den->List Value->Prop
 | .int k,_,n,cs=>cs=[.int k n]/\k.min<=n/\n<=k.max
 | .bool,_,b,cs=>cs=[.bool b]
 | .str,_,s,cs=>cs=[.string s]/\s.size<=maxLen
 | .slice t,H,l,cs=>l.length<=maxLen/\∃p cap,cs=[.slice p l.length cap]/\(p=none->l=[]/\cap=0)/\
   ∀a,p=some a->a.spot=none/\a.off=0/\cap=loose t.size/\(l≠[]->∃es:List (List Value),NE H a.block=.cells true es.flatten/\es.length=l.length/\∀(i:Nat) x e,l[i]? = some x->es[i]? = some e->Y2 t H x e)
 | .arr n t,H,l,cs=>∃es:List (List Value),cs=es.flatten/\es.length=n/\l.length=n/\∀(i:Nat) x e,l[i]? = some x->es[i]? = some e->Y2 t H x e
 | .nil,_,_,cs=>cs=[]
 | .pair a b,H,x,cs=>∃c1 c2,cs=c1++c2/\Y2 a H x.1 c1/\Y2 b H x.2 c2
theorem Y2.app:∀{t:Ty} {H:NA} {x:t.den} {cs:List Value} (_:Y2 t H x cs) (X:NA),Y2 t (H++X) x cs
 | .int _,_,_,_,h,_=>h
 | .bool,_,_,_,h,_=>h
 | .str,_,_,_,h,_=>h
 | .nil,_,_,_,h,_=>h
 | .pair a b,_,_,_,⟨c1,c2,e,h1,h2⟩,X=>⟨c1,c2,e,h1.app X,h2.app X⟩
 | .arr n t,H,l,cs,⟨es,e,h1,h2,h3⟩,X=>⟨es,e,h1,h2,fun i x c d hc=>(h3 i x c d hc).app X⟩
 | .slice t,H,l,cs,⟨h0,p,cap,e,h1,h2⟩,X=>by
   refine ⟨h0,p,cap,e,h1,fun a g=>?_⟩;obtain ⟨k1,k2,k3,k4⟩:=h2 a g;refine ⟨k1,k2,k3,fun hl=>?_⟩;obtain ⟨es,f,j,k⟩:=k4 hl;exact ⟨es,by rw [NS (NM f)];exact f,j,fun i x e d he=>(k i x e d he).app X⟩
theorem Zd {k:Nat}:∀{es:List (List Value)},(∀e∈es,e.length=k)->es.flatten.length=es.length*k
 | [],_=>by simp
 | e::es,h=>by
   rw [List.flatten_cons,Nk,h e (by simp),Zd (fun x a=>h x (by simp [a])),Nm,Pw];omega
theorem Y2.len:∀{t:Ty} {H:NA} {x:t.den} {cs:List Value} (_:Y2 t H x cs),cs.length=t.size
 | .int _,_,_,_,h=>by rw [h.1];rfl
 | .bool,_,_,_,h=>by simp only [Y2] at h;rw [h];rfl
 | .str,_,_,_,h=>by rw [h.1];rfl
 | .nil,_,_,_,h=>by simp only [Y2] at h;rw [h];rfl
 | .pair a b,_,_,_,⟨c1,c2,e,h1,h2⟩=>by rw [e,Nk,h1.len,h2.len];rfl
 | .slice t,H,l,cs,⟨h0,p,cap,e,h1,h2⟩=>by rw [e];rfl
 | .arr n t,H,l,cs,⟨es,e,h1,h2,h3⟩=>by
   rw [e,Zd (k:=t.size),h1];· rfl
   intro c hc;obtain ⟨i,hi,rfl⟩:=List.mem_iff_getElem.1 hc;exact (h3 i _ _ (Ni (by omega)) (Ni hi)).len
section
variable {w:World} {Pg:Prg} {W:Nat->Prop} {lim:Nat}
variable {L:Loc} {σ:PO} {n:Nat} {cs:Nat->List Value}
def Mi (H:NA):Prop:=∀(i:Nat) b,H[i]? = some b->owned b=false
theorem Mi.snoc {H:NA} (h:Mi H) {b:Blk} (c:owned b=false):Mi (H++[b]):=by
 intro i x a;by_cases hi:i<H.length
 ·rw [Oa hi] at a;exact h i x a
 ·rw [Oi (by omega)] at a;have:=(List.getElem?_eq_some_iff.1 a).1;have e:i-H.length=0:=by simp at this;omega
  rw [e] at a;simp at a;subst a;exact c
def RJ (Pg:Prg) (W:Nat->Prop) (lim:Nat) (w:World) (t:Ty) (cs:List Value):Prop:=
 ∀σ H,Inv Pg W lim σ H w->Mi H->∃X a as x,Inv Pg W lim a (H++X) w/\Mi (H++X)/\PO.le σ a/\OV a as cs/\Y2 t (H++X) x as/\∀v∈cs,v.oneCell'=true
theorem RJ.atom1 {t:Ty} {v:Value} {x:t.den} (b:atom v=true) (ho:v.oneCell'=true) (hr:∀H,Y2 t H x [v]):RJ Pg W lim w t [v]:=fun σ H h hn=>
 ⟨[],σ,[v],x,by simpa using h,by simpa using hn,PO.le_refl _,OV.cons (.atom b) OV.nil,hr _,fun u a=>by simp at a;subst a;exact ho⟩
theorem RJ.int {k:IntKind} {n:Int} (h:(Lit.int k n).wf=true):RJ Pg W lim w (.int k) [.int k n]:=by
 refine RJ.atom1 (x:=n) rfl rfl fun H=>⟨rfl, ?_⟩
 simpa [Lit.wf] using h
theorem RJ.bool {b:Bool}:RJ Pg W lim w .bool [.bool b]:=RJ.atom1 (t:=.bool) (x:=b) rfl rfl fun H=>rfl
theorem RJ.str {s:ByteArray} (h:s.size<=maxLen):RJ Pg W lim w .str [.string s]:=RJ.atom1 (t:=.str) (x:=s) rfl rfl fun H=>⟨rfl,h⟩
theorem RJ.nil:RJ Pg W lim w .nil []:=fun σ H h hn=>⟨[],σ,[],(),by simpa using h,by simpa using hn,PO.le_refl _,OV.nil,rfl,fun u a=>by simp at a⟩
theorem RJ.pair {a b:Ty} {c1 c2:List Value} (h1:RJ Pg W lim w a c1) (h2:RJ Pg W lim w b c2):RJ Pg W lim w (.pair a b) (c1++c2):=by
 intro σ H h hn;obtain ⟨X,l,as,x,k1,c,k2,k3,k4,f⟩:=h1 σ H h hn;obtain ⟨Y,m,bs,y,g,d,e,i,j,k⟩:=h2 l _ k1 c;refine ⟨X++Y,m,as++bs,(x,y),by rw [<-No];exact g,by rw [<-No];exact d,PO.le_trans k2 e,OV.append (k3.mono e) i,⟨as,bs,rfl, ?_, ?_⟩,fun v hv=>?_⟩
 ·rw [<-No];exact k4.app Y
 ·rw [<-No];exact j
 ·rcases Ok.1 hv with hv | hv
  ·exact f v hv
  ·exact k v hv
def Neb (σ:PO) (n:Nat) (L:Loc):PO:=fun i=>if i=n then some L else σ i
theorem XR:Neb σ n L n=some L:=Nl rfl
theorem Nea {i:Nat} (h:i≠n):Neb σ n L i=σ i:=Ng h
theorem Inv.snoc {H:NA} (h:Inv Pg W lim σ H w) (hn:Mi H) (L:Loc) (b:Blk) (g:owned b=false) (hr:UV Pg (Neb σ H.length L) w L b) :
  Inv Pg W lim (Neb σ H.length L) (H++[b]) w/\PO.le σ (Neb σ H.length L):=by
 have c:PO.le σ (Neb σ H.length L):=by
  intro i K hi;have:=h.lt hi;rw [Nea (by omega)];exact hi
 have d:=hn.snoc g;refine ⟨⟨?_,fun i j bi bj Li Lj hi l k ho=>?_,fun i x K a ho=>?_,h.fresh,fun i hi=>?_⟩,c⟩
 ·intro i x a f;by_cases hi:i<H.length
  ·rw [Oa hi] at a;obtain ⟨K,h1,h2⟩:=h.blk i x a f;exact ⟨K,c i K h1,h2.mono c fun _=>rfl⟩
  ·rw [Oi (by omega)] at a;have:=(List.getElem?_eq_some_iff.1 a).1;have e:i=H.length:=by simp at this;omega
   subst e;rw [Qq] at a;simp at a;subst a;exact ⟨L,XR,hr⟩
 ·rw [d i bi hi] at ho;cases ho
 ·rw [d i x a] at ho;cases ho
 ·simp at hi;rw [Nea (by omega)];exact h.dom i (by omega)
theorem Nch {t:Ty} (b:∀i,i<n->RJ Pg W lim w t (cs i)) {H:NA} (h:Inv Pg W lim σ H w) (hn:Mi H) :
  ∃X d,∃es:List (List Value),∃xs:List t.den,Inv Pg W lim d (H++X) w/\Mi (H++X)/\PO.le σ d/\es.length=n/\xs.length=n/\
   ∀(i:Nat) x e,xs[i]? = some x->es[i]? = some e->Y2 t (H++X) x e/\OV d e (cs i)/\∀v∈cs i,v.oneCell'=true:=by
 induction n with
 | zero=>exact ⟨[],σ,[],[],by simpa using h,by simpa using hn,PO.le_refl _,rfl,rfl,fun i x e j=>by simp at j⟩
 | succ n ih=>
   obtain ⟨X,z,es,xs,k1,k2,k3,k4,f,k⟩:=ih fun i hi=>b i (by omega)
   obtain ⟨Y,A,as,x,l,m,g,o,p,q⟩:=b n (by omega) z _ k1 k2;refine ⟨X++Y,A,es++[as],xs++[x],by rw [<-No];exact l,by rw [<-No];exact m,PO.le_trans k3 g,by simp [k4],by simp [f],fun i y e a he=>?_⟩;rw [<-No];by_cases hi:i<n
   ·rw [Oa (by omega)] at a he;obtain ⟨r,s,u⟩:=k i y e a he;exact ⟨r.app Y,s.mono g,u⟩
   ·have c:i=n:=by
     have:=(List.getElem?_eq_some_iff.1 a).1;simp at this;omega
    subst c;rw [Oi (by omega),f] at a;rw [Oi (by omega),k4] at he;simp at a he;subst a he;exact ⟨p,o,q⟩
theorem M8 {e:Nat}:∀(es:List (List Value)),(∀x∈es,x.length=e)->∀(j:Nat) v,es.flatten[j]? = some v->∃x,es[j / e]? = some x/\x[j % e]? = some v
 | [],_,j,v,h=>by simp at h
 | x::es,he,j,v,h=>by
   have c:=he x (by simp);rw [List.flatten_cons] at h;by_cases a:j<x.length
   ·rw [Oa a] at h;rw [c] at a;rw [Nat.div_eq_of_lt a,Nat.mod_eq_of_lt a];exact ⟨x,rfl,h⟩
   ·rw [Oi (by omega),c] at h;rw [c] at a;obtain ⟨y,h1,h2⟩:=M8 es (fun z d=>he z (by simp [d])) _ _ h;have b:0<e:=by
     rcases Qu e with h0 | h0
     ·subst h0;have d:y.length=0:=he y (by have:=Oh h1;simp [this]);rw [List.length_eq_zero_iff.1 d] at h2;simp at h2
     ·exact h0
    have e1:j / e=(j-e) / e+1:=by rw [<-Nat.add_div_right _ b];congr 1;omega
    have e2:j % e=(j-e) % e:=by rw [Nat.mod_eq_sub_mod (by omega)]
    rw [e1,e2];exact ⟨y,by simpa using h1,h2⟩
theorem RJ.arr {t:Ty} {cs:List Value} (hl:cs.length=n*t.size) (m:∀i,i<n->RJ Pg W lim w t ((cs.drop (i*t.size)).take t.size)):RJ Pg W lim w (.arr n t) cs:=by
 intro σ H h hn;obtain ⟨X,s,es,xs,k1,k2,k3,k4,r,k⟩:=Nch (n:=n) (cs:=fun i=>(cs.drop (i*t.size)).take t.size) m h hn;have f:∀e∈es,e.length=t.size:=by
  intro e he;obtain ⟨i,hi,rfl⟩:=List.mem_iff_getElem.1 he;exact (k i _ _ (Ni (by omega)) (Ni hi)).1.len
 have d:∀(j:Nat) v,cs[j]? = some v->j / t.size<n/\j % t.size<t.size/\((cs.drop (j / t.size*t.size)).take t.size)[j % t.size]? = some v:=by
  intro j v g;have c:j<n*t.size:=by rw [<-hl];exact (List.getElem?_eq_some_iff.1 g).1
  have b:0<t.size:=by
   rcases Qu t.size with h0 | h0
   ·rw [h0] at c;simp at c
   ·exact h0
  have hm:=P6 j b;refine ⟨(Nat.div_lt_iff_lt_mul b).2 c,hm, ?_⟩;rw [Qc,Nl hm,Q0,Nat.div_add_mod' j t.size];exact g
 refine ⟨X,s,es.flatten,xs,k1,k2,k3,⟨by rw [Zd f,k4,hl],fun j a v p o=>?_⟩,⟨es,rfl,k4,r,fun i x e q he=>(k i x e q he).1⟩,fun v o=>?_⟩
 ·obtain ⟨h1,h2,l⟩:=d j v o;obtain ⟨e,e1,e2⟩:=M8 es f j a p;exact (k _ _ e (Ni (by omega)) e1).2.1.2 _ _ _ e2 l
 ·obtain ⟨j,g⟩:=List.mem_iff_getElem?.1 o;obtain ⟨h1,h2,l⟩:=d j v g;exact (k (j / t.size) _ _ (Ni (by omega)) (Ni (by omega))).2.2 v (Oh l)
theorem RJ.nilslice {t:Ty}:RJ Pg W lim w (.slice t) [.slice none 0 0]:=by
 refine RJ.atom1 (t:=.slice t) (x:=([]:List t.den)) rfl rfl fun H=>⟨Np _,none,0,rfl,fun _=>⟨rfl,rfl⟩,fun a b=>by cases b⟩
theorem RJ.slice {t:Ty} {a:Addr} {len cap:Nat} (hl:len<=cap) (hc:cap<=maxLen) (O:t.size≠0)
  (g:∀i,i<cap->w.cells? 0 (a.add (i*t.size)) t.size=some (cs i)/\RJ Pg W lim w t (cs i)):RJ Pg W lim w (.slice t) [.slice (some a) len cap]:=by
 intro σ H h hn;by_cases N:len=0
 ·subst N;obtain ⟨E,F⟩:=h.snoc hn ⟨a.block,a.off,cap*t.size⟩ .dead rfl trivial;refine ⟨[.dead],_,[.slice (some ⟨H.length,0,none⟩) 0 (loose t.size)],[],E,hn.snoc rfl,F,OV.cons ?_ OV.nil,⟨Np _,some ⟨H.length,0,none⟩,loose t.size,rfl,fun h=>(by cases h),fun b A=>?_⟩,fun v m=>by simp at m;subst m;rfl⟩
  ·by_cases y:cap=0
   ·subst y;exact .eslice XR (.inr ⟨_,rfl⟩)
   ·have d:a.spot=none:=by
     obtain ⟨h1,h2⟩:=g 0 (by omega);obtain ⟨_,G,q⟩:=World.cells?_some h1;have h5:=q 0 (by omega);rw [Ni (by omega)] at h5;have:=World.cell?_spot h5;simpa [Addr.add] using this
    obtain ⟨b,o,s⟩:=a;simp only at d;subst d;exact .lslice (L:=⟨b,o,cap*t.size⟩) (k:=0) XR hl (by simp)
  ·cases A;exact ⟨rfl,rfl,rfl,fun h=>absurd rfl h⟩
 ·obtain ⟨X,S,es,xs,k1,k2,k3,k4,J,D⟩:=Nch (n:=len) (cs:=cs) (fun i hi=>(g i (by omega)).2) h hn;have d:a.spot=none:=by
   obtain ⟨h1,h2⟩:=g 0 (by omega);obtain ⟨_,G,q⟩:=World.cells?_some h1;have h5:=q 0 (by omega);rw [Ni (by omega)] at h5;have:=World.cell?_spot h5;simpa [Addr.add] using this
  have f:∀i,i<len->∀j,j<t.size->∃v,(cs i)[j]? = some v/\w.cell? ⟨a.block,a.off+(i*t.size+j),none⟩=some v:=by
   intro i hi j C;obtain ⟨_,G,q⟩:=World.cells?_some (g i (by omega)).1;have h5:=q j C;have I:(cs i)[j]? = some ((cs i)[j]'(by omega)):=Ni _;rw [I,Go.Deep.add_add] at h5;refine ⟨_,I, ?_⟩;rw [<-h5];congr 1;obtain ⟨b,o,s⟩:=a;simp only at d;subst d;exact (addr_add (b:=b) (o:=o)).symm
  obtain ⟨U,_,p⟩:=f 0 (by omega) 0 (by omega);have l:∃cells el fz,w.heap[a.block]? = some (.cells cells el fz):=by
   unfold World.cell? at p;split at p
   ·rename_i c el fz z;exact ⟨c,el,fz,z⟩
   ·cases p
  obtain ⟨cells,el,fz,z⟩:=l;have B:∀e∈es,e.length=t.size:=by
   intro e he;obtain ⟨i,hi,rfl⟩:=List.mem_iff_getElem.1 he;exact (D i _ _ (Ni (by omega)) (Ni hi)).1.len
  have r:UV Pg (Neb S (H++X).length ⟨a.block,a.off,cap*t.size⟩) w ⟨a.block,a.off,cap*t.size⟩ (.cells true es.flatten):=by
   refine ⟨cells,el,fz,z,fun j v m=>?_,fun h=>by cases h⟩;obtain ⟨e,h1,h2⟩:=M8 es B j v m;have hi:j / t.size<len:=by have:=(List.getElem?_eq_some_iff.1 h1).1;omega
   have C:j % t.size<t.size:=P6 _ (by omega);obtain ⟨T,Q,R⟩:=D _ _ e (Ni (by omega)) h1;obtain ⟨u,M,r2⟩:=f _ hi _ C;refine ⟨u, ?_,(Q.2 _ _ _ h2 M).mono ?_,R u (Oh M)⟩
   ·rw [Nat.div_add_mod' j t.size] at r2;simpa [World.cell?,z] using r2
   ·intro i K hi;have:=k1.lt hi;rw [Nea (by omega)];exact hi
  obtain ⟨E,F⟩:=k1.snoc k2 _ _ rfl r;refine ⟨X++[.cells true es.flatten],_,[.slice (some ⟨(H++X).length,0,none⟩) len (loose t.size)],xs,by rw [<-No];exact E,by rw [<-No];exact k2.snoc rfl,PO.le_trans k3 F,OV.cons ?_ OV.nil, ?_,fun v m=>by simp at m;subst m;rfl⟩
  ·obtain ⟨b,o,s⟩:=a;simp only at d;subst d;exact .lslice (L:=⟨b,o,cap*t.size⟩) (k:=0) XR hl (by simp)
  ·refine ⟨by rw [J];omega,some ⟨(H++X).length,0,none⟩,loose t.size,by rw [J],(fun h=>(by cases h)),fun b A=>?_⟩;cases A;refine ⟨rfl,rfl,rfl,fun _=>⟨es, ?_,by omega,fun i x e P he=>?_⟩⟩
   ·rw [<-No];exact NN
   ·rw [<-No];exact (D i x e P he).1.app _
section
variable (P:Program)
def V8 (f:TypeId->Option Ty):List Field->Nat->Option Ty
 | [],_=>some .nil
 | fd::fs,off=>if fd.offset=off then match f fd.type with
   | some ty=>if ty.size=P.cellsOf fd.type then match V8 f fs (off+ty.size) with
     | some r=>some (.pair ty r)
     | none=>none
     else none
   | none=>none
   else none
def Na7:Nat->TypeId->Option Ty
 | 0,_=>none
 | n+1,t=>match P.underlying t with
   | some .bool=>some .bool
   | some (.int k)=>some (.int k)
   | some .string=>some .str
   | some (.slice e)=>match Na7 n e with
     | some ty=>if ty.size=P.cellsOf e/\ty.size≠0 then some (.slice ty) else none
     | none=>none
   | some (.array k e)=>match Na7 n e with
     | some ty=>if ty.size=P.cellsOf e/\k*ty.size=P.cellsOf t then some (.arr k ty) else none
     | none=>none
   | some (.struct fs)=>match V8 P (Na7 n) fs.toList 0 with
     | some ty=>if ty.size=P.cellsOf t then some ty else none
     | none=>none
   | _=>none
end
variable {P:Program} {H:Type} {enc:TypeId×Value->H} {held:Bool}
theorem Nad {n m:Nat} {cs:List Value} (ih:∀t ty cs x,Na7 P n t=some ty->DataW.trod enc P w 0 (fun _=>true) held m t cs=some x->RJ Pg W lim w ty cs) :
  ∀(a:List Field) (off:Nat) (xs:List (DataW H×List MemPlace)) (ty:Ty),V8 P (Na7 P n) a off=some ty->off+ty.size=cs.length->(∀(i:Nat) f,a[i]? = some f->DataW.trod enc P w 0 (fun _=>true) held m f.type ((cs.drop f.offset).take (P.cellsOf f.type))=xs[i]?)->xs.length=a.length->RJ Pg W lim w ty (cs.drop off)
 | [],off,xs,ty,ht,hl,hx,hxl=>by
   simp only [V8,Option.some.injEq] at ht;subst ht;rw [P8 (by simp [Ty.size] at hl;omega)];exact RJ.nil
 | fd::a,off,xs,ty,ht,hl,hx,hxl=>by
   simp only [V8] at ht;split at ht
   case isFalse=>cases ht
   rename_i ho;split at ht
   case h_2=>cases ht
   rename_i b h1;split at ht
   case isFalse=>cases ht
   rename_i hs;split at ht
   case h_2=>cases ht
   rename_i r hr;cases ht;simp only [Ty.size] at hl
   match xs,hxl with
   | x0::xs,hxl=>
     have h2:=hx 0 fd rfl;simp only [Oq] at h2;have c:=ih _ _ _ _ h1 h2;have d:=Nad (cs:=cs) ih a (off+b.size) xs r hr (by omega) (fun i f e=>by simpa using hx (i+1) f (by simpa using e)) (by simpa using hxl);rw [ho,<-hs] at c;have:=RJ.pair c d;rw [<-List.drop_drop,Pv] at this;exact this
theorem XU:∀(n m:Nat) {t:TypeId} {ty:Ty} {cs:List Value} {x:DataW H×List MemPlace},Na7 P n t=some ty->DataW.trod enc P w 0 (fun _=>true) held m t cs=some x->RJ Pg W lim w ty cs
 | 0,_,t,ty,cs,x,ht,_=>by simp [Na7] at ht
 | n+1,m,t,ty,cs,x,ht,h=>by
   simp only [Na7] at ht;split at ht
   ·rename_i c;cases ht;obtain ⟨b,rfl,_⟩:=DataW.trod_bool c h;exact RJ.bool
   ·rename_i k c;cases ht;obtain ⟨b,rfl,_,u⟩:=DataW.trod_int c h;exact RJ.int u
   ·rename_i c;cases ht;obtain ⟨b,rfl,_,u⟩:=DataW.trod_string c h;exact RJ.str u
   ·rename_i e c;split at ht
    case h_2=>cases ht
    rename_i d he;split at ht
    case isFalse=>cases ht
    rename_i hs;cases ht;rcases Go.Deep.open_slice c h with ⟨rfl,_⟩ | ⟨a,len,cap,v,q,D,Pl,rfl,z,hl,hm,o,A,hi⟩
    ·exact RJ.nilslice
    ·simp only [if_true] at o;subst o;have j:∀i,∃cs',i<v->w.cells? 0 (a.add (i*d.size)) d.size=some cs'/\RJ Pg W lim w d cs':=by
      intro i;by_cases l:i<v
      ·obtain ⟨cs',h1,h2⟩:=hi i l;exact ⟨cs',fun _=>⟨by rw [hs.1];exact h1,XU n q he h2⟩⟩
      ·exact ⟨[],fun h=>absurd h l⟩
     exact RJ.slice (cs:=fun i=>Classical.choose (j i)) hl hm hs.2 fun i hi=>Classical.choose_spec (j i) hi
   ·rename_i k e c;split at ht
    case h_2=>cases ht
    rename_i d he;split at ht
    case isFalse=>cases ht
    rename_i hs;cases ht;obtain ⟨xs,q,_,_,g,p,r⟩:=DataW.trod_array c h;refine RJ.arr (by rw [g,hs.2]) fun i hi=>?_
    have h1:=r i hi;rw [Ni (by omega)] at h1;rw [hs.1];exact XU n q he h1
   ·rename_i y c;split at ht
    case h_2=>cases ht
    rename_i d he;split at ht
    case isFalse=>cases ht
    rename_i hs;cases ht;obtain ⟨xs,q,_,_,g,p,r⟩:=DataW.trod_struct c h;have:=Nad (cs:=cs) (fun t ty cs x h1 h2=>XU n q h1 h2) y.toList 0 xs ty he (by omega) (fun i f s=>r i f (by simpa using s)) (by simpa using p);simpa using this
   ·cases ht
end
def isRow:Ty->Bool
 | .nil=>true
 | .pair _ _=>true
 | .arr _ _=>true
 | _=>false
def We (t:Ty) (H:NA) (x:t.den) (v:Value):Prop:=if isRow t=true then ∃as,v=.agg as.toArray/\Y2 t H x as else Y2 t H x [v]
abbrev Oar:List Ty->Type
 | []=>Unit
 | t::ts=>t.den×Oar ts
def Nkx:(a:List Ty)->NA->Oar a->List Value->Prop
 | [],_,_,vs=>vs=[]
 | t::a,H,x,vs=>∃v r,vs=v::r/\We t H x.1 v/\Nkx a H x.2 r
theorem We.app {t:Ty} {x:t.den} (h:We t H x v) (X:NA):We t (H++X) x v:=by
 unfold We at *;split
 ·rename_i hr;rw [Nl hr] at h;obtain ⟨as,e,k⟩:=h;exact ⟨as,e,k.app X⟩
 ·rename_i hr;rw [Ng hr] at h;exact h.app X
section
variable {P:Program} {H:Type} {enc:TypeId×Value->H} {w:World} {Pg:Prg} {W:Nat->Prop} {lim:Nat}
variable {f:TypeId->Option Ty}
theorem Ni8:∀{a:List Field} {off:Nat} {ty:Ty},V8 P f a off=some ty->isRow ty=true
 | [],off,ty,h=>by simp only [V8,Option.some.injEq] at h;subst h;rfl
 | fd::a,off,ty,h=>by
   simp only [V8] at h;split at h
   ·split at h
    ·split at h
     ·split at h
      ·cases h;rfl
      ·cases h
     ·cases h
    ·cases h
   ·cases h
theorem Nw8 {n:Nat} {t:TypeId} {ty:Ty} {v:Value} {r:Reach} {base:Nat} (d:Na7 P n t=some ty) (g:Value.okWide P w r base t v):if isRow ty=true then ∃cs,v=.agg cs else v.cells.toList=[v]:=by
 cases n with
 | zero=>simp [Na7] at d
 | succ n=>
   simp only [Na7] at d;split at d
   ·rename_i f;cases d;obtain ⟨b,rfl⟩:=okWide_bool f g;rfl
   ·rename_i k f;cases d;obtain ⟨b,rfl⟩:=okWide_int f g;rfl
   ·rename_i f;cases d;obtain ⟨b,rfl⟩:=okWide_string f g;rfl
   ·rename_i e f;split at d
    case h_2=>cases d
    split at d
    case isFalse=>cases d
    cases d;obtain ⟨a,l,c,rfl⟩:=okWide_slice f g;rfl
   ·rename_i k e f;split at d
    case h_2=>cases d
    rename_i i he;split at d
    case isFalse=>cases d
    cases d;have h:=g;simp only [Value.okWide,f] at h;obtain ⟨cs,rfl,_⟩:=h;exact ⟨cs,rfl⟩
   ·rename_i j f;split at d
    case h_2=>cases d
    rename_i i he;split at d
    case isFalse=>cases d
    cases d;obtain ⟨cs,rfl,_⟩:=okWide_struct f g;rw [Nl (Ni8 he)];exact ⟨cs,rfl⟩
   ·cases d
theorem Nev {n:Nat} {r:Reach} {base:Nat}:∀{g:List TypeId} {vs:List Value} {ds:List (DataW H)} {ps:List MemPlace} {tys:List Ty},DataW.TrodAll enc P w 0 (fun _=>true) true g vs ds ps->g.mapM (Na7 P n)=some tys->
  (∀(j:Nat) t v,g[j]? = some t->vs[j]? = some v->Value.okWide P w r base t v)->∀σ H,Inv Pg W lim σ H w->Mi H->
  ∃X i as x,Inv Pg W lim i (H++X) w/\Mi (H++X)/\PO.le σ i/\OV i as vs/\Nkx tys (H++X) x as
 | [],[],[],ps,tys,_,b,_,σ,Hp,hi,hn=>by
   simp at b;subst b;exact ⟨[],σ,[],(),by simpa using hi,by simpa using hn,PO.le_refl _,OV.nil,rfl⟩
 | t::g,v::vs,d::ds,ps,tys,hA,b,hv,σ,Hp,hi,hn=>by
   obtain ⟨p,q,h1,h2,rfl⟩:=hA;rw [List.mapM_cons] at b;obtain ⟨ty,e,b⟩:=OM b;obtain ⟨tr,h,b⟩:=OM b;cases b;obtain ⟨m,hm⟩:=h1;have hc:=Nw8 e (hv 0 t v rfl rfl);obtain ⟨X,l,as,x,k1,k2,k3,k4,f,o⟩:=XU n m e hm σ Hp hi hn;obtain ⟨Y,D,bs,y,s,u,k,z,A⟩:=Nev h2 h (fun j t' v' e1 e2=>hv (j+1) t' v' (by simpa using e1) (by simpa using e2)) l _ k1 k2;have key:∃c,VRel l c v/\We ty (Hp++X) x c:=by
    split at hc
    ·rename_i hr;obtain ⟨cs,rfl⟩:=hc;refine ⟨.agg as.toArray,VRel.agg_iff.2 ⟨by simpa [Value.cells] using k4,by simpa [Value.cells] using o⟩, ?_⟩;unfold We;rw [Nl hr];exact ⟨as,rfl,f⟩
    ·rename_i hr;rw [hc] at k4;have hl:=k4.1
     match as,hl,k4,f with
     | [a],_,k4,f=>
       refine ⟨a,k4.head, ?_⟩;unfold We;rw [Ng hr];exact f
   obtain ⟨c,B,C⟩:=key;refine ⟨X++Y,D,c::bs,(x,y),by rw [<-No];exact s,by rw [<-No];exact u,PO.le_trans k3 k,OV.cons (B.mono k) z,c,bs,rfl, ?_, ?_⟩
   ·rw [<-No];exact C.app Y
   ·rw [<-No];exact A
 | [],[],_::_,_,_,hA,_,_,_,_,_,_=>hA.elim
 | [],_::_,_,_,_,hA,_,_,_,_,_,_=>hA.elim
 | _::_,[],_,_,_,hA,_,_,_,_,_,_=>hA.elim
 | _::_,_::_,[],_,_,hA,_,_,_,_,_,_=>hA.elim
theorem ZR (hl:laidOutB P=true) {w':World} (f:Below w.heap.size w w'):∀{a:List TypeId} {vs:List Value} {ds:List (DataW H)} {ps:List MemPlace},(∀t∈a,P.readableRec t=true/\t<P.types.size)->DataW.TrodAll enc P w 0 (fun _=>true) true a vs ds ps->
  (∀x∈ps,x.block<w.heap.size)->DataW.TrodAll enc P w' 0 (fun b=>decide (b<w.heap.size)) true a vs ds ps
 | [],[],[],ps,_,h,_=>h
 | t::a,v::vs,d::ds,ps,hr,h,hlt=>by
   obtain ⟨p,q,h1,h2,rfl⟩:=h;exact ⟨p,q,Below.trod hl (hr t (by simp)).1 (hr t (by simp)).2 h1 f fun x e=>hlt x (by simp [e]),ZR hl f (fun t' c=>hr t' (by simp [c])) h2 fun x e=>hlt x (by simp [e]),rfl⟩
 | [],[],_::_,_,_,hA,_=>hA.elim
 | [],_::_,_,_,_,hA,_=>hA.elim
 | _::_,[],_,_,_,hA,_=>hA.elim
 | _::_,_::_,[],_,_,hA,_=>hA.elim
theorem trodAll_length:∀{a:List TypeId} {vs:List Value} {ds:List (DataW H)} {ps:List MemPlace},DataW.TrodAll enc P w 0 (fun _=>true) true a vs ds ps->ds.length=a.length
 | [],[],[],ps,_=>rfl
 | t::a,v::vs,d::ds,ps,h=>by
   obtain ⟨p,q,h1,h2,rfl⟩:=h;simp [trodAll_length h2]
 | [],[],_::_,_,hA=>hA.elim
 | [],_::_,_,_,hA=>hA.elim
 | _::_,[],_,_,hA=>hA.elim
 | _::_,_::_,[],_,hA=>hA.elim
end
theorem Nm9 {C:Checked} {os:Os} {g:FuncId} {fn:Func} {s:ChangeSpec} {E:Env} {tys:List Ty} {Y:TypeId} {a:List PathCond} {H:Type} {enc:TypeId×Value->H}
  (own:ownKnob C.prog.godebug=none) (l:os.Started) (m:C.prog.inits.idxOf? g=none) (M:C.prog.funcs[g]? = some fn) (f:s.vars=[])
  (z:∀ds:List (DataW H),ds.length=fn.params.size->s.fn H ds={ results:=[.lit (.bool true)],args:=ds })
  (D:fn.resultTypes=#[Y]) (B:C.prog.underlying Y=some .bool) (G:fn.params.toList.mapM (Na7 C.prog 9)=some tys)
  (y:∀t∈fn.params.toList,C.prog.readableRec t=true/\t<C.prog.types.size) (u:laidOutB C.prog=true) (Z:EnvOk C.prog E)
  (witness:∃(w:World) (tape:Tape) (i:Input),w.os=os/\(w.forCall tape i).Shaped C.prog/\i.vars=[]/\Input.okWide C.prog (w.forCall tape i) .any w.heap.size g i/\
   s.pre6 enc C.prog fn a false (w.forCall tape i).memory i.args/\({}:Assume).holds C.prog (lone (Frame.enter C.prog g i.args .normal) [] (w.forCall tape i)))
  (run:∀H vs x,Nkx tys H x vs->NQ E false H.length g vs H fun v _=>v=.bool true) :
  ReturnsInHanded {} C os g .any (s.pre6 enc C.prog fn a false) (s.post enc C.prog fn false true false false):=by
 refine returnsInHanded_of_change own l m M witness ?_;intro w base args ds gs before I S T J;have A:=S;obtain ⟨p,q,K,R,rfl,aa,ab⟩:=S;rw [f] at R;obtain ⟨rfl,rfl⟩:=trodVars_none R;obtain ⟨X,σ,as,x,k1,k2,k3,k4,W⟩:=Nev K G (fun j t v h1 h2=>I j t v (by simpa using h1) (by simpa using h2)) (fun _=>none) [] (Inv.nil (P:=C.prog) (E:=E) w) (fun i b B=>by simp at B);rw [Og] at k1 k2 W;have Q:Inv (Prg.mk C.prog E.pure) (fun k=>w.heap.size<=k) X.length σ X w:=⟨k1.blk,k1.inj,(fun i b L B ho=>by rw [k2 i b B] at ho;cases ho),k1.fresh,k1.dom⟩
 obtain ⟨n,LL,O,F⟩:=run X as x W;have c:=(ZL Z n).calls _ _ _ _ _ _ O (Nf _) _ _ _ _ Q k4;rw [show args.toList.toArray=args by simp] at c;refine c.mono fun e w' hp=>?_
 obtain ⟨r,hr,v',σ',rfl,V,U,d,_⟩:=hp;rw [F.2 r hr] at V;rw [V.bool_left];have o:Below w.heap.size w w':=⟨d.os,d.tape,d.output.1,d.size,fun k hk=>d.block k (by omega)⟩
 have N:∀x∈p,x.block<w.heap.size:=fun x O=>by
  have:=A.lt x (by simpa using O);simpa using this
 have hs:=z ds (by simpa using trodAll_length K);refine ⟨_,rfl,_,_,_,[],p,[],A, ?_, ?_, ?_,o.frame _,fun h=>by cases h⟩
 ·rw [Na,hs,D];exact trodAll_mk1 (shut_bool B true)
 ·rw [Na,hs];exact ZR u o y K N
 ·rw [Na,hs,f];rfl
theorem Y2.sl {t:Ty} {l:List t.den} {α:Type} (f:t.den->α) (enc:α->List Value) (he:∀H x c,Y2 t H x c->c=enc (f x)) (h:Y2 (.slice t) H l cs) :
  ∃p cap,cs=[.slice p (l.map f).length cap]/\Sl H enc t.size p (l.map f)/\l.length<2 ^ 63:=by
 obtain ⟨k,p,cap,e,h1,h2⟩:=h;have d:l.length<2 ^ 63:=by unfold maxLen at k;omega
 refine ⟨p,cap,by rw [e,Nz], ?_,d⟩;cases p with
 | none=>simp only [Sl];rw [(h1 rfl).1];rfl
 | some a=>
   obtain ⟨k1,k2,k3,k4⟩:=h2 a rfl;refine ⟨k1,fun hn=>?_⟩;obtain ⟨es,q,g,j⟩:=k4 (by rintro rfl;exact hn rfl);have key:es.flatten=(l.map f).flatMap enc:=by
    have:es=l.map fun x=>enc (f x):=by
     apply Pr (by simpa using g);intro i r o;have s:i<l.length:=by simpa using o
     have:=he _ _ _ (j i l[i] es[i] (Ni _) (Ni _));rw [this];simp
    rw [this,List.flatMap_def,List.map_map];rfl
   have b:es.flatten.length=l.length*t.size:=by
    have:∀(es:List (List Value)),(∀x∈es,x.length=t.size)->es.flatten.length=es.length*t.size:=by
     intro es
     induction es with
     | nil=>simp
     | cons x es ih=>intro h;simp [ih fun y n=>h y (by simp [n]),h x (by simp),P4,Ro]
    rw [this es,g];intro x m;obtain ⟨i,hi,rfl⟩:=List.mem_iff_getElem.1 m;exact (j i _ _ (Ni (by omega)) (Ni hi)).len
   refine ⟨true,_,q, ?_, ?_⟩
   ·rw [k2,b,Nz];omega
   ·rw [k2,On,key,Oc];rw [<-key,b,Nz];exact Nf _
theorem Y2.slice_mem {t:Ty} {l:List t.den} (h:Y2 (.slice t) H l cs):∀x∈l,∃c,Y2 t H x c:=by
 intro x b;obtain ⟨f,p,cap,e,h1,h2⟩:=h;cases p with
 | none=>rw [(h1 rfl).1] at b;simp at b
 | some a=>
   obtain ⟨k1,k2,k3,k4⟩:=h2 a rfl;obtain ⟨es,g,j,d⟩:=k4 (by rintro rfl;simp at b);obtain ⟨i,hi,rfl⟩:=List.mem_iff_getElem.1 b;exact ⟨_,d i _ _ (Ni hi) (Ni (by omega))⟩
theorem Y2.nil_of {x:Ty.nil.den} (h:Y2 .nil H x cs):cs=[]:=h
theorem We.row {t:Ty} {x:t.den} (hr:isRow t=true) (h:We t H x v):∃cs,v=.agg cs.toArray/\Y2 t H x cs:=by
 unfold We at h;rw [Nl hr] at h;exact h
theorem We.one {t:Ty} {x:t.den} (hr:isRow t=false) (h:We t H x v):Y2 t H x [v]:=by
 unfold We at h;rw [Ng (by rw [hr];decide)] at h;exact h
end Go.AM



namespace Go.AM
variable {a:Addr} {vlo vhi:Option Value} {x:Value} {H G:NA} {lim' b e R bytes c cap lo hi:Nat} {α:Type} {enc:α->List Value} {m l:List α}
structure Chg (A:List Nat) (H H':NA):Prop where
 len:H.length<=H'.length
 other:∀j,j<H.length->j∉A->NE H' j=NE H j
section
variable {A B:List Nat} {H H' K:NA}
variable {R j:Nat} {b:Blk}
theorem Chg.refl:Chg A H H:=⟨Nf _,fun _ _ _=>rfl⟩
theorem Chg.trans (h:Chg A H H') (k:Chg A H' K):Chg A H K:=⟨Pt h.len k.len,fun j b a=>(k.other j (by have:=h.len;omega) a).trans (h.other j b a)⟩
theorem Chg.trans' (h:Chg A H H') (k:Chg B H' K) (hB:∀j,j∈B->j<H.length->j∈A):Chg A H K:=⟨Pt h.len k.len,fun j b a=>(k.other j (by have:=h.len;omega) fun c=>a (hB j c b)).trans (h.other j b a)⟩
theorem Chg.mono (h:Chg A H H') (hs:∀j,j<H.length->j∈A->j∈B):Chg B H H':=⟨h.len,fun j a hB=>h.other j a fun b=>hB (hs j a b)⟩
theorem Chg.app (h:Chg A H H') {X:NA}:Chg A H (H'++X):=⟨by have:=h.len;simp;omega,fun j b a=>by rw [NS (by have:=h.len;omega)];exact h.other j b a⟩
theorem Chg.pre (h:Chg A (H++K) H'):Chg A H H':=⟨by have:=h.len;simp at this;omega,fun j b a=>by rw [h.other j (by simp;omega) a,NS b]⟩
theorem Chg.mut (h:Chg A H H') (m:Mut H' K R) (b:R∈A\/H.length<=R):Chg A H K:=⟨by rw [m.len];exact h.len,fun j c a=>by
 rw [m.other j (by rintro rfl;rcases b with h1 | h1;exact a h1;omega)];exact h.other j c a⟩
theorem Chg.set (h:Chg A H H') (a:R∈A\/H.length<=R):Chg A H (H'.set R b):=h.mut (R:=R) ⟨by simp,fun j c=>QC c⟩ a
theorem Chg.get (h:Chg A H H') (c:NE H j=b) (hl:j<H.length) (a:j∉A):NE H' j=b:=by rw [h.other j hl a];exact c
theorem Chg.cells (h:Chg A H H') {ro:Bool} {c:List Value} (a:NE H j=.cells ro c) (b:j∉A):NE H' j=.cells ro c:=h.get a (NM a) b
theorem Chg.sl {α:Type} {enc:α->List Value} {e:Nat} {p:Option Addr} {l:List α} (h:Chg A H H') (hs:Sl H enc e p l) (hp:∀a,p=some a->l≠[]->a.block∉A):Sl H' enc e p l:=by
 cases p with
 | none=>exact hs
 | some a=>
   refine ⟨hs.1,fun hn=>?_⟩;obtain ⟨ro,c,h2,b⟩:=hs.2 hn;exact ⟨ro,c,h.cells h2 (hp a rfl hn),b⟩
theorem OD.chg (h:OD H H'):Chg A H H':=by obtain ⟨X,rfl⟩:=h;exact Chg.refl.app
theorem Chg.ext (h:Chg [] H H'):OD H H':=by
 refine ⟨H'.drop H.length, ?_⟩;apply Pr
 ·have:=h.len;simp;omega
 intro i h1 h2;by_cases hi:i<H.length
 ·rw [Q9 hi];have:=h.other i hi (by simp);unfold NE at this;rw [Nb,Nb,Ni h1,Ni hi] at this;exact this
 ·rw [Rr (by omega),Q8];congr 1;omega
end
theorem Sl.lt (h:Sl H enc e (some a) l) (hn:l≠[]):a.block<H.length:=by
 obtain ⟨ro,c,h2,_⟩:=h.2 hn;exact NM h2
theorem Sl.some {p:Option Addr} (h:Sl H enc e p l) (hn:l≠[]):∃a,p=some a:=by
 cases p with
 | none=>exact absurd h hn
 | some a=>exact ⟨a,rfl⟩
section
variable {α:Type} [Inhabited α] {H:NA} {enc:α->List Value} {e:Nat} {p:Option Addr} {l:List α}
theorem Sl.loadSub (h:Sl H enc e p l) (he:∀x,(enc x).length=e) {i j n:Nat} (hi:i<l.length) (m:j+n<=e):AM.loadCells H ((Vs p e i).add j) n=Option.some (((enc (gt l i)).drop j).take n):=by
 have d:=h.loadCells he hi;cases p with
 | none=>simp only [Sl] at h;subst h;simp at hi
 | some a=>
   obtain ⟨b,o,s⟩:=a;obtain ⟨ro,c,h2,g,f⟩:=h.2 (by rintro rfl;simp at hi);have h1:=h.1;simp only at h1 h2 f g;subst h1;have k:i*e+e<=l.length*e:=by
    have:=Ph e (Qy hi);rw [Pw] at this;exact this
   simp only [Vs,addrOf,Pj,addr_add,AM.loadCells,h2] at d⊢;split at d
   ·simp only [Option.some.injEq] at d;rw [Nl (by omega),<-d,List.drop_take,Rd,List.drop_drop,P1 (by omega),Pq]
   ·cases d
omit [Inhabited α] in
theorem Nt3 {lim S:Nat} (he:∀x,(enc x).length=e) (hp:p=Option.some ⟨S,0,none⟩) (hS:NE H S=.cells false (l.flatMap enc)) (hl:lim<=S) {i:Nat} (hi:i<l.length) (y:α):AM.storeAt lim H (Vs p e i) (enc y)=Option.some (H.set S (.cells false ((l.set i y).flatMap enc))):=by
 subst hp;have h1:i*e+e<=l.length*e:=by
  have:=Ph e (Qy hi);rw [Pw] at this;exact this
 simp only [Vs,addrOf,Pj,addr_add,Ti,hS,Nx];rw [Nl ⟨hl,by rw [he,OW he];exact h1⟩,Nns he y _ _ hi]
end
theorem SV {p:Option Addr} {lim S:Nat} (he:∀x,(enc x).length=e) (hp:p=some ⟨S,0,none⟩) (hS:NE G S=.cells false (l.flatMap enc)) (hl:lim<=S) {i:Nat} (hi:i<l.length) (y:α) :
  ∃G',(∀X,AM.storeAt lim (G++X) (Vs p e i) (enc y)=some (G'++X))/\NE G' S=.cells false ((l.set i y).flatMap enc)/\Mut G G' S:=by
 obtain ⟨G',h1,h2,a⟩:=OO (NM hS) (.cells false ((l.set i y).flatMap enc));exact ⟨G',fun X=>by rw [Nt3 he hp (by rw [NS (NM hS)];exact hS) hl hi,h1],h2,a⟩
theorem Own.step {lim:Nat} {p:Option Addr} (h:Own lim G enc e p cap l) (m:lim'<=lim) (he:∀x,(enc x).length=e) (f:e≠0) (x:α) (o:(l.length+1)*bytes<=OX) (hn:l.length+1<2 ^ 61) (i:lim<=G.length)
  (X:NA) (b k:Nat) (q:NE (G++X) b=.cells false (enc x)) :
  ∃G2,OP lim' none e bytes false (.slice p l.length cap) (.slice (some ⟨b,0,none⟩) 1 k) (G++X)=some (.slice (some ⟨G.length+X.length,0,none⟩) (l.length+1) (loose e),G2++[])/\
   Own lim (G2++[]) enc e (some ⟨G.length+X.length,0,none⟩) (loose e) (l++[x])/\(∀A H0,H0.length<=lim->Chg A H0 G->Chg A H0 (G2++[]))/\(∀j,j<G.length->(∀a,p=some a->j≠a.block)->NE (G2++[]) j=NE G j)/\G2.length=G.length+X.length+1/\
   (∀j,j<X.length->NE (G2++[]) (G.length+j)=X.getD j .dead):=by
 obtain ⟨G',R,c,d,hm,_,hp⟩:=h.push1 (lim':=lim') (bytes:=bytes) m he f x o hn;have n:lim<=R:=by
  rcases Rq p with h1 | ⟨a,h1⟩
  ·rw [c h1];exact i
  ·rw [d a h1];exact (h.block h1).1
 refine ⟨G'++(X++[.cells false ((l++[x]).flatMap enc)]),by rw [Na];exact hp X b k q, ?_,fun A H0 h1 h2=>?_,fun j g hp=>?_,by simp [hm.len];omega,fun j g=>?_⟩
 ·rw [Na];refine Own.new ?_ (by omega);rw [<-No,<-hm.len,<-Nk];exact NN
 ·rw [Na];exact (h2.mut hm (.inr (by omega))).app
 ·rw [Na,NS (by rw [hm.len];exact g)];refine hm.other j ?_;rcases Rq p with h1 | ⟨a,h1⟩
  ·rw [c h1];omega
  ·rw [d a h1];exact hp a h1
 ·rw [Na,<-hm.len,NY,Nb,Oa g,Nb]
theorem WR {lim:Nat} {p:Option Addr} (i:NE H b=.cells false []) (hs:Sl H enc e p l) (h1:e≠0) (h2:l.length*bytes<=OX) (k:l.length<2 ^ 62) (hn:l≠[]) :
  OP lim none e bytes false (.slice (some ⟨b,0,none⟩) 0 0) (.slice p l.length c) H=some (.slice (some ⟨H.length,0,none⟩) l.length (loose e),H++[.cells false (l.flatMap enc)]):=by
 obtain ⟨a,rfl⟩:=hs.some hn;have g:l.length≠0:=fun h=>hn (List.length_eq_zero_iff.1 h)
 obtain ⟨k1,k2⟩:=hs;obtain ⟨ro,cs,k3,k4,f⟩:=k2 hn;have hl:AM.loadCells H a (l.length*e)=some (l.flatMap enc):=by
  obtain ⟨j,ao,as'⟩:=a;simp only [PV];simp only at k3 k4 f;simp only [k3];rw [Nl k4,f]
 have d:AM.loadCells H ⟨b,0,none⟩ (0*e)=some []:=by simp [PV,i]
 simp only [OP,firstCells,lenOf,hl,d,g,Nx,Nat.not_lt_zero,or_false,h1,false_or,N3,if_false];rw [Ng (by omega),Ng (by unfold loose;omega),Nl (by decide),Ng (by omega)];simp [place]
theorem Noj {lim:Nat} {dest:Option Nat} {p:Option Addr} (h1:e≠0):OP lim dest e bytes false (.slice (some ⟨b,0,none⟩) 0 0) (.slice p 0 c) H=some (.slice (some ⟨b,0,none⟩) 0 0,H):=by
 have:firstCells H e false (.slice p 0 c)=some []:=by cases p<;>simp [firstCells]
 simp [OP,this,lenOf,h1]
theorem Nc2:∀(k:KK) (n:Nat) (a b:List Value),a.length=n->b.length=n->(∀x∈a,∀y∈b,∃t,SQ k x y=some t/\(t=true↔x=y))->∃t,PH (List.replicate n k) a b=some t/\(t=true↔a=b)
 | k,0,a,b,ha,hb,_=>by
   have:=List.length_eq_zero_iff.1 ha;have:=List.length_eq_zero_iff.1 hb
   subst_vars
   exact ⟨true,rfl,by simp⟩
 | k,n+1,a,b,ha,hb,h=>by
   match a,b,ha,hb with
   | x::a,y::b,ha,hb=>
     obtain ⟨t,h1,h2⟩:=h x (by simp) y (by simp);obtain ⟨u,c,d⟩:=Nc2 k n a b (by simpa using ha) (by simpa using hb) fun x e y f=>h x (by simp [e]) y (by simp [f])
     refine ⟨t&&u, ?_, ?_⟩
     ·rw [Po];simp only [PH,h1,c]
     ·rw [N2,h2,d];simp
theorem Wi [Inhabited α] {i:Nat} (h:i<l.length):l.take (i+1)=l.take i++[gt l i]:=by
 rw [Nv h,OQ h]
theorem Ws:∀(vs a b c:List Value),vs.length=b.length->QI (a++b++c) a.length vs=a++vs++c:=by
 intro vs
 induction vs with
 | nil=>intro a b c h;simp at h;have:b=[]:=List.length_eq_zero_iff.1 h.symm;subst this;rfl
 | cons v vs ih=>
   intro a b c h
   match b,h with
   | x::b,h=>
     rw [U5];have e1:(a++x::b++c).set a.length v=(a++[v])++b++c:=by simp
     rw [e1];have:=ih (a++[v]) b c (by simpa using h);rw [Nk] at this;simp only [Nm,Nn,Nx] at this;rw [this];simp
theorem Yw {lim k:Nat} {p:Option Addr} {old:List α} {rest:List Value} (he:∀x,(enc x).length=e) (o:e≠0) (hs:Sl H enc e p l) (c:NE H R=.cells false (old.flatMap enc++rest)) (hl:lim<=R)
  (hc:old.length+l.length<=cap) (hr:rest.length=(cap-old.length)*e) (j:cap<2 ^ 61) (n:(old.length+l.length)*bytes<=OX) :
  OP lim none e bytes false (.slice (some ⟨R,0,none⟩) old.length cap) (.slice p l.length k) H=some (.slice (some ⟨R,0,none⟩) (old.length+l.length) cap,H.set R (.cells false ((old++l).flatMap enc++rest.drop (l.length*e)))):=by
 have m:=NM c;by_cases hn:l=[]
 ·subst hn;have g:firstCells H e false (.slice p 0 k)=some []:=by cases p<;>simp [firstCells]
  have b:H.set R (.cells false ((old++[]).flatMap enc++rest.drop (0*e)))=H:=by
   rw [Na,Qi,On,<-c];apply Pr (by simp);intro i h1 h2;rw [List.getElem_set];split
   ·rename_i h;subst h;have:=ZH h2;rw [Ni h2] at this;exact (Option.some.inj this).symm
   ·rfl
  simp only [Nn,Pd] at n hc⊢;rw [b];simp only [OP,g,lenOf,Pd,if_true];rw [Ng (by omega)]
 ·obtain ⟨a,rfl,g⟩:=hs.cells hn;have d:l.length≠0:=fun h=>hn (List.length_eq_zero_iff.1 h)
  have q:l.length*e<=rest.length:=by rw [hr];exact Ph e (by omega)
  have r:AM.loadCells H ⟨R,0,none⟩ (old.length*e)=some (old.flatMap enc):=by
   rw [PV,c];simp only [Nx,On];rw [Nl (by rw [Nk,OW he];omega),<-OW he,List.take_left]
  have f:AM.storeAt lim H (Addr.add ⟨R,0,none⟩ (old.length*e)) (l.flatMap enc)=some (H.set R (.cells false ((old++l).flatMap enc++rest.drop (l.length*e)))):=by
   simp only [addr_add,Ti,c,Nx];rw [Nl ⟨hl,by rw [Nk,OW he,OW he];omega⟩];have:=Ws (l.flatMap enc) (old.flatMap enc) (rest.take (l.length*e)) (rest.drop (l.length*e)) (by rw [OW he,N5];omega);rw [No,Pv,OW he] at this;rw [this,Pi]
  simp only [OP,firstCells,lenOf,g,r,f,d,if_false,N3];rw [Ng (by omega),Ng (by unfold loose;omega),Nl (by omega),Nl (by omega)]
theorem Own.more {lim:Nat} {p:Option Addr} (h:Own lim G enc e p cap l) (w:lim'<=lim) (he:∀x,(enc x).length=e) (u:e≠0) (m:List α) (o:(l.length+m.length)*bytes<=OX) (hn:l.length+m.length<2 ^ 61) (v:lim<=G.length)
  (X:NA) {str:Bool} (h1:firstCells (G++X) e str x=some (m.flatMap enc)) (h2:lenOf x=some m.length) :
  ∃G2 s b,OP lim' none e bytes str (.slice p l.length cap) x (G++X)=some (.slice s (l.length+m.length) b,G2++[])/\Own lim (G2++[]) enc e s b (l++m)/\(∀A H0,H0.length<=lim->Chg A H0 G->Chg A H0 (G2++[]))/\
   (∀j,j<G.length->(∀a,p=some a->j≠a.block)->NE (G2++[]) j=NE G j)/\G.length<=G2.length:=by
 by_cases hm:m=[]
 ·subst hm;have r:l.length<=cap:=by
   rcases h with ⟨k1,_,k3⟩ | ⟨R,_,k2,_,_⟩
   ·subst k1;simp
   ·rw [k2];simp at hn;unfold loose;omega
  refine ⟨G++X,p,cap, ?_,by rw [Na,Na];exact h.app X,fun A H0 t k=>by rw [Na];exact k.app,fun j c _=>by rw [Na,NS c],by simp⟩;simp only [Nn,Pd] at o hn h2⊢;simp only [OP,h1,h2,Pd,if_true,Na];rw [Ng (by omega)]
 ·have g:¬m.length=0:=fun q=>hm (List.length_eq_zero_iff.1 q)
  rcases h with ⟨k1,k2,k3⟩ | ⟨R,k1,k2,k3,k4⟩
  ·subst k1 k2 k3;refine ⟨G++(X++[.cells false (m.flatMap enc)]),some ⟨(G++X).length,0,none⟩,loose e, ?_, ?_,fun A H0 t k=>by rw [Na];exact k.app,fun j c _=>by rw [Na,NS c],by simp⟩
   ·simp only [Nn,Nx] at o hn⊢;simp only [OP,h1,h2,g,if_false,Nx];rw [Ng (by omega)];simp [place]
   ·rw [Na,Og];refine Own.new ?_ (by simp;omega);rw [<-No];exact NN
  ·subst k1 k2;have f:=NM k3;have d:NE (G++X) R=.cells false (l.flatMap enc):=by rw [NS f];exact k3
   have i:AM.loadCells (G++X) ⟨R,0,none⟩ (l.length*e)=some (l.flatMap enc):=by
    simp only [PV,d,Nx,OW he,Nf,if_true,On];rw [Oc (by rw [OW he];exact Nf _)]
   have n:Mut G (G.set R .dead) R:=⟨by simp,fun j c=>QC c⟩
   refine ⟨G.set R .dead++(X++[.cells false ((l++m).flatMap enc)]),some ⟨(G++X).length,0,none⟩,loose e, ?_, ?_,fun A H0 t k=>by rw [Na];exact (k.mut n (.inr (by omega))).app,fun j c hp=>by
    rw [Na,NS (by simpa using c)];exact QC (hp _ rfl),by simp⟩
   ·simp only [OP,h1,h2,i,d,g,if_false,if_true];rw [Ng (by unfold loose;omega)];simp [show lim'<=R by omega,place,Qj _ _ f,No]
   ·rw [Na];refine Own.new ?_ (by simp;omega);rw [<-No,show (G++X).length=(G.set R .dead++X).length by simp];exact NN
theorem Own.moreD {lim d:Nat} {p:Option Addr} (h:Own lim G enc e p cap l) (z:lim'<=lim) (he:∀x,(enc x).length=e) (w:e≠0) (m:List α) (r:(l.length+m.length)*bytes<=OX) (hn:l.length+m.length<2 ^ 61) (y:lim<=G.length)
  (X:NA) (u:G.length<=d) (v:d<G.length+X.length) {str:Bool} (h1:firstCells (G++X) e str x=some (m.flatMap enc)) (h2:lenOf x=some m.length) :
  ∃G2 n b,OP lim' (some d) e bytes str (.slice p l.length cap) x (G++X)=some (.slice n (l.length+m.length) b,G2++[])/\Own lim (G2++[]) enc e n b (l++m)/\(∀A H0,H0.length<=lim->Chg A H0 G->Chg A H0 (G2++[]))/\
   (∀j,j<G.length->(∀a,p=some a->j≠a.block)->NE (G2++[]) j=NE G j)/\G.length<=G2.length/\(m≠[]->n=some ⟨d,0,none⟩)/\(m=[]->n=p):=by
 by_cases hm:m=[]
 ·subst hm;have s:l.length<=cap:=by
   rcases h with ⟨k1,_,k3⟩ | ⟨R,_,k2,_,_⟩
   ·subst k1;simp
   ·rw [k2];simp at hn;unfold loose;omega
  refine ⟨G++X,p,cap, ?_,by rw [Na,Na];exact h.app X,fun A H0 t k=>by rw [Na];exact k.app,fun j f _=>by rw [Na,NS f],by simp,fun h=>absurd rfl h,fun _=>rfl⟩;simp only [Nn,Pd] at r hn h2⊢;simp only [OP,h1,h2,Pd,if_true,Na];rw [Ng (by omega)]
 ·have g:¬m.length=0:=fun q=>hm (List.length_eq_zero_iff.1 q)
  rcases h with ⟨k1,k2,k3⟩ | ⟨R,k1,k2,k3,k4⟩
  ·subst k1 k2 k3;refine ⟨(G++X).set d (.cells false (m.flatMap enc)),some ⟨d,0,none⟩,loose e, ?_, ?_,fun A H0 t k=>by rw [Na];exact k.app.set (.inr (by omega)),fun j f _=>by rw [Na,QC (by omega),NS f],by simp,fun _=>rfl,fun h=>absurd h hm⟩
   ·simp only [Nn,Nx] at r hn⊢;simp only [OP,h1,h2,g,if_false,Nx];rw [Ng (by omega)];simp [place]
   ·rw [Na,Og];exact Own.new (Rv (by simp;omega)) (by omega)
  ·subst k1 k2;have o:=NM k3;have c:NE (G++X) R=.cells false (l.flatMap enc):=by rw [NS o];exact k3
   have i:AM.loadCells (G++X) ⟨R,0,none⟩ (l.length*e)=some (l.flatMap enc):=by
    simp only [PV,c,Nx,OW he,Nf,if_true,On];rw [Oc (by rw [OW he];exact Nf _)]
   refine ⟨((G++X).set R .dead).set d (.cells false ((l++m).flatMap enc)),some ⟨d,0,none⟩,loose e, ?_, ?_,fun A H0 t k=>by rw [Na];exact (k.app.set (.inr (by omega))).set (.inr (by omega)),fun j f hp=>by
    rw [Na,QC (by omega),QC (hp _ rfl),NS f],by simp,fun _=>rfl,fun h=>absurd h hm⟩
   ·simp only [OP,h1,h2,i,c,g,if_false,if_true];rw [Ng (by unfold loose;omega)];simp [show lim'<=R by omega,place]
   ·rw [Na];exact Own.new (Rv (by simp;omega)) (by omega)
theorem SH {k:Nat} {p:Option Addr} (hs:Sl H enc e p m):firstCells H e false (.slice p m.length k)=some (m.flatMap enc):=by
 by_cases hm:m=[]
 ·subst hm;cases p<;>simp [firstCells]
 ·obtain ⟨a,rfl,hl⟩:=hs.cells hm;have:m.length≠0:=fun h=>hm (List.length_eq_zero_iff.1 h)
  simp [firstCells,this,hl]
theorem Sl.pre {p:Option Addr} (h:Sl H enc e p (l++m)) (he:∀x,(enc x).length=e):Sl H enc e p l:=by
 cases p with
 | none=>simp only [Sl] at h;exact (List.append_eq_nil_iff.1 h).1
 | some a=>
   refine ⟨h.1,fun hn=>?_⟩;obtain ⟨ro,c,h1,h2,f⟩:=h.2 (by simp [hn]);have b:l.length*e<=(l++m).length*e:=Ph e (by simp);refine ⟨ro,c,h1,by omega, ?_⟩;have d:=Q2 (List.take (l.length*e)) f;rw [Rd,P1 b,Pi,Rm (by rw [OW he];exact Nf _),Oc (l:=l.flatMap enc) (by rw [OW he];exact Nf _)] at d;exact d
theorem Sl.row (he:∀x,(enc x).length=e) {ro:Bool} (h:NE H R=.cells ro (l.flatMap enc)):Sl H enc e (Option.some ⟨R,0,none⟩) l:=Sl.lit he (by rw [h];rfl) (by rw [h];rfl)
theorem Own.chg {A:List Nat} {lim:Nat} {H':NA} {p:Option Addr} (h:Own lim G enc e p cap l) (hc:Chg A G H') (hp:∀a,p=some a->a.block∉A):Own lim H' enc e p cap l:=by
 rcases h with h | ⟨R,h1,h2,b,c⟩
 ·exact .inl h
 ·exact .inr ⟨R,h1,h2,hc.cells b (hp _ h1),c⟩
def WU (e c n:Nat):Prop:=c=loose e\/(n<=c/\c<2 ^ 62)
theorem Own.capOk {lim:Nat} {p:Option Addr} (h:Own lim G enc e p cap l):WU e cap l.length:=by
 rcases h with ⟨h1,h2,a⟩ | ⟨R,h1,h2,a,b⟩
 ·subst h1 a;exact .inr ⟨Nf _,by decide⟩
 ·exact .inl h2
theorem Nin {α:Type} {enc:α->List Value} {e:Nat} (he:∀x,(enc x).length=e):∀(l:List α) (k:Nat),(l.take k).flatMap enc=(l.flatMap enc).take (k*e)
 | [],k=>by simp
 | x::l,0=>by simp
 | x::l,k+1=>by
   rw [Qv,Ol,Ol,Nin he l k,List.take_append,he,Oc (l:=enc x) (by rw [he,Pw];omega),Pw,P7]
theorem Nfl {α:Type} {enc:α->List Value} {e:Nat} (he:∀x,(enc x).length=e):∀(l:List α) (k:Nat),(l.drop k).flatMap enc=(l.flatMap enc).drop (k*e)
 | [],k=>by simp
 | x::l,0=>by simp
 | x::l,k+1=>by
   rw [List.drop_succ_cons,Ol,Nfl he l k,List.drop_append,he,P8 (as:=enc x) (by rw [he,Pw];omega),Og,Pw,P7]
theorem Sl.sub (h:Sl H enc e (Option.some a) l) (he:∀x,(enc x).length=e) (h1:lo<=hi) (h2:hi<=l.length):Sl H enc e (Option.some (a.add (lo*e))) ((l.take hi).drop lo):=by
 obtain ⟨b,o,s⟩:=a;have hs:=h.1;simp only at hs;subst hs;rw [addr_add];refine ⟨rfl,fun hn=>?_⟩;have f:l≠[]:=by rintro rfl;simp at hn
 obtain ⟨ro,c,k1,k2,k3⟩:=h.2 f;have d:((l.take hi).drop lo).length=hi-lo:=by simp;omega
 have e1:(hi-lo)*e+lo*e=hi*e:=by rw [<-P4,Nat.sub_add_cancel h1]
 have e2:hi*e<=l.length*e:=Ph e h2;refine ⟨ro,c,k1,by simp only [d] at *;omega, ?_⟩;simp only at k2 k3⊢;rw [d,Nfl he,Nin he,<-k3,Rd,P1 e2,List.drop_take,List.drop_drop,show hi*e-lo*e=(hi-lo)*e by omega]
theorem Vj {p:Option Addr} (hs:Sl H enc e p l) (hc:WU e c l.length) (he:∀x,(enc x).length=e) (u:∀cap,l.length<=cap->WQ l.length cap vlo vhi none=some (lo,hi,cap)) (h1:lo<=hi) (h2:hi<=l.length) (hn:l.length<2 ^ 63) :
  ∃q c',TN e (.slice p l.length c) vlo vhi none=some (.slice q (hi-lo) c')/\Sl H enc e q ((l.take hi).drop lo)/\WU e c' (hi-lo)/\(∀a',q=some a'->∃a,p=some a/\a'.block=a.block)/\(l≠[]->∀a',q=some a'->AM.loadCells H a' 0=some []):=by
 have i:l≠[]->∀a,p=some a->∀k,k<=l.length->AM.loadCells H (a.add (k*e)) 0=some []:=by
  intro d a m k hk;subst m;obtain ⟨b,o,s⟩:=a;have f:=hs.1;simp only at f;subst f;obtain ⟨ro,cs,k1,k2,k3⟩:=hs.2 d;simp only at k1 k2;have:=Ph e hk;rw [addr_add,PV,k1];simp only [Pd,P2];rw [Nl (by omega)]
 have r:l≠[]->∀a,p=some a->AM.loadCells H a 0=some []:=by
  intro d a m;have:=i d a m 0 (Np _);subst m;obtain ⟨b,o,s⟩:=a;have f:=hs.1;simp only at f;subst f;rw [Qi,addr_add,Pd] at this;exact this
 have hB:∀cap,l.length<=cap->bounds unV l.length cap (vlo.map .const) (vhi.map .const) none=some (lo,hi,cap):=fun cap j=>by
  rw [Nav,<-u cap j];cases vlo<;>cases vhi<;>rfl
 have g:∀(a:Addr) (n:Nat),(a.add n).block=a.block:=fun a n=>by
  unfold Addr.add;split<;>rfl
 rcases hc with rfl | ⟨c1,c2⟩
 ·refine ⟨p.map (·.add (lo*e)),loose e, ?_, ?_,.inl rfl,fun a' h=>?_,fun d a' h=>?_⟩
  ·simp only [TN,TH,Oo,if_true,hB _ (Nf _)]
  ·cases p with
   | none=>simp only [Sl] at hs;subst hs;simp [Sl]
   | some a=>exact hs.sub he h1 h2
  ·cases p with
   | none=>cases h
   | some a=>cases h;exact ⟨a,rfl,g _ _⟩
  ·cases p with
   | none=>cases h
   | some a=>cases h;exact i d a rfl lo (by omega)
 ·have t:¬c=loose e:=by unfold loose;omega
  refine ⟨if c=lo then p else p.map (·.add (lo*e)),c-lo, ?_, ?_,.inr ⟨by omega,by omega⟩,fun a' h=>?_,fun d a' h=>?_⟩
  ·simp only [TN,TH,Oo,Ng t,Nl c2,hB c c1]
  ·split
   ·have i:(l.take hi).drop lo=[]:=P8 (by simp;omega);rw [i];cases p with
    | none=>rfl
    | some a=>exact ⟨hs.1,fun h=>absurd rfl h⟩
   ·cases p with
    | none=>simp only [Sl] at hs;subst hs;simp [Sl]
    | some a=>exact hs.sub he h1 h2
  ·split at h
   ·exact ⟨a',h,rfl⟩
   ·cases p with
    | none=>cases h
    | some a=>cases h;exact ⟨a,rfl,g _ _⟩
  ·split at h
   ·exact r d a' h
   ·cases p with
    | none=>cases h
    | some a=>cases h;exact i d a rfl lo (by omega)
theorem Nba {t:Ty} {l:List t.den} {v:Value} (f:t.den->α) (enc:α->List Value) (he:∀H x c,Y2 t H x c->c=enc (f x)) (h:We (.slice t) H l v) :
  ∃p cap,v=.slice p (l.map f).length cap/\Sl H enc t.size p (l.map f)/\WU t.size cap (l.map f).length/\(l.map f).length<2 ^ 63:=by
 have g:=We.one rfl h;obtain ⟨p,cap,e,h1,h2⟩:=Y2.sl f enc he g;refine ⟨p,cap,List.singleton_inj.1 e,h1, ?_,by simpa using h2⟩;obtain ⟨_,k,d,b,k1,k2⟩:=g;rw [e] at b;simp only [List.cons.injEq,Value.slice.injEq,and_true] at b;obtain ⟨e1,_,e3⟩:=b;subst e1 e3;cases p with
 | none=>obtain ⟨i,j⟩:=k1 rfl;exact .inr (by rw [i,j];simp)
 | some a=>exact .inl (k2 a rfl).2.2.1
theorem Nlo {n:Nat} (b:WQ n n vlo vhi none=some (lo,hi,n)) (hn:n<2 ^ 62) (hl:lo<n):XQ n e (.pointer (some a)) vlo vhi none=some (.slice (some (a.add (lo*e))) (hi-lo) (n-lo)):=by
 have hB:bounds unV n n (vlo.map .const) (vhi.map .const) none=some (lo,hi,n):=by
  rw [Nav,<-b];cases vlo<;>cases vhi<;>rfl
 simp only [XQ,Oo,hB,Nl hn];rw [Ng (by omega)]
theorem Sl.same {p:Option Addr} (h:Sl H enc e p l) (d:∀a,p=Option.some a->l≠[]->NE G a.block=NE H a.block):Sl G enc e p l:=by
 cases p with
 | none=>exact h
 | some a=>
   refine ⟨h.1,fun hn=>?_⟩;obtain ⟨ro,c,h2,b⟩:=h.2 hn;exact ⟨ro,c,by rw [d a rfl hn];exact h2,b⟩
theorem OD.get' (h:OD H G) {j:Nat} {b:Blk} (a:NE H j=b) (hl:j<H.length):NE G j=b:=by
 obtain ⟨X,rfl⟩:=h;rw [NS hl];exact a
end Go.AM



namespace Go.AM.Srt
open Go.AM Go.AM.Sym Go.Sort
def ltC {α:Type} (c:α->α->Int) (x y:α):Bool:=decide (c x y<0)
class EncOk {α:Type} (enc:α->List Value) (k:outParam Nat):Prop where
 len:∀x,(enc x).length=k
 ok:∀x,∀v∈enc x,atom v=true/\v.oneCell'=true
 inj:∀x y,enc x=enc y->x=y
structure Cmp {α:Type} (E0:Env) (enc:α->List Value) (cl:FuncId) (cs:List Value) (c:α->α->Int):Prop where
 atoms:∀v∈cs,atom v=true
 fn:∃af,E0.tr cl=some af
 call:∀x y,NQ E0 false 0 cl (.agg (enc x).toArray::.agg (enc y).toArray::cs) [] fun v _=>v=Vi (c x y)
 swo:SWO (ltC c)
section
variable {E0:Env} {α:Type} [Inhabited α] {enc:α->List Value} {k:Nat} [K:EncOk enc k] {cl:FuncId} {cs:List Value} {c:α->α->Int} {lim:Nat} {H:NA}
variable {cap:Nat} {Q:Value->NA->Prop}
def sortN (c:α->α->Int) (l:List α):List α:=(pdq (ltC c) l.toArray 0 l.length (Lib.bitLen l.length) true true).toList
theorem sortN_ok (a:SWO (ltC c)) (l:List α):PermIn 0 l.length l.toArray (sortN c l).toArray/\SortedIn (ltC c) 0 l.length (sortN c l).toArray:=by
 have h:=pdq_sorts (ltC c) a l.toArray 0 l.length (Lib.bitLen l.length) true true (Np _) (by simp) (Or.inl rfl);simpa [sortN] using h
theorem sortN_len (a:SWO (ltC c)) (l:List α):(sortN c l).length=l.length:=by simpa using (sortN_ok a l).1.1
def At (E0:Env) (enc:α->List Value) (xs:List Value) (H:NA) (x:Nat×List α×(α->α->Int)):Prop:=
 x.2.1≠[]/\x.2.1.length<4611686018427387904/\NE H x.1=Vc (x.2.1.flatMap enc)/\∃cap cl cs,xs=[.slice (Sa x.1) x.2.1.length cap,.func (.func cl) #[] (List.toArray cs)]/\Cmp E0 enc cl cs x.2.2
open Classical in
noncomputable def sortF (E0:Env) (enc:α->List Value) (xs:List Value) (H:NA):Option (Value×List (List Value)×Option (Nat×List Value)):=
 if h:∃x,At E0 enc xs H x then some (.tuple #[],[],some (h.choose.1,(sortN h.choose.2.2 h.choose.2.1).flatMap enc))
 else if ∃p cap f,xs=[.slice p 0 cap,f] then some (.tuple #[],[],none) else none
theorem Nnt {α:Type} {enc:α->List Value} {k:Nat} (K:EncOk enc k):∀{l m:List α},l.length=m.length->l.flatMap enc=m.flatMap enc->l=m
 | [],[],_,_=>rfl
 | x::l,y::m,hl,h=>by
   rw [Ol,Ol] at h;obtain ⟨h1,h2⟩:=List.append_inj h (by rw [K.len,K.len]);rw [K.inj _ _ h1,Nnt K (by simpa using hl) h2]
theorem Cmp.uniq {c':α->α->Int} (h:Cmp E0 enc cl cs c) (h':Cmp E0 enc cl cs c'):c=c':=by
 funext x y;obtain ⟨n,L,a1,a2⟩:=h.call x y;obtain ⟨n',a,b1,b2⟩:=h'.call x y;have e1:=UU E0 (Qd n n') _ _ _ _ _ _ a1;have e2:=UU E0 (Pu n n') _ _ _ _ _ _ b1;rw [e1] at e2;cases e2;cases L with
 | nil=>exact absurd rfl (Nop E0 a1)
 | cons r L=>
   have e1:=a2.2 r (Nu);have e2:=b2.2 r (Nu);rw [e1] at e2;exact (Value.int.inj e2).2
variable {E:Env} {g:FuncId}
theorem sort_nil (hs:∀xs H,E.orc g xs=none/\E.eff g xs H=sortF E0 enc xs H) {p:Option Addr} {f:Value}:NQ E false lim g [.slice p 0 cap,f] H Q=Q (.tuple #[]) H:=by
 have he:sortF E0 enc [.slice p 0 cap,f] H=some (.tuple #[],[],none):=by
  unfold sortF;rw [dif_neg ?_,Nl ⟨p,cap,f,rfl⟩];rintro ⟨x,i,_,_,d,cl,cs,e,_⟩;have:x.2.1.length=0:=by
   have h:=(List.cons.inj e).1;cases x with | mk a b=>cases b with | mk b c=>simp at h⊢;exact List.length_eq_zero_iff.1 h.2.1.symm
  exact i (List.length_eq_zero_iff.1 this)
 rw [Nb9 (hs _ H).1 ((hs _ _).2.trans he) rfl];show Q _ (H++[])=_;rw [Na]
theorem sort_ok {k':Nat} [K':EncOk enc k'] (hs:∀xs H,E.orc g xs=none/\E.eff g xs H=sortF E0 enc xs H) (hc:Cmp E0 enc cl cs c) {B:Nat} {l:List α} (hB:NE H B=Vc (l.flatMap enc)) (hl:lim<=B) (hn:l.length<4611686018427387904) :
  NQ E false lim g [.slice (Sa B) l.length cap,.func (.func cl) #[] cs.toArray] H Q=Q (.tuple #[]) (H.set B (Vc ((sortN c l).flatMap enc))):=by
 by_cases d:l=[]
 ·subst d;have e:H.set B (Vc ((sortN c ([]:List α)).flatMap enc))=H:=by
   have:sortN c ([]:List α)=[]:=List.length_eq_zero_iff.1 (sortN_len hc.swo []);rw [this,<-hB];apply List.ext_getElem?;intro i;rw [Ob];split
   ·rename_i e;subst e;have hi:=RB hB rfl;rw [Nl (List.getElem?_eq_some_iff.1 hi).1,hi,hB]
   ·rfl
  rw [e];exact sort_nil hs
 ·have a:∃x,At E0 enc [.slice (Sa B) l.length cap,.func (.func cl) #[] cs.toArray] H x:=⟨(B,l,c),d,hn,hB,cap,cl,cs,rfl,hc⟩
  have key:a.choose.1=B/\a.choose.2.1=l/\a.choose.2.2=c:=by
   obtain ⟨m,n,f,b,cl',cs',e,k⟩:=a.choose_spec;simp only [List.cons.injEq,Value.slice.injEq,Option.some.injEq,Addr.mk.injEq,Value.func.injEq,and_true,Rh] at e;obtain ⟨⟨e1,e2,_⟩,e3,e4⟩:=e;cases e3;have h:cs=cs':=by simpa using Q2 Array.toList e4
   subst h;rw [<-e1,hB] at f;injection f with _ q4
   exact ⟨e1.symm,(Nnt K' e2 q4).symm,k.uniq hc⟩
  have he:sortF E0 enc [.slice (Sa B) l.length cap,.func (.func cl) #[] cs.toArray] H=some (.tuple #[],[],some (B,(sortN c l).flatMap enc)):=by
   unfold sortF;rw [dif_pos a,key.1,key.2.1,key.2.2]
  have j:YI lim H (some (B,(sortN c l).flatMap enc))=true:=by
   simp only [YI,hB,hl,decide_true,Bool.true_and,N6];rw [OW K'.len,OW K'.len,sortN_len hc.swo]
  rw [Nb9 (hs _ H).1 ((hs _ _).2.trans he) j];show Q _ (H.set B _++[])=_;rw [Na]
end
end Go.AM.Srt



namespace Go.Proofs.YtkppjkkkdpcgiaaGreat.Fn
open Go.AM Go.AM.Sym
variable {es:List (Value×Value)}
class OA where
 on:FuncId->Bool
 eff:FuncId->List Value->NA->Option (Value×List (List Value))
 effN:∀g as H,g≠36->g≠27->eff g as H=none
 srt:FuncId->List Value->NA->Option (Value×List (List Value)×Option (Nat×List Value))
 srtN:∀g as H,g≠95->g≠142->g≠102->srt g as H=none
def effS [OA] (g:FuncId) (as:List Value) (H:NA):Option (Value×List (List Value)×Option (Nat×List Value)):=match OA.eff g as H with
 | some r=>some (r.1,r.2,none)
 | none=>OA.srt g as H
def orc [OA] (g:FuncId) (as:List Value):Option Value:=if (g=18)/\OA.on g=true/\as=[] then some (.bool true) else none
def E [OA]:Env:=⟨tr,pf,orc,true,effS⟩
def Ef [OA]:Env:=⟨tr,pf,orc,false,effS⟩
instance dtE [OA]:DT E E:=⟨rfl⟩
instance dtF [OA]:DT Ef E:=⟨rfl⟩
section
variable {mp:Bool} {lim:Nat} {g:FuncId} {as:List Value} {v:Value} {af:AFunc} {H:NA} {Q:Value->NA->Prop}
theorem pc [OA] (h:(g≠18/\g≠36/\g≠27/\g≠95/\g≠142/\g≠102)) (b:tr g=some af) (hp:pf g=true) (a:flat 4 v=true) (hr:PT E af H.length [.code af.body] (NG as) (H++[]) fun v' _=>v'=v):NQ E mp lim g as H Q=Q v H:=
 Ngu (E:=E) (by simp [E,effS,OA.effN,OA.srtN,orc,h]) b hp a (NJ hr)
theorem QN [OA] (h:(g≠18/\g≠36/\g≠27/\g≠95/\g≠142/\g≠102)) (a:tr g=some af) (hp:pf g=false) (hr:PT E af lim [.code af.body] (NG as) (H++[]) Q):NQ E false lim g as H Q:=by
 rw [Wp (E:=E) (by simp [E,effS,OA.effN,OA.srtN,orc,h]) a hp rfl];exact NJ hr
theorem Nho [OA] (h:(g≠18/\g≠36/\g≠27/\g≠95/\g≠142/\g≠102)) (a:tr g=some af) (hp:pf g=false) (hr:PT Ef af lim [.code af.body] (NG as) (H++[]) Q):NQ Ef false lim g as H Q:=by
 rw [Wp (E:=Ef) (by simp [Ef,effS,OA.effN,OA.srtN,orc,h]) a hp rfl];exact NJ hr
theorem Nsu [OA] (h:g≠18/\g≠95/\g≠142/\g≠102) (ho:∀as H,OA.eff g as H=none) (a:tr g=some af) (hp:pf g=false) (hr:PT Ef af lim [.code af.body] (NG as) (H++[]) Q):NQ Ef false lim g as H Q:=by
 rw [Wp (E:=Ef) (by simp [Ef,effS,OA.srtN,orc,h,ho]) a hp rfl];exact NJ hr
theorem NQ.eqF [OA] (h:NQ E mp lim g as H fun v' H1=>v'=v/\H1=H):NQ Ef mp lim g as H Q=Q v H:=NQ.eq (NQ.weak (E:=Ef) h)
theorem NQ.eqF' [OA] {H':NA} (h:NQ E mp lim g as H fun v' H1=>v'=v/\H1=H'):NQ Ef mp lim g as H Q=Q v H':=NQ.eq (NQ.weak (E:=Ef) h)
theorem NQ.one [OA] (h:NQ E mp lim g as H Q):∃n v H',R4 E n mp lim (.inl g) as H=some [(v,H')]/\Q v H':=by
 obtain ⟨n,L,h1,h2,a⟩:=h;obtain ⟨⟨v,H'⟩,rfl⟩:=h2 rfl;exact ⟨n,v,H',h1,a _ (Nq.mpr rfl)⟩
end
def encI (n:Int):List Value:=[Vi n]
theorem OT (n:Int):(encI n).length=1:=id rfl
theorem PW {H:NA} {i:Nat} (h:NE H i=.map es):i<H.length:=by
 rcases Od i H.length with h1 | h1
 ·exact h1
 ·unfold NE at h;rw [Nb,N0 h1] at h;cases h
end Go.Proofs.YtkppjkkkdpcgiaaGreat.Fn



namespace Go.Proofs.YtkppjkkkdpcgiaaGreat.Fn
open Go.AM Go.AM.Sym Go.Net
variable {Q:Value->NA->Prop} {a r b e v:Int} {K' K:List AItem} {fr0 fr:Nat->Value} {j np d n nl cp R cl:Nat} {L:List Leg} {ks T P:List Int} {x:Option (Int×Int)} {H G:NA} {g:FuncId} {c1 c2:Value} {pp pl:Option Addr} {α:Type} {u:List Int->List Int->Leg->List Int} {mp:Bool} {l:Leg} {X Y:List α}
section
variable {mp:Bool} {lim:Nat} {g:FuncId} {as:List Value} {v:Value} {af:AFunc} {H:NA} {Q:Value->NA->Prop}
end
def encL (l:Leg):List Value:=[Vi l.id,Vi l.frm,Vi l.dst,Vi l.dep,Vi l.mins,Vi l.cut,Vi l.grams,.int .u8 l.days]
theorem NZ (l:Leg):(encL l).length=8:=id rfl
theorem RY:(encL l)[0]? = some (Vi l.id):=id rfl
theorem QR:(encL l)[1]? = some (Vi l.frm):=id rfl
theorem R3:(encL l)[2]? = some (Vi l.dst):=id rfl
theorem VO:(encL l)[3]? = some (Vi l.dep):=id rfl
theorem Xd:(encL l)[4]? = some (Vi l.mins):=id rfl
theorem UQ:(encL l)[5]? = some (Vi l.cut):=id rfl
theorem Nrl:(encL l)[6]? = some (Vi l.grams):=id rfl
theorem Nkj:(encL l)[7]? = some (.int .u8 l.days):=id rfl
theorem Nno {k:Nat} {d:α}:(X++Y).getD (X.length+k) d=Y.getD k d:=by
 rw [Nb,Nb,Oi (by omega),Q5]
theorem U8 {d:α}:(X++Y).getD X.length d=Y.getD 0 d:=Nno (k:=0)
theorem Vx {k:Nat} {b:α}:(X++Y).set (X.length+k) b=X++Y.set k b:=by
 rw [Qe _ _ (by omega),Q5]
theorem MS {b:α}:(X++Y).set X.length b=X++Y.set 0 b:=Vx (k:=0)
def By (l:Leg):Prop:=0<=l.days/\l.days<=255
theorem _root_.Go.Net.Fine.by (h:Fine l):By l:=by unfold Fine at h;unfold By;omega
def enc3 (x:Int×Int×Int):List Value:=[Vi x.1,Vi x.2.1,Vi x.2.2]
theorem OU (x:Int×Int×Int):(enc3 x).length=3:=id rfl
def N54 (l:Leg):List (Int×Int×Int):=[(l.id,1,999999),(l.frm,1,999999),(l.dst,1,999999),(l.dep,0,1439),(l.mins,1,20160),(l.cut,0,10080),(l.grams,0,1000000000),(l.days,1,127)]
def inB (x:Int×Int×Int):Prop:=x.2.1<=x.1/\x.1<=x.2.2
theorem Nfm:Fine l↔(∀j,j<8->inB (gt (N54 l) j))/\l.frm≠l.dst:=by
 constructor
 ·intro h;unfold Fine at h;refine ⟨fun j a=>?_,by omega⟩
  match j,a with
  | 0,_=>show 1<=l.id/\l.id<=999999;omega
  | 1,_=>show 1<=l.frm/\l.frm<=999999;omega
  | 2,_=>show 1<=l.dst/\l.dst<=999999;omega
  | 3,_=>show 0<=l.dep/\l.dep<=1439;omega
  | 4,_=>show 1<=l.mins/\l.mins<=20160;omega
  | 5,_=>show 0<=l.cut/\l.cut<=10080;omega
  | 6,_=>show 0<=l.grams/\l.grams<=1000000000;omega
  | 7,_=>show 1<=l.days/\l.days<=127;omega
 ·rintro ⟨h,hn⟩;have b:1<=l.id/\l.id<=999999:=h 0 (by decide);have h1:1<=l.frm/\l.frm<=999999:=h 1 (by decide);have h2:1<=l.dst/\l.dst<=999999:=h 2 (by decide);have c:0<=l.dep/\l.dep<=1439:=h 3 (by decide);have d:1<=l.mins/\l.mins<=20160:=h 4 (by decide);have h5:0<=l.cut/\l.cut<=10080:=h 5 (by decide);have e:0<=l.grams/\l.grams<=1000000000:=h 6 (by decide);have f:1<=l.days/\l.days<=127:=h 7 (by decide);unfold Fine;omega
theorem Nej [OA] {lim:Nat} (hd:By l):NQ E mp lim 34 [.agg (encL l).toArray] H Q=Q (.bool (decide (Fine l))) H:=by
 refine pc (by decide) rfl rfl rfl ?_;rw [b34,c34];have wd:IntKind.i64.wrap l.days=l.days:=NR (by unfold By at hd;omega) (by unfold By at hd;omega);simp only [n34,encL,wd,SB,seval,NL,NG,place,NB];refine NP (fun i=>8-i) (fun i fr G=>i<=8/\fr 1=Vp H.length/\fr 32=.agg ((N54 l).flatMap enc3).toArray/\fr 33=Vi i/\NE G H.length=Vc (encL l)/\∀j,j<i->inB (gt (N54 l) j)) 0
  ⟨Np _,rfl,by rfl,by rfl,by rw [NN];rfl,fun j p=>by omega⟩ ?_
 intro i fr G ⟨hi,k,e,c,f,a⟩ hN;have hl:=NM f;rw [NU N8y.eq_1];refine NJ ?_;have m:=zc f;by_cases d:i<8
 ·have g:IntKind.i64.wrap ((i:Int)+1)=((i+1:Nat):Int):=OC (by omega);have hd:=ZI OU (N54 l) i d;have o:(i:Int)<8:=by omega
  have n:(0:Int)<=(i:Int):=by omega
  have hL:H.length<=G.length:=by omega
  simp only [n34,e,c,o,n,hd,enc3,hL,SB,seval,NL,NH,place,NB]
  repeat' ((first | refine Xl (fun b=>?_) (fun b=>?_) | refine XE (fun b=>?_) (fun b=>?_) | refine Xm (fun b=>?_) (fun b=>?_) | refine XF (fun b=>?_) (fun b=>?_))<;>(try simp only [b,n34,c,g,SB,Nat.reduceLT,NL,Nat.reduceEqDiff,NH,NC]))
  ·rw [Nw];rw [Nfm];intro h;have:=(h.1 i d).1;omega
  ·rw [Nw];rw [Nfm];intro h;have:=(h.1 i d).2;omega
  ·refine hN (i+1) _ _ ⟨by omega,k,e,rfl,(OD.refl.app).cells f,fun j p=>?_⟩ (by omega);rcases Od j i with h | h
   ·exact a j h
   ·obtain rfl:j=i:=by omega
    unfold inB;omega
 ·obtain rfl:i=8:=by omega
  simp only [n34,k,c,m,encL,SB,seval,NL,NH,NC];congr 1;rw [Qt];simp only [N6,Nfm];exact ⟨fun h=>⟨a,h⟩,fun h=>h.2⟩
def TE:Option (Int×Int)->Value
 | some (a,b)=>.tuple #[.agg #[Vi a,Vi b],.bool true]
 | none=>.tuple #[.agg #[Vi 0,Vi 0],.bool false]
theorem XA:flat 4 (TE x)=true:=by cases x<;>rfl
def UR (l:Leg) (d:Nat):Option (Int×Int):=if goes l d then some (1440*(d:Int)+l.dep,1440*(d:Int)+l.dep+l.mins) else none
theorem Obq {k:Nat} (b:0<=a) (h1:a<=255) (hk:k<7) :
  IntKind.u8.wrap ((BitVec.ofInt 8 (a.fdiv (2 ^ (min k 8))) &&& BitVec.ofInt 8 1).toNat:Int)=((a.toNat / 2 ^ k % 2:Nat):Int):=by
 obtain ⟨n,rfl⟩:∃n:Nat,a=(n:Int):=⟨a.toNat,by omega⟩
 rw [P1 (by omega),N1];have e:((n:Int).fdiv (2 ^ k))=((n / 2 ^ k:Nat):Int):=by
  rw [show ((2:Int) ^ k)=((2 ^ k:Nat):Int) by simp,Rl _ (Int.natCast_nonneg _)];rfl
 rw [e,BitVec.ofInt_natCast,BitVec.toNat_and];have hl:n / 2 ^ k<256:=Nat.lt_of_le_of_lt (Rk _ _) (by omega);have e1:(BitVec.ofInt 8 1).toNat=1:=rfl;rw [e1,BitVec.toNat_ofNat,Nat.mod_eq_of_lt hl,Nat.and_one_is_mod];simp only [IntKind.wrap,IntKind.bits,IntKind.signed];simp;omega
theorem Nkk [OA] {lim:Nat} (hl:Fine l) (hd:d<VQ):NQ E mp lim 135 [.agg (encL l).toArray,Vi d] H Q=Q (TE (UR l d)) H:=by
 refine pc (by decide) Oe5 rfl XA ?_;rw [Ogh,Oa4];rw [WO] at hd;have h:=hl.by;unfold By at h;have j:Int.tmod (d:Int) 7=((d % 7:Nat):Int):=rfl;have g:¬(((d % 7:Nat):Int)<0):=by omega
 have c:=Obq (a:=l.days) (k:=d % 7) h.1 h.2 (by omega);have m:=hl;unfold Fine at m;have w1:IntKind.i64.wrap (1440*(d:Int))=1440*(d:Int):=NR (by omega) (by omega);have w2:IntKind.i64.wrap (1440*(d:Int)+l.dep)=1440*(d:Int)+l.dep:=NR (by omega) (by omega);have n:IntKind.i64.wrap (1440*(d:Int)+l.dep-l.cut)=1440*(d:Int)+l.dep-l.cut:=NR (by omega) (by omega);have o:IntKind.i64.wrap (1440*(d:Int)+l.dep+l.mins)=1440*(d:Int)+l.dep+l.mins:=NR (by omega) (by omega);have hr:runs l.days d=(l.days.toNat / 2 ^ (d % 7) % 2 == 1):=rfl;have i:l.days.toNat / 2 ^ (d % 7) % 2<2:=P6 _ (by decide);generalize l.days.toNat / 2 ^ (d % 7) % 2=b at c hr i;change IntKind.u8.wrap ((BitVec.ofInt (IntKind.bits .u8) (l.days.fdiv (2 ^ (min (d % 7) (IntKind.bits .u8)))) &&& BitVec.ofInt (IntKind.bits .u8) 1).toNat:Int)=((b:Nat):Int) at c;have f:goes l d=((b == 1)&&decide (0<=1440*(d:Int)+l.dep-l.cut)&&decide (1440*(d:Int)+l.dep+l.mins<=1051898399)):=by unfold goes NV;rw [hr]
 simp only [n135,VO,Nkj,j,g,c,w1,w2,SB,seval,NL,NH,NG,place,NB]
 repeat' ((first | refine Xl (fun e=>?_) (fun e=>?_) | refine XE (fun e=>?_) (fun e=>?_) | refine Xm (fun e=>?_) (fun e=>?_) | refine XF (fun e=>?_) (fun e=>?_))<;>(try simp only [e,n135,Oeb,Xd,UQ,n,o,SB,Nat.reduceLT,NL,Nat.reduceEqDiff,NH,NB,Nat.reduceAdd,NC]))
 ·obtain rfl:b=0:=by omega
  rw [UR,f];rfl
 ·obtain rfl:b=1:=by omega
  rw [UR,f,Nw (by omega)];rfl
 ·obtain rfl:b=1:=by omega
  rw [UR,f,Nw (p:=_<=(1051898399:Int)) (by omega),Bool.and_false];rfl
 ·obtain rfl:b=1:=by omega
  rw [UR,f,Nj (p:=_<=(1051898399:Int)) (by omega),Nj (by omega)];rfl
theorem N0b:RH true (Vi a) [Vi b]=some (Vi (max a b)):=by
 simp only [RH,WT,if_true];congr 2;split<;>omega
theorem Nz9:RH false (Vi a) [Vi b]=some (Vi (min a b)):=by
 simp only [RH,WT,if_true];simp only [N3,if_false];congr 2;split<;>omega
theorem WX {p:Nat} {v:Value}:Tx fr [p] [v]=upd fr p v:=rfl
def Pre (l:Leg) (r e s a b:Int) (ok:Bool) (x:LoopB):List Blk:=[Vc (encL l),Vc [Vi r],Vc [Vi a,Vi b],Vc [.bool ok],Vc (encL l),Vc [Vi e],Vc [Vi s],.dfr,.loop x]
theorem Niw [OA] {X:NA} {s:Int} {lp:LoopB} (J:Int->Prop) (F:NA->Prop) (hl:Fine l) (hs:s=1\/s=-1)
  (c:∀e X,0<=e->e<=730484->goes l e.toNat=true->J e->YB E false H.length (H.length+8) [.agg #[Vi (1440*e+l.dep),Vi (1440*e+l.dep+l.mins)]] (H++(Pre l r e s 0 0 false lp++X)) fun v H'=>(v=.bool true/\J (e+s)/\∃u,H'=H++(Pre l r e s 0 0 false lp++u))\/(v=.bool false/\F H'))
  (i:∀e,0<=e->e<=730484->goes l e.toNat=false->J e->J (e+s))
  (f:∀e X,J e->¬(0<=e/\e<=730484)->Q (.tuple #[]) (H++(Pre l r e s 0 0 false lp++X)))
  (y:∀H',F H'->Q (.tuple #[]) H') (x:J e) (he:-2<=e/\e<=2 ^ 40) :
  NQ E false H.length 134 [.func (.yield (H.length+8)) #[] #[],Vp (H.length+5),Vp (H.length+6),Vp (H.length+4)] (H++(Pre l r e s 0 0 false lp++X)) Q:=by
 rw [Wp (E:=E) (by simp [E,effS,OA.effN,OA.srtN,orc]) (show E.tr 134=some Nxh from Oe6) rfl rfl,Ogi,Oa5];simp only [SB,seval];refine NP (fun e:Int=>if s=1 then (730485-e).toNat else (e+1).toNat) (fun e fr G=>J e/\-2<=e/\e<=2 ^ 40/\fr 0=.func (.yield (H.length+8)) #[] #[]/\fr 1=Vp (H.length+5)/\fr 2=Vp (H.length+6)/\fr 3=Vp (H.length+4)/\∃X,G=H++(Pre l r e s 0 0 false lp++X)) e
  ⟨x,he.1,he.2,rfl,rfl,rfl,rfl,X,rfl⟩ ?_
 rintro e fr G ⟨n,b1,b2,o,g,k,m,X,rfl⟩ hN;rw [NU N1b.eq_1];have w:IntKind.i64.wrap (e+s)=e+s:=NR (by omega) (by omega);by_cases h1:0<=e
 ·by_cases h2:e<=730484
  ·obtain ⟨d,rfl⟩:∃d:Nat,e=(d:Int):=⟨e.toNat,by omega⟩
   have a:=fun (H:NA) (mp:Bool) (lim:Nat) (Q:Value->NA->Prop)=>Nkk (mp:=mp) (lim:=lim) (H:=H) (Q:=Q) (l:=l) (d:=d) hl (by rw [WO];omega)
   have b:∀j:Int,j=(d:Int)+s->(if s=1 then (730485-j).toNat else (j+1).toNat)<(if s=1 then (730485-(d:Int)).toNat else ((d:Int)+1).toNat):=by
    intro j h;subst h;rcases hs with rfl | rfl
    ·simp;omega
    ·simp;omega
   cases hg:goes l d with
   | false=>
     have q:UR l d=none:=by unfold UR;rw [hg];rfl
     rw [q] at a;simp only [TE] at a;simp only [n134,g,k,m,h1,h2,Pre,a,NZ,NK,U8,Vx,MS,w,SB,seval,NF,NL,NH,place,NB];exact hN ((d:Int)+s) _ _ ⟨i _ h1 h2 (by simpa using hg) n,by omega,by omega,o,g,k,m,_,rfl⟩ (b _ rfl)
   | true=>
     have t:UR l d=some (1440*(d:Int)+l.dep,1440*(d:Int)+l.dep+l.mins):=by unfold UR;rw [hg];rfl
     rw [t] at a;simp only [TE] at a;simp only [n134,o,g,m,h1,h2,Pre,a,NZ,NK,U8,Vx,MS,SB,seval,NF,NL,NH,reduceCtorEq,place,NB];refine (c _ _ h1 h2 (by simpa using hg) n).mono fun v H' A=>?_
     rcases A with ⟨rfl,p,u,rfl⟩ | ⟨rfl,z⟩
     ·simp only [n134,g,k,Pre,Vx,w,SB,seval,NL,NH,RN,NB];exact hN ((d:Int)+s) _ _ ⟨p,by omega,by omega,o,g,k,m,_,rfl⟩ (b _ rfl)
     ·refine NJ ?_;simp only [n134,N9s,SB,seval,NL,RN];rw [Na];exact y _ z
  ·simp only [n134,N9s,g,h1,h2,Pre,SB,seval,NL,NH];exact f e X n (by omega)
 ·simp only [n134,N9s,g,h1,Pre,SB,seval,NL,NH];exact f e X n (by omega)
theorem Mc [OA] {lim:Nat} {s:Int}:NQ E false lim 105 [.agg (encL l).toArray,Vi e,Vi s] H Q=Q (.func (.func 134) #[] #[Vp (H.length+1),Vp (H.length+2),Vp H.length]) (H++[Vc (encL l),Vc [Vi e],Vc [Vi s]]):=by
 rw [Wp (E:=E) (by simp [E,effS,OA.effN,OA.srtN,orc]) (show E.tr 105=some a105 from Ofu) rfl rfl,Og6,c105];rw [<-Na H];simp only [n105,Oeh,SB,seval,NL,NG,place,NB,NC]
theorem Nvp:R7 l r=R7 l (max r 0):=by
 unfold R7 Z7;congr 2;funext d;cases hg:goes l d with
 | false=>rfl
 | true=>
   simp only [Bool.true_and];unfold goes at hg;simp only [N2,N6] at hg;rw [decide_eq_decide];omega
theorem Ne1 (hl:Fine l) (h:NV<r):R7 l r=none:=by
 cases hx:R7 l r with
 | none=>rfl
 | some a=>
   obtain ⟨⟨d,_,b,rfl⟩,h2,_⟩:=Rz hx;unfold goes at b;simp only [N2,N6] at b;unfold Fine at hl;omega
theorem Ne2 (hd:d<VQ) (c:goes l d=true) (hr:r<=1440*(d:Int)+l.dep-l.cut) (b:∀a:Nat,a<d->¬(goes l a=true/\r<=1440*(a:Int)+l.dep-l.cut)):R7 l r=some (1440*(d:Int)+l.dep):=by
 unfold R7 Z7;have:(List.range VQ).find? (fun (d:Nat)=>goes l d&&decide (r<=1440*(d:Int)+l.dep-l.cut))=some d:=by
  rw [find_range];refine ⟨by simp [c,hr],hd,fun j e=>?_⟩;have:=b j e;simp only [Bool.and_eq_false_iff,decide_eq_false_iff_not];cases hgj:goes l j with
  | false=>exact .inl rfl
  | true=>exact .inr fun h=>this ⟨hgj,h⟩
 rw [this];rfl
theorem Nmq (b:∀a:Nat,a<VQ->¬(goes l a=true/\r<=1440*(a:Int)+l.dep-l.cut)):R7 l r=none:=by
 unfold R7 Z7;rw [Option.map_eq_none_iff,VL];intro j c;have:=b j c;simp only [Bool.and_eq_false_iff,decide_eq_false_iff_not];cases hgj:goes l j with
 | false=>exact .inl rfl
 | true=>exact .inr fun h=>this ⟨hgj,h⟩
theorem Nz6 [OA] (hl:Fine l) (q:0<=r) (m:r<=NV) (he:e=(r+l.cut) / 1440) (f2:fr0 2=Vp H.length) (f3:fr0 3=Vp (H.length+1)) (f4:fr0 4=Vp (H.length+2)) (f5:fr0 5=Vp (H.length+3))
  (hm:marks (K'++[.mark (H.length+7)])=[H.length+7])
  (g:∀(e:Int) (X:NA),PT E a68 H.length (K'++[.mark (H.length+7)]) fr0 (H++[Vc (encL l),Vc [Vi r],Vc [Vi 0,Vi 0],Vc [.bool false],Vc (encL l),Vc [Vi e],Vc [Vi 1],.dfr,.dead]++X) fun v' _=>v'=TE none) :
  NQ E false H.length 134 [.func (.yield (H.length+8)) #[] #[],Vp (H.length+5),Vp (H.length+6),Vp (H.length+4)] (H++(Pre l r e 1 0 0 false ⟨0,none,fr0,36,[26],Nfk,Nfi⟩++[])) fun _ n=>
   YF (NE n (H.length+7+1)) fun x=>PT E a68 H.length (YS x++(K'++[.mark (H.length+7)])) fr0 (n.set (H.length+7+1) .dead) fun v' _=>v'=TE ((R7 l r).map fun a=>(a,a+l.mins)):=by
 have o:=hl;unfold Fine at o;unfold NV at m;refine Niw (fun e=>0<=e/\∀d:Nat,(d:Int)<e->¬(goes l d=true/\r<=1440*(d:Int)+l.dep-l.cut))
  (fun G=>∃(X:NA) (e a:Int),R7 l r=some a/\G=H++(Pre l r e 1 a (a+l.mins) true ⟨2,some .retM,fr0,36,[26],Nfk,Nfi⟩++X)) hl (.inl rfl) ?_ ?_ ?_ ?_ ⟨by omega,fun d hd h=>by omega⟩ ⟨by omega,by omega⟩
 ·rintro e X h1 h2 k ⟨_,i⟩;obtain ⟨d,rfl⟩:∃d:Nat,e=(d:Int):=⟨e.toNat,by omega⟩
  rw [N1] at k;rw [XK (x:=⟨0,none,fr0,36,[26],Nfk,Nfi⟩) (by rw [NY];rfl) (by omega) rfl rfl,WX];rw [NU Nfk.eq_1];have c:H.length<=H.length+8:=by omega
  simp only [Pre,U8,Vx,MS,c,SB,seval,NL,place,NB];rw [NU Nfi.eq_1];have w1:IntKind.i64.wrap (1440*(d:Int)+l.dep-l.cut)=1440*(d:Int)+l.dep-l.cut:=NR (by omega) (by omega);by_cases h:r<=1440*(d:Int)+l.dep-l.cut
  ·simp only [f2,f3,f4,f5,UQ,U8,Vx,c,w1,h,SB,seval,NL,NH,NB];exact .inr ⟨_,(d:Int),_,Ne2 (by rw [WO];omega) k h (fun b f=>i b (by omega)),rfl⟩
  ·simp only [f2,f3,UQ,U8,Vx,c,w1,h,SB,seval,NL,NH];refine .inl ⟨⟨by omega,fun b f j=>?_⟩,_,rfl⟩;rcases Int.lt_or_le (b:Int) (d:Int) with h3 | h3
   ·exact i b h3 j
   ·obtain rfl:b=d:=by omega
    exact h j.2
 ·rintro e h1 h2 k ⟨_,i⟩;refine ⟨by omega,fun b f j=>?_⟩;rcases Int.lt_or_le (b:Int) e with h3 | h3
  ·exact i b h3 j
  ·obtain rfl:b=e.toNat:=by omega
   rw [k] at j;simp at j
 ·rintro e X ⟨_,i⟩ p;have hn:R7 l r=none:=Nmq fun b f=>by rw [WO] at f;exact i b (by omega)
  rw [hn];simp only [Pre,SB,seval];have:=g e X;simp only [No,Ox,Og] at this;exact this
 ·rintro G ⟨X,e,a,hn,rfl⟩;rw [hn];show YF _ _;have c:H.length<=H.length+7:=by omega
  simp only [Pre,Ny,SB,seval];show PT E a68 H.length (.code .retM::(K'++[.mark (H.length+7)])) fr0 _ _;simp only [hm,f4,f5,r68,c,TE,SB,seval,NC]
theorem Ns1 [OA] {lim:Nat} (hl:Fine l) (hr:-2 ^ 63<=r) (m:r<2 ^ 63):NQ E mp lim 68 [.agg (encL l).toArray,Vi r] H Q=Q (TE ((R7 l r).map fun a=>(a,a+l.mins))) H:=by
 refine pc (by decide) rfl rfl XA ?_;rw [b68,c68];have k:=hl;unfold Fine at k;have h:=fun (H:NA) (mp:Bool) (lim:Nat) (Q:Value->NA->Prop)=>Nej (mp:=mp) (lim:=lim) (H:=H) (Q:=Q) hl.by
 rw [Nj hl] at h;by_cases hm:NV<r
 ·rw [Ne1 hl hm];unfold NV at hm;simp only [n68,r68,h,NZ,NK,hm,Oo,TE,SB,seval,NF,NL,NH,RN,NG,place,NB,NC]
 ·rw [Nvp];unfold NV at hm;have w1:IntKind.i64.wrap (max r 0+l.cut)=max r 0+l.cut:=NR (by omega) (by omega);have w2:IntKind.i64.wrap (Int.tdiv (max r 0+l.cut) 1440)=(max r 0+l.cut) / 1440:=by
   rw [O5 (by omega)];exact NR (by omega) (by omega)
  have i:∀a b c d e f g:Blk,(H++[a,b,c,d,e,f,g]).length=H.length+7:=by intros;simp
  simp only [n68,h,NZ,UQ,NK,hm,N0b,w1,w2,Mc,SB,seval,NF,NL,NH,RN,NG,place,NB];rw [i];refine Nz6 hl (by omega) (by unfold NV;omega) rfl rfl rfl rfl rfl rfl fun e X=>?_
  have j:H.length<=H.length+7:=by omega
  show PT E a68 H.length (.inBlock 0::.code _::.code .retM::.mark (H.length+7)::[]) _ _ _;simp only [n68,r68,j,TE,SB,seval,NL,NB,NC]
theorem Nvy:Tj l b=Tj l (min b NV):=by
 unfold Tj Ndq;congr 3;funext d;cases hg:goes l (VQ-1-d) with
 | false=>rfl
 | true=>
   simp only [Bool.true_and];unfold goes at hg;simp only [N2,N6] at hg;rw [decide_eq_decide];omega
theorem N0o (hd:d<VQ) (g:goes l d=true) (f:1440*(d:Int)+l.dep+l.mins<=b) (e:∀c:Nat,d<c->c<VQ->¬(goes l c=true/\1440*(c:Int)+l.dep+l.mins<=b)):Tj l b=some (1440*(d:Int)+l.dep):=by
 cases hx:Tj l b with
 | none=>exact absurd f (by have:=Ne9 hx _ ⟨d,hd,g,rfl⟩;omega)
 | some a=>
   obtain ⟨⟨c,h1,h2,rfl⟩,i,j⟩:=TS hx;have:=j _ ⟨d,hd,g,rfl⟩ f;rcases Od d c with h | h
   ·exact absurd ⟨h2,i⟩ (e c h h1)
   ·rw [show c=d by omega]
theorem Nna (d:∀c:Nat,c<VQ->¬(goes l c=true/\1440*(c:Int)+l.dep+l.mins<=b)):Tj l b=none:=by
 cases hx:Tj l b with
 | none=>rfl
 | some a=>
   obtain ⟨⟨c,h1,h2,rfl⟩,e,f⟩:=TS hx;exact absurd ⟨h2,e⟩ (d c h1)
theorem N0n [OA] (hl:Fine l) (q:l.dep+l.mins<=r) (m:r<=NV) (he:e=(r-l.mins) / 1440) (f2:fr0 2=Vp H.length) (f3:fr0 3=Vp (H.length+1)) (f4:fr0 4=Vp (H.length+2)) (f5:fr0 5=Vp (H.length+3))
  (hm:marks (K'++[.mark (H.length+7)])=[H.length+7])
  (g:∀(e:Int) (X:NA),PT E Nkw H.length (K'++[.mark (H.length+7)]) fr0 (H++[Vc (encL l),Vc [Vi r],Vc [Vi 0,Vi 0],Vc [.bool false],Vc (encL l),Vc [Vi e],Vc [Vi (-1)],.dfr,.dead]++X) fun v' _=>v'=TE none) :
  NQ E false H.length 134 [.func (.yield (H.length+8)) #[] #[],Vp (H.length+5),Vp (H.length+6),Vp (H.length+4)] (H++(Pre l r e (-1) 0 0 false ⟨0,none,fr0,38,[31],Nan,Nam⟩++[])) fun _ n=>
   YF (NE n (H.length+7+1)) fun x=>PT E Nkw H.length (YS x++(K'++[.mark (H.length+7)])) fr0 (n.set (H.length+7+1) .dead) fun v' _=>v'=TE ((Tj l r).map fun a=>(a,a+l.mins)):=by
 have o:=hl;unfold Fine at o;unfold NV at m;refine Niw (fun e=>e<=730484/\∀d:Nat,e<(d:Int)->¬(goes l d=true/\1440*(d:Int)+l.dep+l.mins<=r))
  (fun G=>∃(X:NA) (e a:Int),Tj l r=some a/\G=H++(Pre l r e (-1) a (a+l.mins) true ⟨2,some .retM,fr0,38,[31],Nan,Nam⟩++X)) hl (.inr rfl) ?_ ?_ ?_ ?_ ⟨by omega,fun d hd h=>by omega⟩ ⟨by omega,by omega⟩
 ·rintro e X h1 h2 k ⟨_,i⟩;obtain ⟨d,rfl⟩:∃d:Nat,e=(d:Int):=⟨e.toNat,by omega⟩
  rw [N1] at k;rw [XK (x:=⟨0,none,fr0,38,[31],Nan,Nam⟩) (by rw [NY];rfl) (by omega) rfl rfl,WX];rw [NU Nan.eq_1];have b:H.length<=H.length+8:=by omega
  simp only [Pre,U8,Vx,MS,b,SB,seval,NL,place,NB];rw [NU Nam.eq_1];by_cases h:1440*(d:Int)+l.dep+l.mins<=r
  ·simp only [f3,f4,f5,U8,Vx,b,h,SB,seval,NL,NH,NB];exact .inr ⟨_,(d:Int),_,N0o (by rw [WO];omega) k h (fun c f _=>i c (by omega)),rfl⟩
  ·simp only [f3,U8,Vx,b,h,SB,seval,NL,NH];refine .inl ⟨⟨by omega,fun c f j=>?_⟩,_,rfl⟩;rcases Int.lt_or_le (d:Int) (c:Int) with h3 | h3
   ·exact i c h3 j
   ·obtain rfl:c=d:=by omega
    exact h j.2
 ·rintro e h1 h2 k ⟨_,i⟩;refine ⟨by omega,fun c f j=>?_⟩;rcases Int.lt_or_le e (c:Int) with h3 | h3
  ·exact i c h3 j
  ·obtain rfl:c=e.toNat:=by omega
   rw [k] at j;simp at j
 ·rintro e X ⟨b,i⟩ p;have hn:Tj l r=none:=Nna fun c f=>i c (by omega)
  rw [hn];simp only [Pre,SB,seval];have:=g e X;simp only [No,Ox,Og] at this;exact this
 ·rintro G ⟨X,e,a,hn,rfl⟩;rw [hn];show YF _ _;have b:H.length<=H.length+7:=by omega
  simp only [Pre,Ny,SB,seval];show PT E Nkw H.length (.code .retM::(K'++[.mark (H.length+7)])) fr0 _ _;simp only [hm,f4,f5,N9x,b,TE,SB,seval,NC]
theorem N58 [OA] {lim:Nat} (hl:Fine l) (hr:-2 ^ 63<=r) (o:r<2 ^ 63):NQ E mp lim 100 [.agg (encL l).toArray,Vi r] H Q=Q (TE ((Tj l r).map fun a=>(a,a+l.mins))) H:=by
 refine pc (by decide) Ofy rfl XA ?_;rw [Oha,Obp];have m:=hl;unfold Fine at m;have h:=fun (H:NA) (mp:Bool) (lim:Nat) (Q:Value->NA->Prop)=>Nej (mp:=mp) (lim:=lim) (H:=H) (Q:=Q) hl.by
 rw [Nj hl] at h;have k:IntKind.i64.wrap (l.dep+l.mins)=l.dep+l.mins:=NR (by omega) (by omega);by_cases hm:r<l.dep+l.mins
 ·have:Tj l r=none:=Nna fun p n q=>by omega
  rw [this];simp only [n100,N9x,h,NZ,VO,Xd,NK,hm,k,Oo,TE,SB,seval,NF,NL,NH,RN,NG,place,NB,NC]
 ·rw [Nvy];unfold NV;have w1:IntKind.i64.wrap (min r 1051898399-l.mins)=min r 1051898399-l.mins:=NR (by omega) (by omega);have w2:IntKind.i64.wrap (Int.tdiv (min r 1051898399-l.mins) 1440)=(min r 1051898399-l.mins) / 1440:=by
   rw [O5 (by omega)];exact NR (by omega) (by omega)
  have i:∀a b c d e f g:Blk,(H++[a,b,c,d,e,f,g]).length=H.length+7:=by intros;simp
  simp only [n100,h,NZ,VO,Xd,NK,hm,k,Nz9,w1,w2,Mc,SB,seval,NF,NL,NH,RN,NG,place,NB];rw [i];refine N0n hl (by omega) (by unfold NV;omega) rfl rfl rfl rfl rfl rfl fun e X=>?_
  have j:H.length<=H.length+7:=by omega
  show PT E Nkw H.length (.inBlock 0::.code _::.code .retM::.mark (H.length+7)::[]) _ _ _;simp only [n100,N9x,j,TE,SB,seval,NL,NB,NC]
def netV (pp:Option Addr) (np cp:Nat) (pl:Option Addr) (nl cl:Nat):List Value:=[.slice pp np cp,.slice pl nl cl]
theorem OG:(netV pp np cp pl nl cl).length=2:=id rfl
theorem Rw:(netV pp np cp pl nl cl)[0]? = some (.slice pp np cp):=id rfl
theorem QE:(netV pp np cp pl nl cl)[1]? = some (.slice pl nl cl):=id rfl
structure NetIn (H:NA) (pp pl:Option Addr) (P:List Int) (L:List Leg):Prop where
 sp:Sl H encI 1 pp P
 sl:Sl H encL 8 pl L
 np:P.length<2 ^ 63
 nl:L.length<2 ^ 63
 bys:∀l∈L,By l
theorem NetIn.app (h:NetIn H pp pl P L) (X:NA):NetIn (H++X) pp pl P L:=⟨h.sp.app X,h.sl.app X,h.np,h.nl,h.bys⟩
theorem NetIn.ext (h:NetIn H pp pl P L) (e:OD H G):NetIn G pp pl P L:=⟨e.sl h.sp,e.sl h.sl,h.np,h.nl,h.bys⟩
def U0 (ks:List Int):List (Value×Value):=ks.map fun k=>(Vi k,.bool true)
theorem Nj5 {i:Nat} (h:a∉ks):findKey (Vi a) (U0 ks) i=some none:=by
 unfold U0;exact Yi (f:=fun k:Int=>k) (g:=fun _=>.bool true) fun x b e=>h (e▸b)
theorem Ndo {i:Nat} (h:a∈ks):∃j,findKey (Vi a) (U0 ks) i=some (some (j,.bool true)):=by
 unfold U0;exact Ze (f:=fun k:Int=>k) (g:=fun _=>.bool true) ⟨a,h,rfl⟩ fun _ _ _=>rfl
theorem Ns2:U0 ks++[(Vi a,.bool true)]=U0 (ks++[a]):=by simp [U0]
def pOk (P:List Int) (i:Nat):Prop:=1<=gt P i/\gt P i<=999999/\gt P i∉P.take i
instance (P:List Int) (i:Nat):Decidable (pOk P i):=by unfold pOk;infer_instance
def Tf (P:List Int):Prop:=∀i,i<P.length->pOk P i
instance (P:List Int):Decidable (Tf P):=by unfold Tf;infer_instance
def lOk (P:List Int) (L:List Leg) (i:Nat):Prop:=Fine (gt L i)/\(gt L i).id∉(L.take i).map (·.id)/\(gt L i).frm∈P/\(gt L i).dst∈P
instance (P:List Int) (L:List Leg) (i:Nat):Decidable (lOk P L i):=by unfold lOk;infer_instance
def Xj (P:List Int) (L:List Leg):Prop:=∀i,i<L.length->lOk P L i
instance (P:List Int) (L:List Leg):Decidable (Xj P L):=by unfold Xj;infer_instance
def QD (P:List Int) (L:List Leg):Int:=if 50<P.length\/200<L.length then 5 else if ¬Tf P then 320 else if ¬Xj P L then 321 else 0
theorem No4 [OA] {v:Value} (hn:NetIn G pp pl P L) (aa:NE G R=Vc (netV pp P.length cp pl L.length cl))
  (hm:NE G (R+1)=.map (U0 P)) (hR:H.length<=R) (f1:fr 1=Vp R) (f3:fr 3=.map (some (R+1))) (Y:fr 6=.map (some G.length)) (N:fr 49=.slice pl L.length cl) (O:fr 50=Vi L.length) (S:fr 51=Vi 0)
  (C:¬Xj P L->v=Vi 321)
  (T:∀fr' G',Xj P L->PT E a12 H.length K fr' (G'++[]) fun v' _=>v'=v) :
  PT E a12 H.length (.code (.loop N1c)::.inBlock 2::K) fr (G++[.map []]) fun v' _=>v'=v:=by
 have V:=PW hm;refine NP (fun i=>L.length-i) (fun i fr G'=>i<=L.length/\fr 3=.map (some (R+1))/\fr 6=.map (some G.length)/\fr 49=.slice pl L.length cl/\fr 50=Vi L.length/\fr 51=Vi i/\
  G.length<G'.length/\Sl G' encL 8 pl L/\NE G' (R+1)=.map (U0 P)/\NE G' G.length=.map (U0 ((L.take i).map (·.id)))/\∀j,j<i->lOk P L j) 0
  ⟨Np _,f3,Y,N,O,S,by simp,hn.sl.app _,by rw [NS V];exact hm,NN,fun j x=>by omega⟩ ?_
 intro i fr G' ⟨hi,I,B,m,f,n,hL,A,u,F,w⟩ hN;rw [NU N1c.eq_1];refine NJ ?_;by_cases a:i<L.length
 ·have Z:=Nat.le_of_lt hL;have U:=hn.bys _ (PM a);have z:∀X,NE (G'++X) (R+1)=.map (U0 P):=fun X=>by rw [NS (PW u)];exact u
  have t:∀X,NE (G'++X) G.length=.map (U0 ((L.take i).map (·.id))):=fun X=>by rw [NS hL];exact F
  have o:=fun X=>(A.app X).loadCells NZ a
  have d:=fun c (k:IntKind) (H1:NA)=>A.idx (c:=c) (k:=k) (H1:=H1) a
  have W:IntKind.i64.wrap ((i:Int)+1)=((i+1:Nat):Int):=OC (by have:=hn.nl;omega);have D:H.length<=G.length:=by omega
  have e:H.length<=G'.length:=by omega
  have g:=fun (H:NA) (mp:Bool) (lim:Nat) (Q:Value->NA->Prop)=>Nej (mp:=mp) (lim:=lim) (H:=H) (Q:=Q) U
  have p:¬lOk P L i->v=Vi 321:=fun h=>C fun hh=>h (hh i a)
  by_cases M:Fine (gt L i)
  ·rw [Nj M] at g;by_cases l:(gt L i).id∈(L.take i).map (·.id)
   ·obtain ⟨j,x⟩:=Ndo (i:=0) l;simp only [n12,r12,B,m,f,n,a,d,o,t,x,g,NZ,RY,NK,e,SB,seval,NF,NL,NH,RN,place,NB,NC];exact (p fun h=>h.2.1 l).symm
   ·have x:=Nj5 (i:=0) l;by_cases r:(gt L i).frm∈P
    ·obtain ⟨j1,s⟩:=Ndo (i:=0) r;by_cases q:(gt L i).dst∈P
     ·obtain ⟨j2,y⟩:=Ndo (i:=0) q;simp only [n12,I,B,m,f,n,a,d,o,W,t,z,x,s,y,g,NZ,RY,QR,R3,NK,D,e,SB,seval,NF,NL,NH,RN,place,NB];refine hN (i+1) _ _ ⟨by omega,I,B,m,f,rfl,by simp;omega, ?_, ?_, ?_,fun j x=>?_⟩ (by omega)
      ·refine A.sim fun b ro c J=>?_
       rw [QC (by rintro rfl;rw [F] at J;cases J),NS (NM J)];exact J
      ·rw [QC (by omega),NS (PW u)];exact u
      ·rw [Rv (by simp;omega),Ns2,Wi a,O7];rfl
      ·rcases Od j i with h | h
       ·exact w j h
       ·obtain rfl:j=i:=by omega
        exact ⟨M,l,r,q⟩
     ·have y:=Nj5 (i:=0) q;simp only [n12,r12,I,B,m,f,n,a,d,o,t,z,x,s,y,g,NZ,RY,QR,R3,NK,e,SB,seval,NF,NL,NH,RN,place,NB,NC];exact (p fun h=>q h.2.2.2).symm
    ·have s:=Nj5 (i:=0) r;simp only [n12,r12,I,B,m,f,n,a,d,o,t,z,x,s,g,NZ,RY,QR,NK,e,SB,seval,NF,NL,NH,RN,place,NB,NC];exact (p fun h=>r h.2.2.1).symm
  ·rw [Nw M] at g;simp only [n12,r12,m,f,n,a,d,o,g,NZ,NK,e,SB,seval,NF,NL,NH,RN,place,NB,NC];exact (p fun h=>M h.1).symm
 ·obtain rfl:i=L.length:=by omega
  simp only [n12,f,n,a,SB,seval,NL,NH];exact T _ _ w
theorem Ndy [OA] {lim:Nat} (hn:NetIn H pp pl P L) :
  NQ E mp lim 12 [.agg (netV pp P.length cp pl L.length cl).toArray] H Q=Q (Vi (QD P L)) H:=by
 refine pc (by decide) rfl rfl rfl ?_;rw [b12,c12];by_cases s:50<(P.length:Int)
 ·simp only [n12,r12,Rw,s,SB,seval,NL,NH,NG,place,NB,NC];rw [QD,Nl (by omega)]
 by_cases o:200<(L.length:Int)
 ·simp only [n12,r12,Rw,QE,s,o,SB,seval,NL,NH,NG,place,NB,NC];rw [QD,Nl (by omega)]
 simp only [n12,Rw,QE,s,o,SB,seval,NL,NH,NG,place,NB];have y:QD P L=if ¬Tf P then 320 else if ¬Xj P L then 321 else 0:=by rw [QD,Ng (by omega)]
 refine NP (fun i=>P.length-i) (fun i fr G=>i<=P.length/\fr 1=Vp H.length/\fr 3=.map (some (H.length+1))/\fr 24=.slice pp P.length cp/\fr 25=Vi P.length/\fr 26=Vi i/\
  H.length+1<G.length/\Sl G encI 1 pp P/\Sl G encL 8 pl L/\NE G H.length=Vc (netV pp P.length cp pl L.length cl)/\NE G (H.length+1)=.map (U0 (P.take i))/\∀j,j<i->pOk P j) 0
  ⟨Np _,rfl,rfl,rfl,rfl,by rfl,by simp,hn.sp.app _,hn.sl.app _,NN,NY,fun j v=>by omega⟩ ?_
 intro i fr G ⟨hi,h1,z,g,f,l,hL,n,x,u,hm,p⟩ hN;rw [NU N88.eq_1];refine NJ ?_;have C:=zc u;have w:∀X,NE (G++X) (H.length+1)=.map (U0 (P.take i)):=fun X=>by rw [NS hL];exact hm
 have B:H.length<=H.length+1:=by omega
 by_cases a:i<P.length
 ·have m:=fun X=>(n.app X).loadCell0 OT a (by decide)
  simp only [encI,Oq] at m;have d:=fun c (k:IntKind) (H1:NA)=>n.idx (c:=c) (k:=k) (H1:=H1) a
  have D:IntKind.i64.wrap ((i:Int)+1)=((i+1:Nat):Int):=OC (by omega);have r:¬pOk P i->QD P L=320:=fun h=>by rw [y,Nl fun I=>h (I i a)]
  by_cases A:gt P i<1
  ·simp only [n12,r12,g,f,l,a,d,m,A,SB,seval,NL,NH,NC];rw [r fun h=>by have:=h.1;omega]
  ·by_cases q:999999<gt P i
   ·simp only [n12,r12,g,f,l,a,d,m,A,q,SB,seval,NL,NH,NC];rw [r fun h=>by have:=h.2.1;omega]
   ·by_cases e:gt P i∈P.take i
    ·obtain ⟨j,v⟩:=Ndo (i:=0) e;simp only [n12,r12,z,g,f,l,a,d,m,w,A,q,v,SB,seval,NL,NH,NC];rw [r fun h=>h.2.2 e]
    ·have v:=Nj5 (i:=0) e;simp only [n12,z,g,f,l,a,d,m,D,w,A,q,v,B,SB,seval,NL,NH];have t:∀b ro c,NE G b=.cells ro c->NE ((G++[]).set (H.length+1) (.map (U0 (P.take i)++[(Value.int .i64 (gt P i),Value.bool true)]))) b=.cells ro c:=fun b ro c q=>by
      rw [QC (by rintro rfl;rw [hm] at q;cases q),NS (NM q)];exact q
     refine hN (i+1) _ _ ⟨by omega,h1,z,g,f,rfl,by simp;omega,n.sim t,x.sim t,t _ _ _ u, ?_,fun j v=>?_⟩ (by omega)
     ·rw [Rv (by simp;omega),Ns2,Wi a]
     ·rcases Od j i with h | h
      ·exact p j h
      ·obtain rfl:j=i:=by omega
       exact ⟨by omega,by omega,e⟩
 ·obtain rfl:i=P.length:=by omega
  rw [N9] at hm;have F:Tf P:=p;rw [Ng (by simpa using F)] at y;simp only [n12,h1,f,l,a,C,QE,SB,seval,NL,NH,place];refine No4 (H:=H) (R:=H.length) (G:=G) ⟨n,x,hn.np,hn.nl,hn.bys⟩ u hm (Nf _) h1 z rfl rfl rfl rfl (fun h=>by rw [y,Nl h]) fun fr' G' h=>?_
  rw [Ng (by simpa using h)] at y;rw [y];simp only [n12,r12,SB,seval,NL,NC]
def WY (P:List Int):List (Value×Value):=P.map fun p=>(Vi p,Vi (P.idxOf p:Int))
theorem Vy {i:Nat} (h:a∈P):∃j,findKey (Vi a) (WY P) i=some (some (j,Vi (P.idxOf a:Int))):=by
 unfold WY;exact Ze (f:=fun k:Int=>k) (g:=fun k=>Vi (P.idxOf k:Int)) ⟨a,h,rfl⟩ fun x _ e=>by rw [e]
theorem Npy {i:Nat} (h:a∉P):findKey (Vi a) (WY P) i=some none:=by
 unfold WY;exact Yi (f:=fun k:Int=>k) (g:=fun k=>Vi (P.idxOf k:Int)) fun x b e=>h (e▸b)
theorem Tf.idx (h:Tf P) {i:Nat} (hi:i<P.length):P.idxOf (gt P i)=i:=by
 have h1:=(h i hi).2.2;have h2:P.idxOf (gt P i)<=i:=by
  rw [OQ hi];apply Oe;intro hc;have:=List.not_of_lt_findIdx (xs:=P) (p:=(· == P[i])) (i:=i) (by unfold List.idxOf at hc;omega);simp at this
 rcases Od (P.idxOf (gt P i)) i with h3 | h3
 ·exfalso;apply h1;have hm:gt P i∈P:=PM hi;have hl:=N4 hm;have:=Qo hl;rw [List.mem_take_iff_getElem];exact ⟨P.idxOf (gt P i),by omega,this⟩
 ·omega
theorem Njq [OA] {lim:Nat} (hn:NetIn H pp pl P L) (s:Tf P) (t:lim<=H.length)
  (u:∀H',OD H H'->NE H' (H.length+1)=.map (WY P)->Q (.map (some (H.length+1))) H') :
  NQ E false lim 97 [.agg (netV pp P.length cp pl L.length cl).toArray] H Q:=by
 refine QN (by decide) rfl rfl ?_;rw [b97,c97];simp only [n97,Rw,SB,seval,NL,NG,place,NB];refine NP (fun i=>P.length-i) (fun i fr G=>i<=P.length/\fr 3=.map (some (H.length+1))/\fr 11=.slice pp P.length cp/\fr 12=Vi P.length/\fr 13=Vi i/\
  H.length+1<G.length/\OD H G/\NE G (H.length+1)=.map ((P.take i).map fun p=>(Vi p,Vi (P.idxOf p:Int)))) 0
  ⟨Np _,rfl,rfl,rfl,by rfl,by simp,OD.refl.app,NY⟩ ?_
 intro i fr G ⟨hi,n,d,b,h,hL,m,hm⟩ hN;rw [NU N7y.eq_1];refine NJ ?_;have q:∀X,NE (G++X) (H.length+1)=.map ((P.take i).map fun p=>(Value.int .i64 p,Value.int .i64 (P.idxOf p:Int))):=fun X=>by rw [NS hL];exact hm
 have o:lim<=H.length+1:=by omega
 by_cases a:i<P.length
 ·have l:=fun X=>((m.sl hn.sp).app X).loadCell0 OT a (by decide)
  simp only [encI,Oq] at l;have j:=fun c (k:IntKind) (H1:NA)=>(m.sl hn.sp).idx (c:=c) (k:=k) (H1:=H1) a
  have r:IntKind.i64.wrap ((i:Int)+1)=((i+1:Nat):Int):=OC (by have:=hn.np;omega);have v:findKey (Vi (gt P i)) ((P.take i).map fun p=>(Vi p,Vi (P.idxOf p:Int))) 0=some none:=
   Yi (f:=fun k:Int=>k) (g:=fun k=>Vi (P.idxOf k:Int)) fun x w e=>(s i a).2.2 (e▸w)
  simp only [n97,n,d,b,h,a,j,l,r,q,v,o,SB,seval,NL,NH];refine hN (i+1) _ _ ⟨by omega,n,d,b,rfl,by simp;omega, ?_, ?_⟩ (by omega)
  ·obtain ⟨Y,rfl⟩:=m;exact ⟨(Y++[]).set 1 _,by rw [No];exact Njg⟩
  ·rw [Rv (by simp;omega),Wi a,O7];simp only [Oj,List.map_nil,s.idx a]
 ·obtain rfl:i=P.length:=by omega
  rw [N9] at hm;simp only [n97,n,b,h,a,SB,seval,NL,NH,NC];refine u _ m.app ?_;rw [NS hL];exact hm
def SI (P:List Int) (L:List Leg) (a b t:Int):Int:=if QD P L≠0 then QD P L else if a∈P/\b∈P/\0<=t/\t<=NV then 0 else 2
theorem Sg (h:QD P L=0):P.length<=50/\L.length<=200/\Tf P/\Xj P L:=by
 unfold QD at h;split at h
 ·cases h
 ·split at h
  ·cases h
  ·split at h
   ·cases h
   ·rename_i h1 h2 a;exact ⟨by omega,by omega,by simpa using h2,by simpa using a⟩
theorem VN {t:Int} (h:SI P L a b t=0):QD P L=0/\a∈P/\b∈P/\0<=t/\t<=NV:=by
 unfold SI at h;split at h
 ·contradiction
 ·rename_i d;split at h
  ·rename_i c;exact ⟨by simpa using d,c⟩
  ·cases h
theorem Ngg [OA] {lim:Nat} {t:Int} (hn:NetIn H pp pl P L) (r:lim<=H.length)
  (c:∀H',SI P L a b t≠0->OD H H'->Q (.tuple #[.map none,Vi (SI P L a b t)]) H')
  (o:∀H' R,SI P L a b t=0->OD H H'->NE H' R=.map (WY P)->H.length<=R->Q (.tuple #[.map (some R),Vi 0]) H') :
  NQ E false lim 58 [.agg (netV pp P.length cp pl L.length cl).toArray,Vi a,Vi b,Vi t] H Q:=by
 refine QN (by decide) rfl rfl ?_;rw [b58,c58];have q:=fun X (mp:Bool) (lim:Nat) (Q:Value->NA->Prop)=>Ndy (mp:=mp) (lim:=lim) (cp:=cp) (cl:=cl) (Q:=Q) (hn.app X)
 by_cases k:QD P L=0
 ·have l:¬(QD P L≠0):=by simpa using k
  obtain ⟨x,y,v,z⟩:=Sg k;rw [k] at q;simp only [n58,q,OG,NK,SB,seval,NF,NL,NH,NG,place,NB];refine Njq (hn.app _) v (by simp;omega) fun H' s hm=>?_
  have g:OD H H':=by obtain ⟨Y,rfl⟩:=s;rw [No];exact OD.refl.app
  simp only [Nk,Nm,Nn,Nx,Pq,Nat.reduceAdd] at hm⊢;have hl:=PW hm;have f:∀X,NE (H'++X) (H.length+2)=.map (WY P):=fun X=>by rw [NS hl];exact hm
  refine NJ ?_;have e2:¬(a∈P/\b∈P/\0<=t/\t<=NV)->SI P L a b t=2:=fun h=>by rw [SI,Ng l,Ng h]
  by_cases n:a∈P
  ·obtain ⟨w,e⟩:=Vy (i:=0) n;by_cases j:b∈P
   ·obtain ⟨u,d⟩:=Vy (i:=0) j;by_cases p:t<0
    ·have he:=e2 fun h=>by omega
     simp only [n58,f,e,d,p,SB,seval,NL,NH,RN,NG,NC];rw [<-he];exact c _ (by rw [he];decide) g.app
    ·by_cases m:1051898399<t
     ·have he:=e2 fun h=>by unfold NV at h;omega
      simp only [n58,f,e,d,p,m,SB,seval,NL,NH,RN,NG,NC];rw [<-he];exact c _ (by rw [he];decide) g.app
     ·have he:SI P L a b t=0:=by rw [SI,Ng l,Nl ⟨n,j,by omega,by unfold NV;omega⟩]
      simp only [n58,f,e,d,p,m,SB,seval,NL,NH,RN,NG,NC];exact o _ _ he g.app (f []) (by omega)
   ·have d:=Npy (i:=0) j;have he:=e2 fun h=>j h.2.1
    simp only [n58,f,e,d,SB,seval,NL,RN,NG,NC];rw [<-he];exact c _ (by rw [he];decide) g.app
  ·have e:=Npy (i:=0) n;have he:=e2 fun h=>n h.1
   by_cases j:b∈P
   ·obtain ⟨u,d⟩:=Vy (i:=0) j;simp only [n58,f,e,d,SB,seval,NL,RN,NG,NC];rw [<-he];exact c _ (by rw [he];decide) g.app
   ·have d:=Npy (i:=0) j;simp only [n58,f,e,d,SB,seval,NL,RN,NG,NC];rw [<-he];exact c _ (by rw [he];decide) g.app
 ·have he:SI P L a b t=QD P L:=by rw [SI,Nl k]
  simp only [n58,q,OG,NK,Nc k,SB,seval,NF,NL,NH,NG,place,NB,NC];rw [<-he];exact c _ (by rw [he];exact k) OD.refl.app
theorem find_ok [OA] {lim:Nat} (hn:NetIn H pp pl P L) :
  NQ E mp lim 33 [.agg (netV pp P.length cp pl L.length cl).toArray,Vi a] H Q=Q (match L.find? (fun l=>l.id=a) with | some l=>.tuple #[.agg (encL l).toArray,.bool true] | none=>.tuple #[.agg #[Vi 0,Vi 0,Vi 0,Vi 0,Vi 0,Vi 0,Vi 0,.int .u8 0],.bool false]) H:=by
 refine pc (by decide) rfl rfl (by cases L.find? (fun l=>l.id=a)<;>rfl) ?_;rw [b33,c33];simp only [n33,QE,SB,seval,NL,NG,place,NB];refine NP (fun i=>L.length-i) (fun i fr G=>i<=L.length/\fr 1=Vi a/\fr 4=Vp (H.length+1)/\fr 9=.slice pl L.length cl/\fr 10=Vi L.length/\fr 11=Vi i/\OD H G/\
  NE G (H.length+1)=Vc [Vi 0,Vi 0,Vi 0,Vi 0,Vi 0,Vi 0,Vi 0,.int .u8 0]/\L.find? (fun l=>l.id=a)=(L.drop i).find? (fun l=>l.id=a)) 0
  ⟨Np _,rfl,rfl,rfl,rfl,by rfl,OD.refl.app,NY,rfl⟩ ?_
 intro i fr G ⟨hi,h1,q,r,d,g,p,m,j⟩ hN;have hl:=p.len;have t:=NM m;rw [NU N8z.eq_1];refine NJ ?_;have n:=zc m;by_cases b:i<L.length
 ·have o:=fun X=>((p.sl hn.sl).app X).loadCells NZ b
  have f:=fun c (k:IntKind) (H1:NA)=>(p.sl hn.sl).idx (c:=c) (k:=k) (H1:=H1) b
  have s:IntKind.i64.wrap ((i:Int)+1)=((i+1:Nat):Int):=OC (by have:=hn.nl;omega);rw [Nip b] at j;have u:¬H.length+1=G.length:=by omega
  obtain ⟨G2,e2,h2,v⟩:=OO (NM m) (Vc (encL (gt L i)));have h:=zc h2;by_cases e:(gt L i).id=a
  ·simp only [e,decide_true,if_true] at j;simp only [n33,h1,q,r,d,g,b,f,o,n,NZ,RY,NK,hl,show H.length<=H.length+1 by omega,Nh e,NI,e2,h,SB,seval,NL,NH,place,NB,NC];rw [j]
  ·simp only [e,decide_false,N3,if_false] at j;simp only [n33,h1,r,d,g,b,f,o,s,NZ,RY,hl,Nc e,SB,seval,NL,NH,place,NB];exact hN (i+1) _ _ ⟨by omega,h1,q,r,d,rfl,p.app,(OD.refl.app).cells m,j⟩ (by omega)
 ·obtain rfl:i=L.length:=by omega
  rw [Qk,List.find?_nil] at j;obtain ⟨G2,e2,h2,v⟩:=OO (NM m) (Vc [Vi 0,Vi 0,Vi 0,Vi 0,Vi 0,Vi 0,Vi 0,.int .u8 0]);have h:=zc h2;simp only [n33,q,d,g,b,n,show H.length<=H.length+1 by omega,e2,h,SB,seval,NL,NH,NB,NC];rw [j]
def Zu (lim:Nat) (G:NA) (enc:α->List Value) (e:Nat) (p:Option Addr) (cap:Nat) (l:List α):Prop:=
 Own lim G enc e p cap l\/∃R,p=Sa R/\cap=l.length/\cap<2 ^ 62/\NE G R=Vc (l.flatMap enc)/\lim<=R
section
variable {α:Type} {lim e cap:Nat} {G:NA} {enc:α->List Value} {p:Option Addr} {l:List α}
theorem Zu.sl (h:Zu lim G enc e p cap l) (he:∀x,(enc x).length=e):Sl G enc e p l:=by
 rcases h with h | ⟨R,rfl,_,_,h,_⟩
 ·exact h.sl he
 ·exact Sl.row he h
theorem Zu.block (h:Zu lim G enc e p cap l) {a:Addr} (b:p=some a):lim<=a.block/\a.block<G.length:=by
 rcases h with h | ⟨R,rfl,_,_,h,hl⟩
 ·exact h.block b
 ·cases b;exact ⟨hl,NM h⟩
theorem Zu.chg {A:List Nat} {H':NA} (h:Zu lim G enc e p cap l) (hc:Chg A G H') (hp:∀a,p=some a->a.block∉A):Zu lim H' enc e p cap l:=by
 rcases h with h | ⟨R,rfl,h1,h2,b,c⟩
 ·exact .inl (h.chg hc hp)
 ·exact .inr ⟨R,rfl,h1,h2,hc.cells b (hp _ rfl),c⟩
theorem Zu.step {lim' bytes:Nat} (h:Zu lim G enc e p cap l) (n:lim'<=lim) (he:∀x,(enc x).length=e) (g:e≠0) (x:α) (t:(l.length+1)*bytes<=OX) (hn:l.length+1<2 ^ 61) (m:lim<=G.length)
  (X:NA) (b k:Nat) (r:NE (G++X) b=Vc (enc x)) :
  ∃G2,OP lim' none e bytes false (.slice p l.length cap) (.slice (Sa b) 1 k) (G++X)=some (.slice (Sa (G.length+X.length)) (l.length+1) (loose e),G2++[])/\
   Own lim (G2++[]) enc e (Sa (G.length+X.length)) (loose e) (l++[x])/\(∀A H0,H0.length<=lim->Chg A H0 G->Chg A H0 (G2++[]))/\(∀j,j<G.length->(∀a,p=some a->j≠a.block)->NE (G2++[]) j=NE G j)/\G2.length=G.length+X.length+1/\
   (∀j,j<X.length->NE (G2++[]) (G.length+j)=X.getD j .dead):=by
 rcases h with h | ⟨R,rfl,h1,h2,q,u⟩
 ·exact h.step n he g x t hn m X b k r
 ·have s:=NM q;have c:NE ((G++(X++[Vc ((l++[x]).flatMap enc)]))++[]) (G.length+X.length)=Vc ((l++[x]).flatMap enc):=by
   rw [Na,NY];rw [show X.length=X.length+0 from rfl,Nno];rfl
  refine ⟨G++(X++[Vc ((l++[x]).flatMap enc)]), ?_,Own.new c (by omega),fun A H0 _ hc=>(hc.app).app,fun j i _=>?_,by simp;omega,fun j i=>?_⟩
  ·have f:NE (G++X) R=Vc (l.flatMap enc):=by rw [NS s];exact q
   have d:AM.loadCells (G++X) ⟨R,0,none⟩ (l.length*e)=some (l.flatMap enc):=by
    simp only [PV,f,Nx,OW he,Nf,if_true,On];rw [Oc (by rw [OW he];exact Nf _)]
   have hl:AM.loadCells (G++X) ⟨b,0,none⟩ (1*e)=some (enc x):=by
    simp only [PV,r,Nx,Nat.one_mul,he,Nf,if_true,On];rw [Oc (by rw [he];exact Nf _)]
   subst h1;have o:¬l.length=loose e:=by unfold loose;omega
   simp only [OP,firstCells,lenOf,hl,d,if_false,N3,o,Nat.one_ne_zero];rw [Ng (by omega),Nl h2,Ng (by omega)];simp [place]
  ·rw [Na,NS i]
  ·rw [Na,NY,Nb,Oa i,Nb]
end
def i64 (n:Int):Value:=Vi n
def T50 (T:List Int):List Int:=if T.length=50 then T else List.replicate 50 0
theorem Oby (h:T.length=50):T50 T=T:=Nl h
theorem N7f (T:List Int):(T50 T).length=50:=by
 unfold T50;split
 ·assumption
 ·simp
def Sb (T:List Int):List Value:=(T50 T).map i64
theorem QF (T:List Int):(Sb T).length=50:=by simp [Sb,N7f]
theorem VZ (h:T.length=50):Sb T=T.map i64:=by rw [Sb,Oby h]
theorem WA (h:T.length=50) (a:j<50):(Sb T)[j]? = some (Vi (T.getD j (-1))):=by
 rw [VZ h,Pk,Nb,Ni (by omega)];rfl
theorem Zh (h:T.length=50):(Sb T).set j (Vi v)=Sb (T.set j v):=by
 rw [VZ h,VZ (by simpa using h),List.map_set];rfl
theorem N6j {a b:List Int} (h:a.map i64=b.map i64):a=b:=by
 induction a generalizing b with
 | nil=>cases b with
   | nil=>rfl
   | cons y b=>cases h
 | cons x a ih=>cases b with
   | nil=>cases h
   | cons y b=>
     simp only [Oj,List.cons.injEq,i64,Value.int.injEq,Rh] at h;rw [h.1,ih h.2]
theorem N2n {a b:List Int} (c:a.length=50) (d:b.length=50) (h:Sb a=Sb b):a=b:=by
 rw [VZ c,VZ d] at h;exact N6j h
theorem Nwb {l:List Int}:flat 4 (.agg (l.map i64).toArray)=true:=by
 simp [flat,i64,atom]
theorem N2o {a b:List Int} (c:a.length=50) (d:b.length=50):aEq (.agg (List.replicate 50 (.int .i64))) (.agg (Sb a).toArray) (.agg (Sb b).toArray)=some (decide (a=b)):=by
 obtain ⟨t,h1,h2⟩:=Nc2 (.int .i64) 50 (Sb a) (Sb b) (QF a) (QF b) (by
  intro x e y f;rw [VZ c] at e;rw [VZ d] at f;obtain ⟨n,_,rfl⟩:=List.mem_map.1 e;obtain ⟨m,_,rfl⟩:=List.mem_map.1 f;exact ⟨n == m,by simp [SQ,i64],by simp [i64]⟩)
 show PH _ (Sb a) (Sb b)=_;rw [h1];congr 1;rw [Qt,h2,N6];exact ⟨fun h=>N2n c d h,fun h=>by rw [h]⟩
theorem No2:[Value.int .i64 0,Value.int .i64 0,Value.int .i64 0,Value.int .i64 0,Value.int .i64 0,Value.int .i64 0,Value.int .i64 0,Value.int .i64 0,Value.int .i64 0,Value.int .i64 0,Value.int .i64 0,Value.int .i64 0,Value.int .i64 0,Value.int .i64 0,Value.int .i64 0,Value.int .i64 0,Value.int .i64 0,Value.int .i64 0,Value.int .i64 0,Value.int .i64 0,Value.int .i64 0,Value.int .i64 0,Value.int .i64 0,Value.int .i64 0,Value.int .i64 0,Value.int .i64 0,Value.int .i64 0,Value.int .i64 0,Value.int .i64 0,Value.int .i64 0,Value.int .i64 0,Value.int .i64 0,Value.int .i64 0,Value.int .i64 0,Value.int .i64 0,Value.int .i64 0,Value.int .i64 0,Value.int .i64 0,Value.int .i64 0,Value.int .i64 0,Value.int .i64 0,Value.int .i64 0,Value.int .i64 0,Value.int .i64 0,Value.int .i64 0,Value.int .i64 0,Value.int .i64 0,Value.int .i64 0,Value.int .i64 0,Value.int .i64 0]=List.replicate 50 (Value.int .i64 0):=rfl
theorem Odb:[KK.int .i64,KK.int .i64,KK.int .i64,KK.int .i64,KK.int .i64,KK.int .i64,KK.int .i64,KK.int .i64,KK.int .i64,KK.int .i64,KK.int .i64,KK.int .i64,KK.int .i64,KK.int .i64,KK.int .i64,KK.int .i64,KK.int .i64,KK.int .i64,KK.int .i64,KK.int .i64,KK.int .i64,KK.int .i64,KK.int .i64,KK.int .i64,KK.int .i64,KK.int .i64,KK.int .i64,KK.int .i64,KK.int .i64,KK.int .i64,KK.int .i64,KK.int .i64,KK.int .i64,KK.int .i64,KK.int .i64,KK.int .i64,KK.int .i64,KK.int .i64,KK.int .i64,KK.int .i64,KK.int .i64,KK.int .i64,KK.int .i64,KK.int .i64,KK.int .i64,KK.int .i64,KK.int .i64,KK.int .i64,KK.int .i64,KK.int .i64]=List.replicate 50 (KK.int .i64):=rfl
theorem Np3 [OA] {lim i:Nat} {t:Int} (hi:i<50):NQ E mp lim 63 [Vi i,Vi t] H Q=Q (.agg (Sb (YC 50 i t)).toArray) H:=by
 refine pc (by decide) rfl rfl (by rw [VZ Nex];exact Nwb) ?_;rw [b63,c63];simp only [n63,No2,SB,Nat.reduceLT,NL,place];refine NP (fun k=>50-k) (fun k fr G=>k<=50/\fr 0=Vi i/\fr 1=Vi t/\fr 4=Vp H.length/\fr 5=Vp (H.length+1)/\fr 7=Vi k/\
  ∃T:List Int,T.length=50/\(∀j,j<k->T[j]? = some (-1))/\G=H++[Vc (List.replicate 50 (Value.int .i64 0)),Vc (Sb T)]) 0
  ⟨Np _,rfl,rfl,rfl,rfl,by rfl,List.replicate 50 0,by simp,fun j e=>by omega,rfl⟩ ?_
 rintro k fr G ⟨hk,l,h1,m,h5,n,T,f,a,rfl⟩ hN;rw [NU N8f.eq_1];by_cases o:k<50
 ·have c:(k:Int)<50:=by omega
  have b:(0:Int)<=(k:Int):=by omega
  have h:IntKind.i64.wrap ((k:Int)+1)=((k+1:Nat):Int):=OC (by omega);simp only [n63,h5,n,b,c,h,Ps,QF,Zh f,show k+1<=50 by omega,SB,Nat.reduceLT,NL,Nat.reduceEqDiff,NH,NB];refine hN (k+1) _ _ ⟨by omega,l,h1,m,h5,rfl,T.set k (-1),by simpa using f,fun j e=>?_,rfl⟩ (by omega);by_cases d:k=j
  ·subst d;rw [Rc (by omega)]
  ·rw [Qr d];exact a j (by omega)
 ·obtain rfl:k=50:=by omega
  have g:T=List.replicate 50 (-1):=by
   apply List.ext_getElem? ;intro j;by_cases e:j<50
   ·rw [a j e,P3,Nl e]
   ·rw [N0 (by omega),N0 (by simp;omega)]
  subst g;have c:(i:Int)<50:=by omega
  have b:(0:Int)<=(i:Int):=by omega
  simp only [n63,l,h1,m,h5,n,b,c,Ps,QF,Zh f,show i+1<=50 by omega,NK,NI,Pa,SB,Nat.reduceLT,NL,Nat.reduceEqDiff,NH,reduceCtorEq,NB,NC,Int.reduceLT];rfl
def okT (T:List Int):Prop:=T.length=50/\∀j,-1<=T.getD j (-1)/\T.getD j (-1)<=NV
theorem Njw {i:Nat} {t:Int} (hi:i<50) (h:-1<=t/\t<=NV):okT (YC 50 i t):=⟨Nex,fun j=>by
 rw [Ney hi];unfold NV at *;split<;>omega⟩
theorem Njv {i:Nat} (h:okT T) (a:-1<=v/\v<=NV):okT (T.set i v):=by
 refine ⟨by simpa using h.1,fun j=>?_⟩;by_cases hi:i<T.length
 ·rw [X0 hi];split
  ·exact a
  ·exact h.2 j
 ·rw [List.set_eq_of_length_le (by omega)];exact h.2 j
def VV (u:List Int->List Int->Leg->List Int) (L:List Leg) (first:List Int):Nat->List Int
 | 0=>first
 | k+1=>L.foldl (u (VV u L first k)) (VV u L first k)
theorem Yh {β:Type} [Inhabited α] {f:β->α->β} {L:List α} {b:β} {i:Nat} (h:i<L.length):(L.take (i+1)).foldl f b=f ((L.take i).foldl f b) (gt L i):=by
 rw [Wi h,List.foldl_append];rfl
def N4d [OA] (H:NA) (lim:Nat) (g:FuncId) (c1 c2:Value) (u:List Int->List Int->Leg->List Int) (L:List Leg):Prop:=
 ∀(G:NA) (A:Nat) (bef aft:List Int) (l:Leg) (Q:Value->NA->Prop),l∈L->okT bef->okT aft->Chg [] H G->lim<=A->H.length<=A->lim<=G.length->NE G A=Vc (Sb aft)->
  okT (u bef aft l)/\((∀G',Chg [A] G G'->NE G' A=Vc (Sb (u bef aft l))->Q (.tuple #[]) G')->NQ E false lim g [.agg (encL l).toArray,.agg (Sb bef).toArray,Vp A,c1,c2] G Q)
theorem Njj [OA] {lim:Nat} {R:Value->NA->Prop} {bef:List Int} {A8 A9:Nat}
  (hu:N4d H lim g c1 c2 u L) (hL:Sl H encL 8 pl L) (Z:L.length<2 ^ 62) (Q:lim<=H.length) (P:okT bef) (V:Chg [] H G) (U:H.length<=A8) (z:H.length<=A9) (F:A8≠A9) (S:NE G A8=Vc (Sb bef)) (T:NE G A9=Vc (Sb bef))
  (f2:fr 2=.func (.func g) #[] #[c1,c2]) (M:fr 8=Vp A8) (f9:fr 9=Vp A9) (p:fr 21=.slice pl L.length cl) (q:fr 22=Vi L.length) (r:fr 23=Vi 0)
  (W:∀fr' G',okT (L.foldl (u bef) bef)->Chg [A9] G G'->NE G' A9=Vc (Sb (L.foldl (u bef) bef))->fr' 1=fr 1->fr' 2=fr 2->fr' 7=fr 7->fr' 8=fr 8->fr' 9=fr 9->PT E a99 lim K fr' (G'++[]) R) :
  PT E a99 lim (.code (.loop N0p)::.inBlock 2::K) fr G R:=by
 refine NP (fun i=>L.length-i) (fun i fr' G'=>i<=L.length/\fr' 1=fr 1/\fr' 7=fr 7/\fr' 2=.func (.func g) #[] #[c1,c2]/\fr' 8=Vp A8/\fr' 9=Vp A9/\fr' 21=.slice pl L.length cl/\fr' 22=Vi L.length/\fr' 23=Vi i/\
  Chg [A9] G G'/\okT ((L.take i).foldl (u bef) bef)/\NE G' A9=Vc (Sb ((L.take i).foldl (u bef) bef))) 0
  ⟨Np _,rfl,rfl,f2,M,f9,p,q,r,Chg.refl,P,T⟩ ?_
 intro i fr' G' ⟨hi,N,O,s,t,v,l,d,e,o,B,b⟩ hN;have f:Chg [] H G':=V.trans' o fun j h1 h2=>by simp only [Nq] at h1;omega
 have hl:=f.len;rw [NU N0p.eq_1];refine NJ ?_;by_cases a:i<L.length
 ·have n:=f.ext.sl hL;have D:=fun X=>(n.app X).loadCells NZ a
  have m:=fun c (k:IntKind) (H1:NA)=>n.idx (c:=c) (k:=k) (H1:=H1) a
  have J:IntKind.i64.wrap ((i:Int)+1)=((i+1:Nat):Int):=OC (by omega);have w:=o.cells S (by simpa using F);have x:=zc w;have C:lim<=G'.length:=by omega
  simp only [n99,s,t,v,l,d,e,a,m,D,NZ,NK,C,NI,x,QF,Nl2,SB,Nat.reduceLT,NF,NL,Nat.reduceEqDiff,NH,place,NB,Nat.reduceAdd];have Y:=NM b;obtain ⟨I,h⟩:=hu (G'++[Vc (encL (gt L i))]) A9 bef ((L.take i).foldl (u bef) bef) (gt L i) _ (PM a) P B (f.app) (by omega) z (by simp;omega) ((OD.refl.app).cells b);refine h fun G2 A y=>?_
  refine NJ ?_;simp only [n99,e,J,SB,Nat.reduceLT,NL,Nat.reduceEqDiff,NH];refine hN (i+1) _ _ ⟨by omega,by rw [<-N];exact rfl,by rw [<-O];exact rfl,s,t,v,l,d,rfl, ?_, ?_, ?_⟩ (by omega)
  ·rw [Na];exact o.trans A.pre
  ·rw [Yh a];exact I
  ·rw [Na,Yh a];exact y
 ·obtain rfl:i=L.length:=by omega
  rw [N9] at B b;simp only [n99,d,e,a,SB,Nat.reduceLT,NL,NH];exact W _ _ B o b (by rw [<-N];exact rfl) (by rw [f2];exact s) (by rw [<-O];exact rfl) (by rw [M];exact t) (by rw [f9];exact v)
theorem Nug [OA] {lim n0:Nat} {first:List Int}
  (Z:N4d H lim g c1 c2 u L) (V:okT first) (hL:Sl H encL 8 pl L) (F:L.length<2 ^ 62) (l:lim<=H.length) (q:VV u L first (n0+1)=VV u L first n0) (I:∀k,k<n0->VV u L first (k+1)≠VV u L first k) (Y:n0<80000000000)
  (U:∀H' p cap,Chg [] H H'->Zu H.length H' Sb 50 p cap ((List.range (n0+1)).map (VV u L first))->Q (.slice p (n0+1) cap) H') :
  NQ E false lim 99 [.agg (Sb first).toArray,.slice pl L.length cl,.func (.func g) #[] #[c1,c2]] H Q:=by
 refine QN (by decide) rfl rfl ?_;rw [b99,c99];simp only [n99,No2,QF,NK,NI,Pa,SB,Nat.reduceLT,NL,Nat.reduceEqDiff,NG,place,NB];refine NP (fun s:Nat×Option Addr×Nat=>n0+1-s.1) (fun s fr G=>s.1<=n0/\fr 1=.slice pl L.length cl/\fr 2=.func (.func g) #[] #[c1,c2]/\fr 7=.slice s.2.1 (s.1+1) s.2.2/\Chg [] H G/\okT (VV u L first s.1)/\Zu H.length G Sb 50 s.2.1 s.2.2 ((List.range (s.1+1)).map (VV u L first))) (0,Sa (H.length+1),1)
  ⟨Np _,rfl,rfl,by rfl,Chg.refl.app,V,.inr ⟨H.length+1,rfl,rfl,by show (1:Nat)<2 ^ 62;decide,by rw [NY];simp [VV],by omega⟩⟩ ?_
 rintro ⟨k,p,cap⟩ fr G ⟨hk,f1,f2,z,x,n,y⟩ hN;simp only at hk z n y;have hl:=x.len;rw [NU N7x.eq_1];refine NJ ?_;have a:((List.range (k+1)).map (VV u L first)).length=k+1:=by simp
 have B:gt ((List.range (k+1)).map (VV u L first)) k=VV u L first k:=by
  rw [OQ (by rw [a];omega)];simp
 have hS:=y.sl QF;have r:=fun X=>(hS.app X).loadCells QF (i:=k) (by rw [a];omega)
 have f:=fun c (kk:IntKind) (H1:NA)=>hS.idx (c:=c) (k:=kk) (H1:=H1) (i:=k) (by rw [a];omega)
 rw [a] at f;rw [B] at r;have K:IntKind.i64.wrap (((k+1:Nat):Int)-1)=(k:Int):=by rw [NR (by omega) (by omega)];omega
 have D:lim<=G.length:=by omega
 simp only [n99,f1,z,No2,QF,NK,NI,Pa,K,f,r,D,show lim<=G.length+1 by omega,SB,Nat.reduceLT,NL,Nat.reduceEqDiff,NH,place,NB];refine Njj (cl:=cl) (A8:=G.length) (A9:=G.length+1) Z hL F l n (x.app) (by omega) (by omega) (by omega) NN NY f2 rfl rfl rfl rfl rfl fun fr' G' d P O k1 k2 k7 k8 k9=>?_
 have M:fr' 1=.slice pl L.length cl:=k1.trans f1;have N:fr' 2=.func (.func g) #[] #[c1,c2]:=k2.trans f2;have t:fr' 7=.slice p (k+1) cap:=k7.trans z;have v:fr' 8=Vp G.length:=k8.trans rfl;have w:fr' 9=Vp (G.length+1):=k9.trans rfl;have T:NE G' G.length=Vc (Sb (VV u L first k)):=P.cells NN (by simp);have o:=zc T;have m:=zc O;have b:Chg [] G G':=P.pre.mono fun j hj h=>by simp only [Nq] at h;omega
 have W:=b.len;change okT (VV u L first (k+1)) at d;change NE G' (G.length+1)=Vc (Sb (VV u L first (k+1))) at O;change ∀X,NE (G'++X) (G.length+1)=Vc (Sb (VV u L first (k+1))) at m;have e:=N2o d.1 n.1;by_cases C:k=n0
 ·subst C;rw [Nj q] at e;simp only [n99,t,v,w,o,m,QF,NK,Odb,e,SB,Nat.reduceLT,NL,Nat.reduceEqDiff,NC];exact U _ _ _ ((x.trans b).app) (y.chg (b.app) (by simp))
 ·rw [Nw (p:=VV u L first (k+1)=VV u L first k) (I k (by omega))] at e;have A:=y.chg b (by simp);obtain ⟨G3,e3,S,R,J,l3,_⟩:=A.step (lim':=lim) (bytes:=400) l QF (by decide) (VV u L first (k+1)) (by rw [a];unfold OX;omega) (by rw [a];omega) (by omega) [Vc (Sb (VV u L first (k+1)))] G'.length 1 NN;rw [a] at e3;simp only [n99,t,v,w,o,m,QF,NK,Odb,e,NI,Pa,e3,SB,Nat.reduceLT,NL,Nat.reduceEqDiff,place,Nat.reduceAdd];refine hN (k+1,_,_) _ _ ⟨by omega,M,N,by rfl,R _ _ (Nf _) (x.trans b),d,.inl ?_⟩ (by show n0+1-(k+1)<n0+1-k;omega);rw [Qg,O7];exact S
def NW (P:List Int):Int->Nat:=fun p=>P.idxOf p
theorem RS (h:QD P L=0):NetOk 50 P L (NW P):=by
 obtain ⟨h1,h2,g,d⟩:=Sg h;have key:∀l∈L,Fine l/\l.frm∈P/\l.dst∈P:=fun l hl=>by
  obtain ⟨i,hi,rfl⟩:=List.mem_iff_getElem.1 hl;have:=d i hi;unfold lOk at this;rw [OQ hi] at this;exact ⟨this.1,this.2.2⟩
 refine ⟨fun l hl=>(key l hl).1,fun l hl=>(key l hl).2.1,fun l hl=>(key l hl).2.2,fun a c b f e=>?_,fun a c=>?_⟩
 ·have h1:=Qo (N4 c);have h2:=Qo (N4 f);rw [<-h1,<-h2];congr 1
 ·have:=N4 c;show P.idxOf a<50;omega
theorem N47 {F:Nat->List Int} {mu:List Int->Nat} (h:∀k,F (k+1)=F k\/mu (F (k+1))<mu (F k)):∃n,n<=mu (F 0)/\F (n+1)=F n/\∀k,k<n->F (k+1)≠F k:=by
 have key:∀m k,mu (F k)<=m->(∀j,j<k->F (j+1)≠F j)->∃n,n<=k+m/\F (n+1)=F n/\∀j,j<n->F (j+1)≠F j:=by
  intro m
  induction m with
  | zero=>
    intro k hm a;rcases h k with h1 | h1
    ·exact ⟨k,by omega,h1,a⟩
    ·omega
  | succ m ih=>
    intro k hm a;by_cases h1:F (k+1)=F k
    ·exact ⟨k,by omega,h1,a⟩
    ·rcases h k with h2 | h2
     ·exact absurd h2 h1
     ·obtain ⟨n,d,b⟩:=ih (k+1) (by omega) fun j c=>by
       rcases Od j k with h5 | h5
       ·exact a j h5
       ·obtain rfl:j=k:=by omega
        exact h1
      exact ⟨n,by omega,b⟩
 obtain ⟨n,h1,h2⟩:=key (mu (F 0)) 0 (Nf _) fun j a=>by omega
 exact ⟨n,by omega,h2⟩
theorem N46 {N:Nat} {pos:Int->Nat} {lim:Int} {p ready:Int} (k:Nat):VV (Vg pos lim) L (YC N (pos p) ready) k=QM N pos lim L p ready k:=by
 induction k with
 | zero=>rfl
 | succ k ih=>rw [VV,QM,MN,ih]
theorem ME {P:List Int} {L:List Leg} {p ready lim:Int} (hn:NetOk 50 P L (NW P)) (hp:p∈P) (hr:0<=ready) (hl:ready<=lim):∀k,WG ready lim (QM 50 (NW P) lim L p ready k)
 | 0=>by
   intro t b;rw [QM,YC] at b;rcases Qs b with h | rfl
   ·exact .inl (List.eq_of_mem_replicate h)
   ·exact .inr ⟨Ow _,hl⟩
 | k+1=>(Nd7 (ME hn hp hr hl k) hr fun l a=>⟨hn.fine l a,by rw [RZ];exact hn.lt _ (hn.dst l a)⟩).1
theorem Noi {p ready lim:Int} (hn:NetOk 50 P L (NW P)) (hp:p∈P) (hr:0<=ready) (hl:ready<=lim):∃n,n<=50*((lim-ready).toNat+1)/\QM 50 (NW P) lim L p ready (n+1)=QM 50 (NW P) lim L p ready n/\∀k,k<n->QM 50 (NW P) lim L p ready (k+1)≠QM 50 (NW P) lim L p ready k:=by
 obtain ⟨n,h1,h2⟩:=N47 (F:=QM 50 (NW P) lim L p ready) (mu:=muA ready lim) fun k=>
  (Nd7 (ME hn hp hr hl k) hr fun l a=>⟨hn.fine l a,by rw [RZ];exact hn.lt _ (hn.dst l a)⟩).2
 refine ⟨n,Pt h1 ?_,h2⟩;have:=Nz8 (ME hn hp hr hl 0);rw [RZ] at this;exact this
def N7d (P:List Int) (L:List Leg) (p ready:Int) (T:List Int):Prop:=T.length=P.length/\∀q∈P,Vd L p ready q (T.getD (NW P q) (-1))
theorem N7c {p ready:Int} (hn:NetOk 50 P L (NW P)) (c:P.length<=50) (hp:p∈P) (hr:0<=ready) (a:QM 50 (NW P) (ready+86400) L p ready (n+1)=QM 50 (NW P) (ready+86400) L p ready n) :
  N7d P L p ready ((QM 50 (NW P) (ready+86400) L p ready n).take P.length):=by
 refine ⟨by rw [N5,RZ];omega,fun q b=>?_⟩;have h1:=Nge hn hp hr (by omega) a q b;have h2:NW P q<P.length:=N4 b;rw [Nb,Qc,Nl h2,<-Nb];exact h1
theorem Z8 (hl:Fine l) (h:R7 l r=some a):0<=a/\r<=a/\a+l.mins<=NV:=by
 obtain ⟨⟨d,_,b,rfl⟩,h2,_⟩:=Rz h;unfold goes at b;simp only [N2,N6] at b;unfold Fine at hl;omega
theorem Nib (hl:Fine l) (h:Tj l b=some a):0<=a-l.cut/\0<=a/\a+l.mins<=NV/\a+l.mins<=b:=by
 obtain ⟨⟨d,_,c,rfl⟩,h2,_⟩:=TS h;unfold goes at c;simp only [N2,N6] at c;unfold Fine at hl;omega
theorem Nr7 [OA] {lim B1 B2:Nat} {o1 o2:Bool} {ready:Int} (hn:NetOk 50 P L (NW P)) (h1:NE H B1=.cells o1 [.map (some R)]) (h2:NE H B2=.cells o2 [Vi ready]) (hm:NE H R=.map (WY P)) (hr:0<=ready) (F:ready<=NV) :
  N4d H lim 98 (Vp B1) (Vp B2) (Vg (NW P) (ready+86400)) L:=by
 intro G A bef aft l Q hl V o K C Z n u;have O:=hn.fine l hl;have i1:NW P l.frm<50:=hn.lt _ (hn.frm l hl);have i2:NW P l.dst<50:=hn.lt _ (hn.dst l hl);obtain ⟨j1,g⟩:=Vy (i:=0) (hn.frm l hl);obtain ⟨j2,j⟩:=Vy (i:=0) (hn.dst l hl);change findKey _ _ _=some (some (j1,Vi (NW P l.frm:Int))) at g;change findKey _ _ _=some (some (j2,Vi (NW P l.dst:Int))) at j;have N:=V.2 (NW P l.frm);have M:=o.2 (NW P l.dst);have t:=WA V.1 i1;have J:=WA o.1 i2;have v:=zc (K.cells h1 (by simp));have I:=zc (K.cells h2 (by simp));have D:=K.get hm (PW hm) (by simp);have w:∀X,NE (G++X) R=.map (WY P):=fun X=>by rw [NS (PW D)];exact D
 have S:=zc u;have z:(0:Int)<=(NW P l.frm:Int):=by omega
 have T:(0:Int)<=(NW P l.dst:Int):=by omega
 have B:(NW P l.frm:Int)<50:=by omega
 have U:(NW P l.dst:Int)<50:=by omega
 have Y:NW P l.dst<=49:=by omega
 have z6:NW P l.frm<=49:=by omega
 have wr:IntKind.i64.wrap (ready+86400)=ready+86400:=by unfold NV at F;exact NR (by omega) (by omega)
 unfold Vg;generalize NW P l.frm=x at *;generalize NW P l.dst=y at *;generalize bef.getD x (-1)=b at *;generalize hc:aft.getD y (-1)=c at *;unfold NV at N M F;by_cases f:b<0
 ·rw [Nl f];refine ⟨o,fun m=>QN (by decide) rfl rfl ?_⟩;rw [b98,c98];simp only [n98,v,w,g,j,t,z,B,QR,R3,Ps,f,SB,Nat.reduceLT,NL,Nat.reduceEqDiff,NH,NG,place,NB,Nat.reduceAdd];exact m _ (OD.refl.app.chg) ((OD.refl.app).cells u)
 rw [Ng f];have e:=fun (H:NA) (mp:Bool) (lim:Nat) (Q:Value->NA->Prop)=>Ns1 (mp:=mp) (lim:=lim) (H:=H) (Q:=Q) (l:=l) (r:=b) O (by omega) (by omega)
 cases hx:R7 l b with
 | none=>
   rw [hx] at e;simp only [Oo,TE] at e;refine ⟨o,fun m=>QN (by decide) rfl rfl ?_⟩;rw [b98,c98];simp only [n98,v,w,g,j,t,z,B,NZ,QR,R3,NK,Ps,n,f,e,SB,Nat.reduceLT,NF,NL,Nat.reduceEqDiff,NH,NG,place,NB,Nat.reduceAdd];exact m _ (OD.refl.app.chg) ((OD.refl.app).cells u)
 | some a=>
   rw [hx] at e;simp only [Ny,TE] at e;obtain ⟨k1,k2,k3⟩:=Z8 O hx;unfold Fine at O;by_cases d:a+l.mins<=ready+86400
   ·have q:∀Q:Value->NA->Prop,(∀G',Chg [A] G G'->NE G' A=Vc (Sb (aft.set y (a+l.mins)))->Q (.tuple #[]) G')->(c<0\/a+l.mins<c)->
      NQ E false lim 98 [.agg (encL l).toArray,.agg (Sb bef).toArray,Vp A,Vp B1,Vp B2] G Q:=by
     intro Q m k;refine QN (by decide) rfl rfl ?_;rw [b98,c98];obtain ⟨G2,e2,h2,W⟩:=OO (NM u) (Vc (Sb (aft.set y (a+l.mins))));by_cases p:c<0
     ·simp only [n98,v,I,w,S,g,j,t,J,z,T,B,U,Y,wr,NZ,QR,R3,NK,QF,Ps,n,f,e,Nh d,Nh p,C,Zh o.1,e2,SB,Nat.reduceLT,NF,NL,Nat.reduceEqDiff,NH,NG,place,NB,Nat.reduceAdd,Nat.reduceLeDiff];exact m _ ((Chg.refl.mut W (.inl (by simp))).app) ((OD.refl.app).cells h2)
     ·have s:a+l.mins<c:=by omega
      simp only [n98,v,I,w,S,g,j,t,J,z,T,B,U,Y,wr,NZ,QR,R3,NK,QF,Ps,n,f,e,Nh d,Nc p,Nh s,C,Zh o.1,e2,SB,Nat.reduceLT,NF,NL,Nat.reduceEqDiff,NH,NG,place,NB,Nat.reduceAdd,Nat.reduceLeDiff];exact m _ ((Chg.refl.mut W (.inl (by simp))).app) ((OD.refl.app).cells h2)
    by_cases k:c<0\/a+l.mins<c
    ·simp only [Nl (za d k)];exact ⟨Njv o (by omega),fun m=>q _ m k⟩
    ·simp only [Ng (fun h:_/\_=>k h.2)];refine ⟨o,fun m=>QN (by decide) rfl rfl ?_⟩;rw [b98,c98];have p:¬c<0:=fun h=>k (.inl h)
     have s:¬a+l.mins<c:=fun h=>k (.inr h)
     simp only [n98,v,I,w,S,g,j,t,J,z,T,B,U,wr,NZ,QR,R3,NK,Ps,n,f,e,Nh d,Nc p,Nc s,SB,Nat.reduceLT,NF,NL,Nat.reduceEqDiff,NH,NG,place,NB,Nat.reduceAdd];exact m _ (OD.refl.app.chg) ((OD.refl.app).cells u)
   ·simp only [Ng (fun h:_/\_=>d h.1)];refine ⟨o,fun m=>QN (by decide) rfl rfl ?_⟩;rw [b98,c98];simp only [n98,v,I,w,g,j,t,z,B,wr,NZ,QR,R3,NK,Ps,n,f,e,Nc d,SB,Nat.reduceLT,NF,NL,Nat.reduceEqDiff,NH,NG,place,NB,Nat.reduceAdd];exact m _ (OD.refl.app.chg) ((OD.refl.app).cells u)
theorem Nc8 [OA] {lim:Nat} {p ready:Int} (hn:NetIn H pp pl P L) (l:QD P L=0) (hm:NE H R=.map (WY P)) (hp:p∈P) (hr:0<=ready) (h:ready<=NV) (j:lim<=H.length)
  (s:∀H' q cap n,Chg [] H H'->QM 50 (NW P) (ready+86400) L p ready (n+1)=QM 50 (NW P) (ready+86400) L p ready n->(∀k,k<n->QM 50 (NW P) (ready+86400) L p ready (k+1)≠QM 50 (NW P) (ready+86400) L p ready k)->n<2 ^ 30->
   Zu H.length H' Sb 50 q cap ((List.range (n+1)).map (QM 50 (NW P) (ready+86400) L p ready))->Q (.slice q (n+1) cap) H') :
  NQ E false lim 59 [.agg (netV pp P.length cp pl L.length cl).toArray,.map (some R),Vi p,Vi ready] H Q:=by
 have b:=RS l;obtain ⟨x,y,z,A⟩:=Sg l;refine QN (by decide) rfl rfl ?_;rw [b59,c59];obtain ⟨v,c⟩:=Vy (i:=0) hp;have hi:NW P p<50:=b.lt _ hp;change findKey _ _ _=some (some (v,Vi (NW P p:Int))) at c;have m:∀X,NE (H++X) R=.map (WY P):=fun X=>by rw [NS (PW hm)];exact hm
 have g:=fun (H:NA) (mp:Bool) (lim:Nat) (Q:Value->NA->Prop)=>Np3 (mp:=mp) (lim:=lim) (H:=H) (Q:=Q) (i:=NW P p) (t:=ready) hi
 simp only [n59,QE,m,c,g,SB,Nat.reduceLT,NF,NL,Nat.reduceEqDiff,NG,place,NB,Nat.reduceAdd];obtain ⟨n,u,d,e⟩:=Noi (lim:=ready+86400) b hp hr (by omega);have a:∀k,VV (Vg (NW P) (ready+86400)) L (YC 50 (NW P p) ready) k=QM 50 (NW P) (ready+86400) L p ready k:=fun k=>N46 k
 unfold NV at h;refine Nug (n0:=n) (Nr7 (R:=R) (P:=P) (ready:=ready) b NY NY (m _) hr (by unfold NV;omega)) (Njw hi (by unfold NV;omega)) (hn.sl.app _) (by omega) (by simp;omega) (by rw [a,a];exact d) (fun k hk=>by rw [a,a];exact e k hk) (by omega) fun H' q cap r f=>?_
 rw [funext a] at f;refine NJ ?_;simp only [n59,SB,Nat.reduceLT,NL,Nat.reduceAdd,NC];rw [Na];refine s H' q cap n r.pre d e (by omega) ?_;rcases f with f | ⟨o,k1,k2,k3,k4,w⟩
 ·exact .inl (f.le (by simp))
 ·exact .inr ⟨o,k1,k2,k3,k4,by simp at w;omega⟩
theorem Nn9 [OA] {lim c:Nat} {p:Option Addr} {l:List Int} (hs:Sl H encI 1 p l) (hn:l≠[]) (hl:l.length<2 ^ 40)
  (f:∀H' q,OD H H'->Own H.length H' encI 1 q (loose 1) l->Q (.slice q l.length (loose 1)) H') :
  NQ E false lim 106 [.slice p l.length c] H Q:=by
 refine QN (by decide) Odn rfl ?_;rw [Ods,N68];obtain ⟨a,rfl⟩:=hs.some hn;have g:=WR (lim:=lim) (b:=H.length) (e:=1) (bytes:=8) (c:=c) (H:=H++[Vc []]) (enc:=encI) (p:=some a) (l:=l) NN (hs.app _) (by decide) (by unfold OX;omega) (by omega) hn;have d:aEq .slice (.slice (some a) l.length c) Vz=some false:=rfl;simp only [n106,N9w,d,g,SB,Nat.reduceLT,NL,Nat.reduceEqDiff,reduceCtorEq,NG,place,NC];refine f _ _ OD.refl.app (Own.new ?_ (by omega));rw [NY];rfl
theorem N40 {A:Nat} (a:NE H A=Vc (Sb T)) (b:T.length=50) (hn:n<=50):Sl H encI 1 (Sa A) (T.take n):=by
 have:Sl H encI 1 (Sa A) (T.take n++T.drop n):=by
  rw [Pv];refine Sl.row OT (ro:=false) ?_;rw [a,VZ b];congr 1;clear a b
  induction T with
  | nil=>rfl
  | cons x T ih=>rw [Oj,Ol,ih];rfl
 exact this.pre OT
theorem Nxu [OA] {lim:Nat} {p ready:Int} (hn:NetIn H pp pl P L) (M:lim<=H.length)
  (s:∀H',SI P L p p ready≠0->Chg [] H H'->Q (.tuple #[Vz,Vi (SI P L p p ready)]) H')
  (G:∀H' q T,SI P L p p ready=0->Chg [] H H'->N7d P L p ready T->Own H.length H' encI 1 q (loose 1) T->T.length=P.length->Q (.tuple #[.slice q P.length (loose 1),Vi 0]) H') :
  NQ E false lim 165 [.agg (netV pp P.length cp pl L.length cl).toArray,Vi p,Vi ready] H Q:=by
 refine QN (by decide) Oeu rfl ?_;rw [Of6,Oaz];simp only [n165,OG,NK,SB,Nat.reduceLT,NF,NL,Nat.reduceEqDiff,NG,place,NB];refine Ngg (hn.app _) (by simp;omega) (fun H' he m=>?_) (fun H' R he m hm U=>?_)
 ·refine NJ ?_;simp only [n165,Occ,Nc he,SB,Nat.reduceLT,NL,Nat.reduceEqDiff,NH,NC];exact s _ he (m.chg.pre.app)
 ·obtain ⟨J,hp,_,hr,I⟩:=VN he;obtain ⟨N,v2,v3,v4⟩:=Sg J;have D:=m.len;simp only [Nk,Nm,Nn] at D U;have j:NE H' H.length=Vc (netV pp P.length cp pl L.length cl):=m.cells NN;have F:=zc j;refine NJ ?_;simp only [n165,F,OG,NK,SB,Nat.reduceLT,NF,NL,Nat.reduceEqDiff,NH,NG];rw [Na];have o:OD H H':=by obtain ⟨Y,rfl⟩:=m;rw [No];exact OD.refl.app
  refine Nc8 (hn.ext o) J hm hp hr I (by omega) fun y q cap n z v Z W O=>?_
  have V:=z.len;have d:((List.range (n+1)).map (QM 50 (NW P) (ready+86400) L p ready)).length=n+1:=by simp
  have C:gt ((List.range (n+1)).map (QM 50 (NW P) (ready+86400) L p ready)) n=QM 50 (NW P) (ready+86400) L p ready n:=by
   rw [OQ (by rw [d];omega)];simp
  have hS:=O.sl QF;have w:=fun X=>(hS.app X).loadCells QF (i:=n) (by rw [d];omega)
  have g:=fun c (kk:IntKind) (H1:NA)=>hS.idx (c:=c) (k:=kk) (H1:=H1) (i:=n) (by rw [d];omega)
  rw [d] at g;rw [C] at w;have K:IntKind.i64.wrap (((n+1:Nat):Int)-1)=(n:Int):=by rw [NR (by omega) (by omega)];omega
  have x:=zc (z.cells j (by simp));have S:0<P.length:=List.length_pos_of_mem hp;have u:∀b:Nat,XQ 50 1 (Vp b) none (some (Vi P.length)) none=some (.slice (Sa b) P.length 50):=fun b=>by
   have:=Nlo (n:=50) (e:=1) (a:=⟨b,0,none⟩) (lo:=0) (hi:=P.length) (vlo:=none) (vhi:=some (Vi P.length)) (by rw [Zo (by omega) (by omega),N1]) (by decide) (by decide);rw [this];simp [addr_add]
  refine NJ ?_;simp only [n165,x,g,w,K,Rw,No2,QF,NI,Pa,show lim<=y.length by omega,u,SB,Nat.reduceLT,NF,NL,Nat.reduceEqDiff,NH,place,NB];have r:(QM 50 (NW P) (ready+86400) L p ready n).length=50:=RZ;have f:((QM 50 (NW P) (ready+86400) L p ready n).take P.length).length=P.length:=by rw [N5,r];omega
  have t:=fun Q=>Nn9 (Q:=Q) (lim:=lim) (c:=50) (p:=Sa y.length) (l:=(QM 50 (NW P) (ready+86400) L p ready n).take P.length) (H:=y++[Vc (Sb (QM 50 (NW P) (ready+86400) L p ready n))]) (N40 NN r N) (fun h=>by rw [h] at f;simp at f;omega) (by rw [f];omega)
  rw [f] at t;refine t _ fun H3 q3 A B=>?_
  refine NJ ?_;simp only [n165,Occ,SB,Nat.reduceLT,NL,Nat.reduceEqDiff,NC];refine G _ _ _ he ?_ (N7c (RS J) N hp hr v) ((B.le (by simp;omega)).app _) f;exact (((o.chg).trans z).trans (A.chg.pre)).app
def Sm (P:List Int) (p:Int):Int:=if p∈P then (NW P p:Int) else -1
theorem Nhx {p:Int}:0<=Sm P p↔p∈P:=by
 unfold Sm;split
 ·rename_i h;exact ⟨fun _=>h,fun _=>by omega⟩
 ·rename_i h;exact ⟨fun a=>by omega,fun a=>absurd a h⟩
theorem S9 {q:Option Addr} {i:Nat} (h:Sl H encI 1 q T) (hi:i<T.length):∀X,AM.loadCell (H++X) (Vs q 1 i)=some (Vi (gt T i)):=fun X=>by
 rw [(h.app X).loadCell0 OT hi (by decide)];rfl
theorem Ux {q:Option Addr} {i:Nat} (h:Sl H encI 1 q T) (hi:i<n) (a:T.length=n):∀(c:Nat) (k:IntKind) (H1:NA),Vq 1 (.slice q n c) (.int k (i:Int)) H1=some (.pointer (some (Vs q 1 i)),H1):=fun c k H1=>by
 subst a;exact h.idx hi
theorem WL {i:Nat} (h:i<T.length):gt T i=T.getD i (-1):=by
 rw [OQ h,Nb,Ni h];rfl
theorem Nr8 {p t q:Int} (h:Vd L p t q v) (c:t<=NV) (f:0<=t):v<=NV:=by
 rcases h with ⟨rfl,_⟩ | ⟨⟨⟨j,e⟩,_⟩,_⟩
 ·omega
 ·cases e with
  | nil=>exact c
  | snoc _ hl _ hd _=>
    obtain ⟨d,b,a,rfl⟩:=hd;unfold goes at a;simp only [N2,N6] at a;exact a.2
theorem N15 (hl:l.days=127) (h1:0<=1440*(d:Int)+l.dep-l.cut) (h2:1440*(d:Int)+l.dep+l.mins<=NV):goes l d=true:=by
 have hr:Go.Net.runs l.days d=true:=by
  rw [hl];have:d % 7<7:=P6 _ (by decide);unfold Go.Net.runs;generalize d % 7=m at this
  match m,this with
  | 0,_=>rfl
  | 1,_=>rfl
  | 2,_=>rfl
  | 3,_=>rfl
  | 4,_=>rfl
  | 5,_=>rfl
  | 6,_=>rfl
 unfold goes;rw [hr,Nj h1,Nj h2];rfl
theorem nx {t:Int} (d:Nat) (hl:l.days=127) (hd:d<730485) (h1:0<=1440*(d:Int)+l.dep-l.cut) (h2:1440*(d:Int)+l.dep+l.mins<=NV) (a:t<=1440*(d:Int)+l.dep-l.cut) (e:1440*((d:Int)-1)+l.dep-l.cut<t):R7 l t=some (1440*(d:Int)+l.dep):=
 Ne2 (by rw [WO];exact hd) (N15 hl h1 h2) a fun c b ⟨_,h⟩=>by omega
end Go.Proofs.YtkppjkkkdpcgiaaGreat.Fn



namespace Go.Proofs.YtkppjkkkdpcgiaaGreat.Fn
open Go.AM Go.AM.Sym Go.Scan
variable {κ ν:Type} {n I R j:Nat} {Q:Value->NA->Prop} {H:NA} {es:List (Value×Value)} {seen:List Nat} {m:Mk} {mp:Bool} {e:Ev} {a:Int}
section
variable {κ ν:Type} [DecidableEq κ]
def Nb0 (k:κ):List (κ×ν)->Option ν
 | []=>none
 | (k',v)::l=>if k'=k then some v else Nb0 k l
def WI (k:κ) (v:ν):List (κ×ν)->List (κ×ν)
 | []=>[(k,v)]
 | (k',v')::l=>if k'=k then (k',v)::l else (k',v')::WI k v l
def fk (k:κ):List (κ×ν)->Nat->Option (Nat×ν)
 | [],_=>none
 | (k',v)::l,i=>if k'=k then some (i,v) else fk k l (i+1)
theorem Nre (k:κ):∀(l:List (κ×ν)) (i:Nat),(fk k l i).map (·.2)=Nb0 k l
 | [],_=>rfl
 | (k',v)::l,i=>by
   unfold fk Nb0;by_cases h:k'=k
   ·rw [Nl h,Nl h];rfl
   ·rw [Ng h,Ng h];exact Nre k l (i+1)
theorem Nkg {k:κ} {v v':ν}:∀{l:List (κ×ν)} {i j:Nat},fk k l i=some (j,v)->i<=j/\j-i<l.length/\l.set (j-i) (k,v')=WI k v' l
 | [],_,_,h=>by cases h
 | (k2,v2)::l,i,j,h=>by
   unfold fk at h;unfold WI;by_cases h2:k2=k
   ·rw [Nl h2] at h;cases h;rw [Nl h2,Qq,h2];exact ⟨Nf _,by simp,rfl⟩
   ·rw [Ng h2] at h;obtain ⟨b,c,a⟩:=Nkg (v':=v') h;rw [Ng h2];have e:j-i=(j-(i+1))+1:=by omega
    rw [e,Qz,a];exact ⟨by omega,by simp only [Nm];omega,rfl⟩
theorem Nkh {k:κ} {v':ν}:∀{l:List (κ×ν)} {i:Nat},fk k l i=none->l++[(k,v')]=WI k v' l
 | [],_,_=>rfl
 | (k2,v2)::l,i,h=>by
   unfold fk at h;unfold WI;by_cases h2:k2=k
   ·rw [Nl h2] at h;cases h
   ·rw [Ng h2] at h;rw [Ng h2,<-Nkh h,Ox]
theorem Nnn {k k':κ} {v:ν}:∀{l:List (κ×ν)},Nb0 k' (WI k v l)=if k'=k then some v else Nb0 k' l
 | []=>by
   unfold WI Nb0;by_cases h:k'=k
   ·rw [Nl h.symm,Nl h]
   ·rw [Ng fun q=>h q.symm,Ng h];rfl
 | (k2,v2)::l=>by
   unfold WI;by_cases h2:k2=k
   ·rw [Nl h2];subst h2;by_cases h:k'=k2
    ·rw [Nl h];unfold Nb0;rw [Nl h.symm]
    ·rw [Ng h];unfold Nb0;rw [Ng fun q=>h q.symm,Ng fun q=>h q.symm]
   ·rw [Ng h2];by_cases h:k2=k'
    ·have:¬k'=k:=fun q=>h2 (h.trans q)
     rw [Ng this];unfold Nb0;rw [Nl h,Nl h]
    ·unfold Nb0;rw [Ng h,Ng h];exact Nnn
theorem Nep {k:κ} {v:ν}:∀{l:List (κ×ν)},(WI k v l).length<=l.length+1
 | []=>by simp [WI]
 | (k2,v2)::l=>by
   unfold WI;split
   ·simp
   ·have:=Nep (k:=k) (v:=v) (l:=l);simp only [Nm];omega
def TD (kv:κ->Value) (vv:ν->Value) (es:List (κ×ν)):List (Value×Value):=es.map fun x=>(kv x.1,vv x.2)
def N4m (kv:κ->Value):Prop:=∀a b,Wy (kv a) (kv b)=some (decide (a=b))
variable {kv:κ->Value} {vv:ν->Value}
theorem Zg (hk:N4m kv) (k:κ):∀(es:List (κ×ν)) (i:Nat),findKey (kv k) (TD kv vv es) i=some ((fk k es i).map fun x=>(x.1,vv x.2))
 | [],_=>rfl
 | (k',v)::l,i=>by
   unfold TD;rw [Oj];unfold findKey fk;rw [hk];by_cases h:k'=k
   ·rw [Nl h,Nj h.symm];rfl
   ·rw [Ng h,Nw fun q=>h q.symm];exact Zg hk k l (i+1)
end
def kM (k:Int×Int):Value:=.agg #[Vi k.1,Vi k.2]
def kS (k:Int×Int×Int):Value:=.agg #[Vi k.1,Vi k.2.1,.int .u8 k.2.2]
def vI (n:Int):Value:=Vi n
theorem Odf:N4m kM:=fun a b=>by
 obtain ⟨a1,a2⟩:=a;obtain ⟨b1,b2⟩:=b;simp only [kM,Wy,UL,if_true,Ny,Bool.and_true,Prod.mk.injEq,Bool.decide_and];rfl
theorem Odd:N4m kS:=fun a b=>by
 obtain ⟨a1,a2,c⟩:=a;obtain ⟨b1,b2,b3⟩:=b;simp only [kS,Wy,UL,if_true,Ny,Bool.and_true,Prod.mk.injEq,Bool.decide_and];rfl
theorem Ode {k:Int×Int}:U6 (.ints [.i64,.i64]) (kM k)=true:=by simp [kM,U6,Ta]
theorem Odc {k:Int×Int×Int}:U6 (.ints [.i64,.i64,.u8]) (kS k)=true:=by simp [kS,U6,Ta]
theorem N17 (k:Int×Int):∀l,Xz k l=Nb0 k l
 | []=>rfl
 | (k',v)::l=>by unfold Xz Nb0;rw [N17 k l]
theorem Nbj (k:Int×Int) (m:Mk):∀l,Xu k m l=WI k m l
 | []=>rfl
 | (k',v)::l=>by unfold Xu WI;rw [Nbj k m l]
theorem Nmw {α β:Type} {f:α->Option β} {g:α->β}:∀{l:List α},(∀x∈l,f x=some (g x))->YX f l=some (l.map g)
 | [],_=>rfl
 | x::l,h=>by
   unfold YX;rw [h x (by simp),Nmw (l:=l) fun y a=>h y (by simp [a])];rfl
theorem Nvo {lim:Nat} (hi:NE H I=.iter (some R) es.length seen) (hl:lim<=I) (hm:NE H R=.map es) (hk:∀e∈es,VY e.1=true)
  (f:Tq es.length seen=[]->Q (.tuple #[.bool false]) H)
  (h1:∀j e,j∈Tq es.length seen->es[j]? = some e->Q (.tuple #[.bool true,e.1,e.2]) (H.set I (.iter (some R) es.length (seen++[j])))) :
  nxK false (Mh lim (Vp I) H) Q:=by
 have hn:Mh lim (Vp I) H=match Tq es.length seen with
   | []=>some [(.tuple #[.bool false],H)]
   | j::l=>YX (fun j=>match es[j]? with
     | some e=>if VY e.1 then some (.tuple #[.bool true,e.1,e.2],H.set I (.iter (some R) es.length (seen++[j]))) else none
     | none=>none) (j::l):=by
  unfold Mh;simp only [hi,hl,if_true,Uw,hm];cases Tq es.length seen<;>rfl
 rw [hn];have d:∀j∈Tq es.length seen,j<es.length:=fun j b=>by
  unfold Tq at b;exact List.mem_range.mp (O0.mp b).1
 split
 ·rename_i e;exact ⟨fun h=>(by cases h),fun r hr=>by
   rw [Nq] at hr;subst hr;exact f e⟩
 ·rename_i j l e;rw [<-e];rw [Nmw (g:=fun j=>(.tuple #[.bool true,(es.getD j (undef,undef)).1,(es.getD j (undef,undef)).2],H.set I (.iter (some R) es.length (seen++[j])))) fun j b=>by
   have a:=d j b;have e1:es[j]? = some es[j]:=Ni a;have e2:es.getD j (undef,undef)=es[j]:=by rw [Nb,e1];rfl
   rw [e1,e2];simp only [hk _ (Qa a),if_true]]
  refine ⟨fun h=>(by cases h),fun r hr=>?_⟩;obtain ⟨c,b,rfl⟩:=List.mem_map.mp hr;have a:=d c b;have e1:es[c]? = some es[c]:=Ni a;have e2:es.getD c (undef,undef)=es[c]:=by rw [Nb,e1];rfl
  have:=h1 c _ b e1;simp only [e2];exact this
theorem Nri {e:Value×Value} (hi:NE H I=.iter (some R) es.length (seen++[j])) (hm:NE H R=.map es) (he:es[j]? = some e) (hk:VY e.1=true) :
  Zp (Vp I) H=some (.tuple #[e.1,e.2],H):=by
 unfold Zp;simp only [hi,Uw,hm,List.getLast?_concat,he,hk,if_true]
theorem Npw (hm:NE H R=.map es):UB (.map (some R)) H=some (Vp H.length,H++[.iter (some R) es.length []]):=by
 unfold UB;simp only [Uw,hm]
structure MetOk (n:Nat) (seen:List Nat):Prop where
 nd:seen.Nodup
 lt:∀j∈seen,j<n
theorem MetOk.add (h:MetOk n seen) (e:j∈Tq n seen):MetOk n (seen++[j]):=by
 unfold Tq at e;obtain ⟨h1,h2⟩:=O0.mp e;have hn:j∉seen:=by simpa using h2
 refine ⟨Qp.mpr ⟨h.nd,List.pairwise_singleton _ _,fun a f b d c=>?_⟩,fun k hk=>?_⟩
 ·rw [Nq] at d;subst d;subst c;exact hn f
 ·rcases Ok.mp hk with hk | hk
  ·exact h.lt k hk
  ·rw [Nq] at hk;subst hk;exact List.mem_range.mp h1
theorem MetOk.len (h:MetOk n seen):seen.length<=n:=by
 have:=h.nd.length_le_of_subset (l₂:=List.range n) fun j a=>List.mem_range.mpr (h.lt j a)
 simpa using this
theorem MetOk.perm (h:MetOk n seen) (b:Tq n seen=[]):seen.Perm (List.range n):=by
 refine (List.perm_ext_iff_of_nodup h.nd List.nodup_range).mpr fun j=>⟨fun a=>List.mem_range.mpr (h.lt j a),fun a=>?_⟩
 unfold Tq at b;rw [List.filter_eq_nil_iff] at b;simpa using b j a
def Nqm [Inhabited ν] (es:List (κ×ν)) (seen:List Nat):List ν:=seen.map fun j=>gt (es.map (·.2)) j
theorem N0a [Inhabited ν] {es:List (κ×ν)} (h:MetOk es.length seen) (a:Tq es.length seen=[]):(Nqm es seen).Perm (es.map (·.2)):=by
 have e:(List.range es.length).map (fun j=>gt (es.map (·.2)) j)=es.map (·.2):=by
  refine Pr (by simp) fun i h1 h2=>?_
  rw [Qw,List.getElem_range,OQ h2]
 have hp:(seen.map fun j=>gt (es.map (·.2)) j).Perm ((List.range es.length).map fun j=>gt (es.map (·.2)) j):=(h.perm a).map _;rw [e] at hp;exact hp
def encE (e:Ev):List Value:=[Vi e.item,Vi e.place,Vi e.scanner,.int .u8 e.kind,Vi e.at',Vi e.seen,Vi e.time]
def encN (e:Ev):List Value:=[Vi e.item,Vi e.place,Vi e.scanner,.int .u8 e.kind,Vi e.at',Vi e.seen]
def PY (m:Mk):List Value:=[Vi m.scanner,Vi m.at',Vi m.off]
theorem NT (e:Ev):(encE e).length=7:=id rfl
theorem OL (e:Ev):(encN e).length=6:=id rfl
theorem OY (e:Mk):(PY e).length=3:=id rfl
theorem VP:(encE e)[0]? = some (Vi e.item):=id rfl
theorem QU:(encE e)[1]? = some (Vi e.place):=id rfl
theorem Nro:(encE e)[2]? = some (Vi e.scanner):=id rfl
theorem QY:(encE e)[3]? = some (.int .u8 e.kind):=id rfl
theorem Nrn:(encE e)[4]? = some (Vi e.at'):=id rfl
theorem Nrm:(encE e)[5]? = some (Vi e.seen):=id rfl
theorem QX:(encE e)[6]? = some (Vi e.time):=id rfl
theorem TZ:(encN e)[0]? = some (Vi e.item):=id rfl
theorem Tn:(encN e)[1]? = some (Vi e.place):=id rfl
theorem Sn:(encN e)[2]? = some (Vi e.scanner):=id rfl
theorem UO:(encN e)[3]? = some (.int .u8 e.kind):=id rfl
theorem TC:(encN e)[4]? = some (Vi e.at'):=id rfl
theorem TY:(encN e)[5]? = some (Vi e.seen):=id rfl
theorem Xf:(PY m)[0]? = some (Vi m.scanner):=id rfl
theorem Xe:(PY m)[1]? = some (Vi m.at'):=id rfl
theorem Zi:(PY m)[2]? = some (Vi m.off):=id rfl
theorem Uf:(encE e).take 6=encN e:=id rfl
theorem Yc [OA] {lim:Nat}:NQ E mp lim 120 [Vi a] H Q=Q (.bool (decide (1<=a/\a<=999999))) H:=by
 refine pc (by decide) Ofg rfl rfl ?_;rw [Ogs,Obc];by_cases h1:1<=a
 ·simp only [n120,Ock,Nh h1,SB,seval,NL,NH,reduceCtorEq,NG,NC]
 ·simp only [n120,Ock,Nc h1,SB,seval,NL,NH,reduceCtorEq,NG,NC]
theorem Nig [OA] {lim:Nat}:NQ E mp lim 121 [Vi a] H Q=Q (.bool (decide (0<=a/\a<=UE))) H:=by
 refine pc (by decide) Ofe rfl rfl ?_;rw [Ogr,Obb];unfold UE;by_cases h1:0<=a
 ·simp only [n121,Ocj,Nh h1,SB,seval,NL,NH,reduceCtorEq,NG,NC]
 ·simp only [n121,Ocj,Nc h1,SB,seval,NL,NH,reduceCtorEq,NG,NC]
theorem Z0 [OA] {lim:Nat}:NQ E mp lim 92 [.agg (encN e).toArray] H Q=Q (.bool (decide (RA e))) H:=by
 refine pc (by decide) rfl rfl rfl ?_;rw [b92,c92];have no:¬RA e->decide (RA e)=false:=fun h=>Nw h
 by_cases h1:1<=e.item/\e.item<=999999
 case neg=>simp only [n92,encN,Yc,Nw h1,no (fun h=>h1 h.1),SB,seval,NF,NL,NG,place,NB,NC]
 by_cases h2:1<=e.place/\e.place<=999999
 case neg=>simp only [n92,encN,Yc,Nj h1,Nw h2,no (fun h=>h2 h.2.1),SB,seval,NF,NL,NG,place,NB,NC]
 by_cases a:1<=e.scanner/\e.scanner<=999999
 case neg=>simp only [n92,encN,Yc,Nj h1,Nj h2,Nw a,no (fun h=>a h.2.2.1),SB,seval,NF,NL,NG,place,NB,NC]
 by_cases b:1<=e.kind
 case neg=>simp only [n92,encN,Yc,Nj h1,Nj h2,Nj a,Nc b,no (fun h=>b h.2.2.2.1.1),SB,seval,NF,NL,NH,NG,place,NB,NC]
 by_cases h5:e.kind<=4
 case neg=>simp only [n92,encN,Yc,Nj h1,Nj h2,Nj a,Nh b,Nc h5,no (fun h=>h5 h.2.2.2.1.2),SB,seval,NF,NL,NH,NG,place,NB,NC]
 by_cases c:0<=e.at'/\e.at'<=UE
 case neg=>simp only [n92,encN,Yc,Nig,Nj h1,Nj h2,Nj a,Nh b,Nh h5,Nw c,no (fun h=>c h.2.2.2.2.1),SB,seval,NF,NL,NH,NG,place,NB,NC]
 have d:decide (RA e)=decide (0<=e.seen/\e.seen<=UE):=by
  rw [decide_eq_decide];exact ⟨fun h=>h.2.2.2.2.2,fun h=>⟨h1,h2,a,⟨b,h5⟩,c,h⟩⟩
 simp only [n92,encN,Yc,Nig,Nj h1,Nj h2,Nj a,Nh b,Nh h5,Nj c,d,SB,seval,NF,NL,NH,NG,place,NB,NC]
end Go.Proofs.YtkppjkkkdpcgiaaGreat.Fn



namespace Go.Proofs.YtkppjkkkdpcgiaaGreat.Fn
open Go.AM Go.AM.Sym Go.Net Go.Scan
variable {S:List Nat} {Q:Value->NA->Prop} {G' G H:NA} {R n M c e cp ce cl:Nat} {L:List Leg} {a:Int} {P ks:List Int} {pp pl pe:Option Addr} {b:Ev} {es:List Ev} {α:Type} {mp:Bool} {enc:α->List Value} {l:List α}
theorem Nd8 [OA] {lim B:Nat} {e:Ev} {o:Bool} (hB:NE H B=.cells o (encN e)):NQ E mp lim 55 [.slice (Sa B) 1 1] H Q=Q (.bool (decide (RA e))) H:=by
 refine pc (by decide) rfl rfl rfl ?_;rw [b55,c55];have a:=zc hB;have i0:∀k (H1:NA),Vq 6 (.slice (Sa B) 1 1) (.int k 0) H1=some (Vp B,H1):=fun k H1=>by simp [Vq,addr_add]
 have w1:IntKind.i64.wrap (0+1)=1:=by decide
 simp only [n55,SB,Nat.reduceLT,NL,NH,reduceCtorEq,NG,Int.reduceLT];rw [Nox,NU Ns9.eq_1];cases h:decide (RA e) with
 | false=>simp only [n55,a,i0,OL,NK,NI,Z0,h,SB,Nat.reduceLT,NF,NL,Nat.reduceEqDiff,NH,RN,place,NB,Nat.reduceAdd,NC,Int.reduceLT]
 | true=>
   simp only [n55,a,i0,OL,NK,NI,Z0,h,w1,SB,Nat.reduceLT,NF,NL,Nat.reduceEqDiff,NH,RN,place,NB,Nat.reduceAdd,Int.reduceLT];rw [Y0,NU Ns9.eq_1];simp only [n55,SB,Nat.reduceLT,NL,Nat.reduceEqDiff,NH,NC,Int.reduceLT]
def N2g (es:List Ev) (i:Nat):Prop:=RA (gt es i)/\0<=(gt es i).time/\(gt es i).time<=NV/\(0<i->(gt es i).item=(gt es 0).item/\(gt es (i-1)).time<=(gt es i).time)
instance (es:List Ev) (i:Nat):Decidable (N2g es i):=by unfold N2g;infer_instance
def Ngs (es:List Ev):Prop:=∀i,i<es.length->N2g es i
instance (es:List Ev):Decidable (Ngs es):=by unfold Ngs;infer_instance
def YE (P:List Int) (L:List Leg) (es:List Ev):Int:=if QD P L≠0 then QD P L else if 40<es.length then 5 else if Ngs es then 0 else 2
theorem Oaj (h:YE P L es=0):QD P L=0/\es.length<=40/\Ngs es:=by
 unfold YE at h;split at h
 ·contradiction
 ·split at h
  ·cases h
  ·split at h
   ·rename_i h1 h2 a;exact ⟨by simpa using h1,by omega,a⟩
   ·cases h
theorem N25 [OA] {lim:Nat} (hn:NetIn H pp pl P L) (hs:Sl H encE 7 pe es) (I:es.length<2 ^ 63) :
  NQ E mp lim 69 [.agg (netV pp P.length cp pl L.length cl).toArray,.slice pe es.length ce] H Q=Q (Vi (YE P L es)) H:=by
 refine pc (by decide) rfl rfl rfl ?_;rw [b69,c69];have w:=fun X (mp:Bool) (lim:Nat) (Q:Value->NA->Prop)=>Ndy (mp:=mp) (lim:=lim) (cp:=cp) (cl:=cl) (Q:=Q) (hn.app X)
 by_cases q:QD P L=0
 case neg=>
  have e:YE P L es=QD P L:=by unfold YE;rw [Nl q]
  simp only [n69,OG,NK,w,Nc q,e,SB,seval,NF,NL,NH,NG,place,NB,NC]
 by_cases u:(40:Int)<(es.length:Int)
 ·have e:YE P L es=5:=by unfold YE;rw [Ng (by simpa using q),Nl (by omega)]
  simp only [n69,OG,NK,w,Nh q,Nh u,e,SB,seval,NF,NL,NH,NG,place,NB,NC]
 have e2:YE P L es=if Ngs es then 0 else 2:=by unfold YE;rw [Ng (by simpa using q),Ng (by omega)]
 simp only [n69,OG,NK,w,Nh q,Nc u,SB,seval,NF,NL,NH,NG,place,NB];refine NP (fun i=>es.length-i) (fun i fr G=>i<=es.length/\fr 1=.slice pe es.length ce/\fr 16=.slice pe es.length ce/\fr 17=Vi es.length/\fr 18=Vi i/\OD H G/\∀j,j<i->N2g es j) 0
  ⟨Np _,rfl,rfl,rfl,by rfl,OD.refl.app,fun j z=>by omega⟩ ?_
 intro i fr G ⟨hi,f1,d,b,f,v,n⟩ hN;rw [NU N8e.eq_1];refine NJ ?_;have hl:=v.len;by_cases a:i<es.length
 case neg=>
  obtain rfl:i=es.length:=by omega
  rw [Nl (show Ngs es from n)] at e2;simp only [n69,b,f,a,e2,SB,seval,NL,NH,NC]
 have l:=v.sl hs;have p:=fun X=>(l.app X).loadCells NT a
 have r:=fun c (kk:IntKind) (H1:NA)=>l.idx (c:=c) (k:=kk) (H1:=H1) a
 have s:=fun X=>(l.app X).loadCell NT (i:=0) (j:=0) (by omega) (by decide)
 rw [VP] at s;replace s:∀X,AM.loadCell (G++X) (((Vs pe 7 0).add 0).add 0)=some (Vi (gt es 0).item):=s;have i0:=fun c (kk:IntKind) (H1:NA)=>l.idx (c:=c) (k:=kk) (H1:=H1) (i:=0) (by omega)
 simp only [Rg] at i0;have x:IntKind.i64.wrap ((i:Int)+1)=((i+1:Nat):Int):=OC (by omega);have m:¬N2g es i->YE P L es=2:=fun h=>by rw [e2,Ng fun F=>h (F i a)]
 have J:=fun (G:NA) (B:Nat) (o:Bool) (h:NE G B=.cells o (encN (gt es i))) (mp:Bool) (lim:Nat) (Q:Value->NA->Prop)=>Nd8 (mp:=mp) (lim:=lim) (Q:=Q) h
 have g:∀(X:NA) (mp:Bool) (lim:Nat) (Q:Value->NA->Prop),NQ E mp lim 55 [.slice (Sa (G.length+1)) 1 1] (G++Vc (encE (gt es i))::Vc (encN (gt es i))::X) Q=Q (.bool (decide (RA (gt es i)))) (G++Vc (encE (gt es i))::Vc (encN (gt es i))::X):=fun X mp lim Q=>Nd8 (o:=false) (by rw [NY];rfl)
 by_cases h1:RA (gt es i)
 case neg=>
  simp only [n69,d,b,f,a,p,r,NT,NI,hl,Uf,OL,g,Nw h1,SB,seval,NF,NL,NH,RN,place,NB,NC];rw [m fun h=>h1 h.1]
 by_cases h2:(gt es i).time<0
 ·simp only [n69,d,b,f,a,p,r,NT,QX,NI,hl,Uf,OL,g,Nj h1,Nh h2,SB,seval,NF,NL,NH,RN,place,NB,NC];rw [m fun h=>by have:=h.2.1;omega]
 by_cases t:1051898399<(gt es i).time
 ·simp only [n69,d,b,f,a,p,r,NT,QX,NI,hl,Uf,OL,g,Nj h1,Nc h2,Nh t,SB,seval,NF,NL,NH,RN,place,NB,NC];rw [m fun h=>by have:=h.2.2.1;unfold NV at this;omega]
 by_cases K:0<i
 case neg=>
  obtain rfl:i=0:=by omega
  have M:IntKind.i64.wrap (0+1)=1:=by decide
  simp only [n69,d,b,f,a,p,NT,QX,NI,hl,Uf,OL,g,Nj h1,Nc h2,Nc t,i0,SB,seval,NF,NL,NH,RN,place,NB];exact hN 1 _ _ ⟨by omega,f1,d,b,by rfl,v.app,fun j z=>by
   obtain rfl:j=0:=by omega
   exact ⟨h1,by omega,by unfold NV;omega,fun h=>by omega⟩⟩ (by omega)
 obtain ⟨k,rfl⟩:∃k,i=k+1:=⟨i-1,by omega⟩
 have lk:=fun X=>(l.app X).loadCell NT (i:=k) (j:=6) (by omega) (by decide)
 rw [QX] at lk;have A:=fun c (kk:IntKind) (H1:NA)=>l.idx (c:=c) (k:=kk) (H1:=H1) (i:=k) (by omega)
 have C:IntKind.i64.wrap (((k+1:Nat):Int)-1)=(k:Int):=by rw [NR (by omega) (by omega)];omega
 have kp:=Nh (show 0<k+1 by omega);by_cases h5:(gt es (k+1)).item=(gt es 0).item
 case neg=>
  simp only [n69,f1,d,b,f,a,p,r,NT,VP,QX,NI,hl,Uf,OL,g,Nj h1,Nc h2,Nc t,s,i0,kp,Nc h5,SB,seval,NF,NL,NH,RN,place,NB,NC];rw [m fun h=>h5 (h.2.2.2 (by omega)).1]
 by_cases y:(gt es (k+1)).time<(gt es k).time
 ·simp only [n69,f1,d,b,f,a,p,r,NT,VP,QX,NI,hl,Uf,OL,g,Nj h1,Nc h2,Nc t,s,i0,kp,Nh h5,lk,A,C,Nh y,SB,seval,NF,NL,NH,RN,place,NB,NC];rw [m fun h=>by have D:=(h.2.2.2 (by omega)).2;rw [P7] at D;omega]
 simp only [n69,f1,d,b,f,a,p,r,NT,VP,QX,NI,hl,Uf,OL,g,Nj h1,Nc h2,Nc t,s,i0,kp,Nh h5,lk,A,C,Nc y,x,SB,seval,NF,NL,NH,RN,place,NB];exact hN (k+2) _ _ ⟨by omega,f1,d,b,rfl,v.app,fun j z=>by
  rcases Od j (k+1) with h | h
  ·exact n j h
  ·obtain rfl:j=k+1:=by omega
   exact ⟨h1,by omega,by unfold NV;omega,fun _=>⟨h5,by rw [P7];omega⟩⟩⟩ (by omega)
def Nmx:Nat:=5000000
theorem N0g:Nmx=5000000:=rfl
attribute [irreducible] Nmx
def MF (P:List Int) (L:List Leg) (p t q:Int):Int:=(QM 50 (NW P) (t+86400) L p t Nmx).getD (NW P q) (-1)
theorem Nax {p t q:Int} (hn:NetOk 50 P L (NW P)) (hp:p∈P) (d:q∈P) (a:0<=t):Vd L p t q (MF P L p t q):=by
 obtain ⟨n,h1,h2,_⟩:=Noi (lim:=t+86400) hn hp a (by omega);have b:=Nge hn hp a (by omega:t<=t+86400) h2 q d;obtain ⟨j,c⟩:∃j,Nmx=n+j:=⟨Nmx-n,by rw [N0g];omega⟩
 unfold MF;rw [c,Ngd h2 j];exact b
def QJ (P:List Int) (L:List Leg) (a b:Ev):Int:=
 if a.kind=4 then 80 else if a.place=b.place then 0 else if b.place∉P then 80 else if SI P L a.place a.place a.time≠0 then 80 else
 if MF P L a.place a.time b.place<0 then 80 else min (max (MF P L a.place a.time b.place-b.time) 0) 60
theorem Uc {a:Ev}:0<=QJ P L a b/\QJ P L a b<=80:=by
 unfold QJ
 repeat' split
 all_goals omega
theorem Mo {p:Option Addr} (h:Sl G enc e p l) (hk:∀a,p=some a->l≠[]->∀ro c,NE G a.block=.cells ro c->NE G' a.block=.cells ro c):Sl G' enc e p l:=by
 cases p with
 | none=>exact h
 | some a=>
   refine ⟨h.1,fun hn=>?_⟩;obtain ⟨ro,c,h2,b⟩:=h.2 hn;exact ⟨ro,c,hk a rfl hn _ _ h2,b⟩
def Off (S:List Nat) (p:Option Addr) (l:List α):Prop:=∀a,p=some a->l≠[]->a.block∉S
theorem Off.grow {p:Option Addr} {b:Nat} (h:Off S p l) (hs:Sl G enc e p l) (g:G.length<=b):Off (b::S) p l:=fun a d hn hm=>by
 subst d;obtain ⟨ro,c,h2,f⟩:=hs.2 hn;have:=NM h2;rcases Ns.1 hm with h1 | h1
 ·omega
 ·exact h a rfl hn h1
def Xi (S:List Nat) (G:NA) (P:List Int) (L:List Leg) (a t:Int) (v:Value):Prop:=
 (SI P L a a t≠0/\v=Vz)\/(SI P L a a t=0/\∃q T,v=.slice q P.length (loose 1)/\Sl G encI 1 q T/\N7d P L a t T/\Off S q T)
theorem Xi.keep {t:Int} {v:Value} (h:Xi S G P L a t v) (hk:∀b ro c,b∉S->NE G b=.cells ro c->NE G' b=.cells ro c):Xi S G' P L a t v:=by
 rcases h with h | ⟨h,q,T,h1,h2,e,d⟩
 ·exact .inl h
 ·exact .inr ⟨h,q,T,h1,Mo h2 fun a f hn ro c=>hk _ _ _ (d a f hn),e,d⟩
def Naf (ms:List (Int×Int×Value)):List (Value×Value):=ms.map fun x=>(.agg #[Vi x.1,Vi x.2.1],x.2.2)
structure PI (lim R M:Nat) (S:List Nat) (G:NA) (pp pl:Option Addr) (cp cl:Nat) (P:List Int) (L:List Leg):Prop where
 net:NetIn G pp pl P L
 op:Off S pp P
 ol:Off S pl L
 r:NE G R=Vc [.slice pp P.length cp,.slice pl L.length cl,.map (some M)]
 oR:R∉S
 oM:M∉S
 m:∃ms,NE G M=.map (Naf ms)/\∀x∈ms,Xi S G P L x.1 x.2.1 x.2.2
 lM:lim<=M
 sl:∀j∈S,j<G.length
section
variable {lim R M:Nat} {S:List Nat} {G G':NA} {pp pl:Option Addr} {cp cl:Nat} {P:List Int} {L:List Leg}
variable {b:Nat}
theorem PI.alive (h:PI lim R M S G pp pl cp cl P L):M<G.length:=by
 obtain ⟨ms,h1,_⟩:=h.m;exact PW h1
theorem NetIn.sim {H:NA} (h:NetIn H pp pl P L) (hk:∀b ro c,NE H b=.cells ro c->NE G b=.cells ro c):NetIn G pp pl P L:=⟨h.sp.sim hk,h.sl.sim hk,h.np,h.nl,h.bys⟩
theorem PI.keep (h:PI lim R M S G pp pl cp cl P L) (hk:∀b ro c,b∉S->NE G b=.cells ro c->NE G' b=.cells ro c) (hM:NE G' M=NE G M) (hl:G.length<=G'.length):PI lim R M S G' pp pl cp cl P L:=by
 obtain ⟨ms,h1,h2⟩:=h.m;exact ⟨⟨Mo h.net.sp fun a d hn ro c=>hk _ _ _ (h.op a d hn),Mo h.net.sl fun a d hn ro c=>hk _ _ _ (h.ol a d hn),h.net.np,h.net.nl,h.net.bys⟩,h.op,h.ol,hk _ _ _ h.oR h.r,h.oR,h.oM,⟨ms,hM.trans h1,fun x f=>(h2 x f).keep hk⟩,h.lM,fun j e=>by have:=h.sl j e;omega⟩
theorem PI.chg (h:PI lim R M S G pp pl cp cl P L) (hc:Chg S G G'):PI lim R M S G' pp pl cp cl P L:=
 h.keep (fun b ro c a d=>hc.cells d a) (hc.other _ h.alive h.oM) hc.len
theorem PI.app (h:PI lim R M S G pp pl cp cl P L) (X:NA):PI lim R M S (G++X) pp pl cp cl P L:=h.chg Chg.refl.app
theorem PI.chgk (h:PI lim R M S G pp pl cp cl P L) (hc:Chg [M] G G'):∀b ro c,NE G b=.cells ro c->NE G' b=.cells ro c:=fun b ro c a=>hc.cells a fun hm=>by
 obtain ⟨ms,h1,_⟩:=h.m;rw [Nq.1 hm,h1] at a;cases a
theorem Xi.grow {a t:Int} {v:Value} (h:Xi S G P L a t v) (e:G.length<=b):Xi (b::S) G P L a t v:=by
 rcases h with h | ⟨h,q,T,h1,h2,c,d⟩
 ·exact .inl h
 ·exact .inr ⟨h,q,T,h1,h2,c,d.grow h2 e⟩
theorem PI.growC (h:PI lim R M S G pp pl cp cl P L) (hc:Chg S G G') (d:G.length<=b) (g:b<G'.length):PI lim R M (b::S) G' pp pl cp cl P L:=by
 have h':=h.chg hc;obtain ⟨ms,h1,h2⟩:=h.m;have o:=NM h.r;have hM:=h.alive;refine ⟨h'.net,h.op.grow h.net.sp d,h.ol.grow h.net.sl d,h'.r, ?_, ?_,⟨ms,(hc.other _ hM h.oM).trans h1,fun x n=>?_⟩,h.lM, ?_⟩
 ·intro hm;rcases Ns.1 hm with e | e
  ·omega
  ·exact h.oR e
 ·intro hm;rcases Ns.1 hm with e | e
  ·omega
  ·exact h.oM e
 ·rcases (h2 x n).grow d with k | ⟨k,q,T,k1,k2,k3,k4⟩
  ·exact .inl k
  ·exact .inr ⟨k,q,T,k1,Mo k2 fun a f hn ro c i=>hc.cells i fun hm=>k4 a f hn (Nr _ hm),k3,k4⟩
 ·intro j l;rcases Ns.1 l with e | e
  ·omega
  ·have:=h.sl j e;have:=hc.len;omega
theorem PI.grow (h:PI lim R M S G pp pl cp cl P L) (X:NA) (c:G.length<=b) (a:b<G.length+X.length):PI lim R M (b::S) (G++X) pp pl cp cl P L:=
 h.growC Chg.refl.app c (by simpa using a)
theorem PI.sub {S':List Nat} (h:PI lim R M S G pp pl cp cl P L) (hS:∀j∈S',j∈S):PI lim R M S' G pp pl cp cl P L:=by
 obtain ⟨ms,h1,h2⟩:=h.m;refine ⟨h.net,fun a b hn hm=>h.op a b hn (hS _ hm),fun a b hn hm=>h.ol a b hn (hS _ hm),h.r,fun hm=>h.oR (hS _ hm),fun hm=>h.oM (hS _ hm),⟨ms,h1,fun x d=>?_⟩,h.lM,fun j c=>h.sl j (hS _ c)⟩;rcases h2 x d with k | ⟨k,q,T,k1,k2,k3,k4⟩
 ·exact .inl k
 ·exact .inr ⟨k,q,T,k1,k2,k3,fun a b hn hm=>k4 a b hn (hS _ hm)⟩
end
theorem Nh2 {a t:Int}:∀(ms:List (Int×Int×Value)) (i:Nat),(findKey (.agg #[Vi a,Vi t]) (Naf ms) i=some none)\/∃j v,(a,t,v)∈ms/\findKey (.agg #[Vi a,Vi t]) (Naf ms) i=some (some (j,v))
 | [],i=>.inl rfl
 | (c,d,v)::ms,i=>by
   have e:Naf ((c,d,v)::ms)=(.agg #[Vi c,Vi d],v)::Naf ms:=rfl;rw [e,Nki];by_cases h:a=c/\t=d
   ·rw [Nl h];obtain ⟨rfl,rfl⟩:=h;exact .inr ⟨i,v,Nu ..,rfl⟩
   ·rw [Ng h];rcases Nh2 ms (i+1) with h1 | ⟨j,w,h1,h2⟩
    ·exact .inl h1
    ·exact .inr ⟨j,w,Nr _ h1,h2⟩
theorem Np1 [OA] {lim:Nat} {t:Int} (h:PI lim R M S G pp pl cp cl P L) (l:lim<=G.length)
  (A:∀G' v,Chg [M] G G'->PI lim R M S G' pp pl cp cl P L->Xi S G' P L a t v->Q v G') :
  NQ E false lim 137 [Vp R,Vi a,Vi t] G Q:=by
 refine QN (by decide) Oe3 rfl ?_;rw [Ogf,Oa2];obtain ⟨ms,hm,w⟩:=h.m;have k:=h.alive;have H:=zc h.r;have F:∀X,NE (G++X) M=.map (Naf ms):=fun X=>by rw [NS k];exact hm
 have e:U6 (.ints [.i64,.i64]) (.agg #[Vi a,Vi t])=true:=rfl;rcases Nh2 (a:=a) (t:=t) ms 0 with u | ⟨j,v,y,u⟩
 case inr=>
  simp only [n137,N9r,H,F,u,e,l,SB,seval,NL,RN,reduceCtorEq,NG,place,NB,NC];exact A _ v (Chg.refl.app) (h.app _) ((w _ y).keep fun b ro c _ i=>(OD.refl.app).cells i)
 have put:∀(G1:NA) (v:Value),Chg [] G G1->Xi S G1 P L a t v->∃G2,(∀X:NA,(G1++X).set M (.map (Naf ms++[(Value.agg #[Vi a,Vi t],v)]))=G2++X)/\∀X,Chg [M] G (G2++X)/\PI lim R M S (G2++X) pp pl cp cl P L/\Xi S (G2++X) P L a t v:=by
  intro G1 v f y;have d:NE G1 M=.map (Naf ms):=f.get hm k (by simp);obtain ⟨G2,e2,h2,C⟩:=OO (PW d) (.map (Naf ms++[(Value.agg #[Vi a,Vi t],v)]));have n:∀b ro c,NE G1 b=.cells ro c->NE G2 b=.cells ro c:=fun b ro c i=>C.cells i (by rintro rfl;rw [d] at i;cases i)
  have hk:∀b ro c,NE G b=.cells ro c->NE G2 b=.cells ro c:=fun b ro c i=>n _ _ _ (f.cells i (by simp))
  have z:PI lim R M S G2 pp pl cp cl P L:=by
   refine ⟨h.net.sim hk,h.op,h.ol,hk _ _ _ h.r,h.oR,h.oM,⟨ms++[(a,t,v)],by rw [h2];simp [Naf],fun x hx=>?_⟩,h.lM,fun j B=>by have:=h.sl j B;have:=f.len;have:=C.len;omega⟩;rcases Ok.1 hx with hx | hx
   ·exact (w x hx).keep fun b ro c _=>hk b ro c
   ·rw [Nq] at hx;subst hx;exact y.keep fun b ro c _=>n b ro c
  exact ⟨G2,e2,fun X=>⟨((f.mono (fun j _ B=>by simp at B)).mut C (.inl (by simp))).app,z.app X,(y.keep fun b ro c _=>n b ro c).keep fun b ro c _ i=>(OD.refl.app).cells i⟩⟩
 simp only [n137,H,F,u,e,l,SB,seval,NF,NL,RN,reduceCtorEq,NG,place,NB];refine Nxu (P:=P) (L:=L) (cp:=cp) (cl:=cl) (h.net.app _) (by simp;omega) (fun G1 he g=>?_) (fun G1 q T he g I D J=>?_)
 ·have f:=g.pre;obtain ⟨G2,e2,h2⟩:=put G1 Vz f (.inl ⟨he,rfl⟩);have o:=zc (g.cells NN (by simp));have s:=zc (f.cells h.r (by simp));have d:NE G1 M=.map (Naf ms):=f.get hm k (by simp);have p:∀X,NE (G1++X) M=.map (Naf ms):=fun X=>by rw [NS (PW d)];exact d
  refine NJ ?_;simp only [n137,N9r,Nc he,s,o,p,u,e,e2,h.lM,SB,seval,NL,NH,reduceCtorEq,NG,NC];obtain ⟨k1,k3,k4⟩:=h2 [];exact A _ _ k1 k3 k4
 ·have f:=g.pre;obtain ⟨G2,e2,h2⟩:=put G1 (.slice q P.length (loose 1)) f (.inr ⟨he,q,T,rfl,D.sl OT,I,fun a K _ hm=>by have h1:=(D.block K).1;have h2:=h.sl _ hm;simp at h1;omega⟩);have o:=zc (g.cells NN (by simp));have s:=zc (f.cells h.r (by simp));have d:NE G1 M=.map (Naf ms):=f.get hm k (by simp);have p:∀X,NE (G1++X) M=.map (Naf ms):=fun X=>by rw [NS (PW d)];exact d
  refine NJ ?_;simp only [n137,N9r,s,o,p,u,e,e2,h.lM,SB,seval,NL,NH,reduceCtorEq,NG,NC];obtain ⟨k1,k3,k4⟩:=h2 [];exact A _ _ k1 k3 k4
theorem Nut [OA] {lim:Nat} {p:Option Addr} (hs:Sl H encI 1 p P) (hn:P.length<2 ^ 63) :
  NQ E mp lim 136 [.slice p P.length c,Vi a] H Q=Q (Vi (Sm P a)) H:=by
 refine pc (by decide) Oe4 rfl rfl ?_;rw [Ogg,Oa3];simp only [n136,SB,seval,NL,reduceCtorEq,NG];refine NP (fun j=>P.length-j) (fun j fr G=>j<=P.length/\fr 0=.slice p P.length c/\fr 1=Vi a/\fr 7=Vi P.length/\fr 8=Vi j/\OD H G/\∀i,i<j->gt P i≠a) 0 ⟨Np _,rfl,rfl,rfl,by rfl,OD.refl.app,fun i hi=>by omega⟩ ?_;intro j fr G ⟨q,f0,f1,g,l,m,d⟩ hN;rw [NU N1a.eq_1];refine NJ ?_;by_cases b:j<P.length
 case neg=>
  obtain rfl:j=P.length:=by omega
  simp only [n136,Oce,g,l,b,SB,seval,NL,NH,NC];rw [Sm,Ng fun hm=>?_];obtain ⟨i,hi,he⟩:=List.mem_iff_getElem.1 hm;exact d i hi (by rw [OQ hi];exact he)
 have f:=fun X=>((m.sl hs).app X).loadCell0 OT b (by decide)
 simp only [encI,Oq] at f;have e:=fun c (k:IntKind) (H1:NA)=>(m.sl hs).idx (c:=c) (k:=k) (H1:=H1) b
 have n:IntKind.i64.wrap ((j:Int)+1)=((j+1:Nat):Int):=OC (by omega);by_cases he:a=gt P j
 ·simp only [n136,Oce,f0,f1,g,l,b,e,f,Nh he,SB,seval,NL,NH,reduceCtorEq,NC];have hm:a∈P:=he▸PM b;rw [Sm,Nl hm];congr 1;have h1:NW P a<=j:=by
   unfold NW;apply Oe;intro hc;have:=List.not_of_lt_findIdx (xs:=P) (p:=(· == a)) (i:=j) (by unfold List.idxOf at hc;omega);rw [OQ b] at he;simp [he] at this
  rcases Od (NW P a) j with h3 | h3
  ·exfalso;have hl:NW P a<P.length:=N4 hm;have:=Qo hl;refine d _ h3 ?_;rw [OQ hl];exact this
  ·omega
 ·simp only [n136,f0,f1,g,l,b,e,f,n,Nc he,SB,seval,NL,NH,reduceCtorEq];exact hN (j+1) _ _ ⟨by omega,f0,f1,g,rfl,m.app,fun i hi=>by
   rcases Od i j with h | h
   ·exact d i h
   ·obtain rfl:i=j:=by omega
    exact fun o=>he o.symm⟩ (by omega)
theorem Nl3 [OA] {lim:Nat} {a:Ev} (h:PI lim R M S G pp pl cp cl P L) (J:lim<=G.length) (z:0<=b.time/\b.time<=NV)
  (I:∀G',Chg [M] G G'->PI lim R M S G' pp pl cp cl P L->Q (Vi (QJ P L a b)) G') :
  NQ E false lim 107 [Vp R,.agg (encE a).toArray,.agg (encE b).toArray] G Q:=by
 refine QN (by decide) Oft rfl ?_;rw [Og5,c107];have K:=zc h.r;unfold NV at z;have fin:∀(n:Int) (X:NA),QJ P L a b=n->Q (Vi n) (G++X):=fun n X e=>by
  rw [<-e];exact I _ (Chg.refl.app) (h.app _)
 by_cases h1:a.kind=4
 ·simp only [n107,Nuq,QY,Nh h1,SB,seval,NL,NH,NG,place,NB,NC];exact fin _ _ (by unfold QJ;rw [Nl h1])
 by_cases h2:a.place=b.place
 ·simp only [n107,Nuq,QU,QY,Nc h1,Nh h2,SB,seval,NL,NH,NG,place,NB,NC];exact fin _ _ (by unfold QJ;rw [Ng h1,Nl h2])
 have l:=fun X (mp:Bool) (lim:Nat) (Q:Value->NA->Prop)=>Nut (mp:=mp) (lim:=lim) (c:=cp) (a:=b.place) (Q:=Q) ((h.net.sp).app X) h.net.np
 by_cases g:b.place∈P
 case neg=>
  have e:Sm P b.place=-1:=Ng g;rw [e] at l;simp only [n107,Nuq,K,QU,QY,Nc h1,Nc h2,l,SB,seval,NF,NL,NH,reduceCtorEq,NG,place,NB,NC];exact fin _ _ (by unfold QJ;rw [Ng h1,Ng h2,Nl g])
 have e:Sm P b.place=(NW P b.place:Int):=Nl g;have d:NW P b.place<P.length:=N4 g;rw [e] at l;have Y:¬(NW P b.place:Int)<0:=by omega
 simp only [n107,K,QU,QY,QX,Nc h1,Nc h2,l,SB,seval,NF,NL,NH,reduceCtorEq,NG,place,NB];refine Np1 (h.app _) (by simp;omega) fun G1 v H y F=>?_
 have hk:=(h.app [Vc (encE a),Vc (encE b)]).chgk H;have O:∀b ro c,NE G b=.cells ro c->NE G1 b=.cells ro c:=fun b ro c z=>hk _ _ _ ((OD.refl.app).cells z)
 have w:=H.pre;have A:=zc (hk _ _ _ (show NE (G++[Vc (encE a),Vc (encE b)]) (G.length+1)=Vc (encE b) by rw [NY];rfl));have f:∀(n:Int) (X:NA),QJ P L a b=n->Q (Vi n) (G1++X):=fun n X e=>by
  rw [<-e];exact I _ (w.app) (y.app _)
 rcases F with ⟨he,rfl⟩ | ⟨he,q,T,rfl,hs,t,_⟩
 ·have C:=Nh (show (0:Int)<=(NW P b.place:Int) by omega);refine NJ ?_;simp only [n107,Nuq,C,SB,seval,NL,NH,NC];exact f _ _ (by unfold QJ;rw [Ng h1,Ng h2,Ng (by simpa using g),Nl he])
 ·obtain ⟨F,hp,_,m,D⟩:=VN he;have k:=RS F;have o:=t.2 _ g;rw [<-WL (by rw [t.1];exact d)] at o;have ev:=o.uniq (Nax k hp g m);have lT:=S9 (i:=NW P b.place) hs (by rw [t.1];exact d);have xT:=Ux (i:=NW P b.place) hs d t.1;rw [ev] at lT;have B:=Nr8 (Nax k hp g m) D m;have s:QJ P L a b=if MF P L a.place a.time b.place<0 then 80 else min (max (MF P L a.place a.time b.place-b.time) 0) 60:=by
   unfold QJ;rw [Ng h1,Ng h2,Ng (by simpa using g),Ng (by simpa using he)]
  have N:-1<=MF P L a.place a.time b.place:=by
   rcases Nax k hp g m with ⟨e,_⟩ | ⟨⟨⟨j,V⟩,_⟩,_⟩
   ·omega
   ·have:=V.later k.fine;omega
  generalize MF P L a.place a.time b.place=x at *;unfold NV at B;have W:IntKind.i64.wrap (x-b.time)=x-b.time:=NR (by omega) (by omega);have U:NW P b.place<P.length:=d;have p:=Nc (show ¬P.length<=NW P b.place by omega);refine NJ ?_;by_cases u:x<0
  ·simp only [n107,Nuq,lT,xT,Nh u,p,SB,seval,NL,NH,NC];exact f _ _ (by rw [s,Nl u])
  ·simp only [n107,Nuq,QX,A,lT,xT,Nc u,p,W,N0b,Nz9,SB,seval,NL,NH,NC];exact f _ _ (by rw [s,Ng u])
theorem Nj2 [OA] {lim:Nat} (hn:NetIn H pp pl P L) (b:lim<=H.length)
  (c:∀G R M,OD H G->H.length<=R->H.length<=M->PI lim R M [] G pp pl cp cl P L->Q (Vp R) G) :
  NQ E false lim 70 [.agg (netV pp P.length cp pl L.length cl).toArray] H Q:=by
 refine QN (by decide) rfl rfl ?_;rw [b70,c70];simp only [n70,netV,QI,U9,SB,seval,NL,NG,place,NB,NC];refine c _ _ (H.length+1) OD.refl.app ?_ (by omega) ⟨hn.app _,(fun _ _ _ a=>by cases a),(fun _ _ _ a=>by cases a), ?_,(by simp),(by simp),⟨[], ?_,fun x e=>by cases e⟩,(by omega),(fun j d=>by cases d)⟩
 ·omega
 ·rw [NY];rfl
 ·rw [NY];rfl
def U3 (n:Nat) (G:NA) (enc:α->List Value) (e:Nat) (q:Option Addr) (l:List α):Prop:=Sl G enc e q l/\∀a,q=some a->n<=a.block
theorem U3.app {q:Option Addr} (h:U3 n G enc e q l) (X:NA):U3 n (G++X) enc e q l:=⟨h.1.app X,h.2⟩
theorem U3.le {n':Nat} {q:Option Addr} (h:U3 n G enc e q l) (hl:n'<=n):U3 n' G enc e q l:=⟨h.1,fun a b=>by have:=h.2 a b;omega⟩
theorem U3.mut {q:Option Addr} (h:U3 n G enc e q l) (hm:Mut G G' R) (d:R<n):U3 n G' enc e q l:=
 ⟨Mo h.1 fun a b hn ro c hc=>hm.cells hc (by have:=h.2 a b;omega),h.2⟩
theorem U3.chg {A:List Nat} {q:Option Addr} (h:U3 n G enc e q l) (hc:Chg A G G') (b:∀j∈A,j<n):U3 n G' enc e q l:=
 ⟨hc.sl h.1 fun a c _ d=>by have:=b _ d;have:=h.2 a c;omega,h.2⟩
def YT (p:Option Addr):List Nat:=match p with
 | none=>[]
 | some a=>[a.block]
theorem Own.moreF {lim lim' bytes cap:Nat} {p:Option Addr} (h:Own lim G enc e p cap l) (n:lim'<=lim) (he:∀x,(enc x).length=e) (i:e≠0) (m:List α) (hm:m≠[]) (g:(l.length+m.length)*bytes<=OX) (hn:l.length+m.length<2 ^ 61)
  (X:NA) {x:Value} {str:Bool} (h1:firstCells (G++X) e str x=some (m.flatMap enc)) (h2:lenOf x=some m.length) :
  ∃G2,OP lim' none e bytes str (.slice p l.length cap) x (G++X)=some (.slice (Sa ((G++X).length)) (l.length+m.length) (loose e),G2++[])/\Own G.length G2 enc e (Sa ((G++X).length)) (loose e) (l++m)/\Chg (YT p) G G2/\(G++X).length<G2.length:=by
 have c:¬m.length=0:=fun q=>hm (List.length_eq_zero_iff.1 q)
 rcases h with ⟨k1,k2,k3⟩ | ⟨R,k1,k2,k3,k4⟩
 ·subst k1 k2 k3;refine ⟨G++(X++[Vc (m.flatMap enc)]), ?_, ?_,Chg.refl.app,by simp⟩
  ·simp only [Nn,Nx] at g hn⊢;simp only [OP,h1,h2,c,if_false,Nx];rw [Ng (by omega)];simp [place]
  ·rw [Og];refine Own.new ?_ (by simp);rw [<-No];exact NN
 ·subst k1 k2;have b:=NM k3;have a:NE (G++X) R=Vc (l.flatMap enc):=by rw [NS b];exact k3
  have d:AM.loadCells (G++X) ⟨R,0,none⟩ (l.length*e)=some (l.flatMap enc):=by
   simp only [PV,a,Nx,OW he,Nf,if_true,On];rw [Oc (by rw [OW he];exact Nf _)]
  have f:Mut G (G.set R .dead) R:=⟨by simp,fun j k=>QC k⟩
  refine ⟨G.set R .dead++(X++[Vc ((l++m).flatMap enc)]), ?_, ?_,(Chg.refl.mut f (.inl (by simp [YT]))).app,by simp⟩
  ·simp only [OP,h1,h2,d,a,c,if_false,if_true];rw [Ng (by unfold loose;omega)];simp [show lim'<=R by omega,place,Qj _ _ b,No]
  ·refine Own.new ?_ (by simp);rw [<-No,show (G++X).length=(G.set R .dead++X).length by simp];exact NN
theorem Nwr [OA] {lim:Nat} {p:Option Addr} {l:List Int} (hs:Sl H encI 1 p l) (hc:p=none->c=0) (hl:l.length<2 ^ 40)
  (e:∀H' q c',OD H H'->U3 H.length H' encI 1 q l->Q (.slice q l.length c') H') :
  NQ E false lim 106 [.slice p l.length c] H Q:=by
 by_cases hn:l=[]
 case neg=>exact Nn9 hs hn hl fun H' q h g=>e H' q _ h ⟨g.sl OT,fun a d=>(g.block d).1⟩
 subst hn;refine QN (by decide) Odn rfl ?_;rw [Ods,N68];cases p with
 | none=>
   obtain rfl:=hc rfl;have b:aEq .slice Vz Vz=some true:=rfl;simp only [n106,N9w,b,SB,seval,NL,reduceCtorEq,NG,NC];exact e _ none 0 OD.refl.app ⟨rfl,fun a d=>by cases d⟩
 | some a=>
   have b:aEq .slice (.slice (some a) 0 c) Vz=some false:=rfl;have f:∀X,OP lim none 1 8 false (.slice (Sa H.length) 0 0) (.slice (some a) 0 c) (H++X)=some (.slice (Sa H.length) 0 0,H++X):=fun X=>by simp [OP,firstCells,lenOf]
   simp only [n106,N9w,b,f,SB,seval,NL,reduceCtorEq,NG,place,NC];exact e _ (Sa H.length) 0 OD.refl.app ⟨⟨rfl,fun i=>absurd rfl i⟩,fun a d=>by cases d;exact Nf _⟩
def Sq (P:List Int) (L:List Leg) (es:List Ev) (ks:List Int) (i:Nat):Int×Int×Int:=(gt ks i,gt ks (i+1),QJ P L (gt es (gt ks i).toNat) (gt es (gt ks (i+1)).toNat))
def QG (P:List Int) (L:List Leg) (es:List Ev) (ks:List Int):List (Int×Int×Int):=(List.range (ks.length-1)).map (Sq P L es ks)
def UG:List (Int×Int×Int)->Int
 | []=>0
 | x::l=>x.2.2+UG l
def Sr (P:List Int) (L:List Leg) (es:List Ev) (ks:List Int):Int:=30*((es.length:Int)-ks.length)+UG (QG P L es ks)
theorem Zz:∀(l:List (Int×Int×Int)) (x:Int×Int×Int),UG (l++[x])=UG l+x.2.2
 | [],x=>by simp [UG]
 | y::l,x=>by rw [Ox,UG,Zz l x,UG];omega
theorem XO {P:List Int} {L:List Leg} {es:List Ev} {ks:List Int}:∀(n:Nat),0<=UG ((List.range n).map (Sq P L es ks))/\UG ((List.range n).map (Sq P L es ks))<=80*n
 | 0=>by simp [UG]
 | n+1=>by
   rw [Qg,O7,List.map_singleton,Zz];have h1:=XO (P:=P) (L:=L) (es:=es) (ks:=ks) n;have h2:=Uc (P:=P) (L:=L) (a:=gt es (gt ks n).toNat) (b:=gt es (gt ks (n+1)).toNat);have e:(Sq P L es ks n).2.2=QJ P L (gt es (gt ks n).toNat) (gt es (gt ks (n+1)).toNat):=rfl;rw [e];omega
theorem N5e [OA] {lim:Nat} {pk:Option Addr} {ck:Nat} (h:PI lim R M S H pp pl cp cl P L) (ai:lim<=H.length)
  (hs:Sl H encE 7 pe es) (bm:es.length<=40) (ht:∀i,i<es.length->0<=(gt es i).time/\(gt es i).time<=NV) (hk:Sl H encI 1 pk ks) (bh:ks.length<2 ^ 20) (ay:pk=none->ck=0) (hks:∀k∈ks,0<=k/\k<es.length)
  (hQ:∀G q cq r cr,Chg [M] H G->PI lim R M S G pp pl cp cl P L->U3 H.length G encI 1 q ks->U3 H.length G enc3 3 r (QG P L es ks)->Q (.agg #[.slice q ks.length cq,.slice r (QG P L es ks).length cr,Vi (Sr P L es ks)]) G) :
  NQ E false lim 71 [Vp R,.slice pe es.length ce,.slice pk ks.length ck] H Q:=by
 refine QN (by decide) rfl rfl ?_;rw [b71,c71];have av:=h.alive;simp only [n71,SB,seval,NF,NL,NG,place];refine Nwr (hk.app _) ay (by omega) fun H1 q cq o aa=>?_
 have w1:IntKind.i64.wrap ((es.length:Int)-ks.length)=(es.length:Int)-ks.length:=NR (by omega) (by omega);have w2:IntKind.i64.wrap (30*((es.length:Int)-ks.length))=30*((es.length:Int)-ks.length):=NR (by omega) (by omega);have a3:=o.len;simp at a3;have s:lim<=H1.length:=by omega
 have au:Chg [M] H H1:=(OD.chg (A:=[M]) o).pre;have bg:NE H1 M=NE H M:=(OD.chg (A:=[]) o).pre.other M av (by simp);have an:NE H1 H.length=Vc [Vz,Vz,Vi 0]:=o.cells NN;have ax:=(h.grow (b:=H.length) [Vc [Vz,Vz,Vi 0]] (Nf _) (by simp)).chg (OD.chg o);refine NJ ?_;simp only [n71,w1,w2,s,SB,seval,NL,NH,NG,place,NB];refine NP (fun x:Nat×Option Addr×Nat=>ks.length-x.1) (fun x fr G=>(x.1=0\/x.1+1<=ks.length)/\fr 0=Vp R/\fr 1=.slice pe es.length ce/\fr 2=.slice pk ks.length ck/\fr 6=Vp H.length/\fr 7=Vp H1.length/\fr 8=Vi ((x.1+1:Nat):Int)/\Chg [M] H G/\Chg [M,H1.length] H1 G/\PI lim R M (YT x.2.1++H1.length::H.length::S) G pp pl cp cl P L/\
   NE G H1.length=Vc [.slice q ks.length cq,.slice x.2.1 x.1 x.2.2,Vi (30*((es.length:Int)-ks.length)+UG ((List.range x.1).map (Sq P L es ks)))]/\Own (H1.length+1) G enc3 3 x.2.1 x.2.2 ((List.range x.1).map (Sq P L es ks))) (0,none,0)
  ⟨.inl rfl,rfl,rfl,rfl,rfl,by rfl,by rfl,au.app,Chg.refl.app,ax.grow _ (Nf _) (by simp),by rw [NN];simp [UG],.nil⟩ ?_
 rintro ⟨i,U,cw⟩ fr G ⟨hi,g0,g1,g2,g6,g7,g8,hC,v,y,hB,F⟩ hN;simp only at hi g8 y hB F;rw [NU N8d.eq_1];refine NJ ?_;have hl:=hC.len;have bk:=v.len;have bf:=NM hB;have D:NE G H.length=Vc [Vz,Vz,Vi 0]:=v.cells an (by simp;omega);have B:((List.range i).map (Sq P L es ks)).length=i:=by simp
 have C:=hs.sim (h.chgk hC);have z:=hk.sim (h.chgk hC);have be:=XO (P:=P) (L:=L) (es:=es) (ks:=ks) i;by_cases g:i+1<ks.length
 case neg=>
  have ei:ks.length-1=i:=by omega
  have bd:¬((i+1:Nat):Int)<(ks.length:Int):=by omega
  have aq:=zc hB;have ak:=zc D;obtain ⟨G2,e2,h2,u⟩:=OO (NM D) (Vc [.slice q ks.length cq,.slice U i cw,Vi (30*((es.length:Int)-ks.length)+UG ((List.range i).map (Sq P L es ks)))]);have aj:=zc h2;simp only [n71,g2,g6,g7,g8,g,aq,ak,ai,e2,aj,SB,seval,NL,NH,NB,NC];have J:QG P L es ks=(List.range i).map (Sq P L es ks):=by unfold QG;rw [ei]
  have ar:Chg [M] H G2:=hC.mut u (.inr (Nf _));have ae:=(y.chg (Chg.refl.mut u (.inl (by simp)))).sub (S':=S) fun j f=>by simp [f]
  have w:=F.mut u fun a d e=>by have:=(F.block d).1;omega
  have O:∀a,q=some a->H.length<a.block:=fun a d=>by have:=aa.2 a d;simp at this;omega
  have a0:U3 H.length G2 encI 1 q ks:=⟨Mo aa.1 (fun a d hn ro c hc=>u.cells (v.cells hc (by have h1:=NM hc;have h2:=O a d;simp;omega)) (by have h2:=O a d;omega)),fun a d=>by have:=O a d;omega⟩
  have:=hQ G2 q cq U cw ar ae a0 (by rw [J];exact ⟨w.sl OU,fun a d=>by have:=(w.block d).1;omega⟩);rw [J,B] at this;unfold Sr at this;rw [J] at this;rw [Na];exact this
 have l0:=fun X=>(z.app X).loadCell0 OT (i:=i) (by omega) (by decide)
 have l1:=fun X=>(z.app X).loadCell0 OT (i:=i+1) g (by decide)
 simp only [encI,Oq] at l0 l1;have x0:=fun c (k:IntKind) (H1:NA)=>z.idx (c:=c) (k:=k) (H1:=H1) (i:=i) (by omega)
 have x1:=fun c (k:IntKind) (H1:NA)=>z.idx (c:=c) (k:=k) (H1:=H1) (i:=i+1) g
 obtain ⟨a,ea⟩:=Int.eq_ofNat_of_zero_le (hks _ (PM (i:=i) (by omega))).1;obtain ⟨b,eb⟩:=Int.eq_ofNat_of_zero_le (hks _ (PM g)).1;have d:a<es.length:=by have:=(hks _ (PM (l:=ks) (i:=i) (by omega))).2;omega
 have hb:b<es.length:=by have:=(hks _ (PM g)).2;omega
 have I:Sq P L es ks i=((a:Int),(b:Int),QJ P L (gt es a) (gt es b)):=by unfold Sq;rw [ea,eb];rfl
 rw [ea] at l0;rw [eb] at l1;have la:=fun X=>(C.app X).loadCells NT d
 have lb:=fun X=>(C.app X).loadCells NT hb
 have xa:=fun c (k:IntKind) (H1:NA)=>C.idx (c:=c) (k:=k) (H1:=H1) d
 have xb:=fun c (k:IntKind) (H1:NA)=>C.idx (c:=c) (k:=k) (H1:=H1) hb
 have w9:IntKind.i64.wrap (((i+1:Nat):Int)-1)=(i:Int):=by rw [NR (by omega) (by omega)];omega
 have t:lim<=G.length:=by omega
 simp only [n71,g0,g1,g2,g8,t,g,w9,l0,l1,x0,x1,la,lb,xa,xb,SB,seval,NF,NL,NH,reduceCtorEq,place,NB];refine Nl3 (a:=gt es a) (y.grow [Vc [Vi a,Vi b,Vi 0]] (Nf _) (by simp)) (by simp;omega) (ht b hb) fun G1 n ad=>?_
 have ag:=(y.grow [Vc [Vi a,Vi b,Vi 0]] (Nf _) (by simp)).chgk n;have W:NE G1 G.length=Vc [Vi a,Vi b,Vi 0]:=ag _ _ _ NN;have am:=ag _ _ _ ((OD.refl.app).cells hB);have a5:=n.len;simp at a5;have ab:Own (H1.length+1) G1 enc3 3 U cw ((List.range i).map (Sq P L es ks)):=(F.app _).chg n fun a d hm=>by have:=(F.block d).1;simp at hm;omega
 generalize hp:QJ P L (gt es a) (gt es b)=p at I;have a7:=Uc (P:=P) (L:=L) (a:=gt es a) (b:=gt es b);rw [hp] at a7;obtain ⟨G2,e2,h2,u⟩:=OO (NM W) (Vc [Vi a,Vi b,Vi p]);have Y:=u.cells am (by omega);have w:=ab.mut u fun a d e=>by have:=(F.block d).2;omega
 have wp:IntKind.i64.wrap (30*((es.length:Int)-ks.length)+UG ((List.range i).map (Sq P L es ks))+p)=30*((es.length:Int)-ks.length)+UG ((List.range (i+1)).map (Sq P L es ks)):=by
  rw [Qg,O7,List.map_singleton,Zz,I,<-Int.add_assoc];exact NR (by omega) (by omega)
 obtain ⟨V,e3,h3,T⟩:=OO (NM Y) (Vc [.slice q ks.length cq,.slice U i cw,Vi (30*((es.length:Int)-ks.length)+UG ((List.range (i+1)).map (Sq P L es ks)))]);have aw:=w.mut T fun a d e=>by have:=(F.block d).1;omega
 have al:=T.cells h2 (by omega);have ba:=u.len;have bb:=T.len;obtain ⟨G4,e4,O4,C4,ah⟩:=Own.moreF aw (lim':=lim) (bytes:=24) (by omega) OU (by decide) [((a:Int),(b:Int),p)] (by simp) (by rw [B];unfold OX;simp;omega) (by rw [B];simp;omega) [Vc [Vi a,Vi b,Vi p]] (x:=.slice (Sa V.length) 1 1) (str:=false)
  (SH (m:=[((a:Int),(b:Int),p)]) (Sl.row (ro:=false) OU (by rw [NN];rfl))) rfl
 rw [B] at e4;have eN:(List.range i).map (Sq P L es ks)++[((a:Int),(b:Int),p)]=(List.range (i+1)).map (Sq P L es ks):=by rw [Qg,O7,List.map_singleton,I]
 rw [eN] at O4;have N:∀j,j∈YT U->H1.length+1<=j/\j<G.length:=fun j f=>by
  cases hpe:U with
  | none=>rw [hpe] at f;cases f
  | some a=>rw [hpe] at f;have:=F.block hpe;simp [YT] at f;omega
 generalize a6:(V++[Vc [Vi a,Vi b,Vi p]]).length=r at e4 O4 ah;have a8:V.length<=r:=by rw [<-a6];simp
 generalize loose 3=c' at e4 O4;simp only [Nm,Nn,Nx] at e4;have Z:=C4.cells h3 fun hm=>by have:=N _ hm;omega
 obtain ⟨G5,e5,h5,m5⟩:=OO (NM Z) (Vc [.slice q ks.length cq,.slice (Sa r) (i+1) c',Vi (30*((es.length:Int)-ks.length)+UG ((List.range (i+1)).map (Sq P L es ks)))]);have X1:=zc W;have X2:=zc Y;have X3:=zc h2;have X4:=zc h3;have X5:=zc al;have X6:=zc Z;have a9:IntKind.i64.wrap (((i+1:Nat):Int)+1)=((i+2:Nat):Int):=OC (by omega);have K:lim<=H1.length:=s;refine NJ ?_;simp only [n71,g7,g8,t,K,X1,e2,X2,X3,e3,X4,X5,X6,e4,e5,wp,a9,SB,seval,NL,NH,place,NB];have k1:Chg [M] H V:=((hC.trans n.pre).mut u (.inr (by omega))).mut T (.inr (by omega));have k2:Chg [M] H G5:=(k1.trans' C4 fun j f az=>by have:=N j f;omega).mut m5 (.inr (by omega));have k3:Chg [M,H1.length] H1 V:=((v.trans (n.pre.mono fun j _ f=>by simp at f;simp [f])).mut u (.inr (by omega))).mut T (.inl (by simp));have k4:Chg [M,H1.length] H1 G5:=(k3.trans' C4 fun j f az=>by have:=N j f;omega).mut m5 (.inl (by simp));have k5:=ad.chg ((Chg.refl.mut u (.inl (by simp))).mut T (.inl (by simp)));have k6:=k5.growC (b:=r) (G':=G4) (C4.mono fun j _ f=>by simp [f]) a8 ah;have k7:=(k6.chg (Chg.refl.mut m5 (.inl (by simp)))).sub (S':=YT (Sa r)++H1.length::H.length::S) fun j f=>by
  simp [YT] at f;rcases f with e | e | e | e
  ·simp [e]
  ·simp [e]
  ·simp [e]
  ·simp [e]
 have k8:=(O4.mut m5 fun a d e=>by cases d;simp at e;omega).le (lim':=H1.length+1) (by omega);exact hN (i+1,Sa r,c') _ _ ⟨.inr g,g0,g1,g2,g6,g7,by rfl,k2.app,k4.app,k7.app _,(OD.refl.app).cells h5,k8.app _⟩ (by show ks.length-(i+1)<ks.length-i;omega)
def Nc7 (n:Nat) (ks:List Int) (i:Nat):Prop:=0<=gt ks i/\gt ks i<n/\(0<i->gt ks (i-1)<gt ks i)
instance (n:Nat) (ks:List Int) (i:Nat):Decidable (Nc7 n ks i):=by unfold Nc7;infer_instance
def Nhf (n:Nat) (ks:List Int):Prop:=(ks.length=0->n=0)/\∀i,i<ks.length->Nc7 n ks i
instance (n:Nat) (ks:List Int):Decidable (Nhf n ks):=by unfold Nhf;infer_instance
theorem Nr6 {n:Nat} {ks:List Int} (h:∀i,i<ks.length->Nc7 n ks i):∀i,i<ks.length->(i:Int)<=gt ks i
 | 0,hi=>(h 0 hi).1
 | i+1,hi=>by
   have h1:=Nr6 h i (by omega);have h2:=(h (i+1) hi).2.2 (by omega);rw [P7] at h2;omega
theorem Naw (h:∀i,i<ks.length->Nc7 n ks i):ks.length<=n:=by
 apply Oe;intro hc;have h1:=Nr6 h (ks.length-1) (by omega);have h2:=(h (ks.length-1) (by omega)).2.1;omega
theorem Nhf.mem (h:Nhf n ks):∀k∈ks,0<=k/\k<n:=fun k hk=>by
 obtain ⟨i,hi,rfl⟩:=List.mem_iff_getElem.1 hk;have:=h.2 i hi;rw [<-OQ hi];exact ⟨this.1,this.2.1⟩
abbrev Wo:=Int×Int×Int
def Y8 (x y:Wo):Bool:=decide (x.1<y.1\/(x.1=y.1/\y.2.1<x.2.1))
variable {x:Wo}
theorem Ns7 [OA] {lim:Nat} {y:Wo}:NQ E mp lim 108 [.agg (enc3 x).toArray,.agg (enc3 y).toArray] H Q=Q (.bool (Y8 x y)) H:=by
 refine pc (by decide) Ofs rfl rfl ?_;rw [Og4,Obl];obtain ⟨a,b,c⟩:=x;obtain ⟨a',b',c'⟩:=y;have e0:Y8 (a,b,c) (a',b',c')=decide (a<a'\/(a=a'/\b'<b)):=rfl;rw [e0];by_cases h1:a<a'
 ·have e:=Nj (show a<a'\/(a=a'/\b'<b) from .inl h1);rw [e];simp only [n108,N9v,enc3,Nh h1,SB,seval,NL,NH,NG,place,NB,NC]
 by_cases h2:a=a'
 ·have e:decide (a<a'\/(a=a'/\b'<b))=decide (b'<b):=decide_eq_decide.2 ⟨fun h=>by omega,fun h=>.inr ⟨h2,h⟩⟩;rw [e];simp only [n108,N9v,enc3,Nc h1,Nh h2,SB,seval,NL,NH,NG,place,NB,NC]
 ·have e:=Nw (show ¬(a<a'\/(a=a'/\b'<b)) by omega);rw [e];simp only [n108,N9v,enc3,Nc h1,Nc h2,SB,seval,NL,NH,NG,place,NB,NC]
def XG (P:List Int) (L:List Leg) (es:List Ev) (T:List Wo) (i j:Nat):Wo:=(QJ P L (gt es i) (gt es j)+30*((j:Int)-i-1)+(gt T j).1,(gt T j).2.1+1,(j:Int))
def Us (x r:Wo):Wo:=if Y8 x r then x else r
def QS (P:List Int) (L:List Leg) (es:List Ev) (T:List Wo) (i:Nat):Nat->Wo
 | 0=>(30*((es.length:Int)-1-i),1,-1)
 | m+1=>Us (QS P L es T i m) (XG P L es T i (es.length-1-m))
def OJ (P:List Int) (L:List Leg) (es:List Ev):Nat->List Wo
 | 0=>List.replicate es.length (0,0,0)
 | k+1=>(OJ P L es k).set (es.length-1-k) (QS P L es (OJ P L es k) (es.length-1-k) k)
theorem Tk {P:List Int} {L:List Leg} {es:List Ev}:∀k,(OJ P L es k).length=es.length
 | 0=>by simp [OJ]
 | k+1=>by rw [OJ,Py,Tk k]
def N4e (T:List Wo):Prop:=∀j,0<=(gt T j).1/\(gt T j).1<=10000/\0<=(gt T j).2.1/\(gt T j).2.1<=40
theorem Nwm {a b c:Value}:(((enc3 x).set 0 a).set 1 b).set 2 c=[a,b,c]:=id rfl
theorem Oc5 {c:Blk}:OI G.length [0] (G++[c])=G++[.dead]:=by
 show (G++[c]).set (G.length+0) .dead=_;rw [Pd,Qe _ _ (Nf _),Qq];rfl
theorem N4s {G1:NA} {c:Blk}:OE G.length [0] (G++[c]) G1=G1.set G.length c:=by
 show G1.set (G.length+0) (NE (G++[c]) (G.length+0))=_;rw [Pd,NN];rfl
theorem N10 [OA] {lim B8 BT:Nat} {ct:Nat} {T:List Wo} {i:Nat} {fr:Nat->Value} {K:List AItem} {Z:Value->NA->Prop} (hi:i<es.length) (F:lim<=B8) (hS:B8∈S) (U:BT∈S)
  (ah:es.length<=40) (ht:∀i,i<es.length->0<=(gt es i).time/\(gt es i).time<=NV) (hT:T.length=es.length) (ad:N4e T)
  (hP:PI lim R M S G pp pl cp cl P L) (hs:Sl G encE 7 pe es) (C:NE G BT=Vc (T.flatMap enc3)) (h:NE G B8=Vc (enc3 (QS P L es T i 0)))
  (f0:fr 0=Vp R) (f1:fr 1=.slice pe es.length ce) (f5:fr 5=.slice (Sa BT) T.length ct) (f6:fr 6=.func (.func 108) #[] #[]) (f7:fr 7=Vi i) (f8:fr 8=Vp B8) (f9:fr 9=Vi ((es.length:Int)-1))
  (hR:∀fr' G',Chg [M,B8] G G'->PI lim R M S G' pp pl cp cl P L->NE G' B8=Vc (enc3 (QS P L es T i (es.length-1-i)))->(∀j,j<=8->fr' j=fr j)->PT E a72 lim K fr' G' Z) :
  PT E a72 lim (.code (.loop N0t)::.inBlock 2::K) fr G Z:=by
 refine NP (fun m=>es.length-m) (fun m fr' G'=>m<=es.length-1-i/\Chg [M,B8] G G'/\PI lim R M S G' pp pl cp cl P L/\NE G' B8=Vc (enc3 (QS P L es T i m))/\(∀j,j<=8->fr' j=fr j)/\fr' 9=Vi ((es.length:Int)-1-m)) 0
  ⟨Np _,Chg.refl,hP,h,fun j _=>rfl,by rw [f9];simp⟩ ?_
 intro m fr' G' ⟨hm,s,l,hB,d,z⟩ hN;rw [NU N0t.eq_1];have g0:=(d 0 (by decide)).trans f0;have g1:=(d 1 (by decide)).trans f1;have g5:=(d 5 (by decide)).trans f5;have g6:=(d 6 (by decide)).trans f6;have g7:=(d 7 (by decide)).trans f7;have g8:=(d 8 (by decide)).trans f8;refine NJ ?_;by_cases aj:m<es.length-1-i
 case neg=>
  obtain rfl:m=es.length-1-i:=by omega
  have N:(es.length:Int)-1-((es.length-1-i:Nat):Int)=(i:Int):=by omega
  rw [N] at z;simp only [n72,g7,z,SB,seval,NL,NH];exact hR _ _ s.app (l.app _) ((OD.refl.app).cells hB) fun j A=>by
   rw [<-d j A];simp only [upd]
   repeat rw [Ng (by omega)]
 generalize A:es.length-1-m=j;have N:(es.length:Int)-1-(m:Int)=(j:Int):=by omega
 rw [N] at z;have u:j<es.length:=by omega
 have W:i<j:=by omega
 have aa:BT≠B8:=by
  rintro rfl;rw [C] at h;simp only [Blk.cells.injEq,Rh] at h;have:=Q2 List.length h;rw [OW OU,OU] at this;omega
 have H:BT≠M:=fun e=>l.oM (e▸U)
 have w:Sl G' enc3 3 (Sa BT) T:=Sl.row (ro:=false) OU (s.cells C (by simp;exact ⟨H,aa⟩));have B:∀a,pe=some a->es≠[]->a.block≠B8:=fun a V hn e=>by
  subst V;obtain ⟨ro,c,k1,k2,_⟩:=hs.2 hn;rw [e,h] at k1;simp only [Blk.cells.injEq] at k1;rw [<-k1.2,OU] at k2;omega
 have o:Sl G' encE 7 pe es:=Mo hs fun a V hn ro c hc=>s.cells hc (by
  have h1:=B a V hn;have h2:a.block≠M:=fun e=>by obtain ⟨ms,k1,_⟩:=hP.m;rw [e,k1] at hc;cases hc
  simp;exact ⟨h2,h1⟩)
 have la:=fun X=>(o.app X).loadCells NT hi
 have lb:=fun X=>(o.app X).loadCells NT u
 have xa:=fun c (k:IntKind) (H1:NA)=>o.idx (c:=c) (k:=k) (H1:=H1) hi
 have xb:=fun c (k:IntKind) (H1:NA)=>o.idx (c:=c) (k:=k) (H1:=H1) u
 have t:j<T.length:=by omega
 have l0:=fun X=>(w.app X).loadCell OU t (j:=0) (by decide)
 have l1:=fun X=>(w.app X).loadCell OU t (j:=1) (by decide)
 simp only [enc3,Oq,Q1] at l0 l1;have xj:=fun c (k:IntKind) (H1:NA)=>w.idx (c:=c) (k:=k) (H1:=H1) t
 have ak:=ad j;have w1:IntKind.i64.wrap ((j:Int)-i)=(j:Int)-i:=NR (by omega) (by omega);have w2:IntKind.i64.wrap ((j:Int)-i-1)=(j:Int)-i-1:=NR (by omega) (by omega);have w3:IntKind.i64.wrap (30*((j:Int)-i-1))=30*((j:Int)-i-1):=NR (by omega) (by omega);have w4:IntKind.i64.wrap ((gt T j).2.1+1)=(gt T j).2.1+1:=NR (by omega) (by omega);have J:=Nj (show i<j from W);simp only [n72,g0,g1,g5,g7,z,J,la,lb,xa,xb,l0,l1,xj,w1,w2,w3,w4,SB,seval,NF,NL,NH,reduceCtorEq,place];have ae:=NM h;have ai:=s.len;refine Nl3 (a:=gt es i) (b:=gt es j) (l.grow [.dead] (Nf _) (by simp)) (by simp;omega) (ht j u) fun G1 n D=>⟨Nkm ?_, ?_⟩
 ·rw [Oc5];exact (l.grow [.dead] (Nf _) (by simp)).chgk n
 have Y:=n.len;simp at Y;obtain ⟨G2,e2,h2,m2⟩:=OO (show G'.length<G1.length by omega) (Vc [Vi 0,Vi 0,Vi 0]);have eu:OE (List.length G') [0] (G'++[Vc [Vi 0,Vi 0,Vi 0]]) G1=G2++[]:=by rw [N4s,<-e2,Na]
 rw [Na,eu];generalize hp:QJ P L (gt es i) (gt es j)=p;have ab:=Uc (P:=P) (L:=L) (a:=gt es i) (b:=gt es j);rw [hp] at ab;have w5:IntKind.i64.wrap (p+30*((j:Int)-i-1))=p+30*((j:Int)-i-1):=NR (by omega) (by omega);have w6:IntKind.i64.wrap (p+30*((j:Int)-i-1)+(gt T j).1)=p+30*((j:Int)-i-1)+(gt T j).1:=NR (by omega) (by omega);have w7:IntKind.i64.wrap ((j:Int)-1)=(es.length:Int)-1-((m+1:Nat):Int):=by rw [NR (by omega) (by omega)];omega
 obtain ⟨G3,e3,h3,m3⟩:=OO (NM h2) (Vc [Vi (p+30*((j:Int)-i-1)+(gt T j).1),Vi ((gt T j).2.1+1),Vi j]);have O:=(l.app [.dead]).chgk n _ _ _ ((OD.refl.app).cells hB);have ag:=NM hB;have r:=m3.cells (m2.cells O (by omega)) (by omega);have ec:XG P L es T i j=(p+30*((j:Int)-i-1)+(gt T j).1,(gt T j).2.1+1,(j:Int)):=by unfold XG;rw [hp]
 have f:∀(X:NA) (mp:Bool) (lim:Nat) (Q:Value->NA->Prop),NQ E mp lim 108 [.agg (enc3 (QS P L es T i m)).toArray,.agg #[Vi (p+30*((j:Int)-i-1)+(gt T j).1),Vi ((gt T j).2.1+1),Vi j]] X Q=Q (.bool (Y8 (QS P L es T i m) (XG P L es T i j))) X:=fun X mp lim Q=>by rw [ec];exact Ns7 (x:=QS P L es T i m) (y:=(p+30*((j:Int)-i-1)+(gt T j).1,(gt T j).2.1+1,(j:Int)))
 have I:QS P L es T i (m+1)=Us (QS P L es T i m) (XG P L es T i j):=by rw [QS,A]
 have X2:=zc h2;have X3:=zc h3;have XB:=zc r;have k1:Chg [M,B8] G G3:=((s.trans (n.pre.mono fun j _ A=>by simp at A;simp [A])).mut m2 (.inr (by have:=s.len;omega))).mut m3 (.inr (by have:=s.len;omega));have k2:=D.chg ((Chg.refl.mut m2 (.inl (by simp))).mut m3 (.inl (by simp)));have g:lim<=G'.length:=by omega
 cases hb:Y8 (QS P L es T i m) (XG P L es T i j) with
 | true=>
   rw [hb] at f;rw [Us,Nl hb] at I;simp only [n72,g6,g8,z,w5,w6,w7,X2,e3,X3,XB,OU,NK,f,g,SB,seval,NF,NL,NH,RN,NB];exact hN (m+1) _ _ ⟨by omega,k1.app,k2.sub (fun q v=>by simp [v]) |>.app _,by rw [I];exact (OD.refl.app).cells r,fun q v=>by
    rw [<-d q v];simp only [upd]
    repeat rw [Ng (by omega)],by rfl⟩ (by omega)
 | false=>
   rw [hb] at f;rw [Us,Ng (by rw [hb];decide),ec] at I;obtain ⟨G4,e4,h4,m4⟩:=OO (NM r) (Vc [Vi (p+30*((j:Int)-i-1)+(gt T j).1),Vi ((gt T j).2.1+1),Vi j]);simp only [n72,g6,g8,z,w5,w6,w7,X2,e3,X3,XB,OU,NK,f,g,F,e4,Nwm,SB,seval,NF,NL,NH,RN,NB];exact hN (m+1) _ _ ⟨by omega,(k1.mut m4 (.inl (by simp))).app,((k2.chg (Chg.refl.mut m4 (.inl (by simp [hS])))).sub (fun q v=>by simp [v])).app _,by rw [I];exact (OD.refl.app).cells h4,fun q v=>by
    rw [<-d q v];simp only [upd]
    repeat rw [Ng (by omega)],by rfl⟩ (by omega)
end Go.Proofs.YtkppjkkkdpcgiaaGreat.Fn




