/-
  Joined texts, 6 of 10. A part of the claim that the last text states.
-/
import Derived.ProofKit
import Derived.Deep.Slices
import Derived.OpenShut
import Derived.Sort.AssemblyPlain
import Derived.Lib.BitFns
import Derived.Test.YtkppjkkkdpcgiaaGreatPU5
set_option linter.unusedVariables false
set_option linter.unusedSimpArgs false
set_option linter.defProp false
set_option linter.unusedSectionVars false
set_option maxRecDepth 100000
set_option maxHeartbeats 4000000
namespace Go.AM
open Go.ChangeShapes Go.WideShapes Go.ChangeAt Go.RowKit
inductive Ty where
 | int (k:IntKind) | bool | str | slice (t:Ty) | arr (n:Nat) (t:Ty) | nil | pair (a b:Ty)
def Ty.size:Ty->Nat
 | .nil=>0
 | .arr n t=>n*t.size
 | .pair a b=>a.size+b.size
 | _=>1
abbrev Ty.den:Ty->Type
 | .int _=>Int
 | .bool=>Bool
 | .str=>ByteArray
 | .slice t=>List t.den
 | .arr _ t=>List t.den
 | .nil=>Unit
 | .pair a b=>a.den×b.den
def WC:(t:Ty)->NA->t.den->List Value->Prop
 | .int k,_,n,cs=>cs=[.int k n]/\k.min<=n/\n<=k.max
 | .bool,_,b,cs=>cs=[.bool b]
 | .str,_,s,cs=>cs=[.string s]/\s.size<=maxLen
 | .slice t,H,l,cs=>l.length<=maxLen/\∃p cap,cs=[.slice p l.length cap]/\(p=none->l=[]/\cap=0)/\
   ∀a,p=some a->a.spot=none/\a.off=0/\cap=loose t.size/\(l≠[]->∃es:List (List Value),NC H a.block=.cells true es.flatten/\es.length=l.length/\∀(i:Nat) x e,l[i]? = some x->es[i]? = some e->WC t H x e)
 | .arr n t,H,l,cs=>∃es:List (List Value),cs=es.flatten/\es.length=n/\l.length=n/\∀(i:Nat) x e,l[i]? = some x->es[i]? = some e->WC t H x e
 | .nil,_,_,cs=>cs=[]
 | .pair a b,H,x,cs=>∃c d,cs=c++d/\WC a H x.1 c/\WC b H x.2 d
theorem WC.app:∀{t:Ty} {H:NA} {x:t.den} {cs:List Value} (_:WC t H x cs) (X:NA),WC t (H++X) x cs
 | .int _,_,_,_,h,_=>h
 | .bool,_,_,_,h,_=>h
 | .str,_,_,_,h,_=>h
 | .nil,_,_,_,h,_=>h
 | .pair a b,_,_,_,⟨c1,c2,e,h1,h2⟩,X=>⟨c1,c2,e,h1.app X,h2.app X⟩
 | .arr n t,H,l,cs,⟨es,e,h1,h2,h3⟩,X=>⟨es,e,h1,h2,fun i x c hx hc=>(h3 i x c hx hc).app X⟩
 | .slice t,H,l,cs,⟨h0,p,cap,e,h1,h2⟩,X=>by
   refine ⟨h0,p,cap,e,h1,fun a ha=>?_⟩
   obtain ⟨k1,k2,k3,f⟩:=h2 a ha
   refine ⟨k1,k2,k3,fun hl=>?_⟩
   obtain ⟨es,d,g,j⟩:=f hl
   exact ⟨es,by rw [NI (NG d)];exact d,g,fun i x e hx he=>(j i x e hx he).app X⟩
theorem Yv {k:Nat}:∀{es:List (List Value)},(∀e∈es,e.length=k)->es.flatten.length=es.length*k
 | [],_=>by simp
 | e::es,h=>by
   rw [List.flatten_cons,Ni,h e (by simp),Yv (fun x hx=>h x (by simp [hx])),Nk,Pq];omega
theorem WC.len:∀{t:Ty} {H:NA} {x:t.den} {cs:List Value} (_:WC t H x cs),cs.length=t.size
 | .int _,_,_,_,h=>by rw [h.1];rfl
 | .bool,_,_,_,h=>by simp only [WC] at h;rw [h];rfl
 | .str,_,_,_,h=>by rw [h.1];rfl
 | .nil,_,_,_,h=>by simp only [WC] at h;rw [h];rfl
 | .pair a b,_,_,_,⟨c1,c2,e,h1,h2⟩=>by rw [e,Ni,h1.len,h2.len];rfl
 | .slice t,H,l,cs,⟨h0,p,cap,e,h1,h2⟩=>by rw [e];rfl
 | .arr n t,H,l,cs,⟨es,e,h1,h2,h3⟩=>by
   rw [e,Yv (k:=t.size),h1];· rfl
   intro c hc
   obtain ⟨i,hi,rfl⟩:=List.mem_iff_getElem.1 hc
   exact (h3 i _ _ (Nf (by omega)) (Nf hi)).len
section
variable {w:World} {Pg:Prg} {W:Nat->Prop} {lim:Nat}
def Zy (H:NA):Prop:=∀(i:Nat) b,H[i]? = some b->owned b=false
theorem Zy.snoc {H:NA} (h:Zy H) {b:Blk} (a:owned b=false):Zy (H++[b]):=by
 intro i x hx
 by_cases hi:i<H.length
 ·rw [N4 hi] at hx;exact h i x hx
 ·rw [Oc (by omega)] at hx
  have:=(List.getElem?_eq_some_iff.1 hx).1
  have e:i-H.length=0:=by simp at this;omega
  rw [e] at hx;simp at hx;subst hx;exact a
def Rt (Pg:Prg) (W:Nat->Prop) (lim:Nat) (w:World) (t:Ty) (cs:List Value):Prop:=
 ∀σ H,Inv Pg W lim σ H w->Zy H->∃X a as x,Inv Pg W lim a (H++X) w/\Zy (H++X)/\PH.le σ a/\OG a as cs/\WC t (H++X) x as/\∀v∈cs,v.oneCell'=true
theorem Rt.atom1 {t:Ty} {v:Value} {x:t.den} (hv:atom v=true) (ho:v.oneCell'=true) (hr:∀H,WC t H x [v]):Rt Pg W lim w t [v]:=fun σ H h hn=>
 ⟨[],σ,[v],x,by simpa using h,by simpa using hn,PH.le_refl _,OG.cons (.atom hv) OG.nil,hr _,fun u a=>by simp at a;subst a;exact ho⟩
theorem Rt.int {k:IntKind} {n:Int} (h:(Lit.int k n).wf=true):Rt Pg W lim w (.int k) [.int k n]:=by
 refine Rt.atom1 (x:=n) rfl rfl fun H=>⟨rfl, ?_⟩
 simpa [Lit.wf] using h
theorem Rt.bool {b:Bool}:Rt Pg W lim w .bool [.bool b]:=Rt.atom1 (t:=.bool) (x:=b) rfl rfl fun H=>rfl
theorem Rt.str {s:ByteArray} (h:s.size<=maxLen):Rt Pg W lim w .str [.string s]:=Rt.atom1 (t:=.str) (x:=s) rfl rfl fun H=>⟨rfl,h⟩
theorem Rt.nil:Rt Pg W lim w .nil []:=fun σ H h hn=>⟨[],σ,[],(),by simpa using h,by simpa using hn,PH.le_refl _,OG.nil,rfl,fun u a=>by simp at a⟩
theorem Rt.pair {a b:Ty} {e f:List Value} (h1:Rt Pg W lim w a e) (h2:Rt Pg W lim w b f):Rt Pg W lim w (.pair a b) (e++f):=by
 intro σ H h hn
 obtain ⟨X,o,as,x,k1,c,k2,k3,i,j⟩:=h1 σ H h hn
 obtain ⟨Y,p,bs,y,k,d,g,l,m,n⟩:=h2 o _ k1 c
 refine ⟨X++Y,p,as++bs,(x,y),by rw [<-Nq];exact k,by rw [<-Nq];exact d,PH.le_trans k2 g,OG.append (k3.mono g) l,⟨as,bs,rfl, ?_, ?_⟩,fun v hv=>?_⟩
 ·rw [<-Nq];exact i.app Y
 ·rw [<-Nq];exact m
 ·rcases N0.1 hv with hv | hv
  ·exact j v hv
  ·exact n v hv
def Ndj (σ:PH) (n:Nat) (L:Loc):PH:=fun i=>if i=n then some L else σ i
theorem Xi {σ:PH} {n:Nat} {L:Loc}:Ndj σ n L n=some L:=Nh rfl
theorem Ndi {σ:PH} {n i:Nat} {L:Loc} (h:i≠n):Ndj σ n L i=σ i:=Ng h
theorem Inv.snoc {σ:PH} {H:NA} (h:Inv Pg W lim σ H w) (hn:Zy H) (L:Loc) (b:Blk) (c:owned b=false) (hr:U1 Pg (Ndj σ H.length L) w L b) :
  Inv Pg W lim (Ndj σ H.length L) (H++[b]) w/\PH.le σ (Ndj σ H.length L):=by
 have hle:PH.le σ (Ndj σ H.length L):=by
  intro i K hi
  have:=h.lt hi
  rw [Ndi (by omega)];exact hi
 have a:=hn.snoc c
 refine ⟨⟨?_,fun i j bi bj Li Lj hi f d ho=>?_,fun i x K hx ho=>?_,h.fresh,fun i hi=>?_⟩,hle⟩
 ·intro i x hx ha
  by_cases hi:i<H.length
  ·rw [N4 hi] at hx
   obtain ⟨K,h1,h2⟩:=h.blk i x hx ha
   exact ⟨K,hle i K h1,h2.mono hle fun _=>rfl⟩
  ·rw [Oc (by omega)] at hx
   have:=(List.getElem?_eq_some_iff.1 hx).1
   have e:i=H.length:=by simp at this;omega
   subst e
   rw [Qr] at hx;simp at hx;subst hx
   exact ⟨L,Xi,hr⟩
 ·rw [a i bi hi] at ho;cases ho
 ·rw [a i x hx] at ho;cases ho
 ·simp at hi
  rw [Ndi (by omega)]
  exact h.dom i (by omega)
theorem Nbr {t:Ty} {n:Nat} {cs:Nat->List Value} (b:∀i,i<n->Rt Pg W lim w t (cs i)) {σ:PH} {H:NA} (h:Inv Pg W lim σ H w) (hn:Zy H) :
  ∃X c,∃es:List (List Value),∃xs:List t.den,Inv Pg W lim c (H++X) w/\Zy (H++X)/\PH.le σ c/\es.length=n/\xs.length=n/\
   ∀(i:Nat) x e,xs[i]? = some x->es[i]? = some e->WC t (H++X) x e/\OG c e (cs i)/\∀v∈cs i,v.oneCell'=true:=by
 induction n with
 | zero=>exact ⟨[],σ,[],[],by simpa using h,by simpa using hn,PH.le_refl _,rfl,rfl,fun i x e hx=>by simp at hx⟩
 | succ n ih=>
   obtain ⟨X,u,es,xs,k1,k2,k3,d,f,j⟩:=ih fun i hi=>b i (by omega)
   obtain ⟨Y,z,as,x,k,l,g,m,o,p⟩:=b n (by omega) u _ k1 k2
   refine ⟨X++Y,z,es++[as],xs++[x],by rw [<-Nq];exact k,by rw [<-Nq];exact l,PH.le_trans k3 g,by simp [d],by simp [f],fun i y e a he=>?_⟩
   rw [<-Nq]
   by_cases hi:i<n
   ·rw [N4 (by omega)] at a he
    obtain ⟨q,r,s⟩:=j i y e a he
    exact ⟨q.app Y,r.mono g,s⟩
   ·have hi':i=n:=by
     have:=(List.getElem?_eq_some_iff.1 a).1
     simp at this;omega
    subst hi'
    rw [Oc (by omega),f] at a
    rw [Oc (by omega),d] at he
    simp at a he
    subst a he
    exact ⟨o,m,p⟩
theorem ZJ {e:Nat}:∀(es:List (List Value)),(∀x∈es,x.length=e)->∀(j:Nat) v,es.flatten[j]? = some v->∃x,es[j / e]? = some x/\x[j % e]? = some v
 | [],_,j,v,h=>by simp at h
 | x::es,he,j,v,h=>by
   have hx:=he x (by simp)
   rw [List.flatten_cons] at h
   by_cases a:j<x.length
   ·rw [N4 a] at h
    rw [hx] at a
    rw [Nat.div_eq_of_lt a,Nat.mod_eq_of_lt a]
    exact ⟨x,rfl,h⟩
   ·rw [Oc (by omega),hx] at h
    rw [hx] at a
    obtain ⟨y,h1,h2⟩:=ZJ es (fun z c=>he z (by simp [c])) _ _ h
    have b:0<e:=by
     rcases Qu e with h0 | h0
     ·subst h0
      have c:y.length=0:=he y (by have:=N8 h1;simp [this])
      rw [List.length_eq_zero_iff.1 c] at h2;simp at h2
     ·exact h0
    have e1:j / e=(j-e) / e+1:=by rw [<-Nat.add_div_right _ b];congr 1;omega
    have e2:j % e=(j-e) % e:=by rw [Nat.mod_eq_sub_mod (by omega)]
    rw [e1,e2]
    exact ⟨y,by simpa using h1,h2⟩
theorem Rt.arr {t:Ty} {n:Nat} {cs:List Value} (hl:cs.length=n*t.size) (m:∀i,i<n->Rt Pg W lim w t ((cs.drop (i*t.size)).take t.size)):Rt Pg W lim w (.arr n t) cs:=by
 intro σ H h hn
 obtain ⟨X,q,es,xs,k1,k2,k3,o,p,k⟩:=Nbr (n:=n) (cs:=fun i=>(cs.drop (i*t.size)).take t.size) m h hn
 have f:∀e∈es,e.length=t.size:=by
  intro e he
  obtain ⟨i,hi,rfl⟩:=List.mem_iff_getElem.1 he
  exact (k i _ _ (Nf (by omega)) (Nf hi)).1.len
 have d:∀(j:Nat) v,cs[j]? = some v->j / t.size<n/\j % t.size<t.size/\((cs.drop (j / t.size*t.size)).take t.size)[j % t.size]? = some v:=by
  intro j v g
  have c:j<n*t.size:=by rw [<-hl];exact (List.getElem?_eq_some_iff.1 g).1
  have b:0<t.size:=by
   rcases Qu t.size with h0 | h0
   ·rw [h0] at c;simp at c
   ·exact h0
  have hm:=Pr j b
  refine ⟨(Nat.div_lt_iff_lt_mul b).2 c,hm, ?_⟩
  rw [Py,Nh hm,Qy,Nat.div_add_mod' j t.size]
  exact g
 refine ⟨X,q,es.flatten,xs,k1,k2,k3,⟨by rw [Yv f,o,hl],fun j a v ha hv=>?_⟩,⟨es,rfl,o,p,fun i x e hx he=>(k i x e hx he).1⟩,fun v hv=>?_⟩
 ·obtain ⟨h1,h2,l⟩:=d j v hv
  obtain ⟨e,e1,e2⟩:=ZJ es f j a ha
  exact (k _ _ e (Nf (by omega)) e1).2.1.2 _ _ _ e2 l
 ·obtain ⟨j,g⟩:=List.mem_iff_getElem?.1 hv
  obtain ⟨h1,h2,l⟩:=d j v g
  exact (k (j / t.size) _ _ (Nf (by omega)) (Nf (by omega))).2.2 v (N8 l)
theorem Rt.nilslice {t:Ty}:Rt Pg W lim w (.slice t) [.slice none 0 0]:=by
 refine Rt.atom1 (t:=.slice t) (x:=([]:List t.den)) rfl rfl fun H=>⟨Nv _,none,0,rfl,fun _=>⟨rfl,rfl⟩,fun a ha=>by cases ha⟩
theorem Rt.slice {t:Ty} {a:Addr} {len cap:Nat} {cs:Nat->List Value} (hl:len<=cap) (hc:cap<=maxLen) (M:t.size≠0)
  (g:∀i,i<cap->w.cells? 0 (a.add (i*t.size)) t.size=some (cs i)/\Rt Pg W lim w t (cs i)):Rt Pg W lim w (.slice t) [.slice (some a) len cap]:=by
 intro σ H h hn
 by_cases h0:len=0
 ·subst h0
  obtain ⟨D,E⟩:=h.snoc hn ⟨a.block,a.off,cap*t.size⟩ .dead rfl trivial
  refine ⟨[.dead],_,[.slice (some ⟨H.length,0,none⟩) 0 (loose t.size)],[],D,hn.snoc rfl,E,OG.cons ?_ OG.nil,⟨Nv _,some ⟨H.length,0,none⟩,loose t.size,rfl,fun h=>(by cases h),fun b z=>?_⟩,fun v hv=>by simp at hv;subst hv;rfl⟩
  ·by_cases r:cap=0
   ·subst r
    exact .eslice Xi (.inr ⟨_,rfl⟩)
   ·have d:a.spot=none:=by
     obtain ⟨h1,h2⟩:=g 0 (by omega)
     obtain ⟨_,F,p⟩:=World.cells?_some h1
     have h5:=p 0 (by omega)
     rw [Nf (by omega)] at h5
     have:=World.cell?_spot h5
     simpa [Addr.add] using this
    obtain ⟨b,o,s⟩:=a
    simp only at d;subst d
    exact .lslice (L:=⟨b,o,cap*t.size⟩) (k:=0) Xi hl (by simp)
  ·cases z
   exact ⟨rfl,rfl,rfl,fun h=>absurd rfl h⟩
 ·obtain ⟨X,P,es,xs,k1,k2,k3,Q,I,C⟩:=Nbr (n:=len) (cs:=cs) (fun i hi=>(g i (by omega)).2) h hn
  have d:a.spot=none:=by
   obtain ⟨h1,h2⟩:=g 0 (by omega)
   obtain ⟨_,F,p⟩:=World.cells?_some h1
   have h5:=p 0 (by omega)
   rw [Nf (by omega)] at h5
   have:=World.cell?_spot h5
   simpa [Addr.add] using this
  have f:∀i,i<len->∀j,j<t.size->∃v,(cs i)[j]? = some v/\w.cell? ⟨a.block,a.off+(i*t.size+j),none⟩=some v:=by
   intro i hi j B
   obtain ⟨_,F,p⟩:=World.cells?_some (g i (by omega)).1
   have h5:=p j B
   have G:(cs i)[j]? = some ((cs i)[j]'(by omega)):=Nf _
   rw [G,Go.Deep.add_add] at h5
   refine ⟨_,G, ?_⟩
   rw [<-h5]
   congr 1
   obtain ⟨b,o,s⟩:=a
   simp only at d;subst d
   exact (addr_add (b:=b) (o:=o)).symm
  obtain ⟨S,_,m⟩:=f 0 (by omega) 0 (by omega)
  have l:∃cells el fz,w.heap[a.block]? = some (.cells cells el fz):=by
   unfold World.cell? at m
   split at m
   ·rename_i c el fz y;exact ⟨c,el,fz,y⟩
   ·cases m
  obtain ⟨cells,el,fz,y⟩:=l
  have A:∀e∈es,e.length=t.size:=by
   intro e he
   obtain ⟨i,hi,rfl⟩:=List.mem_iff_getElem.1 he
   exact (C i _ _ (Nf (by omega)) (Nf hi)).1.len
  have q:U1 Pg (Ndj P (H++X).length ⟨a.block,a.off,cap*t.size⟩) w ⟨a.block,a.off,cap*t.size⟩ (.cells true es.flatten):=by
   refine ⟨cells,el,fz,y,fun j v hv=>?_,fun h=>by cases h⟩
   obtain ⟨e,h1,h2⟩:=ZJ es A j v hv
   have hi:j / t.size<len:=by have:=(List.getElem?_eq_some_iff.1 h1).1;omega
   have B:j % t.size<t.size:=Pr _ (by omega)
   obtain ⟨R,N,O⟩:=C _ _ e (Nf (by omega)) h1
   obtain ⟨u,J,r2⟩:=f _ hi _ B
   refine ⟨u, ?_,(N.2 _ _ _ h2 J).mono ?_,O u (N8 J)⟩
   ·rw [Nat.div_add_mod' j t.size] at r2
    simpa [World.cell?,y] using r2
   ·intro i K hi
    have:=k1.lt hi
    rw [Ndi (by omega)];exact hi
  obtain ⟨D,E⟩:=k1.snoc k2 _ _ rfl q
  refine ⟨X++[.cells true es.flatten],_,[.slice (some ⟨(H++X).length,0,none⟩) len (loose t.size)],xs,by rw [<-Nq];exact D,by rw [<-Nq];exact k2.snoc rfl,PH.le_trans k3 E,OG.cons ?_ OG.nil, ?_,fun v hv=>by simp at hv;subst hv;rfl⟩
  ·obtain ⟨b,o,s⟩:=a
   simp only at d;subst d
   exact .lslice (L:=⟨b,o,cap*t.size⟩) (k:=0) Xi hl (by simp)
  ·refine ⟨by rw [I];omega,some ⟨(H++X).length,0,none⟩,loose t.size,by rw [I],(fun h=>(by cases h)),fun b z=>?_⟩
   cases z
   refine ⟨rfl,rfl,rfl,fun _=>⟨es, ?_,by omega,fun i x e hx he=>?_⟩⟩
   ·rw [<-Nq];exact NQ
   ·rw [<-Nq];exact (C i x e hx he).1.app _
section
variable (P:Program)
def UT (f:TypeId->Option Ty):List Field->Nat->Option Ty
 | [],_=>some .nil
 | fd::fs,off=>if fd.offset=off then match f fd.type with
   | some ty=>if ty.size=P.cellsOf fd.type then match UT f fs (off+ty.size) with
     | some r=>some (.pair ty r)
     | none=>none
     else none
   | none=>none
   else none
def Nak:Nat->TypeId->Option Ty
 | 0,_=>none
 | n+1,t=>match P.underlying t with
   | some .bool=>some .bool
   | some (.int k)=>some (.int k)
   | some .string=>some .str
   | some (.slice e)=>match Nak n e with
     | some ty=>if ty.size=P.cellsOf e/\ty.size≠0 then some (.slice ty) else none
     | none=>none
   | some (.array k e)=>match Nak n e with
     | some ty=>if ty.size=P.cellsOf e/\k*ty.size=P.cellsOf t then some (.arr k ty) else none
     | none=>none
   | some (.struct fs)=>match UT P (Nak n) fs.toList 0 with
     | some ty=>if ty.size=P.cellsOf t then some ty else none
     | none=>none
   | _=>none
end
variable {P:Program} {H:Type} {enc:TypeId×Value->H} {held:Bool}
theorem M0 {n m:Nat} {cs:List Value} (ih:∀t ty cs x,Nak P n t=some ty->DataW.trod enc P w 0 (fun _=>true) held m t cs=some x->Rt Pg W lim w ty cs) :
  ∀(a:List Field) (off:Nat) (xs:List (DataW H×List MemPlace)) (ty:Ty),UT P (Nak P n) a off=some ty->off+ty.size=cs.length->(∀(i:Nat) f,a[i]? = some f->DataW.trod enc P w 0 (fun _=>true) held m f.type ((cs.drop f.offset).take (P.cellsOf f.type))=xs[i]?)->xs.length=a.length->Rt Pg W lim w ty (cs.drop off)
 | [],off,xs,ty,ht,hl,hx,hxl=>by
   simp only [UT,Option.some.injEq] at ht
   subst ht
   rw [Qj (by simp [Ty.size] at hl;omega)]
   exact Rt.nil
 | fd::a,off,xs,ty,ht,hl,hx,hxl=>by
   simp only [UT] at ht
   split at ht
   case isFalse=>cases ht
   rename_i ho
   split at ht
   case h_2=>cases ht
   rename_i b h1
   split at ht
   case isFalse=>cases ht
   rename_i hs
   split at ht
   case h_2=>cases ht
   rename_i r hr
   cases ht
   simp only [Ty.size] at hl
   match xs,hxl with
   | x0::xs,hxl=>
     have h2:=hx 0 fd rfl
     simp only [Od] at h2
     have c:=ih _ _ _ _ h1 h2
     have d:=M0 (cs:=cs) ih a (off+b.size) xs r hr (by omega) (fun i f e=>by simpa using hx (i+1) f (by simpa using e)) (by simpa using hxl)
     rw [ho,<-hs] at c
     have:=Rt.pair c d
     rw [<-List.drop_drop,Qk] at this
     exact this
theorem Xl:∀(n m:Nat) {t:TypeId} {ty:Ty} {cs:List Value} {x:DataW H×List MemPlace},Nak P n t=some ty->DataW.trod enc P w 0 (fun _=>true) held m t cs=some x->Rt Pg W lim w ty cs
 | 0,_,t,ty,cs,x,ht,_=>by simp [Nak] at ht
 | n+1,m,t,ty,cs,x,ht,h=>by
   simp only [Nak] at ht
   split at ht
   ·rename_i c;cases ht
    obtain ⟨b,rfl,_⟩:=DataW.trod_bool c h
    exact Rt.bool
   ·rename_i k c;cases ht
    obtain ⟨b,rfl,_,hw⟩:=DataW.trod_int c h
    exact Rt.int hw
   ·rename_i c;cases ht
    obtain ⟨b,rfl,_,hw⟩:=DataW.trod_string c h
    exact Rt.str hw
   ·rename_i e c
    split at ht
    case h_2=>cases ht
    rename_i d he
    split at ht
    case isFalse=>cases ht
    rename_i hs
    cases ht
    rcases Go.Deep.open_slice c h with ⟨rfl,_⟩ | ⟨a,len,cap,u,q,D,Pl,rfl,y,hl,hm,o,hx,hi⟩
    ·exact Rt.nilslice
    ·simp only [if_true] at o
     subst o
     have j:∀i,∃cs',i<u->w.cells? 0 (a.add (i*d.size)) d.size=some cs'/\Rt Pg W lim w d cs':=by
      intro i
      by_cases l:i<u
      ·obtain ⟨cs',h1,h2⟩:=hi i l
       exact ⟨cs',fun _=>⟨by rw [hs.1];exact h1,Xl n q he h2⟩⟩
      ·exact ⟨[],fun h=>absurd h l⟩
     exact Rt.slice (cs:=fun i=>Classical.choose (j i)) hl hm hs.2 fun i hi=>Classical.choose_spec (j i) hi
   ·rename_i k e c
    split at ht
    case h_2=>cases ht
    rename_i d he
    split at ht
    case isFalse=>cases ht
    rename_i hs
    cases ht
    obtain ⟨xs,q,_,_,g,p,r⟩:=DataW.trod_array c h
    refine Rt.arr (by rw [g,hs.2]) fun i hi=>?_
    have h1:=r i hi
    rw [Nf (by omega)] at h1
    rw [hs.1]
    exact Xl n q he h1
   ·rename_i v c
    split at ht
    case h_2=>cases ht
    rename_i d he
    split at ht
    case isFalse=>cases ht
    rename_i hs
    cases ht
    obtain ⟨xs,q,_,_,g,p,r⟩:=DataW.trod_struct c h
    have:=M0 (cs:=cs) (fun t ty cs x h1 h2=>Xl n q h1 h2) v.toList 0 xs ty he (by omega) (fun i f s=>r i f (by simpa using s)) (by simpa using p)
    simpa using this
   ·cases ht
end
def isRow:Ty->Bool
 | .nil=>true
 | .pair _ _=>true
 | .arr _ _=>true
 | _=>false
def Xa (t:Ty) (H:NA) (x:t.den) (v:Value):Prop:=if isRow t=true then ∃as,v=.agg as.toArray/\WC t H x as else WC t H x [v]
abbrev N6d:List Ty->Type
 | []=>Unit
 | t::ts=>t.den×N6d ts
def Njk:(a:List Ty)->NA->N6d a->List Value->Prop
 | [],_,_,vs=>vs=[]
 | t::a,H,x,vs=>∃v r,vs=v::r/\Xa t H x.1 v/\Njk a H x.2 r
theorem Xa.app {t:Ty} {H:NA} {x:t.den} {v:Value} (h:Xa t H x v) (X:NA):Xa t (H++X) x v:=by
 unfold Xa at *
 split
 ·rename_i hr
  rw [Nh hr] at h
  obtain ⟨as,e,k⟩:=h
  exact ⟨as,e,k.app X⟩
 ·rename_i hr
  rw [Ng hr] at h
  exact h.app X
section
variable {P:Program} {H:Type} {enc:TypeId×Value->H} {w:World} {Pg:Prg} {W:Nat->Prop} {lim:Nat}
theorem Nhw {f:TypeId->Option Ty}:∀{a:List Field} {off:Nat} {ty:Ty},UT P f a off=some ty->isRow ty=true
 | [],off,ty,h=>by simp only [UT,Option.some.injEq] at h;subst h;rfl
 | fd::a,off,ty,h=>by
   simp only [UT] at h
   split at h
   ·split at h
    ·split at h
     ·split at h
      ·cases h;rfl
      ·cases h
     ·cases h
    ·cases h
   ·cases h
theorem Nvj {n:Nat} {t:TypeId} {ty:Ty} {v:Value} {r:Reach} {base:Nat} (ht:Nak P n t=some ty) (hv:Value.okWide P w r base t v):if isRow ty=true then ∃cs,v=.agg cs else v.cells.toList=[v]:=by
 cases n with
 | zero=>simp [Nak] at ht
 | succ n=>
   simp only [Nak] at ht
   split at ht
   ·rename_i d;cases ht
    obtain ⟨b,rfl⟩:=okWide_bool d hv
    rfl
   ·rename_i k d;cases ht
    obtain ⟨b,rfl⟩:=okWide_int d hv
    rfl
   ·rename_i d;cases ht
    obtain ⟨b,rfl⟩:=okWide_string d hv
    rfl
   ·rename_i e d
    split at ht
    case h_2=>cases ht
    split at ht
    case isFalse=>cases ht
    cases ht
    obtain ⟨a,l,c,rfl⟩:=okWide_slice d hv
    rfl
   ·rename_i k e d
    split at ht
    case h_2=>cases ht
    rename_i f he
    split at ht
    case isFalse=>cases ht
    cases ht
    have hv2:=hv
    simp only [Value.okWide,d] at hv2
    obtain ⟨cs,rfl,_⟩:=hv2
    exact ⟨cs,rfl⟩
   ·rename_i g d
    split at ht
    case h_2=>cases ht
    rename_i f he
    split at ht
    case isFalse=>cases ht
    cases ht
    obtain ⟨cs,rfl,_⟩:=okWide_struct d hv
    rw [Nh (Nhw he)]
    exact ⟨cs,rfl⟩
   ·cases ht
theorem Ndz {n:Nat} {r:Reach} {base:Nat}:∀{g:List TypeId} {vs:List Value} {ds:List (DataW H)} {ps:List MemPlace} {tys:List Ty},DataW.TrodAll enc P w 0 (fun _=>true) true g vs ds ps->g.mapM (Nak P n)=some tys->
  (∀(j:Nat) t v,g[j]? = some t->vs[j]? = some v->Value.okWide P w r base t v)->∀σ H,Inv Pg W lim σ H w->Zy H->
  ∃X i as x,Inv Pg W lim i (H++X) w/\Zy (H++X)/\PH.le σ i/\OG i as vs/\Njk tys (H++X) x as
 | [],[],[],ps,tys,_,ht,_,σ,Hp,hi,hn=>by
   simp at ht;subst ht
   exact ⟨[],σ,[],(),by simpa using hi,by simpa using hn,PH.le_refl _,OG.nil,rfl⟩
 | t::g,v::vs,d::ds,ps,tys,hA,ht,hv,σ,Hp,hi,hn=>by
   obtain ⟨p,q,h1,h2,rfl⟩:=hA
   rw [List.mapM_cons] at ht
   obtain ⟨ty,e,ht⟩:=NV ht
   obtain ⟨tr,h,ht⟩:=NV ht
   cases ht
   obtain ⟨m,hm⟩:=h1
   have hc:=Nvj e (hv 0 t v rfl rfl)
   obtain ⟨X,l,as,x,k1,k2,k3,b,f,o⟩:=Xl n m e hm σ Hp hi hn
   obtain ⟨Y,E,bs,y,s,u,k,z,A⟩:=Ndz h2 h (fun j D v' e1 e2=>hv (j+1) D v' (by simpa using e1) (by simpa using e2)) l _ k1 k2
   have key:∃c,VRel l c v/\Xa ty (Hp++X) x c:=by
    split at hc
    ·rename_i hr
     obtain ⟨cs,rfl⟩:=hc
     refine ⟨.agg as.toArray,VRel.agg_iff.2 ⟨by simpa [Value.cells] using b,by simpa [Value.cells] using o⟩, ?_⟩
     unfold Xa;rw [Nh hr]
     exact ⟨as,rfl,f⟩
    ·rename_i hr
     rw [hc] at b
     have hl:=b.1
     match as,hl,b,f with
     | [a],_,b,f=>
       refine ⟨a,b.head, ?_⟩
       unfold Xa;rw [Ng hr]
       exact f
   obtain ⟨c,B,C⟩:=key
   refine ⟨X++Y,E,c::bs,(x,y),by rw [<-Nq];exact s,by rw [<-Nq];exact u,PH.le_trans k3 k,OG.cons (B.mono k) z,c,bs,rfl, ?_, ?_⟩
   ·rw [<-Nq];exact C.app Y
   ·rw [<-Nq];exact A
 | [],[],_::_,_,_,hA,_,_,_,_,_,_=>hA.elim
 | [],_::_,_,_,_,hA,_,_,_,_,_,_=>hA.elim
 | _::_,[],_,_,_,hA,_,_,_,_,_,_=>hA.elim
 | _::_,_::_,[],_,_,hA,_,_,_,_,_,_=>hA.elim
theorem Zg (hl:laidOutB P=true) {w':World} (e:Below w.heap.size w w'):∀{a:List TypeId} {vs:List Value} {ds:List (DataW H)} {ps:List MemPlace},(∀t∈a,P.readableRec t=true/\t<P.types.size)->DataW.TrodAll enc P w 0 (fun _=>true) true a vs ds ps->
  (∀x∈ps,x.block<w.heap.size)->DataW.TrodAll enc P w' 0 (fun b=>decide (b<w.heap.size)) true a vs ds ps
 | [],[],[],ps,_,h,_=>h
 | t::a,v::vs,d::ds,ps,hr,h,hlt=>by
   obtain ⟨p,q,h1,h2,rfl⟩:=h
   exact ⟨p,q,Below.trod hl (hr t (by simp)).1 (hr t (by simp)).2 h1 e fun x hx=>hlt x (by simp [hx]),Zg hl e (fun f c=>hr f (by simp [c])) h2 fun x hx=>hlt x (by simp [hx]),rfl⟩
 | [],[],_::_,_,_,hA,_=>hA.elim
 | [],_::_,_,_,_,hA,_=>hA.elim
 | _::_,[],_,_,_,hA,_=>hA.elim
 | _::_,_::_,[],_,_,hA,_=>hA.elim
theorem trodAll_length:∀{a:List TypeId} {vs:List Value} {ds:List (DataW H)} {ps:List MemPlace},DataW.TrodAll enc P w 0 (fun _=>true) true a vs ds ps->ds.length=a.length
 | [],[],[],ps,_=>rfl
 | t::a,v::vs,d::ds,ps,h=>by
   obtain ⟨p,q,h1,h2,rfl⟩:=h
   simp [trodAll_length h2]
 | [],[],_::_,_,hA=>hA.elim
 | [],_::_,_,_,hA=>hA.elim
 | _::_,[],_,_,hA=>hA.elim
 | _::_,_::_,[],_,hA=>hA.elim
end
theorem Nlr {C:Checked} {os:Os} {g:FuncId} {fn:Func} {s:ChangeSpec} {E:Env} {tys:List Ty} {U:TypeId} {a:List PathCond} {H:Type} {enc:TypeId×Value->H}
  (own:ownKnob C.prog.godebug=none) (l:os.Started) (m:C.prog.inits.idxOf? g=none) (K:C.prog.funcs[g]? = some fn) (f:s.vars=[])
  (z:∀ds:List (DataW H),ds.length=fn.params.size->s.fn H ds={ results:=[.lit (.bool true)],args:=ds })
  (D:fn.resultTypes=#[U]) (B:C.prog.underlying U=some .bool) (G:fn.params.toList.mapM (Nak C.prog 9)=some tys)
  (y:∀t∈fn.params.toList,C.prog.readableRec t=true/\t<C.prog.types.size) (u:laidOutB C.prog=true) (V:EnvOk C.prog E)
  (witness:∃(w:World) (tape:Tape) (i:Input),w.os=os/\(w.forCall tape i).Shaped C.prog/\i.vars=[]/\Input.okWide C.prog (w.forCall tape i) .any w.heap.size g i/\
   s.pre6 enc C.prog fn a false (w.forCall tape i).memory i.args/\({}:Assume).holds C.prog (lone (Frame.enter C.prog g i.args .normal) [] (w.forCall tape i)))
  (run:∀H vs x,Njk tys H x vs->NP E false H.length g vs H fun v _=>v=.bool true) :
  ReturnsInHanded {} C os g .any (s.pre6 enc C.prog fn a false) (s.post enc C.prog fn false true false false):=by
 refine returnsInHanded_of_change own l m K witness ?_
 intro w base args ds gs before I Q R J
 have A:=Q
 obtain ⟨p,q,hA,O,rfl,W,Y⟩:=Q
 rw [f] at O
 obtain ⟨rfl,rfl⟩:=trodVars_none O
 obtain ⟨X,σ,as,x,k1,k2,k3,Z,T⟩:=Ndz hA G (fun j t v h1 h2=>I j t v (by simpa using h1) (by simpa using h2)) (fun _=>none) [] (Inv.nil (P:=C.prog) (E:=E) w) (fun i b B=>by simp at B)
 rw [On] at k1 k2 T
 have N:Inv (Prg.mk C.prog E.pure) (fun k=>w.heap.size<=k) X.length σ X w:=⟨k1.blk,k1.inj,(fun i b L B ho=>by rw [k2 i b B] at ho;cases ho),k1.fresh,k1.dom⟩
 obtain ⟨n,LL,hx,F⟩:=run X as x T
 have c:=(Nc0 V n).calls _ _ _ _ _ _ hx (Nd _) _ _ _ _ N Z
 rw [show args.toList.toArray=args by simp] at c
 refine c.mono fun e w' hp=>?_
 obtain ⟨r,hr,v',σ',rfl,hv,S,d,_⟩:=hp
 rw [F.2 r hr] at hv
 rw [hv.bool_left]
 have o:Below w.heap.size w w':=⟨d.os,d.tape,d.output.1,d.size,fun k hk=>d.block k (by omega)⟩
 have M:∀x∈p,x.block<w.heap.size:=fun x hx=>by
  have:=A.lt x (by simpa using hx)
  simpa using this
 have hs:=z ds (by simpa using trodAll_length hA)
 refine ⟨_,rfl,_,_,_,[],p,[],A, ?_, ?_, ?_,o.frame _,fun h=>by cases h⟩
 ·rw [Nc,hs,D]
  exact trodAll_mk1 (shut_bool B true)
 ·rw [Nc,hs]
  exact Zg u o y hA M
 ·rw [Nc,hs,f]
  rfl
theorem WC.sl {t:Ty} {H:NA} {l:List t.den} {cs:List Value} {α:Type} (f:t.den->α) (enc:α->List Value) (he:∀H x c,WC t H x c->c=enc (f x)) (h:WC (.slice t) H l cs) :
  ∃p cap,cs=[.slice p (l.map f).length cap]/\Sl H enc t.size p (l.map f)/\l.length<2 ^ 63:=by
 obtain ⟨h0,p,cap,e,h1,h2⟩:=h
 have d:l.length<2 ^ 63:=by unfold maxLen at h0;omega
 refine ⟨p,cap,by rw [e,Nw], ?_,d⟩
 cases p with
 | none=>simp only [Sl];rw [(h1 rfl).1];rfl
 | some a=>
   obtain ⟨k1,k2,k3,n⟩:=h2 a rfl
   refine ⟨k1,fun hn=>?_⟩
   obtain ⟨es,o,g,j⟩:=n (by rintro rfl;exact hn rfl)
   have key:es.flatten=(l.map f).flatMap enc:=by
    have:es=l.map fun x=>enc (f x):=by
     apply Pe (by simpa using g)
     intro i q m
     have r:i<l.length:=by simpa using m
     have:=he _ _ _ (j i l[i] es[i] (Nf _) (Nf _))
     rw [this];simp
    rw [this,List.flatMap_def,List.map_map]
    rfl
   have b:es.flatten.length=l.length*t.size:=by
    have:∀(es:List (List Value)),(∀x∈es,x.length=t.size)->es.flatten.length=es.length*t.size:=by
     intro es
     induction es with
     | nil=>simp
     | cons x es ih=>intro h;simp [ih fun y k=>h y (by simp [k]),h x (by simp),Pw,Rj]
    rw [this es,g]
    intro x hx
    obtain ⟨i,hi,rfl⟩:=List.mem_iff_getElem.1 hx
    exact (j i _ _ (Nf (by omega)) (Nf hi)).len
   refine ⟨true,_,o, ?_, ?_⟩
   ·rw [k2,b,Nw];omega
   ·rw [k2,Ox,key,Og]
    rw [<-key,b,Nw]
    exact Nd _
theorem WC.slice_mem {t:Ty} {H:NA} {l:List t.den} {cs:List Value} (h:WC (.slice t) H l cs):∀x∈l,∃c,WC t H x c:=by
 intro x hx
 obtain ⟨h0,p,cap,e,h1,h2⟩:=h
 cases p with
 | none=>rw [(h1 rfl).1] at hx;simp at hx
 | some a=>
   obtain ⟨k1,k2,k3,b⟩:=h2 a rfl
   obtain ⟨es,f,g,d⟩:=b (by rintro rfl;simp at hx)
   obtain ⟨i,hi,rfl⟩:=List.mem_iff_getElem.1 hx
   exact ⟨_,d i _ _ (Nf hi) (Nf (by omega))⟩
theorem WC.nil_of {H:NA} {x:Ty.nil.den} {cs:List Value} (h:WC .nil H x cs):cs=[]:=h
theorem WC.int_of {k:IntKind} {H:NA} {x:(Ty.int k).den} {cs:List Value} (h:WC (.int k) H x cs):cs=[.int k x]/\k.min<=x/\x<=k.max:=h
theorem Xa.row {t:Ty} {H:NA} {x:t.den} {v:Value} (hr:isRow t=true) (h:Xa t H x v):∃cs,v=.agg cs.toArray/\WC t H x cs:=by
 unfold Xa at h
 rw [Nh hr] at h
 exact h
theorem Xa.one {t:Ty} {H:NA} {x:t.den} {v:Value} (hr:isRow t=false) (h:Xa t H x v):WC t H x [v]:=by
 unfold Xa at h
 rw [Ng (by rw [hr];decide)] at h
 exact h
end Go.AM


namespace Go.AM
structure Chg (A:List Nat) (H H':NA):Prop where
 len:H.length<=H'.length
 other:∀j,j<H.length->j∉A->NC H' j=NC H j
section
variable {A B:List Nat} {H H' K:NA}
theorem Chg.refl:Chg A H H:=⟨Nd _,fun _ _ _=>rfl⟩
theorem Chg.trans (h:Chg A H H') (k:Chg A H' K):Chg A H K:=⟨Qc h.len k.len,fun j a hA=>(k.other j (by have:=h.len;omega) hA).trans (h.other j a hA)⟩
theorem Chg.trans' (h:Chg A H H') (k:Chg B H' K) (hB:∀j,j∈B->j<H.length->j∈A):Chg A H K:=⟨Qc h.len k.len,fun j a hA=>(k.other j (by have:=h.len;omega) fun b=>hA (hB j b a)).trans (h.other j a hA)⟩
theorem Chg.mono (h:Chg A H H') (hs:∀j,j<H.length->j∈A->j∈B):Chg B H H':=⟨h.len,fun j a hB=>h.other j a fun hA=>hB (hs j a hA)⟩
theorem Chg.app (h:Chg A H H') {X:NA}:Chg A H (H'++X):=⟨by have:=h.len;simp;omega,fun j a hA=>by rw [NI (by have:=h.len;omega)];exact h.other j a hA⟩
theorem Chg.pre (h:Chg A (H++K) H'):Chg A H H':=⟨by have:=h.len;simp at this;omega,fun j a hA=>by rw [h.other j (by simp;omega) hA,NI a]⟩
theorem Chg.mut {R:Nat} (h:Chg A H H') (m:Mut H' K R) (a:R∈A\/H.length<=R):Chg A H K:=⟨by rw [m.len];exact h.len,fun j b hA=>by
 rw [m.other j (by rintro rfl;rcases a with h1 | h1;exact hA h1;omega)];exact h.other j b hA⟩
theorem Chg.set {R:Nat} {b:Blk} (h:Chg A H H') (a:R∈A\/H.length<=R):Chg A H (H'.set R b):=h.mut (R:=R) ⟨by simp,fun j c=>PS c⟩ a
theorem Chg.get (h:Chg A H H') {j:Nat} {b:Blk} (a:NC H j=b) (hl:j<H.length) (hA:j∉A):NC H' j=b:=by rw [h.other j hl hA];exact a
theorem Chg.cells (h:Chg A H H') {j:Nat} {ro:Bool} {c:List Value} (a:NC H j=.cells ro c) (hA:j∉A):NC H' j=.cells ro c:=h.get a (NG a) hA
theorem Chg.sl {α:Type} {enc:α->List Value} {e:Nat} {p:Option Addr} {l:List α} (h:Chg A H H') (hs:Sl H enc e p l) (hp:∀a,p=some a->l≠[]->a.block∉A):Sl H' enc e p l:=by
 cases p with
 | none=>exact hs
 | some a=>
   refine ⟨hs.1,fun hn=>?_⟩
   obtain ⟨ro,c,h2,b⟩:=hs.2 hn
   exact ⟨ro,c,h.cells h2 (hp a rfl hn),b⟩
theorem OM.chg (h:OM H H'):Chg A H H':=by obtain ⟨X,rfl⟩:=h;exact Chg.refl.app
theorem Chg.ext (h:Chg [] H H'):OM H H':=by
 refine ⟨H'.drop H.length, ?_⟩
 apply Pe
 ·have:=h.len;simp;omega
 intro i h1 h2
 by_cases hi:i<H.length
 ·rw [Qv hi]
  have:=h.other i hi (by simp)
  unfold NC at this
  rw [Na,Na,Nf h1,Nf hi] at this
  exact this
 ·rw [Q7 (by omega),Q9]
  congr 1
  omega
end
theorem Sl.lt {α:Type} {H:NA} {enc:α->List Value} {e:Nat} {a:Addr} {l:List α} (h:Sl H enc e (some a) l) (hn:l≠[]):a.block<H.length:=by
 obtain ⟨ro,c,h2,_⟩:=h.2 hn
 exact NG h2
theorem Sl.some {α:Type} {H:NA} {enc:α->List Value} {e:Nat} {p:Option Addr} {l:List α} (h:Sl H enc e p l) (hn:l≠[]):∃a,p=some a:=by
 cases p with
 | none=>exact absurd h hn
 | some a=>exact ⟨a,rfl⟩
section
variable {α:Type} [Inhabited α] {H:NA} {enc:α->List Value} {e:Nat} {p:Option Addr} {l:List α}
theorem Sl.loadSub (h:Sl H enc e p l) (he:∀x,(enc x).length=e) {i j n:Nat} (hi:i<l.length) (k:j+n<=e):AM.loadCells H ((YV p e i).add j) n=Option.some (((enc (gt l i)).drop j).take n):=by
 have h0:=h.loadCells he hi
 cases p with
 | none=>simp only [Sl] at h;subst h;simp at hi
 | some a=>
   obtain ⟨b,o,s⟩:=a
   obtain ⟨ro,c,h2,f,d⟩:=h.2 (by rintro rfl;simp at hi)
   have h1:=h.1
   simp only at h1 h2 d f;subst h1
   have g:i*e+e<=l.length*e:=by
    have:=O8 e (Qw hi)
    rw [Pq] at this;exact this
   simp only [YV,addrOf,Pa,addr_add,AM.loadCells,h2] at h0⊢
   split at h0
   ·simp only [Option.some.injEq] at h0
    rw [Nh (by omega),<-h0,List.drop_take,Rb,List.drop_drop,P7 (by omega),Oo]
   ·cases h0
omit [Inhabited α] in
theorem Nr9 {lim S:Nat} (he:∀x,(enc x).length=e) (hp:p=Option.some ⟨S,0,none⟩) (hS:NC H S=.cells false (l.flatMap enc)) (hl:lim<=S) {i:Nat} (hi:i<l.length) (y:α):AM.storeAt lim H (YV p e i) (enc y)=Option.some (H.set S (.cells false ((l.set i y).flatMap enc))):=by
 subst hp
 have h1:i*e+e<=l.length*e:=by
  have:=O8 e (Qw hi)
  rw [Pq] at this;exact this
 simp only [YV,addrOf,Pa,addr_add,UU,hS,N5]
 rw [Nh ⟨hl,by rw [he,PK he];exact h1⟩,Nl5 he y _ _ hi]
end
theorem WK {α:Type} {G:NA} {enc:α->List Value} {e:Nat} {p:Option Addr} {l:List α} {lim S:Nat} (he:∀x,(enc x).length=e) (hp:p=some ⟨S,0,none⟩) (hS:NC G S=.cells false (l.flatMap enc)) (hl:lim<=S) {i:Nat} (hi:i<l.length) (y:α) :
  ∃G',(∀X,AM.storeAt lim (G++X) (YV p e i) (enc y)=some (G'++X))/\NC G' S=.cells false ((l.set i y).flatMap enc)/\Mut G G' S:=by
 obtain ⟨G',h1,h2,a⟩:=OP (NG hS) (.cells false ((l.set i y).flatMap enc))
 exact ⟨G',fun X=>by rw [Nr9 he hp (by rw [NI (NG hS)];exact hS) hl hi,h1],h2,a⟩
theorem Own.step {α:Type} {lim lim' e bytes cap:Nat} {G:NA} {enc:α->List Value} {p:Option Addr} {l:List α} (h:Own lim G enc e p cap l) (m:lim'<=lim) (he:∀x,(enc x).length=e) (f:e≠0) (x:α) (o:(l.length+1)*bytes<=PM) (hn:l.length+1<2 ^ 61) (i:lim<=G.length)
  (X:NA) (b k:Nat) (hx:NC (G++X) b=.cells false (enc x)) :
  ∃G2,OU lim' none e bytes false (.slice p l.length cap) (.slice (some ⟨b,0,none⟩) 1 k) (G++X)=some (.slice (some ⟨G.length+X.length,0,none⟩) (l.length+1) (loose e),G2++[])/\
   Own lim (G2++[]) enc e (some ⟨G.length+X.length,0,none⟩) (loose e) (l++[x])/\(∀A H0,H0.length<=lim->Chg A H0 G->Chg A H0 (G2++[]))/\(∀j,j<G.length->(∀a,p=some a->j≠a.block)->NC (G2++[]) j=NC G j)/\G2.length=G.length+X.length+1/\
   (∀j,j<X.length->NC (G2++[]) (G.length+j)=X.getD j .dead):=by
 obtain ⟨G',R,c,d,hm,_,hp⟩:=h.push1 (lim':=lim') (bytes:=bytes) m he f x o hn
 have n:lim<=R:=by
  rcases Rk p with h1 | ⟨a,h1⟩
  ·rw [c h1];exact i
  ·rw [d a h1];exact (h.block h1).1
 refine ⟨G'++(X++[.cells false ((l++[x]).flatMap enc)]),by rw [Nc];exact hp X b k hx, ?_,fun A H0 h1 h2=>?_,fun j g hp=>?_,by simp [hm.len];omega,fun j g=>?_⟩
 ·rw [Nc]
  refine Own.new ?_ (by omega)
  rw [<-Nq,<-hm.len,<-Ni]
  exact NQ
 ·rw [Nc]
  exact (h2.mut hm (.inr (by omega))).app
 ·rw [Nc,NI (by rw [hm.len];exact g)]
  refine hm.other j ?_
  rcases Rk p with h1 | ⟨a,h1⟩
  ·rw [c h1];omega
  ·rw [d a h1];exact hp a h1
 ·rw [Nc,<-hm.len,NR,Na,N4 g,Na]
theorem Nmx {α:Type} {lim b e bytes c:Nat} {H:NA} {enc:α->List Value} {p:Option Addr} {l:List α} (i:NC H b=.cells false []) (hs:Sl H enc e p l) (h1:e≠0) (h2:l.length*bytes<=PM) (m:l.length<2 ^ 62) (hn:l≠[]) :
  OU lim none e bytes false (.slice (some ⟨b,0,none⟩) 0 0) (.slice p l.length c) H=some (.slice (some ⟨H.length,0,none⟩) l.length (loose e),H++[.cells false (l.flatMap enc)]):=by
 obtain ⟨a,rfl⟩:=hs.some hn
 have h0:l.length≠0:=fun h=>hn (List.length_eq_zero_iff.1 h)
 obtain ⟨k1,k2⟩:=hs
 obtain ⟨ro,cs,k3,f,g⟩:=k2 hn
 have hl:AM.loadCells H a (l.length*e)=some (l.flatMap enc):=by
  obtain ⟨j,k,as'⟩:=a
  simp only [QA]
  simp only at k3 f g
  simp only [k3]
  rw [Nh f,g]
 have d:AM.loadCells H ⟨b,0,none⟩ (0*e)=some []:=by simp [QA,i]
 simp only [OU,firstCells,lenOf,hl,d,h0,N5,Nat.not_lt_zero,or_false,h1,false_or,Nz,if_false]
 rw [Ng (by omega),Ng (by unfold loose;omega),Nh (by decide),Ng (by omega)]
 simp [place]
theorem Ncb:∀(k:KK) (n:Nat) (a b:List Value),a.length=n->b.length=n->(∀x∈a,∀y∈b,∃t,Tz k x y=some t/\(t=true↔x=y))->∃t,PP (List.replicate n k) a b=some t/\(t=true↔a=b)
 | k,0,a,b,ha,hb,_=>by
   have:=List.length_eq_zero_iff.1 ha;have:=List.length_eq_zero_iff.1 hb
   subst_vars
   exact ⟨true,rfl,by simp⟩
 | k,n+1,a,b,ha,hb,h=>by
   match a,b,ha,hb with
   | x::a,y::b,ha,hb=>
     obtain ⟨t,h1,h2⟩:=h x (by simp) y (by simp)
     obtain ⟨u,c,d⟩:=Ncb k n a b (by simpa using ha) (by simpa using hb) fun x hx y e=>h x (by simp [hx]) y (by simp [e])
     refine ⟨t&&u, ?_, ?_⟩
     ·rw [Pk]
      simp only [PP,h1,c]
     ·rw [Nx,h2,d];simp
theorem WJ {α:Type} [Inhabited α] {l:List α} {i:Nat} (h:i<l.length):l.take (i+1)=l.take i++[gt l i]:=by
 rw [Oe h,PU h]
theorem Ndo:∀(vs a b c:List Value),vs.length=b.length->QW (a++b++c) a.length vs=a++vs++c:=by
 intro vs
 induction vs with
 | nil=>intro a b c h;simp at h;have:b=[]:=List.length_eq_zero_iff.1 h.symm;subst this;rfl
 | cons v vs ih=>
   intro a b c h
   match b,h with
   | x::b,h=>
     rw [Ua]
     have e1:(a++x::b++c).set a.length v=(a++[v])++b++c:=by simp
     rw [e1]
     have:=ih (a++[v]) b c (by simpa using h)
     rw [Ni] at this
     simp only [Nk,No,N5] at this
     rw [this];simp
theorem Own.more {α:Type} {lim lim' e bytes cap:Nat} {G:NA} {enc:α->List Value} {p:Option Addr} {l:List α} (h:Own lim G enc e p cap l) (w:lim'<=lim) (he:∀x,(enc x).length=e) (u:e≠0) (m:List α) (o:(l.length+m.length)*bytes<=PM) (hn:l.length+m.length<2 ^ 61) (v:lim<=G.length)
  (X:NA) {x:Value} {str:Bool} (h1:firstCells (G++X) e str x=some (m.flatMap enc)) (h2:lenOf x=some m.length) :
  ∃G2 s b,OU lim' none e bytes str (.slice p l.length cap) x (G++X)=some (.slice s (l.length+m.length) b,G2++[])/\Own lim (G2++[]) enc e s b (l++m)/\(∀A H0,H0.length<=lim->Chg A H0 G->Chg A H0 (G2++[]))/\
   (∀j,j<G.length->(∀a,p=some a->j≠a.block)->NC (G2++[]) j=NC G j)/\G.length<=G2.length:=by
 by_cases hm:m=[]
 ·subst hm
  have r:l.length<=cap:=by
   rcases h with ⟨k1,_,k3⟩ | ⟨R,_,k2,_,_⟩
   ·subst k1;simp
   ·rw [k2];simp at hn;unfold loose;omega
  refine ⟨G++X,p,cap, ?_,by rw [Nc,Nc];exact h.app X,fun A H0 t k=>by rw [Nc];exact k.app,fun j c _=>by rw [Nc,NI c],by simp⟩
  simp only [No,Pd] at o hn h2⊢
  simp only [OU,h1,h2,Pd,if_true,Nc]
  rw [Ng (by omega)]
 ·have g:¬m.length=0:=fun q=>hm (List.length_eq_zero_iff.1 q)
  rcases h with ⟨k1,k2,k3⟩ | ⟨R,k1,k2,k3,y⟩
  ·subst k1 k2 k3
   refine ⟨G++(X++[.cells false (m.flatMap enc)]),some ⟨(G++X).length,0,none⟩,loose e, ?_, ?_,fun A H0 t k=>by rw [Nc];exact k.app,fun j c _=>by rw [Nc,NI c],by simp⟩
   ·simp only [No,N5] at o hn⊢
    simp only [OU,h1,h2,g,if_false,N5]
    rw [Ng (by omega)]
    simp [place]
   ·rw [Nc,On]
    refine Own.new ?_ (by simp;omega)
    rw [<-Nq];exact NQ
  ·subst k1 k2
   have f:=NG k3
   have d:NC (G++X) R=.cells false (l.flatMap enc):=by rw [NI f];exact k3
   have i:AM.loadCells (G++X) ⟨R,0,none⟩ (l.length*e)=some (l.flatMap enc):=by
    simp only [QA,d,N5,PK he,Nd,if_true,Ox]
    rw [Og (by rw [PK he];exact Nd _)]
   have n:Mut G (G.set R .dead) R:=⟨by simp,fun j c=>PS c⟩
   refine ⟨G.set R .dead++(X++[.cells false ((l++m).flatMap enc)]),some ⟨(G++X).length,0,none⟩,loose e, ?_, ?_,fun A H0 t k=>by rw [Nc];exact (k.mut n (.inr (by omega))).app,fun j c hp=>by
    rw [Nc,NI (by simpa using c)];exact PS (hp _ rfl),by simp⟩
   ·simp only [OU,h1,h2,i,d,g,if_false,if_true]
    rw [Ng (by unfold loose;omega)]
    simp [show lim'<=R by omega,place,Qe _ _ f,Nq]
   ·rw [Nc]
    refine Own.new ?_ (by simp;omega)
    rw [<-Nq,show (G++X).length=(G.set R .dead++X).length by simp];exact NQ
theorem Own.moreD {α:Type} {lim lim' e bytes cap d:Nat} {G:NA} {enc:α->List Value} {p:Option Addr} {l:List α} (h:Own lim G enc e p cap l) (z:lim'<=lim) (he:∀x,(enc x).length=e) (w:e≠0) (m:List α) (r:(l.length+m.length)*bytes<=PM) (hn:l.length+m.length<2 ^ 61) (y:lim<=G.length)
  (X:NA) (u:G.length<=d) (v:d<G.length+X.length) {x:Value} {str:Bool} (h1:firstCells (G++X) e str x=some (m.flatMap enc)) (h2:lenOf x=some m.length) :
  ∃G2 n b,OU lim' (some d) e bytes str (.slice p l.length cap) x (G++X)=some (.slice n (l.length+m.length) b,G2++[])/\Own lim (G2++[]) enc e n b (l++m)/\(∀A H0,H0.length<=lim->Chg A H0 G->Chg A H0 (G2++[]))/\
   (∀j,j<G.length->(∀a,p=some a->j≠a.block)->NC (G2++[]) j=NC G j)/\G.length<=G2.length/\(m≠[]->n=some ⟨d,0,none⟩)/\(m=[]->n=p):=by
 by_cases hm:m=[]
 ·subst hm
  have s:l.length<=cap:=by
   rcases h with ⟨k1,_,k3⟩ | ⟨R,_,k2,_,_⟩
   ·subst k1;simp
   ·rw [k2];simp at hn;unfold loose;omega
  refine ⟨G++X,p,cap, ?_,by rw [Nc,Nc];exact h.app X,fun A H0 t k=>by rw [Nc];exact k.app,fun j f _=>by rw [Nc,NI f],by simp,fun h=>absurd rfl h,fun _=>rfl⟩
  simp only [No,Pd] at r hn h2⊢
  simp only [OU,h1,h2,Pd,if_true,Nc]
  rw [Ng (by omega)]
 ·have g:¬m.length=0:=fun q=>hm (List.length_eq_zero_iff.1 q)
  rcases h with ⟨k1,k2,k3⟩ | ⟨R,k1,k2,k3,B⟩
  ·subst k1 k2 k3
   refine ⟨(G++X).set d (.cells false (m.flatMap enc)),some ⟨d,0,none⟩,loose e, ?_, ?_,fun A H0 t k=>by rw [Nc];exact k.app.set (.inr (by omega)),fun j f _=>by rw [Nc,PS (by omega),NI f],by simp,fun _=>rfl,fun h=>absurd h hm⟩
   ·simp only [No,N5] at r hn⊢
    simp only [OU,h1,h2,g,if_false,N5]
    rw [Ng (by omega)]
    simp [place]
   ·rw [Nc,On]
    exact Own.new (Rw (by simp;omega)) (by omega)
  ·subst k1 k2
   have o:=NG k3
   have c:NC (G++X) R=.cells false (l.flatMap enc):=by rw [NI o];exact k3
   have i:AM.loadCells (G++X) ⟨R,0,none⟩ (l.length*e)=some (l.flatMap enc):=by
    simp only [QA,c,N5,PK he,Nd,if_true,Ox]
    rw [Og (by rw [PK he];exact Nd _)]
   refine ⟨((G++X).set R .dead).set d (.cells false ((l++m).flatMap enc)),some ⟨d,0,none⟩,loose e, ?_, ?_,fun A H0 t k=>by rw [Nc];exact (k.app.set (.inr (by omega))).set (.inr (by omega)),fun j f hp=>by
    rw [Nc,PS (by omega),PS (hp _ rfl),NI f],by simp,fun _=>rfl,fun h=>absurd h hm⟩
   ·simp only [OU,h1,h2,i,c,g,if_false,if_true]
    rw [Ng (by unfold loose;omega)]
    simp [show lim'<=R by omega,place]
   ·rw [Nc]
    exact Own.new (Rw (by simp;omega)) (by omega)
theorem Ue {α:Type} {e k:Nat} {H:NA} {enc:α->List Value} {p:Option Addr} {m:List α} (hs:Sl H enc e p m):firstCells H e false (.slice p m.length k)=some (m.flatMap enc):=by
 by_cases hm:m=[]
 ·subst hm
  cases p<;>simp [firstCells]
 ·obtain ⟨a,rfl,hl⟩:=hs.cells hm
  have:m.length≠0:=fun h=>hm (List.length_eq_zero_iff.1 h)
  simp [firstCells,this,hl]
theorem Sl.pre {α:Type} {H:NA} {enc:α->List Value} {e:Nat} {p:Option Addr} {l m:List α} (h:Sl H enc e p (l++m)) (he:∀x,(enc x).length=e):Sl H enc e p l:=by
 cases p with
 | none=>simp only [Sl] at h;exact (List.append_eq_nil_iff.1 h).1
 | some a=>
   refine ⟨h.1,fun hn=>?_⟩
   obtain ⟨ro,c,h1,h2,d⟩:=h.2 (by simp [hn])
   have hle:l.length*e<=(l++m).length*e:=O8 e (by simp)
   refine ⟨ro,c,h1,by omega, ?_⟩
   have b:=P3 (List.take (l.length*e)) d
   rw [Rb,P7 hle,Qi,Qh (by rw [PK he];exact Nd _),Og (l:=l.flatMap enc) (by rw [PK he];exact Nd _)] at b
   exact b
theorem Sl.row {α:Type} {H:NA} {enc:α->List Value} {e R:Nat} {l:List α} (he:∀x,(enc x).length=e) {ro:Bool} (h:NC H R=.cells ro (l.flatMap enc)):Sl H enc e (Option.some ⟨R,0,none⟩) l:=Sl.lit he (by rw [h];rfl) (by rw [h];rfl)
theorem Own.chg {α:Type} {A:List Nat} {lim e cap:Nat} {G H':NA} {enc:α->List Value} {p:Option Addr} {l:List α} (h:Own lim G enc e p cap l) (hc:Chg A G H') (hp:∀a,p=some a->a.block∉A):Own lim H' enc e p cap l:=by
 rcases h with h | ⟨R,h1,h2,b,c⟩
 ·exact .inl h
 ·exact .inr ⟨R,h1,h2,hc.cells b (hp _ h1),c⟩
def Ve (e c n:Nat):Prop:=c=loose e\/(n<=c/\c<2 ^ 62)
theorem Own.capOk {α:Type} {lim e cap:Nat} {G:NA} {enc:α->List Value} {p:Option Addr} {l:List α} (h:Own lim G enc e p cap l):Ve e cap l.length:=by
 rcases h with ⟨h1,h2,a⟩ | ⟨R,h1,h2,a,b⟩
 ·subst h1 a;exact .inr ⟨Nd _,by decide⟩
 ·exact .inl h2
theorem Nhh {α:Type} {enc:α->List Value} {e:Nat} (he:∀x,(enc x).length=e):∀(l:List α) (k:Nat),(l.take k).flatMap enc=(l.flatMap enc).take (k*e)
 | [],k=>by simp
 | x::l,0=>by simp
 | x::l,k+1=>by
   rw [Qz,Om,Om,Nhh he l k,List.take_append,he,Og (l:=enc x) (by rw [he,Pq];omega),Pq,Pt]
theorem Neo {α:Type} {enc:α->List Value} {e:Nat} (he:∀x,(enc x).length=e):∀(l:List α) (k:Nat),(l.drop k).flatMap enc=(l.flatMap enc).drop (k*e)
 | [],k=>by simp
 | x::l,0=>by simp
 | x::l,k+1=>by
   rw [List.drop_succ_cons,Om,Neo he l k,List.drop_append,he,Qj (as:=enc x) (by rw [he,Pq];omega),On,Pq,Pt]
theorem Sl.sub {α:Type} {H:NA} {enc:α->List Value} {e:Nat} {a:Addr} {l:List α} (h:Sl H enc e (Option.some a) l) (he:∀x,(enc x).length=e) {lo hi:Nat} (h1:lo<=hi) (h2:hi<=l.length):Sl H enc e (Option.some (a.add (lo*e))) ((l.take hi).drop lo):=by
 obtain ⟨b,o,s⟩:=a
 have hs:=h.1
 simp only at hs;subst hs
 rw [addr_add]
 refine ⟨rfl,fun hn=>?_⟩
 have f:l≠[]:=by rintro rfl;simp at hn
 obtain ⟨ro,c,k1,k2,k3⟩:=h.2 f
 have d:((l.take hi).drop lo).length=hi-lo:=by simp;omega
 have e1:(hi-lo)*e+lo*e=hi*e:=by rw [<-Pw,Nat.sub_add_cancel h1]
 have e2:hi*e<=l.length*e:=O8 e h2
 refine ⟨ro,c,k1,by simp only [d] at *;omega, ?_⟩
 simp only at k2 k3⊢
 rw [d,Neo he,Nhh he,<-k3,Rb,P7 e2,List.drop_take,List.drop_drop,show hi*e-lo*e=(hi-lo)*e by omega]
theorem YI {α:Type} {H:NA} {enc:α->List Value} {e:Nat} {p:Option Addr} {l:List α} {c lo hi:Nat} {vlo vhi:Option Value} (hs:Sl H enc e p l) (hc:Ve e c l.length) (he:∀x,(enc x).length=e) (v:∀cap,l.length<=cap->Wo l.length cap vlo vhi none=some (lo,hi,cap)) (h1:lo<=hi) (h2:hi<=l.length) (hn:l.length<2 ^ 63) :
  ∃j r,Xg e (.slice p l.length c) vlo vhi none=some (.slice j (hi-lo) r)/\Sl H enc e j ((l.take hi).drop lo)/\Ve e r (hi-lo)/\(∀a',j=some a'->∃a,p=some a/\a'.block=a.block)/\(l≠[]->∀a',j=some a'->AM.loadCells H a' 0=some []):=by
 have h0:l≠[]->∀a,p=some a->∀k,k<=l.length->AM.loadCells H (a.add (k*e)) 0=some []:=by
  intro d a ha k hk
  subst ha
  obtain ⟨b,o,s⟩:=a
  have f:=hs.1
  simp only at f;subst f
  obtain ⟨ro,cs,k1,k2,k3⟩:=hs.2 d
  simp only at k1 k2
  have:=O8 e hk
  rw [addr_add,QA,k1]
  simp only [Pd,Q1]
  rw [Nh (by omega)]
 have m:l≠[]->∀a,p=some a->AM.loadCells H a 0=some []:=by
  intro d a ha
  have:=h0 d a ha 0 (Nv _)
  subst ha
  obtain ⟨b,o,s⟩:=a
  have f:=hs.1
  simp only at f;subst f
  rw [Qq,addr_add,Pd] at this
  exact this
 have hB:∀cap,l.length<=cap->bounds unV l.length cap (vlo.map .const) (vhi.map .const) none=some (lo,hi,cap):=fun cap i=>by
  rw [Nab,<-v cap i]
  cases vlo<;>cases vhi<;>rfl
 have g:∀(a:Addr) (n:Nat),(a.add n).block=a.block:=fun a n=>by
  unfold Addr.add
  split<;>rfl
 rcases hc with rfl | ⟨t,u⟩
 ·refine ⟨p.map (·.add (lo*e)),loose e, ?_, ?_,.inl rfl,fun a' h=>?_,fun d a' h=>?_⟩
  ·simp only [Xg,TJ,Oh,if_true,hB _ (Nd _)]
  ·cases p with
   | none=>simp only [Sl] at hs;subst hs;simp [Sl]
   | some a=>exact hs.sub he h1 h2
  ·cases p with
   | none=>cases h
   | some a=>cases h;exact ⟨a,rfl,g _ _⟩
  ·cases p with
   | none=>cases h
   | some a=>cases h;exact h0 d a rfl lo (by omega)
 ·have q:¬c=loose e:=by unfold loose;omega
  refine ⟨if c=lo then p else p.map (·.add (lo*e)),c-lo, ?_, ?_,.inr ⟨by omega,by omega⟩,fun a' h=>?_,fun d a' h=>?_⟩
  ·simp only [Xg,TJ,Oh,Ng q,Nh u,hB c t]
  ·split
   ·have h0:(l.take hi).drop lo=[]:=Qj (by simp;omega)
    rw [h0]
    cases p with
    | none=>rfl
    | some a=>exact ⟨hs.1,fun h=>absurd rfl h⟩
   ·cases p with
    | none=>simp only [Sl] at hs;subst hs;simp [Sl]
    | some a=>exact hs.sub he h1 h2
  ·split at h
   ·exact ⟨a',h,rfl⟩
   ·cases p with
    | none=>cases h
    | some a=>cases h;exact ⟨a,rfl,g _ _⟩
  ·split at h
   ·exact m d a' h
   ·cases p with
    | none=>cases h
    | some a=>cases h;exact h0 d a rfl lo (by omega)
theorem Ngn {t:Ty} {H:NA} {l:List t.den} {v:Value} {α:Type} (f:t.den->α) (enc:α->List Value) (he:∀H x c,WC t H x c->c=enc (f x)) (h:Xa (.slice t) H l v) :
  ∃p cap,v=.slice p (l.map f).length cap/\Sl H enc t.size p (l.map f)/\Ve t.size cap (l.map f).length/\(l.map f).length<2 ^ 63:=by
 have h0:=Xa.one rfl h
 obtain ⟨p,cap,e,h1,h2⟩:=WC.sl f enc he h0
 refine ⟨p,cap,List.singleton_inj.1 e,h1, ?_,by simpa using h2⟩
 obtain ⟨_,j,d,b,k1,k2⟩:=h0
 rw [e] at b
 simp only [List.cons.injEq,Value.slice.injEq,and_true] at b
 obtain ⟨e1,_,e3⟩:=b
 subst e1 e3
 cases p with
 | none=>obtain ⟨g,i⟩:=k1 rfl;exact .inr (by rw [g,i];simp)
 | some a=>exact .inl (k2 a rfl).2.2.1
theorem Nkb {n e lo hi:Nat} {a:Addr} {vlo vhi:Option Value} (b:Wo n n vlo vhi none=some (lo,hi,n)) (hn:n<2 ^ 62) (hl:lo<n):Xh n e (.pointer (some a)) vlo vhi none=some (.slice (some (a.add (lo*e))) (hi-lo) (n-lo)):=by
 have hB:bounds unV n n (vlo.map .const) (vhi.map .const) none=some (lo,hi,n):=by
  rw [Nab,<-b]
  cases vlo<;>cases vhi<;>rfl
 simp only [Xh,Oh,hB,Nh hn]
 rw [Ng (by omega)]
theorem Sl.same {α:Type} {H G:NA} {enc:α->List Value} {e:Nat} {p:Option Addr} {l:List α} (h:Sl H enc e p l) (d:∀a,p=Option.some a->l≠[]->NC G a.block=NC H a.block):Sl G enc e p l:=by
 cases p with
 | none=>exact h
 | some a=>
   refine ⟨h.1,fun hn=>?_⟩
   obtain ⟨ro,c,h2,b⟩:=h.2 hn
   exact ⟨ro,c,by rw [d a rfl hn];exact h2,b⟩
theorem OM.get' {H G:NA} (h:OM H G) {j:Nat} {b:Blk} (a:NC H j=b) (hl:j<H.length):NC G j=b:=by
 obtain ⟨X,rfl⟩:=h
 rw [NI hl];exact a
end Go.AM


namespace Go.AM.Srt
open Go.AM Go.AM.Sym Go.Sort
def ltC {α:Type} (c:α->α->Int) (x y:α):Bool:=decide (c x y<0)
class EncOk {α:Type} (enc:α->List Value) (k:outParam Nat):Prop where
 len:∀x,(enc x).length=k
 ok:∀x,∀v∈enc x,atom v=true/\v.oneCell'=true
 inj:∀x y,enc x=enc y->x=y
structure Cmp {α:Type} (E0:Env) (enc:α->List Value) (cl:FuncId) (cs:List Value) (c:α->α->Int):Prop where
 atoms:∀v∈cs,atom v=true
 fn:∃af,E0.tr cl=some af
 call:∀x y,NP E0 false 0 cl (.agg (enc x).toArray::.agg (enc y).toArray::cs) [] fun v _=>v=Vi (c x y)
 swo:SWO (ltC c)
section
variable {E0:Env} {α:Type} [Inhabited α] {enc:α->List Value} {k:Nat} [K:EncOk enc k] {cl:FuncId} {cs:List Value} {c:α->α->Int} {lim:Nat} {H:NA}
def sortN (c:α->α->Int) (l:List α):List α:=(pdq (ltC c) l.toArray 0 l.length (Lib.bitLen l.length) true true).toList
theorem sortN_ok (a:SWO (ltC c)) (l:List α):PermIn 0 l.length l.toArray (sortN c l).toArray/\SortedIn (ltC c) 0 l.length (sortN c l).toArray:=by
 have h:=pdq_sorts (ltC c) a l.toArray 0 l.length (Lib.bitLen l.length) true true (Nv _) (by simp) (Or.inl rfl)
 simpa [sortN] using h
theorem sortN_len (a:SWO (ltC c)) (l:List α):(sortN c l).length=l.length:=by simpa using (sortN_ok a l).1.1
def At (E0:Env) (enc:α->List Value) (xs:List Value) (H:NA) (x:Nat×List α×(α->α->Int)):Prop:=
 x.2.1≠[]/\x.2.1.length<4611686018427387904/\NC H x.1=Vc (x.2.1.flatMap enc)/\∃cap cl cs,xs=[.slice (Sa x.1) x.2.1.length cap,.func (.func cl) #[] (List.toArray cs)]/\Cmp E0 enc cl cs x.2.2
open Classical in
noncomputable def sortF (E0:Env) (enc:α->List Value) (xs:List Value) (H:NA):Option (Value×List (List Value)×Option (Nat×List Value)):=
 if h:∃x,At E0 enc xs H x then some (.tuple #[],[],some (h.choose.1,(sortN h.choose.2.2 h.choose.2.1).flatMap enc))
 else if ∃p cap f,xs=[.slice p 0 cap,f] then some (.tuple #[],[],none) else none
theorem Nl6 {α:Type} {enc:α->List Value} {k:Nat} (K:EncOk enc k):∀{l m:List α},l.length=m.length->l.flatMap enc=m.flatMap enc->l=m
 | [],[],_,_=>rfl
 | x::l,y::m,hl,h=>by
   rw [Om,Om] at h
   obtain ⟨h1,h2⟩:=List.append_inj h (by rw [K.len,K.len])
   rw [K.inj _ _ h1,Nl6 K (by simpa using hl) h2]
theorem Cmp.uniq {c':α->α->Int} (h:Cmp E0 enc cl cs c) (h':Cmp E0 enc cl cs c'):c=c':=by
 funext x y
 obtain ⟨n,L,a,b⟩:=h.call x y
 obtain ⟨n',d,b1,b2⟩:=h'.call x y
 have e1:=Uy E0 (P8 n n') _ _ _ _ _ _ a
 have e2:=Uy E0 (Pi n n') _ _ _ _ _ _ b1
 rw [e1] at e2;cases e2
 cases L with
 | nil=>exact absurd rfl (Nm3 E0 a)
 | cons r L=>
   have e1:=b.2 r (Nm)
   have e2:=b2.2 r (Nm)
   rw [e1] at e2;exact (Value.int.inj e2).2
variable {E:Env} {g:FuncId}
theorem sort_nil (hs:∀xs H,E.orc g xs=none/\E.eff g xs H=sortF E0 enc xs H) {p:Option Addr} {cap:Nat} {f:Value} {Q:Value->NA->Prop}:NP E false lim g [.slice p 0 cap,f] H Q=Q (.tuple #[]) H:=by
 have he:sortF E0 enc [.slice p 0 cap,f] H=some (.tuple #[],[],none):=by
  unfold sortF
  rw [dif_neg ?_,Nh ⟨p,cap,f,rfl⟩]
  rintro ⟨x,h0,_,_,d,cl,cs,e,_⟩
  have:x.2.1.length=0:=by
   have h:=(List.cons.inj e).1
   cases x with | mk a b=>cases b with | mk b c=>simp at h⊢;exact List.length_eq_zero_iff.1 h.2.1.symm
  exact h0 (List.length_eq_zero_iff.1 this)
 rw [Nbl (hs _ H).1 ((hs _ _).2.trans he) rfl]
 show Q _ (H++[])=_
 rw [Nc]
theorem sort_ok {k':Nat} [K':EncOk enc k'] (hs:∀xs H,E.orc g xs=none/\E.eff g xs H=sortF E0 enc xs H) (hc:Cmp E0 enc cl cs c) {B cap:Nat} {l:List α} (hB:NC H B=Vc (l.flatMap enc)) (hl:lim<=B) (hn:l.length<4611686018427387904) {Q:Value->NA->Prop} :
  NP E false lim g [.slice (Sa B) l.length cap,.func (.func cl) #[] cs.toArray] H Q=Q (.tuple #[]) (H.set B (Vc ((sortN c l).flatMap enc))):=by
 by_cases h0:l=[]
 ·subst h0
  have e:H.set B (Vc ((sortN c ([]:List α)).flatMap enc))=H:=by
   have:sortN c ([]:List α)=[]:=List.length_eq_zero_iff.1 (sortN_len hc.swo [])
   rw [this,<-hB]
   apply List.ext_getElem?
   intro i
   rw [N1]
   split
   ·rename_i e;subst e
    have hi:=QX hB rfl
    rw [Nh (List.getElem?_eq_some_iff.1 hi).1,hi,hB]
   ·rfl
  rw [e];exact sort_nil hs
 ·have hx:∃x,At E0 enc [.slice (Sa B) l.length cap,.func (.func cl) #[] cs.toArray] H x:=⟨(B,l,c),h0,hn,hB,cap,cl,cs,rfl,hc⟩
  have key:hx.choose.1=B/\hx.choose.2.1=l/\hx.choose.2.2=c:=by
   obtain ⟨m,n,b,a,d,cs',e,k⟩:=hx.choose_spec
   simp only [List.cons.injEq,Value.slice.injEq,Option.some.injEq,Addr.mk.injEq,Value.func.injEq,and_true,Rd] at e
   obtain ⟨⟨e1,e2,_⟩,e3,f⟩:=e
   cases e3
   have h:cs=cs':=by simpa using P3 Array.toList f
   subst h
   rw [<-e1,hB] at b
   injection b with _ q4
   exact ⟨e1.symm,(Nl6 K' e2 q4).symm,k.uniq hc⟩
  have he:sortF E0 enc [.slice (Sa B) l.length cap,.func (.func cl) #[] cs.toArray] H=some (.tuple #[],[],some (B,(sortN c l).flatMap enc)):=by
   unfold sortF
   rw [dif_pos hx,key.1,key.2.1,key.2.2]
  have j:XU lim H (some (B,(sortN c l).flatMap enc))=true:=by
   simp only [XU,hB,hl,decide_true,Bool.true_and,Ob]
   rw [PK K'.len,PK K'.len,sortN_len hc.swo]
  rw [Nbl (hs _ H).1 ((hs _ _).2.trans he) j]
  show Q _ (H.set B _++[])=_
  rw [Nc]
end
end Go.AM.Srt


namespace Go.Proofs.YtkppjkkkdpcgiaaGreat.Fn
open Go.AM Go.AM.Sym
class OA where
 on:FuncId->Bool
 eff:FuncId->List Value->NA->Option (Value×List (List Value))
 effN:∀g as H,g≠36->g≠27->eff g as H=none
 srt:FuncId->List Value->NA->Option (Value×List (List Value)×Option (Nat×List Value))
 srtN:∀g as H,g≠95->g≠142->g≠102->srt g as H=none
def effS [OA] (g:FuncId) (as:List Value) (H:NA):Option (Value×List (List Value)×Option (Nat×List Value)):=match OA.eff g as H with
 | some r=>some (r.1,r.2,none)
 | none=>OA.srt g as H
def orc [OA] (g:FuncId) (as:List Value):Option Value:=if (g=18)/\OA.on g=true/\as=[] then some (.bool true) else none
def E [OA]:Env:=⟨tr,pf,orc,true,effS⟩
def Ef [OA]:Env:=⟨tr,pf,orc,false,effS⟩
instance dtE [OA]:DT E E:=⟨rfl⟩
instance dtF [OA]:DT Ef E:=⟨rfl⟩
section
variable {mp:Bool} {lim:Nat} {g:FuncId} {as:List Value} {v:Value} {af:AFunc} {H:NA} {Q:Value->NA->Prop}
theorem pc [OA] (h:(g≠18/\g≠36/\g≠27/\g≠95/\g≠142/\g≠102)) (ht:tr g=some af) (hp:pf g=true) (a:flat 4 v=true) (hr:QC E af H.length [.code af.body] (NE as) (H++[]) fun v' _=>v'=v):NP E mp lim g as H Q=Q v H:=
 Nqv (E:=E) (by simp [E,effS,OA.effN,OA.srtN,orc,h]) ht hp a (NL hr)
theorem Rm [OA] (h:(g≠18/\g≠36/\g≠27/\g≠95/\g≠142/\g≠102)) (ht:tr g=some af) (hp:pf g=false) (hr:QC E af lim [.code af.body] (NE as) (H++[]) Q):NP E false lim g as H Q:=by
 rw [VF (E:=E) (by simp [E,effS,OA.effN,OA.srtN,orc,h]) ht hp rfl];exact NL hr
theorem Ngs [OA] (h:(g≠18/\g≠36/\g≠27/\g≠95/\g≠142/\g≠102)) (ht:tr g=some af) (hp:pf g=false) (hr:QC Ef af lim [.code af.body] (NE as) (H++[]) Q):NP Ef false lim g as H Q:=by
 rw [VF (E:=Ef) (by simp [Ef,effS,OA.effN,OA.srtN,orc,h]) ht hp rfl];exact NL hr
theorem Nq5 [OA] (h:g≠18/\g≠95/\g≠142/\g≠102) (ho:∀as H,OA.eff g as H=none) (ht:tr g=some af) (hp:pf g=false) (hr:QC Ef af lim [.code af.body] (NE as) (H++[]) Q):NP Ef false lim g as H Q:=by
 rw [VF (E:=Ef) (by simp [Ef,effS,OA.srtN,orc,h,ho]) ht hp rfl];exact NL hr
theorem NP.eqF [OA] (h:NP E mp lim g as H fun v' H1=>v'=v/\H1=H):NP Ef mp lim g as H Q=Q v H:=NP.eq (NP.weak (E:=Ef) h)
theorem NP.eqF' [OA] {H':NA} (h:NP E mp lim g as H fun v' H1=>v'=v/\H1=H'):NP Ef mp lim g as H Q=Q v H':=NP.eq (NP.weak (E:=Ef) h)
theorem NP.one [OA] (h:NP E mp lim g as H Q):∃n v H',Rl E n mp lim (.inl g) as H=some [(v,H')]/\Q v H':=by
 obtain ⟨n,L,h1,h2,a⟩:=h
 obtain ⟨⟨v,H'⟩,rfl⟩:=h2 rfl
 exact ⟨n,v,H',h1,a _ (Nl.mpr rfl)⟩
end
def encI (n:Int):List Value:=[Vi n]
theorem PQ (n:Int):(encI n).length=1:=id rfl
theorem PT {H:NA} {i:Nat} {es:List (Value×Value)} (h:NC H i=.map es):i<H.length:=by
 rcases Ou i H.length with h1 | h1
 ·exact h1
 ·unfold NC at h
  rw [Na,Nu h1] at h
  cases h
end Go.Proofs.YtkppjkkkdpcgiaaGreat.Fn


namespace Go.Proofs.YtkppjkkkdpcgiaaGreat.Fn
open Go.AM Go.AM.Sym Go.Net
section
variable {mp:Bool} {lim:Nat} {g:FuncId} {as:List Value} {v:Value} {af:AFunc} {H:NA} {Q:Value->NA->Prop}
end
def PO (l:Leg):List Value:=[Vi l.id,Vi l.frm,Vi l.dst,Vi l.dep,Vi l.mins,Vi l.cut,Vi l.grams,.int .u8 l.days]
theorem OL (l:Leg):(PO l).length=8:=id rfl
theorem Us {l:Leg}:(PO l)[0]? = some (Vi l.id):=id rfl
theorem Sr {l:Leg}:(PO l)[1]? = some (Vi l.frm):=id rfl
theorem Sq {l:Leg}:(PO l)[2]? = some (Vi l.dst):=id rfl
theorem Xz {l:Leg}:(PO l)[3]? = some (Vi l.dep):=id rfl
theorem Xy {l:Leg}:(PO l)[4]? = some (Vi l.mins):=id rfl
theorem VM {l:Leg}:(PO l)[5]? = some (Vi l.cut):=id rfl
theorem Nbd {l:Leg}:(PO l)[6]? = some (Vi l.grams):=id rfl
theorem ZO {l:Leg}:(PO l)[7]? = some (.int .u8 l.days):=id rfl
theorem Nl1 {α:Type} {X Y:List α} {k:Nat} {d:α}:(X++Y).getD (X.length+k) d=Y.getD k d:=by
 rw [Na,Na,Oc (by omega),Ri]
theorem Ud {α:Type} {X Y:List α} {d:α}:(X++Y).getD X.length d=Y.getD 0 d:=Nl1 (k:=0)
theorem UI {α:Type} {X Y:List α} {k:Nat} {b:α}:(X++Y).set (X.length+k) b=X++Y.set k b:=by
 rw [Qn _ _ (by omega),Ri]
theorem Mj {α:Type} {X Y:List α} {b:α}:(X++Y).set X.length b=X++Y.set 0 b:=UI (k:=0)
def By (l:Leg):Prop:=0<=l.days/\l.days<=255
theorem _root_.Go.Net.Fine.by {l:Leg} (h:Fine l):By l:=by unfold Fine at h;unfold By;omega
def enc3 (x:Int×Int×Int):List Value:=[Vi x.1,Vi x.2.1,Vi x.2.2]
theorem PD (x:Int×Int×Int):(enc3 x).length=3:=id rfl
def N2z (l:Leg):List (Int×Int×Int):=[(l.id,1,999999),(l.frm,1,999999),(l.dst,1,999999),(l.dep,0,1439),(l.mins,1,20160),(l.cut,0,10080),(l.grams,0,1000000000),(l.days,1,127)]
def inB (x:Int×Int×Int):Prop:=x.2.1<=x.1/\x.1<=x.2.2
theorem Nep {l:Leg}:Fine l↔(∀j,j<8->inB (gt (N2z l) j))/\l.frm≠l.dst:=by
 constructor
 ·intro h
  unfold Fine at h
  refine ⟨fun j a=>?_,by omega⟩
  match j,a with
  | 0,_=>show 1<=l.id/\l.id<=999999;omega
  | 1,_=>show 1<=l.frm/\l.frm<=999999;omega
  | 2,_=>show 1<=l.dst/\l.dst<=999999;omega
  | 3,_=>show 0<=l.dep/\l.dep<=1439;omega
  | 4,_=>show 1<=l.mins/\l.mins<=20160;omega
  | 5,_=>show 0<=l.cut/\l.cut<=10080;omega
  | 6,_=>show 0<=l.grams/\l.grams<=1000000000;omega
  | 7,_=>show 1<=l.days/\l.days<=127;omega
 ·rintro ⟨h,hn⟩
  have h0:1<=l.id/\l.id<=999999:=h 0 (by decide)
  have h1:1<=l.frm/\l.frm<=999999:=h 1 (by decide)
  have h2:1<=l.dst/\l.dst<=999999:=h 2 (by decide)
  have b:0<=l.dep/\l.dep<=1439:=h 3 (by decide)
  have c:1<=l.mins/\l.mins<=20160:=h 4 (by decide)
  have h5:0<=l.cut/\l.cut<=10080:=h 5 (by decide)
  have d:0<=l.grams/\l.grams<=1000000000:=h 6 (by decide)
  have e:1<=l.days/\l.days<=127:=h 7 (by decide)
  unfold Fine;omega
theorem Nds [OA] {mp:Bool} {lim:Nat} {l:Leg} {H:NA} {Q:Value->NA->Prop} (hd:By l):NP E mp lim 34 [.agg (PO l).toArray] H Q=Q (.bool (decide (Fine l))) H:=by
 refine pc (by decide) e34 rfl rfl ?_
 rw [b34,c34]
 have wd:IntKind.i64.wrap l.days=l.days:=NN (by unfold By at hd;omega) (by unfold By at hd;omega)
 simp only [n34,PO,wd,SB,seval,NJ,NE,place,NB]
 refine NZ (fun i=>8-i) (fun i fr G=>i<=8/\fr 1=Vp H.length/\fr 32=.agg ((N2z l).flatMap enc3).toArray/\fr 33=Vi i/\NC G H.length=Vc (PO l)/\∀j,j<i->inB (gt (N2z l) j)) 0
  ⟨Nv _,rfl,by rfl,by rfl,by rw [NQ];rfl,fun j o=>by omega⟩ ?_
 intro i fr G ⟨hi,g,d,b,e,a⟩ n
 have hl:=NG e
 rw [OD N4x.eq_1]
 refine NL ?_
 have k:=fun X=>(OM.refl.app (X:=X)).cells e
 by_cases c:i<8
 ·have f:IntKind.i64.wrap ((i:Int)+1)=((i+1:Nat):Int):=OV (by omega)
  have hd:=YT PD (N2z l) i c
  have m:(i:Int)<8:=by omega
  have h0:(0:Int)<=(i:Int):=by omega
  have hL:H.length<=G.length:=by omega
  simp only [n34,d,b,m,h0,hd,enc3,hL,SB,seval,NJ,NK,place,NB]
  repeat' ((first | refine WE (fun hw=>?_) (fun hw=>?_) | refine WW (fun hw=>?_) (fun hw=>?_) | refine WG (fun hw=>?_) (fun hw=>?_) | refine WX (fun hw=>?_) (fun hw=>?_))<;>(try simp only [hw,n34,r34,b,f,SB,Nat.reduceLT,NJ,Nat.reduceEqDiff,NK,ND]))
  ·rw [Oa]
   rw [Nep]
   intro h
   have:=(h.1 i c).1
   omega
  ·rw [Oa]
   rw [Nep]
   intro h
   have:=(h.1 i c).2
   omega
  ·refine n (i+1) _ _ ⟨by omega,g,d,rfl,(OM.refl.app).cells e,fun j o=>?_⟩ (by omega)
   rcases Ou j i with h | h
   ·exact a j h
   ·obtain rfl:j=i:=by omega
    unfold inB;omega
 ·obtain rfl:i=8:=by omega
  simp only [n34,r34,g,b,k,PO,SB,seval,NJ,NK,ND]
  congr 1
  rw [Rf]
  simp only [Ob,Nep]
  exact ⟨fun h=>⟨a,h⟩,fun h=>h.2⟩
def VX:Option (Int×Int)->Value
 | some (a,b)=>.tuple #[.agg #[Vi a,Vi b],.bool true]
 | none=>.tuple #[.agg #[Vi 0,Vi 0],.bool false]
theorem Nbe {x:Option (Int×Int)}:flat 4 (VX x)=true:=by cases x<;>rfl
def MW (l:Leg) (d:Nat):Option (Int×Int):=if goes l d then some (1440*(d:Int)+l.dep,1440*(d:Int)+l.dep+l.mins) else none
theorem N63 {a:Int} {k:Nat} (h0:0<=a) (h1:a<=255) (hk:k<7) :
  IntKind.u8.wrap ((BitVec.ofInt 8 (a.fdiv (2 ^ (min k 8))) &&& BitVec.ofInt 8 1).toNat:Int)=((a.toNat / 2 ^ k % 2:Nat):Int):=by
 obtain ⟨n,rfl⟩:∃n:Nat,a=(n:Int):=⟨a.toNat,by omega⟩
 rw [P7 (by omega),N7]
 have e:((n:Int).fdiv (2 ^ k))=((n / 2 ^ k:Nat):Int):=by
  rw [show ((2:Int) ^ k)=((2 ^ k:Nat):Int) by simp,Rg _ (Int.natCast_nonneg _)]
  rfl
 rw [e,BitVec.ofInt_natCast,BitVec.toNat_and]
 have hl:n / 2 ^ k<256:=Nat.lt_of_le_of_lt (Nat.div_le_self _ _) (by omega)
 have e1:(BitVec.ofInt 8 1).toNat=1:=rfl
 rw [e1,BitVec.toNat_ofNat,Nat.mod_eq_of_lt hl,Nat.and_one_is_mod]
 simp only [IntKind.wrap,IntKind.bits,IntKind.signed]
 simp;omega
theorem Ni6 [OA] {mp:Bool} {lim:Nat} {l:Leg} {d:Nat} {H:NA} {Q:Value->NA->Prop} (hl:Fine l) (hd:d<V8):NP E mp lim 135 [.agg (PO l).toArray,Vi d] H Q=Q (VX (MW l d)) H:=by
 refine pc (by decide) N9j rfl Nbe ?_
 rw [Oag,N6o]
 rw [YW] at hd
 have g:=hl.by
 unfold By at g
 have i:Int.tmod (d:Int) 7=((d % 7:Nat):Int):=rfl
 have f:¬(((d % 7:Nat):Int)<0):=by omega
 have c:=N63 (a:=l.days) (k:=d % 7) g.1 g.2 (by omega)
 have j:=hl
 unfold Fine at j
 have m:IntKind.i64.wrap (1440*(d:Int))=1440*(d:Int):=NN (by omega) (by omega)
 have n:IntKind.i64.wrap (1440*(d:Int)+l.dep)=1440*(d:Int)+l.dep:=NN (by omega) (by omega)
 have o:IntKind.i64.wrap (1440*(d:Int)+l.dep-l.cut)=1440*(d:Int)+l.dep-l.cut:=NN (by omega) (by omega)
 have q:IntKind.i64.wrap (1440*(d:Int)+l.dep+l.mins)=1440*(d:Int)+l.dep+l.mins:=NN (by omega) (by omega)
 have hr:runs l.days d=(l.days.toNat / 2 ^ (d % 7) % 2 == 1):=rfl
 have h:l.days.toNat / 2 ^ (d % 7) % 2<2:=Pr _ (by decide)
 generalize l.days.toNat / 2 ^ (d % 7) % 2=b at c hr h
 change IntKind.u8.wrap ((BitVec.ofInt (IntKind.bits .u8) (l.days.fdiv (2 ^ (min (d % 7) (IntKind.bits .u8)))) &&& BitVec.ofInt (IntKind.bits .u8) 1).toNat:Int)=((b:Nat):Int) at c
 have e:goes l d=((b == 1)&&decide (0<=1440*(d:Int)+l.dep-l.cut)&&decide (1440*(d:Int)+l.dep+l.mins<=1051898399)):=by unfold goes NT;rw [hr]
 simp only [n135,Xz,ZO,i,f,c,m,n,SB,seval,NJ,NK,NE,place,NB]
 repeat' ((first | refine WE (fun hw=>?_) (fun hw=>?_) | refine WW (fun hw=>?_) (fun hw=>?_) | refine WG (fun hw=>?_) (fun hw=>?_) | refine WX (fun hw=>?_) (fun hw=>?_))<;>(try simp only [hw,n135,N8y,Xy,VM,o,q,SB,Nat.reduceLT,NJ,Nat.reduceEqDiff,NK,NB,Nat.reduceAdd,ND]))
 ·obtain rfl:b=0:=by omega
  rw [MW,e];rfl
 ·obtain rfl:b=1:=by omega
  rw [MW,e,Oa (by omega)];rfl
 ·obtain rfl:b=1:=by omega
  rw [MW,e,Oa (p:=_<=(1051898399:Int)) (by omega),Bool.and_false];rfl
 ·obtain rfl:b=1:=by omega
  rw [MW,e,Ns (p:=_<=(1051898399:Int)) (by omega),Ns (by omega)];rfl
theorem Nx3 {a b:Int}:Rq true (Vi a) [Vi b]=some (Vi (max a b)):=by
 simp only [Rq,Wq,if_true]
 congr 2
 split<;>omega
theorem Nrb {a b:Int}:Rq false (Vi a) [Vi b]=some (Vi (min a b)):=by
 simp only [Rq,Wq,if_true]
 simp only [Nz,if_false]
 congr 2
 split<;>omega
theorem Wu {fr:Nat->Value} {p:Nat} {v:Value}:SK fr [p] [v]=upd fr p v:=rfl
def Pre (l:Leg) (r e s a b:Int) (ok:Bool) (x:LoopB):List Blk:=[Vc (PO l),Vc [Vi r],Vc [Vi a,Vi b],Vc [.bool ok],Vc (PO l),Vc [Vi e],Vc [Vi s],.dfr,.loop x]
theorem Nhn [OA] {H X:NA} {l:Leg} {r s e:Int} {lp:LoopB} {Q:Value->NA->Prop} (J:Int->Prop) (F:NA->Prop) (hl:Fine l) (hs:s=1\/s=-1)
  (c:∀e X,0<=e->e<=730484->goes l e.toNat=true->J e->Ws E false H.length (H.length+8) [.agg #[Vi (1440*e+l.dep),Vi (1440*e+l.dep+l.mins)]] (H++(Pre l r e s 0 0 false lp++X)) fun v H'=>(v=.bool true/\J (e+s)/\∃u,H'=H++(Pre l r e s 0 0 false lp++u))\/(v=.bool false/\F H'))
  (i:∀e,0<=e->e<=730484->goes l e.toNat=false->J e->J (e+s))
  (f:∀e X,J e->¬(0<=e/\e<=730484)->Q (.tuple #[]) (H++(Pre l r e s 0 0 false lp++X)))
  (y:∀H',F H'->Q (.tuple #[]) H') (h0:J e) (he:-2<=e/\e<=2 ^ 40) :
  NP E false H.length 134 [.func (.yield (H.length+8)) #[] #[],Vp (H.length+5),Vp (H.length+6),Vp (H.length+4)] (H++(Pre l r e s 0 0 false lp++X)) Q:=by
 rw [VF (E:=E) (by simp [E,effS,OA.effN,OA.srtN,orc]) (show E.tr 134=some Nvq from N9k) rfl rfl,Oah,N6p]
 simp only [SB,seval]
 refine NZ (fun e:Int=>if s=1 then (730485-e).toNat else (e+1).toNat) (fun e fr G=>J e/\-2<=e/\e<=2 ^ 40/\fr 0=.func (.yield (H.length+8)) #[] #[]/\fr 1=Vp (H.length+5)/\fr 2=Vp (H.length+6)/\fr 3=Vp (H.length+4)/\∃X,G=H++(Pre l r e s 0 0 false lp++X)) e
  ⟨h0,he.1,he.2,rfl,rfl,rfl,rfl,X,rfl⟩ ?_
 rintro e fr G ⟨n,b1,b2,o,g,k,m,X,rfl⟩ w
 rw [OD Nyl.eq_1]
 have x:IntKind.i64.wrap (e+s)=e+s:=NN (by omega) (by omega)
 by_cases h1:0<=e
 ·by_cases h2:e<=730484
  ·obtain ⟨d,rfl⟩:∃d:Nat,e=(d:Int):=⟨e.toNat,by omega⟩
   have a:=fun (H:NA) (mp:Bool) (lim:Nat) (Q:Value->NA->Prop)=>Ni6 (mp:=mp) (lim:=lim) (H:=H) (Q:=Q) (l:=l) (d:=d) hl (by rw [YW];omega)
   have b:∀j:Int,j=(d:Int)+s->(if s=1 then (730485-j).toNat else (j+1).toNat)<(if s=1 then (730485-(d:Int)).toNat else ((d:Int)+1).toNat):=by
    intro j h;subst h
    rcases hs with rfl | rfl
    ·simp;omega
    ·simp;omega
   cases hg:goes l d with
   | false=>
     have q:MW l d=none:=by unfold MW;rw [hg];rfl
     rw [q] at a
     simp only [VX] at a
     simp only [n134,g,k,m,h1,h2,Pre,a,OL,NM,Ud,UI,Mj,x,SB,seval,NF,NJ,NK,place,NB]
     exact w ((d:Int)+s) _ _ ⟨i _ h1 h2 (by simpa using hg) n,by omega,by omega,o,g,k,m,_,rfl⟩ (b _ rfl)
   | true=>
     have t:MW l d=some (1440*(d:Int)+l.dep,1440*(d:Int)+l.dep+l.mins):=by unfold MW;rw [hg];rfl
     rw [t] at a
     simp only [VX] at a
     simp only [n134,o,g,m,h1,h2,Pre,a,OL,NM,Ud,UI,Mj,SB,seval,NF,NJ,NK,reduceCtorEq,place,NB]
     refine (c _ _ h1 h2 (by simpa using hg) n).mono fun v H' hv=>?_
     rcases hv with ⟨rfl,p,u,rfl⟩ | ⟨rfl,z⟩
     ·simp only [n134,g,k,Pre,UI,x,SB,seval,NJ,NK,QY,NB]
      exact w ((d:Int)+s) _ _ ⟨p,by omega,by omega,o,g,k,m,_,rfl⟩ (b _ rfl)
     ·refine NL ?_
      simp only [n134,N5f,SB,seval,NJ,QY]
      rw [Nc]
      exact y _ z
  ·simp only [n134,N5f,g,h1,h2,Pre,SB,seval,NJ,NK]
   exact f e X n (by omega)
 ·simp only [n134,N5f,g,h1,Pre,SB,seval,NJ,NK]
  exact f e X n (by omega)
theorem Zt [OA] {lim:Nat} {l:Leg} {e s:Int} {H:NA} {Q:Value->NA->Prop}:NP E false lim 105 [.agg (PO l).toArray,Vi e,Vi s] H Q=Q (.func (.func 134) #[] #[Vp (H.length+1),Vp (H.length+2),Vp H.length]) (H++[Vc (PO l),Vc [Vi e],Vc [Vi s]]):=by
 rw [VF (E:=E) (by simp [E,effS,OA.effN,OA.srtN,orc]) (show E.tr 105=some a105 from N9y) rfl rfl,Oaw,c105]
 rw [<-Nc H]
 simp only [n105,N83,SB,seval,NJ,NE,place,NB,ND]
theorem Ntp {l:Leg} {r:Int}:RJ l r=RJ l (max r 0):=by
 unfold RJ YN
 congr 2
 funext d
 cases hg:goes l d with
 | false=>rfl
 | true=>
   simp only [Bool.true_and]
   unfold goes at hg
   simp only [Nx,Ob] at hg
   rw [decide_eq_decide]
   omega
theorem Noy {l:Leg} {r:Int} (hl:Fine l) (h:NT<r):RJ l r=none:=by
 cases hx:RJ l r with
 | none=>rfl
 | some a=>
   obtain ⟨⟨d,_,b,rfl⟩,h2,_⟩:=Sg hx
   unfold goes at b
   simp only [Nx,Ob] at b
   unfold Fine at hl
   omega
theorem Nk8 {l:Leg} {r:Int} {d:Nat} (hd:d<V8) (c:goes l d=true) (hr:r<=1440*(d:Int)+l.dep-l.cut) (b:∀a:Nat,a<d->¬(goes l a=true/\r<=1440*(a:Int)+l.dep-l.cut)):RJ l r=some (1440*(d:Int)+l.dep):=by
 unfold RJ YN
 have:(List.range V8).find? (fun (d:Nat)=>goes l d&&decide (r<=1440*(d:Int)+l.dep-l.cut))=some d:=by
  rw [find_range]
  refine ⟨by simp [c,hr],hd,fun j e=>?_⟩
  have:=b j e
  simp only [Bool.and_eq_false_iff,decide_eq_false_iff_not]
  cases hgj:goes l j with
  | false=>exact .inl rfl
  | true=>exact .inr fun h=>this ⟨hgj,h⟩
 rw [this];rfl
theorem Nxz {l:Leg} {r:Int} (b:∀a:Nat,a<V8->¬(goes l a=true/\r<=1440*(a:Int)+l.dep-l.cut)):RJ l r=none:=by
 unfold RJ YN
 rw [Option.map_eq_none_iff,Vj]
 intro j c
 have:=b j c
 simp only [Bool.and_eq_false_iff,decide_eq_false_iff_not]
 cases hgj:goes l j with
 | false=>exact .inl rfl
 | true=>exact .inr fun h=>this ⟨hgj,h⟩
theorem Nxy [OA] {H:NA} {l:Leg} {r e:Int} {fr0:Nat->Value} {K':List AItem} (hl:Fine l) (q:0<=r) (k:r<=NT) (he:e=(r+l.cut) / 1440) (f2:fr0 2=Vp H.length) (f3:fr0 3=Vp (H.length+1)) (f4:fr0 4=Vp (H.length+2)) (f5:fr0 5=Vp (H.length+3))
  (hm:marks (K'++[.mark (H.length+7)])=[H.length+7])
  (f:∀(e:Int) (X:NA),QC E a68 H.length (K'++[.mark (H.length+7)]) fr0 (H++[Vc (PO l),Vc [Vi r],Vc [Vi 0,Vi 0],Vc [.bool false],Vc (PO l),Vc [Vi e],Vc [Vi 1],.dfr,.dead]++X) fun v' _=>v'=VX none) :
  NP E false H.length 134 [.func (.yield (H.length+8)) #[] #[],Vp (H.length+5),Vp (H.length+6),Vp (H.length+4)] (H++(Pre l r e 1 0 0 false ⟨0,none,fr0,36,[26],Nen,Nem⟩++[])) fun _ m=>
   XQ (NC m (H.length+7+1)) fun x=>QC E a68 H.length (Yh x++(K'++[.mark (H.length+7)])) fr0 (m.set (H.length+7+1) .dead) fun v' _=>v'=VX ((RJ l r).map fun a=>(a,a+l.mins)):=by
 have o:=hl
 unfold Fine at o
 unfold NT at k
 refine Nhn (fun e=>0<=e/\∀d:Nat,(d:Int)<e->¬(goes l d=true/\r<=1440*(d:Int)+l.dep-l.cut))
  (fun G=>∃(X:NA) (e a:Int),RJ l r=some a/\G=H++(Pre l r e 1 a (a+l.mins) true ⟨2,some .retM,fr0,36,[26],Nen,Nem⟩++X)) hl (.inl rfl) ?_ ?_ ?_ ?_ ⟨by omega,fun d hd h=>by omega⟩ ⟨by omega,by omega⟩
 ·rintro e X h1 h2 j ⟨_,g⟩
  obtain ⟨d,rfl⟩:∃d:Nat,e=(d:Int):=⟨e.toNat,by omega⟩
  rw [N7] at j
  rw [Xb (x:=⟨0,none,fr0,36,[26],Nen,Nem⟩) (by rw [NR];rfl) (by omega) rfl rfl,Wu]
  rw [OD Nen.eq_1]
  have hle:H.length<=H.length+8:=by omega
  simp only [Pre,Ud,UI,Mj,hle,SB,seval,NJ,place,NB]
  rw [OD Nem.eq_1]
  have n:IntKind.i64.wrap (1440*(d:Int)+l.dep-l.cut)=1440*(d:Int)+l.dep-l.cut:=NN (by omega) (by omega)
  by_cases h:r<=1440*(d:Int)+l.dep-l.cut
  ·simp only [f2,f3,f4,f5,VM,Ud,UI,hle,n,h,SB,seval,NJ,NK,NB]
   exact .inr ⟨_,(d:Int),_,Nk8 (by rw [YW];omega) j h (fun b c=>g b (by omega)),rfl⟩
  ·simp only [f2,f3,VM,Ud,UI,hle,n,h,SB,seval,NJ,NK]
   refine .inl ⟨⟨by omega,fun b c i=>?_⟩,_,rfl⟩
   rcases Int.lt_or_le (b:Int) (d:Int) with h3 | h3
   ·exact g b h3 i
   ·obtain rfl:b=d:=by omega
    exact h i.2
 ·rintro e h1 h2 j ⟨_,g⟩
  refine ⟨by omega,fun b c i=>?_⟩
  rcases Int.lt_or_le (b:Int) e with h3 | h3
  ·exact g b h3 i
  ·obtain rfl:b=e.toNat:=by omega
   rw [j] at i;simp at i
 ·rintro e X ⟨_,g⟩ p
  have hn:RJ l r=none:=Nxz fun b c=>by rw [YW] at c;exact g b (by omega)
  rw [hn]
  simp only [Pre,SB,seval]
  have:=f e X
  simp only [Nq,O5,On] at this
  exact this
 ·rintro G ⟨X,e,a,hn,rfl⟩
  rw [hn]
  show XQ _ _
  have hle:H.length<=H.length+7:=by omega
  simp only [Pre,Nr,SB,seval]
  show QC E a68 H.length (.code .retM::(K'++[.mark (H.length+7)])) fr0 _ _
  simp only [hm,f4,f5,r68,hle,VX,SB,seval,ND]
theorem Nq9 [OA] {mp:Bool} {lim:Nat} {l:Leg} {r:Int} {H:NA} {Q:Value->NA->Prop} (hl:Fine l) (hr:-2 ^ 63<=r) (k:r<2 ^ 63):NP E mp lim 68 [.agg (PO l).toArray,Vi r] H Q=Q (VX ((RJ l r).map fun a=>(a,a+l.mins))) H:=by
 refine pc (by decide) e68 rfl Nbe ?_
 rw [b68,c68]
 have j:=hl
 unfold Fine at j
 have h:=fun (H:NA) (mp:Bool) (lim:Nat) (Q:Value->NA->Prop)=>Nds (mp:=mp) (lim:=lim) (H:=H) (Q:=Q) hl.by
 rw [Ns hl] at h
 by_cases hm:NT<r
 ·rw [Noy hl hm]
  unfold NT at hm
  simp only [n68,r68,h,OL,NM,hm,Oh,VX,SB,seval,NF,NJ,NK,QY,NE,place,NB,ND]
 ·rw [Ntp]
  unfold NT at hm
  have m:IntKind.i64.wrap (max r 0+l.cut)=max r 0+l.cut:=NN (by omega) (by omega)
  have n:IntKind.i64.wrap (Int.tdiv (max r 0+l.cut) 1440)=(max r 0+l.cut) / 1440:=by
   rw [P4 (by omega)]
   exact NN (by omega) (by omega)
  have i:∀a b c d e f g:Blk,(H++[a,b,c,d,e,f,g]).length=H.length+7:=by intros;simp
  simp only [n68,h,OL,VM,NM,hm,Nx3,m,n,Zt,SB,seval,NF,NJ,NK,QY,NE,place,NB]
  rw [i]
  refine Nxy hl (by omega) (by unfold NT;omega) rfl rfl rfl rfl rfl rfl fun e X=>?_
  have hle:H.length<=H.length+7:=by omega
  show QC E a68 H.length (.inBlock 0::.code _::.code .retM::.mark (H.length+7)::[]) _ _ _
  simp only [n68,r68,hle,VX,SB,seval,NJ,NB,ND]
theorem Nt0 {l:Leg} {b:Int}:Sw l b=Sw l (min b NT):=by
 unfold Sw Ncu
 congr 3
 funext d
 cases hg:goes l (V8-1-d) with
 | false=>rfl
 | true=>
   simp only [Bool.true_and]
   unfold goes at hg
   simp only [Nx,Ob] at hg
   rw [decide_eq_decide]
   omega
theorem Nyb {l:Leg} {b:Int} {d:Nat} (hd:d<V8) (g:goes l d=true) (f:1440*(d:Int)+l.dep+l.mins<=b) (e:∀c:Nat,d<c->c<V8->¬(goes l c=true/\1440*(c:Int)+l.dep+l.mins<=b)):Sw l b=some (1440*(d:Int)+l.dep):=by
 cases hx:Sw l b with
 | none=>exact absurd f (by have:=Nd9 hx _ ⟨d,hd,g,rfl⟩;omega)
 | some a=>
   obtain ⟨⟨c,h1,h2,rfl⟩,i,j⟩:=Tc hx
   have:=j _ ⟨d,hd,g,rfl⟩ f
   rcases Ou d c with h | h
   ·exact absurd ⟨h2,i⟩ (e c h h1)
   ·rw [show c=d by omega]
theorem Nls {l:Leg} {b:Int} (d:∀c:Nat,c<V8->¬(goes l c=true/\1440*(c:Int)+l.dep+l.mins<=b)):Sw l b=none:=by
 cases hx:Sw l b with
 | none=>rfl
 | some a=>
   obtain ⟨⟨c,h1,h2,rfl⟩,e,f⟩:=Tc hx
   exact absurd ⟨h2,e⟩ (d c h1)
theorem Nya [OA] {H:NA} {l:Leg} {r e:Int} {fr0:Nat->Value} {K':List AItem} (hl:Fine l) (p:l.dep+l.mins<=r) (k:r<=NT) (he:e=(r-l.mins) / 1440) (f2:fr0 2=Vp H.length) (f3:fr0 3=Vp (H.length+1)) (f4:fr0 4=Vp (H.length+2)) (f5:fr0 5=Vp (H.length+3))
  (hm:marks (K'++[.mark (H.length+7)])=[H.length+7])
  (f:∀(e:Int) (X:NA),QC E Njj H.length (K'++[.mark (H.length+7)]) fr0 (H++[Vc (PO l),Vc [Vi r],Vc [Vi 0,Vi 0],Vc [.bool false],Vc (PO l),Vc [Vi e],Vc [Vi (-1)],.dfr,.dead]++X) fun v' _=>v'=VX none) :
  NP E false H.length 134 [.func (.yield (H.length+8)) #[] #[],Vp (H.length+5),Vp (H.length+6),Vp (H.length+4)] (H++(Pre l r e (-1) 0 0 false ⟨0,none,fr0,38,[31],MJ,MI⟩++[])) fun _ m=>
   XQ (NC m (H.length+7+1)) fun x=>QC E Njj H.length (Yh x++(K'++[.mark (H.length+7)])) fr0 (m.set (H.length+7+1) .dead) fun v' _=>v'=VX ((Sw l r).map fun a=>(a,a+l.mins)):=by
 have n:=hl
 unfold Fine at n
 unfold NT at k
 refine Nhn (fun e=>e<=730484/\∀d:Nat,e<(d:Int)->¬(goes l d=true/\1440*(d:Int)+l.dep+l.mins<=r))
  (fun G=>∃(X:NA) (e a:Int),Sw l r=some a/\G=H++(Pre l r e (-1) a (a+l.mins) true ⟨2,some .retM,fr0,38,[31],MJ,MI⟩++X)) hl (.inr rfl) ?_ ?_ ?_ ?_ ⟨by omega,fun d hd h=>by omega⟩ ⟨by omega,by omega⟩
 ·rintro e X h1 h2 j ⟨_,g⟩
  obtain ⟨d,rfl⟩:∃d:Nat,e=(d:Int):=⟨e.toNat,by omega⟩
  rw [N7] at j
  rw [Xb (x:=⟨0,none,fr0,38,[31],MJ,MI⟩) (by rw [NR];rfl) (by omega) rfl rfl,Wu]
  rw [OD MJ.eq_1]
  have hle:H.length<=H.length+8:=by omega
  simp only [Pre,Ud,UI,Mj,hle,SB,seval,NJ,place,NB]
  rw [OD MI.eq_1]
  by_cases h:1440*(d:Int)+l.dep+l.mins<=r
  ·simp only [f3,f4,f5,Ud,UI,hle,h,SB,seval,NJ,NK,NB]
   exact .inr ⟨_,(d:Int),_,Nyb (by rw [YW];omega) j h (fun b c _=>g b (by omega)),rfl⟩
  ·simp only [f3,Ud,UI,hle,h,SB,seval,NJ,NK]
   refine .inl ⟨⟨by omega,fun b c i=>?_⟩,_,rfl⟩
   rcases Int.lt_or_le (d:Int) (b:Int) with h3 | h3
   ·exact g b h3 i
   ·obtain rfl:b=d:=by omega
    exact h i.2
 ·rintro e h1 h2 j ⟨_,g⟩
  refine ⟨by omega,fun b c i=>?_⟩
  rcases Int.lt_or_le e (b:Int) with h3 | h3
  ·exact g b h3 i
  ·obtain rfl:b=e.toNat:=by omega
   rw [j] at i;simp at i
 ·rintro e X ⟨hle,g⟩ o
  have hn:Sw l r=none:=Nls fun b c=>g b (by omega)
  rw [hn]
  simp only [Pre,SB,seval]
  have:=f e X
  simp only [Nq,O5,On] at this
  exact this
 ·rintro G ⟨X,e,a,hn,rfl⟩
  rw [hn]
  show XQ _ _
  have hle:H.length<=H.length+7:=by omega
  simp only [Pre,Nr,SB,seval]
  show QC E Njj H.length (.code .retM::(K'++[.mark (H.length+7)])) fr0 _ _
  simp only [hm,f4,f5,N5j,hle,VX,SB,seval,ND]
theorem N21 [OA] {mp:Bool} {lim:Nat} {l:Leg} {r:Int} {H:NA} {Q:Value->NA->Prop} (hl:Fine l) (hr:-2 ^ 63<=r) (n:r<2 ^ 63):NP E mp lim 100 [.agg (PO l).toArray,Vi r] H Q=Q (VX ((Sw l r).map fun a=>(a,a+l.mins))) H:=by
 refine pc (by decide) N92 rfl Nbe ?_
 rw [Oa0,N62]
 have k:=hl
 unfold Fine at k
 have h:=fun (H:NA) (mp:Bool) (lim:Nat) (Q:Value->NA->Prop)=>Nds (mp:=mp) (lim:=lim) (H:=H) (Q:=Q) hl.by
 rw [Ns hl] at h
 have j:IntKind.i64.wrap (l.dep+l.mins)=l.dep+l.mins:=NN (by omega) (by omega)
 by_cases hm:r<l.dep+l.mins
 ·have:Sw l r=none:=Nls fun q m s=>by omega
  rw [this]
  simp only [n100,N5j,h,OL,Xz,Xy,NM,hm,j,Oh,VX,SB,seval,NF,NJ,NK,QY,NE,place,NB,ND]
 ·rw [Nt0]
  unfold NT
  have o:IntKind.i64.wrap (min r 1051898399-l.mins)=min r 1051898399-l.mins:=NN (by omega) (by omega)
  have p:IntKind.i64.wrap (Int.tdiv (min r 1051898399-l.mins) 1440)=(min r 1051898399-l.mins) / 1440:=by
   rw [P4 (by omega)]
   exact NN (by omega) (by omega)
  have i:∀a b c d e f g:Blk,(H++[a,b,c,d,e,f,g]).length=H.length+7:=by intros;simp
  simp only [n100,h,OL,Xz,Xy,NM,hm,j,Nrb,o,p,Zt,SB,seval,NF,NJ,NK,QY,NE,place,NB]
  rw [i]
  refine Nya hl (by omega) (by unfold NT;omega) rfl rfl rfl rfl rfl rfl fun e X=>?_
  have hle:H.length<=H.length+7:=by omega
  show QC E Njj H.length (.inBlock 0::.code _::.code .retM::.mark (H.length+7)::[]) _ _ _
  simp only [n100,N5j,hle,VX,SB,seval,NJ,NB,ND]
def RX (pp:Option Addr) (np cp:Nat) (pl:Option Addr) (nl cl:Nat):List Value:=[.slice pp np cp,.slice pl nl cl]
theorem PW {pp pl:Option Addr} {np cp nl cl:Nat}:(RX pp np cp pl nl cl).length=2:=id rfl
theorem UB {pp pl:Option Addr} {np cp nl cl:Nat}:(RX pp np cp pl nl cl)[0]? = some (.slice pp np cp):=id rfl
theorem TR {pp pl:Option Addr} {np cp nl cl:Nat}:(RX pp np cp pl nl cl)[1]? = some (.slice pl nl cl):=id rfl
structure NetIn (H:NA) (pp pl:Option Addr) (P:List Int) (L:List Leg):Prop where
 sp:Sl H encI 1 pp P
 sl:Sl H PO 8 pl L
 np:P.length<2 ^ 63
 nl:L.length<2 ^ 63
 bys:∀l∈L,By l
theorem NetIn.app {H:NA} {pp pl:Option Addr} {P:List Int} {L:List Leg} (h:NetIn H pp pl P L) (X:NA):NetIn (H++X) pp pl P L:=⟨h.sp.app X,h.sl.app X,h.np,h.nl,h.bys⟩
theorem NetIn.ext {H G:NA} {pp pl:Option Addr} {P:List Int} {L:List Leg} (h:NetIn H pp pl P L) (e:OM H G):NetIn G pp pl P L:=⟨e.sl h.sp,e.sl h.sl,h.np,h.nl,h.bys⟩
def TS (ks:List Int):List (Value×Value):=ks.map fun k=>(Vi k,.bool true)
theorem Niq {ks:List Int} {a:Int} {i:Nat} (h:a∉ks):findKey (Vi a) (TS ks) i=some none:=by
 unfold TS
 exact Xv (f:=fun k:Int=>k) (g:=fun _=>.bool true) fun x hx e=>h (e▸hx)
theorem Nct {ks:List Int} {a:Int} {i:Nat} (h:a∈ks):∃j,findKey (Vi a) (TS ks) i=some (some (j,.bool true)):=by
 unfold TS
 exact Yw (f:=fun k:Int=>k) (g:=fun _=>.bool true) ⟨a,h,rfl⟩ fun _ _ _=>rfl
theorem Nrc {ks:List Int} {a:Int}:TS ks++[(Vi a,.bool true)]=TS (ks++[a]):=by simp [TS]
def pOk (P:List Int) (i:Nat):Prop:=1<=gt P i/\gt P i<=999999/\gt P i∉P.take i
instance (P:List Int) (i:Nat):Decidable (pOk P i):=by unfold pOk;infer_instance
def TC (P:List Int):Prop:=∀i,i<P.length->pOk P i
instance (P:List Int):Decidable (TC P):=by unfold TC;infer_instance
def lOk (P:List Int) (L:List Leg) (i:Nat):Prop:=Fine (gt L i)/\(gt L i).id∉(L.take i).map (·.id)/\(gt L i).frm∈P/\(gt L i).dst∈P
instance (P:List Int) (L:List Leg) (i:Nat):Decidable (lOk P L i):=by unfold lOk;infer_instance
def VU (P:List Int) (L:List Leg):Prop:=∀i,i<L.length->lOk P L i
instance (P:List Int) (L:List Leg):Decidable (VU P L):=by unfold VU;infer_instance
def QP (P:List Int) (L:List Leg):Int:=if 50<P.length\/200<L.length then 5 else if ¬TC P then 320 else if ¬VU P L then 321 else 0
theorem Nnh [OA] {H G:NA} {pp pl:Option Addr} {P:List Int} {L:List Leg} {cp cl R:Nat} {fr:Nat->Value} {K:List AItem} {v:Value} (hn:NetIn G pp pl P L) (aa:NC G R=Vc (RX pp P.length cp pl L.length cl))
  (hm:NC G (R+1)=.map (TS P)) (hR:H.length<=R) (f1:fr 1=Vp R) (f3:fr 3=.map (some (R+1))) (Y:fr 6=.map (some G.length)) (N:fr 49=.slice pl L.length cl) (O:fr 50=Vi L.length) (S:fr 51=Vi 0)
  (C:¬VU P L->v=Vi 321)
  (T:∀fr' G',VU P L->QC E a12 H.length K fr' (G'++[]) fun v' _=>v'=v) :
  QC E a12 H.length (.code (.loop Nym)::.inBlock 2::K) fr (G++[.map []]) fun v' _=>v'=v:=by
 have V:=PT hm
 refine NZ (fun i=>L.length-i) (fun i fr G'=>i<=L.length/\fr 3=.map (some (R+1))/\fr 6=.map (some G.length)/\fr 49=.slice pl L.length cl/\fr 50=Vi L.length/\fr 51=Vi i/\
  G.length<G'.length/\Sl G' PO 8 pl L/\NC G' (R+1)=.map (TS P)/\NC G' G.length=.map (TS ((L.take i).map (·.id)))/\∀j,j<i->lOk P L j) 0
  ⟨Nv _,f3,Y,N,O,S,by simp,hn.sl.app _,by rw [NI V];exact hm,NQ,fun j x=>by omega⟩ ?_
 intro i fr G' ⟨hi,I,B,m,f,n,hL,A,u,F,w⟩ hN
 rw [OD Nym.eq_1]
 refine NL ?_
 by_cases a:i<L.length
 ·have Z:=Nat.le_of_lt hL
  have U:=hn.bys _ (QJ a)
  have z:∀X,NC (G'++X) (R+1)=.map (TS P):=fun X=>by rw [NI (PT u)];exact u
  have t:∀X,NC (G'++X) G.length=.map (TS ((L.take i).map (·.id))):=fun X=>by rw [NI hL];exact F
  have o:=fun X=>(A.app X).loadCells OL a
  have d:=fun c (k:IntKind) (H1:NA)=>A.idx (c:=c) (k:=k) (H1:=H1) a
  have W:IntKind.i64.wrap ((i:Int)+1)=((i+1:Nat):Int):=OV (by have:=hn.nl;omega)
  have D:H.length<=G.length:=by omega
  have e:H.length<=G'.length:=by omega
  have g:=fun (H:NA) (mp:Bool) (lim:Nat) (Q:Value->NA->Prop)=>Nds (mp:=mp) (lim:=lim) (H:=H) (Q:=Q) U
  have p:¬lOk P L i->v=Vi 321:=fun h=>C fun hh=>h (hh i a)
  by_cases M:Fine (gt L i)
  ·rw [Ns M] at g
   by_cases l:(gt L i).id∈(L.take i).map (·.id)
   ·obtain ⟨j,x⟩:=Nct (i:=0) l
    simp only [n12,r12,B,m,f,n,a,d,o,t,x,g,OL,Us,NM,e,SB,seval,NF,NJ,NK,QY,place,NB,ND]
    exact (p fun h=>h.2.1 l).symm
   ·have x:=Niq (i:=0) l
    by_cases r:(gt L i).frm∈P
    ·obtain ⟨j1,s⟩:=Nct (i:=0) r
     by_cases q:(gt L i).dst∈P
     ·obtain ⟨j2,y⟩:=Nct (i:=0) q
      simp only [n12,I,B,m,f,n,a,d,o,W,t,z,x,s,y,g,OL,Us,Sr,Sq,NM,D,e,SB,seval,NF,NJ,NK,QY,place,NB]
      refine hN (i+1) _ _ ⟨by omega,I,B,m,f,rfl,by simp;omega, ?_, ?_, ?_,fun j x=>?_⟩ (by omega)
      ·refine A.sim fun b ro c J=>?_
       rw [PS (by rintro rfl;rw [F] at J;cases J),NI (NG J)];exact J
      ·rw [PS (by omega),NI (PT u)];exact u
      ·rw [Rw (by simp;omega),Nrc,WJ a,Oq];rfl
      ·rcases Ou j i with h | h
       ·exact w j h
       ·obtain rfl:j=i:=by omega
        exact ⟨M,l,r,q⟩
     ·have y:=Niq (i:=0) q
      simp only [n12,r12,I,B,m,f,n,a,d,o,t,z,x,s,y,g,OL,Us,Sr,Sq,NM,e,SB,seval,NF,NJ,NK,QY,place,NB,ND]
      exact (p fun h=>q h.2.2.2).symm
    ·have s:=Niq (i:=0) r
     simp only [n12,r12,I,B,m,f,n,a,d,o,t,z,x,s,g,OL,Us,Sr,NM,e,SB,seval,NF,NJ,NK,QY,place,NB,ND]
     exact (p fun h=>r h.2.2.1).symm
  ·rw [Oa M] at g
   simp only [n12,r12,m,f,n,a,d,o,g,OL,NM,e,SB,seval,NF,NJ,NK,QY,place,NB,ND]
   exact (p fun h=>M h.1).symm
 ·obtain rfl:i=L.length:=by omega
  simp only [n12,f,n,a,SB,seval,NJ,NK]
  exact T _ _ w
theorem XR [OA] {mp:Bool} {lim:Nat} {pp pl:Option Addr} {P:List Int} {L:List Leg} {cp cl:Nat} {H:NA} {Q:Value->NA->Prop} (hn:NetIn H pp pl P L) :
  NP E mp lim 12 [.agg (RX pp P.length cp pl L.length cl).toArray] H Q=Q (Vi (QP P L)) H:=by
 refine pc (by decide) e12 rfl rfl ?_
 rw [b12,c12]
 by_cases s:50<(P.length:Int)
 ·simp only [n12,r12,UB,s,SB,seval,NJ,NK,NE,place,NB,ND]
  rw [QP,Nh (by omega)]
 by_cases o:200<(L.length:Int)
 ·simp only [n12,r12,UB,TR,s,o,SB,seval,NJ,NK,NE,place,NB,ND]
  rw [QP,Nh (by omega)]
 simp only [n12,UB,TR,s,o,SB,seval,NJ,NK,NE,place,NB]
 have hv:QP P L=if ¬TC P then 320 else if ¬VU P L then 321 else 0:=by rw [QP,Ng (by omega)]
 refine NZ (fun i=>P.length-i) (fun i fr G=>i<=P.length/\fr 1=Vp H.length/\fr 3=.map (some (H.length+1))/\fr 24=.slice pp P.length cp/\fr 25=Vi P.length/\fr 26=Vi i/\
  H.length+1<G.length/\Sl G encI 1 pp P/\Sl G PO 8 pl L/\NC G H.length=Vc (RX pp P.length cp pl L.length cl)/\NC G (H.length+1)=.map (TS (P.take i))/\∀j,j<i->pOk P j) 0
  ⟨Nv _,rfl,rfl,rfl,rfl,by rfl,by simp,hn.sp.app _,hn.sl.app _,NQ,NR,fun j v=>by omega⟩ ?_
 intro i fr G ⟨hi,h1,y,g,f,l,hL,n,x,u,hm,p⟩ C
 rw [OD N41.eq_1]
 refine NL ?_
 have A:=fun X=>(OM.refl.app (X:=X)).cells u
 have w:∀X,NC (G++X) (H.length+1)=.map (TS (P.take i)):=fun X=>by rw [NI hL];exact hm
 have z:H.length<=H.length+1:=by omega
 by_cases a:i<P.length
 ·have m:=fun X=>(n.app X).loadCell0 PQ a (by decide)
  simp only [encI,Od] at m
  have d:=fun c (k:IntKind) (H1:NA)=>n.idx (c:=c) (k:=k) (H1:=H1) a
  have B:IntKind.i64.wrap ((i:Int)+1)=((i+1:Nat):Int):=OV (by omega)
  have r:¬pOk P i->QP P L=320:=fun h=>by rw [hv,Nh fun F=>h (F i a)]
  by_cases ha:gt P i<1
  ·simp only [n12,r12,g,f,l,a,d,m,ha,SB,seval,NJ,NK,ND]
   rw [r fun h=>by have:=h.1;omega]
  ·by_cases q:999999<gt P i
   ·simp only [n12,r12,g,f,l,a,d,m,ha,q,SB,seval,NJ,NK,ND]
    rw [r fun h=>by have:=h.2.1;omega]
   ·by_cases e:gt P i∈P.take i
    ·obtain ⟨j,v⟩:=Nct (i:=0) e
     simp only [n12,r12,y,g,f,l,a,d,m,w,ha,q,v,SB,seval,NJ,NK,ND]
     rw [r fun h=>h.2.2 e]
    ·have v:=Niq (i:=0) e
     simp only [n12,y,g,f,l,a,d,m,B,w,ha,q,v,z,SB,seval,NJ,NK]
     have t:∀b ro c,NC G b=.cells ro c->NC ((G++[]).set (H.length+1) (.map (TS (P.take i)++[(Value.int .i64 (gt P i),Value.bool true)]))) b=.cells ro c:=fun b ro c q=>by
      rw [PS (by rintro rfl;rw [hm] at q;cases q),NI (NG q)];exact q
     refine C (i+1) _ _ ⟨by omega,h1,y,g,f,rfl,by simp;omega,n.sim t,x.sim t,t _ _ _ u, ?_,fun j v=>?_⟩ (by omega)
     ·rw [Rw (by simp;omega),Nrc,WJ a]
     ·rcases Ou j i with h | h
      ·exact p j h
      ·obtain rfl:j=i:=by omega
       exact ⟨by omega,by omega,e⟩
 ·obtain rfl:i=P.length:=by omega
  rw [Ol] at hm
  have D:TC P:=p
  rw [Ng (by simpa using D)] at hv
  simp only [n12,h1,f,l,a,A,TR,SB,seval,NJ,NK,place]
  refine Nnh (H:=H) (R:=H.length) (G:=G) ⟨n,x,hn.np,hn.nl,hn.bys⟩ u hm (Nd _) h1 y rfl rfl rfl rfl (fun h=>by rw [hv,Nh h]) fun fr' G' h=>?_
  rw [Ng (by simpa using h)] at hv
  rw [hv]
  simp only [n12,r12,SB,seval,NJ,ND]
def Wv (P:List Int):List (Value×Value):=P.map fun p=>(Vi p,Vi (P.idxOf p:Int))
theorem UJ {P:List Int} {a:Int} {i:Nat} (h:a∈P):∃j,findKey (Vi a) (Wv P) i=some (some (j,Vi (P.idxOf a:Int))):=by
 unfold Wv
 exact Yw (f:=fun k:Int=>k) (g:=fun k=>Vi (P.idxOf k:Int)) ⟨a,h,rfl⟩ fun x _ e=>by rw [e]
theorem Nn8 {P:List Int} {a:Int} {i:Nat} (h:a∉P):findKey (Vi a) (Wv P) i=some none:=by
 unfold Wv
 exact Xv (f:=fun k:Int=>k) (g:=fun k=>Vi (P.idxOf k:Int)) fun x hx e=>h (e▸hx)
theorem TC.idx {P:List Int} (h:TC P) {i:Nat} (hi:i<P.length):P.idxOf (gt P i)=i:=by
 have h1:=(h i hi).2.2
 have h2:P.idxOf (gt P i)<=i:=by
  rw [PU hi]
  apply Of;intro hc
  have:=List.not_of_lt_findIdx (xs:=P) (p:=(· == P[i])) (i:=i) (by unfold List.idxOf at hc;omega)
  simp at this
 rcases Ou (P.idxOf (gt P i)) i with h3 | h3
 ·exfalso
  apply h1
  have hm:gt P i∈P:=QJ hi
  have hl:=Ph hm
  have:=Q3 hl
  rw [List.mem_take_iff_getElem]
  exact ⟨P.idxOf (gt P i),by omega,this⟩
 ·omega
theorem Nh9 [OA] {lim:Nat} {pp pl:Option Addr} {P:List Int} {L:List Leg} {cp cl:Nat} {H:NA} {Q:Value->NA->Prop} (hn:NetIn H pp pl P L) (s:TC P) (t:lim<=H.length)
  (v:∀H',OM H H'->NC H' (H.length+1)=.map (Wv P)->Q (.map (some (H.length+1))) H') :
  NP E false lim 97 [.agg (RX pp P.length cp pl L.length cl).toArray] H Q:=by
 refine Rm (by decide) e97 rfl ?_
 rw [b97,c97]
 simp only [n97,UB,SB,seval,NJ,NE,place,NB]
 refine NZ (fun i=>P.length-i) (fun i fr G=>i<=P.length/\fr 3=.map (some (H.length+1))/\fr 11=.slice pp P.length cp/\fr 12=Vi P.length/\fr 13=Vi i/\
  H.length+1<G.length/\OM H G/\NC G (H.length+1)=.map ((P.take i).map fun p=>(Vi p,Vi (P.idxOf p:Int)))) 0
  ⟨Nv _,rfl,rfl,rfl,by rfl,by simp,OM.refl.app,NR⟩ ?_
 intro i fr G ⟨hi,n,d,b,h,hL,m,hm⟩ u
 rw [OD N4i.eq_1]
 refine NL ?_
 have q:∀X,NC (G++X) (H.length+1)=.map ((P.take i).map fun p=>(Value.int .i64 p,Value.int .i64 (P.idxOf p:Int))):=fun X=>by rw [NI hL];exact hm
 have o:lim<=H.length+1:=by omega
 by_cases a:i<P.length
 ·have l:=fun X=>((m.sl hn.sp).app X).loadCell0 PQ a (by decide)
  simp only [encI,Od] at l
  have j:=fun c (k:IntKind) (H1:NA)=>(m.sl hn.sp).idx (c:=c) (k:=k) (H1:=H1) a
  have r:IntKind.i64.wrap ((i:Int)+1)=((i+1:Nat):Int):=OV (by have:=hn.np;omega)
  have w:findKey (Vi (gt P i)) ((P.take i).map fun p=>(Vi p,Vi (P.idxOf p:Int))) 0=some none:=
   Xv (f:=fun k:Int=>k) (g:=fun k=>Vi (P.idxOf k:Int)) fun x hx e=>(s i a).2.2 (e▸hx)
  simp only [n97,n,d,b,h,a,j,l,r,q,w,o,SB,seval,NJ,NK]
  refine u (i+1) _ _ ⟨by omega,n,d,b,rfl,by simp;omega, ?_, ?_⟩ (by omega)
  ·obtain ⟨Y,rfl⟩:=m
   exact ⟨(Y++[]).set 1 _,by rw [Nq];exact Nh1⟩
  ·rw [Rw (by simp;omega),WJ a,Oq]
   simp only [N9,List.map_nil,s.idx a]
 ·obtain rfl:i=P.length:=by omega
  rw [Ol] at hm
  simp only [n97,r97,n,b,h,a,SB,seval,NJ,NK,ND]
  refine v _ m.app ?_
  rw [NI hL];exact hm
def Uk (P:List Int) (L:List Leg) (a b t:Int):Int:=if QP P L≠0 then QP P L else if a∈P/\b∈P/\0<=t/\t<=NT then 0 else 2
theorem TA {P:List Int} {L:List Leg} (h:QP P L=0):P.length<=50/\L.length<=200/\TC P/\VU P L:=by
 unfold QP at h
 split at h
 ·cases h
 ·split at h
  ·cases h
  ·split at h
   ·cases h
   ·rename_i h1 h2 a
    exact ⟨by omega,by omega,by simpa using h2,by simpa using a⟩
theorem ZL {P:List Int} {L:List Leg} {a b t:Int} (h:Uk P L a b t=0):QP P L=0/\a∈P/\b∈P/\0<=t/\t<=NT:=by
 unfold Uk at h
 split at h
 ·contradiction
 ·rename_i hv
  split at h
  ·rename_i c;exact ⟨by simpa using hv,c⟩
  ·cases h
theorem Nfj [OA] {lim:Nat} {pp pl:Option Addr} {P:List Int} {L:List Leg} {cp cl:Nat} {a b t:Int} {H:NA} {Q:Value->NA->Prop} (hn:NetIn H pp pl P L) (n:lim<=H.length)
  (c:∀H',Uk P L a b t≠0->OM H H'->Q (.tuple #[.map none,Vi (Uk P L a b t)]) H')
  (m:∀H' R,Uk P L a b t=0->OM H H'->NC H' R=.map (Wv P)->H.length<=R->Q (.tuple #[.map (some R),Vi 0]) H') :
  NP E false lim 58 [.agg (RX pp P.length cp pl L.length cl).toArray,Vi a,Vi b,Vi t] H Q:=by
 refine Rm (by decide) e58 rfl ?_
 rw [b58,c58]
 have hv:=fun X (mp:Bool) (lim:Nat) (Q:Value->NA->Prop)=>XR (mp:=mp) (lim:=lim) (cp:=cp) (cl:=cl) (Q:=Q) (hn.app X)
 by_cases h0:QP P L=0
 ·have k:¬(QP P L≠0):=by simpa using h0
  obtain ⟨s,u,q,v⟩:=TA h0
  rw [h0] at hv
  simp only [n58,hv,PW,NM,SB,seval,NF,NJ,NK,NE,place,NB]
  refine Nh9 (hn.app _) q (by simp;omega) fun H' o hm=>?_
  have g:OM H H':=by obtain ⟨Y,rfl⟩:=o;rw [Nq];exact OM.refl.app
  simp only [Ni,Nk,No,N5,Oo,Nat.reduceAdd] at hm⊢
  have hl:=PT hm
  have f:∀X,NC (H'++X) (H.length+2)=.map (Wv P):=fun X=>by rw [NI hl];exact hm
  refine NL ?_
  have e2:¬(a∈P/\b∈P/\0<=t/\t<=NT)->Uk P L a b t=2:=fun h=>by rw [Uk,Ng k,Ng h]
  by_cases ha:a∈P
  ·obtain ⟨r,e⟩:=UJ (i:=0) ha
   by_cases j:b∈P
   ·obtain ⟨p,d⟩:=UJ (i:=0) j
    by_cases ht:t<0
    ·have he:=e2 fun h=>by omega
     simp only [n58,r58,f,e,d,ht,SB,seval,NJ,NK,QY,NE,ND]
     rw [<-he];exact c _ (by rw [he];decide) g.app
    ·by_cases l:1051898399<t
     ·have he:=e2 fun h=>by unfold NT at h;omega
      simp only [n58,r58,f,e,d,ht,l,SB,seval,NJ,NK,QY,NE,ND]
      rw [<-he];exact c _ (by rw [he];decide) g.app
     ·have he:Uk P L a b t=0:=by rw [Uk,Ng k,Nh ⟨ha,j,by omega,by unfold NT;omega⟩]
      simp only [n58,r58,f,e,d,ht,l,SB,seval,NJ,NK,QY,NE,ND]
      exact m _ _ he g.app (f []) (by omega)
   ·have d:=Nn8 (i:=0) j
    have he:=e2 fun h=>j h.2.1
    simp only [n58,r58,f,e,d,SB,seval,NJ,QY,NE,ND]
    rw [<-he];exact c _ (by rw [he];decide) g.app
  ·have e:=Nn8 (i:=0) ha
   have he:=e2 fun h=>ha h.1
   by_cases j:b∈P
   ·obtain ⟨p,d⟩:=UJ (i:=0) j
    simp only [n58,r58,f,e,d,SB,seval,NJ,QY,NE,ND]
    rw [<-he];exact c _ (by rw [he];decide) g.app
   ·have d:=Nn8 (i:=0) j
    simp only [n58,r58,f,e,d,SB,seval,NJ,QY,NE,ND]
    rw [<-he];exact c _ (by rw [he];decide) g.app
 ·have he:Uk P L a b t=QP P L:=by rw [Uk,Nh h0]
  simp only [n58,r58,hv,PW,NM,Np h0,SB,seval,NF,NJ,NK,NE,place,NB,ND]
  rw [<-he];exact c _ (by rw [he];exact h0) OM.refl.app
theorem find_ok [OA] {mp:Bool} {lim:Nat} {pp pl:Option Addr} {P:List Int} {L:List Leg} {cp cl:Nat} {a:Int} {H:NA} {Q:Value->NA->Prop} (hn:NetIn H pp pl P L) :
  NP E mp lim 33 [.agg (RX pp P.length cp pl L.length cl).toArray,Vi a] H Q=Q (match L.find? (fun l=>l.id=a) with | some l=>.tuple #[.agg (PO l).toArray,.bool true] | none=>.tuple #[.agg #[Vi 0,Vi 0,Vi 0,Vi 0,Vi 0,Vi 0,Vi 0,.int .u8 0],.bool false]) H:=by
 refine pc (by decide) e33 rfl (by cases L.find? (fun l=>l.id=a)<;>rfl) ?_
 rw [b33,c33]
 simp only [n33,TR,SB,seval,NJ,NE,place,NB]
 refine NZ (fun i=>L.length-i) (fun i fr G=>i<=L.length/\fr 1=Vi a/\fr 4=Vp (H.length+1)/\fr 9=.slice pl L.length cl/\fr 10=Vi L.length/\fr 11=Vi i/\OM H G/\
  NC G (H.length+1)=Vc [Vi 0,Vi 0,Vi 0,Vi 0,Vi 0,Vi 0,Vi 0,.int .u8 0]/\L.find? (fun l=>l.id=a)=(L.drop i).find? (fun l=>l.id=a)) 0
  ⟨Nv _,rfl,rfl,rfl,rfl,by rfl,OM.refl.app,NR,rfl⟩ ?_
 intro i fr G ⟨hi,h1,p,q,d,g,o,h0,j⟩ s
 have hl:=o.len
 have t:=NG h0
 rw [OD N4y.eq_1]
 refine NL ?_
 have m:=fun X=>(OM.refl.app (X:=X)).cells h0
 by_cases b:i<L.length
 ·have n:=fun X=>((o.sl hn.sl).app X).loadCells OL b
  have f:=fun c (k:IntKind) (H1:NA)=>(o.sl hn.sl).idx (c:=c) (k:=k) (H1:=H1) b
  have r:IntKind.i64.wrap ((i:Int)+1)=((i+1:Nat):Int):=OV (by have:=hn.nl;omega)
  rw [Nuk b] at j
  have u:¬H.length+1=G.length:=by omega
  obtain ⟨G2,e2,h2,v⟩:=OP (NG h0) (Vc (PO (gt L i)))
  have h:=fun X=>(OM.refl.app (X:=X)).cells h2
  by_cases e:(gt L i).id=a
  ·simp only [e,decide_true,if_true] at j
   simp only [n33,r33,h1,p,q,d,g,b,f,n,m,OL,Us,NM,hl,show H.length<=H.length+1 by omega,N3 e,NH,e2,h,SB,seval,NJ,NK,place,NB,ND]
   rw [j]
  ·simp only [e,decide_false,Nz,if_false] at j
   simp only [n33,h1,q,d,g,b,f,n,r,OL,Us,hl,Np e,SB,seval,NJ,NK,place,NB]
   exact s (i+1) _ _ ⟨by omega,h1,p,q,d,rfl,o.app,(OM.refl.app).cells h0,j⟩ (by omega)
 ·obtain rfl:i=L.length:=by omega
  rw [Qt,List.find?_nil] at j
  obtain ⟨G2,e2,h2,v⟩:=OP (NG h0) (Vc [Vi 0,Vi 0,Vi 0,Vi 0,Vi 0,Vi 0,Vi 0,.int .u8 0])
  have h:=fun X=>(OM.refl.app (X:=X)).cells h2
  simp only [n33,r33,p,d,g,b,m,show H.length<=H.length+1 by omega,e2,h,SB,seval,NJ,NK,NB,ND]
  rw [j]
def YB {α:Type} (lim:Nat) (G:NA) (enc:α->List Value) (e:Nat) (p:Option Addr) (cap:Nat) (l:List α):Prop:=
 Own lim G enc e p cap l\/∃R,p=Sa R/\cap=l.length/\cap<2 ^ 62/\NC G R=Vc (l.flatMap enc)/\lim<=R
section
variable {α:Type} {lim e cap:Nat} {G:NA} {enc:α->List Value} {p:Option Addr} {l:List α}
theorem YB.sl (h:YB lim G enc e p cap l) (he:∀x,(enc x).length=e):Sl G enc e p l:=by
 rcases h with h | ⟨R,rfl,_,_,h,_⟩
 ·exact h.sl he
 ·exact Sl.row he h
theorem YB.block (h:YB lim G enc e p cap l) {a:Addr} (ha:p=some a):lim<=a.block/\a.block<G.length:=by
 rcases h with h | ⟨R,rfl,_,_,h,hl⟩
 ·exact h.block ha
 ·cases ha;exact ⟨hl,NG h⟩
theorem YB.chg {A:List Nat} {H':NA} (h:YB lim G enc e p cap l) (hc:Chg A G H') (hp:∀a,p=some a->a.block∉A):YB lim H' enc e p cap l:=by
 rcases h with h | ⟨R,rfl,h1,h2,b,c⟩
 ·exact .inl (h.chg hc hp)
 ·exact .inr ⟨R,rfl,h1,h2,hc.cells b (hp _ rfl),c⟩
theorem YB.step {lim' bytes:Nat} (h:YB lim G enc e p cap l) (n:lim'<=lim) (he:∀x,(enc x).length=e) (g:e≠0) (x:α) (s:(l.length+1)*bytes<=PM) (hn:l.length+1<2 ^ 61) (m:lim<=G.length)
  (X:NA) (b k:Nat) (hx:NC (G++X) b=Vc (enc x)) :
  ∃G2,OU lim' none e bytes false (.slice p l.length cap) (.slice (Sa b) 1 k) (G++X)=some (.slice (Sa (G.length+X.length)) (l.length+1) (loose e),G2++[])/\
   Own lim (G2++[]) enc e (Sa (G.length+X.length)) (loose e) (l++[x])/\(∀A H0,H0.length<=lim->Chg A H0 G->Chg A H0 (G2++[]))/\(∀j,j<G.length->(∀a,p=some a->j≠a.block)->NC (G2++[]) j=NC G j)/\G2.length=G.length+X.length+1/\
   (∀j,j<X.length->NC (G2++[]) (G.length+j)=X.getD j .dead):=by
 rcases h with h | ⟨R,rfl,h1,h2,q,t⟩
 ·exact h.step n he g x s hn m X b k hx
 ·have r:=NG q
  have c:NC ((G++(X++[Vc ((l++[x]).flatMap enc)]))++[]) (G.length+X.length)=Vc ((l++[x]).flatMap enc):=by
   rw [Nc,NR]
   rw [show X.length=X.length+0 from rfl,Nl1];rfl
  refine ⟨G++(X++[Vc ((l++[x]).flatMap enc)]), ?_,Own.new c (by omega),fun A H0 _ hc=>(hc.app).app,fun j i _=>?_,by simp;omega,fun j i=>?_⟩
  ·have f:NC (G++X) R=Vc (l.flatMap enc):=by rw [NI r];exact q
   have d:AM.loadCells (G++X) ⟨R,0,none⟩ (l.length*e)=some (l.flatMap enc):=by
    simp only [QA,f,N5,PK he,Nd,if_true,Ox]
    rw [Og (by rw [PK he];exact Nd _)]
   have hl:AM.loadCells (G++X) ⟨b,0,none⟩ (1*e)=some (enc x):=by
    simp only [QA,hx,N5,Nat.one_mul,he,Nd,if_true,Ox]
    rw [Og (by rw [he];exact Nd _)]
   subst h1
   have o:¬l.length=loose e:=by unfold loose;omega
   simp only [OU,firstCells,lenOf,hl,d,if_false,Nz,o,Nat.one_ne_zero]
   rw [Ng (by omega),Nh h2,Ng (by omega)]
   simp [place]
  ·rw [Nc,NI i]
  ·rw [Nc,NR,Na,N4 i,Na]
end
def i64 (n:Int):Value:=Vi n
def T50 (T:List Int):List Int:=if T.length=50 then T else List.replicate 50 0
theorem N67 {T:List Int} (h:T.length=50):T50 T=T:=Nh h
theorem N31 (T:List Int):(T50 T).length=50:=by
 unfold T50;split
 ·assumption
 ·simp
def R6 (T:List Int):List Value:=(T50 T).map i64
theorem PZ (T:List Int):(R6 T).length=50:=by simp [R6,N31]
theorem V5 {T:List Int} (h:T.length=50):R6 T=T.map i64:=by rw [R6,N67 h]
theorem VL {T:List Int} (h:T.length=50) {j:Nat} (a:j<50):(R6 T)[j]? = some (Vi (T.getD j (-1))):=by
 rw [V5 h,O0,Na,Nf (by omega)];rfl
theorem Yy {T:List Int} (h:T.length=50) {j:Nat} {v:Int}:(R6 T).set j (Vi v)=R6 (T.set j v):=by
 rw [V5 h,V5 (by simpa using h),List.map_set];rfl
theorem N3b {a b:List Int} (h:a.map i64=b.map i64):a=b:=by
 induction a generalizing b with
 | nil=>cases b with
   | nil=>rfl
   | cons y b=>cases h
 | cons x a ih=>cases b with
   | nil=>cases h
   | cons y b=>
     simp only [N9,List.cons.injEq,i64,Value.int.injEq,Rd] at h
     rw [h.1,ih h.2]
theorem Nzw {a b:List Int} (ha:a.length=50) (c:b.length=50) (h:R6 a=R6 b):a=b:=by
 rw [V5 ha,V5 c] at h;exact N3b h
theorem Nuj {l:List Int}:flat 4 (.agg (l.map i64).toArray)=true:=by
 simp [flat,i64,atom]
theorem Nzx {a b:List Int} (ha:a.length=50) (c:b.length=50):aEq (.agg (List.replicate 50 (.int .i64))) (.agg (R6 a).toArray) (.agg (R6 b).toArray)=some (decide (a=b)):=by
 obtain ⟨t,h1,h2⟩:=Ncb (.int .i64) 50 (R6 a) (R6 b) (PZ a) (PZ b) (by
  intro x hx y d
  rw [V5 ha] at hx
  rw [V5 c] at d
  obtain ⟨n,_,rfl⟩:=List.mem_map.1 hx
  obtain ⟨m,_,rfl⟩:=List.mem_map.1 d
  exact ⟨n == m,by simp [Tz,i64],by simp [i64]⟩)
 show PP _ (R6 a) (R6 b)=_
 rw [h1]
 congr 1
 rw [Rf,h2,Ob]
 exact ⟨fun h=>Nzw ha c h,fun h=>by rw [h]⟩
theorem Nnf:[Value.int .i64 0,Value.int .i64 0,Value.int .i64 0,Value.int .i64 0,Value.int .i64 0,Value.int .i64 0,Value.int .i64 0,Value.int .i64 0,Value.int .i64 0,Value.int .i64 0,Value.int .i64 0,Value.int .i64 0,Value.int .i64 0,Value.int .i64 0,Value.int .i64 0,Value.int .i64 0,Value.int .i64 0,Value.int .i64 0,Value.int .i64 0,Value.int .i64 0,Value.int .i64 0,Value.int .i64 0,Value.int .i64 0,Value.int .i64 0,Value.int .i64 0,Value.int .i64 0,Value.int .i64 0,Value.int .i64 0,Value.int .i64 0,Value.int .i64 0,Value.int .i64 0,Value.int .i64 0,Value.int .i64 0,Value.int .i64 0,Value.int .i64 0,Value.int .i64 0,Value.int .i64 0,Value.int .i64 0,Value.int .i64 0,Value.int .i64 0,Value.int .i64 0,Value.int .i64 0,Value.int .i64 0,Value.int .i64 0,Value.int .i64 0,Value.int .i64 0,Value.int .i64 0,Value.int .i64 0,Value.int .i64 0,Value.int .i64 0]=List.replicate 50 (Value.int .i64 0):=rfl
theorem N77:[KK.int .i64,KK.int .i64,KK.int .i64,KK.int .i64,KK.int .i64,KK.int .i64,KK.int .i64,KK.int .i64,KK.int .i64,KK.int .i64,KK.int .i64,KK.int .i64,KK.int .i64,KK.int .i64,KK.int .i64,KK.int .i64,KK.int .i64,KK.int .i64,KK.int .i64,KK.int .i64,KK.int .i64,KK.int .i64,KK.int .i64,KK.int .i64,KK.int .i64,KK.int .i64,KK.int .i64,KK.int .i64,KK.int .i64,KK.int .i64,KK.int .i64,KK.int .i64,KK.int .i64,KK.int .i64,KK.int .i64,KK.int .i64,KK.int .i64,KK.int .i64,KK.int .i64,KK.int .i64,KK.int .i64,KK.int .i64,KK.int .i64,KK.int .i64,KK.int .i64,KK.int .i64,KK.int .i64,KK.int .i64,KK.int .i64,KK.int .i64]=List.replicate 50 (KK.int .i64):=rfl
theorem Nod [OA] {mp:Bool} {lim i:Nat} {t:Int} {H:NA} {Q:Value->NA->Prop} (hi:i<50):NP E mp lim 63 [Vi i,Vi t] H Q=Q (.agg (R6 (Zd 50 i t)).toArray) H:=by
 refine pc (by decide) e63 rfl (by rw [V5 Nd0];exact Nuj) ?_
 rw [b63,c63]
 simp only [n63,Nnf,SB,Nat.reduceLT,NJ,place]
 refine NZ (fun k=>50-k) (fun k fr G=>k<=50/\fr 0=Vi i/\fr 1=Vi t/\fr 4=Vp H.length/\fr 5=Vp (H.length+1)/\fr 7=Vi k/\
  ∃T:List Int,T.length=50/\(∀j,j<k->T[j]? = some (-1))/\G=H++[Vc (List.replicate 50 (Value.int .i64 0)),Vc (R6 T)]) 0
  ⟨Nv _,rfl,rfl,rfl,rfl,by rfl,List.replicate 50 0,by simp,fun j e=>by omega,rfl⟩ ?_
 rintro k fr G ⟨hk,h0,h1,h,h5,l,T,hT,a,rfl⟩ m
 rw [OD N4s.eq_1]
 by_cases n:k<50
 ·have c:(k:Int)<50:=by omega
  have b:(0:Int)<=(k:Int):=by omega
  have g:IntKind.i64.wrap ((k:Int)+1)=((k+1:Nat):Int):=OV (by omega)
  simp only [n63,h5,l,b,c,g,Pc,PZ,Yy hT,show k+1<=50 by omega,SB,Nat.reduceLT,NJ,Nat.reduceEqDiff,NK,NB]
  refine m (k+1) _ _ ⟨by omega,h0,h1,h,h5,rfl,T.set k (-1),by simpa using hT,fun j e=>?_,rfl⟩ (by omega)
  by_cases d:k=j
  ·subst d;rw [Ra (by omega)]
  ·rw [Qs d];exact a j (by omega)
 ·obtain rfl:k=50:=by omega
  have f:T=List.replicate 50 (-1):=by
   apply List.ext_getElem? ;intro j
   by_cases e:j<50
   ·rw [a j e,P0,Nh e]
   ·rw [Nu (by omega),Nu (by simp;omega)]
  subst f
  have c:(i:Int)<50:=by omega
  have b:(0:Int)<=(i:Int):=by omega
  simp only [n63,r63,h0,h1,h,h5,l,b,c,Pc,PZ,Yy hT,show i+1<=50 by omega,NM,NH,O7,SB,Nat.reduceLT,NJ,Nat.reduceEqDiff,NK,reduceCtorEq,NB,ND,Int.reduceLT]
  rfl
def okT (T:List Int):Prop:=T.length=50/\∀j,-1<=T.getD j (-1)/\T.getD j (-1)<=NT
theorem Nii {i:Nat} {t:Int} (hi:i<50) (h:-1<=t/\t<=NT):okT (Zd 50 i t):=⟨Nd0,fun j=>by
 rw [Nd1 hi];unfold NT at *;split<;>omega⟩
theorem Nih {T:List Int} {i:Nat} {v:Int} (h:okT T) (hv:-1<=v/\v<=NT):okT (T.set i v):=by
 refine ⟨by simpa using h.1,fun j=>?_⟩
 by_cases hi:i<T.length
 ·rw [WT hi];split
  ·exact hv
  ·exact h.2 j
 ·rw [List.set_eq_of_length_le (by omega)];exact h.2 j
def Vt (u:List Int->List Int->Leg->List Int) (L:List Leg) (first:List Int):Nat->List Int
 | 0=>first
 | k+1=>L.foldl (u (Vt u L first k)) (Vt u L first k)
theorem ZI {α β:Type} [Inhabited α] {f:β->α->β} {L:List α} {b:β} {i:Nat} (h:i<L.length):(L.take (i+1)).foldl f b=f ((L.take i).foldl f b) (gt L i):=by
 rw [WJ h,List.foldl_append];rfl
def N1c [OA] (H:NA) (lim:Nat) (g:FuncId) (a b:Value) (u:List Int->List Int->Leg->List Int) (L:List Leg):Prop:=
 ∀(G:NA) (A:Nat) (bef aft:List Int) (l:Leg) (Q:Value->NA->Prop),l∈L->okT bef->okT aft->Chg [] H G->lim<=A->H.length<=A->lim<=G.length->NC G A=Vc (R6 aft)->
  okT (u bef aft l)/\((∀G',Chg [A] G G'->NC G' A=Vc (R6 (u bef aft l))->Q (.tuple #[]) G')->NP E false lim g [.agg (PO l).toArray,.agg (R6 bef).toArray,Vp A,a,b] G Q)
theorem Nh3 [OA] {lim:Nat} {g:FuncId} {o p:Value} {u:List Int->List Int->Leg->List Int} {pl:Option Addr} {L:List Leg} {cl:Nat} {H G:NA} {fr:Nat->Value} {K:List AItem} {R:Value->NA->Prop} {bef:List Int} {A8 A9:Nat}
  (hu:N1c H lim g o p u L) (hL:Sl H PO 8 pl L) (aa:L.length<2 ^ 62) (Q:lim<=H.length) (P:okT bef) (V:Chg [] H G) (U:H.length<=A8) (A:H.length<=A9) (F:A8≠A9) (S:NC G A8=Vc (R6 bef)) (T:NC G A9=Vc (R6 bef))
  (f2:fr 2=.func (.func g) #[] #[o,p]) (M:fr 8=Vp A8) (f9:fr 9=Vp A9) (q:fr 21=.slice pl L.length cl) (r:fr 22=Vi L.length) (s:fr 23=Vi 0)
  (Y:∀fr' G',okT (L.foldl (u bef) bef)->Chg [A9] G G'->NC G' A9=Vc (R6 (L.foldl (u bef) bef))->fr' 1=fr 1->fr' 2=fr 2->fr' 7=fr 7->fr' 8=fr 8->fr' 9=fr 9->QC E a99 lim K fr' (G'++[]) R) :
  QC E a99 lim (.code (.loop Nyc)::.inBlock 2::K) fr G R:=by
 refine NZ (fun i=>L.length-i) (fun i fr' G'=>i<=L.length/\fr' 1=fr 1/\fr' 7=fr 7/\fr' 2=.func (.func g) #[] #[o,p]/\fr' 8=Vp A8/\fr' 9=Vp A9/\fr' 21=.slice pl L.length cl/\fr' 22=Vi L.length/\fr' 23=Vi i/\
  Chg [A9] G G'/\okT ((L.take i).foldl (u bef) bef)/\NC G' A9=Vc (R6 ((L.take i).foldl (u bef) bef))) 0
  ⟨Nv _,rfl,rfl,f2,M,f9,q,r,s,Chg.refl,P,T⟩ ?_
 intro i fr' G' ⟨hi,N,O,t,v,w,l,d,e,hC,ha,b⟩ W
 have f:Chg [] H G':=V.trans' hC fun j h1 h2=>by simp only [Nl] at h1;omega
 have hl:=f.len
 rw [OD Nyc.eq_1]
 refine NL ?_
 by_cases a:i<L.length
 ·have n:=f.ext.sl hL
  have D:=fun X=>(n.app X).loadCells OL a
  have m:=fun c (k:IntKind) (H1:NA)=>n.idx (c:=c) (k:=k) (H1:=H1) a
  have J:IntKind.i64.wrap ((i:Int)+1)=((i+1:Nat):Int):=OV (by omega)
  have x:=hC.cells S (by simpa using F)
  have y:=fun X=>(OM.refl.app (X:=X)).cells x
  have C:lim<=G'.length:=by omega
  simp only [n99,t,v,w,l,d,e,a,m,D,OL,NM,C,NH,y,PZ,Nkl,SB,Nat.reduceLT,NF,NJ,Nat.reduceEqDiff,NK,place,NB,Nat.reduceAdd]
  have Z:=NG b
  obtain ⟨I,h⟩:=hu (G'++[Vc (PO (gt L i))]) A9 bef ((L.take i).foldl (u bef) bef) (gt L i) _ (QJ a) P ha (f.app) (by omega) A (by simp;omega) ((OM.refl.app).cells b)
  refine h fun G2 B z=>?_
  refine NL ?_
  simp only [n99,e,J,SB,Nat.reduceLT,NJ,Nat.reduceEqDiff,NK]
  refine W (i+1) _ _ ⟨by omega,by rw [<-N];exact rfl,by rw [<-O];exact rfl,t,v,w,l,d,rfl, ?_, ?_, ?_⟩ (by omega)
  ·rw [Nc]
   exact hC.trans B.pre
  ·rw [ZI a];exact I
  ·rw [Nc,ZI a];exact z
 ·obtain rfl:i=L.length:=by omega
  rw [Ol] at ha b
  simp only [n99,d,e,a,SB,Nat.reduceLT,NJ,NK]
  exact Y _ _ ha hC b (by rw [<-N];exact rfl) (by rw [f2];exact t) (by rw [<-O];exact rfl) (by rw [M];exact v) (by rw [f9];exact w)
theorem Nsj [OA] {lim n0:Nat} {g:FuncId} {x y:Value} {u:List Int->List Int->Leg->List Int} {first:List Int} {pl:Option Addr} {L:List Leg} {cl:Nat} {H:NA} {Q:Value->NA->Prop}
  (hu:N1c H lim g x y u L) (Y:okT first) (hL:Sl H PO 8 pl L) (J:L.length<2 ^ 62) (l:lim<=H.length) (q:Vt u L first (n0+1)=Vt u L first n0) (K:∀k,k<n0->Vt u L first (k+1)≠Vt u L first k) (aa:n0<80000000000)
  (W:∀H' p cap,Chg [] H H'->YB H.length H' R6 50 p cap ((List.range (n0+1)).map (Vt u L first))->Q (.slice p (n0+1) cap) H') :
  NP E false lim 99 [.agg (R6 first).toArray,.slice pl L.length cl,.func (.func g) #[] #[x,y]] H Q:=by
 refine Rm (by decide) e99 rfl ?_
 rw [b99,c99]
 simp only [n99,Nnf,PZ,NM,NH,O7,SB,Nat.reduceLT,NJ,Nat.reduceEqDiff,NE,place,NB]
 refine NZ (fun s:Nat×Option Addr×Nat=>n0+1-s.1) (fun s fr G=>s.1<=n0/\fr 1=.slice pl L.length cl/\fr 2=.func (.func g) #[] #[x,y]/\fr 7=.slice s.2.1 (s.1+1) s.2.2/\Chg [] H G/\okT (Vt u L first s.1)/\YB H.length G R6 50 s.2.1 s.2.2 ((List.range (s.1+1)).map (Vt u L first))) (0,Sa (H.length+1),1)
  ⟨Nv _,rfl,rfl,by rfl,Chg.refl.app,Y,.inr ⟨H.length+1,rfl,rfl,by show (1:Nat)<2 ^ 62;decide,by rw [NR];simp [Vt],by omega⟩⟩ ?_
 rintro ⟨k,p,cap⟩ fr G ⟨hk,f1,f2,B,z,n,A⟩ V
 simp only at hk B n A
 have hl:=z.len
 rw [OD N4h.eq_1]
 refine NL ?_
 have a:((List.range (k+1)).map (Vt u L first)).length=k+1:=by simp
 have D:gt ((List.range (k+1)).map (Vt u L first)) k=Vt u L first k:=by
  rw [PU (by rw [a];omega)];simp
 have hS:=A.sl PZ
 have r:=fun X=>(hS.app X).loadCells PZ (i:=k) (by rw [a];omega)
 have f:=fun c (kk:IntKind) (H1:NA)=>hS.idx (c:=c) (k:=kk) (H1:=H1) (i:=k) (by rw [a];omega)
 rw [a] at f
 rw [D] at r
 have N:IntKind.i64.wrap (((k+1:Nat):Int)-1)=(k:Int):=by rw [NN (by omega) (by omega)];omega
 have I:lim<=G.length:=by omega
 simp only [n99,f1,B,Nnf,PZ,NM,NH,O7,N,f,r,I,show lim<=G.length+1 by omega,SB,Nat.reduceLT,NJ,Nat.reduceEqDiff,NK,place,NB]
 refine Nh3 (cl:=cl) (A8:=G.length) (A9:=G.length+1) hu hL J l n (z.app) (by omega) (by omega) (by omega) NQ NR f2 rfl rfl rfl rfl rfl fun fr' G' d hC R k1 k2 k7 k8 k9=>?_
 have O:fr' 1=.slice pl L.length cl:=k1.trans f1
 have P:fr' 2=.func (.func g) #[] #[x,y]:=k2.trans f2
 have t:fr' 7=.slice p (k+1) cap:=k7.trans B
 have v:fr' 8=Vp G.length:=k8.trans rfl
 have w:fr' 9=Vp (G.length+1):=k9.trans rfl
 have U:NC G' G.length=Vc (R6 (Vt u L first k)):=hC.cells NQ (by simp)
 have o:=fun X=>(OM.refl.app (X:=X)).cells U
 have m:=fun X=>(OM.refl.app (X:=X)).cells R
 have b:Chg [] G G':=hC.pre.mono fun j hj h=>by simp only [Nl] at h;omega
 have Z:=b.len
 change okT (Vt u L first (k+1)) at d
 change NC G' (G.length+1)=Vc (R6 (Vt u L first (k+1))) at R
 change ∀X,NC (G'++X) (G.length+1)=Vc (R6 (Vt u L first (k+1))) at m
 have e:=Nzx d.1 n.1
 by_cases F:k=n0
 ·subst F
  rw [Ns q] at e
  simp only [n99,r99,t,v,w,o,m,PZ,NM,N77,e,SB,Nat.reduceLT,NJ,Nat.reduceEqDiff,ND]
  exact W _ _ _ ((z.trans b).app) (A.chg (b.app) (by simp))
 ·rw [Oa (p:=Vt u L first (k+1)=Vt u L first k) (K k (by omega))] at e
  have C:=A.chg b (by simp)
  obtain ⟨G3,e3,T,S,M,l3,_⟩:=C.step (lim':=lim) (bytes:=400) l PZ (by decide) (Vt u L first (k+1)) (by rw [a];unfold PM;omega) (by rw [a];omega) (by omega) [Vc (R6 (Vt u L first (k+1)))] G'.length 1 NQ
  rw [a] at e3
  simp only [n99,t,v,w,o,m,PZ,NM,N77,e,NH,O7,e3,SB,Nat.reduceLT,NJ,Nat.reduceEqDiff,place,Nat.reduceAdd]
  refine V (k+1,_,_) _ _ ⟨by omega,O,P,by rfl,S _ _ (Nd _) (z.trans b),d,.inl ?_⟩ (by show n0+1-(k+1)<n0+1-k;omega)
  rw [Po,Oq]
  exact T
def OJ (P:List Int):Int->Nat:=fun p=>P.idxOf p
theorem RH {P:List Int} {L:List Leg} (h:QP P L=0):NetOk 50 P L (OJ P):=by
 obtain ⟨h1,h2,f,c⟩:=TA h
 have key:∀l∈L,Fine l/\l.frm∈P/\l.dst∈P:=fun l hl=>by
  obtain ⟨i,hi,rfl⟩:=List.mem_iff_getElem.1 hl
  have:=c i hi
  unfold lOk at this
  rw [PU hi] at this
  exact ⟨this.1,this.2.2⟩
 refine ⟨fun l hl=>(key l hl).1,fun l hl=>(key l hl).2.1,fun l hl=>(key l hl).2.2,fun a ha b d e=>?_,fun a ha=>?_⟩
 ·have h1:=Q3 (Ph ha)
  have h2:=Q3 (Ph d)
  rw [<-h1,<-h2]
  congr 1
 ·have:=Ph ha
  show P.idxOf a<50
  omega
theorem N15 {F:Nat->List Int} {mu:List Int->Nat} (h:∀k,F (k+1)=F k\/mu (F (k+1))<mu (F k)):∃n,n<=mu (F 0)/\F (n+1)=F n/\∀k,k<n->F (k+1)≠F k:=by
 have key:∀m k,mu (F k)<=m->(∀j,j<k->F (j+1)≠F j)->∃n,n<=k+m/\F (n+1)=F n/\∀j,j<n->F (j+1)≠F j:=by
  intro m
  induction m with
  | zero=>
    intro k hm a
    rcases h k with h1 | h1
    ·exact ⟨k,by omega,h1,a⟩
    ·omega
  | succ m ih=>
    intro k hm a
    by_cases h1:F (k+1)=F k
    ·exact ⟨k,by omega,h1,a⟩
    ·rcases h k with h2 | h2
     ·exact absurd h2 h1
     ·obtain ⟨n,d,b⟩:=ih (k+1) (by omega) fun j c=>by
       rcases Ou j k with h5 | h5
       ·exact a j h5
       ·obtain rfl:j=k:=by omega
        exact h1
      exact ⟨n,by omega,b⟩
 obtain ⟨n,h1,h2⟩:=key (mu (F 0)) 0 (Nd _) fun j a=>by omega
 exact ⟨n,by omega,h2⟩
theorem N14 {N:Nat} {pos:Int->Nat} {lim:Int} {L:List Leg} {p ready:Int} (k:Nat):Vt (Xc pos lim) L (Zd N (pos p) ready) k=R5 N pos lim L p ready k:=by
 induction k with
 | zero=>rfl
 | succ k ih=>rw [Vt,R5,Ndf,ih]
theorem ZU {P:List Int} {L:List Leg} {p ready lim:Int} (hn:NetOk 50 P L (OJ P)) (hp:p∈P) (hr:0<=ready) (hl:ready<=lim):∀k,WA ready lim (R5 50 (OJ P) lim L p ready k)
 | 0=>by
   intro t ht
   rw [R5,Zd] at ht
   rcases Q5 ht with h | rfl
   ·exact .inl (List.eq_of_mem_replicate h)
   ·exact .inr ⟨Oj _,hl⟩
 | k+1=>(Nj8 (ZU hn hp hr hl k) hr fun l a=>⟨hn.fine l a,by rw [Ux];exact hn.lt _ (hn.dst l a)⟩).1
theorem Nmw {P:List Int} {L:List Leg} {p ready lim:Int} (hn:NetOk 50 P L (OJ P)) (hp:p∈P) (hr:0<=ready) (hl:ready<=lim):∃n,n<=50*((lim-ready).toNat+1)/\R5 50 (OJ P) lim L p ready (n+1)=R5 50 (OJ P) lim L p ready n/\∀k,k<n->R5 50 (OJ P) lim L p ready (k+1)≠R5 50 (OJ P) lim L p ready k:=by
 obtain ⟨n,h1,h2⟩:=N15 (F:=R5 50 (OJ P) lim L p ready) (mu:=muA ready lim) fun k=>
  (Nj8 (ZU hn hp hr hl k) hr fun l a=>⟨hn.fine l a,by rw [Ux];exact hn.lt _ (hn.dst l a)⟩).2
 refine ⟨n,Qc h1 ?_,h2⟩
 have:=Nx1 (ZU hn hp hr hl 0)
 rw [Ux] at this
 exact this
def N66 (P:List Int) (L:List Leg) (p ready:Int) (T:List Int):Prop:=T.length=P.length/\∀q∈P,Tq L p ready q (T.getD (OJ P q) (-1))
theorem N30 {P:List Int} {L:List Leg} {p ready:Int} (hn:NetOk 50 P L (OJ P)) (c:P.length<=50) (hp:p∈P) (hr:0<=ready) {n:Nat} (a:R5 50 (OJ P) (ready+86400) L p ready (n+1)=R5 50 (OJ P) (ready+86400) L p ready n) :
  N66 P L p ready ((R5 50 (OJ P) (ready+86400) L p ready n).take P.length):=by
 refine ⟨by rw [O6,Ux];omega,fun q b=>?_⟩
 have h1:=Nfh hn hp hr (by omega) a q b
 have h2:OJ P q<P.length:=Ph b
 rw [Na,Py,Nh h2,<-Na]
 exact h1
theorem Ngz {l:Leg} {r a:Int} (hl:Fine l) (h:RJ l r=some a):0<=a/\r<=a/\a+l.mins<=NT:=by
 obtain ⟨⟨d,_,b,rfl⟩,h2,_⟩:=Sg h
 unfold goes at b
 simp only [Nx,Ob] at b
 unfold Fine at hl
 omega
theorem Ng8 {l:Leg} {b a:Int} (hl:Fine l) (h:Sw l b=some a):0<=a-l.cut/\0<=a/\a+l.mins<=NT/\a+l.mins<=b:=by
 obtain ⟨⟨d,_,c,rfl⟩,h2,_⟩:=Tc h
 unfold goes at c
 simp only [Nx,Ob] at c
 unfold Fine at hl
 omega
theorem Nqj [OA] {lim B1 B2 R:Nat} {o1 o2:Bool} {P:List Int} {L:List Leg} {ready:Int} {H:NA} (hn:NetOk 50 P L (OJ P)) (h1:NC H B1=.cells o1 [.map (some R)]) (h2:NC H B2=.cells o2 [Vi ready]) (hm:NC H R=.map (Wv P)) (hr:0<=ready) (C:ready<=NT) :
  N1c H lim 98 (Vp B1) (Vp B2) (Xc (OJ P) (ready+86400)) L:=by
 intro G A bef aft l Q hl T ha I z W n hA
 have M:=hn.fine l hl
 have Y:OJ P l.frm<50:=hn.lt _ (hn.frm l hl)
 have Z:OJ P l.dst<50:=hn.lt _ (hn.dst l hl)
 obtain ⟨j1,g⟩:=UJ (i:=0) (hn.frm l hl)
 obtain ⟨j2,j⟩:=UJ (i:=0) (hn.dst l hl)
 change findKey _ _ _=some (some (j1,Vi (OJ P l.frm:Int))) at g
 change findKey _ _ _=some (some (j2,Vi (OJ P l.dst:Int))) at j
 have K:=T.2 (OJ P l.frm)
 have J:=ha.2 (OJ P l.dst)
 have s:=VL T.1 Y
 have F:=VL ha.1 Z
 have t:=fun X=>(OM.refl.app (X:=X)).cells (I.cells h1 (by simp))
 have D:=fun X=>(OM.refl.app (X:=X)).cells (I.cells h2 (by simp))
 have B:=I.get hm (PT hm) (by simp)
 have u:∀X,NC (G++X) R=.map (Wv P):=fun X=>by rw [NI (PT B)];exact B
 have N:=fun X=>(OM.refl.app (X:=X)).cells hA
 have v:(0:Int)<=(OJ P l.frm:Int):=by omega
 have O:(0:Int)<=(OJ P l.dst:Int):=by omega
 have w:(OJ P l.frm:Int)<50:=by omega
 have S:(OJ P l.dst:Int)<50:=by omega
 have V:OJ P l.dst<=49:=by omega
 have z6:OJ P l.frm<=49:=by omega
 have wr:IntKind.i64.wrap (ready+86400)=ready+86400:=by unfold NT at C;exact NN (by omega) (by omega)
 unfold Xc
 generalize OJ P l.frm=x at *
 generalize OJ P l.dst=y at *
 generalize bef.getD x (-1)=b at *
 generalize hc:aft.getD y (-1)=c at *
 unfold NT at K J C
 by_cases f:b<0
 ·rw [Nh f]
  refine ⟨ha,fun m=>Rm (by decide) e98 rfl ?_⟩
  rw [b98,c98]
  simp only [n98,r98,t,u,g,j,s,v,w,Sr,Sq,Pc,f,SB,Nat.reduceLT,NJ,Nat.reduceEqDiff,NK,NE,place,NB,Nat.reduceAdd]
  exact m _ (OM.refl.app.chg) ((OM.refl.app).cells hA)
 rw [Ng f]
 have e:=fun (H:NA) (mp:Bool) (lim:Nat) (Q:Value->NA->Prop)=>Nq9 (mp:=mp) (lim:=lim) (H:=H) (Q:=Q) (l:=l) (r:=b) M (by omega) (by omega)
 cases hx:RJ l b with
 | none=>
   rw [hx] at e
   simp only [Oh,VX] at e
   refine ⟨ha,fun m=>Rm (by decide) e98 rfl ?_⟩
   rw [b98,c98]
   simp only [n98,r98,t,u,g,j,s,v,w,OL,Sr,Sq,NM,Pc,n,f,e,SB,Nat.reduceLT,NF,NJ,Nat.reduceEqDiff,NK,NE,place,NB,Nat.reduceAdd]
   exact m _ (OM.refl.app.chg) ((OM.refl.app).cells hA)
 | some a=>
   rw [hx] at e
   simp only [Nr,VX] at e
   obtain ⟨k1,k2,k3⟩:=Ngz M hx
   unfold Fine at M
   by_cases d:a+l.mins<=ready+86400
   ·have p:∀Q:Value->NA->Prop,(∀G',Chg [A] G G'->NC G' A=Vc (R6 (aft.set y (a+l.mins)))->Q (.tuple #[]) G')->(c<0\/a+l.mins<c)->
      NP E false lim 98 [.agg (PO l).toArray,.agg (R6 bef).toArray,Vp A,Vp B1,Vp B2] G Q:=by
     intro Q m k
     refine Rm (by decide) e98 rfl ?_
     rw [b98,c98]
     obtain ⟨G2,e2,h2,U⟩:=OP (NG hA) (Vc (R6 (aft.set y (a+l.mins))))
     by_cases o:c<0
     ·simp only [n98,r98,t,D,u,N,g,j,s,F,v,O,w,S,V,wr,OL,Sr,Sq,NM,PZ,Pc,n,f,e,N3 d,N3 o,z,Yy ha.1,e2,SB,Nat.reduceLT,NF,NJ,Nat.reduceEqDiff,NK,NE,place,NB,Nat.reduceAdd,Nat.reduceLeDiff]
      exact m _ ((Chg.refl.mut U (.inl (by simp))).app) ((OM.refl.app).cells h2)
     ·have q:a+l.mins<c:=by omega
      simp only [n98,r98,t,D,u,N,g,j,s,F,v,O,w,S,V,wr,OL,Sr,Sq,NM,PZ,Pc,n,f,e,N3 d,Np o,N3 q,z,Yy ha.1,e2,SB,Nat.reduceLT,NF,NJ,Nat.reduceEqDiff,NK,NE,place,NB,Nat.reduceAdd,Nat.reduceLeDiff]
      exact m _ ((Chg.refl.mut U (.inl (by simp))).app) ((OM.refl.app).cells h2)
    by_cases k:c<0\/a+l.mins<c
    ·simp only [Nh (And.intro d k)]
     exact ⟨Nih ha (by omega),fun m=>p _ m k⟩
    ·simp only [Ng (fun h:_/\_=>k h.2)]
     refine ⟨ha,fun m=>Rm (by decide) e98 rfl ?_⟩
     rw [b98,c98]
     have o:¬c<0:=fun h=>k (.inl h)
     have q:¬a+l.mins<c:=fun h=>k (.inr h)
     simp only [n98,r98,t,D,u,N,g,j,s,F,v,O,w,S,wr,OL,Sr,Sq,NM,Pc,n,f,e,N3 d,Np o,Np q,SB,Nat.reduceLT,NF,NJ,Nat.reduceEqDiff,NK,NE,place,NB,Nat.reduceAdd]
     exact m _ (OM.refl.app.chg) ((OM.refl.app).cells hA)
   ·simp only [Ng (fun h:_/\_=>d h.1)]
    refine ⟨ha,fun m=>Rm (by decide) e98 rfl ?_⟩
    rw [b98,c98]
    simp only [n98,r98,t,D,u,g,j,s,v,w,wr,OL,Sr,Sq,NM,Pc,n,f,e,Np d,SB,Nat.reduceLT,NF,NJ,Nat.reduceEqDiff,NK,NE,place,NB,Nat.reduceAdd]
    exact m _ (OM.refl.app.chg) ((OM.refl.app).cells hA)
theorem Ncg [OA] {lim R:Nat} {pp pl:Option Addr} {P:List Int} {L:List Leg} {cp cl:Nat} {p ready:Int} {H:NA} {Q:Value->NA->Prop} (hn:NetIn H pp pl P L) (hv:QP P L=0) (hm:NC H R=.map (Wv P)) (hp:p∈P) (hr:0<=ready) (h:ready<=NT) (j:lim<=H.length)
  (o:∀H' q cap n,Chg [] H H'->R5 50 (OJ P) (ready+86400) L p ready (n+1)=R5 50 (OJ P) (ready+86400) L p ready n->(∀k,k<n->R5 50 (OJ P) (ready+86400) L p ready (k+1)≠R5 50 (OJ P) (ready+86400) L p ready k)->n<2 ^ 30->
   YB H.length H' R6 50 q cap ((List.range (n+1)).map (R5 50 (OJ P) (ready+86400) L p ready))->Q (.slice q (n+1) cap) H') :
  NP E false lim 59 [.agg (RX pp P.length cp pl L.length cl).toArray,.map (some R),Vi p,Vi ready] H Q:=by
 have b:=RH hv
 obtain ⟨w,x,y,z⟩:=TA hv
 refine Rm (by decide) e59 rfl ?_
 rw [b59,c59]
 obtain ⟨s,c⟩:=UJ (i:=0) hp
 have hi:OJ P p<50:=b.lt _ hp
 change findKey _ _ _=some (some (s,Vi (OJ P p:Int))) at c
 have l:∀X,NC (H++X) R=.map (Wv P):=fun X=>by rw [NI (PT hm)];exact hm
 have g:=fun (H:NA) (mp:Bool) (lim:Nat) (Q:Value->NA->Prop)=>Nod (mp:=mp) (lim:=lim) (H:=H) (Q:=Q) (i:=OJ P p) (t:=ready) hi
 simp only [n59,TR,l,c,g,SB,Nat.reduceLT,NF,NJ,Nat.reduceEqDiff,NE,place,NB,Nat.reduceAdd]
 obtain ⟨n,r,d,e⟩:=Nmw (lim:=ready+86400) b hp hr (by omega)
 have a:∀k,Vt (Xc (OJ P) (ready+86400)) L (Zd 50 (OJ P p) ready) k=R5 50 (OJ P) (ready+86400) L p ready k:=fun k=>N14 k
 unfold NT at h
 refine Nsj (n0:=n) (Nqj (R:=R) (P:=P) (ready:=ready) b NR NR (l _) hr (by unfold NT;omega)) (Nii hi (by unfold NT;omega)) (hn.sl.app _) (by omega) (by simp;omega) (by rw [a,a];exact d) (fun k hk=>by rw [a,a];exact e k hk) (by omega) fun H' q cap hC f=>?_
 rw [funext a] at f
 refine NL ?_
 simp only [n59,r59,SB,Nat.reduceLT,NJ,Nat.reduceAdd,ND]
 rw [Nc]
 refine o H' q cap n hC.pre d e (by omega) ?_
 rcases f with f | ⟨m,k1,k2,k3,u,v⟩
 ·exact .inl (f.le (by simp))
 ·exact .inr ⟨m,k1,k2,k3,u,by simp at v;omega⟩
theorem Nmm [OA] {lim c:Nat} {p:Option Addr} {l:List Int} {H:NA} {Q:Value->NA->Prop} (hs:Sl H encI 1 p l) (hn:l≠[]) (hl:l.length<2 ^ 40)
  (f:∀H' q,OM H H'->Own H.length H' encI 1 q (loose 1) l->Q (.slice q l.length (loose 1)) H') :
  NP E false lim 106 [.slice p l.length c] H Q:=by
 refine Rm (by decide) N8d rfl ?_
 rw [N8g,N3v]
 obtain ⟨a,rfl⟩:=hs.some hn
 have ha:=Nmx (lim:=lim) (b:=H.length) (e:=1) (bytes:=8) (c:=c) (H:=H++[Vc []]) (enc:=encI) (p:=some a) (l:=l) NQ (hs.app _) (by decide) (by unfold PM;omega) (by omega) hn
 have d:aEq .slice (.slice (some a) l.length c) Vz=some false:=rfl
 simp only [n106,N5i,d,ha,SB,Nat.reduceLT,NJ,Nat.reduceEqDiff,reduceCtorEq,NE,place,ND]
 refine f _ _ OM.refl.app (Own.new ?_ (by omega))
 rw [NR];rfl
theorem N1z {H:NA} {A:Nat} {T:List Int} {n:Nat} (hA:NC H A=Vc (R6 T)) (hT:T.length=50) (hn:n<=50):Sl H encI 1 (Sa A) (T.take n):=by
 have:Sl H encI 1 (Sa A) (T.take n++T.drop n):=by
  rw [Qk]
  refine Sl.row PQ (ro:=false) ?_
  rw [hA,V5 hT]
  congr 1
  clear hA hT
  induction T with
  | nil=>rfl
  | cons x T ih=>rw [N9,Om,ih];rfl
 exact this.pre PQ
theorem Nv1 [OA] {lim:Nat} {pp pl:Option Addr} {P:List Int} {L:List Leg} {cp cl:Nat} {p ready:Int} {H:NA} {Q:Value->NA->Prop} (hn:NetIn H pp pl P L) (I:lim<=H.length)
  (r:∀H',Uk P L p p ready≠0->Chg [] H H'->Q (.tuple #[Vz,Vi (Uk P L p p ready)]) H')
  (D:∀H' q T,Uk P L p p ready=0->Chg [] H H'->N66 P L p ready T->Own H.length H' encI 1 q (loose 1) T->T.length=P.length->Q (.tuple #[.slice q P.length (loose 1),Vi 0]) H') :
  NP E false lim 165 [.agg (RX pp P.length cp pl L.length cl).toArray,Vi p,Vi ready] H Q:=by
 refine Rm (by decide) N9b rfl ?_
 rw [N98,N6k]
 simp only [n165,PW,NM,SB,Nat.reduceLT,NF,NJ,Nat.reduceEqDiff,NE,place,NB]
 refine Nfj (hn.app _) (by simp;omega) (fun H' he j=>?_) (fun H' R he j hm N=>?_)
 ·refine NL ?_
  simp only [n165,N7h,Np he,SB,Nat.reduceLT,NJ,Nat.reduceEqDiff,NK,ND]
  exact r _ he (j.chg.pre.app)
 ·obtain ⟨hv,hp,_,hr,F⟩:=ZL he
  obtain ⟨J,Z,v3,v4⟩:=TA hv
  have B:=j.len
  simp only [Ni,Nk,No] at B N
  have g:NC H' H.length=Vc (RX pp P.length cp pl L.length cl):=j.cells NQ
  have C:=fun X=>(OM.refl.app (X:=X)).cells g
  refine NL ?_
  simp only [n165,C,PW,NM,SB,Nat.reduceLT,NF,NJ,Nat.reduceEqDiff,NK,NE]
  rw [Nc]
  have m:OM H H':=by obtain ⟨Y,rfl⟩:=j;rw [Nq];exact OM.refl.app
  refine Ncg (hn.ext m) hv hm hp hr F (by omega) fun x q cap n hC u U S K=>?_
  have O:=hC.len
  have d:((List.range (n+1)).map (R5 50 (OJ P) (ready+86400) L p ready)).length=n+1:=by simp
  have A:gt ((List.range (n+1)).map (R5 50 (OJ P) (ready+86400) L p ready)) n=R5 50 (OJ P) (ready+86400) L p ready n:=by
   rw [PU (by rw [d];omega)];simp
  have hS:=K.sl PZ
  have v:=fun X=>(hS.app X).loadCells PZ (i:=n) (by rw [d];omega)
  have f:=fun c (kk:IntKind) (H1:NA)=>hS.idx (c:=c) (k:=kk) (H1:=H1) (i:=n) (by rw [d];omega)
  rw [d] at f
  rw [A] at v
  have G:IntKind.i64.wrap (((n+1:Nat):Int)-1)=(n:Int):=by rw [NN (by omega) (by omega)];omega
  have w:=fun X=>(OM.refl.app (X:=X)).cells (hC.cells g (by simp))
  have M:0<P.length:=List.length_pos_of_mem hp
  have t:∀b:Nat,Xh 50 1 (Vp b) none (some (Vi P.length)) none=some (.slice (Sa b) P.length 50):=fun b=>by
   have:=Nkb (n:=50) (e:=1) (a:=⟨b,0,none⟩) (lo:=0) (hi:=P.length) (vlo:=none) (vhi:=some (Vi P.length)) (by rw [Njd (by omega) (by omega),N7]) (by decide) (by decide)
   rw [this];simp [addr_add]
  refine NL ?_
  simp only [n165,w,f,v,G,UB,Nnf,PZ,NH,O7,show lim<=x.length by omega,t,SB,Nat.reduceLT,NF,NJ,Nat.reduceEqDiff,NK,place,NB]
  have o:(R5 50 (OJ P) (ready+86400) L p ready n).length=50:=Ux
  have htl:((R5 50 (OJ P) (ready+86400) L p ready n).take P.length).length=P.length:=by rw [O6,o];omega
  have s:=fun Q=>Nmm (Q:=Q) (lim:=lim) (c:=50) (p:=Sa x.length) (l:=(R5 50 (OJ P) (ready+86400) L p ready n).take P.length) (H:=x++[Vc (R6 (R5 50 (OJ P) (ready+86400) L p ready n))]) (N1z NQ o J) (fun h=>by rw [h] at htl;simp at htl;omega) (by rw [htl];omega)
  rw [htl] at s
  refine s _ fun V W y z=>?_
  refine NL ?_
  simp only [n165,N7h,SB,Nat.reduceLT,NJ,Nat.reduceEqDiff,ND]
  refine D _ _ _ he ?_ (N30 (RH hv) J hp hr u) ((z.le (by simp;omega)).app _) htl
  exact (((m.chg).trans hC).trans (y.chg.pre)).app
def Ndv (P:List Int) (p:Int):Int:=if p∈P then (OJ P p:Int) else -1
theorem Nix {H:NA} {q:Option Addr} {T:List Int} {i:Nat} (h:Sl H encI 1 q T) (hi:i<T.length):∀X,AM.loadCell (H++X) (YV q 1 i)=some (Vi (gt T i)):=fun X=>by
 rw [(h.app X).loadCell0 PQ hi (by decide)];rfl
theorem N24 {H:NA} {q:Option Addr} {T:List Int} {i n:Nat} (h:Sl H encI 1 q T) (hi:i<n) (hT:T.length=n):∀(c:Nat) (k:IntKind) (H1:NA),MC 1 (.slice q n c) (.int k (i:Int)) H1=some (.pointer (some (YV q 1 i)),H1):=fun c k H1=>by
 subst hT;exact h.idx hi
theorem N3e {T:List Int} {i:Nat} (h:i<T.length):gt T i=T.getD i (-1):=by
 rw [PU h,Na,Nf h];rfl
theorem N65 {L:List Leg} {p t q v:Int} (h:Tq L p t q v) (ht:t<=NT) (h0:0<=t):v<=NT:=by
 rcases h with ⟨rfl,_⟩ | ⟨⟨⟨j,hw⟩,_⟩,_⟩
 ·omega
 ·cases hw with
  | nil=>exact ht
  | snoc _ hl _ hd _=>
    obtain ⟨d,b,a,rfl⟩:=hd
    unfold goes at a
    simp only [Nx,Ob] at a
    exact a.2
theorem Nzb {l:Leg} {d:Nat} (hl:l.days=127) (h1:0<=1440*(d:Int)+l.dep-l.cut) (h2:1440*(d:Int)+l.dep+l.mins<=NT):goes l d=true:=by
 have hr:Go.Net.runs l.days d=true:=by
  rw [hl]
  have:d % 7<7:=Pr _ (by decide)
  unfold Go.Net.runs
  generalize d % 7=m at this
  match m,this with
  | 0,_=>rfl
  | 1,_=>rfl
  | 2,_=>rfl
  | 3,_=>rfl
  | 4,_=>rfl
  | 5,_=>rfl
  | 6,_=>rfl
 unfold goes
 rw [hr,Ns h1,Ns h2];rfl
theorem nx {l:Leg} {t:Int} (d:Nat) (hl:l.days=127) (hd:d<730485) (h1:0<=1440*(d:Int)+l.dep-l.cut) (h2:1440*(d:Int)+l.dep+l.mins<=NT) (a:t<=1440*(d:Int)+l.dep-l.cut) (e:1440*((d:Int)-1)+l.dep-l.cut<t):RJ l t=some (1440*(d:Int)+l.dep):=
 Nk8 (by rw [YW];exact hd) (Nzb hl h1 h2) a fun c b ⟨_,h⟩=>by omega
end Go.Proofs.YtkppjkkkdpcgiaaGreat.Fn


namespace Go.Proofs.YtkppjkkkdpcgiaaGreat.Fn
open Go.AM Go.AM.Sym Go.Scan
section
variable {κ ν:Type} [DecidableEq κ]
def UZ (k:κ):List (κ×ν)->Option ν
 | []=>none
 | (k',v)::l=>if k'=k then some v else UZ k l
def Vu (k:κ) (v:ν):List (κ×ν)->List (κ×ν)
 | []=>[(k,v)]
 | (k',v')::l=>if k'=k then (k',v)::l else (k',v')::Vu k v l
def fk (k:κ):List (κ×ν)->Nat->Option (Nat×ν)
 | [],_=>none
 | (k',v)::l,i=>if k'=k then some (i,v) else fk k l (i+1)
theorem ZK (k:κ):∀(l:List (κ×ν)) (i:Nat),(fk k l i).map (·.2)=UZ k l
 | [],_=>rfl
 | (k',v)::l,i=>by
   unfold fk UZ
   by_cases h:k'=k
   ·rw [Nh h,Nh h];rfl
   ·rw [Ng h,Ng h];exact ZK k l (i+1)
theorem MK {k:κ} {v v':ν}:∀{l:List (κ×ν)} {i j:Nat},fk k l i=some (j,v)->i<=j/\j-i<l.length/\l.set (j-i) (k,v')=Vu k v' l
 | [],_,_,h=>by cases h
 | (k2,v2)::l,i,j,h=>by
   unfold fk at h
   unfold Vu
   by_cases h2:k2=k
   ·rw [Nh h2] at h
    cases h
    rw [Nh h2,Qr,h2]
    exact ⟨Nd _,by simp,rfl⟩
   ·rw [Ng h2] at h
    obtain ⟨b,c,a⟩:=MK (v':=v') h
    rw [Ng h2]
    have e:j-i=(j-(i+1))+1:=by omega
    rw [e,Q2,a]
    exact ⟨by omega,by simp only [Nk];omega,rfl⟩
theorem Ncx {k:κ} {v':ν}:∀{l:List (κ×ν)} {i:Nat},fk k l i=none->l++[(k,v')]=Vu k v' l
 | [],_,_=>rfl
 | (k2,v2)::l,i,h=>by
   unfold fk at h
   unfold Vu
   by_cases h2:k2=k
   ·rw [Nh h2] at h;cases h
   ·rw [Ng h2] at h
    rw [Ng h2,<-Ncx h,O5]
theorem Nel {k k':κ} {v:ν}:∀{l:List (κ×ν)},UZ k' (Vu k v l)=if k'=k then some v else UZ k' l
 | []=>by
   unfold Vu UZ
   by_cases h:k'=k
   ·rw [Nh h.symm,Nh h]
   ·rw [Ng fun q=>h q.symm,Ng h];rfl
 | (k2,v2)::l=>by
   unfold Vu
   by_cases h2:k2=k
   ·rw [Nh h2]
    subst h2
    by_cases h:k'=k2
    ·rw [Nh h];unfold UZ;rw [Nh h.symm]
    ·rw [Ng h];unfold UZ;rw [Ng fun q=>h q.symm,Ng fun q=>h q.symm]
   ·rw [Ng h2]
    by_cases h:k2=k'
    ·have:¬k'=k:=fun q=>h2 (h.trans q)
     rw [Ng this];unfold UZ;rw [Nh h,Nh h]
    ·unfold UZ;rw [Ng h,Ng h];exact Nel
theorem Mt {k:κ} {v:ν}:∀{l:List (κ×ν)},(Vu k v l).length<=l.length+1
 | []=>by simp [Vu]
 | (k2,v2)::l=>by
   unfold Vu
   split
   ·simp
   ·have:=Mt (k:=k) (v:=v) (l:=l);simp only [Nk];omega
def Rv (kv:κ->Value) (vv:ν->Value) (es:List (κ×ν)):List (Value×Value):=es.map fun x=>(kv x.1,vv x.2)
def N1m (kv:κ->Value):Prop:=∀a b,Ub (kv a) (kv b)=some (decide (a=b))
variable {kv:κ->Value} {vv:ν->Value}
theorem Va (hk:N1m kv) (k:κ):∀(es:List (κ×ν)) (i:Nat),findKey (kv k) (Rv kv vv es) i=some ((fk k es i).map fun x=>(x.1,vv x.2))
 | [],_=>rfl
 | (k',v)::l,i=>by
   unfold Rv
   rw [N9]
   unfold findKey fk
   rw [hk]
   by_cases h:k'=k
   ·rw [Nh h,Ns h.symm];rfl
   ·rw [Ng h,Oa fun q=>h q.symm]
    exact Va hk k l (i+1)
end
def kM (k:Int×Int):Value:=.agg #[Vi k.1,Vi k.2]
def kS (k:Int×Int×Int):Value:=.agg #[Vi k.1,Vi k.2.1,.int .u8 k.2.2]
def vI (n:Int):Value:=Vi n
theorem Nyz:N1m kM:=fun a b=>by
 obtain ⟨c,d⟩:=a;obtain ⟨b1,b2⟩:=b
 simp only [kM,Ub,Tx,if_true,Nr,Bool.and_true,Prod.mk.injEq,Bool.decide_and]
 rfl
theorem N79:N1m kS:=fun a b=>by
 obtain ⟨c,d,a3⟩:=a;obtain ⟨b1,b2,b3⟩:=b
 simp only [kS,Ub,Tx,if_true,Nr,Bool.and_true,Prod.mk.injEq,Bool.decide_and]
 rfl
theorem Nyy {k:Int×Int}:SF (.ints [.i64,.i64]) (kM k)=true:=by simp [kM,SF,RA]
theorem N78 {k:Int×Int×Int}:SF (.ints [.i64,.i64,.u8]) (kS k)=true:=by simp [kS,SF,RA]
theorem Nzd (k:Int×Int):∀l,Wx k l=UZ k l
 | []=>rfl
 | (k',v)::l=>by unfold Wx UZ;rw [Nzd k l]
theorem Nay (k:Int×Int) (m:Mk):∀l,WP k m l=Vu k m l
 | []=>rfl
 | (k',v)::l=>by unfold WP Vu;rw [Nay k m l]
theorem Nlf {α β:Type} {f:α->Option β} {g:α->β}:∀{l:List α},(∀x∈l,f x=some (g x))->Yl f l=some (l.map g)
 | [],_=>rfl
 | x::l,h=>by
   unfold Yl
   rw [h x (by simp),Nlf (l:=l) fun y a=>h y (by simp [a])]
   rfl
theorem Nto {H:NA} {I R lim:Nat} {es:List (Value×Value)} {seen:List Nat} {Q:Value->NA->Prop} (hi:NC H I=.iter (some R) es.length seen) (hl:lim<=I) (hm:NC H R=.map es) (hk:∀e∈es,V4 e.1=true)
  (h0:SE es.length seen=[]->Q (.tuple #[.bool false]) H)
  (h1:∀j e,j∈SE es.length seen->es[j]? = some e->Q (.tuple #[.bool true,e.1,e.2]) (H.set I (.iter (some R) es.length (seen++[j])))) :
  nxK false (Zw lim (Vp I) H) Q:=by
 have hn:Zw lim (Vp I) H=match SE es.length seen with
   | []=>some [(.tuple #[.bool false],H)]
   | j::l=>Yl (fun j=>match es[j]? with
     | some e=>if V4 e.1 then some (.tuple #[.bool true,e.1,e.2],H.set I (.iter (some R) es.length (seen++[j]))) else none
     | none=>none) (j::l):=by
  unfold Zw
  simp only [hi,hl,if_true,TG,hm]
  cases SE es.length seen<;>rfl
 rw [hn]
 have d:∀j∈SE es.length seen,j<es.length:=fun j b=>by
  unfold SE at b
  exact List.mem_range.mp (Oy.mp b).1
 split
 ·rename_i e
  exact ⟨fun h=>(by cases h),fun r hr=>by
   rw [Nl] at hr;subst hr;exact h0 e⟩
 ·rename_i j l e
  rw [<-e]
  rw [Nlf (g:=fun j=>(.tuple #[.bool true,(es.getD j (undef,undef)).1,(es.getD j (undef,undef)).2],H.set I (.iter (some R) es.length (seen++[j])))) fun j b=>by
   have a:=d j b
   have e1:es[j]? = some es[j]:=Nf a
   have e2:es.getD j (undef,undef)=es[j]:=by rw [Na,e1];rfl
   rw [e1,e2]
   simp only [hk _ (P6 a),if_true]]
  refine ⟨fun h=>(by cases h),fun r hr=>?_⟩
  obtain ⟨c,b,rfl⟩:=List.mem_map.mp hr
  have a:=d c b
  have e1:es[c]? = some es[c]:=Nf a
  have e2:es.getD c (undef,undef)=es[c]:=by rw [Na,e1];rfl
  have:=h1 c _ b e1
  simp only [e2]
  exact this
theorem Npt {H:NA} {I R:Nat} {es:List (Value×Value)} {seen:List Nat} {j:Nat} {e:Value×Value} (hi:NC H I=.iter (some R) es.length (seen++[j])) (hm:NC H R=.map es) (he:es[j]? = some e) (hk:V4 e.1=true) :
  Y7 (Vp I) H=some (.tuple #[e.1,e.2],H):=by
 unfold Y7
 simp only [hi,TG,hm,List.getLast?_concat,he,hk,if_true]
theorem Nn4 {H:NA} {R:Nat} {es:List (Value×Value)} (hm:NC H R=.map es):Uh (.map (some R)) H=some (Vp H.length,H++[.iter (some R) es.length []]):=by
 unfold Uh
 simp only [TG,hm]
structure MetOk (n:Nat) (seen:List Nat):Prop where
 nd:seen.Nodup
 lt:∀j∈seen,j<n
theorem MetOk.add {n:Nat} {seen:List Nat} (h:MetOk n seen) {j:Nat} (e:j∈SE n seen):MetOk n (seen++[j]):=by
 unfold SE at e
 obtain ⟨h1,h2⟩:=Oy.mp e
 have hn:j∉seen:=by simpa using h2
 refine ⟨Qp.mpr ⟨h.nd,List.pairwise_singleton _ _,fun a ha b d c=>?_⟩,fun k hk=>?_⟩
 ·rw [Nl] at d;subst d;subst c;exact hn ha
 ·rcases N0.mp hk with hk | hk
  ·exact h.lt k hk
  ·rw [Nl] at hk;subst hk;exact List.mem_range.mp h1
theorem MetOk.len {n:Nat} {seen:List Nat} (h:MetOk n seen):seen.length<=n:=by
 have:=h.nd.length_le_of_subset (l₂:=List.range n) fun j a=>List.mem_range.mpr (h.lt j a)
 simpa using this
theorem MetOk.perm {n:Nat} {seen:List Nat} (h:MetOk n seen) (b:SE n seen=[]):seen.Perm (List.range n):=by
 refine (List.perm_ext_iff_of_nodup h.nd List.nodup_range).mpr fun j=>⟨fun a=>List.mem_range.mpr (h.lt j a),fun a=>?_⟩
 unfold SE at b
 rw [List.filter_eq_nil_iff] at b
 simpa using b j a
def No1 {κ ν:Type} [Inhabited ν] (es:List (κ×ν)) (seen:List Nat):List ν:=seen.map fun j=>gt (es.map (·.2)) j
theorem Nx2 {κ ν:Type} [Inhabited ν] {es:List (κ×ν)} {seen:List Nat} (h:MetOk es.length seen) (a:SE es.length seen=[]):(No1 es seen).Perm (es.map (·.2)):=by
 have e:(List.range es.length).map (fun j=>gt (es.map (·.2)) j)=es.map (·.2):=by
  refine Pe (by simp) fun i h1 h2=>?_
  rw [Pz,List.getElem_range,PU h2]
 have hp:(seen.map fun j=>gt (es.map (·.2)) j).Perm ((List.range es.length).map fun j=>gt (es.map (·.2)) j):=(h.perm a).map _
 rw [e] at hp
 exact hp
def encE (e:Ev):List Value:=[Vi e.item,Vi e.place,Vi e.scanner,.int .u8 e.kind,Vi e.at',Vi e.seen,Vi e.time]
def QE (e:Ev):List Value:=[Vi e.item,Vi e.place,Vi e.scanner,.int .u8 e.kind,Vi e.at',Vi e.seen]
def QH (m:Mk):List Value:=[Vi m.scanner,Vi m.at',Vi m.off]
theorem OE (e:Ev):(encE e).length=7:=id rfl
theorem PN (e:Ev):(QE e).length=6:=id rfl
theorem QK (e:Mk):(QH e).length=3:=id rfl
theorem VN {e:Ev}:(encE e)[0]? = some (Vi e.item):=id rfl
theorem Uv {e:Ev}:(encE e)[1]? = some (Vi e.place):=id rfl
theorem Nz5 {e:Ev}:(encE e)[2]? = some (Vi e.scanner):=id rfl
theorem Uu {e:Ev}:(encE e)[3]? = some (.int .u8 e.kind):=id rfl
theorem Nz4 {e:Ev}:(encE e)[4]? = some (Vi e.at'):=id rfl
theorem Nz3 {e:Ev}:(encE e)[5]? = some (Vi e.seen):=id rfl
theorem Si {e:Ev}:(encE e)[6]? = some (Vi e.time):=id rfl
theorem Nzy {e:Ev}:(QE e)[0]? = some (Vi e.item):=id rfl
theorem ZN {e:Ev}:(QE e)[1]? = some (Vi e.place):=id rfl
theorem Y1 {e:Ev}:(QE e)[2]? = some (Vi e.scanner):=id rfl
theorem ZM {e:Ev}:(QE e)[3]? = some (.int .u8 e.kind):=id rfl
theorem Y0 {e:Ev}:(QE e)[4]? = some (Vi e.at'):=id rfl
theorem Yz {e:Ev}:(QE e)[5]? = some (Vi e.seen):=id rfl
theorem N57 {m:Mk}:(QH m)[0]? = some (Vi m.scanner):=id rfl
theorem Npx {m:Mk}:(QH m)[1]? = some (Vi m.at'):=id rfl
theorem Npw {m:Mk}:(QH m)[2]? = some (Vi m.off):=id rfl
theorem UE {e:Ev}:(encE e).take 6=QE e:=id rfl
theorem Xr [OA] {mp:Bool} {lim:Nat} {a:Int} {H:NA} {Q:Value->NA->Prop}:NP E mp lim 120 [Vi a] H Q=Q (.bool (decide (1<=a/\a<=999999))) H:=by
 refine pc (by decide) N9t rfl rfl ?_
 rw [Oar,N6w]
 by_cases h1:1<=a
 ·simp only [n120,N7p,N3 h1,SB,seval,NJ,NK,reduceCtorEq,NE,ND]
 ·simp only [n120,N7p,Np h1,SB,seval,NJ,NK,reduceCtorEq,NE,ND]
theorem Nhb [OA] {mp:Bool} {lim:Nat} {a:Int} {H:NA} {Q:Value->NA->Prop}:NP E mp lim 121 [Vi a] H Q=Q (.bool (decide (0<=a/\a<=Vx))) H:=by
 refine pc (by decide) N9s rfl rfl ?_
 rw [Oaq,N6v]
 unfold Vx
 by_cases h1:0<=a
 ·simp only [n121,N7o,N3 h1,SB,seval,NJ,NK,reduceCtorEq,NE,ND]
 ·simp only [n121,N7o,Np h1,SB,seval,NJ,NK,reduceCtorEq,NE,ND]
theorem YG [OA] {mp:Bool} {lim:Nat} {e:Ev} {H:NA} {Q:Value->NA->Prop}:NP E mp lim 92 [.agg (QE e).toArray] H Q=Q (.bool (decide (RG e))) H:=by
 refine pc (by decide) e92 rfl rfl ?_
 rw [b92,c92]
 have no:¬RG e->decide (RG e)=false:=fun h=>Oa h
 by_cases h1:1<=e.item/\e.item<=999999
 case neg=>simp only [n92,r92,QE,Xr,Oa h1,no (fun h=>h1 h.1),SB,seval,NF,NJ,NE,place,NB,ND]
 by_cases h2:1<=e.place/\e.place<=999999
 case neg=>simp only [n92,r92,QE,Xr,Ns h1,Oa h2,no (fun h=>h2 h.2.1),SB,seval,NF,NJ,NE,place,NB,ND]
 by_cases a:1<=e.scanner/\e.scanner<=999999
 case neg=>simp only [n92,r92,QE,Xr,Ns h1,Ns h2,Oa a,no (fun h=>a h.2.2.1),SB,seval,NF,NJ,NE,place,NB,ND]
 by_cases b:1<=e.kind
 case neg=>simp only [n92,r92,QE,Xr,Ns h1,Ns h2,Ns a,Np b,no (fun h=>b h.2.2.2.1.1),SB,seval,NF,NJ,NK,NE,place,NB,ND]
 by_cases h5:e.kind<=4
 case neg=>simp only [n92,r92,QE,Xr,Ns h1,Ns h2,Ns a,N3 b,Np h5,no (fun h=>h5 h.2.2.2.1.2),SB,seval,NF,NJ,NK,NE,place,NB,ND]
 by_cases c:0<=e.at'/\e.at'<=Vx
 case neg=>simp only [n92,r92,QE,Xr,Nhb,Ns h1,Ns h2,Ns a,N3 b,N3 h5,Oa c,no (fun h=>c h.2.2.2.2.1),SB,seval,NF,NJ,NK,NE,place,NB,ND]
 have d:decide (RG e)=decide (0<=e.seen/\e.seen<=Vx):=by
  rw [decide_eq_decide]
  exact ⟨fun h=>h.2.2.2.2.2,fun h=>⟨h1,h2,a,⟨b,h5⟩,c,h⟩⟩
 simp only [n92,r92,QE,Xr,Nhb,Ns h1,Ns h2,Ns a,N3 b,N3 h5,Ns c,d,SB,seval,NF,NJ,NK,NE,place,NB,ND]
end Go.Proofs.YtkppjkkkdpcgiaaGreat.Fn


namespace Go.Proofs.YtkppjkkkdpcgiaaGreat.Fn
open Go.AM Go.AM.Sym Go.Net Go.Scan
theorem Ndg [OA] {mp:Bool} {lim B:Nat} {e:Ev} {o:Bool} {H:NA} {Q:Value->NA->Prop} (hB:NC H B=.cells o (QE e)):NP E mp lim 55 [.slice (Sa B) 1 1] H Q=Q (.bool (decide (RG e))) H:=by
 refine pc (by decide) e55 rfl rfl ?_
 rw [b55,c55]
 have a:=fun X=>(OM.refl.app (X:=X)).cells hB
 have i0:∀k (H1:NA),MC 6 (.slice (Sa B) 1 1) (.int k 0) H1=some (Vp B,H1):=fun k H1=>by simp [MC,addr_add]
 have b:IntKind.i64.wrap (0+1)=1:=by decide
 simp only [n55,SB,Nat.reduceLT,NJ,NK,reduceCtorEq,NE,Int.reduceLT]
 rw [Nna,OD Nrg.eq_1]
 cases h:decide (RG e) with
 | false=>simp only [n55,r55,a,i0,PN,NM,NH,YG,h,SB,Nat.reduceLT,NF,NJ,Nat.reduceEqDiff,NK,QY,place,NB,Nat.reduceAdd,ND,Int.reduceLT]
 | true=>
   simp only [n55,a,i0,PN,NM,NH,YG,h,b,SB,Nat.reduceLT,NF,NJ,Nat.reduceEqDiff,NK,QY,place,NB,Nat.reduceAdd,Int.reduceLT]
   rw [XI,OD Nrg.eq_1]
   simp only [n55,r55,SB,Nat.reduceLT,NJ,Nat.reduceEqDiff,NK,ND,Int.reduceLT]
def Nzn (es:List Ev) (i:Nat):Prop:=RG (gt es i)/\0<=(gt es i).time/\(gt es i).time<=NT/\(0<i->(gt es i).item=(gt es 0).item/\(gt es (i-1)).time<=(gt es i).time)
instance (es:List Ev) (i:Nat):Decidable (Nzn es i):=by unfold Nzn;infer_instance
def Nfu (es:List Ev):Prop:=∀i,i<es.length->Nzn es i
instance (es:List Ev):Decidable (Nfu es):=by unfold Nfu;infer_instance
def XP (P:List Int) (L:List Leg) (es:List Ev):Int:=if QP P L≠0 then QP P L else if 40<es.length then 5 else if Nfu es then 0 else 2
theorem N55 {P:List Int} {L:List Leg} {es:List Ev} (h:XP P L es=0):QP P L=0/\es.length<=40/\Nfu es:=by
 unfold XP at h
 split at h
 ·contradiction
 ·split at h
  ·cases h
  ·split at h
   ·rename_i h1 h2 a
    exact ⟨by simpa using h1,by omega,a⟩
   ·cases h
theorem N0h [OA] {mp:Bool} {lim ce:Nat} {pp pl pe:Option Addr} {P:List Int} {L:List Leg} {cp cl:Nat} {es:List Ev} {H:NA} {Q:Value->NA->Prop} (hn:NetIn H pp pl P L) (hs:Sl H encE 7 pe es) (I:es.length<2 ^ 63) :
  NP E mp lim 69 [.agg (RX pp P.length cp pl L.length cl).toArray,.slice pe es.length ce] H Q=Q (Vi (XP P L es)) H:=by
 refine pc (by decide) e69 rfl rfl ?_
 rw [b69,c69]
 have hv:=fun X (mp:Bool) (lim:Nat) (Q:Value->NA->Prop)=>XR (mp:=mp) (lim:=lim) (cp:=cp) (cl:=cl) (Q:=Q) (hn.app X)
 by_cases h0:QP P L=0
 case neg=>
  have e:XP P L es=QP P L:=by unfold XP;rw [Nh h0]
  simp only [n69,r69,PW,NM,hv,Np h0,e,SB,seval,NF,NJ,NK,NE,place,NB,ND]
 by_cases t:(40:Int)<(es.length:Int)
 ·have e:XP P L es=5:=by unfold XP;rw [Ng (by simpa using h0),Nh (by omega)]
  simp only [n69,r69,PW,NM,hv,N3 h0,N3 t,e,SB,seval,NF,NJ,NK,NE,place,NB,ND]
 have e2:XP P L es=if Nfu es then 0 else 2:=by unfold XP;rw [Ng (by simpa using h0),Ng (by omega)]
 simp only [n69,PW,NM,hv,N3 h0,Np t,SB,seval,NF,NJ,NK,NE,place,NB]
 refine NZ (fun i=>es.length-i) (fun i fr G=>i<=es.length/\fr 1=.slice pe es.length ce/\fr 16=.slice pe es.length ce/\fr 17=Vi es.length/\fr 18=Vi i/\OM H G/\∀j,j<i->Nzn es j) 0
  ⟨Nv _,rfl,rfl,rfl,by rfl,OM.refl.app,fun j z=>by omega⟩ ?_
 intro i fr G ⟨hi,f1,d,b,f,u,n⟩ y
 rw [OD N4r.eq_1]
 refine NL ?_
 have hl:=u.len
 by_cases a:i<es.length
 case neg=>
  obtain rfl:i=es.length:=by omega
  rw [Nh (show Nfu es from n)] at e2
  simp only [n69,r69,b,f,a,e2,SB,seval,NJ,NK,ND]
 have l:=u.sl hs
 have p:=fun X=>(l.app X).loadCells OE a
 have q:=fun c (kk:IntKind) (H1:NA)=>l.idx (c:=c) (k:=kk) (H1:=H1) a
 have r:=fun X=>(l.app X).loadCell OE (i:=0) (j:=0) (by omega) (by decide)
 rw [VN] at r
 replace r:∀X,AM.loadCell (G++X) (((YV pe 7 0).add 0).add 0)=some (Vi (gt es 0).item):=r
 have i0:=fun c (kk:IntKind) (H1:NA)=>l.idx (c:=c) (k:=kk) (H1:=H1) (i:=0) (by omega)
 simp only [Int.cast_ofNat_Int] at i0
 have v:IntKind.i64.wrap ((i:Int)+1)=((i+1:Nat):Int):=OV (by omega)
 have m:¬Nzn es i->XP P L es=2:=fun h=>by rw [e2,Ng fun F=>h (F i a)]
 have J:=fun (G:NA) (B:Nat) (o:Bool) (h:NC G B=.cells o (QE (gt es i))) (mp:Bool) (lim:Nat) (Q:Value->NA->Prop)=>Ndg (mp:=mp) (lim:=lim) (Q:=Q) h
 have g:∀(X:NA) (mp:Bool) (lim:Nat) (Q:Value->NA->Prop),NP E mp lim 55 [.slice (Sa (G.length+1)) 1 1] (G++Vc (encE (gt es i))::Vc (QE (gt es i))::X) Q=Q (.bool (decide (RG (gt es i)))) (G++Vc (encE (gt es i))::Vc (QE (gt es i))::X):=fun X mp lim Q=>Ndg (o:=false) (by rw [NR];rfl)
 by_cases h1:RG (gt es i)
 case neg=>
  simp only [n69,r69,d,b,f,a,p,q,OE,NH,hl,UE,PN,g,Oa h1,SB,seval,NF,NJ,NK,QY,place,NB,ND]
  rw [m fun h=>h1 h.1]
 by_cases h2:(gt es i).time<0
 ·simp only [n69,r69,d,b,f,a,p,q,OE,Si,NH,hl,UE,PN,g,Ns h1,N3 h2,SB,seval,NF,NJ,NK,QY,place,NB,ND]
  rw [m fun h=>by have:=h.2.1;omega]
 by_cases s:1051898399<(gt es i).time
 ·simp only [n69,r69,d,b,f,a,p,q,OE,Si,NH,hl,UE,PN,g,Ns h1,Np h2,N3 s,SB,seval,NF,NJ,NK,QY,place,NB,ND]
  rw [m fun h=>by have:=h.2.2.1;unfold NT at this;omega]
 by_cases K:0<i
 case neg=>
  obtain rfl:i=0:=by omega
  have M:IntKind.i64.wrap (0+1)=1:=by decide
  simp only [n69,d,b,f,a,p,OE,Si,NH,hl,UE,PN,g,Ns h1,Np h2,Np s,i0,SB,seval,NF,NJ,NK,QY,place,NB]
  exact y 1 _ _ ⟨by omega,f1,d,b,by rfl,u.app,fun j z=>by
   obtain rfl:j=0:=by omega
   exact ⟨h1,by omega,by unfold NT;omega,fun h=>by omega⟩⟩ (by omega)
 obtain ⟨k,rfl⟩:∃k,i=k+1:=⟨i-1,by omega⟩
 have w:=fun X=>(l.app X).loadCell OE (i:=k) (j:=6) (by omega) (by decide)
 rw [Si] at w
 have A:=fun c (kk:IntKind) (H1:NA)=>l.idx (c:=c) (k:=kk) (H1:=H1) (i:=k) (by omega)
 have C:IntKind.i64.wrap (((k+1:Nat):Int)-1)=(k:Int):=by rw [NN (by omega) (by omega)];omega
 have kp:=N3 (show 0<k+1 by omega)
 by_cases h5:(gt es (k+1)).item=(gt es 0).item
 case neg=>
  simp only [n69,r69,f1,d,b,f,a,p,q,OE,VN,Si,NH,hl,UE,PN,g,Ns h1,Np h2,Np s,r,i0,kp,Np h5,SB,seval,NF,NJ,NK,QY,place,NB,ND]
  rw [m fun h=>h5 (h.2.2.2 (by omega)).1]
 by_cases x:(gt es (k+1)).time<(gt es k).time
 ·simp only [n69,r69,f1,d,b,f,a,p,q,OE,VN,Si,NH,hl,UE,PN,g,Ns h1,Np h2,Np s,r,i0,kp,N3 h5,w,A,C,N3 x,SB,seval,NF,NJ,NK,QY,place,NB,ND]
  rw [m fun h=>by have D:=(h.2.2.2 (by omega)).2;rw [Pt] at D;omega]
 simp only [n69,f1,d,b,f,a,p,q,OE,VN,Si,NH,hl,UE,PN,g,Ns h1,Np h2,Np s,r,i0,kp,N3 h5,w,A,C,Np x,v,SB,seval,NF,NJ,NK,QY,place,NB]
 exact y (k+2) _ _ ⟨by omega,f1,d,b,rfl,u.app,fun j z=>by
  rcases Ou j (k+1) with h | h
  ·exact n j h
  ·obtain rfl:j=k+1:=by omega
   exact ⟨h1,by omega,by unfold NT;omega,fun _=>⟨h5,by rw [Pt];omega⟩⟩⟩ (by omega)
def Nlg:Nat:=5000000
theorem Nx6:Nlg=5000000:=rfl
attribute [irreducible] Nlg
def Nco (P:List Int) (L:List Leg) (p t q:Int):Int:=(R5 50 (OJ P) (t+86400) L p t Nlg).getD (OJ P q) (-1)
theorem Nad {P:List Int} {L:List Leg} {p t q:Int} (hn:NetOk 50 P L (OJ P)) (hp:p∈P) (c:q∈P) (ht:0<=t):Tq L p t q (Nco P L p t q):=by
 obtain ⟨n,h1,h2,_⟩:=Nmw (lim:=t+86400) hn hp ht (by omega)
 have a:=Nfh hn hp ht (by omega:t<=t+86400) h2 q c
 obtain ⟨j,b⟩:∃j,Nlg=n+j:=⟨Nlg-n,by rw [Nx6];omega⟩
 unfold Nco
 rw [b,Nfg h2 j]
 exact a
def QI (P:List Int) (L:List Leg) (a b:Ev):Int:=
 if a.kind=4 then 80 else if a.place=b.place then 0 else if b.place∉P then 80 else if Uk P L a.place a.place a.time≠0 then 80 else
 if Nco P L a.place a.time b.place<0 then 80 else min (max (Nco P L a.place a.time b.place-b.time) 0) 60
theorem Vv {P:List Int} {L:List Leg} {a b:Ev}:0<=QI P L a b/\QI P L a b<=80:=by
 unfold QI
 repeat' split
 all_goals omega
theorem Tu {α:Type} {G G':NA} {enc:α->List Value} {e:Nat} {p:Option Addr} {l:List α} (h:Sl G enc e p l) (hk:∀a,p=some a->l≠[]->∀ro c,NC G a.block=.cells ro c->NC G' a.block=.cells ro c):Sl G' enc e p l:=by
 cases p with
 | none=>exact h
 | some a=>
   refine ⟨h.1,fun hn=>?_⟩
   obtain ⟨ro,c,h2,b⟩:=h.2 hn
   exact ⟨ro,c,hk a rfl hn _ _ h2,b⟩
def Off {α:Type} (S:List Nat) (p:Option Addr) (l:List α):Prop:=∀a,p=some a->l≠[]->a.block∉S
theorem Off.grow {α:Type} {S:List Nat} {p:Option Addr} {l:List α} {G:NA} {enc:α->List Value} {e b:Nat} (h:Off S p l) (hs:Sl G enc e p l) (f:G.length<=b):Off (b::S) p l:=fun a ha hn hm=>by
 subst ha
 obtain ⟨ro,c,h2,d⟩:=hs.2 hn
 have:=NG h2
 rcases Nn.1 hm with h1 | h1
 ·omega
 ·exact h a rfl hn h1
def WB (S:List Nat) (G:NA) (P:List Int) (L:List Leg) (a t:Int) (v:Value):Prop:=
 (Uk P L a a t≠0/\v=Vz)\/(Uk P L a a t=0/\∃q T,v=.slice q P.length (loose 1)/\Sl G encI 1 q T/\N66 P L a t T/\Off S q T)
theorem WB.keep {S:List Nat} {G G':NA} {P:List Int} {L:List Leg} {a t:Int} {v:Value} (h:WB S G P L a t v) (hk:∀b ro c,b∉S->NC G b=.cells ro c->NC G' b=.cells ro c):WB S G' P L a t v:=by
 rcases h with h | ⟨h,q,T,h1,h2,e,d⟩
 ·exact .inl h
 ·exact .inr ⟨h,q,T,h1,Tu h2 fun a ha hn ro c=>hk _ _ _ (d a ha hn),e,d⟩
def M6 (ms:List (Int×Int×Value)):List (Value×Value):=ms.map fun x=>(.agg #[Vi x.1,Vi x.2.1],x.2.2)
structure PI (lim R M:Nat) (S:List Nat) (G:NA) (pp pl:Option Addr) (cp cl:Nat) (P:List Int) (L:List Leg):Prop where
 net:NetIn G pp pl P L
 op:Off S pp P
 ol:Off S pl L
 r:NC G R=Vc [.slice pp P.length cp,.slice pl L.length cl,.map (some M)]
 oR:R∉S
 oM:M∉S
 m:∃ms,NC G M=.map (M6 ms)/\∀x∈ms,WB S G P L x.1 x.2.1 x.2.2
 lM:lim<=M
 sl:∀j∈S,j<G.length
section
variable {lim R M:Nat} {S:List Nat} {G G':NA} {pp pl:Option Addr} {cp cl:Nat} {P:List Int} {L:List Leg}
theorem PI.alive (h:PI lim R M S G pp pl cp cl P L):M<G.length:=by
 obtain ⟨ms,h1,_⟩:=h.m
 exact PT h1
theorem NetIn.sim {H:NA} (h:NetIn H pp pl P L) (hk:∀b ro c,NC H b=.cells ro c->NC G b=.cells ro c):NetIn G pp pl P L:=⟨h.sp.sim hk,h.sl.sim hk,h.np,h.nl,h.bys⟩
theorem PI.keep (h:PI lim R M S G pp pl cp cl P L) (hk:∀b ro c,b∉S->NC G b=.cells ro c->NC G' b=.cells ro c) (hM:NC G' M=NC G M) (hl:G.length<=G'.length):PI lim R M S G' pp pl cp cl P L:=by
 obtain ⟨ms,h1,h2⟩:=h.m
 exact ⟨⟨Tu h.net.sp fun a ha hn ro c=>hk _ _ _ (h.op a ha hn),Tu h.net.sl fun a ha hn ro c=>hk _ _ _ (h.ol a ha hn),h.net.np,h.net.nl,h.net.bys⟩,h.op,h.ol,hk _ _ _ h.oR h.r,h.oR,h.oM,⟨ms,hM.trans h1,fun x hx=>(h2 x hx).keep hk⟩,h.lM,fun j d=>by have:=h.sl j d;omega⟩
theorem PI.chg (h:PI lim R M S G pp pl cp cl P L) (hc:Chg S G G'):PI lim R M S G' pp pl cp cl P L:=
 h.keep (fun b ro c a d=>hc.cells d a) (hc.other _ h.alive h.oM) hc.len
theorem PI.app (h:PI lim R M S G pp pl cp cl P L) (X:NA):PI lim R M S (G++X) pp pl cp cl P L:=h.chg Chg.refl.app
theorem PI.chgk (h:PI lim R M S G pp pl cp cl P L) (hc:Chg [M] G G'):∀b ro c,NC G b=.cells ro c->NC G' b=.cells ro c:=fun b ro c a=>hc.cells a fun hm=>by
 obtain ⟨ms,h1,_⟩:=h.m
 rw [Nl.1 hm,h1] at a
 cases a
theorem WB.grow {b:Nat} {a t:Int} {v:Value} (h:WB S G P L a t v) (e:G.length<=b):WB (b::S) G P L a t v:=by
 rcases h with h | ⟨h,q,T,h1,h2,c,d⟩
 ·exact .inl h
 ·exact .inr ⟨h,q,T,h1,h2,c,d.grow h2 e⟩
theorem PI.growC {b:Nat} (h:PI lim R M S G pp pl cp cl P L) (hc:Chg S G G') (d:G.length<=b) (g:b<G'.length):PI lim R M (b::S) G' pp pl cp cl P L:=by
 have h':=h.chg hc
 obtain ⟨ms,h1,h2⟩:=h.m
 have n:=NG h.r
 have hM:=h.alive
 refine ⟨h'.net,h.op.grow h.net.sp d,h.ol.grow h.net.sl d,h'.r, ?_, ?_,⟨ms,(hc.other _ hM h.oM).trans h1,fun x hx=>?_⟩,h.lM, ?_⟩
 ·intro hm
  rcases Nn.1 hm with e | e
  ·omega
  ·exact h.oR e
 ·intro hm
  rcases Nn.1 hm with e | e
  ·omega
  ·exact h.oM e
 ·rcases (h2 x hx).grow d with k | ⟨k,q,T,k1,k2,k3,f⟩
  ·exact .inl k
  ·exact .inr ⟨k,q,T,k1,Tu k2 fun a ha hn ro c i=>hc.cells i fun hm=>f a ha hn (Nj _ hm),k3,f⟩
 ·intro j l
  rcases Nn.1 l with e | e
  ·omega
  ·have:=h.sl j e;have:=hc.len;omega
theorem PI.grow {b:Nat} (h:PI lim R M S G pp pl cp cl P L) (X:NA) (c:G.length<=b) (a:b<G.length+X.length):PI lim R M (b::S) (G++X) pp pl cp cl P L:=
 h.growC Chg.refl.app c (by simpa using a)
theorem PI.sub {S':List Nat} (h:PI lim R M S G pp pl cp cl P L) (hS:∀j∈S',j∈S):PI lim R M S' G pp pl cp cl P L:=by
 obtain ⟨ms,h1,h2⟩:=h.m
 refine ⟨h.net,fun a ha hn hm=>h.op a ha hn (hS _ hm),fun a ha hn hm=>h.ol a ha hn (hS _ hm),h.r,fun hm=>h.oR (hS _ hm),fun hm=>h.oM (hS _ hm),⟨ms,h1,fun x hx=>?_⟩,h.lM,fun j b=>h.sl j (hS _ b)⟩
 rcases h2 x hx with k | ⟨k,q,T,k1,k2,k3,c⟩
 ·exact .inl k
 ·exact .inr ⟨k,q,T,k1,k2,k3,fun a ha hn hm=>c a ha hn (hS _ hm)⟩
end
theorem Ng0 {a t:Int}:∀(ms:List (Int×Int×Value)) (i:Nat),(findKey (.agg #[Vi a,Vi t]) (M6 ms) i=some none)\/∃j v,(a,t,v)∈ms/\findKey (.agg #[Vi a,Vi t]) (M6 ms) i=some (some (j,v))
 | [],i=>.inl rfl
 | (c,d,v)::ms,i=>by
   have e:M6 ((c,d,v)::ms)=(.agg #[Vi c,Vi d],v)::M6 ms:=rfl
   rw [e,Ni4]
   by_cases h:a=c/\t=d
   ·rw [Nh h]
    obtain ⟨rfl,rfl⟩:=h
    exact .inr ⟨i,v,Nm ..,rfl⟩
   ·rw [Ng h]
    rcases Ng0 ms (i+1) with h1 | ⟨j,w,h1,h2⟩
    ·exact .inl h1
    ·exact .inr ⟨j,w,Nj _ h1,h2⟩
theorem Nob [OA] {lim R M:Nat} {S:List Nat} {pp pl:Option Addr} {P:List Int} {L:List Leg} {cp cl:Nat} {a t:Int} {G:NA} {Q:Value->NA->Prop} (h:PI lim R M S G pp pl cp cl P L) (k:lim<=G.length)
  (y:∀G' v,Chg [M] G G'->PI lim R M S G' pp pl cp cl P L->WB S G' P L a t v->Q v G') :
  NP E false lim 137 [Vp R,Vi a,Vi t] G Q:=by
 refine Rm (by decide) N9h rfl ?_
 rw [Oae,N6m]
 obtain ⟨ms,hm,u⟩:=h.m
 have i:=h.alive
 have F:=fun X=>(OM.refl.app (X:=X)).cells h.r
 have D:∀X,NC (G++X) M=.map (M6 ms):=fun X=>by rw [NI i];exact hm
 have e:SF (.ints [.i64,.i64]) (.agg #[Vi a,Vi t])=true:=rfl
 rcases Ng0 (a:=a) (t:=t) ms 0 with s | ⟨j,v,hv,s⟩
 case inr=>
  simp only [n137,N5e,F,D,s,e,k,SB,seval,NJ,QY,reduceCtorEq,NE,place,NB,ND]
  exact y _ v (Chg.refl.app) (h.app _) ((u _ hv).keep fun b ro c _ g=>(OM.refl.app).cells g)
 have put:∀(G1:NA) (v:Value),Chg [] G G1->WB S G1 P L a t v->∃G2,(∀X:NA,(G1++X).set M (.map (M6 ms++[(Value.agg #[Vi a,Vi t],v)]))=G2++X)/\∀X,Chg [M] G (G2++X)/\PI lim R M S (G2++X) pp pl cp cl P L/\WB S (G2++X) P L a t v:=by
  intro G1 v hC hv
  have d:NC G1 M=.map (M6 ms):=hC.get hm i (by simp)
  obtain ⟨G2,e2,h2,B⟩:=OP (PT d) (.map (M6 ms++[(Value.agg #[Vi a,Vi t],v)]))
  have l:∀b ro c,NC G1 b=.cells ro c->NC G2 b=.cells ro c:=fun b ro c g=>B.cells g (by rintro rfl;rw [d] at g;cases g)
  have hk:∀b ro c,NC G b=.cells ro c->NC G2 b=.cells ro c:=fun b ro c g=>l _ _ _ (hC.cells g (by simp))
  have w:PI lim R M S G2 pp pl cp cl P L:=by
   refine ⟨h.net.sim hk,h.op,h.ol,hk _ _ _ h.r,h.oR,h.oM,⟨ms++[(a,t,v)],by rw [h2];simp [M6],fun x hx=>?_⟩,h.lM,fun j z=>by have:=h.sl j z;have:=hC.len;have:=B.len;omega⟩
   rcases N0.1 hx with hx | hx
   ·exact (u x hx).keep fun b ro c _=>hk b ro c
   ·rw [Nl] at hx;subst hx;exact hv.keep fun b ro c _=>l b ro c
  exact ⟨G2,e2,fun X=>⟨((hC.mono (fun j _ z=>by simp at z)).mut B (.inl (by simp))).app,w.app X,(hv.keep fun b ro c _=>l b ro c).keep fun b ro c _ g=>(OM.refl.app).cells g⟩⟩
 simp only [n137,F,D,s,e,k,SB,seval,NF,NJ,QY,reduceCtorEq,NE,place,NB]
 refine Nv1 (P:=P) (L:=L) (cp:=cp) (cl:=cl) (h.net.app _) (by simp;omega) (fun G1 he f=>?_) (fun G1 q T he f hT C H=>?_)
 ·have hC:=f.pre
  obtain ⟨G2,e2,h2⟩:=put G1 Vz hC (.inl ⟨he,rfl⟩)
  have n:=fun X=>(OM.refl.app (X:=X)).cells (f.cells NQ (by simp))
  have p:=fun X=>(OM.refl.app (X:=X)).cells (hC.cells h.r (by simp))
  have d:NC G1 M=.map (M6 ms):=hC.get hm i (by simp)
  have o:∀X,NC (G1++X) M=.map (M6 ms):=fun X=>by rw [NI (PT d)];exact d
  refine NL ?_
  simp only [n137,N5e,Np he,p,n,o,s,e,e2,h.lM,SB,seval,NJ,NK,reduceCtorEq,NE,ND]
  obtain ⟨k1,k3,A⟩:=h2 []
  exact y _ _ k1 k3 A
 ·have hC:=f.pre
  obtain ⟨G2,e2,h2⟩:=put G1 (.slice q P.length (loose 1)) hC (.inr ⟨he,q,T,rfl,C.sl PQ,hT,fun a ha _ hm=>by have h1:=(C.block ha).1;have h2:=h.sl _ hm;simp at h1;omega⟩)
  have n:=fun X=>(OM.refl.app (X:=X)).cells (f.cells NQ (by simp))
  have p:=fun X=>(OM.refl.app (X:=X)).cells (hC.cells h.r (by simp))
  have d:NC G1 M=.map (M6 ms):=hC.get hm i (by simp)
  have o:∀X,NC (G1++X) M=.map (M6 ms):=fun X=>by rw [NI (PT d)];exact d
  refine NL ?_
  simp only [n137,N5e,p,n,o,s,e,e2,h.lM,SB,seval,NJ,NK,reduceCtorEq,NE,ND]
  obtain ⟨k1,k3,A⟩:=h2 []
  exact y _ _ k1 k3 A
theorem Nss [OA] {mp:Bool} {lim c:Nat} {p:Option Addr} {P:List Int} {a:Int} {H:NA} {Q:Value->NA->Prop} (hs:Sl H encI 1 p P) (hn:P.length<2 ^ 63) :
  NP E mp lim 136 [.slice p P.length c,Vi a] H Q=Q (Vi (Ndv P a)) H:=by
 refine pc (by decide) N9i rfl rfl ?_
 rw [Oaf,N6n]
 simp only [n136,SB,seval,NJ,reduceCtorEq,NE]
 refine NZ (fun j=>P.length-j) (fun j fr G=>j<=P.length/\fr 0=.slice p P.length c/\fr 1=Vi a/\fr 7=Vi P.length/\fr 8=Vi j/\OM H G/\∀i,i<j->gt P i≠a) 0 ⟨Nv _,rfl,rfl,rfl,by rfl,OM.refl.app,fun i hi=>by omega⟩ ?_
 intro j fr G ⟨r,f0,f1,g,l,m,d⟩ o
 rw [OD Nyk.eq_1]
 refine NL ?_
 by_cases b:j<P.length
 case neg=>
  obtain rfl:j=P.length:=by omega
  simp only [n136,N7j,g,l,b,SB,seval,NJ,NK,ND]
  rw [Ndv,Ng fun hm=>?_]
  obtain ⟨i,hi,he⟩:=List.mem_iff_getElem.1 hm
  exact d i hi (by rw [PU hi];exact he)
 have f:=fun X=>((m.sl hs).app X).loadCell0 PQ b (by decide)
 simp only [encI,Od] at f
 have e:=fun c (k:IntKind) (H1:NA)=>(m.sl hs).idx (c:=c) (k:=k) (H1:=H1) b
 have n:IntKind.i64.wrap ((j:Int)+1)=((j+1:Nat):Int):=OV (by omega)
 by_cases he:a=gt P j
 ·simp only [n136,N7j,f0,f1,g,l,b,e,f,N3 he,SB,seval,NJ,NK,reduceCtorEq,ND]
  have hm:a∈P:=he▸QJ b
  rw [Ndv,Nh hm]
  congr 1
  have h1:OJ P a<=j:=by
   unfold OJ
   apply Of;intro hc
   have:=List.not_of_lt_findIdx (xs:=P) (p:=(· == a)) (i:=j) (by unfold List.idxOf at hc;omega)
   rw [PU b] at he
   simp [he] at this
  rcases Ou (OJ P a) j with h3 | h3
  ·exfalso
   have hl:OJ P a<P.length:=Ph hm
   have:=Q3 hl
   refine d _ h3 ?_
   rw [PU hl];exact this
  ·omega
 ·simp only [n136,f0,f1,g,l,b,e,f,n,Np he,SB,seval,NJ,NK,reduceCtorEq]
  exact o (j+1) _ _ ⟨by omega,f0,f1,g,rfl,m.app,fun i hi=>by
   rcases Ou i j with h | h
   ·exact d i h
   ·obtain rfl:i=j:=by omega
    exact fun q=>he q.symm⟩ (by omega)
theorem Nkm [OA] {lim R M:Nat} {S:List Nat} {pp pl:Option Addr} {P:List Int} {L:List Leg} {cp cl:Nat} {a b:Ev} {G:NA} {Q:Value->NA->Prop} (h:PI lim R M S G pp pl cp cl P L) (B:lim<=G.length) (u:0<=b.time/\b.time<=NT)
  (A:∀G',Chg [M] G G'->PI lim R M S G' pp pl cp cl P L->Q (Vi (QI P L a b)) G') :
  NP E false lim 107 [Vp R,.agg (encE a).toArray,.agg (encE b).toArray] G Q:=by
 refine Rm (by decide) N9x rfl ?_
 rw [Oav,c107]
 have C:=fun X=>(OM.refl.app (X:=X)).cells h.r
 unfold NT at u
 have fin:∀(n:Int) (X:NA),QI P L a b=n->Q (Vi n) (G++X):=fun n X e=>by
  rw [<-e];exact A _ (Chg.refl.app) (h.app _)
 by_cases h1:a.kind=4
 ·simp only [n107,Nso,Uu,N3 h1,SB,seval,NJ,NK,NE,place,NB,ND]
  exact fin _ _ (by unfold QI;rw [Nh h1])
 by_cases h2:a.place=b.place
 ·simp only [n107,Nso,Uv,Uu,Np h1,N3 h2,SB,seval,NJ,NK,NE,place,NB,ND]
  exact fin _ _ (by unfold QI;rw [Ng h1,Nh h2])
 have l:=fun X (mp:Bool) (lim:Nat) (Q:Value->NA->Prop)=>Nss (mp:=mp) (lim:=lim) (c:=cp) (a:=b.place) (Q:=Q) ((h.net.sp).app X) h.net.np
 by_cases g:b.place∈P
 case neg=>
  have e:Ndv P b.place=-1:=Ng g
  rw [e] at l
  simp only [n107,Nso,C,Uv,Uu,Np h1,Np h2,l,SB,seval,NF,NJ,NK,reduceCtorEq,NE,place,NB,ND]
  exact fin _ _ (by unfold QI;rw [Ng h1,Ng h2,Nh g])
 have e:Ndv P b.place=(OJ P b.place:Int):=Nh g
 have d:OJ P b.place<P.length:=Ph g
 rw [e] at l
 have nn:¬(OJ P b.place:Int)<0:=by omega
 simp only [n107,C,Uv,Uu,Si,Np h1,Np h2,l,SB,seval,NF,NJ,NK,reduceCtorEq,NE,place,NB]
 refine Nob (h.app _) (by simp;omega) fun G1 v hC t hv=>?_
 have hk:=(h.app [Vc (encE a),Vc (encE b)]).chgk hC
 have F:∀b ro c,NC G b=.cells ro c->NC G1 b=.cells ro c:=fun b ro c u=>hk _ _ _ ((OM.refl.app).cells u)
 have s:=hC.pre
 have w:=fun X=>(OM.refl.app (X:=X)).cells (hk _ _ _ (show NC (G++[Vc (encE a),Vc (encE b)]) (G.length+1)=Vc (encE b) by rw [NR];rfl))
 have f:∀(n:Int) (X:NA),QI P L a b=n->Q (Vi n) (G1++X):=fun n X e=>by
  rw [<-e];exact A _ (s.app) (t.app _)
 rcases hv with ⟨he,rfl⟩ | ⟨he,q,T,rfl,hs,hT,_⟩
 ·have y:=N3 (show (0:Int)<=(OJ P b.place:Int) by omega)
  refine NL ?_
  simp only [n107,Nso,y,SB,seval,NJ,NK,ND]
  exact f _ _ (by unfold QI;rw [Ng h1,Ng h2,Ng (by simpa using g),Nh he])
 ·obtain ⟨hv,hp,_,ht0,z⟩:=ZL he
  have k:=RH hv
  have m:=hT.2 _ g
  rw [<-N3e (by rw [hT.1];exact d)] at m
  have ev:=m.uniq (Nad k hp g ht0)
  have lT:=Nix (i:=OJ P b.place) hs (by rw [hT.1];exact d)
  have xT:=N24 (i:=OJ P b.place) hs d hT.1
  rw [ev] at lT
  have hle:=N65 (Nad k hp g ht0) z ht0
  have p:QI P L a b=if Nco P L a.place a.time b.place<0 then 80 else min (max (Nco P L a.place a.time b.place-b.time) 0) 60:=by
   unfold QI
   rw [Ng h1,Ng h2,Ng (by simpa using g),Ng (by simpa using he)]
  have D:-1<=Nco P L a.place a.time b.place:=by
   rcases Nad k hp g ht0 with ⟨e,_⟩ | ⟨⟨⟨j,hw⟩,_⟩,_⟩
   ·omega
   ·have:=hw.later k.fine;omega
  generalize Nco P L a.place a.time b.place=x at *
  unfold NT at hle
  have I:IntKind.i64.wrap (x-b.time)=x-b.time:=NN (by omega) (by omega)
  have H:OJ P b.place<P.length:=d
  have o:=Np (show ¬P.length<=OJ P b.place by omega)
  refine NL ?_
  by_cases hx:x<0
  ·simp only [n107,Nso,lT,xT,N3 hx,o,SB,seval,NJ,NK,ND]
   exact f _ _ (by rw [p,Nh hx])
  ·simp only [n107,Nso,Si,w,lT,xT,Np hx,o,I,Nx3,Nrb,SB,seval,NJ,NK,ND]
   exact f _ _ (by rw [p,Ng hx])
theorem Nio [OA] {lim:Nat} {pp pl:Option Addr} {P:List Int} {L:List Leg} {cp cl:Nat} {H:NA} {Q:Value->NA->Prop} (hn:NetIn H pp pl P L) (b:lim<=H.length)
  (c:∀G R M,OM H G->H.length<=R->H.length<=M->PI lim R M [] G pp pl cp cl P L->Q (Vp R) G) :
  NP E false lim 70 [.agg (RX pp P.length cp pl L.length cl).toArray] H Q:=by
 refine Rm (by decide) e70 rfl ?_
 rw [b70,c70]
 simp only [n70,r70,RX,QW,VK,SB,seval,NJ,NE,place,NB,ND]
 refine c _ _ (H.length+1) OM.refl.app ?_ (by omega) ⟨hn.app _,(fun _ _ _ a=>by cases a),(fun _ _ _ a=>by cases a), ?_,(by simp),(by simp),⟨[], ?_,fun x hx=>by cases hx⟩,(by omega),(fun j d=>by cases d)⟩
 ·omega
 ·rw [NR];rfl
 ·rw [NR];rfl
def VT {α:Type} (n:Nat) (G:NA) (enc:α->List Value) (e:Nat) (q:Option Addr) (l:List α):Prop:=Sl G enc e q l/\∀a,q=some a->n<=a.block
theorem VT.app {α:Type} {n e:Nat} {G:NA} {enc:α->List Value} {q:Option Addr} {l:List α} (h:VT n G enc e q l) (X:NA):VT n (G++X) enc e q l:=⟨h.1.app X,h.2⟩
theorem VT.le {α:Type} {n n' e:Nat} {G:NA} {enc:α->List Value} {q:Option Addr} {l:List α} (h:VT n G enc e q l) (hl:n'<=n):VT n' G enc e q l:=⟨h.1,fun a ha=>by have:=h.2 a ha;omega⟩
theorem VT.mut {α:Type} {n e R:Nat} {G G':NA} {enc:α->List Value} {q:Option Addr} {l:List α} (h:VT n G enc e q l) (hm:Mut G G' R) (b:R<n):VT n G' enc e q l:=
 ⟨Tu h.1 fun a ha hn ro c hc=>hm.cells hc (by have:=h.2 a ha;omega),h.2⟩
theorem VT.chg {α:Type} {A:List Nat} {n e:Nat} {G G':NA} {enc:α->List Value} {q:Option Addr} {l:List α} (h:VT n G enc e q l) (hc:Chg A G G') (hA:∀j∈A,j<n):VT n G' enc e q l:=
 ⟨hc.sl h.1 fun a ha _ b=>by have:=hA _ b;have:=h.2 a ha;omega,h.2⟩
def opB (p:Option Addr):List Nat:=match p with
 | none=>[]
 | some a=>[a.block]
theorem Own.moreF {α:Type} {lim lim' e bytes cap:Nat} {G:NA} {enc:α->List Value} {p:Option Addr} {l:List α} (h:Own lim G enc e p cap l) (n:lim'<=lim) (he:∀x,(enc x).length=e) (i:e≠0) (m:List α) (hm:m≠[]) (g:(l.length+m.length)*bytes<=PM) (hn:l.length+m.length<2 ^ 61)
  (X:NA) {x:Value} {str:Bool} (h1:firstCells (G++X) e str x=some (m.flatMap enc)) (h2:lenOf x=some m.length) :
  ∃G2,OU lim' none e bytes str (.slice p l.length cap) x (G++X)=some (.slice (Sa ((G++X).length)) (l.length+m.length) (loose e),G2++[])/\Own G.length G2 enc e (Sa ((G++X).length)) (loose e) (l++m)/\Chg (opB p) G G2/\(G++X).length<G2.length:=by
 have c:¬m.length=0:=fun q=>hm (List.length_eq_zero_iff.1 q)
 rcases h with ⟨k1,k2,k3⟩ | ⟨R,k1,k2,k3,o⟩
 ·subst k1 k2 k3
  refine ⟨G++(X++[Vc (m.flatMap enc)]), ?_, ?_,Chg.refl.app,by simp⟩
  ·simp only [No,N5] at g hn⊢
   simp only [OU,h1,h2,c,if_false,N5]
   rw [Ng (by omega)]
   simp [place]
  ·rw [On]
   refine Own.new ?_ (by simp)
   rw [<-Nq];exact NQ
 ·subst k1 k2
  have b:=NG k3
  have a:NC (G++X) R=Vc (l.flatMap enc):=by rw [NI b];exact k3
  have d:AM.loadCells (G++X) ⟨R,0,none⟩ (l.length*e)=some (l.flatMap enc):=by
   simp only [QA,a,N5,PK he,Nd,if_true,Ox]
   rw [Og (by rw [PK he];exact Nd _)]
  have f:Mut G (G.set R .dead) R:=⟨by simp,fun j k=>PS k⟩
  refine ⟨G.set R .dead++(X++[Vc ((l++m).flatMap enc)]), ?_, ?_,(Chg.refl.mut f (.inl (by simp [opB]))).app,by simp⟩
  ·simp only [OU,h1,h2,d,a,c,if_false,if_true]
   rw [Ng (by unfold loose;omega)]
   simp [show lim'<=R by omega,place,Qe _ _ b,Nq]
  ·refine Own.new ?_ (by simp)
   rw [<-Nq,show (G++X).length=(G.set R .dead++X).length by simp];exact NQ
theorem Nu3 [OA] {lim c:Nat} {p:Option Addr} {l:List Int} {H:NA} {Q:Value->NA->Prop} (hs:Sl H encI 1 p l) (hc:p=none->c=0) (hl:l.length<2 ^ 40)
  (d:∀H' q g,OM H H'->VT H.length H' encI 1 q l->Q (.slice q l.length g) H') :
  NP E false lim 106 [.slice p l.length c] H Q:=by
 by_cases hn:l=[]
 case neg=>exact Nmm hs hn hl fun H' q h f=>d H' q _ h ⟨f.sl PQ,fun a ha=>(f.block ha).1⟩
 subst hn
 refine Rm (by decide) N8d rfl ?_
 rw [N8g,N3v]
 cases p with
 | none=>
   obtain rfl:=hc rfl
   have b:aEq .slice Vz Vz=some true:=rfl
   simp only [n106,N5i,b,SB,seval,NJ,reduceCtorEq,NE,ND]
   exact d _ none 0 OM.refl.app ⟨rfl,fun a ha=>by cases ha⟩
 | some a=>
   have b:aEq .slice (.slice (some a) 0 c) Vz=some false:=rfl
   have e:∀X,OU lim none 1 8 false (.slice (Sa H.length) 0 0) (.slice (some a) 0 c) (H++X)=some (.slice (Sa H.length) 0 0,H++X):=fun X=>by simp [OU,firstCells,lenOf]
   simp only [n106,N5i,b,e,SB,seval,NJ,reduceCtorEq,NE,place,ND]
   exact d _ (Sa H.length) 0 OM.refl.app ⟨⟨rfl,fun i=>absurd rfl i⟩,fun a ha=>by cases ha;exact Nd _⟩
def TZ (P:List Int) (L:List Leg) (es:List Ev) (ks:List Int) (i:Nat):Int×Int×Int:=(gt ks i,gt ks (i+1),QI P L (gt es (gt ks i).toNat) (gt es (gt ks (i+1)).toNat))
def Rn (P:List Int) (L:List Leg) (es:List Ev) (ks:List Int):List (Int×Int×Int):=(List.range (ks.length-1)).map (TZ P L es ks)
def VW:List (Int×Int×Int)->Int
 | []=>0
 | x::l=>x.2.2+VW l
def Tf (P:List Int) (L:List Leg) (es:List Ev) (ks:List Int):Int:=30*((es.length:Int)-ks.length)+VW (Rn P L es ks)
theorem Nao:∀(l:List (Int×Int×Int)) (x:Int×Int×Int),VW (l++[x])=VW l+x.2.2
 | [],x=>by simp [VW]
 | y::l,x=>by rw [O5,VW,Nao l x,VW];omega
theorem Z6 {P:List Int} {L:List Leg} {es:List Ev} {ks:List Int}:∀(n:Nat),0<=VW ((List.range n).map (TZ P L es ks))/\VW ((List.range n).map (TZ P L es ks))<=80*n
 | 0=>by simp [VW]
 | n+1=>by
   rw [Po,Oq,List.map_singleton,Nao]
   have h1:=Z6 (P:=P) (L:=L) (es:=es) (ks:=ks) n
   have h2:=Vv (P:=P) (L:=L) (a:=gt es (gt ks n).toNat) (b:=gt es (gt ks (n+1)).toNat)
   have e:(TZ P L es ks n).2.2=QI P L (gt es (gt ks n).toNat) (gt es (gt ks (n+1)).toNat):=rfl
   rw [e]
   omega
theorem N2c [OA] {lim R M:Nat} {S:List Nat} {pp pl pe pk:Option Addr} {P:List Int} {L:List Leg} {cp cl ce ck:Nat} {es:List Ev} {ks:List Int} {H:NA} {Q:Value->NA->Prop} (h:PI lim R M S H pp pl cp cl P L) (ai:lim<=H.length)
  (hs:Sl H encE 7 pe es) (be:es.length<=40) (ht:∀i,i<es.length->0<=(gt es i).time/\(gt es i).time<=NT) (hk:Sl H encI 1 pk ks) (bc:ks.length<2 ^ 20) (aw:pk=none->ck=0) (z:∀k∈ks,0<=k/\k<es.length)
  (hQ:∀G q cq r cr,Chg [M] H G->PI lim R M S G pp pl cp cl P L->VT H.length G encI 1 q ks->VT H.length G enc3 3 r (Rn P L es ks)->Q (.agg #[.slice q ks.length cq,.slice r (Rn P L es ks).length cr,Vi (Tf P L es ks)]) G) :
  NP E false lim 71 [Vp R,.slice pe es.length ce,.slice pk ks.length ck] H Q:=by
 refine Rm (by decide) e71 rfl ?_
 rw [b71,c71]
 have ar:=h.alive
 simp only [n71,SB,seval,NF,NJ,NE,place]
 refine Nu3 (hk.app _) aw (by omega) fun H1 q cq n ab=>?_
 have w1:IntKind.i64.wrap ((es.length:Int)-ks.length)=(es.length:Int)-ks.length:=NN (by omega) (by omega)
 have w2:IntKind.i64.wrap (30*((es.length:Int)-ks.length))=30*((es.length:Int)-ks.length):=NN (by omega) (by omega)
 have az:=n.len
 simp at az
 have o:lim<=H1.length:=by omega
 have aq:Chg [M] H H1:=(OM.chg (A:=[M]) n).pre
 have bb:NC H1 M=NC H M:=(OM.chg (A:=[]) n).pre.other M ar (by simp)
 have an:NC H1 H.length=Vc [Vz,Vz,Vi 0]:=n.cells NQ
 have av:=(h.grow (b:=H.length) [Vc [Vz,Vz,Vi 0]] (Nd _) (by simp)).chg (OM.chg n)
 refine NL ?_
 simp only [n71,w1,w2,o,SB,seval,NJ,NK,NE,place,NB]
 refine NZ (fun x:Nat×Option Addr×Nat=>ks.length-x.1) (fun x fr G=>(x.1=0\/x.1+1<=ks.length)/\fr 0=Vp R/\fr 1=.slice pe es.length ce/\fr 2=.slice pk ks.length ck/\fr 6=Vp H.length/\fr 7=Vp H1.length/\fr 8=Vi ((x.1+1:Nat):Int)/\Chg [M] H G/\Chg [M,H1.length] H1 G/\PI lim R M (opB x.2.1++H1.length::H.length::S) G pp pl cp cl P L/\
   NC G H1.length=Vc [.slice q ks.length cq,.slice x.2.1 x.1 x.2.2,Vi (30*((es.length:Int)-ks.length)+VW ((List.range x.1).map (TZ P L es ks)))]/\Own (H1.length+1) G enc3 3 x.2.1 x.2.2 ((List.range x.1).map (TZ P L es ks))) (0,none,0)
  ⟨.inl rfl,rfl,rfl,rfl,rfl,by rfl,by rfl,aq.app,Chg.refl.app,av.grow _ (Nd _) (by simp),by rw [NQ];simp [VW],.nil⟩ ?_
 rintro ⟨i,U,cw⟩ fr G ⟨hi,g0,g1,g2,g6,g7,g8,hC,u,w,hB,F⟩ hN
 simp only at hi g8 w hB F
 rw [OD N4q.eq_1]
 refine NL ?_
 have hl:=hC.len
 have bd:=u.len
 have ba:=NG hB
 have D:NC G H.length=Vc [Vz,Vz,Vi 0]:=u.cells an (by simp;omega)
 have B:((List.range i).map (TZ P L es ks)).length=i:=by simp
 have C:=hs.sim (h.chgk hC)
 have y:=hk.sim (h.chgk hC)
 have a9:=Z6 (P:=P) (L:=L) (es:=es) (ks:=ks) i
 by_cases f:i+1<ks.length
 case neg=>
  have ei:ks.length-1=i:=by omega
  have a8:¬((i+1:Nat):Int)<(ks.length:Int):=by omega
  have ao:=fun X=>(OM.refl.app (X:=X)).cells hB
  have ak:=fun X=>(OM.refl.app (X:=X)).cells D
  obtain ⟨G2,e2,h2,t⟩:=OP (NG D) (Vc [.slice q ks.length cq,.slice U i cw,Vi (30*((es.length:Int)-ks.length)+VW ((List.range i).map (TZ P L es ks)))])
  have aj:=fun X=>(OM.refl.app (X:=X)).cells h2
  simp only [n71,r71,g2,g6,g7,g8,f,ao,ak,ai,e2,aj,SB,seval,NJ,NK,NB,ND]
  have J:Rn P L es ks=(List.range i).map (TZ P L es ks):=by unfold Rn;rw [ei]
  have ap:Chg [M] H G2:=hC.mut t (.inr (Nd _))
  have ae:=(w.chg (Chg.refl.mut t (.inl (by simp)))).sub (S':=S) fun j d=>by simp [d]
  have v:=F.mut t fun a ha e=>by have:=(F.block ha).1;omega
  have O:∀a,q=some a->H.length<a.block:=fun a ha=>by have:=ab.2 a ha;simp at this;omega
  have ay:VT H.length G2 encI 1 q ks:=⟨Tu ab.1 (fun a ha hn ro c hc=>t.cells (u.cells hc (by have h1:=NG hc;have h2:=O a ha;simp;omega)) (by have h2:=O a ha;omega)),fun a ha=>by have:=O a ha;omega⟩
  have:=hQ G2 q cq U cw ap ae ay (by rw [J];exact ⟨v.sl PD,fun a ha=>by have:=(v.block ha).1;omega⟩)
  rw [J,B] at this
  unfold Tf at this
  rw [J] at this
  rw [Nc]
  exact this
 have l0:=fun X=>(y.app X).loadCell0 PQ (i:=i) (by omega) (by decide)
 have l1:=fun X=>(y.app X).loadCell0 PQ (i:=i+1) f (by decide)
 simp only [encI,Od] at l0 l1
 have x0:=fun c (k:IntKind) (H1:NA)=>y.idx (c:=c) (k:=k) (H1:=H1) (i:=i) (by omega)
 have x1:=fun c (k:IntKind) (H1:NA)=>y.idx (c:=c) (k:=k) (H1:=H1) (i:=i+1) f
 obtain ⟨a,ea⟩:=Int.eq_ofNat_of_zero_le (z _ (QJ (i:=i) (by omega))).1
 obtain ⟨b,eb⟩:=Int.eq_ofNat_of_zero_le (z _ (QJ f)).1
 have ha:a<es.length:=by have:=(z _ (QJ (l:=ks) (i:=i) (by omega))).2;omega
 have hb:b<es.length:=by have:=(z _ (QJ f)).2;omega
 have I:TZ P L es ks i=((a:Int),(b:Int),QI P L (gt es a) (gt es b)):=by unfold TZ;rw [ea,eb];rfl
 rw [ea] at l0
 rw [eb] at l1
 have la:=fun X=>(C.app X).loadCells OE ha
 have lb:=fun X=>(C.app X).loadCells OE hb
 have xa:=fun c (k:IntKind) (H1:NA)=>C.idx (c:=c) (k:=k) (H1:=H1) ha
 have xb:=fun c (k:IntKind) (H1:NA)=>C.idx (c:=c) (k:=k) (H1:=H1) hb
 have w9:IntKind.i64.wrap (((i+1:Nat):Int)-1)=(i:Int):=by rw [NN (by omega) (by omega)];omega
 have s:lim<=G.length:=by omega
 simp only [n71,g0,g1,g2,g8,s,f,w9,l0,l1,x0,x1,la,lb,xa,xb,SB,seval,NF,NJ,NK,reduceCtorEq,place,NB]
 refine Nkm (a:=gt es a) (w.grow [Vc [Vi a,Vi b,Vi 0]] (Nd _) (by simp)) (by simp;omega) (ht b hb) fun G1 g ad=>?_
 have ag:=(w.grow [Vc [Vi a,Vi b,Vi 0]] (Nd _) (by simp)).chgk g
 have Y:NC G1 G.length=Vc [Vi a,Vi b,Vi 0]:=ag _ _ _ NQ
 have am:=ag _ _ _ ((OM.refl.app).cells hB)
 have a0:=g.len
 simp at a0
 have ac:Own (H1.length+1) G1 enc3 3 U cw ((List.range i).map (TZ P L es ks)):=(F.app _).chg g fun a ha hm=>by have:=(F.block ha).1;simp at hm;omega
 generalize hp:QI P L (gt es a) (gt es b)=p at I
 have a2:=Vv (P:=P) (L:=L) (a:=gt es a) (b:=gt es b)
 rw [hp] at a2
 obtain ⟨G2,e2,h2,t⟩:=OP (NG Y) (Vc [Vi a,Vi b,Vi p])
 have Z:=t.cells am (by omega)
 have v:=ac.mut t fun a ha e=>by have:=(F.block ha).2;omega
 have wp:IntKind.i64.wrap (30*((es.length:Int)-ks.length)+VW ((List.range i).map (TZ P L es ks))+p)=30*((es.length:Int)-ks.length)+VW ((List.range (i+1)).map (TZ P L es ks)):=by
  rw [Po,Oq,List.map_singleton,Nao,I,<-Int.add_assoc]
  exact NN (by omega) (by omega)
 obtain ⟨V,e3,h3,T⟩:=OP (NG Z) (Vc [.slice q ks.length cq,.slice U i cw,Vi (30*((es.length:Int)-ks.length)+VW ((List.range (i+1)).map (TZ P L es ks)))])
 have au:=v.mut T fun a ha e=>by have:=(F.block ha).1;omega
 have al:=T.cells h2 (by omega)
 have a6:=t.len
 have a7:=T.len
 obtain ⟨G4,W,O4,C4,ah⟩:=Own.moreF au (lim':=lim) (bytes:=24) (by omega) PD (by decide) [((a:Int),(b:Int),p)] (by simp) (by rw [B];unfold PM;simp;omega) (by rw [B];simp;omega) [Vc [Vi a,Vi b,Vi p]] (x:=.slice (Sa V.length) 1 1) (str:=false)
  (Ue (m:=[((a:Int),(b:Int),p)]) (Sl.row (ro:=false) PD (by rw [NQ];rfl))) rfl
 rw [B] at W
 have eN:(List.range i).map (TZ P L es ks)++[((a:Int),(b:Int),p)]=(List.range (i+1)).map (TZ P L es ks):=by rw [Po,Oq,List.map_singleton,I]
 rw [eN] at O4
 have N:∀j,j∈opB U->H1.length+1<=j/\j<G.length:=fun j d=>by
  cases hpe:U with
  | none=>rw [hpe] at d;cases d
  | some a=>rw [hpe] at d;have:=F.block hpe;simp [opB] at d;omega
 generalize a1:(V++[Vc [Vi a,Vi b,Vi p]]).length=r at W O4 ah
 have a4:V.length<=r:=by rw [<-a1];simp
 generalize loose 3=c' at W O4
 simp only [Nk,No,N5] at W
 have aa:=C4.cells h3 fun hm=>by have:=N _ hm;omega
 obtain ⟨G5,e5,h5,m5⟩:=OP (NG aa) (Vc [.slice q ks.length cq,.slice (Sa r) (i+1) c',Vi (30*((es.length:Int)-ks.length)+VW ((List.range (i+1)).map (TZ P L es ks)))])
 have X1:=fun X=>(OM.refl.app (X:=X)).cells Y
 have X2:=fun X=>(OM.refl.app (X:=X)).cells Z
 have X3:=fun X=>(OM.refl.app (X:=X)).cells h2
 have X4:=fun X=>(OM.refl.app (X:=X)).cells h3
 have X5:=fun X=>(OM.refl.app (X:=X)).cells al
 have X6:=fun X=>(OM.refl.app (X:=X)).cells aa
 have a5:IntKind.i64.wrap (((i+1:Nat):Int)+1)=((i+2:Nat):Int):=OV (by omega)
 have K:lim<=H1.length:=o
 refine NL ?_
 simp only [n71,g7,g8,s,K,X1,e2,X2,X3,e3,X4,X5,X6,W,e5,wp,a5,SB,seval,NJ,NK,place,NB]
 have k1:Chg [M] H V:=((hC.trans g.pre).mut t (.inr (by omega))).mut T (.inr (by omega))
 have k2:Chg [M] H G5:=(k1.trans' C4 fun j d ax=>by have:=N j d;omega).mut m5 (.inr (by omega))
 have k3:Chg [M,H1.length] H1 V:=((u.trans (g.pre.mono fun j _ d=>by simp at d;simp [d])).mut t (.inr (by omega))).mut T (.inl (by simp))
 have k4:Chg [M,H1.length] H1 G5:=(k3.trans' C4 fun j d ax=>by have:=N j d;omega).mut m5 (.inl (by simp))
 have k5:=ad.chg ((Chg.refl.mut t (.inl (by simp))).mut T (.inl (by simp)))
 have k6:=k5.growC (b:=r) (G':=G4) (C4.mono fun j _ d=>by simp [d]) a4 ah
 have k7:=(k6.chg (Chg.refl.mut m5 (.inl (by simp)))).sub (S':=opB (Sa r)++H1.length::H.length::S) fun j d=>by
  simp [opB] at d
  rcases d with e | e | e | e
  ·simp [e]
  ·simp [e]
  ·simp [e]
  ·simp [e]
 have k8:=(O4.mut m5 fun a ha e=>by cases ha;simp at e;omega).le (lim':=H1.length+1) (by omega)
 exact hN (i+1,Sa r,c') _ _ ⟨.inr f,g0,g1,g2,g6,g7,by rfl,k2.app,k4.app,k7.app _,(OM.refl.app).cells h5,k8.app _⟩ (by show ks.length-(i+1)<ks.length-i;omega)
def Ncf (n:Nat) (ks:List Int) (i:Nat):Prop:=0<=gt ks i/\gt ks i<n/\(0<i->gt ks (i-1)<gt ks i)
instance (n:Nat) (ks:List Int) (i:Nat):Decidable (Ncf n ks i):=by unfold Ncf;infer_instance
def Nft (n:Nat) (ks:List Int):Prop:=(ks.length=0->n=0)/\∀i,i<ks.length->Ncf n ks i
instance (n:Nat) (ks:List Int):Decidable (Nft n ks):=by unfold Nft;infer_instance
theorem Nqi {n:Nat} {ks:List Int} (h:∀i,i<ks.length->Ncf n ks i):∀i,i<ks.length->(i:Int)<=gt ks i
 | 0,hi=>(h 0 hi).1
 | i+1,hi=>by
   have h1:=Nqi h i (by omega)
   have h2:=(h (i+1) hi).2.2 (by omega)
   rw [Pt] at h2
   omega
theorem Njg {n:Nat} {ks:List Int} (h:∀i,i<ks.length->Ncf n ks i):ks.length<=n:=by
 apply Of;intro hc
 have h1:=Nqi h (ks.length-1) (by omega)
 have h2:=(h (ks.length-1) (by omega)).2.1
 omega
theorem Nft.mem {n:Nat} {ks:List Int} (h:Nft n ks):∀k∈ks,0<=k/\k<n:=fun k hk=>by
 obtain ⟨i,hi,rfl⟩:=List.mem_iff_getElem.1 hk
 have:=h.2 i hi
 rw [<-PU hi]
 exact ⟨this.1,this.2.1⟩
abbrev Zx:=Int×Int×Int
def Ym (x y:Zx):Bool:=decide (x.1<y.1\/(x.1=y.1/\y.2.1<x.2.1))
theorem Nrf [OA] {mp:Bool} {lim:Nat} {x y:Zx} {H:NA} {Q:Value->NA->Prop}:NP E mp lim 108 [.agg (enc3 x).toArray,.agg (enc3 y).toArray] H Q=Q (.bool (Ym x y)) H:=by
 refine pc (by decide) N9w rfl rfl ?_
 rw [Oau,N6y]
 obtain ⟨a,b,c⟩:=x
 obtain ⟨a',b',d⟩:=y
 have e0:Ym (a,b,c) (a',b',d)=decide (a<a'\/(a=a'/\b'<b)):=rfl
 rw [e0]
 by_cases h1:a<a'
 ·have e:=Ns (show a<a'\/(a=a'/\b'<b) from .inl h1)
  rw [e]
  simp only [n108,N5h,enc3,N3 h1,SB,seval,NJ,NK,NE,place,NB,ND]
 by_cases h2:a=a'
 ·have e:decide (a<a'\/(a=a'/\b'<b))=decide (b'<b):=decide_eq_decide.2 ⟨fun h=>by omega,fun h=>.inr ⟨h2,h⟩⟩
  rw [e]
  simp only [n108,N5h,enc3,Np h1,N3 h2,SB,seval,NJ,NK,NE,place,NB,ND]
 ·have e:=Oa (show ¬(a<a'\/(a=a'/\b'<b)) by omega)
  rw [e]
  simp only [n108,N5h,enc3,Np h1,Np h2,SB,seval,NJ,NK,NE,place,NB,ND]
def Y4 (P:List Int) (L:List Leg) (es:List Ev) (T:List Zx) (i j:Nat):Zx:=(QI P L (gt es i) (gt es j)+30*((j:Int)-i-1)+(gt T j).1,(gt T j).2.1+1,(j:Int))
def Vl (x r:Zx):Zx:=if Ym x r then x else r
def Ry (P:List Int) (L:List Leg) (es:List Ev) (T:List Zx) (i:Nat):Nat->Zx
 | 0=>(30*((es.length:Int)-1-i),1,-1)
 | m+1=>Vl (Ry P L es T i m) (Y4 P L es T i (es.length-1-m))
def OH (P:List Int) (L:List Leg) (es:List Ev):Nat->List Zx
 | 0=>List.replicate es.length (0,0,0)
 | k+1=>(OH P L es k).set (es.length-1-k) (Ry P L es (OH P L es k) (es.length-1-k) k)
theorem TK {P:List Int} {L:List Leg} {es:List Ev}:∀k,(OH P L es k).length=es.length
 | 0=>by simp [OH]
 | k+1=>by rw [OH,Qd,TK k]
def N1d (T:List Zx):Prop:=∀j,0<=(gt T j).1/\(gt T j).1<=10000/\0<=(gt T j).2.1/\(gt T j).2.1<=40
theorem Nuv {x:Zx} {a b c:Value}:(((enc3 x).set 0 a).set 1 b).set 2 c=[a,b,c]:=id rfl
theorem N72 {G:NA} {c:Blk}:NU G.length [0] (G++[c])=G++[.dead]:=by
 show (G++[c]).set (G.length+0) .dead=_
 rw [Pd,Qn _ _ (Nd _),Qr];rfl
theorem N1s {G G1:NA} {c:Blk}:NS G.length [0] (G++[c]) G1=G1.set G.length c:=by
 show G1.set (G.length+0) (NC (G++[c]) (G.length+0))=_
 rw [Pd,NQ];rfl
theorem Ny5 [OA] {lim R M B8 BT:Nat} {S:List Nat} {pp pl pe:Option Addr} {P:List Int} {L:List Leg} {cp cl ce ct:Nat} {es:List Ev} {T:List Zx} {i:Nat} {G:NA} {fr:Nat->Value} {K:List AItem} {Z:Value->NA->Prop} (hi:i<es.length) (D:lim<=B8) (hS:B8∈S) (O:BT∈S)
  (ad:es.length<=40) (ht:∀i,i<es.length->0<=(gt es i).time/\(gt es i).time<=NT) (hT:T.length=es.length) (aa:N1d T)
  (hP:PI lim R M S G pp pl cp cl P L) (hs:Sl G encE 7 pe es) (B:NC G BT=Vc (T.flatMap enc3)) (h:NC G B8=Vc (enc3 (Ry P L es T i 0)))
  (f0:fr 0=Vp R) (f1:fr 1=.slice pe es.length ce) (f5:fr 5=.slice (Sa BT) T.length ct) (f6:fr 6=.func (.func 108) #[] #[]) (f7:fr 7=Vi i) (f8:fr 8=Vp B8) (f9:fr 9=Vi ((es.length:Int)-1))
  (hR:∀fr' G',Chg [M,B8] G G'->PI lim R M S G' pp pl cp cl P L->NC G' B8=Vc (enc3 (Ry P L es T i (es.length-1-i)))->(∀j,j<=8->fr' j=fr j)->QC E a72 lim K fr' G' Z) :
  QC E a72 lim (.code (.loop Nyd)::.inBlock 2::K) fr G Z:=by
 refine NZ (fun m=>es.length-m) (fun m fr' G'=>m<=es.length-1-i/\Chg [M,B8] G G'/\PI lim R M S G' pp pl cp cl P L/\NC G' B8=Vc (enc3 (Ry P L es T i m))/\(∀j,j<=8->fr' j=fr j)/\fr' 9=Vi ((es.length:Int)-1-m)) 0
  ⟨Nv _,Chg.refl,hP,h,fun j _=>rfl,by rw [f9];simp⟩ ?_
 intro m fr' G' ⟨hm,hC,l,hB,d,w⟩ hN
 rw [OD Nyd.eq_1]
 have g0:=(d 0 (by decide)).trans f0
 have g1:=(d 1 (by decide)).trans f1
 have g5:=(d 5 (by decide)).trans f5
 have g6:=(d 6 (by decide)).trans f6
 have g7:=(d 7 (by decide)).trans f7
 have g8:=(d 8 (by decide)).trans f8
 refine NL ?_
 by_cases ag:m<es.length-1-i
 case neg=>
  obtain rfl:m=es.length-1-i:=by omega
  have J:(es.length:Int)-1-((es.length-1-i:Nat):Int)=(i:Int):=by omega
  rw [J] at w
  simp only [n72,g7,w,SB,seval,NJ,NK]
  exact hR _ _ hC.app (l.app _) ((OM.refl.app).cells hB) fun j z=>by
   rw [<-d j z]
   simp only [upd]
   repeat rw [Ng (by omega)]
 generalize z:es.length-1-m=j
 have J:(es.length:Int)-1-(m:Int)=(j:Int):=by omega
 rw [J] at w
 have t:j<es.length:=by omega
 have U:i<j:=by omega
 have W:BT≠B8:=by
  rintro rfl
  rw [B] at h
  simp only [Blk.cells.injEq,Rd] at h
  have:=P3 List.length h
  rw [PK PD,PD] at this
  omega
 have F:BT≠M:=fun e=>l.oM (e▸O)
 have v:Sl G' enc3 3 (Sa BT) T:=Sl.row (ro:=false) PD (hC.cells B (by simp;exact ⟨F,W⟩))
 have A:∀a,pe=some a->es≠[]->a.block≠B8:=fun a ha hn e=>by
  subst ha
  obtain ⟨ro,c,k1,k2,_⟩:=hs.2 hn
  rw [e,h] at k1
  simp only [Blk.cells.injEq] at k1
  rw [<-k1.2,PD] at k2
  omega
 have o:Sl G' encE 7 pe es:=Tu hs fun a ha hn ro c hc=>hC.cells hc (by
  have h1:=A a ha hn
  have h2:a.block≠M:=fun e=>by obtain ⟨ms,k1,_⟩:=hP.m;rw [e,k1] at hc;cases hc
  simp;exact ⟨h2,h1⟩)
 have la:=fun X=>(o.app X).loadCells OE hi
 have lb:=fun X=>(o.app X).loadCells OE t
 have xa:=fun c (k:IntKind) (H1:NA)=>o.idx (c:=c) (k:=k) (H1:=H1) hi
 have xb:=fun c (k:IntKind) (H1:NA)=>o.idx (c:=c) (k:=k) (H1:=H1) t
 have s:j<T.length:=by omega
 have l0:=fun X=>(v.app X).loadCell PD s (j:=0) (by decide)
 have l1:=fun X=>(v.app X).loadCell PD s (j:=1) (by decide)
 simp only [enc3,Od,P1] at l0 l1
 have xj:=fun c (k:IntKind) (H1:NA)=>v.idx (c:=c) (k:=k) (H1:=H1) s
 have ah:=aa j
 have w1:IntKind.i64.wrap ((j:Int)-i)=(j:Int)-i:=NN (by omega) (by omega)
 have w2:IntKind.i64.wrap ((j:Int)-i-1)=(j:Int)-i-1:=NN (by omega) (by omega)
 have w3:IntKind.i64.wrap (30*((j:Int)-i-1))=30*((j:Int)-i-1):=NN (by omega) (by omega)
 have w4:IntKind.i64.wrap ((gt T j).2.1+1)=(gt T j).2.1+1:=NN (by omega) (by omega)
 have I:=Ns (show i<j from U)
 simp only [n72,g0,g1,g5,g7,w,I,la,lb,xa,xb,l0,l1,xj,w1,w2,w3,w4,SB,seval,NF,NJ,NK,reduceCtorEq,place]
 have ab:=NG h
 have ae:=hC.len
 refine Nkm (a:=gt es i) (b:=gt es j) (l.grow [.dead] (Nd _) (by simp)) (by simp;omega) (ht j t) fun G1 n C=>⟨Ni9 ?_, ?_⟩
 ·rw [N72]
  exact (l.grow [.dead] (Nd _) (by simp)).chgk n
 have V:=n.len
 simp at V
 obtain ⟨G2,e2,h2,m2⟩:=OP (show G'.length<G1.length by omega) (Vc [Vi 0,Vi 0,Vi 0])
 have eu:NS (List.length G') [0] (G'++[Vc [Vi 0,Vi 0,Vi 0]]) G1=G2++[]:=by rw [N1s,<-e2,Nc]
 rw [Nc,eu]
 generalize hp:QI P L (gt es i) (gt es j)=p
 have Y:=Vv (P:=P) (L:=L) (a:=gt es i) (b:=gt es j)
 rw [hp] at Y
 have w5:IntKind.i64.wrap (p+30*((j:Int)-i-1))=p+30*((j:Int)-i-1):=NN (by omega) (by omega)
 have w6:IntKind.i64.wrap (p+30*((j:Int)-i-1)+(gt T j).1)=p+30*((j:Int)-i-1)+(gt T j).1:=NN (by omega) (by omega)
 have w7:IntKind.i64.wrap ((j:Int)-1)=(es.length:Int)-1-((m+1:Nat):Int):=by rw [NN (by omega) (by omega)];omega
 obtain ⟨G3,e3,h3,m3⟩:=OP (NG h2) (Vc [Vi (p+30*((j:Int)-i-1)+(gt T j).1),Vi ((gt T j).2.1+1),Vi j])
 have N:=(l.app [.dead]).chgk n _ _ _ ((OM.refl.app).cells hB)
 have ac:=NG hB
 have r:=m3.cells (m2.cells N (by omega)) (by omega)
 have ec:Y4 P L es T i j=(p+30*((j:Int)-i-1)+(gt T j).1,(gt T j).2.1+1,(j:Int)):=by unfold Y4;rw [hp]
 have f:∀(X:NA) (mp:Bool) (lim:Nat) (Q:Value->NA->Prop),NP E mp lim 108 [.agg (enc3 (Ry P L es T i m)).toArray,.agg #[Vi (p+30*((j:Int)-i-1)+(gt T j).1),Vi ((gt T j).2.1+1),Vi j]] X Q=Q (.bool (Ym (Ry P L es T i m) (Y4 P L es T i j))) X:=fun X mp lim Q=>by rw [ec];exact Nrf (x:=Ry P L es T i m) (y:=(p+30*((j:Int)-i-1)+(gt T j).1,(gt T j).2.1+1,(j:Int)))
 have H:Ry P L es T i (m+1)=Vl (Ry P L es T i m) (Y4 P L es T i j):=by rw [Ry,z]
 have X2:=fun X=>(OM.refl.app (X:=X)).cells h2
 have X3:=fun X=>(OM.refl.app (X:=X)).cells h3
 have XB:=fun X=>(OM.refl.app (X:=X)).cells r
 have k1:Chg [M,B8] G G3:=((hC.trans (n.pre.mono fun j _ z=>by simp at z;simp [z])).mut m2 (.inr (by have:=hC.len;omega))).mut m3 (.inr (by have:=hC.len;omega))
 have k2:=C.chg ((Chg.refl.mut m2 (.inl (by simp))).mut m3 (.inl (by simp)))
 have g:lim<=G'.length:=by omega
 cases hb:Ym (Ry P L es T i m) (Y4 P L es T i j) with
 | true=>
   rw [hb] at f
   rw [Vl,Nh hb] at H
   simp only [n72,g6,g8,w,w5,w6,w7,X2,e3,X3,XB,PD,NM,f,g,SB,seval,NF,NJ,NK,QY,NB]
   exact hN (m+1) _ _ ⟨by omega,k1.app,k2.sub (fun q u=>by simp [u]) |>.app _,by rw [H];exact (OM.refl.app).cells r,fun q u=>by
    rw [<-d q u]
    simp only [upd]
    repeat rw [Ng (by omega)],by rfl⟩ (by omega)
 | false=>
   rw [hb] at f
   rw [Vl,Ng (by rw [hb];decide),ec] at H
   obtain ⟨G4,e4,h4,m4⟩:=OP (NG r) (Vc [Vi (p+30*((j:Int)-i-1)+(gt T j).1),Vi ((gt T j).2.1+1),Vi j])
   simp only [n72,g6,g8,w,w5,w6,w7,X2,e3,X3,XB,PD,NM,f,g,D,e4,Nuv,SB,seval,NF,NJ,NK,QY,NB]
   exact hN (m+1) _ _ ⟨by omega,(k1.mut m4 (.inl (by simp))).app,((k2.chg (Chg.refl.mut m4 (.inl (by simp [hS])))).sub (fun q u=>by simp [u])).app _,by rw [H];exact (OM.refl.app).cells h4,fun q u=>by
    rw [<-d q u]
    simp only [upd]
    repeat rw [Ng (by omega)],by rfl⟩ (by omega)
end Go.Proofs.YtkppjkkkdpcgiaaGreat.Fn


