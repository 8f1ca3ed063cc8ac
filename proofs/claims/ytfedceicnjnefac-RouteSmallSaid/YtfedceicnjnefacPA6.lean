/-
  Joined texts, 6 of 10. A part of the claim that the last text states.
-/
import Derived.ProofKit
import Derived.Deep.Slices
import Derived.OpenShut
import Derived.Test.YtfedceicnjnefacPA5
set_option linter.unusedVariables false
set_option linter.unusedSimpArgs false
namespace Go.AM
open Go.ChangeShapes Go.WideShapes Go.ChangeAt Go.RowKit
inductive Ty where
 | int (k:IntKind) | bool | str | slice (t:Ty) | arr (n:Nat) (t:Ty) | nil | pair (a b:Ty)
def Ty.size:Ty→Nat
 | .nil=>0
 | .arr n t=>n*t.size
 | .pair a b=>a.size+b.size
 | _=>1
abbrev Ty.den:Ty→Type
 | .int _=>Int
 | .bool=>Bool
 | .str=>ByteArray
 | .slice t=>List t.den
 | .arr _ t=>List t.den
 | .nil=>Unit
 | .pair a b=>a.den×b.den
def Rep:(t:Ty)→Heap→t.den→List Value→Prop
 | .int k,_,n,cs=>cs=[.int k n]∧k.min≤n∧n≤k.max
 | .bool,_,b,cs=>cs=[.bool b]
 | .str,_,s,cs=>cs=[.string s]∧s.size≤maxLen
 | .slice t,H,l,cs=>l.length≤maxLen∧∃p cap,cs=[.slice p l.length cap]∧(p=none→l=[]∧cap=0)∧
   ∀a,p=some a→a.spot=none∧a.off=0∧cap=loose t.size∧(l≠[]→∃es:List (List Value),hget H a.block=.cells true es.flatten∧es.length=l.length∧∀(i:Nat) x e,l[i]? = some x→es[i]? = some e→Rep t H x e)
 | .arr n t,H,l,cs=>∃es:List (List Value),cs=es.flatten∧es.length=n∧l.length=n∧∀(i:Nat) x e,l[i]? = some x→es[i]? = some e→Rep t H x e
 | .nil,_,_,cs=>cs=[]
 | .pair a b,H,x,cs=>∃c1 c2,cs=c1++c2∧Rep a H x.1 c1∧Rep b H x.2 c2
theorem Rep.app:∀{t:Ty} {H:Heap} {x:t.den} {cs:List Value} (_:Rep t H x cs) (X:Heap),Rep t (H++X) x cs
 | .int _,_,_,_,h,_=>h
 | .bool,_,_,_,h,_=>h
 | .str,_,_,_,h,_=>h
 | .nil,_,_,_,h,_=>h
 | .pair a b,_,_,_,⟨c1,c2,e,h1,h2⟩,X=>⟨c1,c2,e,h1.app X,h2.app X⟩
 | .arr n t,H,l,cs,⟨es,e,h1,h2,h3⟩,X=>⟨es,e,h1,h2,fun i x c hx hc=>(h3 i x c hx hc).app X⟩
 | .slice t,H,l,cs,⟨h0,p,cap,e,h1,h2⟩,X=>by
   refine ⟨h0,p,cap,e,h1,fun a ha=>?_⟩
   obtain ⟨k1,k2,k3,k4⟩:=h2 a ha
   refine ⟨k1,k2,k3,fun hl=>?_⟩
   obtain ⟨es,m1,m2,m3⟩:=k4 hl
   exact ⟨es,by rw [hget_old (hget_alive m1)];exact m1,m2,fun i x e hx he=>(m3 i x e hx he).app X⟩
theorem flatten_len {k:Nat}:∀{es:List (List Value)},(∀e∈es,e.length=k)→es.flatten.length=es.length*k
 | [],_=>by simp
 | e::es,h=>by
   rw [List.flatten_cons,List.length_append,h e (by simp),flatten_len (fun x hx=>h x (by simp [hx])),List.length_cons,Nat.succ_mul];omega
theorem Rep.len:∀{t:Ty} {H:Heap} {x:t.den} {cs:List Value} (_:Rep t H x cs),cs.length=t.size
 | .int _,_,_,_,h=>by rw [h.1];rfl
 | .bool,_,_,_,h=>by simp only [Rep] at h;rw [h];rfl
 | .str,_,_,_,h=>by rw [h.1];rfl
 | .nil,_,_,_,h=>by simp only [Rep] at h;rw [h];rfl
 | .pair a b,_,_,_,⟨c1,c2,e,h1,h2⟩=>by rw [e,List.length_append,h1.len,h2.len];rfl
 | .slice t,H,l,cs,⟨h0,p,cap,e,h1,h2⟩=>by rw [e];rfl
 | .arr n t,H,l,cs,⟨es,e,h1,h2,h3⟩=>by
   rw [e,flatten_len (k:=t.size),h1];· rfl
   intro c hc
   obtain ⟨i,hi,rfl⟩:=List.mem_iff_getElem.1 hc
   exact (h3 i _ _ (List.getElem?_eq_getElem (by omega)) (List.getElem?_eq_getElem hi)).len
section
variable {w:World} {Pg:Prg} {W:Nat→Prop} {lim:Nat}
def NoOwn (H:Heap):Prop:=∀(i:Nat) b,H[i]? = some b→owned b=false
theorem NoOwn.snoc {H:Heap} (h:NoOwn H) {b:Blk} (hb:owned b=false):NoOwn (H++[b]):=by
 intro i x hx
 by_cases hi:i<H.length
 ·rw [List.getElem?_append_left hi] at hx;exact h i x hx
 ·rw [List.getElem?_append_right (by omega)] at hx
  have:=(List.getElem?_eq_some_iff.1 hx).1
  have e:i-H.length=0:=by simp at this;omega
  rw [e] at hx;simp at hx;subst hx;exact hb
def Opens (Pg:Prg) (W:Nat→Prop) (lim:Nat) (w:World) (t:Ty) (cs:List Value):Prop:=
 ∀σ H,Inv Pg W lim σ H w→NoOwn H→∃X σ' as x,Inv Pg W lim σ' (H++X) w∧NoOwn (H++X)∧Sig.le σ σ'∧LRel σ' as cs∧Rep t (H++X) x as∧∀v∈cs,v.oneCell'=true
theorem Opens.atom1 {t:Ty} {v:Value} {x:t.den} (hv:atom v=true) (ho:v.oneCell'=true) (hr:∀H,Rep t H x [v]):Opens Pg W lim w t [v]:=fun σ H h hn=>
 ⟨[],σ,[v],x,by simpa using h,by simpa using hn,Sig.le_refl _,LRel.cons (.atom hv) LRel.nil,hr _,fun u hu=>by simp at hu;subst hu;exact ho⟩
theorem Opens.int {k:IntKind} {n:Int} (h:(Lit.int k n).wf=true):Opens Pg W lim w (.int k) [.int k n]:=by
 refine Opens.atom1 (x:=n) rfl rfl fun H=>⟨rfl, ?_⟩
 simpa [Lit.wf] using h
theorem Opens.bool {b:Bool}:Opens Pg W lim w .bool [.bool b]:=Opens.atom1 (t:=.bool) (x:=b) rfl rfl fun H=>rfl
theorem Opens.str {s:ByteArray} (h:s.size≤maxLen):Opens Pg W lim w .str [.string s]:=Opens.atom1 (t:=.str) (x:=s) rfl rfl fun H=>⟨rfl,h⟩
theorem Opens.nil:Opens Pg W lim w .nil []:=fun σ H h hn=>⟨[],σ,[],(),by simpa using h,by simpa using hn,Sig.le_refl _,LRel.nil,rfl,fun u hu=>by simp at hu⟩
theorem Opens.pair {a b:Ty} {c1 c2:List Value} (h1:Opens Pg W lim w a c1) (h2:Opens Pg W lim w b c2):Opens Pg W lim w (.pair a b) (c1++c2):=by
 intro σ H h hn
 obtain ⟨X,σ1,as,x,k1,k1',k2,k3,k4,k5⟩:=h1 σ H h hn
 obtain ⟨Y,σ2,bs,y,m1,m1',m2,m3,m4,m5⟩:=h2 σ1 _ k1 k1'
 refine ⟨X++Y,σ2,as++bs,(x,y),by rw [←List.append_assoc];exact m1,by rw [←List.append_assoc];exact m1',Sig.le_trans k2 m2,LRel.append (k3.mono m2) m3,⟨as,bs,rfl, ?_, ?_⟩,fun v hv=>?_⟩
 ·rw [←List.append_assoc];exact k4.app Y
 ·rw [←List.append_assoc];exact m4
 ·rcases List.mem_append.1 hv with hv | hv
  ·exact k5 v hv
  ·exact m5 v hv
def sigAt (σ:Sig) (n:Nat) (L:Loc):Sig:=fun i=>if i=n then some L else σ i
theorem sigAt_same {σ:Sig} {n:Nat} {L:Loc}:sigAt σ n L n=some L:=if_pos rfl
theorem sigAt_ne {σ:Sig} {n i:Nat} {L:Loc} (h:i≠n):sigAt σ n L i=σ i:=if_neg h
theorem Inv.snoc {σ:Sig} {H:Heap} (h:Inv Pg W lim σ H w) (hn:NoOwn H) (L:Loc) (b:Blk) (hb:owned b=false) (hr:BlkRel Pg (sigAt σ H.length L) w L b) :
  Inv Pg W lim (sigAt σ H.length L) (H++[b]) w∧Sig.le σ (sigAt σ H.length L):=by
 have hle:Sig.le σ (sigAt σ H.length L):=by
  intro i K hi
  have:=h.lt hi
  rw [sigAt_ne (by omega)];exact hi
 have hno:=hn.snoc hb
 refine ⟨⟨?_,fun i j bi bj Li Lj hi hj hne ho=>?_,fun i x K hx ho=>?_,h.fresh,fun i hi=>?_⟩,hle⟩
 ·intro i x hx ha
  by_cases hi:i<H.length
  ·rw [List.getElem?_append_left hi] at hx
   obtain ⟨K,h1,h2⟩:=h.blk i x hx ha
   exact ⟨K,hle i K h1,h2.mono hle fun _=>rfl⟩
  ·rw [List.getElem?_append_right (by omega)] at hx
   have:=(List.getElem?_eq_some_iff.1 hx).1
   have e:i=H.length:=by simp at this;omega
   subst e
   rw [Nat.sub_self] at hx;simp at hx;subst hx
   exact ⟨L,sigAt_same,hr⟩
 ·rw [hno i bi hi] at ho;cases ho
 ·rw [hno i x hx] at ho;cases ho
 ·simp at hi
  rw [sigAt_ne (by omega)]
  exact h.dom i (by omega)
theorem opens_elems {t:Ty} {n:Nat} {cs:Nat→List Value} (hel:∀i,i<n→Opens Pg W lim w t (cs i)) {σ:Sig} {H:Heap} (h:Inv Pg W lim σ H w) (hn:NoOwn H) :
  ∃X σ',∃es:List (List Value),∃xs:List t.den,Inv Pg W lim σ' (H++X) w∧NoOwn (H++X)∧Sig.le σ σ'∧es.length=n∧xs.length=n∧
   ∀(i:Nat) x e,xs[i]? = some x→es[i]? = some e→Rep t (H++X) x e∧LRel σ' e (cs i)∧∀v∈cs i,v.oneCell'=true:=by
 induction n with
 | zero=>exact ⟨[],σ,[],[],by simpa using h,by simpa using hn,Sig.le_refl _,rfl,rfl,fun i x e hx=>by simp at hx⟩
 | succ n ih=>
   obtain ⟨X,σ1,es,xs,k1,k2,k3,k4,k5,k6⟩:=ih fun i hi=>hel i (by omega)
   obtain ⟨Y,σ2,as,x,m1,m2,m3,m4,m5,m6⟩:=hel n (by omega) σ1 _ k1 k2
   refine ⟨X++Y,σ2,es++[as],xs++[x],by rw [←List.append_assoc];exact m1,by rw [←List.append_assoc];exact m2,Sig.le_trans k3 m3,by simp [k4],by simp [k5],fun i y e hy he=>?_⟩
   rw [←List.append_assoc]
   by_cases hi:i<n
   ·rw [List.getElem?_append_left (by omega)] at hy he
    obtain ⟨q1,q2,q3⟩:=k6 i y e hy he
    exact ⟨q1.app Y,q2.mono m3,q3⟩
   ·have hi':i=n:=by
     have:=(List.getElem?_eq_some_iff.1 hy).1
     simp at this;omega
    subst hi'
    rw [List.getElem?_append_right (by omega),k5] at hy
    rw [List.getElem?_append_right (by omega),k4] at he
    simp at hy he
    subst hy he
    exact ⟨m5,m4,m6⟩
theorem flatten_at {e:Nat}:∀(es:List (List Value)),(∀x∈es,x.length=e)→∀(j:Nat) v,es.flatten[j]? = some v→∃x,es[j / e]? = some x∧x[j % e]? = some v
 | [],_,j,v,h=>by simp at h
 | x::es,he,j,v,h=>by
   have hx:=he x (by simp)
   rw [List.flatten_cons] at h
   by_cases hj:j<x.length
   ·rw [List.getElem?_append_left hj] at h
    rw [hx] at hj
    rw [Nat.div_eq_of_lt hj,Nat.mod_eq_of_lt hj]
    exact ⟨x,rfl,h⟩
   ·rw [List.getElem?_append_right (by omega),hx] at h
    rw [hx] at hj
    obtain ⟨y,h1,h2⟩:=flatten_at es (fun z hz=>he z (by simp [hz])) _ _ h
    have hpos:0<e:=by
     rcases Nat.eq_zero_or_pos e with h0 | h0
     ·subst h0
      have hz:y.length=0:=he y (by have:=List.mem_of_getElem? h1;simp [this])
      rw [List.length_eq_zero_iff.1 hz] at h2;simp at h2
     ·exact h0
    have e1:j / e=(j-e) / e+1:=by rw [←Nat.add_div_right _ hpos];congr 1;omega
    have e2:j % e=(j-e) % e:=by rw [Nat.mod_eq_sub_mod (by omega)]
    rw [e1,e2]
    exact ⟨y,by simpa using h1,h2⟩
theorem Opens.arr {t:Ty} {n:Nat} {cs:List Value} (hl:cs.length=n*t.size) (hel:∀i,i<n→Opens Pg W lim w t ((cs.drop (i*t.size)).take t.size)):Opens Pg W lim w (.arr n t) cs:=by
 intro σ H h hn
 obtain ⟨X,σ1,es,xs,k1,k2,k3,k4,k5,k6⟩:=opens_elems (n:=n) (cs:=fun i=>(cs.drop (i*t.size)).take t.size) hel h hn
 have hes:∀e∈es,e.length=t.size:=by
  intro e he
  obtain ⟨i,hi,rfl⟩:=List.mem_iff_getElem.1 he
  exact (k6 i _ _ (List.getElem?_eq_getElem (by omega)) (List.getElem?_eq_getElem hi)).1.len
 have hat:∀(j:Nat) v,cs[j]? = some v→j / t.size<n∧j % t.size<t.size∧((cs.drop (j / t.size*t.size)).take t.size)[j % t.size]? = some v:=by
  intro j v hj
  have hjl:j<n*t.size:=by rw [←hl];exact (List.getElem?_eq_some_iff.1 hj).1
  have hpos:0<t.size:=by
   rcases Nat.eq_zero_or_pos t.size with h0 | h0
   ·rw [h0] at hjl;simp at hjl
   ·exact h0
  have hm:=Nat.mod_lt j hpos
  refine ⟨(Nat.div_lt_iff_lt_mul hpos).2 hjl,hm, ?_⟩
  rw [List.getElem?_take,if_pos hm,List.getElem?_drop,Nat.div_add_mod' j t.size]
  exact hj
 refine ⟨X,σ1,es.flatten,xs,k1,k2,k3,⟨by rw [flatten_len hes,k4,hl],fun j a v ha hv=>?_⟩,⟨es,rfl,k4,k5,fun i x e hx he=>(k6 i x e hx he).1⟩,fun v hv=>?_⟩
 ·obtain ⟨h1,h2,h3⟩:=hat j v hv
  obtain ⟨e,e1,e2⟩:=flatten_at es hes j a ha
  exact (k6 _ _ e (List.getElem?_eq_getElem (by omega)) e1).2.1.2 _ _ _ e2 h3
 ·obtain ⟨j,hj⟩:=List.mem_iff_getElem?.1 hv
  obtain ⟨h1,h2,h3⟩:=hat j v hj
  exact (k6 (j / t.size) _ _ (List.getElem?_eq_getElem (by omega)) (List.getElem?_eq_getElem (by omega))).2.2 v (List.mem_of_getElem? h3)
theorem Opens.nilslice {t:Ty}:Opens Pg W lim w (.slice t) [.slice none 0 0]:=by
 refine Opens.atom1 (t:=.slice t) (x:=([]:List t.den)) rfl rfl fun H=>⟨Nat.zero_le _,none,0,rfl,fun _=>⟨rfl,rfl⟩,fun a ha=>by cases ha⟩
theorem Opens.slice {t:Ty} {a:Addr} {len cap:Nat} {cs:Nat→List Value} (hl:len≤cap) (hc:cap≤maxLen) (hsz:t.size≠0)
  (hel:∀i,i<cap→w.cells? 0 (a.add (i*t.size)) t.size=some (cs i)∧Opens Pg W lim w t (cs i)):Opens Pg W lim w (.slice t) [.slice (some a) len cap]:=by
 intro σ H h hn
 by_cases h0:len=0
 ·subst h0
  obtain ⟨m1,m2⟩:=h.snoc hn ⟨a.block,a.off,cap*t.size⟩ .dead rfl trivial
  refine ⟨[.dead],_,[.slice (some ⟨H.length,0,none⟩) 0 (loose t.size)],[],m1,hn.snoc rfl,m2,LRel.cons ?_ LRel.nil,⟨Nat.zero_le _,some ⟨H.length,0,none⟩,loose t.size,rfl,fun h=>(by cases h),fun b hb=>?_⟩,fun v hv=>by simp at hv;subst hv;rfl⟩
  ·by_cases hcap:cap=0
   ·subst hcap
    exact .eslice sigAt_same (.inr ⟨_,rfl⟩)
   ·have hsp:a.spot=none:=by
     obtain ⟨h1,h2⟩:=hel 0 (by omega)
     obtain ⟨_,h3,h4⟩:=World.cells?_some h1
     have h5:=h4 0 (by omega)
     rw [List.getElem?_eq_getElem (by omega)] at h5
     have:=World.cell?_spot h5
     simpa [Addr.add] using this
    obtain ⟨b,o,s⟩:=a
    simp only at hsp;subst hsp
    exact .lslice (L:=⟨b,o,cap*t.size⟩) (k:=0) sigAt_same hl (by simp)
  ·cases hb
   exact ⟨rfl,rfl,rfl,fun h=>absurd rfl h⟩
 ·obtain ⟨X,σ1,es,xs,k1,k2,k3,k4,k5,k6⟩:=opens_elems (n:=len) (cs:=cs) (fun i hi=>(hel i (by omega)).2) h hn
  have hsp:a.spot=none:=by
   obtain ⟨h1,h2⟩:=hel 0 (by omega)
   obtain ⟨_,h3,h4⟩:=World.cells?_some h1
   have h5:=h4 0 (by omega)
   rw [List.getElem?_eq_getElem (by omega)] at h5
   have:=World.cell?_spot h5
   simpa [Addr.add] using this
  have hcell:∀i,i<len→∀j,j<t.size→∃v,(cs i)[j]? = some v∧w.cell? ⟨a.block,a.off+(i*t.size+j),none⟩=some v:=by
   intro i hi j hj
   obtain ⟨_,h3,h4⟩:=World.cells?_some (hel i (by omega)).1
   have h5:=h4 j hj
   have hg:(cs i)[j]? = some ((cs i)[j]'(by omega)):=List.getElem?_eq_getElem _
   rw [hg,Go.Deep.add_add] at h5
   refine ⟨_,hg, ?_⟩
   rw [←h5]
   congr 1
   obtain ⟨b,o,s⟩:=a
   simp only at hsp;subst hsp
   exact (addr_add (b:=b) (o:=o)).symm
  obtain ⟨v0,_,hv0⟩:=hcell 0 (by omega) 0 (by omega)
  have hheap:∃cells el fz,w.heap[a.block]? = some (.cells cells el fz):=by
   unfold World.cell? at hv0
   split at hv0
   ·rename_i c el fz hh;exact ⟨c,el,fz,hh⟩
   ·cases hv0
  obtain ⟨cells,el,fz,hh⟩:=hheap
  have hes:∀e∈es,e.length=t.size:=by
   intro e he
   obtain ⟨i,hi,rfl⟩:=List.mem_iff_getElem.1 he
   exact (k6 i _ _ (List.getElem?_eq_getElem (by omega)) (List.getElem?_eq_getElem hi)).1.len
  have hblk:BlkRel Pg (sigAt σ1 (H++X).length ⟨a.block,a.off,cap*t.size⟩) w ⟨a.block,a.off,cap*t.size⟩ (.cells true es.flatten):=by
   refine ⟨cells,el,fz,hh,fun j v hv=>?_,fun h=>by cases h⟩
   obtain ⟨e,h1,h2⟩:=flatten_at es hes j v hv
   have hi:j / t.size<len:=by have:=(List.getElem?_eq_some_iff.1 h1).1;omega
   have hj:j % t.size<t.size:=Nat.mod_lt _ (by omega)
   obtain ⟨q1,q2,q3⟩:=k6 _ _ e (List.getElem?_eq_getElem (by omega)) h1
   obtain ⟨u,r1,r2⟩:=hcell _ hi _ hj
   refine ⟨u, ?_,(q2.2 _ _ _ h2 r1).mono ?_,q3 u (List.mem_of_getElem? r1)⟩
   ·rw [Nat.div_add_mod' j t.size] at r2
    simpa [World.cell?,hh] using r2
   ·intro i K hi
    have:=k1.lt hi
    rw [sigAt_ne (by omega)];exact hi
  obtain ⟨m1,m2⟩:=k1.snoc k2 _ _ rfl hblk
  refine ⟨X++[.cells true es.flatten],_,[.slice (some ⟨(H++X).length,0,none⟩) len (loose t.size)],xs,by rw [←List.append_assoc];exact m1,by rw [←List.append_assoc];exact k2.snoc rfl,Sig.le_trans k3 m2,LRel.cons ?_ LRel.nil, ?_,fun v hv=>by simp at hv;subst hv;rfl⟩
  ·obtain ⟨b,o,s⟩:=a
   simp only at hsp;subst hsp
   exact .lslice (L:=⟨b,o,cap*t.size⟩) (k:=0) sigAt_same hl (by simp)
  ·refine ⟨by rw [k5];omega,some ⟨(H++X).length,0,none⟩,loose t.size,by rw [k5],(fun h=>(by cases h)),fun b hb=>?_⟩
   cases hb
   refine ⟨rfl,rfl,rfl,fun _=>⟨es, ?_,by omega,fun i x e hx he=>?_⟩⟩
   ·rw [←List.append_assoc];exact hget_new0
   ·rw [←List.append_assoc];exact (k6 i x e hx he).1.app _
section
variable (P:Program)
def tyFields (f:TypeId→Option Ty):List Field→Nat→Option Ty
 | [],_=>some .nil
 | fd::fs,off=>if fd.offset=off then match f fd.type with
   | some ty=>if ty.size=P.cellsOf fd.type then match tyFields f fs (off+ty.size) with
     | some r=>some (.pair ty r)
     | none=>none
     else none
   | none=>none
   else none
def tyOf:Nat→TypeId→Option Ty
 | 0,_=>none
 | n+1,t=>match P.underlying t with
   | some .bool=>some .bool
   | some (.int k)=>some (.int k)
   | some .string=>some .str
   | some (.slice e)=>match tyOf n e with
     | some ty=>if ty.size=P.cellsOf e∧ty.size≠0 then some (.slice ty) else none
     | none=>none
   | some (.array k e)=>match tyOf n e with
     | some ty=>if ty.size=P.cellsOf e∧k*ty.size=P.cellsOf t then some (.arr k ty) else none
     | none=>none
   | some (.struct fs)=>match tyFields P (tyOf n) fs.toList 0 with
     | some ty=>if ty.size=P.cellsOf t then some ty else none
     | none=>none
   | _=>none
end
variable {P:Program} {H:Type} {enc:TypeId×Value→H} {held:Bool}
theorem opens_fields {n m:Nat} {cs:List Value} (ih:∀t ty cs x,tyOf P n t=some ty→DataW.trod enc P w 0 (fun _=>true) held m t cs=some x→Opens Pg W lim w ty cs) :
  ∀(fs:List Field) (off:Nat) (xs:List (DataW H×List MemPlace)) (ty:Ty),tyFields P (tyOf P n) fs off=some ty→off+ty.size=cs.length→(∀(i:Nat) f,fs[i]? = some f→DataW.trod enc P w 0 (fun _=>true) held m f.type ((cs.drop f.offset).take (P.cellsOf f.type))=xs[i]?)→xs.length=fs.length→Opens Pg W lim w ty (cs.drop off)
 | [],off,xs,ty,ht,hl,hx,hxl=>by
   simp only [tyFields,Option.some.injEq] at ht
   subst ht
   rw [List.drop_eq_nil_of_le (by simp [Ty.size] at hl;omega)]
   exact Opens.nil
 | fd::fs,off,xs,ty,ht,hl,hx,hxl=>by
   simp only [tyFields] at ht
   split at ht
   case isFalse=>cases ht
   rename_i ho
   split at ht
   case h_2=>cases ht
   rename_i ty1 h1
   split at ht
   case isFalse=>cases ht
   rename_i hs
   split at ht
   case h_2=>cases ht
   rename_i r hr
   cases ht
   simp only [Ty.size] at hl
   match xs,hxl with
   | x0::xs,hxl=>
     have h2:=hx 0 fd rfl
     simp only [List.getElem?_cons_zero] at h2
     have h3:=ih _ _ _ _ h1 h2
     have h4:=opens_fields (cs:=cs) ih fs (off+ty1.size) xs r hr (by omega) (fun i f hf=>by simpa using hx (i+1) f (by simpa using hf)) (by simpa using hxl)
     rw [ho,←hs] at h3
     have:=Opens.pair h3 h4
     rw [←List.drop_drop,List.take_append_drop] at this
     exact this
theorem opens_trod:∀(n m:Nat) {t:TypeId} {ty:Ty} {cs:List Value} {x:DataW H×List MemPlace},tyOf P n t=some ty→DataW.trod enc P w 0 (fun _=>true) held m t cs=some x→Opens Pg W lim w ty cs
 | 0,_,t,ty,cs,x,ht,_=>by simp [tyOf] at ht
 | n+1,m,t,ty,cs,x,ht,h=>by
   simp only [tyOf] at ht
   split at ht
   ·rename_i hu;cases ht
    obtain ⟨b,rfl,_⟩:=DataW.trod_bool hu h
    exact Opens.bool
   ·rename_i k hu;cases ht
    obtain ⟨b,rfl,_,hw⟩:=DataW.trod_int hu h
    exact Opens.int hw
   ·rename_i hu;cases ht
    obtain ⟨b,rfl,_,hw⟩:=DataW.trod_string hu h
    exact Opens.str hw
   ·rename_i e hu
    split at ht
    case h_2=>cases ht
    rename_i ty' he
    split at ht
    case isFalse=>cases ht
    rename_i hs
    cases ht
    rcases Go.Deep.open_slice hu h with ⟨rfl,_⟩ | ⟨a,len,cap,mm,m',D,Pl,rfl,hb,hl,hm,hmm,hx,hi⟩
    ·exact Opens.nilslice
    ·simp only [if_true] at hmm
     subst hmm
     have hel:∀i,∃cs',i<mm→w.cells? 0 (a.add (i*ty'.size)) ty'.size=some cs'∧Opens Pg W lim w ty' cs':=by
      intro i
      by_cases him:i<mm
      ·obtain ⟨cs',h1,h2⟩:=hi i him
       exact ⟨cs',fun _=>⟨by rw [hs.1];exact h1,opens_trod n m' he h2⟩⟩
      ·exact ⟨[],fun h=>absurd h him⟩
     exact Opens.slice (cs:=fun i=>Classical.choose (hel i)) hl hm hs.2 fun i hi=>Classical.choose_spec (hel i) hi
   ·rename_i k e hu
    split at ht
    case h_2=>cases ht
    rename_i ty' he
    split at ht
    case isFalse=>cases ht
    rename_i hs
    cases ht
    obtain ⟨xs,m',_,_,hcl,hxl,hf⟩:=DataW.trod_array hu h
    refine Opens.arr (by rw [hcl,hs.2]) fun i hi=>?_
    have h1:=hf i hi
    rw [List.getElem?_eq_getElem (by omega)] at h1
    rw [hs.1]
    exact opens_trod n m' he h1
   ·rename_i fs hu
    split at ht
    case h_2=>cases ht
    rename_i ty' he
    split at ht
    case isFalse=>cases ht
    rename_i hs
    cases ht
    obtain ⟨xs,m',_,_,hcl,hxl,hf⟩:=DataW.trod_struct hu h
    have:=opens_fields (cs:=cs) (fun t ty cs x h1 h2=>opens_trod n m' h1 h2) fs.toList 0 xs ty he (by omega) (fun i f hf'=>hf i f (by simpa using hf')) (by simpa using hxl)
    simpa using this
   ·cases ht
end
def isRow:Ty→Bool
 | .nil=>true
 | .pair _ _=>true
 | .arr _ _=>true
 | _=>false
def RepV (t:Ty) (H:Heap) (x:t.den) (v:Value):Prop:=if isRow t=true then ∃as,v=.agg as.toArray∧Rep t H x as else Rep t H x [v]
abbrev dens:List Ty→Type
 | []=>Unit
 | t::ts=>t.den×dens ts
def RepAll:(ts:List Ty)→Heap→dens ts→List Value→Prop
 | [],_,_,vs=>vs=[]
 | t::ts,H,x,vs=>∃v r,vs=v::r∧RepV t H x.1 v∧RepAll ts H x.2 r
theorem RepV.app {t:Ty} {H:Heap} {x:t.den} {v:Value} (h:RepV t H x v) (X:Heap):RepV t (H++X) x v:=by
 unfold RepV at *
 split
 ·rename_i hr
  rw [if_pos hr] at h
  obtain ⟨as,e,k⟩:=h
  exact ⟨as,e,k.app X⟩
 ·rename_i hr
  rw [if_neg hr] at h
  exact h.app X
section
variable {P:Program} {H:Type} {enc:TypeId×Value→H} {w:World} {Pg:Prg} {W:Nat→Prop} {lim:Nat}
theorem tyFields_row {f:TypeId→Option Ty}:∀{fs:List Field} {off:Nat} {ty:Ty},tyFields P f fs off=some ty→isRow ty=true
 | [],off,ty,h=>by simp only [tyFields,Option.some.injEq] at h;subst h;rfl
 | fd::fs,off,ty,h=>by
   simp only [tyFields] at h
   split at h
   ·split at h
    ·split at h
     ·split at h
      ·cases h;rfl
      ·cases h
     ·cases h
    ·cases h
   ·cases h
theorem arg_cells {n:Nat} {t:TypeId} {ty:Ty} {v:Value} {r:Reach} {base:Nat} (ht:tyOf P n t=some ty) (hv:Value.okWide P w r base t v):if isRow ty=true then ∃cs,v=.agg cs else v.cells.toList=[v]:=by
 cases n with
 | zero=>simp [tyOf] at ht
 | succ n=>
   simp only [tyOf] at ht
   split at ht
   ·rename_i hu;cases ht
    obtain ⟨b,rfl⟩:=okWide_bool hu hv
    rfl
   ·rename_i k hu;cases ht
    obtain ⟨b,rfl⟩:=okWide_int hu hv
    rfl
   ·rename_i hu;cases ht
    obtain ⟨b,rfl⟩:=okWide_string hu hv
    rfl
   ·rename_i e hu
    split at ht
    case h_2=>cases ht
    split at ht
    case isFalse=>cases ht
    cases ht
    obtain ⟨a,l,c,rfl⟩:=okWide_slice hu hv
    rfl
   ·rename_i k e hu
    split at ht
    case h_2=>cases ht
    rename_i ty' he
    split at ht
    case isFalse=>cases ht
    cases ht
    have hv2:=hv
    simp only [Value.okWide,hu] at hv2
    obtain ⟨cs,rfl,_⟩:=hv2
    exact ⟨cs,rfl⟩
   ·rename_i fs hu
    split at ht
    case h_2=>cases ht
    rename_i ty' he
    split at ht
    case isFalse=>cases ht
    cases ht
    obtain ⟨cs,rfl,_⟩:=okWide_struct hu hv
    rw [if_pos (tyFields_row he)]
    exact ⟨cs,rfl⟩
   ·cases ht
theorem opens_args {n:Nat} {r:Reach} {base:Nat}:∀{ts:List TypeId} {vs:List Value} {ds:List (DataW H)} {ps:List MemPlace} {tys:List Ty},DataW.TrodAll enc P w 0 (fun _=>true) true ts vs ds ps→ts.mapM (tyOf P n)=some tys→
  (∀(j:Nat) t v,ts[j]? = some t→vs[j]? = some v→Value.okWide P w r base t v)→∀σ H,Inv Pg W lim σ H w→NoOwn H→
  ∃X σ' as x,Inv Pg W lim σ' (H++X) w∧NoOwn (H++X)∧Sig.le σ σ'∧LRel σ' as vs∧RepAll tys (H++X) x as
 | [],[],[],ps,tys,_,ht,_,σ,Hp,hi,hn=>by
   simp at ht;subst ht
   exact ⟨[],σ,[],(),by simpa using hi,by simpa using hn,Sig.le_refl _,LRel.nil,rfl⟩
 | t::ts,v::vs,d::ds,ps,tys,hA,ht,hv,σ,Hp,hi,hn=>by
   obtain ⟨p,q,h1,h2,rfl⟩:=hA
   rw [List.mapM_cons] at ht
   obtain ⟨ty,hty,ht⟩:=opt_bind ht
   obtain ⟨tr,htr,ht⟩:=opt_bind ht
   cases ht
   obtain ⟨m,hm⟩:=h1
   have hc:=arg_cells hty (hv 0 t v rfl rfl)
   obtain ⟨X,σ1,as,x,k1,k2,k3,k4,k5,k6⟩:=opens_trod n m hty hm σ Hp hi hn
   obtain ⟨Y,σ2,bs,y,m1,m2,m3,m4,m5⟩:=opens_args h2 htr (fun j t' v' e1 e2=>hv (j+1) t' v' (by simpa using e1) (by simpa using e2)) σ1 _ k1 k2
   have key:∃av,VRel σ1 av v∧RepV ty (Hp++X) x av:=by
    split at hc
    ·rename_i hr
     obtain ⟨cs,rfl⟩:=hc
     refine ⟨.agg as.toArray,VRel.agg_iff.2 ⟨by simpa [Value.cells] using k4,by simpa [Value.cells] using k6⟩, ?_⟩
     unfold RepV;rw [if_pos hr]
     exact ⟨as,rfl,k5⟩
    ·rename_i hr
     rw [hc] at k4
     have hl:=k4.1
     match as,hl,k4,k5 with
     | [a],_,k4,k5=>
       refine ⟨a,k4.head, ?_⟩
       unfold RepV;rw [if_neg hr]
       exact k5
   obtain ⟨av,q1,q2⟩:=key
   refine ⟨X++Y,σ2,av::bs,(x,y),by rw [←List.append_assoc];exact m1,by rw [←List.append_assoc];exact m2,Sig.le_trans k3 m3,LRel.cons (q1.mono m3) m4,av,bs,rfl, ?_, ?_⟩
   ·rw [←List.append_assoc];exact q2.app Y
   ·rw [←List.append_assoc];exact m5
 | [],[],_::_,_,_,hA,_,_,_,_,_,_=>hA.elim
 | [],_::_,_,_,_,hA,_,_,_,_,_,_=>hA.elim
 | _::_,[],_,_,_,hA,_,_,_,_,_,_=>hA.elim
 | _::_,_::_,[],_,_,hA,_,_,_,_,_,_=>hA.elim
theorem trodAll_stays (hl:laidOutB P=true) {w':World} (hb:Below w.heap.size w w'):∀{ts:List TypeId} {vs:List Value} {ds:List (DataW H)} {ps:List MemPlace},(∀t∈ts,P.readableRec t=true∧t<P.types.size)→DataW.TrodAll enc P w 0 (fun _=>true) true ts vs ds ps→
  (∀x∈ps,x.block<w.heap.size)→DataW.TrodAll enc P w' 0 (fun b=>decide (b<w.heap.size)) true ts vs ds ps
 | [],[],[],ps,_,h,_=>h
 | t::ts,v::vs,d::ds,ps,hr,h,hlt=>by
   obtain ⟨p,q,h1,h2,rfl⟩:=h
   exact ⟨p,q,Below.trod hl (hr t (by simp)).1 (hr t (by simp)).2 h1 hb fun x hx=>hlt x (by simp [hx]),trodAll_stays hl hb (fun t' ht'=>hr t' (by simp [ht'])) h2 fun x hx=>hlt x (by simp [hx]),rfl⟩
 | [],[],_::_,_,_,hA,_=>hA.elim
 | [],_::_,_,_,_,hA,_=>hA.elim
 | _::_,[],_,_,_,hA,_=>hA.elim
 | _::_,_::_,[],_,_,hA,_=>hA.elim
theorem trodAll_length:∀{ts:List TypeId} {vs:List Value} {ds:List (DataW H)} {ps:List MemPlace},DataW.TrodAll enc P w 0 (fun _=>true) true ts vs ds ps→ds.length=ts.length
 | [],[],[],ps,_=>rfl
 | t::ts,v::vs,d::ds,ps,h=>by
   obtain ⟨p,q,h1,h2,rfl⟩:=h
   simp [trodAll_length h2]
 | [],[],_::_,_,hA=>hA.elim
 | [],_::_,_,_,hA=>hA.elim
 | _::_,[],_,_,hA=>hA.elim
 | _::_,_::_,[],_,hA=>hA.elim
end
theorem law_returns {C:Checked} {os:Os} {g:FuncId} {fn:Func} {s:ChangeSpec} {E:Env} {tys:List Ty} {tb:TypeId} {conds:List PathCond} {H:Type} {enc:TypeId×Value→H}
  (own:ownKnob C.prog.godebug=none) (started:os.Started) (noInit:C.prog.inits.idxOf? g=none) (hfn:C.prog.funcs[g]? = some fn) (hvars:s.vars=[])
  (hspec:∀ds:List (DataW H),ds.length=fn.params.size→s.fn H ds={ results:=[.lit (.bool true)],args:=ds })
  (hres:fn.resultTypes=#[tb]) (hb:C.prog.underlying tb=some .bool) (htys:fn.params.toList.mapM (tyOf C.prog 9)=some tys)
  (hread:∀t∈fn.params.toList,C.prog.readableRec t=true∧t<C.prog.types.size) (hlaid:laidOutB C.prog=true) (hE:EnvOk C.prog E)
  (witness:∃(w:World) (tape:Tape) (i:Input),w.os=os∧(w.forCall tape i).Shaped C.prog∧i.vars=[]∧Input.okWide C.prog (w.forCall tape i) .any w.heap.size g i∧
   s.pre6 enc C.prog fn conds false (w.forCall tape i).memory i.args∧({}:Assume).holds C.prog (lone (Frame.enter C.prog g i.args .normal) [] (w.forCall tape i)))
  (run:∀H vs x,RepAll tys H x vs→CallR E false H.length g vs H fun v _=>v=.bool true) :
  ReturnsInHanded {} C os g .any (s.pre6 enc C.prog fn conds false) (s.post enc C.prog fn false true false false):=by
 refine returnsInHanded_of_change own started noInit hfn witness ?_
 intro w base args ds gs before hval hW hcnd hholds
 have hW':=hW
 obtain ⟨p,q,hA,hV,rfl,hfz,hnd⟩:=hW
 rw [hvars] at hV
 obtain ⟨rfl,rfl⟩:=trodVars_none hV
 obtain ⟨X,σ,as,x,k1,k2,k3,k4,k5⟩:=opens_args hA htys (fun j t v h1 h2=>hval j t v (by simpa using h1) (by simpa using h2)) (fun _=>none) [] (Inv.nil (P:=C.prog) (E:=E) w) (fun i b hb=>by simp at hb)
 rw [List.nil_append] at k1 k2 k5
 have k1':Inv (Prg.mk C.prog E.pure) (fun k=>w.heap.size≤k) X.length σ X w:=⟨k1.blk,k1.inj,(fun i b L hb ho=>by rw [k2 i b hb] at ho;cases ho),k1.fresh,k1.dom⟩
 obtain ⟨n,LL,hx,hrun⟩:=run X as x k5
 have hcall:=(callOkS hE n).calls _ _ _ _ _ _ hx (Nat.le_refl _) _ _ _ _ k1' k4
 rw [show args.toList.toArray=args by simp] at hcall
 refine hcall.mono fun e w' hp=>?_
 obtain ⟨r,hr,v',σ',rfl,hv,hinv,hst,_⟩:=hp
 rw [hrun.2 r hr] at hv
 rw [hv.bool_left]
 have hbel:Below w.heap.size w w':=⟨hst.os,hst.tape,hst.output,hst.size,fun k hk=>hst.block k (by omega)⟩
 have hlt:∀x∈p,x.block<w.heap.size:=fun x hx=>by
  have:=hW'.lt x (by simpa using hx)
  simpa using this
 have hs:=hspec ds (by simpa using trodAll_length hA)
 refine ⟨_,rfl,_,_,_,[],p,[],hW', ?_, ?_, ?_,hbel.frame _,fun h=>by cases h⟩
 ·rw [List.append_nil,hs,hres]
  exact trodAll_mk1 (shut_bool hb true)
 ·rw [List.append_nil,hs]
  exact trodAll_stays hlaid hbel hread hA hlt
 ·rw [List.append_nil,hs,hvars]
  rfl
theorem Rep.sl {t:Ty} {H:Heap} {l:List t.den} {cs:List Value} {α:Type} (f:t.den→α) (enc:α→List Value) (he:∀H x c,Rep t H x c→c=enc (f x)) (h:Rep (.slice t) H l cs) :
  ∃p cap,cs=[.slice p (l.map f).length cap]∧Sl H enc t.size p (l.map f)∧l.length<2 ^ 63:=by
 obtain ⟨h0,p,cap,e,h1,h2⟩:=h
 have hlen:l.length<2 ^ 63:=by unfold maxLen at h0;omega
 refine ⟨p,cap,by rw [e,List.length_map], ?_,hlen⟩
 cases p with
 | none=>simp only [Sl];rw [(h1 rfl).1];rfl
 | some a=>
   obtain ⟨k1,k2,k3,k4⟩:=h2 a rfl
   refine ⟨k1,fun hn=>?_⟩
   obtain ⟨es,m1,m2,m3⟩:=k4 (by rintro rfl;exact hn rfl)
   have key:es.flatten=(l.map f).flatMap enc:=by
    have:es=l.map fun x=>enc (f x):=by
     apply List.ext_getElem (by simpa using m2)
     intro i i1 i2
     have i3:i<l.length:=by simpa using i2
     have:=he _ _ _ (m3 i l[i] es[i] (List.getElem?_eq_getElem _) (List.getElem?_eq_getElem _))
     rw [this];simp
    rw [this,List.flatMap_def,List.map_map]
    rfl
   have hfl:es.flatten.length=l.length*t.size:=by
    have:∀(es:List (List Value)),(∀x∈es,x.length=t.size)→es.flatten.length=es.length*t.size:=by
     intro es
     induction es with
     | nil=>simp
     | cons x es ih=>intro h;simp [ih fun y hy=>h y (by simp [hy]),h x (by simp),Nat.add_mul,Nat.add_comm]
    rw [this es,m2]
    intro x hx
    obtain ⟨i,hi,rfl⟩:=List.mem_iff_getElem.1 hx
    exact (m3 i _ _ (List.getElem?_eq_getElem (by omega)) (List.getElem?_eq_getElem hi)).len
   refine ⟨true,_,m1, ?_, ?_⟩
   ·rw [k2,hfl,List.length_map];omega
   ·rw [k2,List.drop_zero,key,List.take_of_length_le]
    rw [←key,hfl,List.length_map]
    exact Nat.le_refl _
theorem RepV.row {t:Ty} {H:Heap} {x:t.den} {v:Value} (hr:isRow t=true) (h:RepV t H x v):∃cs,v=.agg cs.toArray∧Rep t H x cs:=by
 unfold RepV at h
 rw [if_pos hr] at h
 exact h
theorem RepV.one {t:Ty} {H:Heap} {x:t.den} {v:Value} (hr:isRow t=false) (h:RepV t H x v):Rep t H x [v]:=by
 unfold RepV at h
 rw [if_neg (by rw [hr];decide)] at h
 exact h
end Go.AM

set_option linter.unusedVariables false
set_option linter.unusedSimpArgs false
namespace Go.AM
structure Chg (A:List Nat) (H H':Heap):Prop where
 len:H.length≤H'.length
 other:∀j,j<H.length→j∉A→hget H' j=hget H j
section
variable {A B:List Nat} {H H' K:Heap}
theorem Chg.refl:Chg A H H:=⟨Nat.le_refl _,fun _ _ _=>rfl⟩
theorem Chg.trans (h:Chg A H H') (k:Chg A H' K):Chg A H K:=⟨Nat.le_trans h.len k.len,fun j hj hA=>(k.other j (by have:=h.len;omega) hA).trans (h.other j hj hA)⟩
theorem Chg.trans' (h:Chg A H H') (k:Chg B H' K) (hB:∀j,j∈B→j<H.length→j∈A):Chg A H K:=⟨Nat.le_trans h.len k.len,fun j hj hA=>(k.other j (by have:=h.len;omega) fun hb=>hA (hB j hb hj)).trans (h.other j hj hA)⟩
theorem Chg.mono (h:Chg A H H') (hs:∀j,j<H.length→j∈A→j∈B):Chg B H H':=⟨h.len,fun j hj hB=>h.other j hj fun hA=>hB (hs j hj hA)⟩
theorem Chg.app (h:Chg A H H') {X:Heap}:Chg A H (H'++X):=⟨by have:=h.len;simp;omega,fun j hj hA=>by rw [hget_old (by have:=h.len;omega)];exact h.other j hj hA⟩
theorem Chg.pre (h:Chg A (H++K) H'):Chg A H H':=⟨by have:=h.len;simp at this;omega,fun j hj hA=>by rw [h.other j (by simp;omega) hA,hget_old hj]⟩
theorem Chg.mut {R:Nat} (h:Chg A H H') (m:Mut H' K R) (hR:R∈A∨H.length≤R):Chg A H K:=⟨by rw [m.len];exact h.len,fun j hj hA=>by
 rw [m.other j (by rintro rfl;rcases hR with h1 | h1;exact hA h1;omega)];exact h.other j hj hA⟩
theorem Chg.set {R:Nat} {b:Blk} (h:Chg A H H') (hR:R∈A∨H.length≤R):Chg A H (H'.set R b):=h.mut (R:=R) ⟨by simp,fun j hj=>hget_set_ne hj⟩ hR
theorem Chg.get (h:Chg A H H') {j:Nat} {b:Blk} (hj:hget H j=b) (hl:j<H.length) (hA:j∉A):hget H' j=b:=by rw [h.other j hl hA];exact hj
theorem Chg.cells (h:Chg A H H') {j:Nat} {ro:Bool} {c:List Value} (hj:hget H j=.cells ro c) (hA:j∉A):hget H' j=.cells ro c:=h.get hj (hget_alive hj) hA
theorem Chg.sl {α:Type} {enc:α→List Value} {e:Nat} {p:Option Addr} {l:List α} (h:Chg A H H') (hs:Sl H enc e p l) (hp:∀a,p=some a→l≠[]→a.block∉A):Sl H' enc e p l:=by
 cases p with
 | none=>exact hs
 | some a=>
   refine ⟨hs.1,fun hn=>?_⟩
   obtain ⟨ro,c,h2,h3⟩:=hs.2 hn
   exact ⟨ro,c,h.cells h2 (hp a rfl hn),h3⟩
theorem Ext.chg (h:Ext H H'):Chg A H H':=by obtain ⟨X,rfl⟩:=h;exact Chg.refl.app
theorem Chg.ext (h:Chg [] H H'):Ext H H':=by
 refine ⟨H'.drop H.length, ?_⟩
 apply List.ext_getElem
 ·have:=h.len;simp;omega
 intro i h1 h2
 by_cases hi:i<H.length
 ·rw [List.getElem_append_left hi]
  have:=h.other i hi (by simp)
  unfold hget at this
  rw [List.getD_eq_getElem?_getD,List.getD_eq_getElem?_getD,List.getElem?_eq_getElem h1,List.getElem?_eq_getElem hi] at this
  exact this
 ·rw [List.getElem_append_right (by omega),List.getElem_drop]
  congr 1
  omega
end
theorem Sl.lt {α:Type} {H:Heap} {enc:α→List Value} {e:Nat} {a:Addr} {l:List α} (h:Sl H enc e (some a) l) (hn:l≠[]):a.block<H.length:=by
 obtain ⟨ro,c,h2,_⟩:=h.2 hn
 exact hget_alive h2
theorem Sl.some {α:Type} {H:Heap} {enc:α→List Value} {e:Nat} {p:Option Addr} {l:List α} (h:Sl H enc e p l) (hn:l≠[]):∃a,p=some a:=by
 cases p with
 | none=>exact absurd h hn
 | some a=>exact ⟨a,rfl⟩
section
variable {α:Type} [Inhabited α] {H:Heap} {enc:α→List Value} {e:Nat} {p:Option Addr} {l:List α}
omit [Inhabited α] in
theorem store_elt {lim S:Nat} (he:∀x,(enc x).length=e) (hp:p=Option.some ⟨S,0,none⟩) (hS:hget H S=.cells false (l.flatMap enc)) (hl:lim≤S) {i:Nat} (hi:i<l.length) (y:α):AM.storeAt lim H (elt p e i) (enc y)=Option.some (H.set S (.cells false ((l.set i y).flatMap enc))):=by
 subst hp
 have h1:i*e+e≤l.length*e:=by
  have:=Nat.mul_le_mul_right e (Nat.succ_le_of_lt hi)
  rw [Nat.succ_mul] at this;exact this
 simp only [elt,addrOf,Option.getD_some,addr_add,storeAt_lit,hS,Nat.zero_add]
 rw [if_pos ⟨hl,by rw [he,flat_len he];exact h1⟩,flat_set he y _ _ hi]
end
theorem store_mut {α:Type} {G:Heap} {enc:α→List Value} {e:Nat} {p:Option Addr} {l:List α} {lim S:Nat} (he:∀x,(enc x).length=e) (hp:p=some ⟨S,0,none⟩) (hS:hget G S=.cells false (l.flatMap enc)) (hl:lim≤S) {i:Nat} (hi:i<l.length) (y:α) :
  ∃G',(∀X,AM.storeAt lim (G++X) (elt p e i) (enc y)=some (G'++X))∧hget G' S=.cells false ((l.set i y).flatMap enc)∧Mut G G' S:=by
 obtain ⟨G',h1,h2,h3⟩:=mut_set (hget_alive hS) (.cells false ((l.set i y).flatMap enc))
 exact ⟨G',fun X=>by rw [store_elt he hp (by rw [hget_old (hget_alive hS)];exact hS) hl hi,h1],h2,h3⟩
theorem Own.step {α:Type} {lim lim' e bytes cap:Nat} {G:Heap} {enc:α→List Value} {p:Option Addr} {l:List α} (h:Own lim G enc e p cap l) (hll:lim'≤lim) (he:∀x,(enc x).length=e) (he0:e≠0) (x:α) (hb:(l.length+1)*bytes≤maxBytes) (hn:l.length+1<2 ^ 61) (hlG:lim≤G.length)
  (X:Heap) (b k:Nat) (hx:hget (G++X) b=.cells false (enc x)) :
  ∃G2,aAppend lim' none e bytes false (.slice p l.length cap) (.slice (some ⟨b,0,none⟩) 1 k) (G++X)=some (.slice (some ⟨G.length+X.length,0,none⟩) (l.length+1) (loose e),G2++[])∧
   Own lim (G2++[]) enc e (some ⟨G.length+X.length,0,none⟩) (loose e) (l++[x])∧(∀A H0,H0.length≤lim→Chg A H0 G→Chg A H0 (G2++[]))∧(∀j,j<G.length→(∀a,p=some a→j≠a.block)→hget (G2++[]) j=hget G j)∧G2.length=G.length+X.length+1∧
   (∀j,j<X.length→hget (G2++[]) (G.length+j)=X.getD j .dead):=by
 obtain ⟨G',R,hR1,hR2,hm,_,hp⟩:=h.push1 (lim':=lim') (bytes:=bytes) hll he he0 x hb hn
 have hRl:lim≤R:=by
  rcases Option.eq_none_or_eq_some p with h1 | ⟨a,h1⟩
  ·rw [hR1 h1];exact hlG
  ·rw [hR2 a h1];exact (h.block h1).1
 refine ⟨G'++(X++[.cells false ((l++[x]).flatMap enc)]),by rw [List.append_nil];exact hp X b k hx, ?_,fun A H0 h1 h2=>?_,fun j hj hp=>?_,by simp [hm.len];omega,fun j hj=>?_⟩
 ·rw [List.append_nil]
  refine Own.new ?_ (by omega)
  rw [←List.append_assoc,←hm.len,←List.length_append]
  exact hget_new0
 ·rw [List.append_nil]
  exact (h2.mut hm (.inr (by omega))).app
 ·rw [List.append_nil,hget_old (by rw [hm.len];exact hj)]
  refine hm.other j ?_
  rcases Option.eq_none_or_eq_some p with h1 | ⟨a,h1⟩
  ·rw [hR1 h1];omega
  ·rw [hR2 a h1];exact hp a h1
 ·rw [List.append_nil,←hm.len,hget_new,List.getD_eq_getElem?_getD,List.getElem?_append_left hj,List.getD_eq_getElem?_getD]
theorem append_newN {α:Type} {lim b e bytes c:Nat} {H:Heap} {enc:α→List Value} {p:Option Addr} {l:List α} (hb:hget H b=.cells false []) (hs:Sl H enc e p l) (h1:e≠0) (h2:l.length*bytes≤maxBytes) (h3:l.length<2 ^ 62) (hn:l≠[]) :
  aAppend lim none e bytes false (.slice (some ⟨b,0,none⟩) 0 0) (.slice p l.length c) H=some (.slice (some ⟨H.length,0,none⟩) l.length (loose e),H++[.cells false (l.flatMap enc)]):=by
 obtain ⟨a,rfl⟩:=hs.some hn
 have h0:l.length≠0:=fun h=>hn (List.length_eq_zero_iff.1 h)
 obtain ⟨k1,k2⟩:=hs
 obtain ⟨ro,cs,k3,k4,k5⟩:=k2 hn
 have hl:AM.loadCells H a (l.length*e)=some (l.flatMap enc):=by
  obtain ⟨ab,ao,as'⟩:=a
  simp only [loadCells_lit]
  simp only at k3 k4 k5
  simp only [k3]
  rw [if_pos k4,k5]
 have h0':AM.loadCells H ⟨b,0,none⟩ (0*e)=some []:=by simp [loadCells_lit,hb]
 simp only [aAppend,firstCells,lenOf,hl,h0',h0,Nat.zero_add,Nat.not_lt_zero,or_false,h1,false_or,Bool.false_eq_true,if_false]
 rw [if_neg (by omega),if_neg (by unfold loose;omega),if_pos (by decide),if_neg (by omega)]
 simp [place]
theorem cellsEq_dec:∀(k:KK) (n:Nat) (a b:List Value),a.length=n→b.length=n→(∀x∈a,∀y∈b,∃t,cellEq k x y=some t∧(t=true↔x=y))→∃t,cellsEq (List.replicate n k) a b=some t∧(t=true↔a=b)
 | k,0,a,b,ha,hb,_=>by
   have:=List.length_eq_zero_iff.1 ha;have:=List.length_eq_zero_iff.1 hb
   subst_vars
   exact ⟨true,rfl,by simp⟩
 | k,n+1,a,b,ha,hb,h=>by
   match a,b,ha,hb with
   | x::a,y::b,ha,hb=>
     obtain ⟨t,h1,h2⟩:=h x (by simp) y (by simp)
     obtain ⟨u,h3,h4⟩:=cellsEq_dec k n a b (by simpa using ha) (by simpa using hb) fun x hx y hy=>h x (by simp [hx]) y (by simp [hy])
     refine ⟨t&&u, ?_, ?_⟩
     ·rw [List.replicate_succ]
      simp only [cellsEq,h1,h3]
     ·rw [Bool.and_eq_true,h2,h4];simp
theorem take_snoc {α:Type} [Inhabited α] {l:List α} {i:Nat} (h:i<l.length):l.take (i+1)=l.take i++[gt l i]:=by
 rw [List.take_succ_eq_append_getElem h,gt_lt h]
theorem Own.more {α:Type} {lim lim' e bytes cap:Nat} {G:Heap} {enc:α→List Value} {p:Option Addr} {l:List α} (h:Own lim G enc e p cap l) (hll:lim'≤lim) (he:∀x,(enc x).length=e) (he0:e≠0) (m:List α) (hb:(l.length+m.length)*bytes≤maxBytes) (hn:l.length+m.length<2 ^ 61) (hlG:lim≤G.length)
  (X:Heap) {x:Value} {str:Bool} (h1:firstCells (G++X) e str x=some (m.flatMap enc)) (h2:lenOf x=some m.length) :
  ∃G2 p' cap',aAppend lim' none e bytes str (.slice p l.length cap) x (G++X)=some (.slice p' (l.length+m.length) cap',G2++[])∧Own lim (G2++[]) enc e p' cap' (l++m)∧(∀A H0,H0.length≤lim→Chg A H0 G→Chg A H0 (G2++[]))∧
   (∀j,j<G.length→(∀a,p=some a→j≠a.block)→hget (G2++[]) j=hget G j)∧G.length≤G2.length:=by
 by_cases hm:m=[]
 ·subst hm
  have hcap:l.length≤cap:=by
   rcases h with ⟨k1,_,k3⟩ | ⟨R,_,k2,_,_⟩
   ·subst k1;simp
   ·rw [k2];simp at hn;unfold loose;omega
  refine ⟨G++X,p,cap, ?_,by rw [List.append_nil,List.append_nil];exact h.app X,fun A H0 q1 q2=>by rw [List.append_nil];exact q2.app,fun j hj _=>by rw [List.append_nil,hget_old hj],by simp⟩
  simp only [List.length_nil,Nat.add_zero] at hb hn h2⊢
  simp only [aAppend,h1,h2,Nat.add_zero,if_true,List.append_nil]
  rw [if_neg (by omega)]
 ·have hm0:¬m.length=0:=fun q=>hm (List.length_eq_zero_iff.1 q)
  rcases h with ⟨k1,k2,k3⟩ | ⟨R,k1,k2,k3,k4⟩
  ·subst k1 k2 k3
   refine ⟨G++(X++[.cells false (m.flatMap enc)]),some ⟨(G++X).length,0,none⟩,loose e, ?_, ?_,fun A H0 q1 q2=>by rw [List.append_nil];exact q2.app,fun j hj _=>by rw [List.append_nil,hget_old hj],by simp⟩
   ·simp only [List.length_nil,Nat.zero_add] at hb hn⊢
    simp only [aAppend,h1,h2,hm0,if_false,Nat.zero_add]
    rw [if_neg (by omega)]
    simp [place]
   ·rw [List.append_nil,List.nil_append]
    refine Own.new ?_ (by simp;omega)
    rw [←List.append_assoc];exact hget_new0
  ·subst k1 k2
   have hRl:=hget_alive k3
   have hR':hget (G++X) R=.cells false (l.flatMap enc):=by rw [hget_old hRl];exact k3
   have hold:AM.loadCells (G++X) ⟨R,0,none⟩ (l.length*e)=some (l.flatMap enc):=by
    simp only [loadCells_lit,hR',Nat.zero_add,flat_len he,Nat.le_refl,if_true,List.drop_zero]
    rw [List.take_of_length_le (by rw [flat_len he];exact Nat.le_refl _)]
   have hmt:Mut G (G.set R .dead) R:=⟨by simp,fun j hj=>hget_set_ne hj⟩
   refine ⟨G.set R .dead++(X++[.cells false ((l++m).flatMap enc)]),some ⟨(G++X).length,0,none⟩,loose e, ?_, ?_,fun A H0 q1 q2=>by rw [List.append_nil];exact (q2.mut hmt (.inr (by omega))).app,fun j hj hp=>by
    rw [List.append_nil,hget_old (by simpa using hj)];exact hget_set_ne (hp _ rfl),by simp⟩
   ·simp only [aAppend,h1,h2,hold,hR',hm0,if_false,if_true]
    rw [if_neg (by unfold loose;omega)]
    simp [show lim'≤R by omega,place,List.set_append_left _ _ hRl,List.append_assoc]
   ·rw [List.append_nil]
    refine Own.new ?_ (by simp;omega)
    rw [←List.append_assoc,show (G++X).length=(G.set R .dead++X).length by simp];exact hget_new0
theorem Own.moreD {α:Type} {lim lim' e bytes cap d:Nat} {G:Heap} {enc:α→List Value} {p:Option Addr} {l:List α} (h:Own lim G enc e p cap l) (hll:lim'≤lim) (he:∀x,(enc x).length=e) (he0:e≠0) (m:List α) (hb:(l.length+m.length)*bytes≤maxBytes) (hn:l.length+m.length<2 ^ 61) (hlG:lim≤G.length)
  (X:Heap) (hd1:G.length≤d) (hd2:d<G.length+X.length) {x:Value} {str:Bool} (h1:firstCells (G++X) e str x=some (m.flatMap enc)) (h2:lenOf x=some m.length) :
  ∃G2 p' cap',aAppend lim' (some d) e bytes str (.slice p l.length cap) x (G++X)=some (.slice p' (l.length+m.length) cap',G2++[])∧Own lim (G2++[]) enc e p' cap' (l++m)∧(∀A H0,H0.length≤lim→Chg A H0 G→Chg A H0 (G2++[]))∧
   (∀j,j<G.length→(∀a,p=some a→j≠a.block)→hget (G2++[]) j=hget G j)∧G.length≤G2.length∧(m≠[]→p'=some ⟨d,0,none⟩)∧(m=[]→p'=p):=by
 by_cases hm:m=[]
 ·subst hm
  have hcap:l.length≤cap:=by
   rcases h with ⟨k1,_,k3⟩ | ⟨R,_,k2,_,_⟩
   ·subst k1;simp
   ·rw [k2];simp at hn;unfold loose;omega
  refine ⟨G++X,p,cap, ?_,by rw [List.append_nil,List.append_nil];exact h.app X,fun A H0 q1 q2=>by rw [List.append_nil];exact q2.app,fun j hj _=>by rw [List.append_nil,hget_old hj],by simp,fun h=>absurd rfl h,fun _=>rfl⟩
  simp only [List.length_nil,Nat.add_zero] at hb hn h2⊢
  simp only [aAppend,h1,h2,Nat.add_zero,if_true,List.append_nil]
  rw [if_neg (by omega)]
 ·have hm0:¬m.length=0:=fun q=>hm (List.length_eq_zero_iff.1 q)
  rcases h with ⟨k1,k2,k3⟩ | ⟨R,k1,k2,k3,k4⟩
  ·subst k1 k2 k3
   refine ⟨(G++X).set d (.cells false (m.flatMap enc)),some ⟨d,0,none⟩,loose e, ?_, ?_,fun A H0 q1 q2=>by rw [List.append_nil];exact q2.app.set (.inr (by omega)),fun j hj _=>by rw [List.append_nil,hget_set_ne (by omega),hget_old hj],by simp,fun _=>rfl,fun h=>absurd h hm⟩
   ·simp only [List.length_nil,Nat.zero_add] at hb hn⊢
    simp only [aAppend,h1,h2,hm0,if_false,Nat.zero_add]
    rw [if_neg (by omega)]
    simp [place]
   ·rw [List.append_nil,List.nil_append]
    exact Own.new (hget_set_eq (by simp;omega)) (by omega)
  ·subst k1 k2
   have hRl:=hget_alive k3
   have hR':hget (G++X) R=.cells false (l.flatMap enc):=by rw [hget_old hRl];exact k3
   have hold:AM.loadCells (G++X) ⟨R,0,none⟩ (l.length*e)=some (l.flatMap enc):=by
    simp only [loadCells_lit,hR',Nat.zero_add,flat_len he,Nat.le_refl,if_true,List.drop_zero]
    rw [List.take_of_length_le (by rw [flat_len he];exact Nat.le_refl _)]
   refine ⟨((G++X).set R .dead).set d (.cells false ((l++m).flatMap enc)),some ⟨d,0,none⟩,loose e, ?_, ?_,fun A H0 q1 q2=>by rw [List.append_nil];exact (q2.app.set (.inr (by omega))).set (.inr (by omega)),fun j hj hp=>by
    rw [List.append_nil,hget_set_ne (by omega),hget_set_ne (hp _ rfl),hget_old hj],by simp,fun _=>rfl,fun h=>absurd h hm⟩
   ·simp only [aAppend,h1,h2,hold,hR',hm0,if_false,if_true]
    rw [if_neg (by unfold loose;omega)]
    simp [show lim'≤R by omega,place]
   ·rw [List.append_nil]
    exact Own.new (hget_set_eq (by simp;omega)) (by omega)
theorem first_slice {α:Type} {e k:Nat} {H:Heap} {enc:α→List Value} {p:Option Addr} {m:List α} (hs:Sl H enc e p m):firstCells H e false (.slice p m.length k)=some (m.flatMap enc):=by
 by_cases hm:m=[]
 ·subst hm
  cases p<;>simp [firstCells]
 ·obtain ⟨a,rfl,hl⟩:=hs.cells hm
  have:m.length≠0:=fun h=>hm (List.length_eq_zero_iff.1 h)
  simp [firstCells,this,hl]
theorem Sl.pre {α:Type} {H:Heap} {enc:α→List Value} {e:Nat} {p:Option Addr} {l m:List α} (h:Sl H enc e p (l++m)) (he:∀x,(enc x).length=e):Sl H enc e p l:=by
 cases p with
 | none=>simp only [Sl] at h;exact (List.append_eq_nil_iff.1 h).1
 | some a=>
   refine ⟨h.1,fun hn=>?_⟩
   obtain ⟨ro,c,h1,h2,h3⟩:=h.2 (by simp [hn])
   have hle:l.length*e≤(l++m).length*e:=Nat.mul_le_mul_right e (by simp)
   refine ⟨ro,c,h1,by omega, ?_⟩
   have h4:=congrArg (List.take (l.length*e)) h3
   rw [List.take_take,Nat.min_eq_left hle,List.flatMap_append,List.take_append_of_le_length (by rw [flat_len he];exact Nat.le_refl _),List.take_of_length_le (l:=l.flatMap enc) (by rw [flat_len he];exact Nat.le_refl _)] at h4
   exact h4
theorem Sl.row {α:Type} {H:Heap} {enc:α→List Value} {e R:Nat} {l:List α} (he:∀x,(enc x).length=e) {ro:Bool} (h:hget H R=.cells ro (l.flatMap enc)):Sl H enc e (Option.some ⟨R,0,none⟩) l:=Sl.lit he (by rw [h];rfl) (by rw [h];rfl)
theorem Own.chg {α:Type} {A:List Nat} {lim e cap:Nat} {G H':Heap} {enc:α→List Value} {p:Option Addr} {l:List α} (h:Own lim G enc e p cap l) (hc:Chg A G H') (hp:∀a,p=some a→a.block∉A):Own lim H' enc e p cap l:=by
 rcases h with h | ⟨R,h1,h2,h3,h4⟩
 ·exact .inl h
 ·exact .inr ⟨R,h1,h2,hc.cells h3 (hp _ h1),h4⟩
def CapOk (e c n:Nat):Prop:=c=loose e∨(n≤c∧c<2 ^ 62)
theorem flat_take {α:Type} {enc:α→List Value} {e:Nat} (he:∀x,(enc x).length=e):∀(l:List α) (k:Nat),(l.take k).flatMap enc=(l.flatMap enc).take (k*e)
 | [],k=>by simp
 | x::l,0=>by simp
 | x::l,k+1=>by
   rw [List.take_succ_cons,List.flatMap_cons,List.flatMap_cons,flat_take he l k,List.take_append,he,List.take_of_length_le (l:=enc x) (by rw [he,Nat.succ_mul];omega),Nat.succ_mul,Nat.add_sub_cancel]
theorem flat_dropN {α:Type} {enc:α→List Value} {e:Nat} (he:∀x,(enc x).length=e):∀(l:List α) (k:Nat),(l.drop k).flatMap enc=(l.flatMap enc).drop (k*e)
 | [],k=>by simp
 | x::l,0=>by simp
 | x::l,k+1=>by
   rw [List.drop_succ_cons,List.flatMap_cons,flat_dropN he l k,List.drop_append,he,List.drop_eq_nil_of_le (as:=enc x) (by rw [he,Nat.succ_mul];omega),List.nil_append,Nat.succ_mul,Nat.add_sub_cancel]
theorem Sl.sub {α:Type} {H:Heap} {enc:α→List Value} {e:Nat} {a:Addr} {l:List α} (h:Sl H enc e (Option.some a) l) (he:∀x,(enc x).length=e) {lo hi:Nat} (h1:lo≤hi) (h2:hi≤l.length):Sl H enc e (Option.some (a.add (lo*e))) ((l.take hi).drop lo):=by
 obtain ⟨b,o,s⟩:=a
 have hs:=h.1
 simp only at hs;subst hs
 rw [addr_add]
 refine ⟨rfl,fun hn=>?_⟩
 have hne:l≠[]:=by rintro rfl;simp at hn
 obtain ⟨ro,c,k1,k2,k3⟩:=h.2 hne
 have hlen:((l.take hi).drop lo).length=hi-lo:=by simp;omega
 have e1:(hi-lo)*e+lo*e=hi*e:=by rw [←Nat.add_mul,Nat.sub_add_cancel h1]
 have e2:hi*e≤l.length*e:=Nat.mul_le_mul_right e h2
 refine ⟨ro,c,k1,by simp only [hlen] at *;omega, ?_⟩
 simp only at k2 k3⊢
 rw [hlen,flat_dropN he,flat_take he,←k3,List.take_take,Nat.min_eq_left e2,List.drop_take,List.drop_drop,show hi*e-lo*e=(hi-lo)*e by omega]
theorem slice_cut {α:Type} {H:Heap} {enc:α→List Value} {e:Nat} {p:Option Addr} {l:List α} {c lo hi:Nat} {vlo vhi:Option Value} (hs:Sl H enc e p l) (hc:CapOk e c l.length) (he:∀x,(enc x).length=e) (hb:∀cap,l.length≤cap→boundsV l.length cap vlo vhi none=some (lo,hi,cap)) (h1:lo≤hi) (h2:hi≤l.length) (hn:l.length<2 ^ 63) :
  ∃p' c',sliceV e (.slice p l.length c) vlo vhi none=some (.slice p' (hi-lo) c')∧Sl H enc e p' ((l.take hi).drop lo)∧CapOk e c' (hi-lo)∧(∀a',p'=some a'→∃a,p=some a∧a'.block=a.block)∧(l≠[]→∀a',p'=some a'→AM.loadCells H a' 0=some []):=by
 have h0:l≠[]→∀a,p=some a→∀k,k≤l.length→AM.loadCells H (a.add (k*e)) 0=some []:=by
  intro hne a ha k hk
  subst ha
  obtain ⟨b,o,s⟩:=a
  have hs':=hs.1
  simp only at hs';subst hs'
  obtain ⟨ro,cs,k1,k2,k3⟩:=hs.2 hne
  simp only at k1 k2
  have:=Nat.mul_le_mul_right e hk
  rw [addr_add,loadCells_lit,k1]
  simp only [Nat.add_zero,List.take_zero]
  rw [if_pos (by omega)]
 have h00:l≠[]→∀a,p=some a→AM.loadCells H a 0=some []:=by
  intro hne a ha
  have:=h0 hne a ha 0 (Nat.zero_le _)
  subst ha
  obtain ⟨b,o,s⟩:=a
  have hs':=hs.1
  simp only at hs';subst hs'
  rw [Nat.zero_mul,addr_add,Nat.add_zero] at this
  exact this
 have hB:∀cap,l.length≤cap→bounds unV l.length cap (vlo.map .const) (vhi.map .const) none=some (lo,hi,cap):=fun cap hcap=>by
  rw [bounds_V,←hb cap hcap]
  cases vlo<;>cases vhi<;>rfl
 have hblk:∀(a:Addr) (n:Nat),(a.add n).block=a.block:=fun a n=>by
  unfold Addr.add
  split<;>rfl
 rcases hc with rfl | ⟨c1,c2⟩
 ·refine ⟨p.map (·.add (lo*e)),loose e, ?_, ?_,.inl rfl,fun a' h=>?_,fun hne a' h=>?_⟩
  ·simp only [sliceV,aSliceS,Option.map_none,if_true,hB _ (Nat.le_refl _)]
  ·cases p with
   | none=>simp only [Sl] at hs;subst hs;simp [Sl]
   | some a=>exact hs.sub he h1 h2
  ·cases p with
   | none=>cases h
   | some a=>cases h;exact ⟨a,rfl,hblk _ _⟩
  ·cases p with
   | none=>cases h
   | some a=>cases h;exact h0 hne a rfl lo (by omega)
 ·have hnl:¬c=loose e:=by unfold loose;omega
  refine ⟨if c=lo then p else p.map (·.add (lo*e)),c-lo, ?_, ?_,.inr ⟨by omega,by omega⟩,fun a' h=>?_,fun hne a' h=>?_⟩
  ·simp only [sliceV,aSliceS,Option.map_none,if_neg hnl,if_pos c2,hB c c1]
  ·split
   ·have h0:(l.take hi).drop lo=[]:=List.drop_eq_nil_of_le (by simp;omega)
    rw [h0]
    cases p with
    | none=>rfl
    | some a=>exact ⟨hs.1,fun h=>absurd rfl h⟩
   ·cases p with
    | none=>simp only [Sl] at hs;subst hs;simp [Sl]
    | some a=>exact hs.sub he h1 h2
  ·split at h
   ·exact ⟨a',h,rfl⟩
   ·cases p with
    | none=>cases h
    | some a=>cases h;exact ⟨a,rfl,hblk _ _⟩
  ·split at h
   ·exact h00 hne a' h
   ·cases p with
    | none=>cases h
    | some a=>cases h;exact h0 hne a rfl lo (by omega)
theorem sliceAV_cut {n e lo hi:Nat} {a:Addr} {vlo vhi:Option Value} (hb:boundsV n n vlo vhi none=some (lo,hi,n)) (hn:n<2 ^ 62) (hl:lo<n):sliceAV n e (.pointer (some a)) vlo vhi none=some (.slice (some (a.add (lo*e))) (hi-lo) (n-lo)):=by
 have hB:bounds unV n n (vlo.map .const) (vhi.map .const) none=some (lo,hi,n):=by
  rw [bounds_V,←hb]
  cases vlo<;>cases vhi<;>rfl
 simp only [sliceAV,Option.map_none,hB,if_pos hn]
 rw [if_neg (by omega)]
theorem Sl.same {α:Type} {H G:Heap} {enc:α→List Value} {e:Nat} {p:Option Addr} {l:List α} (h:Sl H enc e p l) (hg:∀a,p=Option.some a→l≠[]→hget G a.block=hget H a.block):Sl G enc e p l:=by
 cases p with
 | none=>exact h
 | some a=>
   refine ⟨h.1,fun hn=>?_⟩
   obtain ⟨ro,c,h2,h3⟩:=h.2 hn
   exact ⟨ro,c,by rw [hg a rfl hn];exact h2,h3⟩
theorem Ext.get' {H G:Heap} (h:Ext H G) {j:Nat} {b:Blk} (hj:hget H j=b) (hl:j<H.length):hget G j=b:=by
 obtain ⟨X,rfl⟩:=h
 rw [hget_old hl];exact hj
end Go.AM

namespace Go.Proofs.Ytfedceicnjnefac.Fn
open Go.AM Go.AM.Sym Go.Net
set_option maxRecDepth 100000
set_option linter.unusedVariables false
set_option linter.unusedSimpArgs false
set_option maxHeartbeats 4000000
class OB where
 on:FuncId→Bool
def orc [OB] (g:FuncId) (as:List Value):Option Value:=if (g=8∨g=999)∧OB.on g=true∧as=[] then some (.bool true) else none
def E [OB]:Env:=⟨tr,pf,orc,true⟩
instance dtE [OB]:DT E E:=⟨rfl⟩
section
variable {mp:Bool} {lim:Nat} {g:FuncId} {as:List Value} {v:Value} {af:AFunc} {H:Heap} {Q:Value→Heap→Prop}
theorem pc [OB] (h:g≠8∧g≠999) (ht:tr g=some af) (hp:pf g=true) (hf:flat 4 v=true) (hr:Ret E af H.length [.code af.body] (frame0 as) (H++[]) fun v' _=>v'=v):CallR E mp lim g as H Q=Q v H:=
 CallR_pure (E:=E) (by simp [E,orc,h]) ht hp hf (Ret_pad hr)
theorem runs' [OB] (h:g≠8∧g≠999) (ht:tr g=some af) (hp:pf g=false) (hr:Ret E af lim [.code af.body] (frame0 as) (H++[]) Q):CallR E false lim g as H Q:=by
 rw [CallR_run (E:=E) (by simp [E,orc,h]) ht hp rfl];exact Ret_pad hr
theorem CallR.one [OB] (h:CallR E mp lim g as H Q):∃n v H',aCall E n mp lim (.inl g) as H=some [(v,H')]∧Q v H':=by
 obtain ⟨n,L,h1,h2,h3⟩:=h
 obtain ⟨⟨v,H'⟩,rfl⟩:=h2 rfl
 exact ⟨n,v,H',h1,h3 _ (List.mem_singleton.mpr rfl)⟩
end
def encL (l:Leg):List Value:=[.int .i64 l.id,.int .i64 l.frm,.int .i64 l.dst,.int .i64 l.dep,.int .i64 l.mins,.int .i64 l.cut,.int .i64 l.grams,.int .u8 l.days]
theorem encL_len (l:Leg):(encL l).length=8:=id rfl
theorem encL_0 {l:Leg}:(encL l)[0]? = some (.int .i64 l.id):=id rfl
theorem encL_1 {l:Leg}:(encL l)[1]? = some (.int .i64 l.frm):=id rfl
theorem encL_2 {l:Leg}:(encL l)[2]? = some (.int .i64 l.dst):=id rfl
theorem encL_3 {l:Leg}:(encL l)[3]? = some (.int .i64 l.dep):=id rfl
theorem encL_4 {l:Leg}:(encL l)[4]? = some (.int .i64 l.mins):=id rfl
theorem encL_5 {l:Leg}:(encL l)[5]? = some (.int .i64 l.cut):=id rfl
theorem encL_6 {l:Leg}:(encL l)[6]? = some (.int .i64 l.grams):=id rfl
theorem encL_7 {l:Leg}:(encL l)[7]? = some (.int .u8 l.days):=id rfl
theorem getD_end {α:Type} {X Y:List α} {k:Nat} {d:α}:(X++Y).getD (X.length+k) d=Y.getD k d:=by
 rw [List.getD_eq_getElem?_getD,List.getD_eq_getElem?_getD,List.getElem?_append_right (by omega),Nat.add_sub_cancel_left]
theorem getD_end0 {α:Type} {X Y:List α} {d:α}:(X++Y).getD X.length d=Y.getD 0 d:=getD_end (k:=0)
theorem set_end {α:Type} {X Y:List α} {k:Nat} {b:α}:(X++Y).set (X.length+k) b=X++Y.set k b:=by
 rw [List.set_append_right _ _ (by omega),Nat.add_sub_cancel_left]
theorem set_end0 {α:Type} {X Y:List α} {b:α}:(X++Y).set X.length b=X++Y.set 0 b:=set_end (k:=0)
def encI (n:Int):List Value:=[.int .i64 n]
theorem encI_len (n:Int):(encI n).length=1:=id rfl
theorem hget_alive' {H:Heap} {i:Nat} {es:List (Value×Value)} (h:hget H i=.map es):i<H.length:=by
 rcases Nat.lt_or_ge i H.length with h1 | h1
 ·exact h1
 ·unfold hget at h
  rw [List.getD_eq_getElem?_getD,List.getElem?_eq_none h1] at h
  cases h
def By (l:Leg):Prop:=0≤l.days∧l.days≤255
theorem _root_.Go.Net.Fine.by {l:Leg} (h:Fine l):By l:=by unfold Fine at h;unfold By;omega
def enc3 (x:Int×Int×Int):List Value:=[.int .i64 x.1,.int .i64 x.2.1,.int .i64 x.2.2]
theorem enc3_len (x:Int×Int×Int):(enc3 x).length=3:=id rfl
def lims (l:Leg):List (Int×Int×Int):=[(l.id,1,999999),(l.frm,1,999999),(l.dst,1,999999),(l.dep,0,1439),(l.mins,1,20160),(l.cut,0,10080),(l.grams,0,1000000000),(l.days,1,127)]
def inB (x:Int×Int×Int):Prop:=x.2.1≤x.1∧x.1≤x.2.2
theorem fine_iff {l:Leg}:Fine l↔(∀j,j<8→inB (gt (lims l) j))∧l.frm≠l.dst:=by
 constructor
 ·intro h
  unfold Fine at h
  refine ⟨fun j hj=>?_,by omega⟩
  match j,hj with
  | 0,_=>show 1≤l.id∧l.id≤999999;omega
  | 1,_=>show 1≤l.frm∧l.frm≤999999;omega
  | 2,_=>show 1≤l.dst∧l.dst≤999999;omega
  | 3,_=>show 0≤l.dep∧l.dep≤1439;omega
  | 4,_=>show 1≤l.mins∧l.mins≤20160;omega
  | 5,_=>show 0≤l.cut∧l.cut≤10080;omega
  | 6,_=>show 0≤l.grams∧l.grams≤1000000000;omega
  | 7,_=>show 1≤l.days∧l.days≤127;omega
 ·rintro ⟨h,hn⟩
  have h0:1≤l.id∧l.id≤999999:=h 0 (by decide)
  have h1:1≤l.frm∧l.frm≤999999:=h 1 (by decide)
  have h2:1≤l.dst∧l.dst≤999999:=h 2 (by decide)
  have h3:0≤l.dep∧l.dep≤1439:=h 3 (by decide)
  have h4:1≤l.mins∧l.mins≤20160:=h 4 (by decide)
  have h5:0≤l.cut∧l.cut≤10080:=h 5 (by decide)
  have h6:0≤l.grams∧l.grams≤1000000000:=h 6 (by decide)
  have h7:1≤l.days∧l.days≤127:=h 7 (by decide)
  unfold Fine;omega
theorem right_ok [OB] {mp:Bool} {lim:Nat} {l:Leg} {H:Heap} {Q:Value→Heap→Prop} (hd:By l):CallR E mp lim 47 [.agg (encL l).toArray] H Q=Q (.bool (decide (Fine l))) H:=by
 refine pc (by decide) e47 rfl rfl ?_
 rw [b47,c47]
 have wd:IntKind.i64.wrap l.days=l.days:=wrap_id (by unfold By at hd;omega) (by unfold By at hd;omega)
 simp only [n47,r47,encL,wd,SB,Nat.reduceLT,callee,aOp,ne_eq,Nat.reduceEqDiff,aBin,aUn,if_true,if_false,reduceCtorEq,frame0,place,notTuple,Nat.reduceAdd,Nat.reduceLeDiff,resVal,dite_true,dite_false,Int.reduceEq,Int.reduceLT,Int.reduceLE]
 refine Ret_rounds (fun i=>8-i) (fun i fr G=>i≤8∧fr 1=.pointer (some ⟨H.length,0,none⟩)∧fr 32=.agg ((lims l).flatMap enc3).toArray∧fr 33=.int .i64 (i:Int)∧hget G H.length=.cells false (encL l)∧∀j,j<i→inB (gt (lims l) j)) 0
  ⟨Nat.zero_le _,(by simp only [FB,Nat.reduceEqDiff]),by rfl,by rfl,by rw [hget_new0];rfl,fun j hj=>by omega⟩ ?_
 intro i fr G ⟨hi,g1,g32,g33,gH,hall⟩ hN
 have hl:=hget_alive gH
 rw [Ret_code l47_1.eq_1]
 refine Ret_pad ?_
 have gX:=fun X=>(Ext.refl.app (X:=X)).cells gH
 by_cases hlt:i<8
 ·have hw1:IntKind.i64.wrap ((i:Int)+1)=((i+1:Nat):Int):=wrap_nat (by omega)
  have hd:=flat_drop enc3_len (lims l) i hlt
  have h8:(i:Int)<8:=by omega
  have h0:(0:Int)≤(i:Int):=by omega
  have hL:H.length≤G.length:=by omega
  simp only [n47,r47,g1,g32,g33,h8,h0,hd,hw1,enc3,hL,SB,Nat.reduceLT,callee,aOp,ne_eq,Nat.reduceEqDiff,aBin,aUn,if_true,if_false,reduceCtorEq,frame0,place,notTuple,Nat.reduceAdd,Nat.reduceLeDiff,resVal,dite_true,dite_false,Int.reduceEq,Int.reduceLT,Int.reduceLE]
  repeat' ((first | refine wantK_dec (fun hw=>?_) (fun hw=>?_) | refine condK_dec (fun hw=>?_) (fun hw=>?_) | refine wantK_any (fun hw=>?_) (fun hw=>?_) | refine condK_any (fun hw=>?_) (fun hw=>?_))<;>(try simp only [hw,n47,r47,g1,g32,g33,h8,h0,hd,hw1,enc3,hL,SB,Nat.reduceLT,callee,aOp,ne_eq,Nat.reduceEqDiff,aBin,aUn,if_true,if_false,reduceCtorEq,frame0,place,notTuple,Nat.reduceAdd,Nat.reduceLeDiff,resVal,dite_true,dite_false,Int.reduceEq,Int.reduceLT,Int.reduceLE]))
  ·rw [decide_eq_false]
   rw [fine_iff]
   intro h
   have:=(h.1 i hlt).1
   omega
  ·rw [decide_eq_false]
   rw [fine_iff]
   intro h
   have:=(h.1 i hlt).2
   omega
  ·refine hN (i+1) _ _ ⟨by omega,(by simp only [g1,FB,Nat.reduceEqDiff]),(by simp only [g32,FB,Nat.reduceEqDiff]),(by simp only [FB,Nat.reduceEqDiff]),(Ext.refl.app).cells gH,fun j hj=>?_⟩ (by omega)
   rcases Nat.lt_or_ge j i with h | h
   ·exact hall j h
   ·obtain rfl:j=i:=by omega
    unfold inB;omega
 ·obtain rfl:i=8:=by omega
  simp only [n47,r47,g1,g32,g33,gX,encL,SB,Nat.reduceLT,callee,aOp,ne_eq,Nat.reduceEqDiff,aBin,aUn,if_true,if_false,reduceCtorEq,frame0,place,notTuple,Nat.reduceAdd,Nat.reduceLeDiff,resVal,dite_true,dite_false,Int.reduceEq,Int.reduceLT,Int.reduceLE]
  congr 1
  rw [Bool.eq_iff_iff]
  simp only [decide_eq_true_eq,fine_iff,Bool.not_eq_true',decide_eq_false_iff_not]
  exact ⟨fun h=>⟨hall,h⟩,fun h=>h.2⟩
def depV:Option (Int×Int)→Value
 | some (a,b)=>.tuple #[.agg #[.int .i64 a,.int .i64 b],.bool true]
 | none=>.tuple #[.agg #[.int .i64 0,.int .i64 0],.bool false]
theorem depV_flat {x:Option (Int×Int)}:flat 4 (depV x)=true:=by cases x<;>rfl
def depOn (l:Leg) (d:Nat):Option (Int×Int):=if goes l d then some (1440*(d:Int)+l.dep,1440*(d:Int)+l.dep+l.mins) else none
theorem bit_ok {a:Int} {k:Nat} (h0:0≤a) (h1:a≤255) (hk:k<7) :
  IntKind.u8.wrap ((BitVec.ofInt 8 (a.fdiv (2 ^ (min k 8))) &&& BitVec.ofInt 8 1).toNat:Int)=((a.toNat / 2 ^ k % 2:Nat):Int):=by
 obtain ⟨n,rfl⟩:∃n:Nat,a=(n:Int):=⟨a.toNat,by omega⟩
 rw [Nat.min_eq_left (by omega),Int.toNat_natCast]
 have e:((n:Int).fdiv (2 ^ k))=((n / 2 ^ k:Nat):Int):=by
  rw [show ((2:Int) ^ k)=((2 ^ k:Nat):Int) by simp,Int.fdiv_eq_ediv_of_nonneg _ (Int.natCast_nonneg _)]
  rfl
 rw [e,BitVec.ofInt_natCast,BitVec.toNat_and]
 have hl:n / 2 ^ k<256:=Nat.lt_of_le_of_lt (Nat.div_le_self _ _) (by omega)
 have e1:(BitVec.ofInt 8 1).toNat=1:=rfl
 rw [e1,BitVec.toNat_ofNat,Nat.mod_eq_of_lt hl,Nat.and_one_is_mod]
 simp only [IntKind.wrap,IntKind.bits,IntKind.signed]
 simp;omega
theorem departure_ok [OB] {mp:Bool} {lim:Nat} {l:Leg} {d:Nat} {H:Heap} {Q:Value→Heap→Prop} (hl:Fine l) (hd:d<dayN):CallR E mp lim 60 [.agg (encL l).toArray,.int .i64 (d:Int)] H Q=Q (depV (depOn l d)) H:=by
 refine pc (by decide) e60 rfl depV_flat ?_
 rw [b60,c60]
 rw [dayN_eq] at hd
 have hb:=hl.by
 unfold By at hb
 have h7:Int.tmod (d:Int) 7=((d % 7:Nat):Int):=rfl
 have h7':¬(((d % 7:Nat):Int)<0):=by omega
 have hbit:=bit_ok (a:=l.days) (k:=d % 7) hb.1 hb.2 (by omega)
 have hF:=hl
 unfold Fine at hF
 have w1:IntKind.i64.wrap (1440*(d:Int))=1440*(d:Int):=wrap_id (by omega) (by omega)
 have w2:IntKind.i64.wrap (1440*(d:Int)+l.dep)=1440*(d:Int)+l.dep:=wrap_id (by omega) (by omega)
 have w3:IntKind.i64.wrap (1440*(d:Int)+l.dep-l.cut)=1440*(d:Int)+l.dep-l.cut:=wrap_id (by omega) (by omega)
 have w4:IntKind.i64.wrap (1440*(d:Int)+l.dep+l.mins)=1440*(d:Int)+l.dep+l.mins:=wrap_id (by omega) (by omega)
 have hr:runs l.days d=(l.days.toNat / 2 ^ (d % 7) % 2 == 1):=rfl
 have hb2:l.days.toNat / 2 ^ (d % 7) % 2<2:=Nat.mod_lt _ (by decide)
 generalize l.days.toNat / 2 ^ (d % 7) % 2=b at hbit hr hb2
 change IntKind.u8.wrap ((BitVec.ofInt (IntKind.bits .u8) (l.days.fdiv (2 ^ (min (d % 7) (IntKind.bits .u8)))) &&& BitVec.ofInt (IntKind.bits .u8) 1).toNat:Int)=((b:Nat):Int) at hbit
 have hg:goes l d=((b == 1)&&decide (0≤1440*(d:Int)+l.dep-l.cut)&&decide (1440*(d:Int)+l.dep+l.mins≤1051898399)):=by unfold goes maxTime;rw [hr]
 simp only [n60,r60,encL_len,encL_0,encL_1,encL_2,encL_3,encL_4,encL_5,encL_6,encL_7,take_all,h7,h7',hbit,w1,w2,w3,w4,SB,Nat.reduceLT,callee,aOp,ne_eq,Nat.reduceEqDiff,aBin,aUn,if_true,if_false,reduceCtorEq,frame0,place,notTuple,Nat.reduceAdd,Nat.reduceLeDiff,resVal,dite_true,dite_false,Int.reduceEq,Int.reduceLT,Int.reduceLE]
 repeat' ((first | refine wantK_dec (fun hw=>?_) (fun hw=>?_) | refine condK_dec (fun hw=>?_) (fun hw=>?_) | refine wantK_any (fun hw=>?_) (fun hw=>?_) | refine condK_any (fun hw=>?_) (fun hw=>?_))<;>(try simp only [hw,n60,r60,encL_len,encL_0,encL_1,encL_2,encL_3,encL_4,encL_5,encL_6,encL_7,take_all,h7,h7',hbit,w1,w2,w3,w4,SB,Nat.reduceLT,callee,aOp,ne_eq,Nat.reduceEqDiff,aBin,aUn,if_true,if_false,reduceCtorEq,frame0,place,notTuple,Nat.reduceAdd,Nat.reduceLeDiff,resVal,dite_true,dite_false,Int.reduceEq,Int.reduceLT,Int.reduceLE]))
 ·obtain rfl:b=0:=by omega
  rw [depOn,hg];rfl
 ·obtain rfl:b=1:=by omega
  rw [depOn,hg,decide_eq_false (by omega)];rfl
 ·obtain rfl:b=1:=by omega
  rw [depOn,hg,decide_eq_false (p:=_≤(1051898399:Int)) (by omega),Bool.and_false];rfl
 ·obtain rfl:b=1:=by omega
  rw [depOn,hg,decide_eq_true (p:=_≤(1051898399:Int)) (by omega),decide_eq_true (by omega)];rfl
theorem max_v {a b:Int}:aMinMaxAll true (.int .i64 a) [.int .i64 b]=some (.int .i64 (max a b)):=by
 simp only [aMinMaxAll,aMinMax,if_true]
 congr 2
 split<;>omega
theorem min_v {a b:Int}:aMinMaxAll false (.int .i64 a) [.int .i64 b]=some (.int .i64 (min a b)):=by
 simp only [aMinMaxAll,aMinMax,if_true]
 simp only [Bool.false_eq_true,if_false]
 congr 2
 split<;>omega
theorem setParams_one {fr:Nat→Value} {p:Nat} {v:Value}:setParams fr [p] [v]=upd fr p v:=rfl
def Pre (l:Leg) (r e s a b:Int) (ok:Bool) (x:LoopB):List Blk:=[.cells false (encL l),.cells false [.int .i64 r],.cells false [.int .i64 a,.int .i64 b],.cells false [.bool ok],.cells false (encL l),.cells false [.int .i64 e],.cells false [.int .i64 s],.dfr,.loop x]
theorem deps_rule [OB] {H X:Heap} {l:Leg} {r s e:Int} {lp:LoopB} {Q:Value→Heap→Prop} (J:Int→Prop) (F:Heap→Prop) (hl:Fine l) (hs:s=1∨s=-1)
  (hround:∀e X,0≤e→e≤730484→goes l e.toNat=true→J e→CallY E false H.length (H.length+8) [.agg #[.int .i64 (1440*e+l.dep),.int .i64 (1440*e+l.dep+l.mins)]] (H++(Pre l r e s 0 0 false lp++X)) fun v H'=>(v=.bool true∧J (e+s)∧∃X',H'=H++(Pre l r e s 0 0 false lp++X'))∨(v=.bool false∧F H'))
  (hskip:∀e,0≤e→e≤730484→goes l e.toNat=false→J e→J (e+s))
  (hend:∀e X,J e→¬(0≤e∧e≤730484)→Q (.tuple #[]) (H++(Pre l r e s 0 0 false lp++X)))
  (hF:∀H',F H'→Q (.tuple #[]) H') (h0:J e) (he:-2≤e∧e≤2 ^ 40) :
  CallR E false H.length 59 [.func (.yield (H.length+8)) #[] #[],.pointer (some ⟨H.length+5,0,none⟩),.pointer (some ⟨H.length+6,0,none⟩),.pointer (some ⟨H.length+4,0,none⟩)] (H++(Pre l r e s 0 0 false lp++X)) Q:=by
 rw [CallR_run (E:=E) (by simp [E,orc]) (show E.tr 59=some a59 from e59) rfl rfl,b59,c59]
 simp only [n59,r59,SB,Nat.reduceLT,callee,aOp,ne_eq,Nat.reduceEqDiff,aBin,aUn,if_true,if_false,reduceCtorEq,frame0,place,notTuple,Nat.reduceAdd,Nat.reduceLeDiff,resVal,dite_true,dite_false,Int.reduceEq,Int.reduceLT,Int.reduceLE]
 refine Ret_rounds (fun e:Int=>if s=1 then (730485-e).toNat else (e+1).toNat) (fun e fr G=>J e∧-2≤e∧e≤2 ^ 40∧fr 0=.func (.yield (H.length+8)) #[] #[]∧fr 1=.pointer (some ⟨H.length+5,0,none⟩)∧fr 2=.pointer (some ⟨H.length+6,0,none⟩)∧fr 3=.pointer (some ⟨H.length+4,0,none⟩)∧∃X,G=H++(Pre l r e s 0 0 false lp++X)) e
  ⟨h0,he.1,he.2,(by simp only [FB,Nat.reduceEqDiff]),(by simp only [FB,Nat.reduceEqDiff]),(by simp only [FB,Nat.reduceEqDiff]),(by simp only [FB,Nat.reduceEqDiff]),X,rfl⟩ ?_
 rintro e fr G ⟨hJ,b1,b2,g0,g1,g2,g3,X,rfl⟩ hN
 rw [Ret_code l59_1.eq_1]
 have ws:IntKind.i64.wrap (e+s)=e+s:=wrap_id (by omega) (by omega)
 by_cases h1:0≤e
 ·by_cases h2:e≤730484
  ·obtain ⟨d,rfl⟩:∃d:Nat,e=(d:Int):=⟨e.toNat,by omega⟩
   have hdep:=fun (H:Heap) (mp:Bool) (lim:Nat) (Q:Value→Heap→Prop)=>departure_ok (mp:=mp) (lim:=lim) (H:=H) (Q:=Q) (l:=l) (d:=d) hl (by rw [dayN_eq];omega)
   have hmeas:∀e':Int,e'=(d:Int)+s→(if s=1 then (730485-e').toNat else (e'+1).toNat)<(if s=1 then (730485-(d:Int)).toNat else ((d:Int)+1).toNat):=by
    intro e' h;subst h
    rcases hs with rfl | rfl
    ·simp;omega
    ·simp;omega
   cases hg:goes l d with
   | false=>
     have hno:depOn l d=none:=by unfold depOn;rw [hg];rfl
     rw [hno] at hdep
     simp only [depV] at hdep
     simp only [n59,r59,g0,g1,g2,g3,h1,h2,Pre,hdep,encL_len,encL_0,encL_1,encL_2,encL_3,encL_4,encL_5,encL_6,encL_7,take_all,getD_end,getD_end0,set_end,set_end0,ws,SB,Nat.reduceLT,callee,aOp,ne_eq,Nat.reduceEqDiff,aBin,aUn,if_true,if_false,reduceCtorEq,frame0,place,notTuple,Nat.reduceAdd,Nat.reduceLeDiff,resVal,dite_true,dite_false,Int.reduceEq,Int.reduceLT,Int.reduceLE]
     exact hN ((d:Int)+s) _ _ ⟨hskip _ h1 h2 (by simpa using hg) hJ,by omega,by omega,(by simp only [g0,FB,Nat.reduceEqDiff]),(by simp only [g1,FB,Nat.reduceEqDiff]),(by simp only [g2,FB,Nat.reduceEqDiff]),(by simp only [g3,FB,Nat.reduceEqDiff]),_,rfl⟩ (hmeas _ rfl)
   | true=>
     have hso:depOn l d=some (1440*(d:Int)+l.dep,1440*(d:Int)+l.dep+l.mins):=by unfold depOn;rw [hg];rfl
     rw [hso] at hdep
     simp only [depV] at hdep
     simp only [n59,r59,g0,g1,g2,g3,h1,h2,Pre,hdep,encL_len,encL_0,encL_1,encL_2,encL_3,encL_4,encL_5,encL_6,encL_7,take_all,getD_end,getD_end0,set_end,set_end0,ws,SB,Nat.reduceLT,callee,aOp,ne_eq,Nat.reduceEqDiff,aBin,aUn,if_true,if_false,reduceCtorEq,frame0,place,notTuple,Nat.reduceAdd,Nat.reduceLeDiff,resVal,dite_true,dite_false,Int.reduceEq,Int.reduceLT,Int.reduceLE]
     refine (hround _ _ h1 h2 (by simpa using hg) hJ).mono fun v H' hv=>?_
     rcases hv with ⟨rfl,hJ',X',rfl⟩ | ⟨rfl,hf⟩
     ·simp only [n59,r59,g0,g1,g2,g3,h1,h2,Pre,encL_len,encL_0,encL_1,encL_2,encL_3,encL_4,encL_5,encL_6,encL_7,take_all,getD_end,getD_end0,set_end,set_end0,ws,SB,Nat.reduceLT,callee,aOp,ne_eq,Nat.reduceEqDiff,aBin,aUn,if_true,if_false,reduceCtorEq,frame0,place,notTuple,Nat.reduceAdd,Nat.reduceLeDiff,resVal,dite_true,dite_false,Int.reduceEq,Int.reduceLT,Int.reduceLE]
      exact hN ((d:Int)+s) _ _ ⟨hJ',by omega,by omega,(by simp only [g0,FB,Nat.reduceEqDiff]),(by simp only [g1,FB,Nat.reduceEqDiff]),(by simp only [g2,FB,Nat.reduceEqDiff]),(by simp only [g3,FB,Nat.reduceEqDiff]),_,rfl⟩ (hmeas _ rfl)
     ·refine Ret_pad ?_
      simp only [n59,r59,g0,g1,g2,g3,h1,h2,Pre,encL_len,encL_0,encL_1,encL_2,encL_3,encL_4,encL_5,encL_6,encL_7,take_all,getD_end,getD_end0,set_end,set_end0,ws,SB,Nat.reduceLT,callee,aOp,ne_eq,Nat.reduceEqDiff,aBin,aUn,if_true,if_false,reduceCtorEq,frame0,place,notTuple,Nat.reduceAdd,Nat.reduceLeDiff,resVal,dite_true,dite_false,Int.reduceEq,Int.reduceLT,Int.reduceLE]
      rw [List.append_nil]
      exact hF _ hf
  ·simp only [n59,r59,g0,g1,g2,g3,h1,h2,Pre,encL_len,encL_0,encL_1,encL_2,encL_3,encL_4,encL_5,encL_6,encL_7,take_all,getD_end,getD_end0,set_end,set_end0,ws,SB,Nat.reduceLT,callee,aOp,ne_eq,Nat.reduceEqDiff,aBin,aUn,if_true,if_false,reduceCtorEq,frame0,place,notTuple,Nat.reduceAdd,Nat.reduceLeDiff,resVal,dite_true,dite_false,Int.reduceEq,Int.reduceLT,Int.reduceLE]
   exact hend e X hJ (by omega)
 ·simp only [n59,r59,g0,g1,g2,g3,h1,Pre,encL_len,encL_0,encL_1,encL_2,encL_3,encL_4,encL_5,encL_6,encL_7,take_all,getD_end,getD_end0,set_end,set_end0,ws,SB,Nat.reduceLT,callee,aOp,ne_eq,Nat.reduceEqDiff,aBin,aUn,if_true,if_false,reduceCtorEq,frame0,place,notTuple,Nat.reduceAdd,Nat.reduceLeDiff,resVal,dite_true,dite_false,Int.reduceEq,Int.reduceLT,Int.reduceLE]
  exact hend e X hJ (by omega)
theorem departures_ok [OB] {lim:Nat} {l:Leg} {e s:Int} {H:Heap} {Q:Value→Heap→Prop}:CallR E false lim 48 [.agg (encL l).toArray,.int .i64 e,.int .i64 s] H Q=Q (.func (.func 59) #[] #[.pointer (some ⟨H.length+1,0,none⟩),.pointer (some ⟨H.length+2,0,none⟩),.pointer (some ⟨H.length,0,none⟩)]) (H++[.cells false (encL l),.cells false [.int .i64 e],.cells false [.int .i64 s]]):=by
 rw [CallR_run (E:=E) (by simp [E,orc]) (show E.tr 48=some a48 from e48) rfl rfl,b48,c48]
 rw [←List.append_nil H]
 simp only [n48,r48,encL_len,encL_0,encL_1,encL_2,encL_3,encL_4,encL_5,encL_6,encL_7,take_all,SB,Nat.reduceLT,callee,aOp,ne_eq,Nat.reduceEqDiff,aBin,aUn,if_true,if_false,reduceCtorEq,frame0,place,notTuple,Nat.reduceAdd,Nat.reduceLeDiff,resVal,dite_true,dite_false,Int.reduceEq,Int.reduceLT,Int.reduceLE]
theorem nextD_max {l:Leg} {r:Int}:nextD l r=nextD l (max r 0):=by
 unfold nextD nextDay
 congr 2
 funext d
 cases hg:goes l d with
 | false=>rfl
 | true=>
   simp only [Bool.true_and]
   unfold goes at hg
   simp only [Bool.and_eq_true,decide_eq_true_eq] at hg
   rw [decide_eq_decide]
   omega
theorem nextD_late {l:Leg} {r:Int} (hl:Fine l) (h:maxTime<r):nextD l r=none:=by
 cases hx:nextD l r with
 | none=>rfl
 | some a=>
   obtain ⟨⟨d,_,hg,rfl⟩,h2,_⟩:=nextD_some hx
   unfold goes at hg
   simp only [Bool.and_eq_true,decide_eq_true_eq] at hg
   unfold Fine at hl
   omega
theorem nextD_is {l:Leg} {r:Int} {d:Nat} (hd:d<dayN) (hg:goes l d=true) (hr:r≤1440*(d:Int)+l.dep-l.cut) (hno:∀d':Nat,d'<d→¬(goes l d'=true∧r≤1440*(d':Int)+l.dep-l.cut)):nextD l r=some (1440*(d:Int)+l.dep):=by
 unfold nextD nextDay
 have:(List.range dayN).find? (fun (d:Nat)=>goes l d&&decide (r≤1440*(d:Int)+l.dep-l.cut))=some d:=by
  rw [find_range]
  refine ⟨by simp [hg,hr],hd,fun j hj=>?_⟩
  have:=hno j hj
  simp only [Bool.and_eq_false_iff,decide_eq_false_iff_not]
  cases hgj:goes l j with
  | false=>exact .inl rfl
  | true=>exact .inr fun h=>this ⟨hgj,h⟩
 rw [this];rfl
theorem nextD_no {l:Leg} {r:Int} (hno:∀d':Nat,d'<dayN→¬(goes l d'=true∧r≤1440*(d':Int)+l.dep-l.cut)):nextD l r=none:=by
 unfold nextD nextDay
 rw [Option.map_eq_none_iff,find_range_none]
 intro j hj
 have:=hno j hj
 simp only [Bool.and_eq_false_iff,decide_eq_false_iff_not]
 cases hgj:goes l j with
 | false=>exact .inl rfl
 | true=>exact .inr fun h=>this ⟨hgj,h⟩
theorem next_key [OB] {H:Heap} {l:Leg} {r e:Int} {fr0:Nat→Value} {K':List AItem} (hl:Fine l) (hr0:0≤r) (hrm:r≤maxTime) (he:e=(r+l.cut) / 1440) (f2:fr0 2=.pointer (some ⟨H.length,0,none⟩)) (f3:fr0 3=.pointer (some ⟨H.length+1,0,none⟩)) (f4:fr0 4=.pointer (some ⟨H.length+2,0,none⟩)) (f5:fr0 5=.pointer (some ⟨H.length+3,0,none⟩))
  (hm:marks (K'++[.mark (H.length+7)])=[H.length+7])
  (hnone:∀(e:Int) (X:Heap),Ret E a36 H.length (K'++[.mark (H.length+7)]) fr0 (H++[.cells false (encL l),.cells false [.int .i64 r],.cells false [.int .i64 0,.int .i64 0],.cells false [.bool false],.cells false (encL l),.cells false [.int .i64 e],.cells false [.int .i64 1],.dfr,.dead]++X) fun v' _=>v'=depV none) :
  CallR E false H.length 59 [.func (.yield (H.length+8)) #[] #[],.pointer (some ⟨H.length+5,0,none⟩),.pointer (some ⟨H.length+6,0,none⟩),.pointer (some ⟨H.length+4,0,none⟩)] (H++(Pre l r e 1 0 0 false ⟨0,none,fr0,36,[26],ga36_1,gb36_1⟩++[])) fun _ H2=>
   endK (hget H2 (H.length+7+1)) fun x=>Ret E a36 H.length (pendI x++(K'++[.mark (H.length+7)])) fr0 (H2.set (H.length+7+1) .dead) fun v' _=>v'=depV ((nextD l r).map fun a=>(a,a+l.mins)):=by
 have hF:=hl
 unfold Fine at hF
 unfold maxTime at hrm
 refine deps_rule (fun e=>0≤e∧∀d:Nat,(d:Int)<e→¬(goes l d=true∧r≤1440*(d:Int)+l.dep-l.cut))
  (fun G=>∃(X:Heap) (e a:Int),nextD l r=some a∧G=H++(Pre l r e 1 a (a+l.mins) true ⟨2,some .retM,fr0,36,[26],ga36_1,gb36_1⟩++X)) hl (.inl rfl) ?_ ?_ ?_ ?_ ⟨by omega,fun d hd h=>by omega⟩ ⟨by omega,by omega⟩
 ·rintro e X h1 h2 hg ⟨_,hJ⟩
  obtain ⟨d,rfl⟩:∃d:Nat,e=(d:Int):=⟨e.toNat,by omega⟩
  rw [Int.toNat_natCast] at hg
  rw [CallY_run (x:=⟨0,none,fr0,36,[26],ga36_1,gb36_1⟩) (by rw [hget_new];rfl) (by omega) rfl (by rfl),setParams_one]
  rw [Ret_code ga36_1.eq_1]
  have hle:H.length≤H.length+8:=by omega
  simp only [Pre,f2,f3,f4,f5,getD_end,getD_end0,set_end,set_end0,hle,SB,Nat.reduceLT,callee,aOp,ne_eq,Nat.reduceEqDiff,aBin,aUn,if_true,if_false,reduceCtorEq,frame0,place,notTuple,Nat.reduceAdd,Nat.reduceLeDiff,resVal,dite_true,dite_false,Int.reduceEq,Int.reduceLT,Int.reduceLE]
  rw [Ret_code gb36_1.eq_1]
  have w1:IntKind.i64.wrap (1440*(d:Int)+l.dep-l.cut)=1440*(d:Int)+l.dep-l.cut:=wrap_id (by omega) (by omega)
  by_cases h:r≤1440*(d:Int)+l.dep-l.cut
  ·simp only [Pre,f2,f3,f4,f5,encL_len,encL_0,encL_1,encL_2,encL_3,encL_4,encL_5,encL_6,encL_7,take_all,getD_end,getD_end0,set_end,set_end0,hle,w1,h,SB,Nat.reduceLT,callee,aOp,ne_eq,Nat.reduceEqDiff,aBin,aUn,if_true,if_false,reduceCtorEq,frame0,place,notTuple,Nat.reduceAdd,Nat.reduceLeDiff,resVal,dite_true,dite_false,Int.reduceEq,Int.reduceLT,Int.reduceLE]
   exact .inr ⟨_,(d:Int),_,nextD_is (by rw [dayN_eq];omega) hg h (fun d' hd'=>hJ d' (by omega)),rfl⟩
  ·simp only [Pre,f2,f3,f4,f5,encL_len,encL_0,encL_1,encL_2,encL_3,encL_4,encL_5,encL_6,encL_7,take_all,getD_end,getD_end0,set_end,set_end0,hle,w1,h,SB,Nat.reduceLT,callee,aOp,ne_eq,Nat.reduceEqDiff,aBin,aUn,if_true,if_false,reduceCtorEq,frame0,place,notTuple,Nat.reduceAdd,Nat.reduceLeDiff,resVal,dite_true,dite_false,Int.reduceEq,Int.reduceLT,Int.reduceLE]
   refine .inl ⟨⟨by omega,fun d' hd' hh=>?_⟩,_,rfl⟩
   rcases Int.lt_or_le (d':Int) (d:Int) with h3 | h3
   ·exact hJ d' h3 hh
   ·obtain rfl:d'=d:=by omega
    exact h hh.2
 ·rintro e h1 h2 hg ⟨_,hJ⟩
  refine ⟨by omega,fun d' hd' hh=>?_⟩
  rcases Int.lt_or_le (d':Int) e with h3 | h3
  ·exact hJ d' h3 hh
  ·obtain rfl:d'=e.toNat:=by omega
   rw [hg] at hh;simp at hh
 ·rintro e X ⟨_,hJ⟩ hne
  have hn:nextD l r=none:=nextD_no fun d' hd'=>by rw [dayN_eq] at hd';exact hJ d' (by omega)
  rw [hn]
  simp only [Pre,SB,Nat.reduceLT,callee,aOp,ne_eq,Nat.reduceEqDiff,aBin,aUn,if_true,if_false,reduceCtorEq,frame0,place,notTuple,Nat.reduceAdd,Nat.reduceLeDiff,resVal,dite_true,dite_false,Int.reduceEq,Int.reduceLT,Int.reduceLE]
  have:=hnone e X
  simp only [List.append_assoc,List.cons_append,List.nil_append] at this
  exact this
 ·rintro G ⟨X,e,a,hn,rfl⟩
  rw [hn]
  show endK _ _
  have hle:H.length≤H.length+7:=by omega
  simp only [Pre,hm,f4,f5,r36,hle,Option.map_some,SB,Nat.reduceLT,callee,aOp,ne_eq,Nat.reduceEqDiff,aBin,aUn,if_true,if_false,reduceCtorEq,frame0,place,notTuple,Nat.reduceAdd,Nat.reduceLeDiff,resVal,dite_true,dite_false,Int.reduceEq,Int.reduceLT,Int.reduceLE]
  show Ret E a36 H.length (.code .retM::(K'++[.mark (H.length+7)])) fr0 _ _
  simp only [hm,f4,f5,r36,hle,depV,SB,Nat.reduceLT,callee,aOp,ne_eq,Nat.reduceEqDiff,aBin,aUn,if_true,if_false,reduceCtorEq,frame0,place,notTuple,Nat.reduceAdd,Nat.reduceLeDiff,resVal,dite_true,dite_false,Int.reduceEq,Int.reduceLT,Int.reduceLE]
theorem next_ok [OB] {mp:Bool} {lim:Nat} {l:Leg} {r:Int} {H:Heap} {Q:Value→Heap→Prop} (hl:Fine l) (hr:-2 ^ 63≤r) (hr2:r<2 ^ 63):CallR E mp lim 36 [.agg (encL l).toArray,.int .i64 r] H Q=Q (depV ((nextD l r).map fun a=>(a,a+l.mins))) H:=by
 refine pc (by decide) e36 rfl depV_flat ?_
 rw [b36,c36]
 have hF:=hl
 unfold Fine at hF
 have hrt:=fun (H:Heap) (mp:Bool) (lim:Nat) (Q:Value→Heap→Prop)=>right_ok (mp:=mp) (lim:=lim) (H:=H) (Q:=Q) hl.by
 rw [decide_eq_true hl] at hrt
 by_cases hm:maxTime<r
 ·rw [nextD_late hl hm]
  unfold maxTime at hm
  simp only [n36,r36,hrt,encL_len,encL_0,encL_1,encL_2,encL_3,encL_4,encL_5,encL_6,encL_7,take_all,hm,Option.map_none,depV,SB,Nat.reduceLT,callee,aOp,ne_eq,Nat.reduceEqDiff,aBin,aUn,if_true,if_false,reduceCtorEq,frame0,place,notTuple,Nat.reduceAdd,Nat.reduceLeDiff,resVal,dite_true,dite_false,Int.reduceEq,Int.reduceLT,Int.reduceLE]
 ·rw [nextD_max]
  unfold maxTime at hm
  have w1:IntKind.i64.wrap (max r 0+l.cut)=max r 0+l.cut:=wrap_id (by omega) (by omega)
  have w2:IntKind.i64.wrap (Int.tdiv (max r 0+l.cut) 1440)=(max r 0+l.cut) / 1440:=by
   rw [Int.tdiv_eq_ediv_of_nonneg (by omega)]
   exact wrap_id (by omega) (by omega)
  have hlen:∀a b c d e f g:Blk,(H++[a,b,c,d,e,f,g]).length=H.length+7:=by intros;simp
  simp only [n36,r36,hrt,encL_len,encL_0,encL_1,encL_2,encL_3,encL_4,encL_5,encL_6,encL_7,take_all,hm,max_v,w1,w2,departures_ok,SB,Nat.reduceLT,callee,aOp,ne_eq,Nat.reduceEqDiff,aBin,aUn,if_true,if_false,reduceCtorEq,frame0,place,notTuple,Nat.reduceAdd,Nat.reduceLeDiff,resVal,dite_true,dite_false,Int.reduceEq,Int.reduceLT,Int.reduceLE]
  rw [hlen]
  refine next_key hl (by omega) (by unfold maxTime;omega) rfl (by simp only [FB,Nat.reduceEqDiff]) (by simp only [FB,Nat.reduceEqDiff]) (by simp only [FB,Nat.reduceEqDiff]) (by simp only [FB,Nat.reduceEqDiff]) rfl fun e X=>?_
  have hle:H.length≤H.length+7:=by omega
  show Ret E a36 H.length (.inBlock 0::.code _::.code .retM::.mark (H.length+7)::[]) _ _ _
  simp only [n36,r36,hle,depV,SB,Nat.reduceLT,callee,aOp,ne_eq,Nat.reduceEqDiff,aBin,aUn,if_true,if_false,reduceCtorEq,frame0,place,notTuple,Nat.reduceAdd,Nat.reduceLeDiff,resVal,dite_true,dite_false,Int.reduceEq,Int.reduceLT,Int.reduceLE]
theorem lastD_min {l:Leg} {b:Int}:lastD l b=lastD l (min b maxTime):=by
 unfold lastD lastDay
 congr 3
 funext d
 cases hg:goes l (dayN-1-d) with
 | false=>rfl
 | true=>
   simp only [Bool.true_and]
   unfold goes at hg
   simp only [Bool.and_eq_true,decide_eq_true_eq] at hg
   rw [decide_eq_decide]
   omega
theorem lastD_is {l:Leg} {b:Int} {d:Nat} (hd:d<dayN) (hg:goes l d=true) (hb:1440*(d:Int)+l.dep+l.mins≤b) (hno:∀d':Nat,d<d'→d'<dayN→¬(goes l d'=true∧1440*(d':Int)+l.dep+l.mins≤b)):lastD l b=some (1440*(d:Int)+l.dep):=by
 cases hx:lastD l b with
 | none=>exact absurd hb (by have:=lastD_none hx _ ⟨d,hd,hg,rfl⟩;omega)
 | some a=>
   obtain ⟨⟨d',h1,h2,rfl⟩,h3,h4⟩:=lastD_some hx
   have:=h4 _ ⟨d,hd,hg,rfl⟩ hb
   rcases Nat.lt_or_ge d d' with h | h
   ·exact absurd ⟨h2,h3⟩ (hno d' h h1)
   ·rw [show d'=d by omega]
theorem lastD_no {l:Leg} {b:Int} (hno:∀d':Nat,d'<dayN→¬(goes l d'=true∧1440*(d':Int)+l.dep+l.mins≤b)):lastD l b=none:=by
 cases hx:lastD l b with
 | none=>rfl
 | some a=>
   obtain ⟨⟨d',h1,h2,rfl⟩,h3,h4⟩:=lastD_some hx
   exact absurd ⟨h2,h3⟩ (hno d' h1)
theorem last_key [OB] {H:Heap} {l:Leg} {r e:Int} {fr0:Nat→Value} {K':List AItem} (hl:Fine l) (hr0:l.dep+l.mins≤r) (hrm:r≤maxTime) (he:e=(r-l.mins) / 1440) (f2:fr0 2=.pointer (some ⟨H.length,0,none⟩)) (f3:fr0 3=.pointer (some ⟨H.length+1,0,none⟩)) (f4:fr0 4=.pointer (some ⟨H.length+2,0,none⟩)) (f5:fr0 5=.pointer (some ⟨H.length+3,0,none⟩))
  (hm:marks (K'++[.mark (H.length+7)])=[H.length+7])
  (hnone:∀(e:Int) (X:Heap),Ret E a25 H.length (K'++[.mark (H.length+7)]) fr0 (H++[.cells false (encL l),.cells false [.int .i64 r],.cells false [.int .i64 0,.int .i64 0],.cells false [.bool false],.cells false (encL l),.cells false [.int .i64 e],.cells false [.int .i64 (-1)],.dfr,.dead]++X) fun v' _=>v'=depV none) :
  CallR E false H.length 59 [.func (.yield (H.length+8)) #[] #[],.pointer (some ⟨H.length+5,0,none⟩),.pointer (some ⟨H.length+6,0,none⟩),.pointer (some ⟨H.length+4,0,none⟩)] (H++(Pre l r e (-1) 0 0 false ⟨0,none,fr0,38,[31],ga25_1,gb25_1⟩++[])) fun _ H2=>
   endK (hget H2 (H.length+7+1)) fun x=>Ret E a25 H.length (pendI x++(K'++[.mark (H.length+7)])) fr0 (H2.set (H.length+7+1) .dead) fun v' _=>v'=depV ((lastD l r).map fun a=>(a,a+l.mins)):=by
 have hF:=hl
 unfold Fine at hF
 unfold maxTime at hrm
 refine deps_rule (fun e=>e≤730484∧∀d:Nat,e<(d:Int)→¬(goes l d=true∧1440*(d:Int)+l.dep+l.mins≤r))
  (fun G=>∃(X:Heap) (e a:Int),lastD l r=some a∧G=H++(Pre l r e (-1) a (a+l.mins) true ⟨2,some .retM,fr0,38,[31],ga25_1,gb25_1⟩++X)) hl (.inr rfl) ?_ ?_ ?_ ?_ ⟨by omega,fun d hd h=>by omega⟩ ⟨by omega,by omega⟩
 ·rintro e X h1 h2 hg ⟨_,hJ⟩
  obtain ⟨d,rfl⟩:∃d:Nat,e=(d:Int):=⟨e.toNat,by omega⟩
  rw [Int.toNat_natCast] at hg
  rw [CallY_run (x:=⟨0,none,fr0,38,[31],ga25_1,gb25_1⟩) (by rw [hget_new];rfl) (by omega) rfl (by rfl),setParams_one]
  rw [Ret_code ga25_1.eq_1]
  have hle:H.length≤H.length+8:=by omega
  simp only [Pre,f2,f3,f4,f5,getD_end,getD_end0,set_end,set_end0,hle,SB,Nat.reduceLT,callee,aOp,ne_eq,Nat.reduceEqDiff,aBin,aUn,if_true,if_false,reduceCtorEq,frame0,place,notTuple,Nat.reduceAdd,Nat.reduceLeDiff,resVal,dite_true,dite_false,Int.reduceEq,Int.reduceLT,Int.reduceLE]
  rw [Ret_code gb25_1.eq_1]
  by_cases h:1440*(d:Int)+l.dep+l.mins≤r
  ·simp only [Pre,f2,f3,f4,f5,encL_len,encL_0,encL_1,encL_2,encL_3,encL_4,encL_5,encL_6,encL_7,take_all,getD_end,getD_end0,set_end,set_end0,hle,h,SB,Nat.reduceLT,callee,aOp,ne_eq,Nat.reduceEqDiff,aBin,aUn,if_true,if_false,reduceCtorEq,frame0,place,notTuple,Nat.reduceAdd,Nat.reduceLeDiff,resVal,dite_true,dite_false,Int.reduceEq,Int.reduceLT,Int.reduceLE]
   exact .inr ⟨_,(d:Int),_,lastD_is (by rw [dayN_eq];omega) hg h (fun d' hd' _=>hJ d' (by omega)),rfl⟩
  ·simp only [Pre,f2,f3,f4,f5,encL_len,encL_0,encL_1,encL_2,encL_3,encL_4,encL_5,encL_6,encL_7,take_all,getD_end,getD_end0,set_end,set_end0,hle,h,SB,Nat.reduceLT,callee,aOp,ne_eq,Nat.reduceEqDiff,aBin,aUn,if_true,if_false,reduceCtorEq,frame0,place,notTuple,Nat.reduceAdd,Nat.reduceLeDiff,resVal,dite_true,dite_false,Int.reduceEq,Int.reduceLT,Int.reduceLE]
   refine .inl ⟨⟨by omega,fun d' hd' hh=>?_⟩,_,rfl⟩
   rcases Int.lt_or_le (d:Int) (d':Int) with h3 | h3
   ·exact hJ d' h3 hh
   ·obtain rfl:d'=d:=by omega
    exact h hh.2
 ·rintro e h1 h2 hg ⟨_,hJ⟩
  refine ⟨by omega,fun d' hd' hh=>?_⟩
  rcases Int.lt_or_le e (d':Int) with h3 | h3
  ·exact hJ d' h3 hh
  ·obtain rfl:d'=e.toNat:=by omega
   rw [hg] at hh;simp at hh
 ·rintro e X ⟨hle,hJ⟩ hne
  have hn:lastD l r=none:=lastD_no fun d' hd'=>hJ d' (by omega)
  rw [hn]
  simp only [Pre,SB,Nat.reduceLT,callee,aOp,ne_eq,Nat.reduceEqDiff,aBin,aUn,if_true,if_false,reduceCtorEq,frame0,place,notTuple,Nat.reduceAdd,Nat.reduceLeDiff,resVal,dite_true,dite_false,Int.reduceEq,Int.reduceLT,Int.reduceLE]
  have:=hnone e X
  simp only [List.append_assoc,List.cons_append,List.nil_append] at this
  exact this
 ·rintro G ⟨X,e,a,hn,rfl⟩
  rw [hn]
  show endK _ _
  have hle:H.length≤H.length+7:=by omega
  simp only [Pre,hm,f4,f5,r25,hle,Option.map_some,SB,Nat.reduceLT,callee,aOp,ne_eq,Nat.reduceEqDiff,aBin,aUn,if_true,if_false,reduceCtorEq,frame0,place,notTuple,Nat.reduceAdd,Nat.reduceLeDiff,resVal,dite_true,dite_false,Int.reduceEq,Int.reduceLT,Int.reduceLE]
  show Ret E a25 H.length (.code .retM::(K'++[.mark (H.length+7)])) fr0 _ _
  simp only [hm,f4,f5,r25,hle,depV,SB,Nat.reduceLT,callee,aOp,ne_eq,Nat.reduceEqDiff,aBin,aUn,if_true,if_false,reduceCtorEq,frame0,place,notTuple,Nat.reduceAdd,Nat.reduceLeDiff,resVal,dite_true,dite_false,Int.reduceEq,Int.reduceLT,Int.reduceLE]
theorem last_ok [OB] {mp:Bool} {lim:Nat} {l:Leg} {r:Int} {H:Heap} {Q:Value→Heap→Prop} (hl:Fine l) (hr:-2 ^ 63≤r) (hr2:r<2 ^ 63):CallR E mp lim 25 [.agg (encL l).toArray,.int .i64 r] H Q=Q (depV ((lastD l r).map fun a=>(a,a+l.mins))) H:=by
 refine pc (by decide) e25 rfl depV_flat ?_
 rw [b25,c25]
 have hF:=hl
 unfold Fine at hF
 have hrt:=fun (H:Heap) (mp:Bool) (lim:Nat) (Q:Value→Heap→Prop)=>right_ok (mp:=mp) (lim:=lim) (H:=H) (Q:=Q) hl.by
 rw [decide_eq_true hl] at hrt
 have w0:IntKind.i64.wrap (l.dep+l.mins)=l.dep+l.mins:=wrap_id (by omega) (by omega)
 by_cases hm:r<l.dep+l.mins
 ·have:lastD l r=none:=lastD_no fun d' hd' hh=>by omega
  rw [this]
  simp only [n25,r25,hrt,encL_len,encL_0,encL_1,encL_2,encL_3,encL_4,encL_5,encL_6,encL_7,take_all,hm,w0,Option.map_none,depV,SB,Nat.reduceLT,callee,aOp,ne_eq,Nat.reduceEqDiff,aBin,aUn,if_true,if_false,reduceCtorEq,frame0,place,notTuple,Nat.reduceAdd,Nat.reduceLeDiff,resVal,dite_true,dite_false,Int.reduceEq,Int.reduceLT,Int.reduceLE]
 ·rw [lastD_min]
  unfold maxTime
  have w1:IntKind.i64.wrap (min r 1051898399-l.mins)=min r 1051898399-l.mins:=wrap_id (by omega) (by omega)
  have w2:IntKind.i64.wrap (Int.tdiv (min r 1051898399-l.mins) 1440)=(min r 1051898399-l.mins) / 1440:=by
   rw [Int.tdiv_eq_ediv_of_nonneg (by omega)]
   exact wrap_id (by omega) (by omega)
  have hlen:∀a b c d e f g:Blk,(H++[a,b,c,d,e,f,g]).length=H.length+7:=by intros;simp
  simp only [n25,r25,hrt,encL_len,encL_0,encL_1,encL_2,encL_3,encL_4,encL_5,encL_6,encL_7,take_all,hm,w0,min_v,w1,w2,departures_ok,SB,Nat.reduceLT,callee,aOp,ne_eq,Nat.reduceEqDiff,aBin,aUn,if_true,if_false,reduceCtorEq,frame0,place,notTuple,Nat.reduceAdd,Nat.reduceLeDiff,resVal,dite_true,dite_false,Int.reduceEq,Int.reduceLT,Int.reduceLE]
  rw [hlen]
  refine last_key hl (by omega) (by unfold maxTime;omega) rfl (by simp only [FB,Nat.reduceEqDiff]) (by simp only [FB,Nat.reduceEqDiff]) (by simp only [FB,Nat.reduceEqDiff]) (by simp only [FB,Nat.reduceEqDiff]) rfl fun e X=>?_
  have hle:H.length≤H.length+7:=by omega
  show Ret E a25 H.length (.inBlock 0::.code _::.code .retM::.mark (H.length+7)::[]) _ _ _
  simp only [n25,r25,hle,depV,SB,Nat.reduceLT,callee,aOp,ne_eq,Nat.reduceEqDiff,aBin,aUn,if_true,if_false,reduceCtorEq,frame0,place,notTuple,Nat.reduceAdd,Nat.reduceLeDiff,resVal,dite_true,dite_false,Int.reduceEq,Int.reduceLT,Int.reduceLE]
def netV (pp:Option Addr) (np cp:Nat) (pl:Option Addr) (nl cl:Nat):List Value:=[.slice pp np cp,.slice pl nl cl]
theorem netV_len {pp pl:Option Addr} {np cp nl cl:Nat}:(netV pp np cp pl nl cl).length=2:=id rfl
theorem netV_0 {pp pl:Option Addr} {np cp nl cl:Nat}:(netV pp np cp pl nl cl)[0]? = some (.slice pp np cp):=id rfl
theorem netV_1 {pp pl:Option Addr} {np cp nl cl:Nat}:(netV pp np cp pl nl cl)[1]? = some (.slice pl nl cl):=id rfl
structure NetIn (H:Heap) (pp pl:Option Addr) (P:List Int) (L:List Leg):Prop where
 sp:Sl H encI 1 pp P
 sl:Sl H encL 8 pl L
 np:P.length<2 ^ 63
 nl:L.length<2 ^ 63
 bys:∀l∈L,By l
theorem NetIn.app {H:Heap} {pp pl:Option Addr} {P:List Int} {L:List Leg} (h:NetIn H pp pl P L) (X:Heap):NetIn (H++X) pp pl P L:=⟨h.sp.app X,h.sl.app X,h.np,h.nl,h.bys⟩
theorem NetIn.ext {H G:Heap} {pp pl:Option Addr} {P:List Int} {L:List Leg} (h:NetIn H pp pl P L) (e:Ext H G):NetIn G pp pl P L:=⟨e.sl h.sp,e.sl h.sl,h.np,h.nl,h.bys⟩
def metMap (ks:List Int):List (Value×Value):=ks.map fun k=>(.int .i64 k,.bool true)
theorem met_no {ks:List Int} {a:Int} {i:Nat} (h:a∉ks):findKey (.int .i64 a) (metMap ks) i=some none:=by
 unfold metMap
 exact findKey_no (f:=fun k:Int=>k) (g:=fun _=>.bool true) fun x hx e=>h (e▸hx)
theorem met_yes {ks:List Int} {a:Int} {i:Nat} (h:a∈ks):∃j,findKey (.int .i64 a) (metMap ks) i=some (some (j,.bool true)):=by
 unfold metMap
 exact findKey_yes (f:=fun k:Int=>k) (g:=fun _=>.bool true) ⟨a,h,rfl⟩ fun _ _ _=>rfl
theorem met_add {ks:List Int} {a:Int}:metMap ks++[(.int .i64 a,.bool true)]=metMap (ks++[a]):=by simp [metMap]
def pOk (P:List Int) (i:Nat):Prop:=1≤gt P i∧gt P i≤999999∧gt P i∉P.take i
instance (P:List Int) (i:Nat):Decidable (pOk P i):=by unfold pOk;infer_instance
def PlantsOk (P:List Int):Prop:=∀i,i<P.length→pOk P i
instance (P:List Int):Decidable (PlantsOk P):=by unfold PlantsOk;infer_instance
def lOk (P:List Int) (L:List Leg) (i:Nat):Prop:=Fine (gt L i)∧(gt L i).id∉(L.take i).map (·.id)∧(gt L i).frm∈P∧(gt L i).dst∈P
instance (P:List Int) (L:List Leg) (i:Nat):Decidable (lOk P L i):=by unfold lOk;infer_instance
def LegsOk (P:List Int) (L:List Leg):Prop:=∀i,i<L.length→lOk P L i
instance (P:List Int) (L:List Leg):Decidable (LegsOk P L):=by unfold LegsOk;infer_instance
def validN (P:List Int) (L:List Leg):Int:=if 50<P.length∨200<L.length then 5 else if ¬PlantsOk P then 320 else if ¬LegsOk P L then 321 else 0
theorem valid_legs [OB] {H G:Heap} {pp pl:Option Addr} {P:List Int} {L:List Leg} {cp cl R:Nat} {fr:Nat→Value} {K:List AItem} {v:Value} (hn:NetIn G pp pl P L) (hNV:hget G R=.cells false (netV pp P.length cp pl L.length cl))
  (hm:hget G (R+1)=.map (metMap P)) (hR:H.length≤R) (f1:fr 1=.pointer (some ⟨R,0,none⟩)) (f3:fr 3=.map (some (R+1))) (f6:fr 6=.map (some G.length)) (f49:fr 49=.slice pl L.length cl) (f50:fr 50=.int .i64 (L.length:Int)) (f51:fr 51=.int .i64 0)
  (hbad:¬LegsOk P L→v=.int .i64 321)
  (hR':∀fr' G',LegsOk P L→Ret E a40 H.length K fr' (G'++[]) fun v' _=>v'=v) :
  Ret E a40 H.length (.code (.loop l40_1)::.inBlock 2::K) fr (G++[.map []]) fun v' _=>v'=v:=by
 have hlG:=hget_alive' hm
 refine Ret_rounds (fun i=>L.length-i) (fun i fr G'=>i≤L.length∧fr 3=.map (some (R+1))∧fr 6=.map (some G.length)∧fr 49=.slice pl L.length cl∧fr 50=.int .i64 (L.length:Int)∧fr 51=.int .i64 (i:Int)∧
  G.length<G'.length∧Sl G' encL 8 pl L∧hget G' (R+1)=.map (metMap P)∧hget G' G.length=.map (metMap ((L.take i).map (·.id)))∧∀j,j<i→lOk P L j) 0
  ⟨Nat.zero_le _,f3,f6,f49,f50,f51,by simp,hn.sl.app _,by rw [hget_old hlG];exact hm,hget_new0,fun j hj=>by omega⟩ ?_
 intro i fr G' ⟨hi,h3,h6,h49,h50,h51,hL,hsl,hmp,hml,hall⟩ hN
 rw [Ret_code l40_1.eq_1]
 refine Ret_pad ?_
 by_cases hlt:i<L.length
 ·have hL':=Nat.le_of_lt hL
  have hby:=hn.bys _ (gt_mem hlt)
  have hp':∀X,hget (G'++X) (R+1)=.map (metMap P):=fun X=>by rw [hget_old (hget_alive' hmp)];exact hmp
  have hm':∀X,hget (G'++X) G.length=.map (metMap ((L.take i).map (·.id))):=fun X=>by rw [hget_old hL];exact hml
  have hld:=fun X=>(hsl.app X).loadCells encL_len hlt
  have hidx:=fun c (k:IntKind) (H1:Heap)=>hsl.idx (c:=c) (k:=k) (H1:=H1) hlt
  have hw1:IntKind.i64.wrap ((i:Int)+1)=((i+1:Nat):Int):=wrap_nat (by have:=hn.nl;omega)
  have hlG2:H.length≤G.length:=by omega
  have hlG3:H.length≤G'.length:=by omega
  have hrt:=fun (H:Heap) (mp:Bool) (lim:Nat) (Q:Value→Heap→Prop)=>right_ok (mp:=mp) (lim:=lim) (H:=H) (Q:=Q) hby
  have bad:¬lOk P L i→v=.int .i64 321:=fun h=>hbad fun hh=>h (hh i hlt)
  by_cases hf:Fine (gt L i)
  ·rw [decide_eq_true hf] at hrt
   by_cases hmet:(gt L i).id∈(L.take i).map (·.id)
   ·obtain ⟨j,hj⟩:=met_yes (i:=0) hmet
    simp only [n40,r40,h3,h6,h49,h50,h51,hlt,hL',hidx,hld,hw1,hm',hp',hj,hrt,encL_len,encL_0,encL_1,encL_2,encL_3,encL_4,encL_5,encL_6,encL_7,take_all,hlG3,SB,Nat.reduceLT,callee,aOp,ne_eq,Nat.reduceEqDiff,aBin,aUn,if_true,if_false,reduceCtorEq,frame0,place,notTuple,Nat.reduceAdd,Nat.reduceLeDiff,resVal,dite_true,dite_false,Int.reduceEq,Int.reduceLT,Int.reduceLE]
    exact (bad fun h=>h.2.1 hmet).symm
   ·have hj:=met_no (i:=0) hmet
    by_cases hfr:(gt L i).frm∈P
    ·obtain ⟨j1,hj1⟩:=met_yes (i:=0) hfr
     by_cases hds:(gt L i).dst∈P
     ·obtain ⟨j2,hj2⟩:=met_yes (i:=0) hds
      simp only [n40,r40,h3,h6,h49,h50,h51,hlt,hL',hidx,hld,hw1,hm',hp',hj,hj1,hj2,hrt,encL_len,encL_0,encL_1,encL_2,encL_3,encL_4,encL_5,encL_6,encL_7,take_all,hlG2,hlG3,SB,Nat.reduceLT,callee,aOp,ne_eq,Nat.reduceEqDiff,aBin,aUn,if_true,if_false,reduceCtorEq,frame0,place,notTuple,Nat.reduceAdd,Nat.reduceLeDiff,resVal,dite_true,dite_false,Int.reduceEq,Int.reduceLT,Int.reduceLE]
      refine hN (i+1) _ _ ⟨by omega,(by simp only [h3,FB,Nat.reduceEqDiff]),(by simp only [h6,FB,Nat.reduceEqDiff]),(by simp only [h49,FB,Nat.reduceEqDiff]),(by simp only [h50,FB,Nat.reduceEqDiff]),(by simp only [FB,Nat.reduceEqDiff]),by simp;omega, ?_, ?_, ?_,fun j hj=>?_⟩ (by omega)
      ·refine hsl.sim fun b ro c hb=>?_
       rw [hget_set_ne (by rintro rfl;rw [hml] at hb;cases hb),hget_old (hget_alive hb)];exact hb
      ·rw [hget_set_ne (by omega),hget_old (hget_alive' hmp)];exact hmp
      ·rw [hget_set_eq (by simp;omega),met_add,take_snoc hlt,List.map_append];rfl
      ·rcases Nat.lt_or_ge j i with h | h
       ·exact hall j h
       ·obtain rfl:j=i:=by omega
        exact ⟨hf,hmet,hfr,hds⟩
     ·have hj2:=met_no (i:=0) hds
      simp only [n40,r40,h3,h6,h49,h50,h51,hlt,hL',hidx,hld,hw1,hm',hp',hj,hj1,hj2,hrt,encL_len,encL_0,encL_1,encL_2,encL_3,encL_4,encL_5,encL_6,encL_7,take_all,hlG2,hlG3,SB,Nat.reduceLT,callee,aOp,ne_eq,Nat.reduceEqDiff,aBin,aUn,if_true,if_false,reduceCtorEq,frame0,place,notTuple,Nat.reduceAdd,Nat.reduceLeDiff,resVal,dite_true,dite_false,Int.reduceEq,Int.reduceLT,Int.reduceLE]
      exact (bad fun h=>hds h.2.2.2).symm
    ·have hj1:=met_no (i:=0) hfr
     simp only [n40,r40,h3,h6,h49,h50,h51,hlt,hL',hidx,hld,hw1,hm',hp',hj,hj1,hrt,encL_len,encL_0,encL_1,encL_2,encL_3,encL_4,encL_5,encL_6,encL_7,take_all,hlG2,hlG3,SB,Nat.reduceLT,callee,aOp,ne_eq,Nat.reduceEqDiff,aBin,aUn,if_true,if_false,reduceCtorEq,frame0,place,notTuple,Nat.reduceAdd,Nat.reduceLeDiff,resVal,dite_true,dite_false,Int.reduceEq,Int.reduceLT,Int.reduceLE]
     exact (bad fun h=>hfr h.2.2.1).symm
  ·rw [decide_eq_false hf] at hrt
   simp only [n40,r40,h3,h6,h49,h50,h51,hlt,hL',hidx,hld,hw1,hm',hp',hrt,encL_len,encL_0,encL_1,encL_2,encL_3,encL_4,encL_5,encL_6,encL_7,take_all,hlG3,SB,Nat.reduceLT,callee,aOp,ne_eq,Nat.reduceEqDiff,aBin,aUn,if_true,if_false,reduceCtorEq,frame0,place,notTuple,Nat.reduceAdd,Nat.reduceLeDiff,resVal,dite_true,dite_false,Int.reduceEq,Int.reduceLT,Int.reduceLE]
   exact (bad fun h=>hf h.1).symm
 ·obtain rfl:i=L.length:=by omega
  simp only [n40,r40,h3,h6,h49,h50,h51,hlt,SB,Nat.reduceLT,callee,aOp,ne_eq,Nat.reduceEqDiff,aBin,aUn,if_true,if_false,reduceCtorEq,frame0,place,notTuple,Nat.reduceAdd,Nat.reduceLeDiff,resVal,dite_true,dite_false,Int.reduceEq,Int.reduceLT,Int.reduceLE]
  exact hR' _ _ hall
theorem valid_ok [OB] {mp:Bool} {lim:Nat} {pp pl:Option Addr} {P:List Int} {L:List Leg} {cp cl:Nat} {H:Heap} {Q:Value→Heap→Prop} (hn:NetIn H pp pl P L) :
  CallR E mp lim 40 [.agg (netV pp P.length cp pl L.length cl).toArray] H Q=Q (.int .i64 (validN P L)) H:=by
 refine pc (by decide) e40 rfl rfl ?_
 rw [b40,c40]
 by_cases h50:50<(P.length:Int)
 ·simp only [n40,r40,netV_len,netV_0,netV_1,h50,SB,Nat.reduceLT,callee,aOp,ne_eq,Nat.reduceEqDiff,aBin,aUn,if_true,if_false,reduceCtorEq,frame0,place,notTuple,Nat.reduceAdd,Nat.reduceLeDiff,resVal,dite_true,dite_false,Int.reduceEq,Int.reduceLT,Int.reduceLE]
  rw [validN,if_pos (by omega)]
 by_cases h200:200<(L.length:Int)
 ·simp only [n40,r40,netV_len,netV_0,netV_1,h50,h200,SB,Nat.reduceLT,callee,aOp,ne_eq,Nat.reduceEqDiff,aBin,aUn,if_true,if_false,reduceCtorEq,frame0,place,notTuple,Nat.reduceAdd,Nat.reduceLeDiff,resVal,dite_true,dite_false,Int.reduceEq,Int.reduceLT,Int.reduceLE]
  rw [validN,if_pos (by omega)]
 simp only [n40,r40,netV_len,netV_0,netV_1,h50,h200,SB,Nat.reduceLT,callee,aOp,ne_eq,Nat.reduceEqDiff,aBin,aUn,if_true,if_false,reduceCtorEq,frame0,place,notTuple,Nat.reduceAdd,Nat.reduceLeDiff,resVal,dite_true,dite_false,Int.reduceEq,Int.reduceLT,Int.reduceLE]
 have hv:validN P L=if ¬PlantsOk P then 320 else if ¬LegsOk P L then 321 else 0:=by rw [validN,if_neg (by omega)]
 refine Ret_rounds (fun i=>P.length-i) (fun i fr G=>i≤P.length∧fr 1=.pointer (some ⟨H.length,0,none⟩)∧fr 3=.map (some (H.length+1))∧fr 24=.slice pp P.length cp∧fr 25=.int .i64 (P.length:Int)∧fr 26=.int .i64 (i:Int)∧
  H.length+1<G.length∧Sl G encI 1 pp P∧Sl G encL 8 pl L∧hget G H.length=.cells false (netV pp P.length cp pl L.length cl)∧hget G (H.length+1)=.map (metMap (P.take i))∧∀j,j<i→pOk P j) 0
  ⟨Nat.zero_le _,(by simp only [FB,Nat.reduceEqDiff]),(by simp only [FB,Nat.reduceEqDiff]),(by simp only [FB,Nat.reduceEqDiff]),(by simp only [FB,Nat.reduceEqDiff]),by rfl,by simp,hn.sp.app _,hn.sl.app _,hget_new0,hget_new,fun j hj=>by omega⟩ ?_
 intro i fr G ⟨hi,h1,h3,h24,h25,h26,hL,hsp,hsl,hnv,hm,hall⟩ hN
 rw [Ret_code l40_2.eq_1]
 refine Ret_pad ?_
 have hnX:=fun X=>(Ext.refl.app (X:=X)).cells hnv
 have hm':∀X,hget (G++X) (H.length+1)=.map (metMap (P.take i)):=fun X=>by rw [hget_old hL];exact hm
 have hL1:H.length≤H.length+1:=by omega
 by_cases hlt:i<P.length
 ·have hld:=fun X=>(hsp.app X).loadCell0 encI_len hlt (by decide)
  simp only [encI,List.getElem?_cons_zero] at hld
  have hidx:=fun c (k:IntKind) (H1:Heap)=>hsp.idx (c:=c) (k:=k) (H1:=H1) hlt
  have hw1:IntKind.i64.wrap ((i:Int)+1)=((i+1:Nat):Int):=wrap_nat (by omega)
  have bad:¬pOk P i→validN P L=320:=fun h=>by rw [hv,if_pos fun hh=>h (hh i hlt)]
  by_cases ha:gt P i<1
  ·simp only [n40,r40,h1,h3,h24,h25,h26,hlt,hidx,hld,hw1,hm',ha,SB,Nat.reduceLT,callee,aOp,ne_eq,Nat.reduceEqDiff,aBin,aUn,if_true,if_false,reduceCtorEq,frame0,place,notTuple,Nat.reduceAdd,Nat.reduceLeDiff,resVal,dite_true,dite_false,Int.reduceEq,Int.reduceLT,Int.reduceLE]
   rw [bad fun h=>by have:=h.1;omega]
  ·by_cases hb:999999<gt P i
   ·simp only [n40,r40,h1,h3,h24,h25,h26,hlt,hidx,hld,hw1,hm',ha,hb,SB,Nat.reduceLT,callee,aOp,ne_eq,Nat.reduceEqDiff,aBin,aUn,if_true,if_false,reduceCtorEq,frame0,place,notTuple,Nat.reduceAdd,Nat.reduceLeDiff,resVal,dite_true,dite_false,Int.reduceEq,Int.reduceLT,Int.reduceLE]
    rw [bad fun h=>by have:=h.2.1;omega]
   ·by_cases hmet:gt P i∈P.take i
    ·obtain ⟨j,hj⟩:=met_yes (i:=0) hmet
     simp only [n40,r40,h1,h3,h24,h25,h26,hlt,hidx,hld,hw1,hm',ha,hb,hj,SB,Nat.reduceLT,callee,aOp,ne_eq,Nat.reduceEqDiff,aBin,aUn,if_true,if_false,reduceCtorEq,frame0,place,notTuple,Nat.reduceAdd,Nat.reduceLeDiff,resVal,dite_true,dite_false,Int.reduceEq,Int.reduceLT,Int.reduceLE]
     rw [bad fun h=>h.2.2 hmet]
    ·have hj:=met_no (i:=0) hmet
     simp only [n40,r40,h1,h3,h24,h25,h26,hlt,hidx,hld,hw1,hm',ha,hb,hj,hL1,SB,Nat.reduceLT,callee,aOp,ne_eq,Nat.reduceEqDiff,aBin,aUn,if_true,if_false,reduceCtorEq,frame0,place,notTuple,Nat.reduceAdd,Nat.reduceLeDiff,resVal,dite_true,dite_false,Int.reduceEq,Int.reduceLT,Int.reduceLE]
     have hG2:∀b ro c,hget G b=.cells ro c→hget ((G++[]).set (H.length+1) (.map (metMap (P.take i)++[(Value.int .i64 (gt P i),Value.bool true)]))) b=.cells ro c:=fun b ro c hb=>by
      rw [hget_set_ne (by rintro rfl;rw [hm] at hb;cases hb),hget_old (hget_alive hb)];exact hb
     refine hN (i+1) _ _ ⟨by omega,(by simp only [h1,FB,Nat.reduceEqDiff]),(by simp only [h3,FB,Nat.reduceEqDiff]),(by simp only [h24,FB,Nat.reduceEqDiff]),(by simp only [h25,FB,Nat.reduceEqDiff]),(by simp only [FB,Nat.reduceEqDiff]),by simp;omega,hsp.sim hG2,hsl.sim hG2,hG2 _ _ _ hnv, ?_,fun j hj=>?_⟩ (by omega)
     ·rw [hget_set_eq (by simp;omega),met_add,take_snoc hlt]
     ·rcases Nat.lt_or_ge j i with h | h
      ·exact hall j h
      ·obtain rfl:j=i:=by omega
       exact ⟨by omega,by omega,hmet⟩
 ·obtain rfl:i=P.length:=by omega
  rw [List.take_length] at hm
  have hP:PlantsOk P:=hall
  rw [if_neg (by simpa using hP)] at hv
  simp only [n40,r40,h1,h3,h24,h25,h26,hlt,hnX,netV_len,netV_0,netV_1,SB,Nat.reduceLT,callee,aOp,ne_eq,Nat.reduceEqDiff,aBin,aUn,if_true,if_false,reduceCtorEq,frame0,place,notTuple,Nat.reduceAdd,Nat.reduceLeDiff,resVal,dite_true,dite_false,Int.reduceEq,Int.reduceLT,Int.reduceLE]
  refine valid_legs (H:=H) (R:=H.length) (G:=G) ⟨hsp,hsl,hn.np,hn.nl,hn.bys⟩ hnv hm (Nat.le_refl _) (by simp only [h1,FB,Nat.reduceEqDiff]) (by simp only [h3,FB,Nat.reduceEqDiff]) (by simp only [FB,Nat.reduceEqDiff]) (by simp only [FB,Nat.reduceEqDiff]) (by simp only [FB,Nat.reduceEqDiff]) (by simp only [FB,Nat.reduceEqDiff]) (fun h=>by rw [hv,if_pos h]) fun fr' G' h=>?_
  rw [if_neg (by simpa using h)] at hv
  rw [hv]
  simp only [n40,r40,SB,Nat.reduceLT,callee,aOp,ne_eq,Nat.reduceEqDiff,aBin,aUn,if_true,if_false,reduceCtorEq,frame0,place,notTuple,Nat.reduceAdd,Nat.reduceLeDiff,resVal,dite_true,dite_false,Int.reduceEq,Int.reduceLT,Int.reduceLE]
def posV (P:List Int):List (Value×Value):=P.map fun p=>(.int .i64 p,.int .i64 (P.idxOf p:Int))
theorem pos_yes {P:List Int} {a:Int} {i:Nat} (h:a∈P):∃j,findKey (.int .i64 a) (posV P) i=some (some (j,.int .i64 (P.idxOf a:Int))):=by
 unfold posV
 exact findKey_yes (f:=fun k:Int=>k) (g:=fun k=>.int .i64 (P.idxOf k:Int)) ⟨a,h,rfl⟩ fun x _ e=>by rw [e]
theorem pos_no {P:List Int} {a:Int} {i:Nat} (h:a∉P):findKey (.int .i64 a) (posV P) i=some none:=by
 unfold posV
 exact findKey_no (f:=fun k:Int=>k) (g:=fun k=>.int .i64 (P.idxOf k:Int)) fun x hx e=>h (e▸hx)
theorem PlantsOk.idx {P:List Int} (h:PlantsOk P) {i:Nat} (hi:i<P.length):P.idxOf (gt P i)=i:=by
 have h1:=(h i hi).2.2
 have h2:P.idxOf (gt P i)≤i:=by
  rw [gt_lt hi]
  apply Decidable.byContradiction;intro hc
  have:=List.not_of_lt_findIdx (xs:=P) (p:=(· == P[i])) (i:=i) (by unfold List.idxOf at hc;omega)
  simp at this
 rcases Nat.lt_or_ge (P.idxOf (gt P i)) i with h3 | h3
 ·exfalso
  apply h1
  have hm:gt P i∈P:=gt_mem hi
  have hl:=List.idxOf_lt_length_of_mem hm
  have:=List.getElem_idxOf hl
  rw [List.mem_take_iff_getElem]
  exact ⟨P.idxOf (gt P i),by omega,this⟩
 ·omega
theorem positions_ok [OB] {lim:Nat} {pp pl:Option Addr} {P:List Int} {L:List Leg} {cp cl:Nat} {H:Heap} {Q:Value→Heap→Prop} (hn:NetIn H pp pl P L) (hP:PlantsOk P) (hlim:lim≤H.length)
  (hQ:∀H',Ext H H'→hget H' (H.length+1)=.map (posV P)→Q (.map (some (H.length+1))) H') :
  CallR E false lim 44 [.agg (netV pp P.length cp pl L.length cl).toArray] H Q:=by
 refine runs' (by decide) e44 rfl ?_
 rw [b44,c44]
 simp only [n44,r44,netV_len,netV_0,netV_1,SB,Nat.reduceLT,callee,aOp,ne_eq,Nat.reduceEqDiff,aBin,aUn,if_true,if_false,reduceCtorEq,frame0,place,notTuple,Nat.reduceAdd,Nat.reduceLeDiff,resVal,dite_true,dite_false,Int.reduceEq,Int.reduceLT,Int.reduceLE]
 refine Ret_rounds (fun i=>P.length-i) (fun i fr G=>i≤P.length∧fr 3=.map (some (H.length+1))∧fr 11=.slice pp P.length cp∧fr 12=.int .i64 (P.length:Int)∧fr 13=.int .i64 (i:Int)∧
  H.length+1<G.length∧Ext H G∧hget G (H.length+1)=.map ((P.take i).map fun p=>(.int .i64 p,.int .i64 (P.idxOf p:Int)))) 0
  ⟨Nat.zero_le _,(by simp only [FB,Nat.reduceEqDiff]),(by simp only [FB,Nat.reduceEqDiff]),(by simp only [FB,Nat.reduceEqDiff]),by rfl,by simp,Ext.refl.app,hget_new⟩ ?_
 intro i fr G ⟨hi,h3,h11,h12,h13,hL,hE,hm⟩ hN
 rw [Ret_code l44_1.eq_1]
 refine Ret_pad ?_
 have hm':∀X,hget (G++X) (H.length+1)=.map ((P.take i).map fun p=>(Value.int .i64 p,Value.int .i64 (P.idxOf p:Int))):=fun X=>by rw [hget_old hL];exact hm
 have hL1:lim≤H.length+1:=by omega
 by_cases hlt:i<P.length
 ·have hld:=fun X=>((hE.sl hn.sp).app X).loadCell0 encI_len hlt (by decide)
  simp only [encI,List.getElem?_cons_zero] at hld
  have hidx:=fun c (k:IntKind) (H1:Heap)=>(hE.sl hn.sp).idx (c:=c) (k:=k) (H1:=H1) hlt
  have hw1:IntKind.i64.wrap ((i:Int)+1)=((i+1:Nat):Int):=wrap_nat (by have:=hn.np;omega)
  have hj:findKey (.int .i64 (gt P i)) ((P.take i).map fun p=>(.int .i64 p,.int .i64 (P.idxOf p:Int))) 0=some none:=
   findKey_no (f:=fun k:Int=>k) (g:=fun k=>.int .i64 (P.idxOf k:Int)) fun x hx e=>(hP i hlt).2.2 (e▸hx)
  simp only [n44,r44,h3,h11,h12,h13,hlt,hidx,hld,hw1,hm',hj,hL1,SB,Nat.reduceLT,callee,aOp,ne_eq,Nat.reduceEqDiff,aBin,aUn,if_true,if_false,reduceCtorEq,frame0,place,notTuple,Nat.reduceAdd,Nat.reduceLeDiff,resVal,dite_true,dite_false,Int.reduceEq,Int.reduceLT,Int.reduceLE]
  refine hN (i+1) _ _ ⟨by omega,(by simp only [h3,FB,Nat.reduceEqDiff]),(by simp only [h11,FB,Nat.reduceEqDiff]),(by simp only [h12,FB,Nat.reduceEqDiff]),(by simp only [FB,Nat.reduceEqDiff]),by simp;omega, ?_, ?_⟩ (by omega)
  ·obtain ⟨Y,rfl⟩:=hE
   exact ⟨(Y++[]).set 1 _,by rw [List.append_assoc];exact set_new⟩
  ·rw [hget_set_eq (by simp;omega),take_snoc hlt,List.map_append]
   simp only [List.map_cons,List.map_nil,hP.idx hlt]
 ·obtain rfl:i=P.length:=by omega
  rw [List.take_length] at hm
  simp only [n44,r44,h3,h11,h12,h13,hlt,SB,Nat.reduceLT,callee,aOp,ne_eq,Nat.reduceEqDiff,aBin,aUn,if_true,if_false,reduceCtorEq,frame0,place,notTuple,Nat.reduceAdd,Nat.reduceLeDiff,resVal,dite_true,dite_false,Int.reduceEq,Int.reduceLT,Int.reduceLE]
  refine hQ _ hE.app ?_
  rw [hget_old hL];exact hm
def errA (P:List Int) (L:List Leg) (a b t:Int):Int:=if validN P L≠0 then validN P L else if a∈P∧b∈P∧0≤t∧t≤maxTime then 0 else 2
theorem validN_0 {P:List Int} {L:List Leg} (h:validN P L=0):P.length≤50∧L.length≤200∧PlantsOk P∧LegsOk P L:=by
 unfold validN at h
 split at h
 ·cases h
 ·split at h
  ·cases h
  ·split at h
   ·cases h
   ·rename_i h1 h2 h3
    exact ⟨by omega,by omega,by simpa using h2,by simpa using h3⟩
theorem errA_0 {P:List Int} {L:List Leg} {a b t:Int} (h:errA P L a b t=0):validN P L=0∧a∈P∧b∈P∧0≤t∧t≤maxTime:=by
 unfold errA at h
 split at h
 ·contradiction
 ·rename_i hv
  split at h
  ·rename_i hh;exact ⟨by simpa using hv,hh⟩
  ·cases h
theorem allowed_ok [OB] {lim:Nat} {pp pl:Option Addr} {P:List Int} {L:List Leg} {cp cl:Nat} {a b t:Int} {H:Heap} {Q:Value→Heap→Prop} (hn:NetIn H pp pl P L) (hlim:lim≤H.length)
  (hbad:∀H',errA P L a b t≠0→Ext H H'→Q (.tuple #[.map none,.int .i64 (errA P L a b t)]) H')
  (hok:∀H' R,errA P L a b t=0→Ext H H'→hget H' R=.map (posV P)→H.length≤R→Q (.tuple #[.map (some R),.int .i64 0]) H') :
  CallR E false lim 19 [.agg (netV pp P.length cp pl L.length cl).toArray,.int .i64 a,.int .i64 b,.int .i64 t] H Q:=by
 refine runs' (by decide) e19 rfl ?_
 rw [b19,c19]
 have hv:=fun X (mp:Bool) (lim:Nat) (Q:Value→Heap→Prop)=>valid_ok (mp:=mp) (lim:=lim) (cp:=cp) (cl:=cl) (Q:=Q) (hn.app X)
 by_cases h0:validN P L=0
 ·have h0':¬(validN P L≠0):=by simpa using h0
  obtain ⟨v1,v2,v3,v4⟩:=validN_0 h0
  rw [h0] at hv
  simp only [n19,r19,hv,netV_len,netV_0,netV_1,take_all,SB,Nat.reduceLT,callee,aOp,ne_eq,Nat.reduceEqDiff,aBin,aUn,if_true,if_false,reduceCtorEq,frame0,place,notTuple,Nat.reduceAdd,Nat.reduceLeDiff,resVal,dite_true,dite_false,Int.reduceEq,Int.reduceLT,Int.reduceLE]
  refine positions_ok (hn.app _) v3 (by simp;omega) fun H' hE hm=>?_
  have hEH:Ext H H':=by obtain ⟨Y,rfl⟩:=hE;rw [List.append_assoc];exact Ext.refl.app
  simp only [List.length_append,List.length_cons,List.length_nil,Nat.zero_add,Nat.add_assoc,Nat.reduceAdd] at hm⊢
  have hl:=hget_alive' hm
  have hm':∀X,hget (H'++X) (H.length+2)=.map (posV P):=fun X=>by rw [hget_old hl];exact hm
  refine Ret_pad ?_
  have e2:¬(a∈P∧b∈P∧0≤t∧t≤maxTime)→errA P L a b t=2:=fun h=>by rw [errA,if_neg h0',if_neg h]
  by_cases ha:a∈P
  ·obtain ⟨j1,hj1⟩:=pos_yes (i:=0) ha
   by_cases hb:b∈P
   ·obtain ⟨j2,hj2⟩:=pos_yes (i:=0) hb
    by_cases ht:t<0
    ·have he:=e2 fun h=>by omega
     simp only [n19,r19,hm',hj1,hj2,ht,SB,Nat.reduceLT,callee,aOp,ne_eq,Nat.reduceEqDiff,aBin,aUn,if_true,if_false,reduceCtorEq,frame0,place,notTuple,Nat.reduceAdd,Nat.reduceLeDiff,resVal,dite_true,dite_false,Int.reduceEq,Int.reduceLT,Int.reduceLE]
     rw [←he];exact hbad _ (by rw [he];decide) hEH.app
    ·by_cases ht2:1051898399<t
     ·have he:=e2 fun h=>by unfold maxTime at h;omega
      simp only [n19,r19,hm',hj1,hj2,ht,ht2,SB,Nat.reduceLT,callee,aOp,ne_eq,Nat.reduceEqDiff,aBin,aUn,if_true,if_false,reduceCtorEq,frame0,place,notTuple,Nat.reduceAdd,Nat.reduceLeDiff,resVal,dite_true,dite_false,Int.reduceEq,Int.reduceLT,Int.reduceLE]
      rw [←he];exact hbad _ (by rw [he];decide) hEH.app
     ·have he:errA P L a b t=0:=by rw [errA,if_neg h0',if_pos ⟨ha,hb,by omega,by unfold maxTime;omega⟩]
      simp only [n19,r19,hm',hj1,hj2,ht,ht2,SB,Nat.reduceLT,callee,aOp,ne_eq,Nat.reduceEqDiff,aBin,aUn,if_true,if_false,reduceCtorEq,frame0,place,notTuple,Nat.reduceAdd,Nat.reduceLeDiff,resVal,dite_true,dite_false,Int.reduceEq,Int.reduceLT,Int.reduceLE]
      exact hok _ _ he hEH.app (hm' []) (by omega)
   ·have hj2:=pos_no (i:=0) hb
    have he:=e2 fun h=>hb h.2.1
    simp only [n19,r19,hm',hj1,hj2,SB,Nat.reduceLT,callee,aOp,ne_eq,Nat.reduceEqDiff,aBin,aUn,if_true,if_false,reduceCtorEq,frame0,place,notTuple,Nat.reduceAdd,Nat.reduceLeDiff,resVal,dite_true,dite_false,Int.reduceEq,Int.reduceLT,Int.reduceLE]
    rw [←he];exact hbad _ (by rw [he];decide) hEH.app
  ·have hj1:=pos_no (i:=0) ha
   have he:=e2 fun h=>ha h.1
   by_cases hb:b∈P
   ·obtain ⟨j2,hj2⟩:=pos_yes (i:=0) hb
    simp only [n19,r19,hm',hj1,hj2,SB,Nat.reduceLT,callee,aOp,ne_eq,Nat.reduceEqDiff,aBin,aUn,if_true,if_false,reduceCtorEq,frame0,place,notTuple,Nat.reduceAdd,Nat.reduceLeDiff,resVal,dite_true,dite_false,Int.reduceEq,Int.reduceLT,Int.reduceLE]
    rw [←he];exact hbad _ (by rw [he];decide) hEH.app
   ·have hj2:=pos_no (i:=0) hb
    simp only [n19,r19,hm',hj1,hj2,SB,Nat.reduceLT,callee,aOp,ne_eq,Nat.reduceEqDiff,aBin,aUn,if_true,if_false,reduceCtorEq,frame0,place,notTuple,Nat.reduceAdd,Nat.reduceLeDiff,resVal,dite_true,dite_false,Int.reduceEq,Int.reduceLT,Int.reduceLE]
    rw [←he];exact hbad _ (by rw [he];decide) hEH.app
 ·have he:errA P L a b t=validN P L:=by rw [errA,if_pos h0]
  simp only [n19,r19,hv,netV_len,netV_0,netV_1,take_all,h0,eq_false h0,SB,Nat.reduceLT,callee,aOp,ne_eq,Nat.reduceEqDiff,aBin,aUn,if_true,if_false,reduceCtorEq,frame0,place,notTuple,Nat.reduceAdd,Nat.reduceLeDiff,resVal,dite_true,dite_false,Int.reduceEq,Int.reduceLT,Int.reduceLE]
  rw [←he];exact hbad _ (by rw [he];exact h0) Ext.refl.app
def Own1 {α:Type} (lim:Nat) (G:Heap) (enc:α→List Value) (e:Nat) (p:Option Addr) (cap:Nat) (l:List α):Prop:=
 Own lim G enc e p cap l∨∃R,p=some ⟨R,0,none⟩∧cap=l.length∧cap<2 ^ 62∧hget G R=.cells false (l.flatMap enc)∧lim≤R
section
variable {α:Type} {lim e cap:Nat} {G:Heap} {enc:α→List Value} {p:Option Addr} {l:List α}
theorem Own1.sl (h:Own1 lim G enc e p cap l) (he:∀x,(enc x).length=e):Sl G enc e p l:=by
 rcases h with h | ⟨R,rfl,_,_,h,_⟩
 ·exact h.sl he
 ·exact Sl.row he h
theorem Own1.block (h:Own1 lim G enc e p cap l) {a:Addr} (ha:p=some a):lim≤a.block∧a.block<G.length:=by
 rcases h with h | ⟨R,rfl,_,_,h,hl⟩
 ·exact h.block ha
 ·cases ha;exact ⟨hl,hget_alive h⟩
theorem Own1.chg {A:List Nat} {H':Heap} (h:Own1 lim G enc e p cap l) (hc:Chg A G H') (hp:∀a,p=some a→a.block∉A):Own1 lim H' enc e p cap l:=by
 rcases h with h | ⟨R,rfl,h1,h2,h3,h4⟩
 ·exact .inl (h.chg hc hp)
 ·exact .inr ⟨R,rfl,h1,h2,hc.cells h3 (hp _ rfl),h4⟩
theorem Own1.step {lim' bytes:Nat} (h:Own1 lim G enc e p cap l) (hll:lim'≤lim) (he:∀x,(enc x).length=e) (he0:e≠0) (x:α) (hb:(l.length+1)*bytes≤maxBytes) (hn:l.length+1<2 ^ 61) (hlG:lim≤G.length)
  (X:Heap) (b k:Nat) (hx:hget (G++X) b=.cells false (enc x)) :
  ∃G2,aAppend lim' none e bytes false (.slice p l.length cap) (.slice (some ⟨b,0,none⟩) 1 k) (G++X)=some (.slice (some ⟨G.length+X.length,0,none⟩) (l.length+1) (loose e),G2++[])∧
   Own lim (G2++[]) enc e (some ⟨G.length+X.length,0,none⟩) (loose e) (l++[x])∧(∀A H0,H0.length≤lim→Chg A H0 G→Chg A H0 (G2++[]))∧(∀j,j<G.length→(∀a,p=some a→j≠a.block)→hget (G2++[]) j=hget G j)∧G2.length=G.length+X.length+1∧
   (∀j,j<X.length→hget (G2++[]) (G.length+j)=X.getD j .dead):=by
 rcases h with h | ⟨R,rfl,h1,h2,h3,h4⟩
 ·exact h.step hll he he0 x hb hn hlG X b k hx
 ·have hR:=hget_alive h3
  have hnew:hget ((G++(X++[.cells false ((l++[x]).flatMap enc)]))++[]) (G.length+X.length)=.cells false ((l++[x]).flatMap enc):=by
   rw [List.append_nil,hget_new]
   rw [show X.length=X.length+0 from rfl,getD_end];rfl
  refine ⟨G++(X++[.cells false ((l++[x]).flatMap enc)]), ?_,Own.new hnew (by omega),fun A H0 _ hc=>(hc.app).app,fun j hj _=>?_,by simp;omega,fun j hj=>?_⟩
  ·have hR':hget (G++X) R=.cells false (l.flatMap enc):=by rw [hget_old hR];exact h3
   have hold:AM.loadCells (G++X) ⟨R,0,none⟩ (l.length*e)=some (l.flatMap enc):=by
    simp only [loadCells_lit,hR',Nat.zero_add,flat_len he,Nat.le_refl,if_true,List.drop_zero]
    rw [List.take_of_length_le (by rw [flat_len he];exact Nat.le_refl _)]
   have hl:AM.loadCells (G++X) ⟨b,0,none⟩ (1*e)=some (enc x):=by
    simp only [loadCells_lit,hx,Nat.zero_add,Nat.one_mul,he,Nat.le_refl,if_true,List.drop_zero]
    rw [List.take_of_length_le (by rw [he];exact Nat.le_refl _)]
   subst h1
   have hne:¬l.length=loose e:=by unfold loose;omega
   simp only [aAppend,firstCells,lenOf,hl,hold,if_false,Bool.false_eq_true,hne,Nat.one_ne_zero]
   rw [if_neg (by omega),if_pos h2,if_neg (by omega)]
   simp [place]
  ·rw [List.append_nil,hget_old hj]
  ·rw [List.append_nil,hget_new,List.getD_eq_getElem?_getD,List.getElem?_append_left hj,List.getD_eq_getElem?_getD]
end
def i64 (n:Int):Value:=.int .i64 n
def T50 (T:List Int):List Int:=if T.length=50 then T else List.replicate 50 0
theorem T50_eq {T:List Int} (h:T.length=50):T50 T=T:=if_pos h
theorem T50_len (T:List Int):(T50 T).length=50:=by
 unfold T50;split
 ·assumption
 ·simp
def encT (T:List Int):List Value:=(T50 T).map i64
theorem encT_len (T:List Int):(encT T).length=50:=by simp [encT,T50_len]
theorem encT_eq {T:List Int} (h:T.length=50):encT T=T.map i64:=by rw [encT,T50_eq h]
theorem encT_get {T:List Int} (h:T.length=50) {j:Nat} (hj:j<50):(encT T)[j]? = some (.int .i64 (T.getD j (-1))):=by
 rw [encT_eq h,List.getElem?_map,List.getD_eq_getElem?_getD,List.getElem?_eq_getElem (by omega)];rfl
theorem encT_set {T:List Int} (h:T.length=50) {j:Nat} {v:Int}:(encT T).set j (.int .i64 v)=encT (T.set j v):=by
 rw [encT_eq h,encT_eq (by simpa using h),List.map_set];rfl
theorem i64_inj {a b:List Int} (h:a.map i64=b.map i64):a=b:=by
 induction a generalizing b with
 | nil=>cases b with
   | nil=>rfl
   | cons y b=>cases h
 | cons x a ih=>cases b with
   | nil=>cases h
   | cons y b=>
     simp only [List.map_cons,List.cons.injEq,i64,Value.int.injEq,true_and] at h
     rw [h.1,ih h.2]
theorem encT_inj {a b:List Int} (ha:a.length=50) (hb:b.length=50) (h:encT a=encT b):a=b:=by
 rw [encT_eq ha,encT_eq hb] at h;exact i64_inj h
theorem flat_ints {l:List Int}:flat 4 (.agg (l.map i64).toArray)=true:=by
 simp [flat,i64,atom]
theorem encT_eqv {a b:List Int} (ha:a.length=50) (hb:b.length=50):aEq (.agg (List.replicate 50 (.int .i64))) (.agg (encT a).toArray) (.agg (encT b).toArray)=some (decide (a=b)):=by
 obtain ⟨t,h1,h2⟩:=cellsEq_dec (.int .i64) 50 (encT a) (encT b) (encT_len a) (encT_len b) (by
  intro x hx y hy
  rw [encT_eq ha] at hx
  rw [encT_eq hb] at hy
  obtain ⟨n,_,rfl⟩:=List.mem_map.1 hx
  obtain ⟨m,_,rfl⟩:=List.mem_map.1 hy
  exact ⟨n == m,by simp [cellEq,i64],by simp [i64]⟩)
 show cellsEq _ (encT a) (encT b)=_
 rw [h1]
 congr 1
 rw [Bool.eq_iff_iff,h2,decide_eq_true_eq]
 exact ⟨fun h=>encT_inj ha hb h,fun h=>by rw [h]⟩
theorem zz50:[Value.int .i64 0,Value.int .i64 0,Value.int .i64 0,Value.int .i64 0,Value.int .i64 0,Value.int .i64 0,Value.int .i64 0,Value.int .i64 0,Value.int .i64 0,Value.int .i64 0,Value.int .i64 0,Value.int .i64 0,Value.int .i64 0,Value.int .i64 0,Value.int .i64 0,Value.int .i64 0,Value.int .i64 0,Value.int .i64 0,Value.int .i64 0,Value.int .i64 0,Value.int .i64 0,Value.int .i64 0,Value.int .i64 0,Value.int .i64 0,Value.int .i64 0,Value.int .i64 0,Value.int .i64 0,Value.int .i64 0,Value.int .i64 0,Value.int .i64 0,Value.int .i64 0,Value.int .i64 0,Value.int .i64 0,Value.int .i64 0,Value.int .i64 0,Value.int .i64 0,Value.int .i64 0,Value.int .i64 0,Value.int .i64 0,Value.int .i64 0,Value.int .i64 0,Value.int .i64 0,Value.int .i64 0,Value.int .i64 0,Value.int .i64 0,Value.int .i64 0,Value.int .i64 0,Value.int .i64 0,Value.int .i64 0,Value.int .i64 0]=List.replicate 50 (Value.int .i64 0):=rfl
theorem kk50:[KK.int .i64,KK.int .i64,KK.int .i64,KK.int .i64,KK.int .i64,KK.int .i64,KK.int .i64,KK.int .i64,KK.int .i64,KK.int .i64,KK.int .i64,KK.int .i64,KK.int .i64,KK.int .i64,KK.int .i64,KK.int .i64,KK.int .i64,KK.int .i64,KK.int .i64,KK.int .i64,KK.int .i64,KK.int .i64,KK.int .i64,KK.int .i64,KK.int .i64,KK.int .i64,KK.int .i64,KK.int .i64,KK.int .i64,KK.int .i64,KK.int .i64,KK.int .i64,KK.int .i64,KK.int .i64,KK.int .i64,KK.int .i64,KK.int .i64,KK.int .i64,KK.int .i64,KK.int .i64,KK.int .i64,KK.int .i64,KK.int .i64,KK.int .i64,KK.int .i64,KK.int .i64,KK.int .i64,KK.int .i64,KK.int .i64,KK.int .i64]=List.replicate 50 (KK.int .i64):=rfl
theorem one_ok [OB] {mp:Bool} {lim i:Nat} {t:Int} {H:Heap} {Q:Value→Heap→Prop} (hi:i<50):CallR E mp lim 27 [.int .i64 (i:Int),.int .i64 t] H Q=Q (.agg (encT (oneT 50 i t)).toArray) H:=by
 refine pc (by decide) e27 rfl (by rw [encT_eq oneT_len];exact flat_ints) ?_
 rw [b27,c27]
 simp only [n27,r27,zz50,SB,Nat.reduceLT,callee,aOp,ne_eq,Nat.reduceEqDiff,aBin,aUn,if_true,if_false,reduceCtorEq,frame0,place,notTuple,Nat.reduceAdd,Nat.reduceLeDiff,resVal,dite_true,dite_false,Int.reduceEq,Int.reduceLT,Int.reduceLE]
 refine Ret_rounds (fun k=>50-k) (fun k fr G=>k≤50∧fr 0=.int .i64 (i:Int)∧fr 1=.int .i64 t∧fr 4=.pointer (some ⟨H.length,0,none⟩)∧fr 5=.pointer (some ⟨H.length+1,0,none⟩)∧fr 7=.int .i64 (k:Int)∧
  ∃T:List Int,T.length=50∧(∀j,j<k→T[j]? = some (-1))∧G=H++[.cells false (List.replicate 50 (Value.int .i64 0)),.cells false (encT T)]) 0
  ⟨Nat.zero_le _,(by simp only [FB,Nat.reduceEqDiff]),(by simp only [FB,Nat.reduceEqDiff]),(by simp only [FB,Nat.reduceEqDiff]),(by simp only [FB,Nat.reduceEqDiff]),by rfl,List.replicate 50 0,by simp,fun j hj=>by omega,rfl⟩ ?_
 rintro k fr G ⟨hk,h0,h1,h4,h5,h7,T,hT,hall,rfl⟩ hN
 rw [Ret_code l27_1.eq_1]
 by_cases hlt:k<50
 ·have hk1:(k:Int)<50:=by omega
  have hk0:(0:Int)≤(k:Int):=by omega
  have hw1:IntKind.i64.wrap ((k:Int)+1)=((k+1:Nat):Int):=wrap_nat (by omega)
  simp only [n27,r27,h0,h1,h4,h5,h7,hk0,hk1,hw1,Nat.mul_one,encT_len,encT_set hT,show k+1≤50 by omega,SB,Nat.reduceLT,callee,aOp,ne_eq,Nat.reduceEqDiff,aBin,aUn,if_true,if_false,reduceCtorEq,frame0,place,notTuple,Nat.reduceAdd,Nat.reduceLeDiff,resVal,dite_true,dite_false,Int.reduceEq,Int.reduceLT,Int.reduceLE]
  refine hN (k+1) _ _ ⟨by omega,(by simp only [h0,FB,Nat.reduceEqDiff]),(by simp only [h1,FB,Nat.reduceEqDiff]),(by simp only [h4,FB,Nat.reduceEqDiff]),(by simp only [h5,FB,Nat.reduceEqDiff]),(by simp only [FB,Nat.reduceEqDiff]),T.set k (-1),by simpa using hT,fun j hj=>?_,rfl⟩ (by omega)
  by_cases hj2:k=j
  ·subst hj2;rw [List.getElem?_set_self (by omega)]
  ·rw [List.getElem?_set_ne hj2];exact hall j (by omega)
 ·obtain rfl:k=50:=by omega
  have hTT:T=List.replicate 50 (-1):=by
   apply List.ext_getElem? ;intro j
   by_cases hj:j<50
   ·rw [hall j hj,List.getElem?_replicate,if_pos hj]
   ·rw [List.getElem?_eq_none (by omega),List.getElem?_eq_none (by simp;omega)]
  subst hTT
  have hk1:(i:Int)<50:=by omega
  have hk0:(0:Int)≤(i:Int):=by omega
  simp only [n27,r27,h0,h1,h4,h5,h7,hk0,hk1,Nat.mul_one,encT_len,encT_set hT,show i+1≤50 by omega,take_all,setAll_full,List.length_replicate,SB,Nat.reduceLT,callee,aOp,ne_eq,Nat.reduceEqDiff,aBin,aUn,if_true,if_false,reduceCtorEq,frame0,place,notTuple,Nat.reduceAdd,Nat.reduceLeDiff,resVal,dite_true,dite_false,Int.reduceEq,Int.reduceLT,Int.reduceLE]
  rfl
def okT (T:List Int):Prop:=T.length=50∧∀j,-1≤T.getD j (-1)∧T.getD j (-1)≤maxTime
theorem okT_one {i:Nat} {t:Int} (hi:i<50) (h:-1≤t∧t≤maxTime):okT (oneT 50 i t):=⟨oneT_len,fun j=>by
 rw [oneT_get hi];unfold maxTime at *;split<;>omega⟩
theorem okT_set {T:List Int} {i:Nat} {v:Int} (h:okT T) (hv:-1≤v∧v≤maxTime):okT (T.set i v):=by
 refine ⟨by simpa using h.1,fun j=>?_⟩
 by_cases hi:i<T.length
 ·rw [getD_set hi];split
  ·exact hv
  ·exact h.2 j
 ·rw [List.set_eq_of_length_le (by omega)];exact h.2 j
def rndF (u:List Int→List Int→Leg→List Int) (L:List Leg) (first:List Int):Nat→List Int
 | 0=>first
 | k+1=>L.foldl (u (rndF u L first k)) (rndF u L first k)
theorem foldl_take {α β:Type} [Inhabited α] {f:β→α→β} {L:List α} {b:β} {i:Nat} (h:i<L.length):(L.take (i+1)).foldl f b=f ((L.take i).foldl f b) (gt L i):=by
 rw [take_snoc h,List.foldl_append];rfl
def UseOk [OB] (H:Heap) (lim:Nat) (g:FuncId) (c1 c2:Value) (u:List Int→List Int→Leg→List Int) (L:List Leg):Prop:=
 ∀(G:Heap) (A:Nat) (bef aft:List Int) (l:Leg) (Q:Value→Heap→Prop),l∈L→okT bef→okT aft→Chg [] H G→lim≤A→H.length≤A→lim≤G.length→hget G A=.cells false (encT aft)→
  okT (u bef aft l)∧((∀G',Chg [A] G G'→hget G' A=.cells false (encT (u bef aft l))→Q (.tuple #[]) G')→CallR E false lim g [.agg (encL l).toArray,.agg (encT bef).toArray,.pointer (some ⟨A,0,none⟩),c1,c2] G Q)
theorem rounds_inner [OB] {lim:Nat} {g:FuncId} {c1 c2:Value} {u:List Int→List Int→Leg→List Int} {pl:Option Addr} {L:List Leg} {cl:Nat} {H G:Heap} {fr:Nat→Value} {K:List AItem} {R:Value→Heap→Prop} {bef:List Int} {A8 A9:Nat}
  (hu:UseOk H lim g c1 c2 u L) (hL:Sl H encL 8 pl L) (hnL:L.length<2 ^ 62) (hlim:lim≤H.length) (hb:okT bef) (hE:Chg [] H G) (hA8:H.length≤A8) (hA9:H.length≤A9) (hne:A8≠A9) (h8:hget G A8=.cells false (encT bef)) (h9:hget G A9=.cells false (encT bef))
  (f2:fr 2=.func (.func g) #[] #[c1,c2]) (f8:fr 8=.pointer (some ⟨A8,0,none⟩)) (f9:fr 9=.pointer (some ⟨A9,0,none⟩)) (f21:fr 21=.slice pl L.length cl) (f22:fr 22=.int .i64 (L.length:Int)) (f23:fr 23=.int .i64 0)
  (hR:∀fr' G',okT (L.foldl (u bef) bef)→Chg [A9] G G'→hget G' A9=.cells false (encT (L.foldl (u bef) bef))→fr' 1=fr 1→fr' 2=fr 2→fr' 7=fr 7→fr' 8=fr 8→fr' 9=fr 9→Ret E a26 lim K fr' (G'++[]) R) :
  Ret E a26 lim (.code (.loop l26_1)::.inBlock 2::K) fr G R:=by
 refine Ret_rounds (fun i=>L.length-i) (fun i fr' G'=>i≤L.length∧fr' 1=fr 1∧fr' 7=fr 7∧fr' 2=.func (.func g) #[] #[c1,c2]∧fr' 8=.pointer (some ⟨A8,0,none⟩)∧fr' 9=.pointer (some ⟨A9,0,none⟩)∧fr' 21=.slice pl L.length cl∧fr' 22=.int .i64 (L.length:Int)∧fr' 23=.int .i64 (i:Int)∧
  Chg [A9] G G'∧okT ((L.take i).foldl (u bef) bef)∧hget G' A9=.cells false (encT ((L.take i).foldl (u bef) bef))) 0
  ⟨Nat.zero_le _,rfl,rfl,f2,f8,f9,f21,f22,f23,Chg.refl,hb,h9⟩ ?_
 intro i fr' G' ⟨hi,g1,g7,g2,g8,g9,g21,g22,g23,hC,ha,h9'⟩ hN
 have hEG:Chg [] H G':=hE.trans' hC fun j h1 h2=>by simp only [List.mem_singleton] at h1;omega
 have hl:=hEG.len
 rw [Ret_code l26_1.eq_1]
 refine Ret_pad ?_
 by_cases hlt:i<L.length
 ·have hsl:=hEG.ext.sl hL
  have hld:=fun X=>(hsl.app X).loadCells encL_len hlt
  have hidx:=fun c (k:IntKind) (H1:Heap)=>hsl.idx (c:=c) (k:=k) (H1:=H1) hlt
  have hw1:IntKind.i64.wrap ((i:Int)+1)=((i+1:Nat):Int):=wrap_nat (by omega)
  have h8':=hC.cells h8 (by simpa using hne)
  have h8X:=fun X=>(Ext.refl.app (X:=X)).cells h8'
  have hlG:lim≤G'.length:=by omega
  simp only [n26,r26,g2,g8,g9,g21,g22,g23,hlt,hidx,hld,hw1,encL_len,encL_0,encL_1,encL_2,encL_3,encL_4,encL_5,encL_6,encL_7,take_all,hlG,setAll_full,h8X,encT_len,pure_any,SB,Nat.reduceLT,callee,aOp,ne_eq,Nat.reduceEqDiff,aBin,aUn,if_true,if_false,reduceCtorEq,frame0,place,notTuple,Nat.reduceAdd,Nat.reduceLeDiff,resVal,dite_true,dite_false,Int.reduceEq,Int.reduceLT,Int.reduceLE]
  have hal:=hget_alive h9'
  obtain ⟨hok,hcall⟩:=hu (G'++[.cells false (encL (gt L i))]) A9 bef ((L.take i).foldl (u bef) bef) (gt L i) _ (gt_mem hlt) hb ha (hEG.app) (by omega) hA9 (by simp;omega) ((Ext.refl.app).cells h9')
  refine hcall fun G2 hC2 h92=>?_
  refine Ret_pad ?_
  simp only [n26,r26,g2,g8,g9,g21,g22,g23,hw1,SB,Nat.reduceLT,callee,aOp,ne_eq,Nat.reduceEqDiff,aBin,aUn,if_true,if_false,reduceCtorEq,frame0,place,notTuple,Nat.reduceAdd,Nat.reduceLeDiff,resVal,dite_true,dite_false,Int.reduceEq,Int.reduceLT,Int.reduceLE]
  refine hN (i+1) _ _ ⟨by omega,by rw [←g1];exact (by simp only [FB,Nat.reduceEqDiff]),by rw [←g7];exact (by simp only [FB,Nat.reduceEqDiff]),(by simp only [g2,FB,Nat.reduceEqDiff]),(by simp only [g8,FB,Nat.reduceEqDiff]),(by simp only [g9,FB,Nat.reduceEqDiff]),(by simp only [g21,FB,Nat.reduceEqDiff]),(by simp only [g22,FB,Nat.reduceEqDiff]),(by simp only [FB,Nat.reduceEqDiff]), ?_, ?_, ?_⟩ (by omega)
  ·rw [List.append_nil]
   exact hC.trans hC2.pre
  ·rw [foldl_take hlt];exact hok
  ·rw [List.append_nil,foldl_take hlt];exact h92
 ·obtain rfl:i=L.length:=by omega
  rw [List.take_length] at ha h9'
  simp only [n26,r26,g2,g8,g9,g21,g22,g23,hlt,SB,Nat.reduceLT,callee,aOp,ne_eq,Nat.reduceEqDiff,aBin,aUn,if_true,if_false,reduceCtorEq,frame0,place,notTuple,Nat.reduceAdd,Nat.reduceLeDiff,resVal,dite_true,dite_false,Int.reduceEq,Int.reduceLT,Int.reduceLE]
  exact hR _ _ ha hC h9' (by rw [←g1];exact (by simp only [FB,Nat.reduceEqDiff])) (by rw [f2];exact (by simp only [g2,FB,Nat.reduceEqDiff])) (by rw [←g7];exact (by simp only [FB,Nat.reduceEqDiff])) (by rw [f8];exact (by simp only [g8,FB,Nat.reduceEqDiff])) (by rw [f9];exact (by simp only [g9,FB,Nat.reduceEqDiff]))
theorem rounds_ok [OB] {lim n0:Nat} {g:FuncId} {c1 c2:Value} {u:List Int→List Int→Leg→List Int} {first:List Int} {pl:Option Addr} {L:List Leg} {cl:Nat} {H:Heap} {Q:Value→Heap→Prop}
  (hu:UseOk H lim g c1 c2 u L) (hf:okT first) (hL:Sl H encL 8 pl L) (hnL:L.length<2 ^ 62) (hlim:lim≤H.length) (hfix:rndF u L first (n0+1)=rndF u L first n0) (hno:∀k,k<n0→rndF u L first (k+1)≠rndF u L first k) (hn0:n0<80000000000)
  (hQ:∀H' p cap,Chg [] H H'→Own1 H.length H' encT 50 p cap ((List.range (n0+1)).map (rndF u L first))→Q (.slice p (n0+1) cap) H') :
  CallR E false lim 26 [.agg (encT first).toArray,.slice pl L.length cl,.func (.func g) #[] #[c1,c2]] H Q:=by
 refine runs' (by decide) e26 rfl ?_
 rw [b26,c26]
 simp only [n26,r26,zz50,encT_len,take_all,setAll_full,List.length_replicate,SB,Nat.reduceLT,callee,aOp,ne_eq,Nat.reduceEqDiff,aBin,aUn,if_true,if_false,reduceCtorEq,frame0,place,notTuple,Nat.reduceAdd,Nat.reduceLeDiff,resVal,dite_true,dite_false,Int.reduceEq,Int.reduceLT,Int.reduceLE]
 refine Ret_rounds (fun s:Nat×Option Addr×Nat=>n0+1-s.1) (fun s fr G=>s.1≤n0∧fr 1=.slice pl L.length cl∧fr 2=.func (.func g) #[] #[c1,c2]∧fr 7=.slice s.2.1 (s.1+1) s.2.2∧Chg [] H G∧okT (rndF u L first s.1)∧Own1 H.length G encT 50 s.2.1 s.2.2 ((List.range (s.1+1)).map (rndF u L first))) (0,some ⟨H.length+1,0,none⟩,1)
  ⟨Nat.zero_le _,(by simp only [FB,Nat.reduceEqDiff]),(by simp only [FB,Nat.reduceEqDiff]),by rfl,Chg.refl.app,hf,.inr ⟨H.length+1,rfl,rfl,by show (1:Nat)<2 ^ 62;decide,by rw [hget_new];simp [rndF],by omega⟩⟩ ?_
 rintro ⟨k,p,cap⟩ fr G ⟨hk,f1,f2,f7,hE,hok,hO⟩ hN
 simp only at hk f7 hok hO
 have hl:=hE.len
 rw [Ret_code l26_2.eq_1]
 refine Ret_pad ?_
 have hlen:((List.range (k+1)).map (rndF u L first)).length=k+1:=by simp
 have hgt:gt ((List.range (k+1)).map (rndF u L first)) k=rndF u L first k:=by
  rw [gt_lt (by rw [hlen];omega)];simp
 have hS:=hO.sl encT_len
 have hld:=fun X=>(hS.app X).loadCells encT_len (i:=k) (by rw [hlen];omega)
 have hidx:=fun c (kk:IntKind) (H1:Heap)=>hS.idx (c:=c) (k:=kk) (H1:=H1) (i:=k) (by rw [hlen];omega)
 rw [hlen] at hidx
 rw [hgt] at hld
 have hw1:IntKind.i64.wrap (((k+1:Nat):Int)-1)=(k:Int):=by rw [wrap_id (by omega) (by omega)];omega
 have hlG:lim≤G.length:=by omega
 simp only [n26,r26,f1,f2,f7,zz50,encT_len,take_all,setAll_full,List.length_replicate,hw1,hidx,hld,hlG,show lim≤G.length+1 by omega,SB,Nat.reduceLT,callee,aOp,ne_eq,Nat.reduceEqDiff,aBin,aUn,if_true,if_false,reduceCtorEq,frame0,place,notTuple,Nat.reduceAdd,Nat.reduceLeDiff,resVal,dite_true,dite_false,Int.reduceEq,Int.reduceLT,Int.reduceLE]
 refine rounds_inner (cl:=cl) (A8:=G.length) (A9:=G.length+1) hu hL hnL hlim hok (hE.app) (by omega) (by omega) (by omega) hget_new0 hget_new (by simp only [f2,FB,Nat.reduceEqDiff]) (by simp only [FB,Nat.reduceEqDiff]) (by simp only [FB,Nat.reduceEqDiff]) (by simp only [FB,Nat.reduceEqDiff]) (by simp only [FB,Nat.reduceEqDiff]) (by simp only [FB,Nat.reduceEqDiff]) fun fr' G' hok' hC h9 k1 k2 k7 k8 k9=>?_
 have k1':fr' 1=.slice pl L.length cl:=k1.trans (by simp only [f1,FB,Nat.reduceEqDiff])
 have k2':fr' 2=.func (.func g) #[] #[c1,c2]:=k2.trans (by simp only [f2,FB,Nat.reduceEqDiff])
 have k7':fr' 7=.slice p (k+1) cap:=k7.trans (by simp only [f7,FB,Nat.reduceEqDiff])
 have k8':fr' 8=.pointer (some ⟨G.length,0,none⟩):=k8.trans (by simp only [FB,Nat.reduceEqDiff])
 have k9':fr' 9=.pointer (some ⟨G.length+1,0,none⟩):=k9.trans (by simp only [FB,Nat.reduceEqDiff])
 have h8:hget G' G.length=.cells false (encT (rndF u L first k)):=hC.cells hget_new0 (by simp)
 have h8X:=fun X=>(Ext.refl.app (X:=X)).cells h8
 have h9X:=fun X=>(Ext.refl.app (X:=X)).cells h9
 have hC':Chg [] G G':=hC.pre.mono fun j hj h=>by simp only [List.mem_singleton] at h;omega
 have hl2:=hC'.len
 change okT (rndF u L first (k+1)) at hok'
 change hget G' (G.length+1)=.cells false (encT (rndF u L first (k+1))) at h9
 change ∀X,hget (G'++X) (G.length+1)=.cells false (encT (rndF u L first (k+1))) at h9X
 have heq:=encT_eqv hok'.1 hok.1
 by_cases hkn:k=n0
 ·subst hkn
  rw [decide_eq_true hfix] at heq
  simp only [n26,r26,k1',k2',k7',k8',k9',h8X,h9X,encT_len,take_all,kk50,heq,SB,Nat.reduceLT,callee,aOp,ne_eq,Nat.reduceEqDiff,aBin,aUn,if_true,if_false,reduceCtorEq,frame0,place,notTuple,Nat.reduceAdd,Nat.reduceLeDiff,resVal,dite_true,dite_false,Int.reduceEq,Int.reduceLT,Int.reduceLE]
  exact hQ _ _ _ ((hE.trans hC').app) (hO.chg (hC'.app) (by simp))
 ·rw [decide_eq_false (p:=rndF u L first (k+1)=rndF u L first k) (hno k (by omega))] at heq
  have hO':=hO.chg hC' (by simp)
  obtain ⟨G3,e3,O3,C3,hold3,l3,_⟩:=hO'.step (lim':=lim) (bytes:=400) hlim encT_len (by decide) (rndF u L first (k+1)) (by rw [hlen];unfold maxBytes;omega) (by rw [hlen];omega) (by omega) [.cells false (encT (rndF u L first (k+1)))] G'.length 1 hget_new0
  rw [hlen] at e3
  simp only [n26,r26,k1',k2',k7',k8',k9',h8X,h9X,encT_len,take_all,kk50,heq,zz50,setAll_full,List.length_replicate,e3,SB,Nat.reduceLT,callee,aOp,ne_eq,Nat.reduceEqDiff,aBin,aUn,if_true,if_false,reduceCtorEq,frame0,place,notTuple,Nat.reduceAdd,Nat.reduceLeDiff,resVal,dite_true,dite_false,Int.reduceEq,Int.reduceLT,Int.reduceLE]
  refine hN (k+1,_,_) _ _ ⟨by omega,(by simp only [k1',FB,Nat.reduceEqDiff]),(by simp only [k2',FB,Nat.reduceEqDiff]),by rfl,C3 _ _ (Nat.le_refl _) (hE.trans hC'),hok',.inl ?_⟩ (by show n0+1-(k+1)<n0+1-k;omega)
  rw [List.range_succ,List.map_append]
  exact O3
def posN (P:List Int):Int→Nat:=fun p=>P.idxOf p
theorem valid_net {P:List Int} {L:List Leg} (h:validN P L=0):NetOk 50 P L (posN P):=by
 obtain ⟨h1,h2,h3,h4⟩:=validN_0 h
 have key:∀l∈L,Fine l∧l.frm∈P∧l.dst∈P:=fun l hl=>by
  obtain ⟨i,hi,rfl⟩:=List.mem_iff_getElem.1 hl
  have:=h4 i hi
  unfold lOk at this
  rw [gt_lt hi] at this
  exact ⟨this.1,this.2.2⟩
 refine ⟨fun l hl=>(key l hl).1,fun l hl=>(key l hl).2.1,fun l hl=>(key l hl).2.2,fun a ha b hb e=>?_,fun a ha=>?_⟩
 ·have h1:=List.getElem_idxOf (List.idxOf_lt_length_of_mem ha)
  have h2:=List.getElem_idxOf (List.idxOf_lt_length_of_mem hb)
  rw [←h1,←h2]
  congr 1
 ·have:=List.idxOf_lt_length_of_mem ha
  show P.idxOf a<50
  omega
theorem rest_at {F:Nat→List Int} {mu:List Int→Nat} (h:∀k,F (k+1)=F k∨mu (F (k+1))<mu (F k)):∃n,n≤mu (F 0)∧F (n+1)=F n∧∀k,k<n→F (k+1)≠F k:=by
 have key:∀m k,mu (F k)≤m→(∀j,j<k→F (j+1)≠F j)→∃n,n≤k+m∧F (n+1)=F n∧∀j,j<n→F (j+1)≠F j:=by
  intro m
  induction m with
  | zero=>
    intro k hm hj
    rcases h k with h1 | h1
    ·exact ⟨k,by omega,h1,hj⟩
    ·omega
  | succ m ih=>
    intro k hm hj
    by_cases h1:F (k+1)=F k
    ·exact ⟨k,by omega,h1,hj⟩
    ·rcases h k with h2 | h2
     ·exact absurd h2 h1
     ·obtain ⟨n,h3,h4⟩:=ih (k+1) (by omega) fun j hjk=>by
       rcases Nat.lt_or_ge j k with h5 | h5
       ·exact hj j h5
       ·obtain rfl:j=k:=by omega
        exact h1
      exact ⟨n,by omega,h4⟩
 obtain ⟨n,h1,h2⟩:=key (mu (F 0)) 0 (Nat.le_refl _) fun j hj=>by omega
 exact ⟨n,by omega,h2⟩
theorem rnd_arr {N:Nat} {pos:Int→Nat} {lim:Int} {L:List Leg} {p ready:Int} (k:Nat):rndF (useA pos lim) L (oneT N (pos p) ready) k=arrK N pos lim L p ready k:=by
 induction k with
 | zero=>rfl
 | succ k ih=>rw [rndF,arrK,stepA,ih]
theorem rnd_lat {N:Nat} {pos:Int→Nat} {low:Int} {L:List Leg} {q dl:Int} (k:Nat):rndF (useB pos low) L (oneT N (pos q) dl) k=latK N pos low L q dl k:=by
 induction k with
 | zero=>rfl
 | succ k ih=>rw [rndF,latK,stepB,ih]
theorem arr_within {P:List Int} {L:List Leg} {p ready lim:Int} (hn:NetOk 50 P L (posN P)) (hp:p∈P) (hr:0≤ready) (hl:ready≤lim):∀k,Within ready lim (arrK 50 (posN P) lim L p ready k)
 | 0=>by
   intro t ht
   rw [arrK,oneT] at ht
   rcases List.mem_or_eq_of_mem_set ht with h | rfl
   ·exact .inl (List.eq_of_mem_replicate h)
   ·exact .inr ⟨Int.le_refl _,hl⟩
 | k+1=>(stepA_mu (arr_within hn hp hr hl k) hr fun l hll=>⟨hn.fine l hll,by rw [arrK_len];exact hn.lt _ (hn.dst l hll)⟩).1
theorem arr_rest {P:List Int} {L:List Leg} {p ready lim:Int} (hn:NetOk 50 P L (posN P)) (hp:p∈P) (hr:0≤ready) (hl:ready≤lim):∃n,n≤50*((lim-ready).toNat+1)∧arrK 50 (posN P) lim L p ready (n+1)=arrK 50 (posN P) lim L p ready n∧∀k,k<n→arrK 50 (posN P) lim L p ready (k+1)≠arrK 50 (posN P) lim L p ready k:=by
 obtain ⟨n,h1,h2⟩:=rest_at (F:=arrK 50 (posN P) lim L p ready) (mu:=muA ready lim) fun k=>
  (stepA_mu (arr_within hn hp hr hl k) hr fun l hll=>⟨hn.fine l hll,by rw [arrK_len];exact hn.lt _ (hn.dst l hll)⟩).2
 refine ⟨n,Nat.le_trans h1 ?_,h2⟩
 have:=muA_le (arr_within hn hp hr hl 0)
 rw [arrK_len] at this
 exact this
theorem muB_le {low dl:Int}:∀{T:List Int},Upto low dl T→muB low dl T≤T.length*((dl-low).toNat+dl.toNat+1)
 | [],_=>by simp [muB]
 | t::T,h=>by
   have ih:=muB_le (T:=T) fun x hx=>h x (List.mem_cons_of_mem _ hx)
   have h1:=h t (List.mem_cons_self ..)
   unfold muB at ih⊢
   simp only [List.map_cons,List.sum_cons,List.length_cons,Nat.succ_mul]
   have:farB low dl t≤(dl-low).toNat+dl.toNat+1:=by unfold farB;split<;>omega
   omega
theorem lat_upto {P:List Int} {L:List Leg} {q dl low:Int} (hn:NetOk 50 P L (posN P)) (hq:q∈P) (hr:0≤dl) (hl:low≤dl):∀k,Upto low dl (latK 50 (posN P) low L q dl k)
 | 0=>by
   intro t ht
   rw [latK,oneT] at ht
   rcases List.mem_or_eq_of_mem_set ht with h | rfl
   ·exact .inl (List.eq_of_mem_replicate h)
   ·exact .inr ⟨hr,hl,Int.le_refl _⟩
 | k+1=>(foldB_mu (lat_upto hn hq hr hl k) (fun l hll=>⟨hn.fine l hll,by rw [latK_len];exact hn.lt _ (hn.frm l hll)⟩) (lat_upto hn hq hr hl k)).1
theorem lat_rest {P:List Int} {L:List Leg} {q dl low:Int} (hn:NetOk 50 P L (posN P)) (hq:q∈P) (hr:0≤dl) (hl:low≤dl):∃n,n≤50*((dl-low).toNat+dl.toNat+1)∧latK 50 (posN P) low L q dl (n+1)=latK 50 (posN P) low L q dl n∧∀k,k<n→latK 50 (posN P) low L q dl (k+1)≠latK 50 (posN P) low L q dl k:=by
 obtain ⟨n,h1,h2⟩:=rest_at (F:=latK 50 (posN P) low L q dl) (mu:=muB low dl) fun k=>
  (foldB_mu (lat_upto hn hq hr hl k) (fun l hll=>⟨hn.fine l hll,by rw [latK_len];exact hn.lt _ (hn.frm l hll)⟩) (lat_upto hn hq hr hl k)).2
 refine ⟨n,Nat.le_trans h1 ?_,h2⟩
 have:=muB_le (lat_upto hn hq hr hl 0)
 rw [latK_len] at this
 exact this
def arrL (P:List Int) (L:List Leg) (p ready:Int) (T:List Int):Prop:=T.length=P.length∧∀q∈P,IsArr L p ready q (T.getD (posN P q) (-1))
def latL (P:List Int) (L:List Leg) (q dl:Int) (T:List Int):Prop:=T.length=P.length∧∀p∈P,IsLat L q dl p (T.getD (posN P p) (-1))
theorem arr_all {P:List Int} {L:List Leg} {p ready:Int} (hn:NetOk 50 P L (posN P)) (h50:P.length≤50) (hp:p∈P) (hr:0≤ready) {n:Nat} (hfix:arrK 50 (posN P) (ready+86400) L p ready (n+1)=arrK 50 (posN P) (ready+86400) L p ready n) :
  arrL P L p ready ((arrK 50 (posN P) (ready+86400) L p ready n).take P.length):=by
 refine ⟨by rw [List.length_take,arrK_len];omega,fun q hq=>?_⟩
 have h1:=arrK_all hn hp hr (by omega) hfix q hq
 have h2:posN P q<P.length:=List.idxOf_lt_length_of_mem hq
 rw [List.getD_eq_getElem?_getD,List.getElem?_take,if_pos h2,←List.getD_eq_getElem?_getD]
 exact h1
theorem lat_all {P:List Int} {L:List Leg} {q dl:Int} (hn:NetOk 50 P L (posN P)) (h50:P.length≤50) (hq:q∈P) (hr:0≤dl) {n:Nat} (hfix:latK 50 (posN P) (dl-86400) L q dl (n+1)=latK 50 (posN P) (dl-86400) L q dl n) :
  latL P L q dl ((latK 50 (posN P) (dl-86400) L q dl n).take P.length):=by
 refine ⟨by rw [List.length_take,latK_len];omega,fun p hp=>?_⟩
 have h1:=latK_all hn hq hr (by omega) hfix p hp
 have h2:posN P p<P.length:=List.idxOf_lt_length_of_mem hp
 rw [List.getD_eq_getElem?_getD,List.getElem?_take,if_pos h2,←List.getD_eq_getElem?_getD]
 exact h1
theorem nextD_arr {l:Leg} {r a:Int} (hl:Fine l) (h:nextD l r=some a):0≤a∧r≤a∧a+l.mins≤maxTime:=by
 obtain ⟨⟨d,_,hg,rfl⟩,h2,_⟩:=nextD_some h
 unfold goes at hg
 simp only [Bool.and_eq_true,decide_eq_true_eq] at hg
 unfold Fine at hl
 omega
theorem lastD_dep {l:Leg} {b a:Int} (hl:Fine l) (h:lastD l b=some a):0≤a-l.cut∧0≤a∧a+l.mins≤maxTime∧a+l.mins≤b:=by
 obtain ⟨⟨d,_,hg,rfl⟩,h2,_⟩:=lastD_some h
 unfold goes at hg
 simp only [Bool.and_eq_true,decide_eq_true_eq] at hg
 unfold Fine at hl
 omega
theorem arrive_use [OB] {lim B1 B2 R:Nat} {o1 o2:Bool} {P:List Int} {L:List Leg} {ready:Int} {H:Heap} (hn:NetOk 50 P L (posN P)) (h1:hget H B1=.cells o1 [.map (some R)]) (h2:hget H B2=.cells o2 [.int .i64 ready]) (hm:hget H R=.map (posV P)) (hr:0≤ready) (hr2:ready≤maxTime) :
  UseOk H lim 45 (.pointer (some ⟨B1,0,none⟩)) (.pointer (some ⟨B2,0,none⟩)) (useA (posN P) (ready+86400)) L:=by
 intro G A bef aft l Q hl hb ha hE hlA hHA hlG hA
 have hf:=hn.fine l hl
 have i1:posN P l.frm<50:=hn.lt _ (hn.frm l hl)
 have i2:posN P l.dst<50:=hn.lt _ (hn.dst l hl)
 obtain ⟨j1,hj1⟩:=pos_yes (i:=0) (hn.frm l hl)
 obtain ⟨j2,hj2⟩:=pos_yes (i:=0) (hn.dst l hl)
 change findKey _ _ _=some (some (j1,.int .i64 (posN P l.frm:Int))) at hj1
 change findKey _ _ _=some (some (j2,.int .i64 (posN P l.dst:Int))) at hj2
 have hbr:=hb.2 (posN P l.frm)
 have har:=ha.2 (posN P l.dst)
 have gb:=encT_get hb.1 i1
 have ga:=encT_get ha.1 i2
 have q1:=fun X=>(Ext.refl.app (X:=X)).cells (hE.cells h1 (by simp))
 have q2:=fun X=>(Ext.refl.app (X:=X)).cells (hE.cells h2 (by simp))
 have hmG:=hE.get hm (hget_alive' hm) (by simp)
 have q3:∀X,hget (G++X) R=.map (posV P):=fun X=>by rw [hget_old (hget_alive' hmG)];exact hmG
 have q4:=fun X=>(Ext.refl.app (X:=X)).cells hA
 have z1:(0:Int)≤(posN P l.frm:Int):=by omega
 have z2:(0:Int)≤(posN P l.dst:Int):=by omega
 have z3:(posN P l.frm:Int)<50:=by omega
 have z4:(posN P l.dst:Int)<50:=by omega
 have z5:posN P l.dst≤49:=by omega
 have z6:posN P l.frm≤49:=by omega
 have wr:IntKind.i64.wrap (ready+86400)=ready+86400:=by unfold maxTime at hr2;exact wrap_id (by omega) (by omega)
 unfold useA
 generalize posN P l.frm=x at *
 generalize posN P l.dst=y at *
 generalize bef.getD x (-1)=b at *
 generalize hc:aft.getD y (-1)=c at *
 unfold maxTime at hbr har hr2
 by_cases hbn:b<0
 ·rw [if_pos hbn]
  refine ⟨ha,fun hQ=>runs' (by decide) e45 rfl ?_⟩
  rw [b45,c45]
  simp only [n45,r45,q1,q2,q3,q4,hj1,hj2,gb,ga,z1,z2,z3,z4,z5,z6,wr,encL_len,encL_0,encL_1,encL_2,encL_3,encL_4,encL_5,encL_6,encL_7,take_all,encT_len,Nat.mul_one,hlG,hbn,SB,Nat.reduceLT,callee,aOp,ne_eq,Nat.reduceEqDiff,aBin,aUn,if_true,if_false,reduceCtorEq,frame0,place,notTuple,Nat.reduceAdd,Nat.reduceLeDiff,resVal,dite_true,dite_false,Int.reduceEq,Int.reduceLT,Int.reduceLE]
  exact hQ _ (Ext.refl.app.chg) ((Ext.refl.app).cells hA)
 rw [if_neg hbn]
 have hnx:=fun (H:Heap) (mp:Bool) (lim:Nat) (Q:Value→Heap→Prop)=>next_ok (mp:=mp) (lim:=lim) (H:=H) (Q:=Q) (l:=l) (r:=b) hf (by omega) (by omega)
 cases hx:nextD l b with
 | none=>
   rw [hx] at hnx
   simp only [Option.map_none,depV] at hnx
   refine ⟨ha,fun hQ=>runs' (by decide) e45 rfl ?_⟩
   rw [b45,c45]
   simp only [n45,r45,q1,q2,q3,q4,hj1,hj2,gb,ga,z1,z2,z3,z4,z5,z6,wr,encL_len,encL_0,encL_1,encL_2,encL_3,encL_4,encL_5,encL_6,encL_7,take_all,encT_len,Nat.mul_one,hlG,hbn,hnx,SB,Nat.reduceLT,callee,aOp,ne_eq,Nat.reduceEqDiff,aBin,aUn,if_true,if_false,reduceCtorEq,frame0,place,notTuple,Nat.reduceAdd,Nat.reduceLeDiff,resVal,dite_true,dite_false,Int.reduceEq,Int.reduceLT,Int.reduceLE]
   exact hQ _ (Ext.refl.app.chg) ((Ext.refl.app).cells hA)
 | some a=>
   rw [hx] at hnx
   simp only [Option.map_some,depV] at hnx
   obtain ⟨k1,k2,k3⟩:=nextD_arr hf hx
   unfold Fine at hf
   by_cases hlim:a+l.mins≤ready+86400
   ·have hstore:∀Q:Value→Heap→Prop,(∀G',Chg [A] G G'→hget G' A=.cells false (encT (aft.set y (a+l.mins)))→Q (.tuple #[]) G')→(c<0∨a+l.mins<c)→
      CallR E false lim 45 [.agg (encL l).toArray,.agg (encT bef).toArray,.pointer (some ⟨A,0,none⟩),.pointer (some ⟨B1,0,none⟩),.pointer (some ⟨B2,0,none⟩)] G Q:=by
     intro Q hQ hcc
     refine runs' (by decide) e45 rfl ?_
     rw [b45,c45]
     obtain ⟨G2,e2,h2,m2⟩:=mut_set (hget_alive hA) (.cells false (encT (aft.set y (a+l.mins))))
     by_cases hcn:c<0
     ·simp only [n45,r45,q1,q2,q3,q4,hj1,hj2,gb,ga,z1,z2,z3,z4,z5,z6,wr,encL_len,encL_0,encL_1,encL_2,encL_3,encL_4,encL_5,encL_6,encL_7,take_all,encT_len,Nat.mul_one,hlG,hbn,hnx,eq_true hlim,eq_true hcn,hlA,encT_set ha.1,e2,SB,Nat.reduceLT,callee,aOp,ne_eq,Nat.reduceEqDiff,aBin,aUn,if_true,if_false,reduceCtorEq,frame0,place,notTuple,Nat.reduceAdd,Nat.reduceLeDiff,resVal,dite_true,dite_false,Int.reduceEq,Int.reduceLT,Int.reduceLE]
      exact hQ _ ((Chg.refl.mut m2 (.inl (by simp))).app) ((Ext.refl.app).cells h2)
     ·have hc2:a+l.mins<c:=by omega
      simp only [n45,r45,q1,q2,q3,q4,hj1,hj2,gb,ga,z1,z2,z3,z4,z5,z6,wr,encL_len,encL_0,encL_1,encL_2,encL_3,encL_4,encL_5,encL_6,encL_7,take_all,encT_len,Nat.mul_one,hlG,hbn,hnx,eq_true hlim,eq_false hcn,eq_true hc2,hlA,encT_set ha.1,e2,SB,Nat.reduceLT,callee,aOp,ne_eq,Nat.reduceEqDiff,aBin,aUn,if_true,if_false,reduceCtorEq,frame0,place,notTuple,Nat.reduceAdd,Nat.reduceLeDiff,resVal,dite_true,dite_false,Int.reduceEq,Int.reduceLT,Int.reduceLE]
      exact hQ _ ((Chg.refl.mut m2 (.inl (by simp))).app) ((Ext.refl.app).cells h2)
    by_cases hcc:c<0∨a+l.mins<c
    ·simp only [if_pos (And.intro hlim hcc)]
     exact ⟨okT_set ha (by omega),fun hQ=>hstore _ hQ hcc⟩
    ·simp only [if_neg (fun h:_∧_=>hcc h.2)]
     refine ⟨ha,fun hQ=>runs' (by decide) e45 rfl ?_⟩
     rw [b45,c45]
     have hcn:¬c<0:=fun h=>hcc (.inl h)
     have hc2:¬a+l.mins<c:=fun h=>hcc (.inr h)
     simp only [n45,r45,q1,q2,q3,q4,hj1,hj2,gb,ga,z1,z2,z3,z4,z5,z6,wr,encL_len,encL_0,encL_1,encL_2,encL_3,encL_4,encL_5,encL_6,encL_7,take_all,encT_len,Nat.mul_one,hlG,hbn,hnx,eq_true hlim,eq_false hcn,eq_false hc2,SB,Nat.reduceLT,callee,aOp,ne_eq,Nat.reduceEqDiff,aBin,aUn,if_true,if_false,reduceCtorEq,frame0,place,notTuple,Nat.reduceAdd,Nat.reduceLeDiff,resVal,dite_true,dite_false,Int.reduceEq,Int.reduceLT,Int.reduceLE]
     exact hQ _ (Ext.refl.app.chg) ((Ext.refl.app).cells hA)
   ·simp only [if_neg (fun h:_∧_=>hlim h.1)]
    refine ⟨ha,fun hQ=>runs' (by decide) e45 rfl ?_⟩
    rw [b45,c45]
    simp only [n45,r45,q1,q2,q3,q4,hj1,hj2,gb,ga,z1,z2,z3,z4,z5,z6,wr,encL_len,encL_0,encL_1,encL_2,encL_3,encL_4,encL_5,encL_6,encL_7,take_all,encT_len,Nat.mul_one,hlG,hbn,hnx,eq_false hlim,SB,Nat.reduceLT,callee,aOp,ne_eq,Nat.reduceEqDiff,aBin,aUn,if_true,if_false,reduceCtorEq,frame0,place,notTuple,Nat.reduceAdd,Nat.reduceLeDiff,resVal,dite_true,dite_false,Int.reduceEq,Int.reduceLT,Int.reduceLE]
    exact hQ _ (Ext.refl.app.chg) ((Ext.refl.app).cells hA)
theorem arrivals_ok [OB] {lim R:Nat} {pp pl:Option Addr} {P:List Int} {L:List Leg} {cp cl:Nat} {p ready:Int} {H:Heap} {Q:Value→Heap→Prop} (hn:NetIn H pp pl P L) (hv:validN P L=0) (hm:hget H R=.map (posV P)) (hp:p∈P) (hr:0≤ready) (hr2:ready≤maxTime) (hlim:lim≤H.length)
  (hQ:∀H' q cap n,Chg [] H H'→arrK 50 (posN P) (ready+86400) L p ready (n+1)=arrK 50 (posN P) (ready+86400) L p ready n→(∀k,k<n→arrK 50 (posN P) (ready+86400) L p ready (k+1)≠arrK 50 (posN P) (ready+86400) L p ready k)→n<2 ^ 30→
   Own1 H.length H' encT 50 q cap ((List.range (n+1)).map (arrK 50 (posN P) (ready+86400) L p ready))→Q (.slice q (n+1) cap) H') :
  CallR E false lim 20 [.agg (netV pp P.length cp pl L.length cl).toArray,.map (some R),.int .i64 p,.int .i64 ready] H Q:=by
 have hno:=valid_net hv
 obtain ⟨v1,v2,v3,v4⟩:=validN_0 hv
 refine runs' (by decide) e20 rfl ?_
 rw [b20,c20]
 obtain ⟨j1,hj1⟩:=pos_yes (i:=0) hp
 have hi:posN P p<50:=hno.lt _ hp
 change findKey _ _ _=some (some (j1,.int .i64 (posN P p:Int))) at hj1
 have q3:∀X,hget (H++X) R=.map (posV P):=fun X=>by rw [hget_old (hget_alive' hm)];exact hm
 have h67:=fun (H:Heap) (mp:Bool) (lim:Nat) (Q:Value→Heap→Prop)=>one_ok (mp:=mp) (lim:=lim) (H:=H) (Q:=Q) (i:=posN P p) (t:=ready) hi
 simp only [n20,r20,netV_len,netV_0,netV_1,q3,hj1,h67,SB,Nat.reduceLT,callee,aOp,ne_eq,Nat.reduceEqDiff,aBin,aUn,if_true,if_false,reduceCtorEq,frame0,place,notTuple,Nat.reduceAdd,Nat.reduceLeDiff,resVal,dite_true,dite_false,Int.reduceEq,Int.reduceLT,Int.reduceLE]
 obtain ⟨n,hn1,hn2,hn3⟩:=arr_rest (lim:=ready+86400) hno hp hr (by omega)
 have hrnd:∀k,rndF (useA (posN P) (ready+86400)) L (oneT 50 (posN P p) ready) k=arrK 50 (posN P) (ready+86400) L p ready k:=fun k=>rnd_arr k
 unfold maxTime at hr2
 refine rounds_ok (n0:=n) (arrive_use (R:=R) (P:=P) (ready:=ready) hno hget_new hget_new (q3 _) hr (by unfold maxTime;omega)) (okT_one hi (by unfold maxTime;omega)) (hn.sl.app _) (by omega) (by simp;omega) (by rw [hrnd,hrnd];exact hn2) (fun k hk=>by rw [hrnd,hrnd];exact hn3 k hk) (by omega) fun H' q cap hC hO=>?_
 rw [funext hrnd] at hO
 refine Ret_pad ?_
 simp only [n20,r20,SB,Nat.reduceLT,callee,aOp,ne_eq,Nat.reduceEqDiff,aBin,aUn,if_true,if_false,reduceCtorEq,frame0,place,notTuple,Nat.reduceAdd,Nat.reduceLeDiff,resVal,dite_true,dite_false,Int.reduceEq,Int.reduceLT,Int.reduceLE]
 rw [List.append_nil]
 refine hQ H' q cap n hC.pre hn2 hn3 (by omega) ?_
 rcases hO with hO | ⟨R',k1,k2,k3,k4,k5⟩
 ·exact .inl (hO.le (by simp))
 ·exact .inr ⟨R',k1,k2,k3,k4,by simp at k5;omega⟩
theorem clone_ok [OB] {lim c:Nat} {p:Option Addr} {l:List Int} {H:Heap} {Q:Value→Heap→Prop} (hs:Sl H encI 1 p l) (hn:l≠[]) (hl:l.length<2 ^ 40)
  (hQ:∀H' q,Ext H H'→Own H.length H' encI 1 q (loose 1) l→Q (.slice q l.length (loose 1)) H') :
  CallR E false lim 21 [.slice p l.length c] H Q:=by
 refine runs' (by decide) e21 rfl ?_
 rw [b21,c21]
 obtain ⟨a,rfl⟩:=hs.some hn
 have ha:=append_newN (lim:=lim) (b:=H.length) (e:=1) (bytes:=8) (c:=c) (H:=H++[.cells false []]) (enc:=encI) (p:=some a) (l:=l) hget_new0 (hs.app _) (by decide) (by unfold maxBytes;omega) (by omega) hn
 have hneq:aEq .slice (.slice (some a) l.length c) (.slice none 0 0)=some false:=rfl
 simp only [n21,r21,hneq,ha,SB,Nat.reduceLT,callee,aOp,ne_eq,Nat.reduceEqDiff,aBin,aUn,if_true,if_false,reduceCtorEq,frame0,place,notTuple,Nat.reduceAdd,Nat.reduceLeDiff,resVal,dite_true,dite_false,Int.reduceEq,Int.reduceLT,Int.reduceLE]
 refine hQ _ _ Ext.refl.app (Own.new ?_ (by omega))
 rw [hget_new];rfl
theorem sl_take {H:Heap} {A:Nat} {T:List Int} {n:Nat} (hA:hget H A=.cells false (encT T)) (hT:T.length=50) (hn:n≤50):Sl H encI 1 (some ⟨A,0,none⟩) (T.take n):=by
 have:Sl H encI 1 (some ⟨A,0,none⟩) (T.take n++T.drop n):=by
  rw [List.take_append_drop]
  refine Sl.row encI_len (ro:=false) ?_
  rw [hA,encT_eq hT]
  congr 1
  clear hA hT
  induction T with
  | nil=>rfl
  | cons x T ih=>rw [List.map_cons,List.flatMap_cons,ih];rfl
 exact this.pre encI_len
theorem Arrive_ok [OB] {lim:Nat} {pp pl:Option Addr} {P:List Int} {L:List Leg} {cp cl:Nat} {p ready:Int} {H:Heap} {Q:Value→Heap→Prop} (hn:NetIn H pp pl P L) (hlim:lim≤H.length)
  (hbad:∀H',errA P L p p ready≠0→Chg [] H H'→Q (.tuple #[.slice none 0 0,.int .i64 (errA P L p p ready)]) H')
  (hok:∀H' q T,errA P L p p ready=0→Chg [] H H'→arrL P L p ready T→Own H.length H' encI 1 q (loose 1) T→T.length=P.length→Q (.tuple #[.slice q P.length (loose 1),.int .i64 0]) H') :
  CallR E false lim 9 [.agg (netV pp P.length cp pl L.length cl).toArray,.int .i64 p,.int .i64 ready] H Q:=by
 refine runs' (by decide) e9 rfl ?_
 rw [b9,c9]
 simp only [n9,r9,netV_len,netV_0,netV_1,take_all,SB,Nat.reduceLT,callee,aOp,ne_eq,Nat.reduceEqDiff,aBin,aUn,if_true,if_false,reduceCtorEq,frame0,place,notTuple,Nat.reduceAdd,Nat.reduceLeDiff,resVal,dite_true,dite_false,Int.reduceEq,Int.reduceLT,Int.reduceLE]
 refine allowed_ok (hn.app _) (by simp;omega) (fun H' he hE=>?_) (fun H' R he hE hm hR=>?_)
 ·refine Ret_pad ?_
  simp only [n9,r9,he,eq_false he,SB,Nat.reduceLT,callee,aOp,ne_eq,Nat.reduceEqDiff,aBin,aUn,if_true,if_false,reduceCtorEq,frame0,place,notTuple,Nat.reduceAdd,Nat.reduceLeDiff,resVal,dite_true,dite_false,Int.reduceEq,Int.reduceLT,Int.reduceLE]
  exact hbad _ he (hE.chg.pre.app)
 ·obtain ⟨hv,hp,_,hr,hr2⟩:=errA_0 he
  obtain ⟨v1,v2,v3,v4⟩:=validN_0 hv
  have hlE:=hE.len
  simp only [List.length_append,List.length_cons,List.length_nil] at hlE hR
  have hnet:hget H' H.length=.cells false (netV pp P.length cp pl L.length cl):=hE.cells hget_new0
  have hnX:=fun X=>(Ext.refl.app (X:=X)).cells hnet
  refine Ret_pad ?_
  simp only [n9,r9,hnX,netV_len,netV_0,netV_1,take_all,SB,Nat.reduceLT,callee,aOp,ne_eq,Nat.reduceEqDiff,aBin,aUn,if_true,if_false,reduceCtorEq,frame0,place,notTuple,Nat.reduceAdd,Nat.reduceLeDiff,resVal,dite_true,dite_false,Int.reduceEq,Int.reduceLT,Int.reduceLE]
  rw [List.append_nil]
  have hEH:Ext H H':=by obtain ⟨Y,rfl⟩:=hE;rw [List.append_assoc];exact Ext.refl.app
  refine arrivals_ok (hn.ext hEH) hv hm hp hr hr2 (by omega) fun H2 q cap n hC hfix hno hnn hO=>?_
  have hl2:=hC.len
  have hlen:((List.range (n+1)).map (arrK 50 (posN P) (ready+86400) L p ready)).length=n+1:=by simp
  have hgt:gt ((List.range (n+1)).map (arrK 50 (posN P) (ready+86400) L p ready)) n=arrK 50 (posN P) (ready+86400) L p ready n:=by
   rw [gt_lt (by rw [hlen];omega)];simp
  have hS:=hO.sl encT_len
  have hld:=fun X=>(hS.app X).loadCells encT_len (i:=n) (by rw [hlen];omega)
  have hidx:=fun c (kk:IntKind) (H1:Heap)=>hS.idx (c:=c) (k:=kk) (H1:=H1) (i:=n) (by rw [hlen];omega)
  rw [hlen] at hidx
  rw [hgt] at hld
  have hw1:IntKind.i64.wrap (((n+1:Nat):Int)-1)=(n:Int):=by rw [wrap_id (by omega) (by omega)];omega
  have hnX2:=fun X=>(Ext.refl.app (X:=X)).cells (hC.cells hnet (by simp))
  have hPl:0<P.length:=List.length_pos_of_mem hp
  have hcut:∀b:Nat,sliceAV 50 1 (.pointer (some ⟨b,0,none⟩)) none (some (.int .i64 (P.length:Int))) none=some (.slice (some ⟨b,0,none⟩) P.length 50):=fun b=>by
   have:=sliceAV_cut (n:=50) (e:=1) (a:=⟨b,0,none⟩) (lo:=0) (hi:=P.length) (vlo:=none) (vhi:=some (.int .i64 (P.length:Int))) (by rw [bv_010 (by omega) (by omega),Int.toNat_natCast]) (by decide) (by decide)
   rw [this];simp [addr_add]
  refine Ret_pad ?_
  simp only [n9,r9,hnX2,hidx,hld,hw1,netV_len,netV_0,netV_1,zz50,encT_len,take_all,setAll_full,List.length_replicate,show lim≤H2.length by omega,hcut,SB,Nat.reduceLT,callee,aOp,ne_eq,Nat.reduceEqDiff,aBin,aUn,if_true,if_false,reduceCtorEq,frame0,place,notTuple,Nat.reduceAdd,Nat.reduceLeDiff,resVal,dite_true,dite_false,Int.reduceEq,Int.reduceLT,Int.reduceLE]
  have hTl:(arrK 50 (posN P) (ready+86400) L p ready n).length=50:=arrK_len
  have htl:((arrK 50 (posN P) (ready+86400) L p ready n).take P.length).length=P.length:=by rw [List.length_take,hTl];omega
  have hcl:=fun Q=>clone_ok (Q:=Q) (lim:=lim) (c:=50) (p:=some ⟨H2.length,0,none⟩) (l:=(arrK 50 (posN P) (ready+86400) L p ready n).take P.length) (H:=H2++[.cells false (encT (arrK 50 (posN P) (ready+86400) L p ready n))]) (sl_take hget_new0 hTl v1) (fun h=>by rw [h] at htl;simp at htl;omega) (by rw [htl];omega)
  rw [htl] at hcl
  refine hcl _ fun H3 q3 hE3 hO3=>?_
  refine Ret_pad ?_
  simp only [n9,r9,SB,Nat.reduceLT,callee,aOp,ne_eq,Nat.reduceEqDiff,aBin,aUn,if_true,if_false,reduceCtorEq,frame0,place,notTuple,Nat.reduceAdd,Nat.reduceLeDiff,resVal,dite_true,dite_false,Int.reduceEq,Int.reduceLT,Int.reduceLE]
  refine hok _ _ _ he ?_ (arr_all (valid_net hv) v1 hp hr hfix) ((hO3.le (by simp;omega)).app _) htl
  exact (((hEH.chg).trans hC).trans (hE3.chg.pre)).app
theorem leave_use [OB] {lim B1 B2 R:Nat} {o1 o2:Bool} {P:List Int} {L:List Leg} {dl:Int} {H:Heap} (hn:NetOk 50 P L (posN P)) (h1:hget H B1=.cells o1 [.map (some R)]) (h2:hget H B2=.cells o2 [.int .i64 dl]) (hm:hget H R=.map (posV P)) (hr:0≤dl) (hr2:dl≤maxTime) :
  UseOk H lim 24 (.pointer (some ⟨B1,0,none⟩)) (.pointer (some ⟨B2,0,none⟩)) (useB (posN P) (dl-86400)) L:=by
 intro G A bef aft l Q hl hb ha hE hlA hHA hlG hA
 have hf:=hn.fine l hl
 have i1:posN P l.frm<50:=hn.lt _ (hn.frm l hl)
 have i2:posN P l.dst<50:=hn.lt _ (hn.dst l hl)
 obtain ⟨j1,hj1⟩:=pos_yes (i:=0) (hn.frm l hl)
 obtain ⟨j2,hj2⟩:=pos_yes (i:=0) (hn.dst l hl)
 change findKey _ _ _=some (some (j1,.int .i64 (posN P l.frm:Int))) at hj1
 change findKey _ _ _=some (some (j2,.int .i64 (posN P l.dst:Int))) at hj2
 have hbr:=hb.2 (posN P l.dst)
 have har:=ha.2 (posN P l.frm)
 have gb:=encT_get hb.1 i2
 have ga:=encT_get ha.1 i1
 have q1:=fun X=>(Ext.refl.app (X:=X)).cells (hE.cells h1 (by simp))
 have q2:=fun X=>(Ext.refl.app (X:=X)).cells (hE.cells h2 (by simp))
 have hmG:=hE.get hm (hget_alive' hm) (by simp)
 have q3:∀X,hget (G++X) R=.map (posV P):=fun X=>by rw [hget_old (hget_alive' hmG)];exact hmG
 have q4:=fun X=>(Ext.refl.app (X:=X)).cells hA
 have z1:(0:Int)≤(posN P l.frm:Int):=by omega
 have z2:(0:Int)≤(posN P l.dst:Int):=by omega
 have z3:(posN P l.frm:Int)<50:=by omega
 have z4:(posN P l.dst:Int)<50:=by omega
 have z5:posN P l.dst≤49:=by omega
 have z6:posN P l.frm≤49:=by omega
 have wr:IntKind.i64.wrap (dl-86400)=dl-86400:=by unfold maxTime at hr2;exact wrap_id (by omega) (by omega)
 unfold useB
 generalize posN P l.frm=x at *
 generalize posN P l.dst=y at *
 generalize bef.getD y (-1)=b at *
 generalize hc:aft.getD x (-1)=c at *
 unfold maxTime at hbr har hr2
 by_cases hbn:b<0
 ·rw [if_pos hbn]
  refine ⟨ha,fun hQ=>runs' (by decide) e24 rfl ?_⟩
  rw [b24,c24]
  simp only [n24,r24,q1,q2,q3,q4,hj1,hj2,gb,ga,z1,z2,z3,z4,z5,z6,wr,encL_len,encL_0,encL_1,encL_2,encL_3,encL_4,encL_5,encL_6,encL_7,take_all,encT_len,Nat.mul_one,hlG,hbn,SB,Nat.reduceLT,callee,aOp,ne_eq,Nat.reduceEqDiff,aBin,aUn,if_true,if_false,reduceCtorEq,frame0,place,notTuple,Nat.reduceAdd,Nat.reduceLeDiff,resVal,dite_true,dite_false,Int.reduceEq,Int.reduceLT,Int.reduceLE]
  exact hQ _ (Ext.refl.app.chg) ((Ext.refl.app).cells hA)
 rw [if_neg hbn]
 have hnx:=fun (H:Heap) (mp:Bool) (lim:Nat) (Q:Value→Heap→Prop)=>last_ok (mp:=mp) (lim:=lim) (H:=H) (Q:=Q) (l:=l) (r:=b) hf (by omega) (by omega)
 cases hx:lastD l b with
 | none=>
   rw [hx] at hnx
   simp only [Option.map_none,depV] at hnx
   refine ⟨ha,fun hQ=>runs' (by decide) e24 rfl ?_⟩
   rw [b24,c24]
   simp only [n24,r24,q1,q2,q3,q4,hj1,hj2,gb,ga,z1,z2,z3,z4,z5,z6,wr,encL_len,encL_0,encL_1,encL_2,encL_3,encL_4,encL_5,encL_6,encL_7,take_all,encT_len,Nat.mul_one,hlG,hbn,hnx,SB,Nat.reduceLT,callee,aOp,ne_eq,Nat.reduceEqDiff,aBin,aUn,if_true,if_false,reduceCtorEq,frame0,place,notTuple,Nat.reduceAdd,Nat.reduceLeDiff,resVal,dite_true,dite_false,Int.reduceEq,Int.reduceLT,Int.reduceLE]
   exact hQ _ (Ext.refl.app.chg) ((Ext.refl.app).cells hA)
 | some a=>
   rw [hx] at hnx
   simp only [Option.map_some,depV] at hnx
   obtain ⟨k1,k2,k3,k4⟩:=lastD_dep hf hx
   have hF:=hf
   unfold Fine at hf
   have wc:IntKind.i64.wrap (a-l.cut)=a-l.cut:=wrap_id (by omega) (by unfold maxTime at k3;omega)
   by_cases hlim:dl-86400≤a-l.cut
   ·by_cases hcc:c<a-l.cut
    ·simp only [if_pos (And.intro hlim hcc)]
     refine ⟨okT_set ha (by unfold maxTime at *;omega),fun hQ=>runs' (by decide) e24 rfl ?_⟩
     rw [b24,c24]
     obtain ⟨G2,e2,h2,m2⟩:=mut_set (hget_alive hA) (.cells false (encT (aft.set x (a-l.cut))))
     simp only [n24,r24,q1,q2,q3,q4,hj1,hj2,gb,ga,z1,z2,z3,z4,z5,z6,wr,encL_len,encL_0,encL_1,encL_2,encL_3,encL_4,encL_5,encL_6,encL_7,take_all,encT_len,Nat.mul_one,hlG,hbn,hnx,wc,eq_true hlim,eq_true hcc,hlA,encT_set ha.1,e2,SB,Nat.reduceLT,callee,aOp,ne_eq,Nat.reduceEqDiff,aBin,aUn,if_true,if_false,reduceCtorEq,frame0,place,notTuple,Nat.reduceAdd,Nat.reduceLeDiff,resVal,dite_true,dite_false,Int.reduceEq,Int.reduceLT,Int.reduceLE]
     exact hQ _ ((Chg.refl.mut m2 (.inl (by simp))).app) ((Ext.refl.app).cells h2)
    ·simp only [if_neg (fun h:_∧_=>hcc h.2)]
     refine ⟨ha,fun hQ=>runs' (by decide) e24 rfl ?_⟩
     rw [b24,c24]
     simp only [n24,r24,q1,q2,q3,q4,hj1,hj2,gb,ga,z1,z2,z3,z4,z5,z6,wr,encL_len,encL_0,encL_1,encL_2,encL_3,encL_4,encL_5,encL_6,encL_7,take_all,encT_len,Nat.mul_one,hlG,hbn,hnx,wc,eq_true hlim,eq_false hcc,SB,Nat.reduceLT,callee,aOp,ne_eq,Nat.reduceEqDiff,aBin,aUn,if_true,if_false,reduceCtorEq,frame0,place,notTuple,Nat.reduceAdd,Nat.reduceLeDiff,resVal,dite_true,dite_false,Int.reduceEq,Int.reduceLT,Int.reduceLE]
     exact hQ _ (Ext.refl.app.chg) ((Ext.refl.app).cells hA)
   ·simp only [if_neg (fun h:_∧_=>hlim h.1)]
    refine ⟨ha,fun hQ=>runs' (by decide) e24 rfl ?_⟩
    rw [b24,c24]
    simp only [n24,r24,q1,q2,q3,q4,hj1,hj2,gb,ga,z1,z2,z3,z4,z5,z6,wr,encL_len,encL_0,encL_1,encL_2,encL_3,encL_4,encL_5,encL_6,encL_7,take_all,encT_len,Nat.mul_one,hlG,hbn,hnx,wc,eq_false hlim,SB,Nat.reduceLT,callee,aOp,ne_eq,Nat.reduceEqDiff,aBin,aUn,if_true,if_false,reduceCtorEq,frame0,place,notTuple,Nat.reduceAdd,Nat.reduceLeDiff,resVal,dite_true,dite_false,Int.reduceEq,Int.reduceLT,Int.reduceLE]
    exact hQ _ (Ext.refl.app.chg) ((Ext.refl.app).cells hA)
theorem Leave_ok [OB] {lim:Nat} {pp pl:Option Addr} {P:List Int} {L:List Leg} {cp cl:Nat} {p dl:Int} {H:Heap} {Q:Value→Heap→Prop} (hn:NetIn H pp pl P L) (hlim:lim≤H.length)
  (hbad:∀H',errA P L p p dl≠0→Chg [] H H'→Q (.tuple #[.slice none 0 0,.int .i64 (errA P L p p dl)]) H')
  (hok:∀H' q T,errA P L p p dl=0→Chg [] H H'→latL P L p dl T→Own H.length H' encI 1 q (loose 1) T→T.length=P.length→Q (.tuple #[.slice q P.length (loose 1),.int .i64 0]) H') :
  CallR E false lim 12 [.agg (netV pp P.length cp pl L.length cl).toArray,.int .i64 p,.int .i64 dl] H Q:=by
 refine runs' (by decide) e12 rfl ?_
 rw [b12,c12]
 simp only [n12,r12,netV_len,netV_0,netV_1,take_all,SB,Nat.reduceLT,callee,aOp,ne_eq,Nat.reduceEqDiff,aBin,aUn,if_true,if_false,reduceCtorEq,frame0,place,notTuple,Nat.reduceAdd,Nat.reduceLeDiff,resVal,dite_true,dite_false,Int.reduceEq,Int.reduceLT,Int.reduceLE]
 refine allowed_ok (hn.app _) (by simp;omega) (fun H' he hE=>?_) (fun H' R he hE hm hR=>?_)
 ·refine Ret_pad ?_
  have hl:=hE.len
  simp at hl
  simp only [n12,r12,he,eq_false he,show lim≤H'.length by omega,SB,Nat.reduceLT,callee,aOp,ne_eq,Nat.reduceEqDiff,aBin,aUn,if_true,if_false,reduceCtorEq,frame0,place,notTuple,Nat.reduceAdd,Nat.reduceLeDiff,resVal,dite_true,dite_false,Int.reduceEq,Int.reduceLT,Int.reduceLE]
  exact hbad _ he (hE.chg.pre.app)
 ·obtain ⟨hv,hp,_,hr,hr2⟩:=errA_0 he
  obtain ⟨v1,v2,v3,v4⟩:=validN_0 hv
  have hlE:=hE.len
  simp only [List.length_append,List.length_cons,List.length_nil] at hlE hR
  have hnet:hget H' H.length=.cells false (netV pp P.length cp pl L.length cl):=hE.cells hget_new0
  have hdl:hget H' (H.length+1)=.cells false [.int .i64 dl]:=hE.cells hget_new
  have hnX:=fun X=>(Ext.refl.app (X:=X)).cells hnet
  have hdX:=fun X=>(Ext.refl.app (X:=X)).cells hdl
  have hno:=valid_net hv
  obtain ⟨j1,hj1⟩:=pos_yes (i:=0) hp
  have hi:posN P p<50:=hno.lt _ hp
  change findKey _ _ _=some (some (j1,.int .i64 (posN P p:Int))) at hj1
  have q3:∀X,hget (H'++X) R=.map (posV P):=fun X=>by rw [hget_old (hget_alive' hm)];exact hm
  have h67:=fun (H:Heap) (mp:Bool) (lim:Nat) (Q:Value→Heap→Prop)=>one_ok (mp:=mp) (lim:=lim) (H:=H) (Q:=Q) (i:=posN P p) (t:=dl) hi
  refine Ret_pad ?_
  simp only [n12,r12,hnX,hdX,netV_len,netV_0,netV_1,take_all,q3,hj1,h67,show lim≤H'.length by omega,SB,Nat.reduceLT,callee,aOp,ne_eq,Nat.reduceEqDiff,aBin,aUn,if_true,if_false,reduceCtorEq,frame0,place,notTuple,Nat.reduceAdd,Nat.reduceLeDiff,resVal,dite_true,dite_false,Int.reduceEq,Int.reduceLT,Int.reduceLE]
  have hEH:Ext H H':=by obtain ⟨Y,rfl⟩:=hE;rw [List.append_assoc];exact Ext.refl.app
  obtain ⟨n,hn1,hn2,hn3⟩:=lat_rest (low:=dl-86400) hno hp hr (by omega)
  have hrnd:∀k,rndF (useB (posN P) (dl-86400)) L (oneT 50 (posN P p) dl) k=latK 50 (posN P) (dl-86400) L p dl k:=fun k=>rnd_lat k
  unfold maxTime at hr2
  refine rounds_ok (n0:=n) (leave_use (R:=R) (P:=P) (dl:=dl) (B2:=H.length+1) hno hget_new0 (hdX _) (q3 _) hr (by unfold maxTime;omega)) (okT_one hi (by unfold maxTime;omega)) ((hn.ext hEH).sl.app _) (by omega) (by simp;omega) (by rw [hrnd,hrnd];exact hn2) (fun k hk=>by rw [hrnd,hrnd];exact hn3 k hk) (by omega) fun H2 q cap hC hO=>?_
  rw [funext hrnd] at hO
  have hl2:=hC.len
  simp only [List.length_append,List.length_cons,List.length_nil] at hl2
  have hlen:((List.range (n+1)).map (latK 50 (posN P) (dl-86400) L p dl)).length=n+1:=by simp
  have hgt:gt ((List.range (n+1)).map (latK 50 (posN P) (dl-86400) L p dl)) n=latK 50 (posN P) (dl-86400) L p dl n:=by
   rw [gt_lt (by rw [hlen];omega)];simp
  have hS:=hO.sl encT_len
  have hld:=fun X=>(hS.app X).loadCells encT_len (i:=n) (by rw [hlen];omega)
  have hidx:=fun c (kk:IntKind) (H1:Heap)=>hS.idx (c:=c) (k:=kk) (H1:=H1) (i:=n) (by rw [hlen];omega)
  rw [hlen] at hidx
  rw [hgt] at hld
  have hw1:IntKind.i64.wrap (((n+1:Nat):Int)-1)=(n:Int):=by rw [wrap_id (by omega) (by omega)];omega
  have hnX2:=fun X=>(Ext.refl.app (X:=X)).cells (hC.cells (hnX _) (by simp))
  have hPl:0<P.length:=List.length_pos_of_mem hp
  have hcut:∀b:Nat,sliceAV 50 1 (.pointer (some ⟨b,0,none⟩)) none (some (.int .i64 (P.length:Int))) none=some (.slice (some ⟨b,0,none⟩) P.length 50):=fun b=>by
   have:=sliceAV_cut (n:=50) (e:=1) (a:=⟨b,0,none⟩) (lo:=0) (hi:=P.length) (vlo:=none) (vhi:=some (.int .i64 (P.length:Int))) (by rw [bv_010 (by omega) (by omega),Int.toNat_natCast]) (by decide) (by decide)
   rw [this];simp [addr_add]
  refine Ret_pad ?_
  simp only [n12,r12,hnX2,hidx,hld,hw1,netV_len,netV_0,netV_1,zz50,encT_len,take_all,setAll_full,List.length_replicate,show lim≤H2.length by omega,hcut,SB,Nat.reduceLT,callee,aOp,ne_eq,Nat.reduceEqDiff,aBin,aUn,if_true,if_false,reduceCtorEq,frame0,place,notTuple,Nat.reduceAdd,Nat.reduceLeDiff,resVal,dite_true,dite_false,Int.reduceEq,Int.reduceLT,Int.reduceLE]
  have hTl:(latK 50 (posN P) (dl-86400) L p dl n).length=50:=latK_len
  have htl:((latK 50 (posN P) (dl-86400) L p dl n).take P.length).length=P.length:=by rw [List.length_take,hTl];omega
  have hcl:=fun Q=>clone_ok (Q:=Q) (lim:=lim) (c:=50) (p:=some ⟨H2.length,0,none⟩) (l:=(latK 50 (posN P) (dl-86400) L p dl n).take P.length) (H:=H2++[.cells false (encT (latK 50 (posN P) (dl-86400) L p dl n))]) (sl_take hget_new0 hTl v1) (fun h=>by rw [h] at htl;simp at htl;omega) (by rw [htl];omega)
  rw [htl] at hcl
  refine hcl _ fun H3 q3 hE3 hO3=>?_
  refine Ret_pad ?_
  simp only [n12,r12,SB,Nat.reduceLT,callee,aOp,ne_eq,Nat.reduceEqDiff,aBin,aUn,if_true,if_false,reduceCtorEq,frame0,place,notTuple,Nat.reduceAdd,Nat.reduceLeDiff,resVal,dite_true,dite_false,Int.reduceEq,Int.reduceLT,Int.reduceLE]
  refine hok _ _ _ he ?_ (lat_all (valid_net hv) v1 hp hr hn2) ((hO3.le (by simp;omega)).app _) htl
  exact (((hEH.chg).trans hC.pre).trans (hE3.chg.pre)).app
def placeN (P:List Int) (p:Int):Int:=if p∈P then (posN P p:Int) else -1
def greatN (P:List Int) (L:List Leg):Bool:=decide (260<P.length∨260<L.length)||decide ((9<P.length∨16<L.length)∧validN P L=0)
def fitsP (P:List Int) (L:List Leg) (a b t:Int):Prop:=greatN P L=false∧validN P L=0∧a∈P∧b∈P∧0≤t∧t≤maxTime
instance (P:List Int) (L:List Leg) (a b t:Int):Decidable (fitsP P L a b t):=by unfold fitsP;infer_instance
theorem placeN_nn {P:List Int} {p:Int}:0≤placeN P p↔p∈P:=by
 unfold placeN;split
 ·rename_i h;exact ⟨fun _=>h,fun _=>by omega⟩
 ·rename_i h;exact ⟨fun hh=>by omega,fun hh=>absurd hh h⟩
theorem ld_ints {H:Heap} {q:Option Addr} {T:List Int} {i:Nat} (h:Sl H encI 1 q T) (hi:i<T.length):∀X,AM.loadCell (H++X) (elt q 1 i)=some (.int .i64 (gt T i)):=fun X=>by
 rw [(h.app X).loadCell0 encI_len hi (by decide)];rfl
theorem ix_ints {H:Heap} {q:Option Addr} {T:List Int} {i n:Nat} (h:Sl H encI 1 q T) (hi:i<n) (hT:T.length=n):∀(c:Nat) (k:IntKind) (H1:Heap),idxK 1 (.slice q n c) (.int k (i:Int)) H1=some (.pointer (some (elt q 1 i)),H1):=fun c k H1=>by
 subst hT;exact h.idx hi
theorem gt_getD {T:List Int} {i:Nat} (h:i<T.length):gt T i=T.getD i (-1):=by
 rw [gt_lt h,List.getD_eq_getElem?_getD,List.getElem?_eq_getElem h];rfl
theorem arr_le {L:List Leg} {p t q v:Int} (h:IsArr L p t q v) (ht:t≤maxTime) (h0:0≤t):v≤maxTime:=by
 rcases h with ⟨rfl,_⟩ | ⟨⟨⟨j,hw⟩,_⟩,_⟩
 ·omega
 ·cases hw with
  | nil=>exact ht
  | snoc _ hl _ hd _=>
    obtain ⟨d,hd1,hd2,rfl⟩:=hd
    unfold goes at hd2
    simp only [Bool.and_eq_true,decide_eq_true_eq] at hd2
    exact hd2.2
theorem goes_all {l:Leg} {d:Nat} (hl:l.days=127) (h1:0≤1440*(d:Int)+l.dep-l.cut) (h2:1440*(d:Int)+l.dep+l.mins≤maxTime):goes l d=true:=by
 have hr:Go.Net.runs l.days d=true:=by
  rw [hl]
  have:d % 7<7:=Nat.mod_lt _ (by decide)
  unfold Go.Net.runs
  generalize d % 7=m at this
  match m,this with
  | 0,_=>rfl
  | 1,_=>rfl
  | 2,_=>rfl
  | 3,_=>rfl
  | 4,_=>rfl
  | 5,_=>rfl
  | 6,_=>rfl
 unfold goes
 rw [hr,decide_eq_true h1,decide_eq_true h2];rfl
theorem nx {l:Leg} {t:Int} (d:Nat) (hl:l.days=127) (hd:d<730485) (h1:0≤1440*(d:Int)+l.dep-l.cut) (h2:1440*(d:Int)+l.dep+l.mins≤maxTime) (h3:t≤1440*(d:Int)+l.dep-l.cut) (h4:1440*((d:Int)-1)+l.dep-l.cut<t):nextD l t=some (1440*(d:Int)+l.dep):=
 nextD_is (by rw [dayN_eq];exact hd) (goes_all hl h1 h2) h3 fun d' hd' ⟨_,h⟩=>by omega
def opB (p:Option Addr):List Nat:=match p with
 | none=>[]
 | some a=>[a.block]
theorem Own.moreF {α:Type} {lim lim' e bytes cap:Nat} {G:Heap} {enc:α→List Value} {p:Option Addr} {l:List α} (h:Own lim G enc e p cap l) (hll:lim'≤lim) (he:∀x,(enc x).length=e) (he0:e≠0) (m:List α) (hm:m≠[]) (hb:(l.length+m.length)*bytes≤maxBytes) (hn:l.length+m.length<2 ^ 61)
  (X:Heap) {x:Value} {str:Bool} (h1:firstCells (G++X) e str x=some (m.flatMap enc)) (h2:lenOf x=some m.length) :
  ∃G2,aAppend lim' none e bytes str (.slice p l.length cap) x (G++X)=some (.slice (some ⟨(G++X).length,0,none⟩) (l.length+m.length) (loose e),G2++[])∧Own G.length G2 enc e (some ⟨(G++X).length,0,none⟩) (loose e) (l++m)∧Chg (opB p) G G2∧(G++X).length<G2.length:=by
 have hm0:¬m.length=0:=fun q=>hm (List.length_eq_zero_iff.1 q)
 rcases h with ⟨k1,k2,k3⟩ | ⟨R,k1,k2,k3,k4⟩
 ·subst k1 k2 k3
  refine ⟨G++(X++[.cells false (m.flatMap enc)]), ?_, ?_,Chg.refl.app,by simp⟩
  ·simp only [List.length_nil,Nat.zero_add] at hb hn⊢
   simp only [aAppend,h1,h2,hm0,if_false,Nat.zero_add]
   rw [if_neg (by omega)]
   simp [place]
  ·rw [List.nil_append]
   refine Own.new ?_ (by simp)
   rw [←List.append_assoc];exact hget_new0
 ·subst k1 k2
  have hRl:=hget_alive k3
  have hR':hget (G++X) R=.cells false (l.flatMap enc):=by rw [hget_old hRl];exact k3
  have hold:AM.loadCells (G++X) ⟨R,0,none⟩ (l.length*e)=some (l.flatMap enc):=by
   simp only [loadCells_lit,hR',Nat.zero_add,flat_len he,Nat.le_refl,if_true,List.drop_zero]
   rw [List.take_of_length_le (by rw [flat_len he];exact Nat.le_refl _)]
  have hmt:Mut G (G.set R .dead) R:=⟨by simp,fun j hj=>hget_set_ne hj⟩
  refine ⟨G.set R .dead++(X++[.cells false ((l++m).flatMap enc)]), ?_, ?_,(Chg.refl.mut hmt (.inl (by simp [opB]))).app,by simp⟩
  ·simp only [aAppend,h1,h2,hold,hR',hm0,if_false,if_true]
   rw [if_neg (by unfold loose;omega)]
   simp [show lim'≤R by omega,place,List.set_append_left _ _ hRl,List.append_assoc]
  ·refine Own.new ?_ (by simp)
   rw [←List.append_assoc,show (G++X).length=(G.set R .dead++X).length by simp];exact hget_new0
section
variable {G:Heap} {pp pl:Option Addr} {P:List Int} {L:List Leg}
theorem NetIn.sim {H:Heap} (h:NetIn H pp pl P L) (hk:∀b ro c,hget H b=.cells ro c→hget G b=.cells ro c):NetIn G pp pl P L:=⟨h.sp.sim hk,h.sl.sim hk,h.np,h.nl,h.bys⟩
end
def exaF (P:List Int) (L:List Leg) (T:List Int):Nat→List Int
 | 0=>T
 | k+1=>Go.Net.stepX 50 (posN P) L (exaF P L T k)
theorem exaF_exaK {P:List Int} {L:List Leg} {q dl:Int}:∀k,exaF P L (oneT 50 (posN P q) dl) k=exaK 50 (posN P) L q dl k
 | 0=>rfl
 | k+1=>by rw [exaF,exaK,exaF_exaK k]
theorem okT_rep:okT (List.replicate 50 (-1)):=⟨by simp,fun j=>by
 rw [List.getD_eq_getElem?_getD,List.getElem?_replicate];unfold maxTime;split<;>simp⟩
theorem useX_max {pos:Int→Nat} {bef aft:List Int} {l:Leg} {a:Int} (h0:¬bef.getD (pos l.dst) (-1)<0) (h:lastD l (bef.getD (pos l.dst) (-1))=some a):useX pos bef aft l=aft.set (pos l.frm) (max (aft.getD (pos l.frm) (-1)) (a-l.cut)):=by
 unfold useX
 rw [if_neg h0]
 simp only [h]
 congr 1
 split<;>omega
theorem latest_inner [OB] {lim R A10 A11:Nat} {pl:Option Addr} {P:List Int} {L:List Leg} {cl:Nat} {H G:Heap} {fr:Nat→Value} {K:List AItem} {Z:Value→Heap→Prop} {bef:List Int}
  (hno:NetOk 50 P L (posN P)) (hL:Sl H encL 8 pl L) (hnL:L.length<2 ^ 62) (hm:hget H R=.map (posV P)) (hlim:lim≤H.length) (hb:okT bef) (hE:Chg [] H G) (hA10:H.length≤A10) (hA11:H.length≤A11) (hne:A10≠A11) (h10:hget G A10=.cells false (encT bef)) (h11:hget G A11=.cells false (encT (List.replicate 50 (-1))))
  (f1:fr 1=.map (some R)) (f10:fr 10=.pointer (some ⟨A10,0,none⟩)) (f11:fr 11=.pointer (some ⟨A11,0,none⟩)) (f30:fr 30=.slice pl L.length cl) (f31:fr 31=.int .i64 (L.length:Int)) (f32:fr 32=.int .i64 0)
  (hR:∀fr' G',okT (Go.Net.stepX 50 (posN P) L bef)→Chg [A11] G G'→hget G' A11=.cells false (encT (Go.Net.stepX 50 (posN P) L bef))→fr' 1=fr 1→fr' 4=fr 4→fr' 9=fr 9→fr' 11=fr 11→fr' 19=fr 19→fr' 20=fr 20→Ret E a31 lim K fr' (G'++[]) Z) :
  Ret E a31 lim (.code (.loop l31_1)::.inBlock 2::K) fr G Z:=by
 refine Ret_rounds (fun i=>L.length-i) (fun i fr' G'=>i≤L.length∧fr' 1=.map (some R)∧fr' 4=fr 4∧fr' 9=fr 9∧fr' 10=.pointer (some ⟨A10,0,none⟩)∧fr' 11=.pointer (some ⟨A11,0,none⟩)∧fr' 19=fr 19∧fr' 20=fr 20∧fr' 30=.slice pl L.length cl∧fr' 31=.int .i64 (L.length:Int)∧fr' 32=.int .i64 (i:Int)∧
  Chg [A11] G G'∧okT ((L.take i).foldl (useX (posN P) bef) (List.replicate 50 (-1)))∧hget G' A11=.cells false (encT ((L.take i).foldl (useX (posN P) bef) (List.replicate 50 (-1))))) 0
  ⟨Nat.zero_le _,f1,rfl,rfl,f10,f11,rfl,rfl,f30,f31,f32,Chg.refl,okT_rep,h11⟩ ?_
 intro i fr' G' ⟨hi,g1,g4,g9,g10,g11,g19,g20,g30,g31,g32,hC,ha,h11'⟩ hN
 have hEG:Chg [] H G':=hE.trans' hC fun j h1 h2=>by simp only [List.mem_singleton] at h1;omega
 have hl:=hEG.len
 rw [Ret_code l31_1.eq_1]
 refine Ret_pad ?_
 by_cases hlt:i<L.length
 case neg=>
  obtain rfl:i=L.length:=by omega
  rw [List.take_length] at ha h11'
  simp only [n31,r31,g1,g10,g11,g30,g31,g32,hlt,SB,Nat.reduceLT,callee,aOp,ne_eq,Nat.reduceEqDiff,aBin,aUn,if_true,if_false,reduceCtorEq,frame0,place,notTuple,Nat.reduceAdd,Nat.reduceLeDiff,resVal,dite_true,dite_false,Int.reduceEq,Int.reduceLT,Int.reduceLE]
  exact hR _ _ ha hC h11' (by rw [f1];exact (by simp only [g1,FB,Nat.reduceEqDiff])) (by rw [←g4];exact (by simp only [FB,Nat.reduceEqDiff])) (by rw [←g9];exact (by simp only [FB,Nat.reduceEqDiff])) (by rw [f11];exact (by simp only [g11,FB,Nat.reduceEqDiff])) (by rw [←g19];exact (by simp only [FB,Nat.reduceEqDiff])) (by rw [←g20];exact (by simp only [FB,Nat.reduceEqDiff]))
 have hsl:=hEG.ext.sl hL
 have hld:=fun X=>(hsl.app X).loadCells encL_len hlt
 have hidx:=fun c (k:IntKind) (H1:Heap)=>hsl.idx (c:=c) (k:=k) (H1:=H1) hlt
 have hw1:IntKind.i64.wrap ((i:Int)+1)=((i+1:Nat):Int):=wrap_nat (by omega)
 have h10':=hC.cells h10 (by simpa using hne)
 have q1:=fun X=>(Ext.refl.app (X:=X)).cells h10'
 have q2:=fun X=>(Ext.refl.app (X:=X)).cells h11'
 have hmG:=hEG.get hm (hget_alive' hm) (by simp)
 have q3:∀X,hget (G'++X) R=.map (posV P):=fun X=>by rw [hget_old (hget_alive' hmG)];exact hmG
 have hlG:lim≤G'.length:=by omega
 have hlA:lim≤A11:=by omega
 have hin:=gt_mem hlt
 have hf:=hno.fine _ hin
 have i1:posN P (gt L i).frm<50:=hno.lt _ (hno.frm _ hin)
 have i2:posN P (gt L i).dst<50:=hno.lt _ (hno.dst _ hin)
 obtain ⟨j1,hj1⟩:=pos_yes (i:=0) (hno.frm _ hin)
 obtain ⟨j2,hj2⟩:=pos_yes (i:=0) (hno.dst _ hin)
 change findKey _ _ _=some (some (j1,.int .i64 (posN P (gt L i).frm:Int))) at hj1
 change findKey _ _ _=some (some (j2,.int .i64 (posN P (gt L i).dst:Int))) at hj2
 have hT:=foldl_take (f:=useX (posN P) bef) (b:=List.replicate 50 (-1)) hlt
 generalize (L.take i).foldl (useX (posN P) bef) (List.replicate 50 (-1))=aft at *
 have hbr:=hb.2 (posN P (gt L i).dst)
 have har:=ha.2 (posN P (gt L i).frm)
 have gb:=encT_get hb.1 i2
 have ga:=encT_get ha.1 i1
 have z1:(0:Int)≤(posN P (gt L i).frm:Int):=by omega
 have z2:(0:Int)≤(posN P (gt L i).dst:Int):=by omega
 have z3:(posN P (gt L i).frm:Int)<50:=by omega
 have z4:(posN P (gt L i).dst:Int)<50:=by omega
 have z5:posN P (gt L i).dst≤49:=by omega
 have z6:posN P (gt L i).frm≤49:=by omega
 by_cases hbn:bef.getD (posN P (gt L i).dst) (-1)<0
 ·have hu:useX (posN P) bef aft (gt L i)=aft:=by unfold useX;rw [if_pos hbn]
  rw [hu] at hT
  simp only [n31,r31,g1,g10,g11,g30,g31,g32,hlt,hld,hidx,hw1,q1,q2,q3,hj1,hj2,gb,ga,z1,z2,z3,z4,z5,z6,encL_len,encL_0,encL_1,encL_2,encL_3,encL_4,encL_5,encL_6,encL_7,take_all,encT_len,Nat.mul_one,hlG,setAll_full,hbn,SB,Nat.reduceLT,callee,aOp,ne_eq,Nat.reduceEqDiff,aBin,aUn,if_true,if_false,reduceCtorEq,frame0,place,notTuple,Nat.reduceAdd,Nat.reduceLeDiff,resVal,dite_true,dite_false,Int.reduceEq,Int.reduceLT,Int.reduceLE]
  exact hN (i+1) _ _ ⟨by omega,(by simp only [g1,FB,Nat.reduceEqDiff]),by rw [←g4];exact (by simp only [FB,Nat.reduceEqDiff]),by rw [←g9];exact (by simp only [FB,Nat.reduceEqDiff]),(by simp only [g10,FB,Nat.reduceEqDiff]),(by simp only [g11,FB,Nat.reduceEqDiff]),by rw [←g19];exact (by simp only [FB,Nat.reduceEqDiff]),by rw [←g20];exact (by simp only [FB,Nat.reduceEqDiff]),(by simp only [g30,FB,Nat.reduceEqDiff]),(by simp only [g31,FB,Nat.reduceEqDiff]),(by simp only [FB,Nat.reduceEqDiff]),hC.app,by rw [hT];exact ha,by rw [hT];exact (Ext.refl.app).cells h11'⟩ (by omega)
 unfold maxTime at hbr har
 have hnx:=fun (H:Heap) (mp:Bool) (lim:Nat) (Q:Value→Heap→Prop)=>last_ok (mp:=mp) (lim:=lim) (H:=H) (Q:=Q) (l:=gt L i) (r:=bef.getD (posN P (gt L i).dst) (-1)) hf (by omega) (by omega)
 cases hx:lastD (gt L i) (bef.getD (posN P (gt L i).dst) (-1)) with
 | none=>
   rw [hx] at hnx
   simp only [Option.map_none,depV] at hnx
   have hu:useX (posN P) bef aft (gt L i)=aft:=by unfold useX;rw [if_neg hbn];simp only [hx]
   rw [hu] at hT
   simp only [n31,r31,g1,g10,g11,g30,g31,g32,hlt,hld,hidx,hw1,q1,q2,q3,hj1,hj2,gb,ga,z1,z2,z3,z4,z5,z6,encL_len,encL_0,encL_1,encL_2,encL_3,encL_4,encL_5,encL_6,encL_7,take_all,encT_len,Nat.mul_one,hlG,setAll_full,hbn,hnx,SB,Nat.reduceLT,callee,aOp,ne_eq,Nat.reduceEqDiff,aBin,aUn,if_true,if_false,reduceCtorEq,frame0,place,notTuple,Nat.reduceAdd,Nat.reduceLeDiff,resVal,dite_true,dite_false,Int.reduceEq,Int.reduceLT,Int.reduceLE]
   exact hN (i+1) _ _ ⟨by omega,(by simp only [g1,FB,Nat.reduceEqDiff]),by rw [←g4];exact (by simp only [FB,Nat.reduceEqDiff]),by rw [←g9];exact (by simp only [FB,Nat.reduceEqDiff]),(by simp only [g10,FB,Nat.reduceEqDiff]),(by simp only [g11,FB,Nat.reduceEqDiff]),by rw [←g19];exact (by simp only [FB,Nat.reduceEqDiff]),by rw [←g20];exact (by simp only [FB,Nat.reduceEqDiff]),(by simp only [g30,FB,Nat.reduceEqDiff]),(by simp only [g31,FB,Nat.reduceEqDiff]),(by simp only [FB,Nat.reduceEqDiff]),hC.app,by rw [hT];exact ha,by rw [hT];exact (Ext.refl.app).cells h11'⟩ (by omega)
 | some a=>
   rw [hx] at hnx
   simp only [Option.map_some,depV] at hnx
   obtain ⟨k1,k2,k3,k4⟩:=lastD_dep hf hx
   unfold maxTime at k3
   have hu:=useX_max (aft:=aft) hbn hx
   rw [hu] at hT
   unfold Fine at hf
   have wc:IntKind.i64.wrap (a-(gt L i).cut)=a-(gt L i).cut:=wrap_id (by omega) (by omega)
   obtain ⟨G2,e2,h2,m2⟩:=mut_set (hget_alive h11') (.cells false (encT (aft.set (posN P (gt L i).frm) (max (aft.getD (posN P (gt L i).frm) (-1)) (a-(gt L i).cut)))))
   simp only [n31,r31,g1,g10,g11,g30,g31,g32,hlt,hld,hidx,hw1,q1,q2,q3,hj1,hj2,gb,ga,z1,z2,z3,z4,z5,z6,encL_len,encL_0,encL_1,encL_2,encL_3,encL_4,encL_5,encL_6,encL_7,take_all,encT_len,Nat.mul_one,hlG,setAll_full,hbn,hnx,wc,hlA,max_v,encT_set ha.1,e2,SB,Nat.reduceLT,callee,aOp,ne_eq,Nat.reduceEqDiff,aBin,aUn,if_true,if_false,reduceCtorEq,frame0,place,notTuple,Nat.reduceAdd,Nat.reduceLeDiff,resVal,dite_true,dite_false,Int.reduceEq,Int.reduceLT,Int.reduceLE]
   exact hN (i+1) _ _ ⟨by omega,(by simp only [g1,FB,Nat.reduceEqDiff]),by rw [←g4];exact (by simp only [FB,Nat.reduceEqDiff]),by rw [←g9];exact (by simp only [FB,Nat.reduceEqDiff]),(by simp only [g10,FB,Nat.reduceEqDiff]),(by simp only [g11,FB,Nat.reduceEqDiff]),by rw [←g19];exact (by simp only [FB,Nat.reduceEqDiff]),by rw [←g20];exact (by simp only [FB,Nat.reduceEqDiff]),(by simp only [g30,FB,Nat.reduceEqDiff]),(by simp only [g31,FB,Nat.reduceEqDiff]),(by simp only [FB,Nat.reduceEqDiff]),(hC.mut m2 (.inl (by simp))).app,by rw [hT];exact okT_set ha (by unfold maxTime;omega),by rw [hT];exact (Ext.refl.app).cells h2⟩ (by omega)
theorem exaF_okT {P:List Int} {L:List Leg} {T:List Int} (hno:NetOk 50 P L (posN P)) (hT:okT T):∀k,okT (exaF P L T k)
 | 0=>hT
 | k+1=>by
   rw [exaF,Go.Net.stepX]
   have hb:=exaF_okT hno hT k
   generalize exaF P L T k=bef at hb
   suffices h:∀(M:List Leg),(∀l∈M,l∈L)→∀aft,okT aft→okT (M.foldl (useX (posN P) bef) aft) from h L (fun _ h=>h) _ okT_rep
   intro M
   induction M with
   | nil=>intro _ aft h;exact h
   | cons l M ih=>
     intro hM aft ha
     rw [List.foldl_cons]
     refine ih (fun x hx=>hM x (List.mem_cons_of_mem _ hx)) _ ?_
     by_cases h0:bef.getD (posN P l.dst) (-1)<0
     ·unfold useX;rw [if_pos h0];exact ha
     ·cases hx:lastD l (bef.getD (posN P l.dst) (-1)) with
      | none=>unfold useX;rw [if_neg h0];simp only [hx];exact ha
      | some a=>
        rw [useX_max h0 hx]
        obtain ⟨k1,k2,k3,k4⟩:=lastD_dep (hno.fine _ (hM l (List.mem_cons_self ..))) hx
        have hf:=hno.fine _ (hM l (List.mem_cons_self ..))
        have:=ha.2 (posN P l.frm)
        unfold Fine at hf
        exact okT_set ha (by omega)
theorem Own1.le {α:Type} {lim e cap:Nat} {G:Heap} {enc:α→List Value} {p:Option Addr} {l:List α} (h:Own1 lim G enc e p cap l) {lim':Nat} (hl:lim'≤lim):Own1 lim' G enc e p cap l:=by
 rcases h with h | ⟨R,h0,h1,h2,h3,h4⟩
 ·exact .inl (h.le hl)
 ·exact .inr ⟨R,h0,h1,h2,h3,by omega⟩
theorem latest_ok [OB] {lim R n0:Nat} {T:List Int} {pp pl:Option Addr} {P:List Int} {L:List Leg} {cp cl:Nat} {H:Heap} {Q:Value→Heap→Prop} (hn:NetIn H pp pl P L) (hno:NetOk 50 P L (posN P)) (hm:hget H R=.map (posV P)) (hT:okT T) (hn0:n0<2 ^ 30) (hnl:L.length<2 ^ 62) (hlim:lim≤H.length)
  (hQ:∀H' p cap,Chg [] H H'→Own1 H.length H' encT 50 p cap ((List.range (n0+1)).map (exaF P L T))→Q (.slice p (n0+1) cap) H') :
  CallR E false lim 31 [.agg (netV pp P.length cp pl L.length cl).toArray,.map (some R),.agg (encT T).toArray,.int .i64 (n0:Int)] H Q:=by
 refine runs' (by decide) e31 rfl ?_
 rw [b31,c31]
 simp only [n31,r31,zz50,encT_len,take_all,setAll_full,List.length_replicate,SB,Nat.reduceLT,callee,aOp,ne_eq,Nat.reduceEqDiff,aBin,aUn,if_true,if_false,reduceCtorEq,frame0,place,notTuple,Nat.reduceAdd,Nat.reduceLeDiff,resVal,dite_true,dite_false,Int.reduceEq,Int.reduceLT,Int.reduceLE]
 refine Ret_rounds (fun s:Nat×Option Addr×Nat=>n0-s.1) (fun s fr G=>s.1≤n0∧fr 1=.map (some R)∧fr 4=.pointer (some ⟨H.length,0,none⟩)∧fr 9=.slice s.2.1 (s.1+1) s.2.2∧fr 19=.int .i64 (n0:Int)∧fr 20=.int .i64 (s.1:Int)∧hget G H.length=.cells false (netV pp P.length cp pl L.length cl)∧Chg [] H G∧Own1 (H.length+1) G encT 50 s.2.1 s.2.2 ((List.range (s.1+1)).map (exaF P L T))) (0,some ⟨H.length+2,0,none⟩,1)
  ⟨Nat.zero_le _,(by simp only [FB,Nat.reduceEqDiff]),(by simp only [FB,Nat.reduceEqDiff]),by rfl,(by simp only [FB,Nat.reduceEqDiff]),by rfl,hget_new0,Chg.refl.app,.inr ⟨H.length+2,rfl,rfl,by show (1:Nat)<2 ^ 62;decide,by rw [hget_new];simp [exaF],by omega⟩⟩ ?_
 rintro ⟨k,p,cap⟩ fr G ⟨hk,f1,f4,f9,f19,f20,hB,hE,hO⟩ hN
 simp only at hk f9 f20 hO
 have hl:=hE.len
 have hok:=exaF_okT hno hT k
 rw [Ret_code l31_2.eq_1]
 refine Ret_pad ?_
 by_cases hkn:k<n0
 case neg=>
  obtain rfl:k=n0:=by omega
  simp only [n31,r31,f1,f4,f9,f19,f20,hkn,SB,Nat.reduceLT,callee,aOp,ne_eq,Nat.reduceEqDiff,aBin,aUn,if_true,if_false,reduceCtorEq,frame0,place,notTuple,Nat.reduceAdd,Nat.reduceLeDiff,resVal,dite_true,dite_false,Int.reduceEq,Int.reduceLT,Int.reduceLE]
  exact hQ _ _ _ hE.app ((hO.chg (A:=[]) (Chg.refl.app) (by simp)).le (by omega))
 have hlen:((List.range (k+1)).map (exaF P L T)).length=k+1:=by simp
 have hgt:gt ((List.range (k+1)).map (exaF P L T)) k=exaF P L T k:=by
  rw [gt_lt (by rw [hlen];omega)];simp
 have hS:=hO.sl encT_len
 have hld:=fun X=>(hS.app X).loadCells encT_len (i:=k) (by rw [hlen];omega)
 have hidx:=fun c (kk:IntKind) (H1:Heap)=>hS.idx (c:=c) (k:=kk) (H1:=H1) (i:=k) (by rw [hlen];omega)
 rw [hlen] at hidx
 rw [hgt] at hld
 have hw1:IntKind.i64.wrap (((k+1:Nat):Int)-1)=(k:Int):=by rw [wrap_id (by omega) (by omega)];omega
 have hw2:IntKind.i64.wrap ((k:Int)+1)=((k+1:Nat):Int):=wrap_nat (by omega)
 have hlG:lim≤G.length:=by omega
 have h67:∀(H:Heap) (mp:Bool) (lim:Nat) (Q:Value→Heap→Prop),CallR E mp lim 27 [.int .i64 0,.int .i64 (-1)] H Q=Q (.agg (encT (List.replicate 50 (-1))).toArray) H:=fun H mp lim Q=>one_ok (mp:=mp) (lim:=lim) (H:=H) (Q:=Q) (i:=0) (t:=-1) (by decide)
 have hBX:=fun X=>(Ext.refl.app (X:=X)).cells hB
 simp only [n31,r31,f1,f4,f9,f19,f20,hkn,h67,hBX,netV_len,netV_0,netV_1,zz50,encT_len,take_all,setAll_full,List.length_replicate,hw1,hidx,hld,hlG,show lim≤G.length+1 by omega,SB,Nat.reduceLT,callee,aOp,ne_eq,Nat.reduceEqDiff,aBin,aUn,if_true,if_false,reduceCtorEq,frame0,place,notTuple,Nat.reduceAdd,Nat.reduceLeDiff,resVal,dite_true,dite_false,Int.reduceEq,Int.reduceLT,Int.reduceLE]
 refine latest_inner (cl:=cl) (A10:=G.length) (A11:=G.length+1) hno hn.sl hnl hm hlim hok hE.app (by omega) (by omega) (by omega) hget_new0 hget_new (by simp only [f1,FB,Nat.reduceEqDiff]) (by simp only [FB,Nat.reduceEqDiff]) (by simp only [FB,Nat.reduceEqDiff]) (by simp only [FB,Nat.reduceEqDiff]) (by simp only [FB,Nat.reduceEqDiff]) (by simp only [FB,Nat.reduceEqDiff]) fun fr' G' hok' hC h11 k1 k4 k9 k11 k19 k20=>?_
 have k1':fr' 1=.map (some R):=k1.trans (by simp only [f1,FB,Nat.reduceEqDiff])
 have k4':fr' 4=.pointer (some ⟨H.length,0,none⟩):=k4.trans (by simp only [f4,FB,Nat.reduceEqDiff])
 have k9':fr' 9=.slice p (k+1) cap:=k9.trans (by simp only [f9,FB,Nat.reduceEqDiff])
 have k11':fr' 11=.pointer (some ⟨G.length+1,0,none⟩):=k11.trans (by simp only [FB,Nat.reduceEqDiff])
 have k19':fr' 19=.int .i64 (n0:Int):=k19.trans (by simp only [f19,FB,Nat.reduceEqDiff])
 have k20':fr' 20=.int .i64 (k:Int):=k20.trans (by simp only [f20,FB,Nat.reduceEqDiff])
 have h11X:=fun X=>(Ext.refl.app (X:=X)).cells h11
 have hC':Chg [] G G':=hC.pre.mono fun j hj h=>by simp only [List.mem_singleton] at h;omega
 have hl2:=hC'.len
 have hO':=hO.chg hC' (by simp)
 change okT (exaF P L T (k+1)) at hok'
 change hget G' (G.length+1)=.cells false (encT (exaF P L T (k+1))) at h11
 change ∀X,hget (G'++X) (G.length+1)=.cells false (encT (exaF P L T (k+1))) at h11X
 have hHG:H.length<G.length:=hget_alive hB
 obtain ⟨G3,e3,O3,C3,hold3,l3,_⟩:=hO'.step (lim':=lim) (bytes:=400) (by omega) encT_len (by decide) (exaF P L T (k+1)) (by rw [hlen];unfold maxBytes;omega) (by rw [hlen];omega) (by omega) [.cells false (encT (exaF P L T (k+1)))] G'.length 1 hget_new0
 rw [hlen] at e3
 have hlG':lim≤G'.length:=by omega
 simp only [n31,r31,k1',k4',k9',k11',k19',k20',h11X,encT_len,take_all,zz50,setAll_full,List.length_replicate,e3,hw2,hlG',SB,Nat.reduceLT,callee,aOp,ne_eq,Nat.reduceEqDiff,aBin,aUn,if_true,if_false,reduceCtorEq,frame0,place,notTuple,Nat.reduceAdd,Nat.reduceLeDiff,resVal,dite_true,dite_false,Int.reduceEq,Int.reduceLT,Int.reduceLE]
 refine hN (k+1,_,_) _ _ ⟨by omega,(by simp only [k1',FB,Nat.reduceEqDiff]),(by simp only [k4',FB,Nat.reduceEqDiff]),by rfl,(by simp only [k19',FB,Nat.reduceEqDiff]),(by simp only [FB,Nat.reduceEqDiff]), ?_,C3 _ _ (by omega) (hE.trans hC'),.inl ?_⟩ (by show n0-(k+1)<n0-k;omega)
 ·rw [List.append_nil] at hold3
  rw [List.append_nil,hold3 H.length (by omega) fun a ha e=>by have:=(hO'.block ha).1;omega]
  exact hC'.cells hB (by simp)
 ·rw [List.range_succ,List.map_append]
  exact O3
theorem at_ok [OB] {mp:Bool} {lim A B i:Nat} {o1 o2:Bool} {t:Int} {T:List Int} {H:Heap} {Q:Value→Heap→Prop} (hi:i<50) (hT:T.length=50) (hA:hget H A=.cells o1 [.int .i64 (i:Int)]) (hB:hget H B=.cells o2 [.int .i64 t]) :
  CallR E mp lim 30 [.agg (encT T).toArray,.pointer (some ⟨A,0,none⟩),.pointer (some ⟨B,0,none⟩)] H Q=Q (.bool (decide (T.getD i (-1)=t))) H:=by
 refine pc (by decide) e30 rfl rfl ?_
 rw [b30,c30]
 have q1:=fun X=>(Ext.refl.app (X:=X)).cells hA
 have q2:=fun X=>(Ext.refl.app (X:=X)).cells hB
 have z1:(0:Int)≤(i:Int):=by omega
 have z2:(i:Int)<50:=by omega
 have z3:i≤49:=by omega
 have gt:=encT_get hT hi
 simp only [n30,r30,q1,q2,encT_len,take_all,gt,z1,z2,z3,Nat.mul_one,SB,Nat.reduceLT,callee,aOp,ne_eq,Nat.reduceEqDiff,aBin,aUn,if_true,if_false,reduceCtorEq,frame0,place,notTuple,Nat.reduceAdd,Nat.reduceLeDiff,resVal,dite_true,dite_false,Int.reduceEq,Int.reduceLT,Int.reduceLE]
theorem index_ok [OB] {mp:Bool} {lim A B i k cap:Nat} {p:Option Addr} {o1 o2:Bool} {t:Int} {Ts:List (List Int)} {H:Heap} {Q:Value→Heap→Prop} (hi:i<50) (hA:hget H A=.cells o1 [.int .i64 (i:Int)]) (hB:hget H B=.cells o2 [.int .i64 t]) (hs:Sl H encT 50 p Ts) (hTs:∀T∈Ts,T.length=50) (hn:Ts.length<2 ^ 62)
  (hk:k<Ts.length) (hkt:(gt Ts k).getD i (-1)=t) (hno:∀j,j<k→(gt Ts j).getD i (-1)≠t) :
  CallR E mp lim 29 [.slice p Ts.length cap,.func (.func 30) #[] #[.pointer (some ⟨A,0,none⟩),.pointer (some ⟨B,0,none⟩)]] H Q=Q (.int .i64 (k:Int)) H:=by
 refine pc (by decide) e29 rfl rfl ?_
 rw [b29,c29]
 simp only [n29,r29,SB,Nat.reduceLT,callee,aOp,ne_eq,Nat.reduceEqDiff,aBin,aUn,if_true,if_false,reduceCtorEq,frame0,place,notTuple,Nat.reduceAdd,Nat.reduceLeDiff,resVal,dite_true,dite_false,Int.reduceEq,Int.reduceLT,Int.reduceLE]
 refine Ret_rounds (fun j=>Ts.length-j) (fun j fr G=>j≤k∧fr 0=.slice p Ts.length cap∧fr 1=.func (.func 30) #[] #[.pointer (some ⟨A,0,none⟩),.pointer (some ⟨B,0,none⟩)]∧fr 7=.int .i64 (Ts.length:Int)∧fr 8=.int .i64 (j:Int)∧Ext H G) 0 ⟨Nat.zero_le _,(by simp only [FB,Nat.reduceEqDiff]),(by simp only [FB,Nat.reduceEqDiff]),(by simp only [FB,Nat.reduceEqDiff]),by rfl,Ext.refl.app⟩ ?_
 intro j fr G ⟨hj,f0,f1,f7,f8,hE⟩ hN
 rw [Ret_code l29_1.eq_1]
 refine Ret_pad ?_
 have hlt:j<Ts.length:=by omega
 have hld:=fun X=>((hE.sl hs).app X).loadCells encT_len hlt
 have hidx:=fun c (kk:IntKind) (H1:Heap)=>(hE.sl hs).idx (c:=c) (k:=kk) (H1:=H1) hlt
 have hw1:IntKind.i64.wrap ((j:Int)+1)=((j+1:Nat):Int):=wrap_nat (by omega)
 have hat:=fun X (mp:Bool) (lim:Nat) (Q:Value→Heap→Prop)=>at_ok (mp:=mp) (lim:=lim) (Q:=Q) (H:=G++X) (T:=gt Ts j) hi (hTs _ (gt_mem hlt)) ((hE.app).cells hA) ((hE.app).cells hB)
 by_cases he:j=k
 ·subst he
  rw [decide_eq_true hkt] at hat
  simp only [n29,r29,f0,f1,f7,f8,hlt,hld,hidx,hw1,hat,SB,Nat.reduceLT,callee,aOp,ne_eq,Nat.reduceEqDiff,aBin,aUn,if_true,if_false,reduceCtorEq,frame0,place,notTuple,Nat.reduceAdd,Nat.reduceLeDiff,resVal,dite_true,dite_false,Int.reduceEq,Int.reduceLT,Int.reduceLE]
 ·rw [decide_eq_false (p:=(gt Ts j).getD i (-1)=t) (hno j (by omega))] at hat
  simp only [n29,r29,f0,f1,f7,f8,hlt,hld,hidx,hw1,hat,SB,Nat.reduceLT,callee,aOp,ne_eq,Nat.reduceEqDiff,aBin,aUn,if_true,if_false,reduceCtorEq,frame0,place,notTuple,Nat.reduceAdd,Nat.reduceLeDiff,resVal,dite_true,dite_false,Int.reduceEq,Int.reduceLT,Int.reduceLE]
  exact hN (j+1) _ _ ⟨by omega,(by simp only [f0,FB,Nat.reduceEqDiff]),(by simp only [f1,FB,Nat.reduceEqDiff]),(by simp only [f7,FB,Nat.reduceEqDiff]),(by simp only [FB,Nat.reduceEqDiff]),hE.app⟩ (by omega)
theorem values_rule [OB] {lim Y Bx c:Nat} {p:Option Addr} {o:Bool} {L:List Leg} {H:Heap} {Q:Value→Heap→Prop} (I:Nat→Heap→Prop) (hnL:L.length<2 ^ 62)
  (hI:∀i H H',I i H→Chg [] H H'→I i H')
  (hsl:∀i H,I i H→Sl H encL 8 p L∧hget H Bx=.cells o [.slice p L.length c]∧lim≤H.length)
  (hround:∀i H,i<L.length→I i H→CallY E false lim Y [.agg (encL (gt L i)).toArray] H fun v H'=>v=.bool true∧I (i+1) H')
  (h0:I 0 H) (hQ:∀H',I L.length H'→Q (.tuple #[]) H') :
  CallR E false lim 52 [.func (.yield Y) #[] #[],.pointer (some ⟨Bx,0,none⟩)] H Q:=by
 refine runs' (by decide) e52 rfl ?_
 rw [b52,c52]
 have hBX:=fun X=>(Ext.refl.app (X:=X)).cells (hsl _ _ h0).2.1
 simp only [n52,r52,hBX,SB,Nat.reduceLT,callee,aOp,ne_eq,Nat.reduceEqDiff,aBin,aUn,if_true,if_false,reduceCtorEq,frame0,place,notTuple,Nat.reduceAdd,Nat.reduceLeDiff,resVal,dite_true,dite_false,Int.reduceEq,Int.reduceLT,Int.reduceLE]
 refine Ret_rounds (fun i=>L.length-i) (fun i fr G=>i≤L.length∧fr 0=.func (.yield Y) #[] #[]∧fr 5=.slice p L.length c∧fr 6=.int .i64 (L.length:Int)∧fr 7=.int .i64 (i:Int)∧I i G) 0 ⟨Nat.zero_le _,(by simp only [FB,Nat.reduceEqDiff]),(by simp only [FB,Nat.reduceEqDiff]),(by simp only [FB,Nat.reduceEqDiff]),by rfl,hI _ _ _ h0 (Chg.refl.app)⟩ ?_
 intro i fr G ⟨hi,f0,f5,f6,f7,hIG⟩ hN
 rw [Ret_code l52_1.eq_1]
 refine Ret_pad ?_
 obtain ⟨hs,hB,hlG⟩:=hsl _ _ hIG
 by_cases hlt:i<L.length
 case neg=>
  obtain rfl:i=L.length:=by omega
  simp only [n52,r52,f0,f5,f6,f7,hlt,SB,Nat.reduceLT,callee,aOp,ne_eq,Nat.reduceEqDiff,aBin,aUn,if_true,if_false,reduceCtorEq,frame0,place,notTuple,Nat.reduceAdd,Nat.reduceLeDiff,resVal,dite_true,dite_false,Int.reduceEq,Int.reduceLT,Int.reduceLE]
  exact hQ _ (hI _ _ _ hIG (Chg.refl.app))
 have hld:=fun X=>(hs.app X).loadCells encL_len hlt
 have hidx:=fun c (kk:IntKind) (H1:Heap)=>hs.idx (c:=c) (k:=kk) (H1:=H1) hlt
 have hw1:IntKind.i64.wrap ((i:Int)+1)=((i+1:Nat):Int):=wrap_nat (by omega)
 simp only [n52,r52,f0,f5,f6,f7,hlt,hld,hidx,encL_len,encL_0,encL_1,encL_2,encL_3,encL_4,encL_5,encL_6,encL_7,take_all,hlG,setAll_full,SB,Nat.reduceLT,callee,aOp,ne_eq,Nat.reduceEqDiff,aBin,aUn,if_true,if_false,reduceCtorEq,frame0,place,notTuple,Nat.reduceAdd,Nat.reduceLeDiff,resVal,dite_true,dite_false,Int.reduceEq,Int.reduceLT,Int.reduceLE]
 refine (hround i _ hlt (hI _ _ _ hIG (Chg.refl.app))).mono fun v H' hv=>?_
 obtain ⟨rfl,hI'⟩:=hv
 refine Ret_pad ?_
 simp only [n52,r52,f0,f5,f6,f7,hw1,SB,Nat.reduceLT,callee,aOp,ne_eq,Nat.reduceEqDiff,aBin,aUn,if_true,if_false,reduceCtorEq,frame0,place,notTuple,Nat.reduceAdd,Nat.reduceLeDiff,resVal,dite_true,dite_false,Int.reduceEq,Int.reduceLT,Int.reduceLE]
 exact hN (i+1) _ _ ⟨by omega,(by simp only [f0,FB,Nat.reduceEqDiff]),(by simp only [f5,FB,Nat.reduceEqDiff]),(by simp only [f6,FB,Nat.reduceEqDiff]),(by simp only [FB,Nat.reduceEqDiff]),hI _ _ _ hI' (Chg.refl.app)⟩ (by omega)
theorem append_key [OB] {lim Bx c:Nat} {p:Option Addr} {o:Bool} {L:List Leg} {H:Heap} {Z:Value→Heap→Prop} {fr0:Nat→Value} {K':List AItem} (hB:hget H Bx=.cells o [.slice p L.length c]) (hs:Sl H encL 8 p L) (hn:L.length<2 ^ 30) (hlim:lim≤H.length)
  (f2:fr0 2=.pointer (some ⟨H.length,0,none⟩))
  (hQ:∀H' q cap,Chg [] H H'→Own (H.length+3) H' encL 8 q cap L→hget H' H.length=.cells false [.slice q L.length cap]→hget H' (H.length+1)=.dfr→H.length+3≤H'.length→Ret E a62 lim (K'++[.mark (H.length+1)]) fr0 (H'++[]) Z) :
  CallR E false lim 52 [.func (.yield (H.length+2)) #[] #[],.pointer (some ⟨Bx,0,none⟩)] (H++[.cells false [.slice none 0 0],.dfr,.loop ⟨0,none,fr0,13,[7],ga62_1,gb62_1⟩]) fun _ H2=>
   endK (hget H2 (H.length+1+1)) fun x=>Ret E a62 lim (pendI x++(K'++[.mark (H.length+1)])) fr0 (H2.set (H.length+1+1) .dead) Z:=by
 refine values_rule (c:=c) (p:=p) (o:=o) (L:=L) (fun i G=>∃q cap,hget G H.length=.cells false [.slice q i cap]∧Own (H.length+3) G encL 8 q cap (L.take i)∧hget G (H.length+1)=.dfr∧hget G (H.length+2)=.loop ⟨0,none,fr0,13,[7],ga62_1,gb62_1⟩∧Chg [] H G∧H.length+3≤G.length∧i≤L.length) (by omega) ?_ ?_ ?_ ?_ ?_
 ·rintro i G G' ⟨q,cap,h1,h2,h3,h4,h5,h6,h7⟩ hC
  have:=hC.len
  exact ⟨q,cap,hC.cells h1 (by simp),h2.chg hC (by simp),hC.get h3 (by omega) (by simp),hC.get h4 (by omega) (by simp),h5.trans hC,by omega,h7⟩
 ·rintro i G ⟨q,cap,h1,h2,h3,h4,h5,h6,h7⟩
  exact ⟨h5.ext.sl hs,h5.cells hB (by simp),by omega⟩
 ·rintro i G hlt ⟨q,cap,h2,hO,hd,hy,hC,hl,_⟩
  rw [CallY_run (x:=⟨0,none,fr0,13,[7],ga62_1,gb62_1⟩) hy (by omega) rfl (by rfl),setParams_one]
  rw [Ret_code ga62_1.eq_1]
  refine Ret_pad ?_
  obtain ⟨G1,e1,h1,m1⟩:=mut_set (G:=G) (R:=H.length+2) (by omega) (.loop ⟨1,none,fr0,13,[7],ga62_1,gb62_1⟩)
  have gY:=fun X=>(Ext.refl.app (X:=X)).get' hy (by omega)
  have hlG:lim≤G.length:=by omega
  simp only [f2,encL_len,encL_0,encL_1,encL_2,encL_3,encL_4,encL_5,encL_6,encL_7,take_all,setAll_full,hlG,gY,e1,show lim≤H.length+2 by omega,SB,Nat.reduceLT,callee,aOp,ne_eq,Nat.reduceEqDiff,aBin,aUn,if_true,if_false,reduceCtorEq,frame0,place,notTuple,Nat.reduceAdd,Nat.reduceLeDiff,resVal,dite_true,dite_false,Int.reduceEq,Int.reduceLT,Int.reduceLE]
  rw [Ret_code gb62_1.eq_1]
  have hO1:Own (H.length+3) G1 encL 8 q cap (L.take i):=hO.mut m1 fun a e=>by have:=(hO.block e).1;omega
  have hlen:(L.take i).length=i:=by rw [List.length_take];omega
  obtain ⟨G3,e3,O3,C3,hold3,l3,hn3⟩:=hO1.step (lim':=lim) (bytes:=64) (by omega) encL_len (by decide) (gt L i) (by rw [hlen];unfold maxBytes;omega) (by rw [hlen];omega) (by rw [m1.len];omega) [.cells false (encL (gt L i)),.cells false (encL (gt L i))] (G1.length+1) 1 hget_new
  rw [hlen] at e3
  rw [m1.len] at e3 O3 l3
  simp only [List.length_cons,List.length_nil] at e3 l3
  have b2:=fun X=>(Ext.refl.app (X:=X)).cells (m1.cells h2 (by omega))
  have c5:∀X:Heap,hget (G1++X) G.length=X.getD 0 .dead:=(len_rules m1.len).2.2.1
  have c6:∀(X:Heap) (j:Nat),hget (G1++X) (G.length+j)=X.getD j .dead:=(len_rules m1.len).2.1
  have nb:∀j,j<H.length+3→∀a,q=some a→j≠a.block:=fun j hj a e hh=>by have:=(hO.block e).1;omega
  have t3:hget (G3++[]) H.length=.cells false [.slice q i cap]:=(hold3 _ (by rw [m1.len];omega) (nb _ (by omega))).trans (m1.cells h2 (by omega))
  have y3:hget (G3++[]) (H.length+2)=_:=(hold3 _ (by rw [m1.len];omega) (nb _ (by omega))).trans h1
  have d3:hget (G3++[]) (H.length+1)=_:=(hold3 _ (by rw [m1.len];omega) (nb _ (by omega))).trans (m1.alive hd (by omega))
  rw [List.append_nil] at t3 y3 d3 O3
  obtain ⟨G4,e4,h4,m4⟩:=mut_set (hget_alive t3) (.cells false [.slice (some ⟨G.length+2,0,none⟩) (i+1) (loose 8)])
  have y4':=m4.alive y3 (by omega)
  have y4:=fun X=>(Ext.refl.app (X:=X)).get' y4' (by rw [m4.len];omega)
  obtain ⟨G5,e5,h5,m5⟩:=mut_set (G:=G4) (R:=H.length+2) (by rw [m4.len];omega) (.loop ⟨0,none,fr0,13,[7],ga62_1,gb62_1⟩)
  have t3X:=fun X=>(Ext.refl.app (X:=X)).cells t3
  simp only [f2,encL_len,encL_0,encL_1,encL_2,encL_3,encL_4,encL_5,encL_6,encL_7,take_all,setAll_full,hlG,b2,c5,c6,m1.len,e3,e4,e5,y4,t3X,show lim≤H.length by omega,show lim≤H.length+2 by omega,SB,Nat.reduceLT,callee,aOp,ne_eq,Nat.reduceEqDiff,aBin,aUn,if_true,if_false,reduceCtorEq,frame0,place,notTuple,Nat.reduceAdd,Nat.reduceLeDiff,resVal,dite_true,dite_false,Int.reduceEq,Int.reduceLT,Int.reduceLE]
  have cH:=C3 [] H (by omega) (hC.mut m1 (.inr (by omega)))
  rw [List.append_nil] at cH
  have l5:G5.length=G3.length:=by rw [m5.len,m4.len]
  refine ⟨_,_,(Ext.refl.app).cells (m5.cells h4 (by omega)), ?_,(Ext.refl.app).get' (m5.alive (m4.alive d3 (by omega)) (by omega)) (by omega),(Ext.refl.app).get' h5 (by omega),((cH.mut m4 (.inr (by omega))).mut m5 (.inr (by omega))).app,by omega,by omega⟩
  rw [take_snoc hlt]
  exact ((O3.mut m4 fun a e=>by cases e;show G.length+2≠_;omega).mut m5 fun a e=>by cases e;show G.length+2≠_;omega).app _
 ·exact ⟨none,0,hget_new0,.nil,by rw [hget_new];rfl,by rw [hget_new];rfl,Chg.refl.app,by simp,Nat.zero_le _⟩
 ·rintro H' ⟨q,cap,h1,h2,h3,h4,h5,h6,_⟩
  rw [List.take_length] at h2
  rw [endK_congr (show hget H' (H.length+1+1)=_ from h4),endK_0]
  show Ret E a62 lim (K'++[.mark (H.length+1)]) fr0 _ _
  have hC:Mut H' (H'.set (H.length+1+1) .dead) (H.length+1+1):=⟨by simp,fun j hj=>hget_set_ne hj⟩
  refine Ret_pad ?_
  exact hQ _ q cap (h5.mut hC (.inr (by omega))) (h2.mut hC fun a e=>by have:=(h2.block e).1;omega) (hC.cells h1 (by omega)) (hC.alive h3 (by omega)) (by rw [hC.len];omega)
theorem append_seq [OB] {lim Bx c:Nat} {p:Option Addr} {o:Bool} {L:List Leg} {H:Heap} {Q:Value→Heap→Prop} (hB:hget H Bx=.cells o [.slice p L.length c]) (hs:Sl H encL 8 p L) (hn:L.length<2 ^ 30) (hlim:lim≤H.length)
  (hQ:∀H' q cap,Chg [] H H'→Own (H.length+3) H' encL 8 q cap L→Q (.slice q L.length cap) H') :
  CallR E false lim 62 [.slice none 0 0,.func (.func 52) #[] #[.pointer (some ⟨Bx,0,none⟩)]] H Q:=by
 refine runs' (by decide) e62 rfl ?_
 rw [b62,c62]
 have hlen:(H++[Blk.cells false [Value.slice none 0 0]]).length=H.length+1:=by simp
 simp only [n62,r62,SB,Nat.reduceLT,callee,aOp,ne_eq,Nat.reduceEqDiff,aBin,aUn,if_true,if_false,reduceCtorEq,frame0,place,notTuple,Nat.reduceAdd,Nat.reduceLeDiff,resVal,dite_true,dite_false,Int.reduceEq,Int.reduceLT,Int.reduceLE]
 rw [hlen]
 refine append_key hB hs hn hlim (by simp only [FB,Nat.reduceEqDiff]) fun H' q cap hC hO h2 hd hl=>?_
 have h2X:=fun X=>(Ext.refl.app (X:=X)).cells h2
 have hdX:=fun X=>(Ext.refl.app (X:=X)).get' hd (by omega)
 show Ret E a62 lim (.inBlock 0::.code _::.code .retM::.mark (H.length+1)::[]) _ _ _
 simp only [n62,r62,h2X,hdX,show lim≤H.length+1 by omega,SB,Nat.reduceLT,callee,aOp,ne_eq,Nat.reduceEqDiff,aBin,aUn,if_true,if_false,reduceCtorEq,frame0,place,notTuple,Nat.reduceAdd,Nat.reduceLeDiff,resVal,dite_true,dite_false,Int.reduceEq,Int.reduceLT,Int.reduceLE]
 have hm:Mut (H'++[]) ((H'++[]).set (H.length+1) .dead) (H.length+1):=⟨by simp,fun j hj=>hget_set_ne hj⟩
 exact hQ _ _ _ (hC.app.mut hm (.inr (by omega))) ((hO.app []).mut hm fun a e=>by have:=(hO.block e).1;omega)
theorem collect_ok [OB] {lim Bx c:Nat} {p:Option Addr} {o:Bool} {L:List Leg} {H:Heap} {Q:Value→Heap→Prop} (hB:hget H Bx=.cells o [.slice p L.length c]) (hs:Sl H encL 8 p L) (hn:L.length<2 ^ 30) (hlim:lim≤H.length)
  (hQ:∀H' q cap,Chg [] H H'→Own (H.length+3) H' encL 8 q cap L→Q (.slice q L.length cap) H') :
  CallR E false lim 50 [.func (.func 52) #[] #[.pointer (some ⟨Bx,0,none⟩)]] H Q:=by
 refine runs' (by decide) e50 rfl ?_
 rw [b50,c50]
 simp only [n50,r50,SB,Nat.reduceLT,callee,aOp,ne_eq,Nat.reduceEqDiff,aBin,aUn,if_true,if_false,reduceCtorEq,frame0,place,notTuple,Nat.reduceAdd,Nat.reduceLeDiff,resVal,dite_true,dite_false,Int.reduceEq,Int.reduceLT,Int.reduceLE]
 rw [List.append_nil]
 refine append_seq hB hs hn hlim fun H' q cap hC hO=>?_
 refine Ret_pad ?_
 simp only [n50,r50,SB,Nat.reduceLT,callee,aOp,ne_eq,Nat.reduceEqDiff,aBin,aUn,if_true,if_false,reduceCtorEq,frame0,place,notTuple,Nat.reduceAdd,Nat.reduceLeDiff,resVal,dite_true,dite_false,Int.reduceEq,Int.reduceLT,Int.reduceLE]
 exact hQ _ _ _ hC.app (hO.app _)
theorem isleg_ok [OB] {mp:Bool} {lim A:Nat} {o:Bool} {t:Int} {l:Leg} {H:Heap} {Q:Value→Heap→Prop} (hA:hget H A=.cells o [.int .i64 t]) :
  CallR E mp lim 42 [.agg (encL l).toArray,.pointer (some ⟨A,0,none⟩)] H Q=Q (.bool (decide (l.id=t))) H:=by
 refine pc (by decide) e42 rfl rfl ?_
 rw [b42,c42]
 have q1:=fun X=>(Ext.refl.app (X:=X)).cells hA
 simp only [n42,r42,q1,encL_len,encL_0,encL_1,encL_2,encL_3,encL_4,encL_5,encL_6,encL_7,take_all,SB,Nat.reduceLT,callee,aOp,ne_eq,Nat.reduceEqDiff,aBin,aUn,if_true,if_false,reduceCtorEq,frame0,place,notTuple,Nat.reduceAdd,Nat.reduceLeDiff,resVal,dite_true,dite_false,Int.reduceEq,Int.reduceLT,Int.reduceLE]
def legAt (L:List Leg) (t:Int):Int:=if ∃l∈L,l.id=t then ((L.findIdx fun l=>l.id=t:Nat):Int) else -1
theorem findIdx_at {L:List Leg} {t:Int} {i:Nat} (h:i<L.length) (he:(gt L i).id=t) (hno:∀j,j<i→(gt L j).id≠t):L.findIdx (fun l=>l.id=t)=i:=by
 rw [gt_lt h] at he
 have h1:L.findIdx (fun l=>l.id=t)≤i:=by
  apply Decidable.byContradiction;intro hc
  have:=List.not_of_lt_findIdx (xs:=L) (p:=fun l=>l.id=t) (i:=i) (by omega)
  simp [he] at this
 rcases Nat.lt_or_ge (L.findIdx (fun l=>l.id=t)) i with h2 | h2
 ·have h3:L.findIdx (fun l=>l.id=t)<L.length:=by omega
  have:=List.findIdx_getElem (xs:=L) (p:=fun l=>decide (l.id=t)) (w:=h3)
  exact absurd (by simpa using this) (fun e=>hno _ h2 (by rw [gt_lt h3];exact e))
 ·omega
theorem legindex_ok [OB] {mp:Bool} {lim A cap:Nat} {o:Bool} {p:Option Addr} {t:Int} {L:List Leg} {H:Heap} {Q:Value→Heap→Prop} (hA:hget H A=.cells o [.int .i64 t]) (hs:Sl H encL 8 p L) (hn:L.length<2 ^ 62) :
  CallR E mp lim 41 [.slice p L.length cap,.func (.func 42) #[] #[.pointer (some ⟨A,0,none⟩)]] H Q=Q (.int .i64 (legAt L t)) H:=by
 refine pc (by decide) e41 rfl rfl ?_
 rw [b41,c41]
 simp only [n41,r41,SB,Nat.reduceLT,callee,aOp,ne_eq,Nat.reduceEqDiff,aBin,aUn,if_true,if_false,reduceCtorEq,frame0,place,notTuple,Nat.reduceAdd,Nat.reduceLeDiff,resVal,dite_true,dite_false,Int.reduceEq,Int.reduceLT,Int.reduceLE]
 refine Ret_rounds (fun j=>L.length-j) (fun j fr G=>j≤L.length∧fr 0=.slice p L.length cap∧fr 1=.func (.func 42) #[] #[.pointer (some ⟨A,0,none⟩)]∧fr 7=.int .i64 (L.length:Int)∧fr 8=.int .i64 (j:Int)∧Ext H G∧∀i,i<j→(gt L i).id≠t) 0 ⟨Nat.zero_le _,(by simp only [FB,Nat.reduceEqDiff]),(by simp only [FB,Nat.reduceEqDiff]),(by simp only [FB,Nat.reduceEqDiff]),by rfl,Ext.refl.app,fun i hi=>by omega⟩ ?_
 intro j fr G ⟨hj,f0,f1,f7,f8,hE,hno⟩ hN
 rw [Ret_code l41_1.eq_1]
 refine Ret_pad ?_
 by_cases hlt:j<L.length
 case neg=>
  obtain rfl:j=L.length:=by omega
  simp only [n41,r41,f0,f1,f7,f8,hlt,SB,Nat.reduceLT,callee,aOp,ne_eq,Nat.reduceEqDiff,aBin,aUn,if_true,if_false,reduceCtorEq,frame0,place,notTuple,Nat.reduceAdd,Nat.reduceLeDiff,resVal,dite_true,dite_false,Int.reduceEq,Int.reduceLT,Int.reduceLE]
  rw [legAt,if_neg]
  rintro ⟨l,hl,he⟩
  obtain ⟨i,hi,rfl⟩:=List.mem_iff_getElem.1 hl
  exact hno i hi (by rw [gt_lt hi];exact he)
 have hld:=fun X=>((hE.sl hs).app X).loadCells encL_len hlt
 have hidx:=fun c (kk:IntKind) (H1:Heap)=>(hE.sl hs).idx (c:=c) (k:=kk) (H1:=H1) hlt
 have hw1:IntKind.i64.wrap ((j:Int)+1)=((j+1:Nat):Int):=wrap_nat (by omega)
 have hat:=fun X (mp:Bool) (lim:Nat) (Q:Value→Heap→Prop)=>isleg_ok (mp:=mp) (lim:=lim) (Q:=Q) (H:=G++X) (l:=gt L j) ((hE.app).cells hA)
 by_cases he:(gt L j).id=t
 ·rw [decide_eq_true he] at hat
  simp only [n41,r41,f0,f1,f7,f8,hlt,hld,hidx,hw1,hat,SB,Nat.reduceLT,callee,aOp,ne_eq,Nat.reduceEqDiff,aBin,aUn,if_true,if_false,reduceCtorEq,frame0,place,notTuple,Nat.reduceAdd,Nat.reduceLeDiff,resVal,dite_true,dite_false,Int.reduceEq,Int.reduceLT,Int.reduceLE]
  rw [legAt,if_pos ⟨_,gt_mem hlt,he⟩,findIdx_at hlt he hno]
 ·rw [decide_eq_false he] at hat
  simp only [n41,r41,f0,f1,f7,f8,hlt,hld,hidx,hw1,hat,SB,Nat.reduceLT,callee,aOp,ne_eq,Nat.reduceEqDiff,aBin,aUn,if_true,if_false,reduceCtorEq,frame0,place,notTuple,Nat.reduceAdd,Nat.reduceLeDiff,resVal,dite_true,dite_false,Int.reduceEq,Int.reduceLT,Int.reduceLE]
  exact hN (j+1) _ _ ⟨by omega,(by simp only [f0,FB,Nat.reduceEqDiff]),(by simp only [f1,FB,Nat.reduceEqDiff]),(by simp only [f7,FB,Nat.reduceEqDiff]),(by simp only [FB,Nat.reduceEqDiff]),hE.app,fun i hi=>by
   rcases Nat.lt_or_ge i j with h | h
   ·exact hno i h
   ·obtain rfl:i=j:=by omega
    exact he⟩ (by omega)
theorem same_step {α:Type} [Inhabited α] {a b:List α} {i:Nat} (hl:a.length=b.length) (hi:i<a.length) (hall:∀j,j<i→gt a j=gt b j) (he:gt a i=gt b i):∀j,j<i+1→gt a j=gt b j:=fun j hj=>by
 rcases Nat.lt_or_ge j i with h | h
 ·exact hall j h
 ·obtain rfl:j=i:=by omega
  exact he
theorem same_all {α:Type} [Inhabited α] {a b:List α} (hl:a.length=b.length) (hall:∀j,j<a.length→gt a j=gt b j):a=b:=by
 apply List.ext_getElem hl
 intro i h1 h2
 have:=hall i h1
 rwa [gt_lt h1,gt_lt h2] at this
theorem sameints_ok [OB] {mp:Bool} {lim ca cb:Nat} {p q:Option Addr} {a b:List Int} {H:Heap} {Q:Value→Heap→Prop} (ha:Sl H encI 1 p a) (hb:Sl H encI 1 q b) (hn:a.length<2 ^ 62) :
  CallR E mp lim 11 [.slice p a.length ca,.slice q b.length cb] H Q=Q (.bool (decide (a=b))) H:=by
 refine pc (by decide) e11 rfl rfl ?_
 rw [b11,c11]
 by_cases hl:a.length=b.length
 case neg=>
  have h1:¬(a.length:Int)=(b.length:Int):=by omega
  simp only [n11,r11,eq_false h1,SB,Nat.reduceLT,callee,aOp,ne_eq,Nat.reduceEqDiff,aBin,aUn,if_true,if_false,reduceCtorEq,frame0,place,notTuple,Nat.reduceAdd,Nat.reduceLeDiff,resVal,dite_true,dite_false,Int.reduceEq,Int.reduceLT,Int.reduceLE]
  congr 1
  rw [eq_comm,decide_eq_false_iff_not]
  rintro rfl
  exact hl rfl
 have h1:(a.length:Int)=(b.length:Int):=by omega
 simp only [n11,r11,eq_true h1,SB,Nat.reduceLT,callee,aOp,ne_eq,Nat.reduceEqDiff,aBin,aUn,if_true,if_false,reduceCtorEq,frame0,place,notTuple,Nat.reduceAdd,Nat.reduceLeDiff,resVal,dite_true,dite_false,Int.reduceEq,Int.reduceLT,Int.reduceLE]
 refine Ret_rounds (fun j=>a.length-j) (fun j fr G=>j≤a.length∧fr 0=.slice p a.length ca∧fr 1=.slice q b.length cb∧fr 5=.int .i64 (j:Int)∧Ext H G∧∀i,i<j→gt a i=gt b i) 0 ⟨Nat.zero_le _,(by simp only [FB,Nat.reduceEqDiff]),(by simp only [FB,Nat.reduceEqDiff]),by rfl,Ext.refl.app,fun i hi=>by omega⟩ ?_
 intro j fr G ⟨hj,f0,f1,f5,hE,hall⟩ hN
 rw [Ret_code l11_1.eq_1]
 refine Ret_pad ?_
 by_cases hlt:j<a.length
 case neg=>
  obtain rfl:j=a.length:=by omega
  simp only [n11,r11,f0,f1,f5,hlt,SB,Nat.reduceLT,callee,aOp,ne_eq,Nat.reduceEqDiff,aBin,aUn,if_true,if_false,reduceCtorEq,frame0,place,notTuple,Nat.reduceAdd,Nat.reduceLeDiff,resVal,dite_true,dite_false,Int.reduceEq,Int.reduceLT,Int.reduceLE]
  rw [decide_eq_true (same_all hl hall)]
 have l1:=fun X=>((hE.sl ha).app X).loadCell0 encI_len hlt (by decide)
 have l2:=fun X=>((hE.sl hb).app X).loadCell0 encI_len (by omega:j<b.length) (by decide)
 simp only [encI,List.getElem?_cons_zero] at l1 l2
 have x1:=fun c (kk:IntKind) (H1:Heap)=>(hE.sl ha).idx (c:=c) (k:=kk) (H1:=H1) hlt
 have x2:=fun c (kk:IntKind) (H1:Heap)=>(hE.sl hb).idx (c:=c) (k:=kk) (H1:=H1) (by omega:j<b.length)
 have hw1:IntKind.i64.wrap ((j:Int)+1)=((j+1:Nat):Int):=wrap_nat (by omega)
 by_cases he:gt a j=gt b j
 ·simp only [n11,r11,f0,f1,f5,hlt,l1,l2,x1,x2,hw1,eq_true he,SB,Nat.reduceLT,callee,aOp,ne_eq,Nat.reduceEqDiff,aBin,aUn,if_true,if_false,reduceCtorEq,frame0,place,notTuple,Nat.reduceAdd,Nat.reduceLeDiff,resVal,dite_true,dite_false,Int.reduceEq,Int.reduceLT,Int.reduceLE]
  exact hN (j+1) _ _ ⟨by omega,(by simp only [f0,FB,Nat.reduceEqDiff]),(by simp only [f1,FB,Nat.reduceEqDiff]),(by simp only [FB,Nat.reduceEqDiff]),hE.app,same_step hl hlt hall he⟩ (by omega)
 ·simp only [n11,r11,f0,f1,f5,hlt,l1,l2,x1,x2,hw1,eq_false he,SB,Nat.reduceLT,callee,aOp,ne_eq,Nat.reduceEqDiff,aBin,aUn,if_true,if_false,reduceCtorEq,frame0,place,notTuple,Nat.reduceAdd,Nat.reduceLeDiff,resVal,dite_true,dite_false,Int.reduceEq,Int.reduceLT,Int.reduceLE]
  rw [decide_eq_false]
  rintro rfl
  exact he rfl
end Go.Proofs.Ytfedceicnjnefac.Fn

