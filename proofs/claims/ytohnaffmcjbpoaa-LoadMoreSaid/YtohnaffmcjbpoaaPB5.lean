/-
  Joined texts, 5 of 9. A part of the claim that the last text states.
-/
import Derived.ProofKit
import Derived.Deep.Slices
import Derived.OpenShut
import Derived.Test.YtohnaffmcjbpoaaPB4
set_option linter.unusedVariables false
set_option linter.unusedSimpArgs false
set_option linter.defProp false
set_option linter.unusedSectionVars false
set_option maxRecDepth 100000
set_option maxHeartbeats 4000000
namespace Go.AM
open Go.ChangeShapes Go.WideShapes Go.ChangeAt Go.RowKit
inductive Ty where
 | int (k:IntKind) | bool | str | slice (t:Ty) | arr (n:Nat) (t:Ty) | nil | pair (a b:Ty)
def Ty.size:Ty→Nat
 | .nil=>0
 | .arr n t=>n*t.size
 | .pair a b=>a.size+b.size
 | _=>1
abbrev Ty.den:Ty→Type
 | .int _=>Int
 | .bool=>Bool
 | .str=>ByteArray
 | .slice t=>List t.den
 | .arr _ t=>List t.den
 | .nil=>Unit
 | .pair a b=>a.den×b.den
def Rep:(t:Ty)→zH→t.den→List Value→Prop
 | .int k,_,n,cs=>cs=[.int k n]∧k.min≤n∧n≤k.max
 | .bool,_,b,cs=>cs=[.bool b]
 | .str,_,s,cs=>cs=[.string s]∧s.size≤maxLen
 | .slice t,H,l,cs=>l.length≤maxLen∧∃p cap,cs=[.slice p l.length cap]∧(p=none→l=[]∧cap=0)∧
   ∀a,p=some a→a.spot=none∧a.off=0∧cap=loose t.size∧(l≠[]→∃es:List (List Value),zG H a.block=.cells true es.flatten∧es.length=l.length∧∀(i:Nat) x e,l[i]? = some x→es[i]? = some e→Rep t H x e)
 | .arr n t,H,l,cs=>∃es:List (List Value),cs=es.flatten∧es.length=n∧l.length=n∧∀(i:Nat) x e,l[i]? = some x→es[i]? = some e→Rep t H x e
 | .nil,_,_,cs=>cs=[]
 | .pair a b,H,x,cs=>∃c1 c2,cs=c1++c2∧Rep a H x.1 c1∧Rep b H x.2 c2
theorem Rep.app:∀{t:Ty} {H:zH} {x:t.den} {cs:List Value} (_:Rep t H x cs) (X:zH),Rep t (H++X) x cs
 | .int _,_,_,_,h,_=>h
 | .bool,_,_,_,h,_=>h
 | .str,_,_,_,h,_=>h
 | .nil,_,_,_,h,_=>h
 | .pair a b,_,_,_,⟨c1,c2,e,h1,h2⟩,X=>⟨c1,c2,e,h1.app X,h2.app X⟩
 | .arr n t,H,l,cs,⟨es,e,h1,h2,h3⟩,X=>⟨es,e,h1,h2,fun i x c hx hc=>(h3 i x c hx hc).app X⟩
 | .slice t,H,l,cs,⟨h0,p,cap,e,h1,h2⟩,X=>by
   refine ⟨h0,p,cap,e,h1,fun a ha=>?_⟩
   obtain ⟨k1,k2,k3,k4⟩:=h2 a ha
   refine ⟨k1,k2,k3,fun hl=>?_⟩
   obtain ⟨es,m1,m2,m3⟩:=k4 hl
   exact ⟨es,by rw [zHo (zHa m1)];exact m1,m2,fun i x e hx he=>(m3 i x e hx he).app X⟩
theorem flatten_len {k:Nat}:∀{es:List (List Value)},(∀e∈es,e.length=k)→es.flatten.length=es.length*k
 | [],_=>by simp
 | e::es,h=>by
   rw [List.flatten_cons,List.length_append,h e (by simp),flatten_len (fun x hx=>h x (by simp [hx])),List.length_cons,Nat.succ_mul];omega
theorem Rep.len:∀{t:Ty} {H:zH} {x:t.den} {cs:List Value} (_:Rep t H x cs),cs.length=t.size
 | .int _,_,_,_,h=>by rw [h.1];rfl
 | .bool,_,_,_,h=>by simp only [Rep] at h;rw [h];rfl
 | .str,_,_,_,h=>by rw [h.1];rfl
 | .nil,_,_,_,h=>by simp only [Rep] at h;rw [h];rfl
 | .pair a b,_,_,_,⟨c1,c2,e,h1,h2⟩=>by rw [e,List.length_append,h1.len,h2.len];rfl
 | .slice t,H,l,cs,⟨h0,p,cap,e,h1,h2⟩=>by rw [e];rfl
 | .arr n t,H,l,cs,⟨es,e,h1,h2,h3⟩=>by
   rw [e,flatten_len (k:=t.size),h1];· rfl
   intro c hc
   obtain ⟨i,hi,rfl⟩:=List.mem_iff_getElem.1 hc
   exact (h3 i _ _ (List.getElem?_eq_getElem (by omega)) (List.getElem?_eq_getElem hi)).len
section
variable {w:World} {Pg:Prg} {W:Nat→Prop} {lim:Nat}
def NoOwn (H:zH):Prop:=∀(i:Nat) b,H[i]? = some b→owned b=false
theorem NoOwn.snoc {H:zH} (h:NoOwn H) {b:Blk} (hb:owned b=false):NoOwn (H++[b]):=by
 intro i x hx
 by_cases hi:i<H.length
 ·rw [List.getElem?_append_left hi] at hx;exact h i x hx
 ·rw [List.getElem?_append_right (by omega)] at hx
  have:=(List.getElem?_eq_some_iff.1 hx).1
  have e:i-H.length=0:=by simp at this;omega
  rw [e] at hx;simp at hx;subst hx;exact hb
def Opens (Pg:Prg) (W:Nat→Prop) (lim:Nat) (w:World) (t:Ty) (cs:List Value):Prop:=
 ∀σ H,Inv Pg W lim σ H w→NoOwn H→∃X σ' as x,Inv Pg W lim σ' (H++X) w∧NoOwn (H++X)∧Sig.le σ σ'∧zLr σ' as cs∧Rep t (H++X) x as∧∀v∈cs,v.oneCell'=true
theorem Opens.atom1 {t:Ty} {v:Value} {x:t.den} (hv:atom v=true) (ho:v.oneCell'=true) (hr:∀H,Rep t H x [v]):Opens Pg W lim w t [v]:=fun σ H h hn=>
 ⟨[],σ,[v],x,by simpa using h,by simpa using hn,Sig.le_refl _,zLr.cons (.atom hv) zLr.nil,hr _,fun u hu=>by simp at hu;subst hu;exact ho⟩
theorem Opens.int {k:IntKind} {n:Int} (h:(Lit.int k n).wf=true):Opens Pg W lim w (.int k) [.int k n]:=by
 refine Opens.atom1 (x:=n) rfl rfl fun H=>⟨rfl, ?_⟩
 simpa [Lit.wf] using h
theorem Opens.bool {b:Bool}:Opens Pg W lim w .bool [.bool b]:=Opens.atom1 (t:=.bool) (x:=b) rfl rfl fun H=>rfl
theorem Opens.str {s:ByteArray} (h:s.size≤maxLen):Opens Pg W lim w .str [.string s]:=Opens.atom1 (t:=.str) (x:=s) rfl rfl fun H=>⟨rfl,h⟩
theorem Opens.nil:Opens Pg W lim w .nil []:=fun σ H h hn=>⟨[],σ,[],(),by simpa using h,by simpa using hn,Sig.le_refl _,zLr.nil,rfl,fun u hu=>by simp at hu⟩
theorem Opens.pair {a b:Ty} {c1 c2:List Value} (h1:Opens Pg W lim w a c1) (h2:Opens Pg W lim w b c2):Opens Pg W lim w (.pair a b) (c1++c2):=by
 intro σ H h hn
 obtain ⟨X,σ1,as,x,k1,k1',k2,k3,k4,k5⟩:=h1 σ H h hn
 obtain ⟨Y,σ2,bs,y,m1,m1',m2,m3,m4,m5⟩:=h2 σ1 _ k1 k1'
 refine ⟨X++Y,σ2,as++bs,(x,y),by rw [←List.append_assoc];exact m1,by rw [←List.append_assoc];exact m1',Sig.le_trans k2 m2,zLr.append (k3.mono m2) m3,⟨as,bs,rfl, ?_, ?_⟩,fun v hv=>?_⟩
 ·rw [←List.append_assoc];exact k4.app Y
 ·rw [←List.append_assoc];exact m4
 ·rcases List.mem_append.1 hv with hv | hv
  ·exact k5 v hv
  ·exact m5 v hv
def sigAt (σ:Sig) (n:Nat) (L:Loc):Sig:=fun i=>if i=n then some L else σ i
theorem sigAt_same {σ:Sig} {n:Nat} {L:Loc}:sigAt σ n L n=some L:=if_pos rfl
theorem sigAt_ne {σ:Sig} {n i:Nat} {L:Loc} (h:i≠n):sigAt σ n L i=σ i:=if_neg h
theorem Inv.snoc {σ:Sig} {H:zH} (h:Inv Pg W lim σ H w) (hn:NoOwn H) (L:Loc) (b:Blk) (hb:owned b=false) (hr:BlkRel Pg (sigAt σ H.length L) w L b) :
  Inv Pg W lim (sigAt σ H.length L) (H++[b]) w∧Sig.le σ (sigAt σ H.length L):=by
 have hle:Sig.le σ (sigAt σ H.length L):=by
  intro i K hi
  have:=h.lt hi
  rw [sigAt_ne (by omega)];exact hi
 have hno:=hn.snoc hb
 refine ⟨⟨?_,fun i j bi bj Li Lj hi hj hne ho=>?_,fun i x K hx ho=>?_,h.fresh,fun i hi=>?_⟩,hle⟩
 ·intro i x hx ha
  by_cases hi:i<H.length
  ·rw [List.getElem?_append_left hi] at hx
   obtain ⟨K,h1,h2⟩:=h.blk i x hx ha
   exact ⟨K,hle i K h1,h2.mono hle fun _=>rfl⟩
  ·rw [List.getElem?_append_right (by omega)] at hx
   have:=(List.getElem?_eq_some_iff.1 hx).1
   have e:i=H.length:=by simp at this;omega
   subst e
   rw [Nat.sub_self] at hx;simp at hx;subst hx
   exact ⟨L,sigAt_same,hr⟩
 ·rw [hno i bi hi] at ho;cases ho
 ·rw [hno i x hx] at ho;cases ho
 ·simp at hi
  rw [sigAt_ne (by omega)]
  exact h.dom i (by omega)
theorem opens_elems {t:Ty} {n:Nat} {cs:Nat→List Value} (hel:∀i,i<n→Opens Pg W lim w t (cs i)) {σ:Sig} {H:zH} (h:Inv Pg W lim σ H w) (hn:NoOwn H) :
  ∃X σ',∃es:List (List Value),∃xs:List t.den,Inv Pg W lim σ' (H++X) w∧NoOwn (H++X)∧Sig.le σ σ'∧es.length=n∧xs.length=n∧
   ∀(i:Nat) x e,xs[i]? = some x→es[i]? = some e→Rep t (H++X) x e∧zLr σ' e (cs i)∧∀v∈cs i,v.oneCell'=true:=by
 induction n with
 | zero=>exact ⟨[],σ,[],[],by simpa using h,by simpa using hn,Sig.le_refl _,rfl,rfl,fun i x e hx=>by simp at hx⟩
 | succ n ih=>
   obtain ⟨X,σ1,es,xs,k1,k2,k3,k4,k5,k6⟩:=ih fun i hi=>hel i (by omega)
   obtain ⟨Y,σ2,as,x,m1,m2,m3,m4,m5,m6⟩:=hel n (by omega) σ1 _ k1 k2
   refine ⟨X++Y,σ2,es++[as],xs++[x],by rw [←List.append_assoc];exact m1,by rw [←List.append_assoc];exact m2,Sig.le_trans k3 m3,by simp [k4],by simp [k5],fun i y e hy he=>?_⟩
   rw [←List.append_assoc]
   by_cases hi:i<n
   ·rw [List.getElem?_append_left (by omega)] at hy he
    obtain ⟨q1,q2,q3⟩:=k6 i y e hy he
    exact ⟨q1.app Y,q2.mono m3,q3⟩
   ·have hi':i=n:=by
     have:=(List.getElem?_eq_some_iff.1 hy).1
     simp at this;omega
    subst hi'
    rw [List.getElem?_append_right (by omega),k5] at hy
    rw [List.getElem?_append_right (by omega),k4] at he
    simp at hy he
    subst hy he
    exact ⟨m5,m4,m6⟩
theorem flatten_at {e:Nat}:∀(es:List (List Value)),(∀x∈es,x.length=e)→∀(j:Nat) v,es.flatten[j]? = some v→∃x,es[j / e]? = some x∧x[j % e]? = some v
 | [],_,j,v,h=>by simp at h
 | x::es,he,j,v,h=>by
   have hx:=he x (by simp)
   rw [List.flatten_cons] at h
   by_cases hj:j<x.length
   ·rw [List.getElem?_append_left hj] at h
    rw [hx] at hj
    rw [Nat.div_eq_of_lt hj,Nat.mod_eq_of_lt hj]
    exact ⟨x,rfl,h⟩
   ·rw [List.getElem?_append_right (by omega),hx] at h
    rw [hx] at hj
    obtain ⟨y,h1,h2⟩:=flatten_at es (fun z hz=>he z (by simp [hz])) _ _ h
    have hpos:0<e:=by
     rcases Nat.eq_zero_or_pos e with h0 | h0
     ·subst h0
      have hz:y.length=0:=he y (by have:=List.mem_of_getElem? h1;simp [this])
      rw [List.length_eq_zero_iff.1 hz] at h2;simp at h2
     ·exact h0
    have e1:j / e=(j-e) / e+1:=by rw [←Nat.add_div_right _ hpos];congr 1;omega
    have e2:j % e=(j-e) % e:=by rw [Nat.mod_eq_sub_mod (by omega)]
    rw [e1,e2]
    exact ⟨y,by simpa using h1,h2⟩
theorem Opens.arr {t:Ty} {n:Nat} {cs:List Value} (hl:cs.length=n*t.size) (hel:∀i,i<n→Opens Pg W lim w t ((cs.drop (i*t.size)).take t.size)):Opens Pg W lim w (.arr n t) cs:=by
 intro σ H h hn
 obtain ⟨X,σ1,es,xs,k1,k2,k3,k4,k5,k6⟩:=opens_elems (n:=n) (cs:=fun i=>(cs.drop (i*t.size)).take t.size) hel h hn
 have hes:∀e∈es,e.length=t.size:=by
  intro e he
  obtain ⟨i,hi,rfl⟩:=List.mem_iff_getElem.1 he
  exact (k6 i _ _ (List.getElem?_eq_getElem (by omega)) (List.getElem?_eq_getElem hi)).1.len
 have hat:∀(j:Nat) v,cs[j]? = some v→j / t.size<n∧j % t.size<t.size∧((cs.drop (j / t.size*t.size)).take t.size)[j % t.size]? = some v:=by
  intro j v hj
  have hjl:j<n*t.size:=by rw [←hl];exact (List.getElem?_eq_some_iff.1 hj).1
  have hpos:0<t.size:=by
   rcases Nat.eq_zero_or_pos t.size with h0 | h0
   ·rw [h0] at hjl;simp at hjl
   ·exact h0
  have hm:=Nat.mod_lt j hpos
  refine ⟨(Nat.div_lt_iff_lt_mul hpos).2 hjl,hm, ?_⟩
  rw [List.getElem?_take,if_pos hm,List.getElem?_drop,Nat.div_add_mod' j t.size]
  exact hj
 refine ⟨X,σ1,es.flatten,xs,k1,k2,k3,⟨by rw [flatten_len hes,k4,hl],fun j a v ha hv=>?_⟩,⟨es,rfl,k4,k5,fun i x e hx he=>(k6 i x e hx he).1⟩,fun v hv=>?_⟩
 ·obtain ⟨h1,h2,h3⟩:=hat j v hv
  obtain ⟨e,e1,e2⟩:=flatten_at es hes j a ha
  exact (k6 _ _ e (List.getElem?_eq_getElem (by omega)) e1).2.1.2 _ _ _ e2 h3
 ·obtain ⟨j,hj⟩:=List.mem_iff_getElem?.1 hv
  obtain ⟨h1,h2,h3⟩:=hat j v hj
  exact (k6 (j / t.size) _ _ (List.getElem?_eq_getElem (by omega)) (List.getElem?_eq_getElem (by omega))).2.2 v (List.mem_of_getElem? h3)
theorem Opens.nilslice {t:Ty}:Opens Pg W lim w (.slice t) [.slice none 0 0]:=by
 refine Opens.atom1 (t:=.slice t) (x:=([]:List t.den)) rfl rfl fun H=>⟨Nat.zero_le _,none,0,rfl,fun _=>⟨rfl,rfl⟩,fun a ha=>by cases ha⟩
theorem Opens.slice {t:Ty} {a:Addr} {len cap:Nat} {cs:Nat→List Value} (hl:len≤cap) (hc:cap≤maxLen) (hsz:t.size≠0)
  (hel:∀i,i<cap→w.cells? 0 (a.add (i*t.size)) t.size=some (cs i)∧Opens Pg W lim w t (cs i)):Opens Pg W lim w (.slice t) [.slice (some a) len cap]:=by
 intro σ H h hn
 by_cases h0:len=0
 ·subst h0
  obtain ⟨m1,m2⟩:=h.snoc hn ⟨a.block,a.off,cap*t.size⟩ .dead rfl trivial
  refine ⟨[.dead],_,[.slice (some ⟨H.length,0,none⟩) 0 (loose t.size)],[],m1,hn.snoc rfl,m2,zLr.cons ?_ zLr.nil,⟨Nat.zero_le _,some ⟨H.length,0,none⟩,loose t.size,rfl,fun h=>(by cases h),fun b hb=>?_⟩,fun v hv=>by simp at hv;subst hv;rfl⟩
  ·by_cases hcap:cap=0
   ·subst hcap
    exact .eslice sigAt_same (.inr ⟨_,rfl⟩)
   ·have hsp:a.spot=none:=by
     obtain ⟨h1,h2⟩:=hel 0 (by omega)
     obtain ⟨_,h3,h4⟩:=World.cells?_some h1
     have h5:=h4 0 (by omega)
     rw [List.getElem?_eq_getElem (by omega)] at h5
     have:=World.cell?_spot h5
     simpa [Addr.add] using this
    obtain ⟨b,o,s⟩:=a
    simp only at hsp;subst hsp
    exact .lslice (L:=⟨b,o,cap*t.size⟩) (k:=0) sigAt_same hl (by simp)
  ·cases hb
   exact ⟨rfl,rfl,rfl,fun h=>absurd rfl h⟩
 ·obtain ⟨X,σ1,es,xs,k1,k2,k3,k4,k5,k6⟩:=opens_elems (n:=len) (cs:=cs) (fun i hi=>(hel i (by omega)).2) h hn
  have hsp:a.spot=none:=by
   obtain ⟨h1,h2⟩:=hel 0 (by omega)
   obtain ⟨_,h3,h4⟩:=World.cells?_some h1
   have h5:=h4 0 (by omega)
   rw [List.getElem?_eq_getElem (by omega)] at h5
   have:=World.cell?_spot h5
   simpa [Addr.add] using this
  have hcell:∀i,i<len→∀j,j<t.size→∃v,(cs i)[j]? = some v∧w.cell? ⟨a.block,a.off+(i*t.size+j),none⟩=some v:=by
   intro i hi j hj
   obtain ⟨_,h3,h4⟩:=World.cells?_some (hel i (by omega)).1
   have h5:=h4 j hj
   have hg:(cs i)[j]? = some ((cs i)[j]'(by omega)):=List.getElem?_eq_getElem _
   rw [hg,Go.Deep.add_add] at h5
   refine ⟨_,hg, ?_⟩
   rw [←h5]
   congr 1
   obtain ⟨b,o,s⟩:=a
   simp only at hsp;subst hsp
   exact (addr_add (b:=b) (o:=o)).symm
  obtain ⟨v0,_,hv0⟩:=hcell 0 (by omega) 0 (by omega)
  have hheap:∃cells el fz,w.heap[a.block]? = some (.cells cells el fz):=by
   unfold World.cell? at hv0
   split at hv0
   ·rename_i c el fz hh;exact ⟨c,el,fz,hh⟩
   ·cases hv0
  obtain ⟨cells,el,fz,hh⟩:=hheap
  have hes:∀e∈es,e.length=t.size:=by
   intro e he
   obtain ⟨i,hi,rfl⟩:=List.mem_iff_getElem.1 he
   exact (k6 i _ _ (List.getElem?_eq_getElem (by omega)) (List.getElem?_eq_getElem hi)).1.len
  have hblk:BlkRel Pg (sigAt σ1 (H++X).length ⟨a.block,a.off,cap*t.size⟩) w ⟨a.block,a.off,cap*t.size⟩ (.cells true es.flatten):=by
   refine ⟨cells,el,fz,hh,fun j v hv=>?_,fun h=>by cases h⟩
   obtain ⟨e,h1,h2⟩:=flatten_at es hes j v hv
   have hi:j / t.size<len:=by have:=(List.getElem?_eq_some_iff.1 h1).1;omega
   have hj:j % t.size<t.size:=Nat.mod_lt _ (by omega)
   obtain ⟨q1,q2,q3⟩:=k6 _ _ e (List.getElem?_eq_getElem (by omega)) h1
   obtain ⟨u,r1,r2⟩:=hcell _ hi _ hj
   refine ⟨u, ?_,(q2.2 _ _ _ h2 r1).mono ?_,q3 u (List.mem_of_getElem? r1)⟩
   ·rw [Nat.div_add_mod' j t.size] at r2
    simpa [World.cell?,hh] using r2
   ·intro i K hi
    have:=k1.lt hi
    rw [sigAt_ne (by omega)];exact hi
  obtain ⟨m1,m2⟩:=k1.snoc k2 _ _ rfl hblk
  refine ⟨X++[.cells true es.flatten],_,[.slice (some ⟨(H++X).length,0,none⟩) len (loose t.size)],xs,by rw [←List.append_assoc];exact m1,by rw [←List.append_assoc];exact k2.snoc rfl,Sig.le_trans k3 m2,zLr.cons ?_ zLr.nil, ?_,fun v hv=>by simp at hv;subst hv;rfl⟩
  ·obtain ⟨b,o,s⟩:=a
   simp only at hsp;subst hsp
   exact .lslice (L:=⟨b,o,cap*t.size⟩) (k:=0) sigAt_same hl (by simp)
  ·refine ⟨by rw [k5];omega,some ⟨(H++X).length,0,none⟩,loose t.size,by rw [k5],(fun h=>(by cases h)),fun b hb=>?_⟩
   cases hb
   refine ⟨rfl,rfl,rfl,fun _=>⟨es, ?_,by omega,fun i x e hx he=>?_⟩⟩
   ·rw [←List.append_assoc];exact zHn
   ·rw [←List.append_assoc];exact (k6 i x e hx he).1.app _
section
variable (P:Program)
def tyFields (f:TypeId→Option Ty):List Field→Nat→Option Ty
 | [],_=>some .nil
 | fd::fs,off=>if fd.offset=off then match f fd.type with
   | some ty=>if ty.size=P.cellsOf fd.type then match tyFields f fs (off+ty.size) with
     | some r=>some (.pair ty r)
     | none=>none
     else none
   | none=>none
   else none
def tyOf:Nat→TypeId→Option Ty
 | 0,_=>none
 | n+1,t=>match P.underlying t with
   | some .bool=>some .bool
   | some (.int k)=>some (.int k)
   | some .string=>some .str
   | some (.slice e)=>match tyOf n e with
     | some ty=>if ty.size=P.cellsOf e∧ty.size≠0 then some (.slice ty) else none
     | none=>none
   | some (.array k e)=>match tyOf n e with
     | some ty=>if ty.size=P.cellsOf e∧k*ty.size=P.cellsOf t then some (.arr k ty) else none
     | none=>none
   | some (.struct fs)=>match tyFields P (tyOf n) fs.toList 0 with
     | some ty=>if ty.size=P.cellsOf t then some ty else none
     | none=>none
   | _=>none
end
variable {P:Program} {H:Type} {enc:TypeId×Value→H} {held:Bool}
theorem opens_fields {n m:Nat} {cs:List Value} (ih:∀t ty cs x,tyOf P n t=some ty→DataW.trod enc P w 0 (fun _=>true) held m t cs=some x→Opens Pg W lim w ty cs) :
  ∀(fs:List Field) (off:Nat) (xs:List (DataW H×List MemPlace)) (ty:Ty),tyFields P (tyOf P n) fs off=some ty→off+ty.size=cs.length→(∀(i:Nat) f,fs[i]? = some f→DataW.trod enc P w 0 (fun _=>true) held m f.type ((cs.drop f.offset).take (P.cellsOf f.type))=xs[i]?)→xs.length=fs.length→Opens Pg W lim w ty (cs.drop off)
 | [],off,xs,ty,ht,hl,hx,hxl=>by
   simp only [tyFields,Option.some.injEq] at ht
   subst ht
   rw [List.drop_eq_nil_of_le (by simp [Ty.size] at hl;omega)]
   exact Opens.nil
 | fd::fs,off,xs,ty,ht,hl,hx,hxl=>by
   simp only [tyFields] at ht
   split at ht
   case isFalse=>cases ht
   rename_i ho
   split at ht
   case h_2=>cases ht
   rename_i ty1 h1
   split at ht
   case isFalse=>cases ht
   rename_i hs
   split at ht
   case h_2=>cases ht
   rename_i r hr
   cases ht
   simp only [Ty.size] at hl
   match xs,hxl with
   | x0::xs,hxl=>
     have h2:=hx 0 fd rfl
     simp only [List.getElem?_cons_zero] at h2
     have h3:=ih _ _ _ _ h1 h2
     have h4:=opens_fields (cs:=cs) ih fs (off+ty1.size) xs r hr (by omega) (fun i f hf=>by simpa using hx (i+1) f (by simpa using hf)) (by simpa using hxl)
     rw [ho,←hs] at h3
     have:=Opens.pair h3 h4
     rw [←List.drop_drop,List.take_append_drop] at this
     exact this
theorem opens_trod:∀(n m:Nat) {t:TypeId} {ty:Ty} {cs:List Value} {x:DataW H×List MemPlace},tyOf P n t=some ty→DataW.trod enc P w 0 (fun _=>true) held m t cs=some x→Opens Pg W lim w ty cs
 | 0,_,t,ty,cs,x,ht,_=>by simp [tyOf] at ht
 | n+1,m,t,ty,cs,x,ht,h=>by
   simp only [tyOf] at ht
   split at ht
   ·rename_i hu;cases ht
    obtain ⟨b,rfl,_⟩:=DataW.trod_bool hu h
    exact Opens.bool
   ·rename_i k hu;cases ht
    obtain ⟨b,rfl,_,hw⟩:=DataW.trod_int hu h
    exact Opens.int hw
   ·rename_i hu;cases ht
    obtain ⟨b,rfl,_,hw⟩:=DataW.trod_string hu h
    exact Opens.str hw
   ·rename_i e hu
    split at ht
    case h_2=>cases ht
    rename_i ty' he
    split at ht
    case isFalse=>cases ht
    rename_i hs
    cases ht
    rcases Go.Deep.open_slice hu h with ⟨rfl,_⟩ | ⟨a,len,cap,mm,m',D,Pl,rfl,hb,hl,hm,hmm,hx,hi⟩
    ·exact Opens.nilslice
    ·simp only [if_true] at hmm
     subst hmm
     have hel:∀i,∃cs',i<mm→w.cells? 0 (a.add (i*ty'.size)) ty'.size=some cs'∧Opens Pg W lim w ty' cs':=by
      intro i
      by_cases him:i<mm
      ·obtain ⟨cs',h1,h2⟩:=hi i him
       exact ⟨cs',fun _=>⟨by rw [hs.1];exact h1,opens_trod n m' he h2⟩⟩
      ·exact ⟨[],fun h=>absurd h him⟩
     exact Opens.slice (cs:=fun i=>Classical.choose (hel i)) hl hm hs.2 fun i hi=>Classical.choose_spec (hel i) hi
   ·rename_i k e hu
    split at ht
    case h_2=>cases ht
    rename_i ty' he
    split at ht
    case isFalse=>cases ht
    rename_i hs
    cases ht
    obtain ⟨xs,m',_,_,hcl,hxl,hf⟩:=DataW.trod_array hu h
    refine Opens.arr (by rw [hcl,hs.2]) fun i hi=>?_
    have h1:=hf i hi
    rw [List.getElem?_eq_getElem (by omega)] at h1
    rw [hs.1]
    exact opens_trod n m' he h1
   ·rename_i fs hu
    split at ht
    case h_2=>cases ht
    rename_i ty' he
    split at ht
    case isFalse=>cases ht
    rename_i hs
    cases ht
    obtain ⟨xs,m',_,_,hcl,hxl,hf⟩:=DataW.trod_struct hu h
    have:=opens_fields (cs:=cs) (fun t ty cs x h1 h2=>opens_trod n m' h1 h2) fs.toList 0 xs ty he (by omega) (fun i f hf'=>hf i f (by simpa using hf')) (by simpa using hxl)
    simpa using this
   ·cases ht
end
def isRow:Ty→Bool
 | .nil=>true
 | .pair _ _=>true
 | .arr _ _=>true
 | _=>false
def RepV (t:Ty) (H:zH) (x:t.den) (v:Value):Prop:=if isRow t=true then ∃as,v=.agg as.toArray∧Rep t H x as else Rep t H x [v]
abbrev dens:List Ty→Type
 | []=>Unit
 | t::ts=>t.den×dens ts
def RepAll:(ts:List Ty)→zH→dens ts→List Value→Prop
 | [],_,_,vs=>vs=[]
 | t::ts,H,x,vs=>∃v r,vs=v::r∧RepV t H x.1 v∧RepAll ts H x.2 r
theorem RepV.app {t:Ty} {H:zH} {x:t.den} {v:Value} (h:RepV t H x v) (X:zH):RepV t (H++X) x v:=by
 unfold RepV at *
 split
 ·rename_i hr
  rw [if_pos hr] at h
  obtain ⟨as,e,k⟩:=h
  exact ⟨as,e,k.app X⟩
 ·rename_i hr
  rw [if_neg hr] at h
  exact h.app X
section
variable {P:Program} {H:Type} {enc:TypeId×Value→H} {w:World} {Pg:Prg} {W:Nat→Prop} {lim:Nat}
theorem tyFields_row {f:TypeId→Option Ty}:∀{fs:List Field} {off:Nat} {ty:Ty},tyFields P f fs off=some ty→isRow ty=true
 | [],off,ty,h=>by simp only [tyFields,Option.some.injEq] at h;subst h;rfl
 | fd::fs,off,ty,h=>by
   simp only [tyFields] at h
   split at h
   ·split at h
    ·split at h
     ·split at h
      ·cases h;rfl
      ·cases h
     ·cases h
    ·cases h
   ·cases h
theorem arg_cells {n:Nat} {t:TypeId} {ty:Ty} {v:Value} {r:Reach} {base:Nat} (ht:tyOf P n t=some ty) (hv:Value.okWide P w r base t v):if isRow ty=true then ∃cs,v=.agg cs else v.cells.toList=[v]:=by
 cases n with
 | zero=>simp [tyOf] at ht
 | succ n=>
   simp only [tyOf] at ht
   split at ht
   ·rename_i hu;cases ht
    obtain ⟨b,rfl⟩:=okWide_bool hu hv
    rfl
   ·rename_i k hu;cases ht
    obtain ⟨b,rfl⟩:=okWide_int hu hv
    rfl
   ·rename_i hu;cases ht
    obtain ⟨b,rfl⟩:=okWide_string hu hv
    rfl
   ·rename_i e hu
    split at ht
    case h_2=>cases ht
    split at ht
    case isFalse=>cases ht
    cases ht
    obtain ⟨a,l,c,rfl⟩:=okWide_slice hu hv
    rfl
   ·rename_i k e hu
    split at ht
    case h_2=>cases ht
    rename_i ty' he
    split at ht
    case isFalse=>cases ht
    cases ht
    have hv2:=hv
    simp only [Value.okWide,hu] at hv2
    obtain ⟨cs,rfl,_⟩:=hv2
    exact ⟨cs,rfl⟩
   ·rename_i fs hu
    split at ht
    case h_2=>cases ht
    rename_i ty' he
    split at ht
    case isFalse=>cases ht
    cases ht
    obtain ⟨cs,rfl,_⟩:=okWide_struct hu hv
    rw [if_pos (tyFields_row he)]
    exact ⟨cs,rfl⟩
   ·cases ht
theorem opens_args {n:Nat} {r:Reach} {base:Nat}:∀{ts:List TypeId} {vs:List Value} {ds:List (DataW H)} {ps:List MemPlace} {tys:List Ty},DataW.TrodAll enc P w 0 (fun _=>true) true ts vs ds ps→ts.mapM (tyOf P n)=some tys→
  (∀(j:Nat) t v,ts[j]? = some t→vs[j]? = some v→Value.okWide P w r base t v)→∀σ H,Inv Pg W lim σ H w→NoOwn H→
  ∃X σ' as x,Inv Pg W lim σ' (H++X) w∧NoOwn (H++X)∧Sig.le σ σ'∧zLr σ' as vs∧RepAll tys (H++X) x as
 | [],[],[],ps,tys,_,ht,_,σ,Hp,hi,hn=>by
   simp at ht;subst ht
   exact ⟨[],σ,[],(),by simpa using hi,by simpa using hn,Sig.le_refl _,zLr.nil,rfl⟩
 | t::ts,v::vs,d::ds,ps,tys,hA,ht,hv,σ,Hp,hi,hn=>by
   obtain ⟨p,q,h1,h2,rfl⟩:=hA
   rw [List.mapM_cons] at ht
   obtain ⟨ty,hty,ht⟩:=zOb ht
   obtain ⟨tr,htr,ht⟩:=zOb ht
   cases ht
   obtain ⟨m,hm⟩:=h1
   have hc:=arg_cells hty (hv 0 t v rfl rfl)
   obtain ⟨X,σ1,as,x,k1,k2,k3,k4,k5,k6⟩:=opens_trod n m hty hm σ Hp hi hn
   obtain ⟨Y,σ2,bs,y,m1,m2,m3,m4,m5⟩:=opens_args h2 htr (fun j t' v' e1 e2=>hv (j+1) t' v' (by simpa using e1) (by simpa using e2)) σ1 _ k1 k2
   have key:∃av,zVr σ1 av v∧RepV ty (Hp++X) x av:=by
    split at hc
    ·rename_i hr
     obtain ⟨cs,rfl⟩:=hc
     refine ⟨.agg as.toArray,zVr.agg_iff.2 ⟨by simpa [Value.cells] using k4,by simpa [Value.cells] using k6⟩, ?_⟩
     unfold RepV;rw [if_pos hr]
     exact ⟨as,rfl,k5⟩
    ·rename_i hr
     rw [hc] at k4
     have hl:=k4.1
     match as,hl,k4,k5 with
     | [a],_,k4,k5=>
       refine ⟨a,k4.head, ?_⟩
       unfold RepV;rw [if_neg hr]
       exact k5
   obtain ⟨av,q1,q2⟩:=key
   refine ⟨X++Y,σ2,av::bs,(x,y),by rw [←List.append_assoc];exact m1,by rw [←List.append_assoc];exact m2,Sig.le_trans k3 m3,zLr.cons (q1.mono m3) m4,av,bs,rfl, ?_, ?_⟩
   ·rw [←List.append_assoc];exact q2.app Y
   ·rw [←List.append_assoc];exact m5
 | [],[],_::_,_,_,hA,_,_,_,_,_,_=>hA.elim
 | [],_::_,_,_,_,hA,_,_,_,_,_,_=>hA.elim
 | _::_,[],_,_,_,hA,_,_,_,_,_,_=>hA.elim
 | _::_,_::_,[],_,_,hA,_,_,_,_,_,_=>hA.elim
theorem trodAll_stays (hl:laidOutB P=true) {w':World} (hb:Below w.heap.size w w'):∀{ts:List TypeId} {vs:List Value} {ds:List (DataW H)} {ps:List MemPlace},(∀t∈ts,P.readableRec t=true∧t<P.types.size)→DataW.TrodAll enc P w 0 (fun _=>true) true ts vs ds ps→
  (∀x∈ps,x.block<w.heap.size)→DataW.TrodAll enc P w' 0 (fun b=>decide (b<w.heap.size)) true ts vs ds ps
 | [],[],[],ps,_,h,_=>h
 | t::ts,v::vs,d::ds,ps,hr,h,hlt=>by
   obtain ⟨p,q,h1,h2,rfl⟩:=h
   exact ⟨p,q,Below.trod hl (hr t (by simp)).1 (hr t (by simp)).2 h1 hb fun x hx=>hlt x (by simp [hx]),trodAll_stays hl hb (fun t' ht'=>hr t' (by simp [ht'])) h2 fun x hx=>hlt x (by simp [hx]),rfl⟩
 | [],[],_::_,_,_,hA,_=>hA.elim
 | [],_::_,_,_,_,hA,_=>hA.elim
 | _::_,[],_,_,_,hA,_=>hA.elim
 | _::_,_::_,[],_,_,hA,_=>hA.elim
theorem trodAll_length:∀{ts:List TypeId} {vs:List Value} {ds:List (DataW H)} {ps:List MemPlace},DataW.TrodAll enc P w 0 (fun _=>true) true ts vs ds ps→ds.length=ts.length
 | [],[],[],ps,_=>rfl
 | t::ts,v::vs,d::ds,ps,h=>by
   obtain ⟨p,q,h1,h2,rfl⟩:=h
   simp [trodAll_length h2]
 | [],[],_::_,_,hA=>hA.elim
 | [],_::_,_,_,hA=>hA.elim
 | _::_,[],_,_,hA=>hA.elim
 | _::_,_::_,[],_,hA=>hA.elim
end
theorem law_returns {C:Checked} {os:Os} {g:FuncId} {fn:Func} {s:ChangeSpec} {E:Env} {tys:List Ty} {tb:TypeId} {conds:List PathCond} {H:Type} {enc:TypeId×Value→H}
  (own:ownKnob C.prog.godebug=none) (started:os.Started) (noInit:C.prog.inits.idxOf? g=none) (hfn:C.prog.funcs[g]? = some fn) (hvars:s.vars=[])
  (hspec:∀ds:List (DataW H),ds.length=fn.params.size→s.fn H ds={ results:=[.lit (.bool true)],args:=ds })
  (hres:fn.resultTypes=#[tb]) (hb:C.prog.underlying tb=some .bool) (htys:fn.params.toList.mapM (tyOf C.prog 9)=some tys)
  (hread:∀t∈fn.params.toList,C.prog.readableRec t=true∧t<C.prog.types.size) (hlaid:laidOutB C.prog=true) (hE:EnvOk C.prog E)
  (witness:∃(w:World) (tape:Tape) (i:Input),w.os=os∧(w.forCall tape i).Shaped C.prog∧i.vars=[]∧Input.okWide C.prog (w.forCall tape i) .any w.heap.size g i∧
   s.pre6 enc C.prog fn conds false (w.forCall tape i).memory i.args∧({}:Assume).holds C.prog (lone (Frame.enter C.prog g i.args .normal) [] (w.forCall tape i)))
  (run:∀H vs x,RepAll tys H x vs→CallR E false H.length g vs H fun v _=>v=.bool true) :
  ReturnsInHanded {} C os g .any (s.pre6 enc C.prog fn conds false) (s.post enc C.prog fn false true false false):=by
 refine returnsInHanded_of_change own started noInit hfn witness ?_
 intro w base args ds gs before hval hW hcnd hholds
 have hW':=hW
 obtain ⟨p,q,hA,hV,rfl,hfz,hnd⟩:=hW
 rw [hvars] at hV
 obtain ⟨rfl,rfl⟩:=trodVars_none hV
 obtain ⟨X,σ,as,x,k1,k2,k3,k4,k5⟩:=opens_args hA htys (fun j t v h1 h2=>hval j t v (by simpa using h1) (by simpa using h2)) (fun _=>none) [] (Inv.nil (P:=C.prog) (E:=E) w) (fun i b hb=>by simp at hb)
 rw [List.nil_append] at k1 k2 k5
 have k1':Inv (Prg.mk C.prog E.pure) (fun k=>w.heap.size≤k) X.length σ X w:=⟨k1.blk,k1.inj,(fun i b L hb ho=>by rw [k2 i b hb] at ho;cases ho),k1.fresh,k1.dom⟩
 obtain ⟨n,LL,hx,hrun⟩:=run X as x k5
 have hcall:=(callOkS hE n).calls _ _ _ _ _ _ hx (Nat.le_refl _) _ _ _ _ k1' k4
 rw [show args.toList.toArray=args by simp] at hcall
 refine hcall.mono fun e w' hp=>?_
 obtain ⟨r,hr,v',σ',rfl,hv,hinv,hst,_⟩:=hp
 rw [hrun.2 r hr] at hv
 rw [hv.bool_left]
 have hbel:Below w.heap.size w w':=⟨hst.os,hst.tape,hst.output,hst.size,fun k hk=>hst.block k (by omega)⟩
 have hlt:∀x∈p,x.block<w.heap.size:=fun x hx=>by
  have:=hW'.lt x (by simpa using hx)
  simpa using this
 have hs:=hspec ds (by simpa using trodAll_length hA)
 refine ⟨_,rfl,_,_,_,[],p,[],hW', ?_, ?_, ?_,hbel.frame _,fun h=>by cases h⟩
 ·rw [List.append_nil,hs,hres]
  exact trodAll_mk1 (shut_bool hb true)
 ·rw [List.append_nil,hs]
  exact trodAll_stays hlaid hbel hread hA hlt
 ·rw [List.append_nil,hs,hvars]
  rfl
theorem Rep.sl {t:Ty} {H:zH} {l:List t.den} {cs:List Value} {α:Type} (f:t.den→α) (enc:α→List Value) (he:∀H x c,Rep t H x c→c=enc (f x)) (h:Rep (.slice t) H l cs) :
  ∃p cap,cs=[.slice p (l.map f).length cap]∧Sl H enc t.size p (l.map f)∧l.length<2 ^ 63:=by
 obtain ⟨h0,p,cap,e,h1,h2⟩:=h
 have hlen:l.length<2 ^ 63:=by unfold maxLen at h0;omega
 refine ⟨p,cap,by rw [e,List.length_map], ?_,hlen⟩
 cases p with
 | none=>simp only [Sl];rw [(h1 rfl).1];rfl
 | some a=>
   obtain ⟨k1,k2,k3,k4⟩:=h2 a rfl
   refine ⟨k1,fun hn=>?_⟩
   obtain ⟨es,m1,m2,m3⟩:=k4 (by rintro rfl;exact hn rfl)
   have key:es.flatten=(l.map f).flatMap enc:=by
    have:es=l.map fun x=>enc (f x):=by
     apply List.ext_getElem (by simpa using m2)
     intro i i1 i2
     have i3:i<l.length:=by simpa using i2
     have:=he _ _ _ (m3 i l[i] es[i] (List.getElem?_eq_getElem _) (List.getElem?_eq_getElem _))
     rw [this];simp
    rw [this,List.flatMap_def,List.map_map]
    rfl
   have hfl:es.flatten.length=l.length*t.size:=by
    have:∀(es:List (List Value)),(∀x∈es,x.length=t.size)→es.flatten.length=es.length*t.size:=by
     intro es
     induction es with
     | nil=>simp
     | cons x es ih=>intro h;simp [ih fun y hy=>h y (by simp [hy]),h x (by simp),Nat.add_mul,Nat.add_comm]
    rw [this es,m2]
    intro x hx
    obtain ⟨i,hi,rfl⟩:=List.mem_iff_getElem.1 hx
    exact (m3 i _ _ (List.getElem?_eq_getElem (by omega)) (List.getElem?_eq_getElem hi)).len
   refine ⟨true,_,m1, ?_, ?_⟩
   ·rw [k2,hfl,List.length_map];omega
   ·rw [k2,List.drop_zero,key,List.take_of_length_le]
    rw [←key,hfl,List.length_map]
    exact Nat.le_refl _
theorem Rep.slice_mem {t:Ty} {H:zH} {l:List t.den} {cs:List Value} (h:Rep (.slice t) H l cs):∀x∈l,∃c,Rep t H x c:=by
 intro x hx
 obtain ⟨h0,p,cap,e,h1,h2⟩:=h
 cases p with
 | none=>rw [(h1 rfl).1] at hx;simp at hx
 | some a=>
   obtain ⟨k1,k2,k3,k4⟩:=h2 a rfl
   obtain ⟨es,m1,m2,m3⟩:=k4 (by rintro rfl;simp at hx)
   obtain ⟨i,hi,rfl⟩:=List.mem_iff_getElem.1 hx
   exact ⟨_,m3 i _ _ (List.getElem?_eq_getElem hi) (List.getElem?_eq_getElem (by omega))⟩
theorem Rep.nil_of {H:zH} {x:Ty.nil.den} {cs:List Value} (h:Rep .nil H x cs):cs=[]:=h
theorem RepV.row {t:Ty} {H:zH} {x:t.den} {v:Value} (hr:isRow t=true) (h:RepV t H x v):∃cs,v=.agg cs.toArray∧Rep t H x cs:=by
 unfold RepV at h
 rw [if_pos hr] at h
 exact h
theorem RepV.one {t:Ty} {H:zH} {x:t.den} {v:Value} (hr:isRow t=false) (h:RepV t H x v):Rep t H x [v]:=by
 unfold RepV at h
 rw [if_neg (by rw [hr];decide)] at h
 exact h
end Go.AM

namespace Go.AM
structure Chg (A:List Nat) (H H':zH):Prop where
 len:H.length≤H'.length
 other:∀j,j<H.length→j∉A→zG H' j=zG H j
section
variable {A B:List Nat} {H H' K:zH}
theorem Chg.refl:Chg A H H:=⟨Nat.le_refl _,fun _ _ _=>rfl⟩
theorem Chg.trans (h:Chg A H H') (k:Chg A H' K):Chg A H K:=⟨Nat.le_trans h.len k.len,fun j hj hA=>(k.other j (by have:=h.len;omega) hA).trans (h.other j hj hA)⟩
theorem Chg.trans' (h:Chg A H H') (k:Chg B H' K) (hB:∀j,j∈B→j<H.length→j∈A):Chg A H K:=⟨Nat.le_trans h.len k.len,fun j hj hA=>(k.other j (by have:=h.len;omega) fun hb=>hA (hB j hb hj)).trans (h.other j hj hA)⟩
theorem Chg.mono (h:Chg A H H') (hs:∀j,j<H.length→j∈A→j∈B):Chg B H H':=⟨h.len,fun j hj hB=>h.other j hj fun hA=>hB (hs j hj hA)⟩
theorem Chg.app (h:Chg A H H') {X:zH}:Chg A H (H'++X):=⟨by have:=h.len;simp;omega,fun j hj hA=>by rw [zHo (by have:=h.len;omega)];exact h.other j hj hA⟩
theorem Chg.pre (h:Chg A (H++K) H'):Chg A H H':=⟨by have:=h.len;simp at this;omega,fun j hj hA=>by rw [h.other j (by simp;omega) hA,zHo hj]⟩
theorem Chg.mut {R:Nat} (h:Chg A H H') (m:Mut H' K R) (hR:R∈A∨H.length≤R):Chg A H K:=⟨by rw [m.len];exact h.len,fun j hj hA=>by
 rw [m.other j (by rintro rfl;rcases hR with h1 | h1;exact hA h1;omega)];exact h.other j hj hA⟩
theorem Chg.set {R:Nat} {b:Blk} (h:Chg A H H') (hR:R∈A∨H.length≤R):Chg A H (H'.set R b):=h.mut (R:=R) ⟨by simp,fun j hj=>zHs hj⟩ hR
theorem Chg.get (h:Chg A H H') {j:Nat} {b:Blk} (hj:zG H j=b) (hl:j<H.length) (hA:j∉A):zG H' j=b:=by rw [h.other j hl hA];exact hj
theorem Chg.cells (h:Chg A H H') {j:Nat} {ro:Bool} {c:List Value} (hj:zG H j=.cells ro c) (hA:j∉A):zG H' j=.cells ro c:=h.get hj (zHa hj) hA
theorem Chg.sl {α:Type} {enc:α→List Value} {e:Nat} {p:Option Addr} {l:List α} (h:Chg A H H') (hs:Sl H enc e p l) (hp:∀a,p=some a→l≠[]→a.block∉A):Sl H' enc e p l:=by
 cases p with
 | none=>exact hs
 | some a=>
   refine ⟨hs.1,fun hn=>?_⟩
   obtain ⟨ro,c,h2,h3⟩:=hs.2 hn
   exact ⟨ro,c,h.cells h2 (hp a rfl hn),h3⟩
theorem Ext.chg (h:Ext H H'):Chg A H H':=by obtain ⟨X,rfl⟩:=h;exact Chg.refl.app
theorem Chg.ext (h:Chg [] H H'):Ext H H':=by
 refine ⟨H'.drop H.length, ?_⟩
 apply List.ext_getElem
 ·have:=h.len;simp;omega
 intro i h1 h2
 by_cases hi:i<H.length
 ·rw [List.getElem_append_left hi]
  have:=h.other i hi (by simp)
  unfold zG at this
  rw [List.getD_eq_getElem?_getD,List.getD_eq_getElem?_getD,List.getElem?_eq_getElem h1,List.getElem?_eq_getElem hi] at this
  exact this
 ·rw [List.getElem_append_right (by omega),List.getElem_drop]
  congr 1
  omega
end
theorem Sl.lt {α:Type} {H:zH} {enc:α→List Value} {e:Nat} {a:Addr} {l:List α} (h:Sl H enc e (some a) l) (hn:l≠[]):a.block<H.length:=by
 obtain ⟨ro,c,h2,_⟩:=h.2 hn
 exact zHa h2
theorem Sl.some {α:Type} {H:zH} {enc:α→List Value} {e:Nat} {p:Option Addr} {l:List α} (h:Sl H enc e p l) (hn:l≠[]):∃a,p=some a:=by
 cases p with
 | none=>exact absurd h hn
 | some a=>exact ⟨a,rfl⟩
section
variable {α:Type} [Inhabited α] {H:zH} {enc:α→List Value} {e:Nat} {p:Option Addr} {l:List α}
omit [Inhabited α] in
theorem store_elt {lim S:Nat} (he:∀x,(enc x).length=e) (hp:p=Option.some ⟨S,0,none⟩) (hS:zG H S=.cells false (l.flatMap enc)) (hl:lim≤S) {i:Nat} (hi:i<l.length) (y:α):AM.storeAt lim H (elt p e i) (enc y)=Option.some (H.set S (.cells false ((l.set i y).flatMap enc))):=by
 subst hp
 have h1:i*e+e≤l.length*e:=by
  have:=Nat.mul_le_mul_right e (Nat.succ_le_of_lt hi)
  rw [Nat.succ_mul] at this;exact this
 simp only [elt,addrOf,Option.getD_some,addr_add,storeAt_lit,hS,Nat.zero_add]
 rw [if_pos ⟨hl,by rw [he,flat_len he];exact h1⟩,flat_set he y _ _ hi]
end
theorem store_mut {α:Type} {G:zH} {enc:α→List Value} {e:Nat} {p:Option Addr} {l:List α} {lim S:Nat} (he:∀x,(enc x).length=e) (hp:p=some ⟨S,0,none⟩) (hS:zG G S=.cells false (l.flatMap enc)) (hl:lim≤S) {i:Nat} (hi:i<l.length) (y:α) :
  ∃G',(∀X,AM.storeAt lim (G++X) (elt p e i) (enc y)=some (G'++X))∧zG G' S=.cells false ((l.set i y).flatMap enc)∧Mut G G' S:=by
 obtain ⟨G',h1,h2,h3⟩:=mut_set (zHa hS) (.cells false ((l.set i y).flatMap enc))
 exact ⟨G',fun X=>by rw [store_elt he hp (by rw [zHo (zHa hS)];exact hS) hl hi,h1],h2,h3⟩
theorem Own.step {α:Type} {lim lim' e bytes cap:Nat} {G:zH} {enc:α→List Value} {p:Option Addr} {l:List α} (h:Own lim G enc e p cap l) (hll:lim'≤lim) (he:∀x,(enc x).length=e) (he0:e≠0) (x:α) (hb:(l.length+1)*bytes≤maxBytes) (hn:l.length+1<2 ^ 61) (hlG:lim≤G.length)
  (X:zH) (b k:Nat) (hx:zG (G++X) b=.cells false (enc x)) :
  ∃G2,zAa lim' none e bytes false (.slice p l.length cap) (.slice (some ⟨b,0,none⟩) 1 k) (G++X)=some (.slice (some ⟨G.length+X.length,0,none⟩) (l.length+1) (loose e),G2++[])∧
   Own lim (G2++[]) enc e (some ⟨G.length+X.length,0,none⟩) (loose e) (l++[x])∧(∀A H0,H0.length≤lim→Chg A H0 G→Chg A H0 (G2++[]))∧(∀j,j<G.length→(∀a,p=some a→j≠a.block)→zG (G2++[]) j=zG G j)∧G2.length=G.length+X.length+1∧
   (∀j,j<X.length→zG (G2++[]) (G.length+j)=X.getD j .dead):=by
 obtain ⟨G',R,hR1,hR2,hm,_,hp⟩:=h.push1 (lim':=lim') (bytes:=bytes) hll he he0 x hb hn
 have hRl:lim≤R:=by
  rcases Option.eq_none_or_eq_some p with h1 | ⟨a,h1⟩
  ·rw [hR1 h1];exact hlG
  ·rw [hR2 a h1];exact (h.block h1).1
 refine ⟨G'++(X++[.cells false ((l++[x]).flatMap enc)]),by rw [List.append_nil];exact hp X b k hx, ?_,fun A H0 h1 h2=>?_,fun j hj hp=>?_,by simp [hm.len];omega,fun j hj=>?_⟩
 ·rw [List.append_nil]
  refine Own.new ?_ (by omega)
  rw [←List.append_assoc,←hm.len,←List.length_append]
  exact zHn
 ·rw [List.append_nil]
  exact (h2.mut hm (.inr (by omega))).app
 ·rw [List.append_nil,zHo (by rw [hm.len];exact hj)]
  refine hm.other j ?_
  rcases Option.eq_none_or_eq_some p with h1 | ⟨a,h1⟩
  ·rw [hR1 h1];omega
  ·rw [hR2 a h1];exact hp a h1
 ·rw [List.append_nil,←hm.len,zHw,List.getD_eq_getElem?_getD,List.getElem?_append_left hj,List.getD_eq_getElem?_getD]
theorem append_newN {α:Type} {lim b e bytes c:Nat} {H:zH} {enc:α→List Value} {p:Option Addr} {l:List α} (hb:zG H b=.cells false []) (hs:Sl H enc e p l) (h1:e≠0) (h2:l.length*bytes≤maxBytes) (h3:l.length<2 ^ 62) (hn:l≠[]) :
  zAa lim none e bytes false (.slice (some ⟨b,0,none⟩) 0 0) (.slice p l.length c) H=some (.slice (some ⟨H.length,0,none⟩) l.length (loose e),H++[.cells false (l.flatMap enc)]):=by
 obtain ⟨a,rfl⟩:=hs.some hn
 have h0:l.length≠0:=fun h=>hn (List.length_eq_zero_iff.1 h)
 obtain ⟨k1,k2⟩:=hs
 obtain ⟨ro,cs,k3,k4,k5⟩:=k2 hn
 have hl:AM.loadCells H a (l.length*e)=some (l.flatMap enc):=by
  obtain ⟨ab,ao,as'⟩:=a
  simp only [loadCells_lit]
  simp only at k3 k4 k5
  simp only [k3]
  rw [if_pos k4,k5]
 have h0':AM.loadCells H ⟨b,0,none⟩ (0*e)=some []:=by simp [loadCells_lit,hb]
 simp only [zAa,firstCells,lenOf,hl,h0',h0,Nat.zero_add,Nat.not_lt_zero,or_false,h1,false_or,Bool.false_eq_true,if_false]
 rw [if_neg (by omega),if_neg (by unfold loose;omega),if_pos (by decide),if_neg (by omega)]
 simp [place]
theorem take_snoc {α:Type} [Inhabited α] {l:List α} {i:Nat} (h:i<l.length):l.take (i+1)=l.take i++[gt l i]:=by
 rw [List.take_succ_eq_append_getElem h,zGl h]
theorem setAll_mid:∀(vs a b c:List Value),vs.length=b.length→setAll (a++b++c) a.length vs=a++vs++c:=by
 intro vs
 induction vs with
 | nil=>intro a b c h;simp at h;have:b=[]:=List.length_eq_zero_iff.1 h.symm;subst this;rfl
 | cons v vs ih=>
   intro a b c h
   match b,h with
   | x::b,h=>
     rw [setAll_cons]
     have e1:(a++x::b++c).set a.length v=(a++[v])++b++c:=by simp
     rw [e1]
     have:=ih (a++[v]) b c (by simpa using h)
     rw [List.length_append] at this
     simp only [List.length_cons,List.length_nil,Nat.zero_add] at this
     rw [this];simp
theorem Own.more {α:Type} {lim lim' e bytes cap:Nat} {G:zH} {enc:α→List Value} {p:Option Addr} {l:List α} (h:Own lim G enc e p cap l) (hll:lim'≤lim) (he:∀x,(enc x).length=e) (he0:e≠0) (m:List α) (hb:(l.length+m.length)*bytes≤maxBytes) (hn:l.length+m.length<2 ^ 61) (hlG:lim≤G.length)
  (X:zH) {x:Value} {str:Bool} (h1:firstCells (G++X) e str x=some (m.flatMap enc)) (h2:lenOf x=some m.length) :
  ∃G2 p' cap',zAa lim' none e bytes str (.slice p l.length cap) x (G++X)=some (.slice p' (l.length+m.length) cap',G2++[])∧Own lim (G2++[]) enc e p' cap' (l++m)∧(∀A H0,H0.length≤lim→Chg A H0 G→Chg A H0 (G2++[]))∧
   (∀j,j<G.length→(∀a,p=some a→j≠a.block)→zG (G2++[]) j=zG G j)∧G.length≤G2.length:=by
 by_cases hm:m=[]
 ·subst hm
  have hcap:l.length≤cap:=by
   rcases h with ⟨k1,_,k3⟩ | ⟨R,_,k2,_,_⟩
   ·subst k1;simp
   ·rw [k2];simp at hn;unfold loose;omega
  refine ⟨G++X,p,cap, ?_,by rw [List.append_nil,List.append_nil];exact h.app X,fun A H0 q1 q2=>by rw [List.append_nil];exact q2.app,fun j hj _=>by rw [List.append_nil,zHo hj],by simp⟩
  simp only [List.length_nil,Nat.add_zero] at hb hn h2⊢
  simp only [zAa,h1,h2,Nat.add_zero,if_true,List.append_nil]
  rw [if_neg (by omega)]
 ·have hm0:¬m.length=0:=fun q=>hm (List.length_eq_zero_iff.1 q)
  rcases h with ⟨k1,k2,k3⟩ | ⟨R,k1,k2,k3,k4⟩
  ·subst k1 k2 k3
   refine ⟨G++(X++[.cells false (m.flatMap enc)]),some ⟨(G++X).length,0,none⟩,loose e, ?_, ?_,fun A H0 q1 q2=>by rw [List.append_nil];exact q2.app,fun j hj _=>by rw [List.append_nil,zHo hj],by simp⟩
   ·simp only [List.length_nil,Nat.zero_add] at hb hn⊢
    simp only [zAa,h1,h2,hm0,if_false,Nat.zero_add]
    rw [if_neg (by omega)]
    simp [place]
   ·rw [List.append_nil,List.nil_append]
    refine Own.new ?_ (by simp;omega)
    rw [←List.append_assoc];exact zHn
  ·subst k1 k2
   have hRl:=zHa k3
   have hR':zG (G++X) R=.cells false (l.flatMap enc):=by rw [zHo hRl];exact k3
   have hold:AM.loadCells (G++X) ⟨R,0,none⟩ (l.length*e)=some (l.flatMap enc):=by
    simp only [loadCells_lit,hR',Nat.zero_add,flat_len he,Nat.le_refl,if_true,List.drop_zero]
    rw [List.take_of_length_le (by rw [flat_len he];exact Nat.le_refl _)]
   have hmt:Mut G (G.set R .dead) R:=⟨by simp,fun j hj=>zHs hj⟩
   refine ⟨G.set R .dead++(X++[.cells false ((l++m).flatMap enc)]),some ⟨(G++X).length,0,none⟩,loose e, ?_, ?_,fun A H0 q1 q2=>by rw [List.append_nil];exact (q2.mut hmt (.inr (by omega))).app,fun j hj hp=>by
    rw [List.append_nil,zHo (by simpa using hj)];exact zHs (hp _ rfl),by simp⟩
   ·simp only [zAa,h1,h2,hold,hR',hm0,if_false,if_true]
    rw [if_neg (by unfold loose;omega)]
    simp [show lim'≤R by omega,place,List.set_append_left _ _ hRl,List.append_assoc]
   ·rw [List.append_nil]
    refine Own.new ?_ (by simp;omega)
    rw [←List.append_assoc,show (G++X).length=(G.set R .dead++X).length by simp];exact zHn
theorem Own.moreD {α:Type} {lim lim' e bytes cap d:Nat} {G:zH} {enc:α→List Value} {p:Option Addr} {l:List α} (h:Own lim G enc e p cap l) (hll:lim'≤lim) (he:∀x,(enc x).length=e) (he0:e≠0) (m:List α) (hb:(l.length+m.length)*bytes≤maxBytes) (hn:l.length+m.length<2 ^ 61) (hlG:lim≤G.length)
  (X:zH) (hd1:G.length≤d) (hd2:d<G.length+X.length) {x:Value} {str:Bool} (h1:firstCells (G++X) e str x=some (m.flatMap enc)) (h2:lenOf x=some m.length) :
  ∃G2 p' cap',zAa lim' (some d) e bytes str (.slice p l.length cap) x (G++X)=some (.slice p' (l.length+m.length) cap',G2++[])∧Own lim (G2++[]) enc e p' cap' (l++m)∧(∀A H0,H0.length≤lim→Chg A H0 G→Chg A H0 (G2++[]))∧
   (∀j,j<G.length→(∀a,p=some a→j≠a.block)→zG (G2++[]) j=zG G j)∧G.length≤G2.length∧(m≠[]→p'=some ⟨d,0,none⟩)∧(m=[]→p'=p):=by
 by_cases hm:m=[]
 ·subst hm
  have hcap:l.length≤cap:=by
   rcases h with ⟨k1,_,k3⟩ | ⟨R,_,k2,_,_⟩
   ·subst k1;simp
   ·rw [k2];simp at hn;unfold loose;omega
  refine ⟨G++X,p,cap, ?_,by rw [List.append_nil,List.append_nil];exact h.app X,fun A H0 q1 q2=>by rw [List.append_nil];exact q2.app,fun j hj _=>by rw [List.append_nil,zHo hj],by simp,fun h=>absurd rfl h,fun _=>rfl⟩
  simp only [List.length_nil,Nat.add_zero] at hb hn h2⊢
  simp only [zAa,h1,h2,Nat.add_zero,if_true,List.append_nil]
  rw [if_neg (by omega)]
 ·have hm0:¬m.length=0:=fun q=>hm (List.length_eq_zero_iff.1 q)
  rcases h with ⟨k1,k2,k3⟩ | ⟨R,k1,k2,k3,k4⟩
  ·subst k1 k2 k3
   refine ⟨(G++X).set d (.cells false (m.flatMap enc)),some ⟨d,0,none⟩,loose e, ?_, ?_,fun A H0 q1 q2=>by rw [List.append_nil];exact q2.app.set (.inr (by omega)),fun j hj _=>by rw [List.append_nil,zHs (by omega),zHo hj],by simp,fun _=>rfl,fun h=>absurd h hm⟩
   ·simp only [List.length_nil,Nat.zero_add] at hb hn⊢
    simp only [zAa,h1,h2,hm0,if_false,Nat.zero_add]
    rw [if_neg (by omega)]
    simp [place]
   ·rw [List.append_nil,List.nil_append]
    exact Own.new (hget_set_eq (by simp;omega)) (by omega)
  ·subst k1 k2
   have hRl:=zHa k3
   have hR':zG (G++X) R=.cells false (l.flatMap enc):=by rw [zHo hRl];exact k3
   have hold:AM.loadCells (G++X) ⟨R,0,none⟩ (l.length*e)=some (l.flatMap enc):=by
    simp only [loadCells_lit,hR',Nat.zero_add,flat_len he,Nat.le_refl,if_true,List.drop_zero]
    rw [List.take_of_length_le (by rw [flat_len he];exact Nat.le_refl _)]
   refine ⟨((G++X).set R .dead).set d (.cells false ((l++m).flatMap enc)),some ⟨d,0,none⟩,loose e, ?_, ?_,fun A H0 q1 q2=>by rw [List.append_nil];exact (q2.app.set (.inr (by omega))).set (.inr (by omega)),fun j hj hp=>by
    rw [List.append_nil,zHs (by omega),zHs (hp _ rfl),zHo hj],by simp,fun _=>rfl,fun h=>absurd h hm⟩
   ·simp only [zAa,h1,h2,hold,hR',hm0,if_false,if_true]
    rw [if_neg (by unfold loose;omega)]
    simp [show lim'≤R by omega,place]
   ·rw [List.append_nil]
    exact Own.new (hget_set_eq (by simp;omega)) (by omega)
theorem first_slice {α:Type} {e k:Nat} {H:zH} {enc:α→List Value} {p:Option Addr} {m:List α} (hs:Sl H enc e p m):firstCells H e false (.slice p m.length k)=some (m.flatMap enc):=by
 by_cases hm:m=[]
 ·subst hm
  cases p<;>simp [firstCells]
 ·obtain ⟨a,rfl,hl⟩:=hs.cells hm
  have:m.length≠0:=fun h=>hm (List.length_eq_zero_iff.1 h)
  simp [firstCells,this,hl]
theorem Sl.pre {α:Type} {H:zH} {enc:α→List Value} {e:Nat} {p:Option Addr} {l m:List α} (h:Sl H enc e p (l++m)) (he:∀x,(enc x).length=e):Sl H enc e p l:=by
 cases p with
 | none=>simp only [Sl] at h;exact (List.append_eq_nil_iff.1 h).1
 | some a=>
   refine ⟨h.1,fun hn=>?_⟩
   obtain ⟨ro,c,h1,h2,h3⟩:=h.2 (by simp [hn])
   have hle:l.length*e≤(l++m).length*e:=Nat.mul_le_mul_right e (by simp)
   refine ⟨ro,c,h1,by omega, ?_⟩
   have h4:=congrArg (List.take (l.length*e)) h3
   rw [List.take_take,Nat.min_eq_left hle,List.flatMap_append,List.take_append_of_le_length (by rw [flat_len he];exact Nat.le_refl _),List.take_of_length_le (l:=l.flatMap enc) (by rw [flat_len he];exact Nat.le_refl _)] at h4
   exact h4
theorem Sl.row {α:Type} {H:zH} {enc:α→List Value} {e R:Nat} {l:List α} (he:∀x,(enc x).length=e) {ro:Bool} (h:zG H R=.cells ro (l.flatMap enc)):Sl H enc e (Option.some ⟨R,0,none⟩) l:=Sl.lit he (by rw [h];rfl) (by rw [h];rfl)
theorem Own.chg {α:Type} {A:List Nat} {lim e cap:Nat} {G H':zH} {enc:α→List Value} {p:Option Addr} {l:List α} (h:Own lim G enc e p cap l) (hc:Chg A G H') (hp:∀a,p=some a→a.block∉A):Own lim H' enc e p cap l:=by
 rcases h with h | ⟨R,h1,h2,h3,h4⟩
 ·exact .inl h
 ·exact .inr ⟨R,h1,h2,hc.cells h3 (hp _ h1),h4⟩
def CapOk (e c n:Nat):Prop:=c=loose e∨(n≤c∧c<2 ^ 62)
theorem flat_take {α:Type} {enc:α→List Value} {e:Nat} (he:∀x,(enc x).length=e):∀(l:List α) (k:Nat),(l.take k).flatMap enc=(l.flatMap enc).take (k*e)
 | [],k=>by simp
 | x::l,0=>by simp
 | x::l,k+1=>by
   rw [List.take_succ_cons,List.flatMap_cons,List.flatMap_cons,flat_take he l k,List.take_append,he,List.take_of_length_le (l:=enc x) (by rw [he,Nat.succ_mul];omega),Nat.succ_mul,Nat.add_sub_cancel]
theorem flat_dropN {α:Type} {enc:α→List Value} {e:Nat} (he:∀x,(enc x).length=e):∀(l:List α) (k:Nat),(l.drop k).flatMap enc=(l.flatMap enc).drop (k*e)
 | [],k=>by simp
 | x::l,0=>by simp
 | x::l,k+1=>by
   rw [List.drop_succ_cons,List.flatMap_cons,flat_dropN he l k,List.drop_append,he,List.drop_eq_nil_of_le (as:=enc x) (by rw [he,Nat.succ_mul];omega),List.nil_append,Nat.succ_mul,Nat.add_sub_cancel]
theorem Sl.sub {α:Type} {H:zH} {enc:α→List Value} {e:Nat} {a:Addr} {l:List α} (h:Sl H enc e (Option.some a) l) (he:∀x,(enc x).length=e) {lo hi:Nat} (h1:lo≤hi) (h2:hi≤l.length):Sl H enc e (Option.some (a.add (lo*e))) ((l.take hi).drop lo):=by
 obtain ⟨b,o,s⟩:=a
 have hs:=h.1
 simp only at hs;subst hs
 rw [addr_add]
 refine ⟨rfl,fun hn=>?_⟩
 have hne:l≠[]:=by rintro rfl;simp at hn
 obtain ⟨ro,c,k1,k2,k3⟩:=h.2 hne
 have hlen:((l.take hi).drop lo).length=hi-lo:=by simp;omega
 have e1:(hi-lo)*e+lo*e=hi*e:=by rw [←Nat.add_mul,Nat.sub_add_cancel h1]
 have e2:hi*e≤l.length*e:=Nat.mul_le_mul_right e h2
 refine ⟨ro,c,k1,by simp only [hlen] at *;omega, ?_⟩
 simp only at k2 k3⊢
 rw [hlen,flat_dropN he,flat_take he,←k3,List.take_take,Nat.min_eq_left e2,List.drop_take,List.drop_drop,show hi*e-lo*e=(hi-lo)*e by omega]
theorem slice_arg {t:Ty} {H:zH} {l:List t.den} {v:Value} {α:Type} (f:t.den→α) (enc:α→List Value) (he:∀H x c,Rep t H x c→c=enc (f x)) (h:RepV (.slice t) H l v) :
  ∃p cap,v=.slice p (l.map f).length cap∧Sl H enc t.size p (l.map f)∧CapOk t.size cap (l.map f).length∧(l.map f).length<2 ^ 63:=by
 have h0:=RepV.one rfl h
 obtain ⟨p,cap,e,h1,h2⟩:=Rep.sl f enc he h0
 refine ⟨p,cap,List.singleton_inj.1 e,h1, ?_,by simpa using h2⟩
 obtain ⟨_,p',cap',e',k1,k2⟩:=h0
 rw [e] at e'
 simp only [List.cons.injEq,Value.slice.injEq,and_true] at e'
 obtain ⟨e1,_,e3⟩:=e'
 subst e1 e3
 cases p with
 | none=>obtain ⟨q1,q2⟩:=k1 rfl;exact .inr (by rw [q1,q2];simp)
 | some a=>exact .inl (k2 a rfl).2.2.1
theorem Sl.same {α:Type} {H G:zH} {enc:α→List Value} {e:Nat} {p:Option Addr} {l:List α} (h:Sl H enc e p l) (hg:∀a,p=Option.some a→l≠[]→zG G a.block=zG H a.block):Sl G enc e p l:=by
 cases p with
 | none=>exact h
 | some a=>
   refine ⟨h.1,fun hn=>?_⟩
   obtain ⟨ro,c,h2,h3⟩:=h.2 hn
   exact ⟨ro,c,by rw [hg a rfl hn];exact h2,h3⟩
theorem Own.appL {α:Type} {lim lim' e bytes cap:Nat} {G H:zH} {enc:α→List Value} {p:Option Addr} {l:List α} {dest:Option Nat} {str:Bool} {x:Value} (h:Own lim G enc e p cap l):appendLV lim' dest e bytes str (.slice p l.length cap) x H=zAa lim' dest e bytes str (.slice p l.length cap) x H:=by
 rcases h with ⟨h1,h2,h3⟩ | ⟨R,h1,h2,h3,h4⟩
 ·subst h2;rfl
 ·subst h1;rw [appendLV_some,if_pos (.inl h2)]
theorem Ext.get' {H G:zH} (h:Ext H G) {j:Nat} {b:Blk} (hj:zG H j=b) (hl:j<H.length):zG G j=b:=by
 obtain ⟨X,rfl⟩:=h
 rw [zHo hl];exact hj
end Go.AM

namespace Go.AM.Srt
open Go.AM Go.AM.Sym
structure Ids where
 (e LEN32 INS SIFT HEAP BRK CHO REV PIS PEQ PART PDQ SORT LEN LEN64 NPT XOR MEDA MED ORD:Nat)
def lINS_1 (z:Ids):zAc:=(.seq (.seq (.drawn 0 [i 18 (.mov (t 9)),i 19 (.mov (t 1)),i 20 (.bin .gtr (t 18) (t 19)),i 21 (.mov (t 20)),⟨(some 22),(some (21,true)),(.mov (t 3)),none,[]⟩,⟨(some 23),(some (21,true)),(.mov (t 0)),none,[]⟩,⟨(some 24),(some (21,true)),(.mov (t 9)),none,[]⟩,⟨(some 25),(some (21,true)),(.idxAddrS z.e (t 23) (t 24)),none,[]⟩,⟨(some 26),(some (21,true)),(.loadN z.e (t 25)),none,[]⟩,⟨(some 27),(some (21,true)),(.mov (t 0)),none,[]⟩,⟨(some 28),(some (21,true)),(.mov (t 9)),none,[]⟩,⟨(some 29),(some (21,true)),(.bin .sub (t 28) (k (.int .i64 1))),none,[]⟩,⟨(some 30),(some (21,true)),(.idxAddrS z.e (t 27) (t 29)),none,[]⟩,⟨(some 31),(some (21,true)),(.loadN z.e (t 30)),none,[]⟩,⟨(some 32),(some (21,true)),(.call .pure (t 22) [(t 26),(t 31)]),none,[]⟩,⟨(some 33),(some (21,true)),(.bin .lss (t 32) (k (.int .i64 0))),none,[]⟩,i 34 (.pick (t 21) (t 33) (k (.bool false)))]) (.cond (t 34) .skip (.exit 2))) (.seq (.block 3 (.drawn 0 [i 37 (.mov (t 0)),i 38 (.mov (t 9)),i 39 (.mov (t 0)),i 40 (.mov (t 9)),i 41 (.bin .sub (t 40) (k (.int .i64 1))),i 42 (.mov (t 0)),i 43 (.mov (t 9)),i 44 (.bin .sub (t 43) (k (.int .i64 1))),i 45 (.idxAddrS z.e (t 42) (t 44)),i 46 (.loadN z.e (t 45)),i 47 (.mov (t 0)),i 48 (.mov (t 9)),i 49 (.idxAddrS z.e (t 47) (t 48)),i 50 (.loadN z.e (t 49)),i 51 (.idxAddrS z.e (t 37) (t 38)),⟨none,none,(.store z.e (t 51) (t 46)),none,[]⟩,i 52 (.idxAddrS z.e (t 39) (t 41)),⟨none,none,(.store z.e (t 52) (t 50)),none,[]⟩])) (.ops [i 35 (.mov (t 9)),i 36 (.bin .sub (t 35) (k (.int .i64 1))),i 9 (.mov (t 36))])))
def lINS_2 (z:Ids):zAc:=(.seq (.seq (.ops [i 12 (.mov (t 8)),i 13 (.mov (t 2)),i 14 (.bin .lss (t 12) (t 13))]) (.cond (t 14) .skip (.exit 0))) (.seq (.block 1 (.seq (.ops [i 17 (.mov (t 8)),i 9 (.mov (t 17))]) (.block 2 (.loop (lINS_1 z))))) (.ops [i 15 (.mov (t 8)),i 16 (.bin .add (t 15) (k (.int .i64 1))),i 8 (.mov (t 16))])))
def cINS (z:Ids):zAc:=(.seq (.ops [i 10 (.mov (t 1)),i 11 (.bin .add (t 10) (k (.int .i64 1))),i 8 (.mov (t 11))]) (.block 0 (.loop (lINS_2 z))))
def aINS (z:Ids):zAf:=⟨53,[],cINS z⟩
theorem nINS {z:Ids}:(aINS z).ntmps=53:=id rfl
theorem rINS {z:Ids}:(aINS z).results=[]:=rfl
theorem bINS {z:Ids}:(aINS z).body=cINS z:=rfl
def lSIFT_1 (z:Ids):zAc:=(.block 1 (.seq (.ops [i 13 (.mov (t 10)),i 14 (.bin .mul (k (.int .i64 2)) (t 13)),i 15 (.bin .add (t 14) (k (.int .i64 1))),i 11 (.mov (t 15))]) (.seq (.seq (.ops [i 16 (.mov (t 11)),i 17 (.mov (t 2)),i 18 (.bin .geq (t 16) (t 17))]) (.cond (t 18) (.exit 0) .skip)) (.seq (.seq (.drawn 0 [i 19 (.mov (t 11)),i 20 (.bin .add (t 19) (k (.int .i64 1))),i 21 (.mov (t 2)),i 22 (.bin .lss (t 20) (t 21)),i 23 (.mov (t 22)),⟨(some 24),(some (23,true)),(.mov (t 4)),none,[]⟩,⟨(some 25),(some (23,true)),(.mov (t 0)),none,[]⟩,⟨(some 26),(some (23,true)),(.mov (t 3)),none,[]⟩,⟨(some 27),(some (23,true)),(.mov (t 11)),none,[]⟩,⟨(some 28),(some (23,true)),(.bin .add (t 26) (t 27)),none,[]⟩,⟨(some 29),(some (23,true)),(.idxAddrS z.e (t 25) (t 28)),none,[]⟩,⟨(some 30),(some (23,true)),(.loadN z.e (t 29)),none,[]⟩,⟨(some 31),(some (23,true)),(.mov (t 0)),none,[]⟩,⟨(some 32),(some (23,true)),(.mov (t 3)),none,[]⟩,⟨(some 33),(some (23,true)),(.mov (t 11)),none,[]⟩,⟨(some 34),(some (23,true)),(.bin .add (t 32) (t 33)),none,[]⟩,⟨(some 35),(some (23,true)),(.bin .add (t 34) (k (.int .i64 1))),none,[]⟩,⟨(some 36),(some (23,true)),(.idxAddrS z.e (t 31) (t 35)),none,[]⟩,⟨(some 37),(some (23,true)),(.loadN z.e (t 36)),none,[]⟩,⟨(some 38),(some (23,true)),(.call .pure (t 24) [(t 30),(t 37)]),none,[]⟩,⟨(some 39),(some (23,true)),(.bin .lss (t 38) (k (.int .i64 0))),none,[]⟩,i 40 (.pick (t 23) (t 39) (k (.bool false)))]) (.cond (t 40) (.ops [i 41 (.mov (t 11)),i 42 (.bin .add (t 41) (k (.int .i64 1))),i 11 (.mov (t 42))]) .skip)) (.seq (.seq (.drawn 0 [i 43 (.mov (t 4)),i 44 (.mov (t 0)),i 45 (.mov (t 3)),i 46 (.mov (t 10)),i 47 (.bin .add (t 45) (t 46)),i 48 (.idxAddrS z.e (t 44) (t 47)),i 49 (.loadN z.e (t 48)),i 50 (.mov (t 0)),i 51 (.mov (t 3)),i 52 (.mov (t 11)),i 53 (.bin .add (t 51) (t 52)),i 54 (.idxAddrS z.e (t 50) (t 53)),i 55 (.loadN z.e (t 54)),i 56 (.call .pure (t 43) [(t 49),(t 55)]),i 57 (.bin .lss (t 56) (k (.int .i64 0))),i 58 (.un .not (t 57))]) (.cond (t 58) .ret .skip)) (.seq (.drawn 0 [i 59 (.mov (t 0)),i 60 (.mov (t 3)),i 61 (.mov (t 10)),i 62 (.bin .add (t 60) (t 61)),i 63 (.mov (t 0)),i 64 (.mov (t 3)),i 65 (.mov (t 11)),i 66 (.bin .add (t 64) (t 65)),i 67 (.mov (t 0)),i 68 (.mov (t 3)),i 69 (.mov (t 11)),i 70 (.bin .add (t 68) (t 69)),i 71 (.idxAddrS z.e (t 67) (t 70)),i 72 (.loadN z.e (t 71)),i 73 (.mov (t 0)),i 74 (.mov (t 3)),i 75 (.mov (t 10)),i 76 (.bin .add (t 74) (t 75)),i 77 (.idxAddrS z.e (t 73) (t 76)),i 78 (.loadN z.e (t 77)),i 79 (.idxAddrS z.e (t 59) (t 62)),⟨none,none,(.store z.e (t 79) (t 72)),none,[]⟩,i 80 (.idxAddrS z.e (t 63) (t 66)),⟨none,none,(.store z.e (t 80) (t 78)),none,[]⟩]) (.ops [i 81 (.mov (t 11)),i 10 (.mov (t 81))])))))))
def cSIFT (z:Ids):zAc:=(.seq (.ops [i 12 (.mov (t 1)),i 10 (.mov (t 12))]) (.block 0 (.loop (lSIFT_1 z))))
def aSIFT (z:Ids):zAf:=⟨82,[],cSIFT z⟩
theorem nSIFT {z:Ids}:(aSIFT z).ntmps=82:=id rfl
theorem rSIFT {z:Ids}:(aSIFT z).results=[]:=rfl
theorem bSIFT {z:Ids}:(aSIFT z).body=cSIFT z:=rfl
def lHEAP_1 (z:Ids):zAc:=(.seq (.seq (.ops [i 32 (.mov (t 12)),i 33 (.bin .geq (t 32) (k (.int .i64 0)))]) (.cond (t 33) .skip (.exit 2))) (.seq (.block 3 (.seq (.drawn 0 [i 36 (.mov (t 0)),i 37 (.mov (t 8)),i 38 (.mov (t 0)),i 39 (.mov (t 8)),i 40 (.mov (t 12)),i 41 (.bin .add (t 39) (t 40)),i 42 (.mov (t 0)),i 43 (.mov (t 8)),i 44 (.mov (t 12)),i 45 (.bin .add (t 43) (t 44)),i 46 (.idxAddrS z.e (t 42) (t 45)),i 47 (.loadN z.e (t 46)),i 48 (.mov (t 0)),i 49 (.mov (t 8)),i 50 (.idxAddrS z.e (t 48) (t 49)),i 51 (.loadN z.e (t 50)),i 52 (.idxAddrS z.e (t 36) (t 37)),⟨none,none,(.store z.e (t 52) (t 47)),none,[]⟩,i 53 (.idxAddrS z.e (t 38) (t 41)),⟨none,none,(.store z.e (t 53) (t 51)),none,[]⟩]) (.ops [i 54 (.mov (t 0)),i 55 (.mov (t 9)),i 56 (.mov (t 12)),i 57 (.mov (t 8)),i 58 (.mov (t 3)),i 59 (.call .any (.func z.SIFT) [(t 54),(t 55),(t 56),(t 57),(t 58)])]))) (.ops [i 34 (.mov (t 12)),i 35 (.bin .sub (t 34) (k (.int .i64 1))),i 12 (.mov (t 35))])))
def lHEAP_2 (z:Ids):zAc:=(.seq (.seq (.ops [i 20 (.mov (t 11)),i 21 (.bin .geq (t 20) (k (.int .i64 0)))]) (.cond (t 21) .skip (.exit 0))) (.seq (.block 1 (.ops [i 24 (.mov (t 0)),i 25 (.mov (t 11)),i 26 (.mov (t 10)),i 27 (.mov (t 8)),i 28 (.mov (t 3)),i 29 (.call .any (.func z.SIFT) [(t 24),(t 25),(t 26),(t 27),(t 28)])])) (.ops [i 22 (.mov (t 11)),i 23 (.bin .sub (t 22) (k (.int .i64 1))),i 11 (.mov (t 23))])))
def cHEAP (z:Ids):zAc:=(.seq (.ops [i 13 (.mov (t 1)),i 8 (.mov (t 13))]) (.seq (.ops [i 9 (.mov (k (.int .i64 0)))]) (.seq (.ops [i 14 (.mov (t 2)),i 15 (.mov (t 1)),i 16 (.bin .sub (t 14) (t 15)),i 10 (.mov (t 16))]) (.seq (.seq (.ops [i 17 (.mov (t 10)),i 18 (.bin .sub (t 17) (k (.int .i64 1))),i 19 (.bin .quo (t 18) (k (.int .i64 2))),i 11 (.mov (t 19))]) (.block 0 (.loop (lHEAP_2 z)))) (.seq (.ops [i 30 (.mov (t 10)),i 31 (.bin .sub (t 30) (k (.int .i64 1))),i 12 (.mov (t 31))]) (.block 2 (.loop (lHEAP_1 z))))))))
def aHEAP (z:Ids):zAf:=⟨60,[],cHEAP z⟩
theorem nHEAP {z:Ids}:(aHEAP z).ntmps=60:=id rfl
theorem rHEAP {z:Ids}:(aHEAP z).results=[]:=rfl
theorem bHEAP {z:Ids}:(aHEAP z).body=cHEAP z:=rfl
def lBRK_1 (z:Ids):zAc:=(.seq (.seq (.ops [i 28 (.mov (t 11)),i 29 (.mov (t 1)),i 30 (.mov (t 8)),i 31 (.bin .quo (t 30) (k (.int .i64 4))),i 32 (.bin .mul (t 31) (k (.int .i64 2))),i 33 (.bin .add (t 29) (t 32)),i 34 (.bin .add (t 33) (k (.int .i64 1))),i 35 (.bin .leq (t 28) (t 34))]) (.cond (t 35) .skip (.exit 0))) (.seq (.block 1 (.seq (.ops [i 38 (.call .any (.func z.XOR) [(t 9)]),i 39 (.mov (t 10)),i 40 (.bin .sub (t 39) (k (.int .u64 1))),i 41 (.bin .and (t 38) (t 40)),i 42 (.conv .i64 (t 41)),i 12 (.mov (t 42))]) (.seq (.seq (.ops [i 43 (.mov (t 12)),i 44 (.mov (t 8)),i 45 (.bin .geq (t 43) (t 44))]) (.cond (t 45) (.ops [i 46 (.mov (t 12)),i 47 (.mov (t 8)),i 48 (.bin .sub (t 46) (t 47)),i 12 (.mov (t 48))]) .skip)) (.drawn 0 [i 49 (.mov (t 0)),i 50 (.mov (t 11)),i 51 (.mov (t 0)),i 52 (.mov (t 1)),i 53 (.mov (t 12)),i 54 (.bin .add (t 52) (t 53)),i 55 (.mov (t 0)),i 56 (.mov (t 1)),i 57 (.mov (t 12)),i 58 (.bin .add (t 56) (t 57)),i 59 (.idxAddrS z.e (t 55) (t 58)),i 60 (.loadN z.e (t 59)),i 61 (.mov (t 0)),i 62 (.mov (t 11)),i 63 (.idxAddrS z.e (t 61) (t 62)),i 64 (.loadN z.e (t 63)),i 65 (.idxAddrS z.e (t 49) (t 50)),⟨none,none,(.store z.e (t 65) (t 60)),none,[]⟩,i 66 (.idxAddrS z.e (t 51) (t 54)),⟨none,none,(.store z.e (t 66) (t 64)),none,[]⟩])))) (.ops [i 36 (.mov (t 11)),i 37 (.bin .add (t 36) (k (.int .i64 1))),i 11 (.mov (t 37))])))
def cBRK (z:Ids):zAc:=(.seq (.ops [i 13 (.mov (t 2)),i 14 (.mov (t 1)),i 15 (.bin .sub (t 13) (t 14)),i 8 (.mov (t 15))]) (.seq (.ops [i 16 (.mov (t 8)),i 17 (.bin .geq (t 16) (k (.int .i64 8)))]) (.cond (t 17) (.seq (.ops [i 18 (.mov (t 8)),i 19 (.conv .u64 (t 18)),i 9 (.alloc [(.int .u64 0)]),⟨none,none,(.store 1 (t 9) (t 19)),none,[]⟩]) (.seq (.ops [i 20 (.mov (t 8)),i 21 (.call .any (.func z.NPT) [(t 20)]),i 10 (.mov (t 21))]) (.seq (.ops [i 22 (.mov (t 1)),i 23 (.mov (t 8)),i 24 (.bin .quo (t 23) (k (.int .i64 4))),i 25 (.bin .mul (t 24) (k (.int .i64 2))),i 26 (.bin .add (t 22) (t 25)),i 27 (.bin .sub (t 26) (k (.int .i64 1))),i 11 (.mov (t 27))]) (.block 0 (.loop (lBRK_1 z)))))) .skip)))
def aBRK (z:Ids):zAf:=⟨67,[],cBRK z⟩
theorem nBRK {z:Ids}:(aBRK z).ntmps=67:=id rfl
theorem rBRK {z:Ids}:(aBRK z).results=[]:=rfl
theorem bBRK {z:Ids}:(aBRK z).body=cBRK z:=rfl
def cCHO (z:Ids):zAc:=(.seq (.ops [i 8 (.mov (k (.int .i64 0))),i 9 (.mov (k (.int .i64 0)))]) (.seq (.ops [i 15 (.mov (t 2)),i 16 (.mov (t 1)),i 17 (.bin .sub (t 15) (t 16)),i 10 (.mov (t 17))]) (.seq (.ops [i 11 (.alloc [(.int .i64 0)])]) (.seq (.ops [i 18 (.mov (t 1)),i 19 (.mov (t 10)),i 20 (.bin .quo (t 19) (k (.int .i64 4))),i 21 (.bin .mul (t 20) (k (.int .i64 1))),i 22 (.bin .add (t 18) (t 21)),i 12 (.mov (t 22))]) (.seq (.ops [i 23 (.mov (t 1)),i 24 (.mov (t 10)),i 25 (.bin .quo (t 24) (k (.int .i64 4))),i 26 (.bin .mul (t 25) (k (.int .i64 2))),i 27 (.bin .add (t 23) (t 26)),i 13 (.mov (t 27))]) (.seq (.ops [i 28 (.mov (t 1)),i 29 (.mov (t 10)),i 30 (.bin .quo (t 29) (k (.int .i64 4))),i 31 (.bin .mul (t 30) (k (.int .i64 3))),i 32 (.bin .add (t 28) (t 31)),i 14 (.mov (t 32))]) (.seq (.seq (.ops [i 33 (.mov (t 10)),i 34 (.bin .geq (t 33) (k (.int .i64 8)))]) (.cond (t 34) (.seq (.seq (.ops [i 35 (.mov (t 10)),i 36 (.bin .geq (t 35) (k (.int .i64 50)))]) (.cond (t 36) (.seq (.ops [i 37 (.mov (t 0)),i 38 (.mov (t 12)),i 39 (.mov (t 3)),i 40 (.call .any (.func z.MEDA) [(t 37),(t 38),(t 11),(t 39)]),i 12 (.mov (t 40))]) (.seq (.ops [i 41 (.mov (t 0)),i 42 (.mov (t 13)),i 43 (.mov (t 3)),i 44 (.call .any (.func z.MEDA) [(t 41),(t 42),(t 11),(t 43)]),i 13 (.mov (t 44))]) (.ops [i 45 (.mov (t 0)),i 46 (.mov (t 14)),i 47 (.mov (t 3)),i 48 (.call .any (.func z.MEDA) [(t 45),(t 46),(t 11),(t 47)]),i 14 (.mov (t 48))]))) .skip)) (.ops [i 49 (.mov (t 0)),i 50 (.mov (t 12)),i 51 (.mov (t 13)),i 52 (.mov (t 14)),i 53 (.mov (t 3)),i 54 (.call .any (.func z.MED) [(t 49),(t 50),(t 51),(t 52),(t 11),(t 53)]),i 13 (.mov (t 54))])) .skip)) (.seq (.ops [i 55 (.load1 (t 11))]) (.block 0 (.seq (.ops [i 58 (.bin .eql (t 55) (k (.int .i64 0))),i 57 (.mov (t 58))]) (.cond (t 57) (.seq (.ops [i 59 (.mov (t 13)),i 8 (.mov (t 59)),i 9 (.mov (k (.int .i64 1)))]) .ret) (.seq (.ops [i 61 (.bin .eql (t 55) (k (.int .i64 12))),i 60 (.mov (t 61))]) (.cond (t 60) (.seq (.ops [i 62 (.mov (t 13)),i 8 (.mov (t 62)),i 9 (.mov (k (.int .i64 2)))]) .ret) (.seq (.ops [i 56 (.mov (t 13)),i 8 (.mov (t 56)),i 9 (.mov (k (.int .i64 0)))]) .ret))))))))))))))
def aCHO (z:Ids):zAf:=⟨63,[(.tmp 8),(.tmp 9)],cCHO z⟩
theorem nCHO {z:Ids}:(aCHO z).ntmps=63:=id rfl
theorem rCHO {z:Ids}:(aCHO z).results=[(.tmp 8),(.tmp 9)]:=rfl
theorem bCHO {z:Ids}:(aCHO z).body=cCHO z:=rfl
def lREV_1 (z:Ids):zAc:=(.seq (.seq (.ops [i 13 (.mov (t 8)),i 14 (.mov (t 9)),i 15 (.bin .lss (t 13) (t 14))]) (.cond (t 15) .skip (.exit 0))) (.block 1 (.seq (.drawn 0 [i 16 (.mov (t 0)),i 17 (.mov (t 8)),i 18 (.mov (t 0)),i 19 (.mov (t 9)),i 20 (.mov (t 0)),i 21 (.mov (t 9)),i 22 (.idxAddrS z.e (t 20) (t 21)),i 23 (.loadN z.e (t 22)),i 24 (.mov (t 0)),i 25 (.mov (t 8)),i 26 (.idxAddrS z.e (t 24) (t 25)),i 27 (.loadN z.e (t 26)),i 28 (.idxAddrS z.e (t 16) (t 17)),⟨none,none,(.store z.e (t 28) (t 23)),none,[]⟩,i 29 (.idxAddrS z.e (t 18) (t 19)),⟨none,none,(.store z.e (t 29) (t 27)),none,[]⟩]) (.seq (.ops [i 30 (.mov (t 8)),i 31 (.bin .add (t 30) (k (.int .i64 1))),i 8 (.mov (t 31))]) (.ops [i 32 (.mov (t 9)),i 33 (.bin .sub (t 32) (k (.int .i64 1))),i 9 (.mov (t 33))])))))
def cREV (z:Ids):zAc:=(.seq (.ops [i 10 (.mov (t 1)),i 8 (.mov (t 10))]) (.seq (.ops [i 11 (.mov (t 2)),i 12 (.bin .sub (t 11) (k (.int .i64 1))),i 9 (.mov (t 12))]) (.block 0 (.loop (lREV_1 z)))))
def aREV (z:Ids):zAf:=⟨34,[],cREV z⟩
theorem nREV {z:Ids}:(aREV z).ntmps=34:=id rfl
theorem rREV {z:Ids}:(aREV z).results=[]:=rfl
theorem bREV {z:Ids}:(aREV z).body=cREV z:=rfl
def lPIS_1 (z:Ids):zAc:=(.seq (.seq (.ops [i 107 (.mov (t 12)),i 108 (.mov (t 2)),i 109 (.bin .lss (t 107) (t 108))]) (.cond (t 109) .skip (.exit 6))) (.seq (.block 7 (.seq (.seq (.drawn 0 [i 112 (.mov (t 3)),i 113 (.mov (t 0)),i 114 (.mov (t 12)),i 115 (.idxAddrS z.e (t 113) (t 114)),i 116 (.loadN z.e (t 115)),i 117 (.mov (t 0)),i 118 (.mov (t 12)),i 119 (.bin .sub (t 118) (k (.int .i64 1))),i 120 (.idxAddrS z.e (t 117) (t 119)),i 121 (.loadN z.e (t 120)),i 122 (.call .pure (t 112) [(t 116),(t 121)]),i 123 (.bin .lss (t 122) (k (.int .i64 0))),i 124 (.un .not (t 123))]) (.cond (t 124) (.exit 6) .skip)) (.drawn 0 [i 125 (.mov (t 0)),i 126 (.mov (t 12)),i 127 (.mov (t 0)),i 128 (.mov (t 12)),i 129 (.bin .sub (t 128) (k (.int .i64 1))),i 130 (.mov (t 0)),i 131 (.mov (t 12)),i 132 (.bin .sub (t 131) (k (.int .i64 1))),i 133 (.idxAddrS z.e (t 130) (t 132)),i 134 (.loadN z.e (t 133)),i 135 (.mov (t 0)),i 136 (.mov (t 12)),i 137 (.idxAddrS z.e (t 135) (t 136)),i 138 (.loadN z.e (t 137)),i 139 (.idxAddrS z.e (t 125) (t 126)),⟨none,none,(.store z.e (t 139) (t 134)),none,[]⟩,i 140 (.idxAddrS z.e (t 127) (t 129)),⟨none,none,(.store z.e (t 140) (t 138)),none,[]⟩]))) (.ops [i 110 (.mov (t 12)),i 111 (.bin .add (t 110) (k (.int .i64 1))),i 12 (.mov (t 111))])))
def lPIS_2 (z:Ids):zAc:=(.seq (.seq (.ops [i 68 (.mov (t 11)),i 69 (.bin .geq (t 68) (k (.int .i64 1)))]) (.cond (t 69) .skip (.exit 4))) (.seq (.block 5 (.seq (.seq (.drawn 0 [i 72 (.mov (t 3)),i 73 (.mov (t 0)),i 74 (.mov (t 11)),i 75 (.idxAddrS z.e (t 73) (t 74)),i 76 (.loadN z.e (t 75)),i 77 (.mov (t 0)),i 78 (.mov (t 11)),i 79 (.bin .sub (t 78) (k (.int .i64 1))),i 80 (.idxAddrS z.e (t 77) (t 79)),i 81 (.loadN z.e (t 80)),i 82 (.call .pure (t 72) [(t 76),(t 81)]),i 83 (.bin .lss (t 82) (k (.int .i64 0))),i 84 (.un .not (t 83))]) (.cond (t 84) (.exit 4) .skip)) (.drawn 0 [i 85 (.mov (t 0)),i 86 (.mov (t 11)),i 87 (.mov (t 0)),i 88 (.mov (t 11)),i 89 (.bin .sub (t 88) (k (.int .i64 1))),i 90 (.mov (t 0)),i 91 (.mov (t 11)),i 92 (.bin .sub (t 91) (k (.int .i64 1))),i 93 (.idxAddrS z.e (t 90) (t 92)),i 94 (.loadN z.e (t 93)),i 95 (.mov (t 0)),i 96 (.mov (t 11)),i 97 (.idxAddrS z.e (t 95) (t 96)),i 98 (.loadN z.e (t 97)),i 99 (.idxAddrS z.e (t 85) (t 86)),⟨none,none,(.store z.e (t 99) (t 94)),none,[]⟩,i 100 (.idxAddrS z.e (t 87) (t 89)),⟨none,none,(.store z.e (t 100) (t 98)),none,[]⟩]))) (.ops [i 70 (.mov (t 11)),i 71 (.bin .sub (t 70) (k (.int .i64 1))),i 11 (.mov (t 71))])))
def lPIS_3 (z:Ids):zAc:=(.seq (.seq (.drawn 0 [i 19 (.mov (t 9)),i 20 (.mov (t 2)),i 21 (.bin .lss (t 19) (t 20)),i 22 (.mov (t 21)),⟨(some 23),(some (22,true)),(.mov (t 3)),none,[]⟩,⟨(some 24),(some (22,true)),(.mov (t 0)),none,[]⟩,⟨(some 25),(some (22,true)),(.mov (t 9)),none,[]⟩,⟨(some 26),(some (22,true)),(.idxAddrS z.e (t 24) (t 25)),none,[]⟩,⟨(some 27),(some (22,true)),(.loadN z.e (t 26)),none,[]⟩,⟨(some 28),(some (22,true)),(.mov (t 0)),none,[]⟩,⟨(some 29),(some (22,true)),(.mov (t 9)),none,[]⟩,⟨(some 30),(some (22,true)),(.bin .sub (t 29) (k (.int .i64 1))),none,[]⟩,⟨(some 31),(some (22,true)),(.idxAddrS z.e (t 28) (t 30)),none,[]⟩,⟨(some 32),(some (22,true)),(.loadN z.e (t 31)),none,[]⟩,⟨(some 33),(some (22,true)),(.call .pure (t 23) [(t 27),(t 32)]),none,[]⟩,⟨(some 34),(some (22,true)),(.bin .lss (t 33) (k (.int .i64 0))),none,[]⟩,⟨(some 35),(some (22,true)),(.un .not (t 34)),none,[]⟩,i 36 (.pick (t 22) (t 35) (k (.bool false)))]) (.cond (t 36) .skip (.exit 2))) (.block 3 (.ops [i 37 (.mov (t 9)),i 38 (.bin .add (t 37) (k (.int .i64 1))),i 9 (.mov (t 38))])))
def lPIS_4 (z:Ids):zAc:=(.seq (.seq (.ops [i 15 (.mov (t 10)),i 16 (.bin .lss (t 15) (k (.int .i64 5)))]) (.cond (t 16) .skip (.exit 0))) (.seq (.block 1 (.seq (.block 2 (.loop (lPIS_3 z))) (.seq (.seq (.ops [i 39 (.mov (t 9)),i 40 (.mov (t 2)),i 41 (.bin .eql (t 39) (t 40))]) (.cond (t 41) (.seq (.ops [i 8 (.mov (k (.bool true)))]) .ret) .skip)) (.seq (.seq (.ops [i 42 (.mov (t 2)),i 43 (.mov (t 1)),i 44 (.bin .sub (t 42) (t 43)),i 45 (.bin .lss (t 44) (k (.int .i64 50)))]) (.cond (t 45) (.seq (.ops [i 8 (.mov (k (.bool false)))]) .ret) .skip)) (.seq (.drawn 0 [i 46 (.mov (t 0)),i 47 (.mov (t 9)),i 48 (.mov (t 0)),i 49 (.mov (t 9)),i 50 (.bin .sub (t 49) (k (.int .i64 1))),i 51 (.mov (t 0)),i 52 (.mov (t 9)),i 53 (.bin .sub (t 52) (k (.int .i64 1))),i 54 (.idxAddrS z.e (t 51) (t 53)),i 55 (.loadN z.e (t 54)),i 56 (.mov (t 0)),i 57 (.mov (t 9)),i 58 (.idxAddrS z.e (t 56) (t 57)),i 59 (.loadN z.e (t 58)),i 60 (.idxAddrS z.e (t 46) (t 47)),⟨none,none,(.store z.e (t 60) (t 55)),none,[]⟩,i 61 (.idxAddrS z.e (t 48) (t 50)),⟨none,none,(.store z.e (t 61) (t 59)),none,[]⟩]) (.seq (.seq (.ops [i 62 (.mov (t 9)),i 63 (.mov (t 1)),i 64 (.bin .sub (t 62) (t 63)),i 65 (.bin .geq (t 64) (k (.int .i64 2)))]) (.cond (t 65) (.seq (.ops [i 66 (.mov (t 9)),i 67 (.bin .sub (t 66) (k (.int .i64 1))),i 11 (.mov (t 67))]) (.block 4 (.loop (lPIS_2 z)))) .skip)) (.seq (.ops [i 101 (.mov (t 2)),i 102 (.mov (t 9)),i 103 (.bin .sub (t 101) (t 102)),i 104 (.bin .geq (t 103) (k (.int .i64 2)))]) (.cond (t 104) (.seq (.ops [i 105 (.mov (t 9)),i 106 (.bin .add (t 105) (k (.int .i64 1))),i 12 (.mov (t 106))]) (.block 6 (.loop (lPIS_1 z)))) .skip)))))))) (.ops [i 17 (.mov (t 10)),i 18 (.bin .add (t 17) (k (.int .i64 1))),i 10 (.mov (t 18))])))
def cPIS (z:Ids):zAc:=(.seq (.ops [i 8 (.mov (k (.bool false)))]) (.seq (.ops [i 13 (.mov (t 1)),i 14 (.bin .add (t 13) (k (.int .i64 1))),i 9 (.mov (t 14))]) (.seq (.seq (.ops [i 10 (.mov (k (.int .i64 0)))]) (.block 0 (.loop (lPIS_4 z)))) (.seq (.ops [i 8 (.mov (k (.bool false)))]) .ret))))
def aPIS (z:Ids):zAf:=⟨141,[(.tmp 8)],cPIS z⟩
theorem nPIS {z:Ids}:(aPIS z).ntmps=141:=id rfl
theorem rPIS {z:Ids}:(aPIS z).results=[(.tmp 8)]:=rfl
theorem bPIS {z:Ids}:(aPIS z).body=cPIS z:=rfl
def lPEQ_1 (z:Ids):zAc:=(.seq (.seq (.drawn 0 [i 50 (.mov (t 11)),i 51 (.mov (t 12)),i 52 (.bin .leq (t 50) (t 51)),i 53 (.mov (t 52)),⟨(some 54),(some (53,true)),(.mov (t 4)),none,[]⟩,⟨(some 55),(some (53,true)),(.mov (t 0)),none,[]⟩,⟨(some 56),(some (53,true)),(.mov (t 1)),none,[]⟩,⟨(some 57),(some (53,true)),(.idxAddrS z.e (t 55) (t 56)),none,[]⟩,⟨(some 58),(some (53,true)),(.loadN z.e (t 57)),none,[]⟩,⟨(some 59),(some (53,true)),(.mov (t 0)),none,[]⟩,⟨(some 60),(some (53,true)),(.mov (t 12)),none,[]⟩,⟨(some 61),(some (53,true)),(.idxAddrS z.e (t 59) (t 60)),none,[]⟩,⟨(some 62),(some (53,true)),(.loadN z.e (t 61)),none,[]⟩,⟨(some 63),(some (53,true)),(.call .pure (t 54) [(t 58),(t 62)]),none,[]⟩,⟨(some 64),(some (53,true)),(.bin .lss (t 63) (k (.int .i64 0))),none,[]⟩,i 65 (.pick (t 53) (t 64) (k (.bool false)))]) (.cond (t 65) .skip (.exit 4))) (.block 5 (.ops [i 66 (.mov (t 12)),i 67 (.bin .sub (t 66) (k (.int .i64 1))),i 12 (.mov (t 67))])))
def lPEQ_2 (z:Ids):zAc:=(.seq (.seq (.drawn 0 [i 31 (.mov (t 11)),i 32 (.mov (t 12)),i 33 (.bin .leq (t 31) (t 32)),i 34 (.mov (t 33)),⟨(some 35),(some (34,true)),(.mov (t 4)),none,[]⟩,⟨(some 36),(some (34,true)),(.mov (t 0)),none,[]⟩,⟨(some 37),(some (34,true)),(.mov (t 1)),none,[]⟩,⟨(some 38),(some (34,true)),(.idxAddrS z.e (t 36) (t 37)),none,[]⟩,⟨(some 39),(some (34,true)),(.loadN z.e (t 38)),none,[]⟩,⟨(some 40),(some (34,true)),(.mov (t 0)),none,[]⟩,⟨(some 41),(some (34,true)),(.mov (t 11)),none,[]⟩,⟨(some 42),(some (34,true)),(.idxAddrS z.e (t 40) (t 41)),none,[]⟩,⟨(some 43),(some (34,true)),(.loadN z.e (t 42)),none,[]⟩,⟨(some 44),(some (34,true)),(.call .pure (t 35) [(t 39),(t 43)]),none,[]⟩,⟨(some 45),(some (34,true)),(.bin .lss (t 44) (k (.int .i64 0))),none,[]⟩,⟨(some 46),(some (34,true)),(.un .not (t 45)),none,[]⟩,i 47 (.pick (t 34) (t 46) (k (.bool false)))]) (.cond (t 47) .skip (.exit 2))) (.block 3 (.ops [i 48 (.mov (t 11)),i 49 (.bin .add (t 48) (k (.int .i64 1))),i 11 (.mov (t 49))])))
def lPEQ_3 (z:Ids):zAc:=(.block 1 (.seq (.block 2 (.loop (lPEQ_2 z))) (.seq (.block 4 (.loop (lPEQ_1 z))) (.seq (.seq (.ops [i 68 (.mov (t 11)),i 69 (.mov (t 12)),i 70 (.bin .gtr (t 68) (t 69))]) (.cond (t 70) (.exit 0) .skip)) (.seq (.drawn 0 [i 71 (.mov (t 0)),i 72 (.mov (t 11)),i 73 (.mov (t 0)),i 74 (.mov (t 12)),i 75 (.mov (t 0)),i 76 (.mov (t 12)),i 77 (.idxAddrS z.e (t 75) (t 76)),i 78 (.loadN z.e (t 77)),i 79 (.mov (t 0)),i 80 (.mov (t 11)),i 81 (.idxAddrS z.e (t 79) (t 80)),i 82 (.loadN z.e (t 81)),i 83 (.idxAddrS z.e (t 71) (t 72)),⟨none,none,(.store z.e (t 83) (t 78)),none,[]⟩,i 84 (.idxAddrS z.e (t 73) (t 74)),⟨none,none,(.store z.e (t 84) (t 82)),none,[]⟩]) (.seq (.ops [i 85 (.mov (t 11)),i 86 (.bin .add (t 85) (k (.int .i64 1))),i 11 (.mov (t 86))]) (.ops [i 87 (.mov (t 12)),i 88 (.bin .sub (t 87) (k (.int .i64 1))),i 12 (.mov (t 88))])))))))
def cPEQ (z:Ids):zAc:=(.seq (.ops [i 10 (.mov (k (.int .i64 0)))]) (.seq (.drawn 0 [i 13 (.mov (t 0)),i 14 (.mov (t 1)),i 15 (.mov (t 0)),i 16 (.mov (t 3)),i 17 (.mov (t 0)),i 18 (.mov (t 3)),i 19 (.idxAddrS z.e (t 17) (t 18)),i 20 (.loadN z.e (t 19)),i 21 (.mov (t 0)),i 22 (.mov (t 1)),i 23 (.idxAddrS z.e (t 21) (t 22)),i 24 (.loadN z.e (t 23)),i 25 (.idxAddrS z.e (t 13) (t 14)),⟨none,none,(.store z.e (t 25) (t 20)),none,[]⟩,i 26 (.idxAddrS z.e (t 15) (t 16)),⟨none,none,(.store z.e (t 26) (t 24)),none,[]⟩]) (.seq (.ops [i 27 (.mov (t 1)),i 28 (.bin .add (t 27) (k (.int .i64 1))),i 29 (.mov (t 2)),i 30 (.bin .sub (t 29) (k (.int .i64 1))),i 11 (.mov (t 28)),i 12 (.mov (t 30))]) (.seq (.block 0 (.loop (lPEQ_3 z))) (.seq (.ops [i 89 (.mov (t 11)),i 10 (.mov (t 89))]) .ret)))))
def aPEQ (z:Ids):zAf:=⟨90,[(.tmp 10)],cPEQ z⟩
theorem nPEQ {z:Ids}:(aPEQ z).ntmps=90:=id rfl
theorem rPEQ {z:Ids}:(aPEQ z).results=[(.tmp 10)]:=rfl
theorem bPEQ {z:Ids}:(aPEQ z).body=cPEQ z:=rfl
def lPART_1 (z:Ids):zAc:=(.seq (.seq (.drawn 0 [i 123 (.mov (t 12)),i 124 (.mov (t 13)),i 125 (.bin .leq (t 123) (t 124)),i 126 (.mov (t 125)),⟨(some 127),(some (126,true)),(.mov (t 4)),none,[]⟩,⟨(some 128),(some (126,true)),(.mov (t 0)),none,[]⟩,⟨(some 129),(some (126,true)),(.mov (t 13)),none,[]⟩,⟨(some 130),(some (126,true)),(.idxAddrS z.e (t 128) (t 129)),none,[]⟩,⟨(some 131),(some (126,true)),(.loadN z.e (t 130)),none,[]⟩,⟨(some 132),(some (126,true)),(.mov (t 0)),none,[]⟩,⟨(some 133),(some (126,true)),(.mov (t 1)),none,[]⟩,⟨(some 134),(some (126,true)),(.idxAddrS z.e (t 132) (t 133)),none,[]⟩,⟨(some 135),(some (126,true)),(.loadN z.e (t 134)),none,[]⟩,⟨(some 136),(some (126,true)),(.call .pure (t 127) [(t 131),(t 135)]),none,[]⟩,⟨(some 137),(some (126,true)),(.bin .lss (t 136) (k (.int .i64 0))),none,[]⟩,⟨(some 138),(some (126,true)),(.un .not (t 137)),none,[]⟩,i 139 (.pick (t 126) (t 138) (k (.bool false)))]) (.cond (t 139) .skip (.exit 8))) (.block 9 (.ops [i 140 (.mov (t 13)),i 141 (.bin .sub (t 140) (k (.int .i64 1))),i 13 (.mov (t 141))])))
def lPART_2 (z:Ids):zAc:=(.seq (.seq (.drawn 0 [i 105 (.mov (t 12)),i 106 (.mov (t 13)),i 107 (.bin .leq (t 105) (t 106)),i 108 (.mov (t 107)),⟨(some 109),(some (108,true)),(.mov (t 4)),none,[]⟩,⟨(some 110),(some (108,true)),(.mov (t 0)),none,[]⟩,⟨(some 111),(some (108,true)),(.mov (t 12)),none,[]⟩,⟨(some 112),(some (108,true)),(.idxAddrS z.e (t 110) (t 111)),none,[]⟩,⟨(some 113),(some (108,true)),(.loadN z.e (t 112)),none,[]⟩,⟨(some 114),(some (108,true)),(.mov (t 0)),none,[]⟩,⟨(some 115),(some (108,true)),(.mov (t 1)),none,[]⟩,⟨(some 116),(some (108,true)),(.idxAddrS z.e (t 114) (t 115)),none,[]⟩,⟨(some 117),(some (108,true)),(.loadN z.e (t 116)),none,[]⟩,⟨(some 118),(some (108,true)),(.call .pure (t 109) [(t 113),(t 117)]),none,[]⟩,⟨(some 119),(some (108,true)),(.bin .lss (t 118) (k (.int .i64 0))),none,[]⟩,i 120 (.pick (t 108) (t 119) (k (.bool false)))]) (.cond (t 120) .skip (.exit 6))) (.block 7 (.ops [i 121 (.mov (t 12)),i 122 (.bin .add (t 121) (k (.int .i64 1))),i 12 (.mov (t 122))])))
def lPART_3 (z:Ids):zAc:=(.block 5 (.seq (.block 6 (.loop (lPART_2 z))) (.seq (.block 8 (.loop (lPART_1 z))) (.seq (.seq (.ops [i 142 (.mov (t 12)),i 143 (.mov (t 13)),i 144 (.bin .gtr (t 142) (t 143))]) (.cond (t 144) (.exit 4) .skip)) (.seq (.drawn 0 [i 145 (.mov (t 0)),i 146 (.mov (t 12)),i 147 (.mov (t 0)),i 148 (.mov (t 13)),i 149 (.mov (t 0)),i 150 (.mov (t 13)),i 151 (.idxAddrS z.e (t 149) (t 150)),i 152 (.loadN z.e (t 151)),i 153 (.mov (t 0)),i 154 (.mov (t 12)),i 155 (.idxAddrS z.e (t 153) (t 154)),i 156 (.loadN z.e (t 155)),i 157 (.idxAddrS z.e (t 145) (t 146)),⟨none,none,(.store z.e (t 157) (t 152)),none,[]⟩,i 158 (.idxAddrS z.e (t 147) (t 148)),⟨none,none,(.store z.e (t 158) (t 156)),none,[]⟩]) (.seq (.ops [i 159 (.mov (t 12)),i 160 (.bin .add (t 159) (k (.int .i64 1))),i 12 (.mov (t 160))]) (.ops [i 161 (.mov (t 13)),i 162 (.bin .sub (t 161) (k (.int .i64 1))),i 13 (.mov (t 162))])))))))
def lPART_4 (z:Ids):zAc:=(.seq (.seq (.drawn 0 [i 50 (.mov (t 12)),i 51 (.mov (t 13)),i 52 (.bin .leq (t 50) (t 51)),i 53 (.mov (t 52)),⟨(some 54),(some (53,true)),(.mov (t 4)),none,[]⟩,⟨(some 55),(some (53,true)),(.mov (t 0)),none,[]⟩,⟨(some 56),(some (53,true)),(.mov (t 13)),none,[]⟩,⟨(some 57),(some (53,true)),(.idxAddrS z.e (t 55) (t 56)),none,[]⟩,⟨(some 58),(some (53,true)),(.loadN z.e (t 57)),none,[]⟩,⟨(some 59),(some (53,true)),(.mov (t 0)),none,[]⟩,⟨(some 60),(some (53,true)),(.mov (t 1)),none,[]⟩,⟨(some 61),(some (53,true)),(.idxAddrS z.e (t 59) (t 60)),none,[]⟩,⟨(some 62),(some (53,true)),(.loadN z.e (t 61)),none,[]⟩,⟨(some 63),(some (53,true)),(.call .pure (t 54) [(t 58),(t 62)]),none,[]⟩,⟨(some 64),(some (53,true)),(.bin .lss (t 63) (k (.int .i64 0))),none,[]⟩,⟨(some 65),(some (53,true)),(.un .not (t 64)),none,[]⟩,i 66 (.pick (t 53) (t 65) (k (.bool false)))]) (.cond (t 66) .skip (.exit 2))) (.block 3 (.ops [i 67 (.mov (t 13)),i 68 (.bin .sub (t 67) (k (.int .i64 1))),i 13 (.mov (t 68))])))
def lPART_5 (z:Ids):zAc:=(.seq (.seq (.drawn 0 [i 32 (.mov (t 12)),i 33 (.mov (t 13)),i 34 (.bin .leq (t 32) (t 33)),i 35 (.mov (t 34)),⟨(some 36),(some (35,true)),(.mov (t 4)),none,[]⟩,⟨(some 37),(some (35,true)),(.mov (t 0)),none,[]⟩,⟨(some 38),(some (35,true)),(.mov (t 12)),none,[]⟩,⟨(some 39),(some (35,true)),(.idxAddrS z.e (t 37) (t 38)),none,[]⟩,⟨(some 40),(some (35,true)),(.loadN z.e (t 39)),none,[]⟩,⟨(some 41),(some (35,true)),(.mov (t 0)),none,[]⟩,⟨(some 42),(some (35,true)),(.mov (t 1)),none,[]⟩,⟨(some 43),(some (35,true)),(.idxAddrS z.e (t 41) (t 42)),none,[]⟩,⟨(some 44),(some (35,true)),(.loadN z.e (t 43)),none,[]⟩,⟨(some 45),(some (35,true)),(.call .pure (t 36) [(t 40),(t 44)]),none,[]⟩,⟨(some 46),(some (35,true)),(.bin .lss (t 45) (k (.int .i64 0))),none,[]⟩,i 47 (.pick (t 35) (t 46) (k (.bool false)))]) (.cond (t 47) .skip (.exit 0))) (.block 1 (.ops [i 48 (.mov (t 12)),i 49 (.bin .add (t 48) (k (.int .i64 1))),i 12 (.mov (t 49))])))
def cPART (z:Ids):zAc:=(.seq (.ops [i 10 (.mov (k (.int .i64 0))),i 11 (.mov (k (.bool false)))]) (.seq (.drawn 0 [i 14 (.mov (t 0)),i 15 (.mov (t 1)),i 16 (.mov (t 0)),i 17 (.mov (t 3)),i 18 (.mov (t 0)),i 19 (.mov (t 3)),i 20 (.idxAddrS z.e (t 18) (t 19)),i 21 (.loadN z.e (t 20)),i 22 (.mov (t 0)),i 23 (.mov (t 1)),i 24 (.idxAddrS z.e (t 22) (t 23)),i 25 (.loadN z.e (t 24)),i 26 (.idxAddrS z.e (t 14) (t 15)),⟨none,none,(.store z.e (t 26) (t 21)),none,[]⟩,i 27 (.idxAddrS z.e (t 16) (t 17)),⟨none,none,(.store z.e (t 27) (t 25)),none,[]⟩]) (.seq (.ops [i 28 (.mov (t 1)),i 29 (.bin .add (t 28) (k (.int .i64 1))),i 30 (.mov (t 2)),i 31 (.bin .sub (t 30) (k (.int .i64 1))),i 12 (.mov (t 29)),i 13 (.mov (t 31))]) (.seq (.block 0 (.loop (lPART_5 z))) (.seq (.block 2 (.loop (lPART_4 z))) (.seq (.seq (.ops [i 69 (.mov (t 12)),i 70 (.mov (t 13)),i 71 (.bin .gtr (t 69) (t 70))]) (.cond (t 71) (.seq (.drawn 0 [i 72 (.mov (t 0)),i 73 (.mov (t 13)),i 74 (.mov (t 0)),i 75 (.mov (t 1)),i 76 (.mov (t 0)),i 77 (.mov (t 1)),i 78 (.idxAddrS z.e (t 76) (t 77)),i 79 (.loadN z.e (t 78)),i 80 (.mov (t 0)),i 81 (.mov (t 13)),i 82 (.idxAddrS z.e (t 80) (t 81)),i 83 (.loadN z.e (t 82)),i 84 (.idxAddrS z.e (t 72) (t 73)),⟨none,none,(.store z.e (t 84) (t 79)),none,[]⟩,i 85 (.idxAddrS z.e (t 74) (t 75)),⟨none,none,(.store z.e (t 85) (t 83)),none,[]⟩]) (.seq (.ops [i 86 (.mov (t 13)),i 10 (.mov (t 86)),i 11 (.mov (k (.bool true)))]) .ret)) .skip)) (.seq (.drawn 0 [i 87 (.mov (t 0)),i 88 (.mov (t 12)),i 89 (.mov (t 0)),i 90 (.mov (t 13)),i 91 (.mov (t 0)),i 92 (.mov (t 13)),i 93 (.idxAddrS z.e (t 91) (t 92)),i 94 (.loadN z.e (t 93)),i 95 (.mov (t 0)),i 96 (.mov (t 12)),i 97 (.idxAddrS z.e (t 95) (t 96)),i 98 (.loadN z.e (t 97)),i 99 (.idxAddrS z.e (t 87) (t 88)),⟨none,none,(.store z.e (t 99) (t 94)),none,[]⟩,i 100 (.idxAddrS z.e (t 89) (t 90)),⟨none,none,(.store z.e (t 100) (t 98)),none,[]⟩]) (.seq (.ops [i 101 (.mov (t 12)),i 102 (.bin .add (t 101) (k (.int .i64 1))),i 12 (.mov (t 102))]) (.seq (.ops [i 103 (.mov (t 13)),i 104 (.bin .sub (t 103) (k (.int .i64 1))),i 13 (.mov (t 104))]) (.seq (.block 4 (.loop (lPART_3 z))) (.seq (.drawn 0 [i 163 (.mov (t 0)),i 164 (.mov (t 13)),i 165 (.mov (t 0)),i 166 (.mov (t 1)),i 167 (.mov (t 0)),i 168 (.mov (t 1)),i 169 (.idxAddrS z.e (t 167) (t 168)),i 170 (.loadN z.e (t 169)),i 171 (.mov (t 0)),i 172 (.mov (t 13)),i 173 (.idxAddrS z.e (t 171) (t 172)),i 174 (.loadN z.e (t 173)),i 175 (.idxAddrS z.e (t 163) (t 164)),⟨none,none,(.store z.e (t 175) (t 170)),none,[]⟩,i 176 (.idxAddrS z.e (t 165) (t 166)),⟨none,none,(.store z.e (t 176) (t 174)),none,[]⟩]) (.seq (.ops [i 177 (.mov (t 13)),i 10 (.mov (t 177)),i 11 (.mov (k (.bool false)))]) .ret))))))))))))
def aPART (z:Ids):zAf:=⟨178,[(.tmp 10),(.tmp 11)],cPART z⟩
theorem nPART {z:Ids}:(aPART z).ntmps=178:=id rfl
theorem rPART {z:Ids}:(aPART z).results=[(.tmp 10),(.tmp 11)]:=rfl
theorem bPART {z:Ids}:(aPART z).body=cPART z:=rfl
def lPDQ_1 (z:Ids):zAc:=(.block 1 (.seq (.ops [i 21 (.mov (t 2)),i 22 (.mov (t 1)),i 23 (.bin .sub (t 21) (t 22)),i 12 (.mov (t 23))]) (.seq (.seq (.ops [i 24 (.mov (t 12)),i 25 (.bin .leq (t 24) (k (.int .i64 12)))]) (.cond (t 25) (.seq (.ops [i 26 (.mov (t 0)),i 27 (.mov (t 1)),i 28 (.mov (t 2)),i 29 (.mov (t 4)),i 30 (.call .any (.func z.INS) [(t 26),(t 27),(t 28),(t 29)])]) .ret) .skip)) (.seq (.seq (.ops [i 31 (.mov (t 3)),i 32 (.bin .eql (t 31) (k (.int .i64 0)))]) (.cond (t 32) (.seq (.ops [i 33 (.mov (t 0)),i 34 (.mov (t 1)),i 35 (.mov (t 2)),i 36 (.mov (t 4)),i 37 (.call .any (.func z.HEAP) [(t 33),(t 34),(t 35),(t 36)])]) .ret) .skip)) (.seq (.seq (.ops [i 38 (.mov (t 10)),i 39 (.un .not (t 38))]) (.cond (t 39) (.seq (.ops [i 40 (.mov (t 0)),i 41 (.mov (t 1)),i 42 (.mov (t 2)),i 43 (.mov (t 4)),i 44 (.call .any (.func z.BRK) [(t 40),(t 41),(t 42),(t 43)])]) (.ops [i 45 (.mov (t 3)),i 46 (.bin .sub (t 45) (k (.int .i64 1))),i 3 (.mov (t 46))])) .skip)) (.seq (.ops [i 48 (.mov (t 0)),i 49 (.mov (t 1)),i 50 (.mov (t 2)),i 51 (.mov (t 4)),i 52 (.call .any (.func z.CHO) [(t 48),(t 49),(t 50),(t 51)]),i 47 (.mov (t 52)),i 53 (.extract 0 (t 47)),i 54 (.extract 1 (t 47)),i 13 (.mov (t 53)),i 14 (.mov (t 54))]) (.seq (.seq (.ops [i 55 (.mov (t 14)),i 56 (.bin .eql (t 55) (k (.int .i64 2)))]) (.cond (t 56) (.seq (.ops [i 57 (.mov (t 0)),i 58 (.mov (t 1)),i 59 (.mov (t 2)),i 60 (.mov (t 4)),i 61 (.call .any (.func z.REV) [(t 57),(t 58),(t 59),(t 60)])]) (.seq (.ops [i 62 (.mov (t 2)),i 63 (.bin .sub (t 62) (k (.int .i64 1))),i 64 (.mov (t 13)),i 65 (.mov (t 1)),i 66 (.bin .sub (t 64) (t 65)),i 67 (.bin .sub (t 63) (t 66)),i 13 (.mov (t 67))]) (.ops [i 14 (.mov (k (.int .i64 1)))]))) .skip)) (.seq (.seq (.ops [i 68 (.mov (t 10)),i 69 (.mov (t 68)),⟨(some 70),(some (69,true)),(.mov (t 11)),none,[]⟩,i 71 (.pick (t 69) (t 70) (k (.bool false))),i 72 (.mov (t 71)),⟨(some 73),(some (72,true)),(.mov (t 14)),none,[]⟩,⟨(some 74),(some (72,true)),(.bin .eql (t 73) (k (.int .i64 1))),none,[]⟩,i 75 (.pick (t 72) (t 74) (k (.bool false)))]) (.cond (t 75) (.seq (.ops [i 76 (.mov (t 0)),i 77 (.mov (t 1)),i 78 (.mov (t 2)),i 79 (.mov (t 4)),i 80 (.call .any (.func z.PIS) [(t 76),(t 77),(t 78),(t 79)])]) (.cond (t 80) .ret .skip)) .skip)) (.seq (.seq (.drawn 0 [i 81 (.mov (t 1)),i 82 (.bin .gtr (t 81) (k (.int .i64 0))),i 83 (.mov (t 82)),⟨(some 84),(some (83,true)),(.mov (t 4)),none,[]⟩,⟨(some 85),(some (83,true)),(.mov (t 0)),none,[]⟩,⟨(some 86),(some (83,true)),(.mov (t 1)),none,[]⟩,⟨(some 87),(some (83,true)),(.bin .sub (t 86) (k (.int .i64 1))),none,[]⟩,⟨(some 88),(some (83,true)),(.idxAddrS z.e (t 85) (t 87)),none,[]⟩,⟨(some 89),(some (83,true)),(.loadN z.e (t 88)),none,[]⟩,⟨(some 90),(some (83,true)),(.mov (t 0)),none,[]⟩,⟨(some 91),(some (83,true)),(.mov (t 13)),none,[]⟩,⟨(some 92),(some (83,true)),(.idxAddrS z.e (t 90) (t 91)),none,[]⟩,⟨(some 93),(some (83,true)),(.loadN z.e (t 92)),none,[]⟩,⟨(some 94),(some (83,true)),(.call .pure (t 84) [(t 89),(t 93)]),none,[]⟩,⟨(some 95),(some (83,true)),(.bin .lss (t 94) (k (.int .i64 0))),none,[]⟩,⟨(some 96),(some (83,true)),(.un .not (t 95)),none,[]⟩,i 97 (.pick (t 83) (t 96) (k (.bool false)))]) (.cond (t 97) (.seq (.ops [i 98 (.mov (t 0)),i 99 (.mov (t 1)),i 100 (.mov (t 2)),i 101 (.mov (t 13)),i 102 (.mov (t 4)),i 103 (.call .any (.func z.PEQ) [(t 98),(t 99),(t 100),(t 101),(t 102)]),i 15 (.mov (t 103))]) (.seq (.ops [i 104 (.mov (t 15)),i 1 (.mov (t 104))]) (.exit 1))) .skip)) (.seq (.ops [i 106 (.mov (t 0)),i 107 (.mov (t 1)),i 108 (.mov (t 2)),i 109 (.mov (t 13)),i 110 (.mov (t 4)),i 111 (.call .any (.func z.PART) [(t 106),(t 107),(t 108),(t 109),(t 110)]),i 105 (.mov (t 111)),i 112 (.extract 0 (t 105)),i 113 (.extract 1 (t 105)),i 16 (.mov (t 112)),i 17 (.mov (t 113))]) (.seq (.ops [i 114 (.mov (t 17)),i 11 (.mov (t 114))]) (.seq (.ops [i 115 (.mov (t 16)),i 116 (.mov (t 1)),i 117 (.bin .sub (t 115) (t 116)),i 118 (.mov (t 2)),i 119 (.mov (t 16)),i 120 (.bin .sub (t 118) (t 119)),i 18 (.mov (t 117)),i 19 (.mov (t 120))]) (.seq (.ops [i 121 (.mov (t 12)),i 122 (.bin .quo (t 121) (k (.int .i64 8))),i 20 (.mov (t 122))]) (.seq (.ops [i 123 (.mov (t 18)),i 124 (.mov (t 19)),i 125 (.bin .lss (t 123) (t 124))]) (.cond (t 125) (.seq (.ops [i 126 (.mov (t 18)),i 127 (.mov (t 20)),i 128 (.bin .geq (t 126) (t 127)),i 10 (.mov (t 128))]) (.seq (.ops [i 129 (.mov (t 0)),i 130 (.mov (t 1)),i 131 (.mov (t 16)),i 132 (.mov (t 3)),i 133 (.mov (t 4)),i 134 (.call .any (.func z.PDQ) [(t 129),(t 130),(t 131),(t 132),(t 133)])]) (.ops [i 135 (.mov (t 16)),i 136 (.bin .add (t 135) (k (.int .i64 1))),i 1 (.mov (t 136))]))) (.seq (.ops [i 137 (.mov (t 19)),i 138 (.mov (t 20)),i 139 (.bin .geq (t 137) (t 138)),i 10 (.mov (t 139))]) (.seq (.ops [i 140 (.mov (t 0)),i 141 (.mov (t 16)),i 142 (.bin .add (t 141) (k (.int .i64 1))),i 143 (.mov (t 2)),i 144 (.mov (t 3)),i 145 (.mov (t 4)),i 146 (.call .any (.func z.PDQ) [(t 140),(t 142),(t 143),(t 144),(t 145)])]) (.ops [i 147 (.mov (t 16)),i 2 (.mov (t 147))]))))))))))))))))))
def cPDQ (z:Ids):zAc:=(.seq (.ops [i 10 (.mov (k (.bool true)))]) (.seq (.ops [i 11 (.mov (k (.bool true)))]) (.block 0 (.loop (lPDQ_1 z)))))
def aPDQ (z:Ids):zAf:=⟨148,[],cPDQ z⟩
theorem nPDQ {z:Ids}:(aPDQ z).ntmps=148:=id rfl
theorem rPDQ {z:Ids}:(aPDQ z).results=[]:=rfl
theorem bPDQ {z:Ids}:(aPDQ z).body=cPDQ z:=rfl
def cSORT (z:Ids):zAc:=(.seq (.ops [i 5 (.mov (t 0)),i 6 (.lenSlice (t 5)),i 4 (.mov (t 6))]) (.ops [i 7 (.mov (t 0)),i 8 (.mov (t 4)),i 9 (.mov (t 4)),i 10 (.conv .u64 (t 9)),i 11 (.call .any (.func z.LEN) [(t 10)]),i 12 (.mov (t 1)),i 13 (.call .any (.func z.PDQ) [(t 7),(k (.int .i64 0)),(t 8),(t 11),(t 12)])]))
def aSORT (z:Ids):zAf:=⟨14,[],cSORT z⟩
theorem nSORT {z:Ids}:(aSORT z).ntmps=14:=id rfl
theorem rSORT {z:Ids}:(aSORT z).results=[]:=rfl
theorem bSORT {z:Ids}:(aSORT z).body=cSORT z:=rfl
def cLEN (z:Ids):zAc:=(.seq (.ops [i 2 (.mov (k (.int .i64 0)))]) (.seq (.cond (k (.bool false)) (.seq (.ops [i 3 (.mov (t 0)),i 4 (.conv .u32 (t 3)),i 5 (.call .any (.func z.LEN32) [(t 4)]),i 2 (.mov (t 5))]) .ret) .skip) (.seq (.ops [i 6 (.mov (t 0)),i 7 (.call .any (.func z.LEN64) [(t 6)]),i 2 (.mov (t 7))]) .ret)))
def aLEN (z:Ids):zAf:=⟨8,[(.tmp 2)],cLEN z⟩
theorem nLEN {z:Ids}:(aLEN z).ntmps=8:=id rfl
theorem rLEN {z:Ids}:(aLEN z).results=[(.tmp 2)]:=rfl
theorem bLEN {z:Ids}:(aLEN z).body=cLEN z:=rfl
def cLEN64 (z:Ids):zAc:=(.seq (.ops [i 2 (.mov (k (.int .i64 0)))]) (.seq (.seq (.ops [i 3 (.mov (t 0)),i 4 (.bin .geq (t 3) (k (.int .u64 4294967296)))]) (.cond (t 4) (.seq (.ops [i 5 (.mov (t 0)),i 6 (.bin .shr (t 5) (k (.int .u64 32))),i 0 (.mov (t 6))]) (.ops [i 2 (.mov (k (.int .i64 32)))])) .skip)) (.seq (.seq (.ops [i 7 (.mov (t 0)),i 8 (.bin .geq (t 7) (k (.int .u64 65536)))]) (.cond (t 8) (.seq (.ops [i 9 (.mov (t 0)),i 10 (.bin .shr (t 9) (k (.int .u64 16))),i 0 (.mov (t 10))]) (.ops [i 11 (.mov (t 2)),i 12 (.bin .add (t 11) (k (.int .i64 16))),i 2 (.mov (t 12))])) .skip)) (.seq (.seq (.ops [i 13 (.mov (t 0)),i 14 (.bin .geq (t 13) (k (.int .u64 256)))]) (.cond (t 14) (.seq (.ops [i 15 (.mov (t 0)),i 16 (.bin .shr (t 15) (k (.int .u64 8))),i 0 (.mov (t 16))]) (.ops [i 17 (.mov (t 2)),i 18 (.bin .add (t 17) (k (.int .i64 8))),i 2 (.mov (t 18))])) .skip)) (.seq (.ops [i 19 (.mov (t 2)),i 20 (.mov (t 0)),i 21 (.conv .u8 (t 20)),i 22 (.idxStr (k (.string ⟨#[0,1,2,2,3,3,3,3,4,4,4,4,4,4,4,4,5,5,5,5,5,5,5,5,5,5,5,5,5,5,5,5,6,6,6,6,6,6,6,6,6,6,6,6,6,6,6,6,6,6,6,6,6,6,6,6,6,6,6,6,6,6,6,6,7,7,7,7,7,7,7,7,7,7,7,7,7,7,7,7,7,7,7,7,7,7,7,7,7,7,7,7,7,7,7,7,7,7,7,7,7,7,7,7,7,7,7,7,7,7,7,7,7,7,7,7,7,7,7,7,7,7,7,7,7,7,7,7,8,8,8,8,8,8,8,8,8,8,8,8,8,8,8,8,8,8,8,8,8,8,8,8,8,8,8,8,8,8,8,8,8,8,8,8,8,8,8,8,8,8,8,8,8,8,8,8,8,8,8,8,8,8,8,8,8,8,8,8,8,8,8,8,8,8,8,8,8,8,8,8,8,8,8,8,8,8,8,8,8,8,8,8,8,8,8,8,8,8,8,8,8,8,8,8,8,8,8,8,8,8,8,8,8,8,8,8,8,8,8,8,8,8,8,8,8,8,8,8,8,8,8,8,8,8,8,8]⟩)) (t 21)),i 23 (.conv .i64 (t 22)),i 24 (.bin .add (t 19) (t 23)),i 2 (.mov (t 24))]) .ret)))))
def aLEN64 (z:Ids):zAf:=⟨25,[(.tmp 2)],cLEN64 z⟩
theorem nLEN64 {z:Ids}:(aLEN64 z).ntmps=25:=id rfl
theorem rLEN64 {z:Ids}:(aLEN64 z).results=[(.tmp 2)]:=rfl
theorem bLEN64 {z:Ids}:(aLEN64 z).body=cLEN64 z:=rfl
def cNPT (z:Ids):zAc:=(.seq (.ops [i 2 (.mov (k (.int .u64 0)))]) (.seq (.ops [i 3 (.mov (t 0)),i 4 (.conv .u64 (t 3)),i 5 (.call .any (.func z.LEN) [(t 4)]),i 6 (.bin .shl (k (.int .u64 1)) (t 5)),i 2 (.mov (t 6))]) .ret))
def aNPT (z:Ids):zAf:=⟨7,[(.tmp 2)],cNPT z⟩
theorem nNPT {z:Ids}:(aNPT z).ntmps=7:=id rfl
theorem rNPT {z:Ids}:(aNPT z).results=[(.tmp 2)]:=rfl
theorem bNPT {z:Ids}:(aNPT z).body=cNPT z:=rfl
def cXOR (z:Ids):zAc:=(.seq (.ops [i 2 (.mov (k (.int .u64 0)))]) (.seq (.drawn 0 [i 3 (.mov (t 0)),i 4 (.nilCheck (t 3)),i 5 (.load1 (t 4)),i 6 (.mov (t 0)),i 7 (.nilCheck (t 6)),i 8 (.load1 (t 7)),i 9 (.bin .shl (t 8) (k (.int .u64 13))),i 10 (.bin .xor (t 5) (t 9)),i 11 (.nilCheck (t 3)),⟨none,none,(.store 1 (t 11) (t 10)),none,[]⟩]) (.seq (.drawn 0 [i 12 (.mov (t 0)),i 13 (.nilCheck (t 12)),i 14 (.load1 (t 13)),i 15 (.mov (t 0)),i 16 (.nilCheck (t 15)),i 17 (.load1 (t 16)),i 18 (.bin .shr (t 17) (k (.int .u64 7))),i 19 (.bin .xor (t 14) (t 18)),i 20 (.nilCheck (t 12)),⟨none,none,(.store 1 (t 20) (t 19)),none,[]⟩]) (.seq (.drawn 0 [i 21 (.mov (t 0)),i 22 (.nilCheck (t 21)),i 23 (.load1 (t 22)),i 24 (.mov (t 0)),i 25 (.nilCheck (t 24)),i 26 (.load1 (t 25)),i 27 (.bin .shl (t 26) (k (.int .u64 17))),i 28 (.bin .xor (t 23) (t 27)),i 29 (.nilCheck (t 21)),⟨none,none,(.store 1 (t 29) (t 28)),none,[]⟩]) (.seq (.ops [i 30 (.mov (t 0)),i 31 (.nilCheck (t 30)),i 32 (.load1 (t 31)),i 2 (.mov (t 32))]) .ret)))))
def aXOR (z:Ids):zAf:=⟨33,[(.tmp 2)],cXOR z⟩
theorem nXOR {z:Ids}:(aXOR z).ntmps=33:=id rfl
theorem rXOR {z:Ids}:(aXOR z).results=[(.tmp 2)]:=rfl
theorem bXOR {z:Ids}:(aXOR z).body=cXOR z:=rfl
def cMEDA (z:Ids):zAc:=(.seq (.ops [i 8 (.mov (k (.int .i64 0)))]) (.seq (.ops [i 9 (.mov (t 0)),i 10 (.mov (t 1)),i 11 (.bin .sub (t 10) (k (.int .i64 1))),i 12 (.mov (t 1)),i 13 (.mov (t 1)),i 14 (.bin .add (t 13) (k (.int .i64 1))),i 15 (.mov (t 2)),i 16 (.mov (t 3)),i 17 (.call .any (.func z.MED) [(t 9),(t 11),(t 12),(t 14),(t 15),(t 16)]),i 8 (.mov (t 17))]) .ret))
def aMEDA (z:Ids):zAf:=⟨18,[(.tmp 8)],cMEDA z⟩
theorem nMEDA {z:Ids}:(aMEDA z).ntmps=18:=id rfl
theorem rMEDA {z:Ids}:(aMEDA z).results=[(.tmp 8)]:=rfl
theorem bMEDA {z:Ids}:(aMEDA z).body=cMEDA z:=rfl
def cMED (z:Ids):zAc:=(.seq (.ops [i 12 (.mov (k (.int .i64 0)))]) (.seq (.ops [i 14 (.mov (t 0)),i 15 (.mov (t 1)),i 16 (.mov (t 2)),i 17 (.mov (t 4)),i 18 (.mov (t 5)),i 19 (.call .any (.func z.ORD) [(t 14),(t 15),(t 16),(t 17),(t 18)]),i 13 (.mov (t 19)),i 20 (.extract 0 (t 13)),i 21 (.extract 1 (t 13)),i 1 (.mov (t 20)),i 2 (.mov (t 21))]) (.seq (.ops [i 23 (.mov (t 0)),i 24 (.mov (t 2)),i 25 (.mov (t 3)),i 26 (.mov (t 4)),i 27 (.mov (t 5)),i 28 (.call .any (.func z.ORD) [(t 23),(t 24),(t 25),(t 26),(t 27)]),i 22 (.mov (t 28)),i 29 (.extract 0 (t 22)),i 30 (.extract 1 (t 22)),i 2 (.mov (t 29)),i 3 (.mov (t 30))]) (.seq (.ops [i 32 (.mov (t 0)),i 33 (.mov (t 1)),i 34 (.mov (t 2)),i 35 (.mov (t 4)),i 36 (.mov (t 5)),i 37 (.call .any (.func z.ORD) [(t 32),(t 33),(t 34),(t 35),(t 36)]),i 31 (.mov (t 37)),i 38 (.extract 0 (t 31)),i 39 (.extract 1 (t 31)),i 1 (.mov (t 38)),i 2 (.mov (t 39))]) (.seq (.ops [i 40 (.mov (t 2)),i 12 (.mov (t 40))]) .ret)))))
def aMED (z:Ids):zAf:=⟨41,[(.tmp 12)],cMED z⟩
theorem nMED {z:Ids}:(aMED z).ntmps=41:=id rfl
theorem rMED {z:Ids}:(aMED z).results=[(.tmp 12)]:=rfl
theorem bMED {z:Ids}:(aMED z).body=cMED z:=rfl
def cORD (z:Ids):zAc:=(.seq (.ops [i 10 (.mov (k (.int .i64 0))),i 11 (.mov (k (.int .i64 0)))]) (.seq (.seq (.drawn 0 [i 12 (.mov (t 4)),i 13 (.mov (t 0)),i 14 (.mov (t 2)),i 15 (.idxAddrS z.e (t 13) (t 14)),i 16 (.loadN z.e (t 15)),i 17 (.mov (t 0)),i 18 (.mov (t 1)),i 19 (.idxAddrS z.e (t 17) (t 18)),i 20 (.loadN z.e (t 19)),i 21 (.call .pure (t 12) [(t 16),(t 20)]),i 22 (.bin .lss (t 21) (k (.int .i64 0)))]) (.cond (t 22) (.seq (.ops [i 23 (.mov (t 3)),i 24 (.nilCheck (t 23)),i 25 (.load1 (t 24)),i 26 (.bin .add (t 25) (k (.int .i64 1))),i 27 (.nilCheck (t 23)),⟨none,none,(.store 1 (t 27) (t 26)),none,[]⟩]) (.seq (.ops [i 28 (.mov (t 2)),i 29 (.mov (t 1)),i 10 (.mov (t 28)),i 11 (.mov (t 29))]) .ret)) .skip)) (.seq (.ops [i 30 (.mov (t 1)),i 31 (.mov (t 2)),i 10 (.mov (t 30)),i 11 (.mov (t 31))]) .ret)))
def aORD (z:Ids):zAf:=⟨32,[(.tmp 10),(.tmp 11)],cORD z⟩
theorem nORD {z:Ids}:(aORD z).ntmps=32:=id rfl
theorem rORD {z:Ids}:(aORD z).results=[(.tmp 10),(.tmp 11)]:=rfl
theorem bORD {z:Ids}:(aORD z).body=cORD z:=rfl
def Knows (E:Env) (g:FuncId) (af:zAf) (p:Bool):Prop:=E.tr g=some af∧E.pure g=p∧∀as,E.orc g as=none
class SortAt (E:Env) (z:Ids):Prop where
 dt:E.dt=true
 INS:Knows E z.INS (aINS z) false
 SIFT:Knows E z.SIFT (aSIFT z) false
 HEAP:Knows E z.HEAP (aHEAP z) false
 BRK:Knows E z.BRK (aBRK z) false
 CHO:Knows E z.CHO (aCHO z) false
 REV:Knows E z.REV (aREV z) false
 PIS:Knows E z.PIS (aPIS z) false
 PEQ:Knows E z.PEQ (aPEQ z) false
 PART:Knows E z.PART (aPART z) false
 PDQ:Knows E z.PDQ (aPDQ z) false
 SORT:Knows E z.SORT (aSORT z) false
 LEN:Knows E z.LEN (aLEN z) true
 LEN64:Knows E z.LEN64 (aLEN64 z) true
 NPT:Knows E z.NPT (aNPT z) true
 XOR:Knows E z.XOR (aXOR z) false
 MEDA:Knows E z.MEDA (aMEDA z) false
 MED:Knows E z.MED (aMED z) false
 ORD:Knows E z.ORD (aORD z) false
class EncOk {α:Type} (enc:α→List Value) (z:outParam Ids):Prop where
 len:∀x,(enc x).length=z.e
section
variable {E:Env} {mp:Bool} {lim:Nat} {g:FuncId} {as:List Value} {v:Value} {af:zAf} {H H':zH} {Q:Value→zH→Prop}
theorem runs (h:Knows E g af false) (hr:Ret E af lim [.code af.body] (zFr as) H fun v' H1=>v'=v∧H1=H'):CallR E false lim g as H Q=Q v H':=by
 refine CallR.eq ?_
 rw [CallR_run (E:=E) (h.2.2 _) h.1 h.2.1 rfl]
 exact hr
theorem pcG (h:Knows E g af true) (hf:flat 4 v=true) (hr:Ret E af H.length [.code af.body] (zFr as) (H++[]) fun v' _=>v'=v):CallR E mp lim g as H Q=Q v H:=
 CallR_pure (E:=E) (h.2.2 _) h.1 h.2.1 hf (zRp hr)
theorem oneG (hd:E.dt=true) (h:CallR E mp lim g as H Q):∃n v H',aCall E n mp lim (.inl g) as H=some [(v,H')]∧Q v H':=by
 obtain ⟨n,L,h1,h2,h3⟩:=h
 obtain ⟨⟨v,H'⟩,rfl⟩:=h2 hd
 exact ⟨n,v,H',h1,h3 _ (List.mem_singleton.mpr rfl)⟩
end
end Go.AM.Srt

namespace Go.Proofs.Ytohnaffmcjbpoaa.Fn
open Go.AM Go.AM.Sym
abbrev p (d n:Nat) (o:AOp):zIn:=⟨some d,some (n,true),o,none,[]⟩
abbrev q (d n:Nat) (o:AOp):zIn:=⟨some d,some (n,false),o,none,[]⟩
abbrev s (o:AOp):zIn:=⟨none,none,o,none,[]⟩
def pure:List FuncId:=[6,8,9,10,14,15,18,20,23,24,26,28,35,38,39,43,45,46,48,52,60,61,62,63,70,80,81,91,93,108,109]
def pf:FuncId→Bool:=fun f=>pure.contains f
def zL:Srt.Ids:=⟨4,80,72,92,73,74,75,76,77,78,79,59,37,60,81,93,94,95,96,110⟩
def zC:Srt.Ids:=⟨3,80,82,97,83,84,85,86,87,88,89,64,47,60,81,93,94,98,99,111⟩
def zP:Srt.Ids:=⟨2,80,100,112,101,102,103,104,105,106,107,90,69,60,81,93,94,113,114,115⟩
def c6:zAc:=(.seq (.ops [i 6 (.box (t 0)),i 12 (.mov (k (.bool false)))]) (.seq (.seq (.ops [i 23 (.call .any (.func 9) []),i 24 (.un .not (t 23))]) (.cond (t 24) (.seq (.ops [i 12 (.mov (k (.bool false)))]) .ret) .skip)) (.seq (.seq (.ops [i 25 (.loadN 2 (t 6)),i 26 (.mov (t 1)),i 27 (.call .any (.func 8) [(t 25),(t 26)]),i 28 (.mov (t 27)),q 29 28 (.loadN 2 (t 6)),q 30 28 (.call .any (.func 14) [(t 29)]),q 31 28 (.bin .neq (t 30) (k (.int .i64 0))),i 32 (.pick (t 28) (k (.bool true)) (t 31))]) (.cond (t 32) (.seq (.ops [i 12 (.mov (k (.bool true)))]) .ret) .skip)) (.seq (.ops [i 34 (.loadN 2 (t 6)),i 35 (.mov (t 1)),i 36 (.mov (t 2)),i 37 (.mov (t 3)),i 38 (.call .any (.func 15) [(t 34),(t 35),(t 36),(t 37)]),i 33 (.mov (t 38)),i 39 (.extract 0 (t 33)),i 40 (.extract 1 (t 33)),i 13 (.mov (t 39)),i 14 (.mov (t 40))]) (.seq (.seq (.ops [i 41 (.mov (t 14)),i 42 (.bin .neq (t 41) (k (.int .i64 0)))]) (.cond (t 42) (.seq (.ops [i 12 (.mov (k (.bool true)))]) .ret) .skip)) (.seq (.seq (.ops [i 43 (.mov (t 1)),i 44 (.lenSlice (t 43)),i 45 (.bin .gtr (t 44) (k (.int .i64 0)))]) (.cond (t 45) (.seq (.ops [i 46 (.mov (t 4)),i 47 (.mov (t 1)),i 48 (.lenSlice (t 47)),i 49 (.call .any (.func 20) [(t 46),(t 48)]),i 15 (.mov (t 49))]) (.seq (.ops [i 50 (.buildSlice 0 [] []),i 51 (.mov (t 1)),i 52 (.append 3 24 false (t 50) (t 51)),i 16 (.mov (t 52))]) (.seq (.ops [i 53 (.mov (t 16)),i 54 (.mov (t 15)),i 55 (.mov (t 16)),i 56 (.mov (t 15)),i 57 (.idxAddrS 3 (t 55) (t 56)),i 58 (.fieldAddr 2 (t 57)),i 59 (.load1 (t 58)),i 60 (.mov (t 5)),i 61 (.conv .i64 (t 60)),i 62 (.bin .add (t 59) (t 61)),i 63 (.minmax false [(k (.int .i64 1000000000)),(t 62)]),i 64 (.idxAddrS 3 (t 53) (t 54)),i 65 (.fieldAddr 2 (t 64)),s (.store 1 (t 65) (t 63))]) (.seq (.ops [i 67 (.loadN 2 (t 6)),i 68 (.mov (t 16)),i 69 (.mov (t 2)),i 70 (.mov (t 3)),i 71 (.call .any (.func 15) [(t 67),(t 68),(t 69),(t 70)]),i 66 (.mov (t 71)),i 72 (.extract 0 (t 66)),i 73 (.extract 1 (t 66)),i 17 (.mov (t 72)),i 18 (.mov (t 73))]) (.seq (.seq (.ops [i 74 (.mov (t 18)),i 75 (.bin .neq (t 74) (k (.int .i64 0))),i 76 (.mov (t 75)),q 77 76 (.mov (t 17)),q 78 76 (.mov (t 13)),q 79 76 (.bin .lss (t 77) (t 78)),i 80 (.pick (t 76) (k (.bool true)) (t 79)),i 81 (.mov (t 80)),q 82 81 (.mov (t 17)),q 83 81 (.mov (t 13)),q 84 81 (.mov (t 5)),q 85 81 (.conv .i64 (t 84)),q 86 81 (.bin .add (t 83) (t 85)),q 87 81 (.bin .gtr (t 82) (t 86)),i 88 (.pick (t 81) (k (.bool true)) (t 87))]) (.cond (t 88) (.seq (.ops [i 12 (.mov (k (.bool false)))]) .ret) .skip)) (.seq (.ops [i 89 (.mov (t 16)),i 90 (.mov (t 15)),i 91 (.mov (t 1)),i 92 (.mov (t 15)),i 93 (.idxAddrS 3 (t 91) (t 92)),i 94 (.loadN 3 (t 93)),i 95 (.idxAddrS 3 (t 89) (t 90)),s (.store 3 (t 95) (t 94))]) (.seq (.ops [i 96 (.mov (t 16)),i 97 (.mov (t 15)),i 98 (.mov (t 1)),i 99 (.mov (t 15)),i 100 (.idxAddrS 3 (t 98) (t 99)),i 101 (.fieldAddr 1 (t 100)),i 102 (.load1 (t 101)),i 103 (.mov (t 5)),i 104 (.conv .i64 (t 103)),i 105 (.bin .sub (t 102) (t 104)),i 106 (.minmax true [(k (.int .i64 0)),(t 105)]),i 107 (.idxAddrS 3 (t 96) (t 97)),i 108 (.fieldAddr 1 (t 107)),s (.store 1 (t 108) (t 106))]) (.seq (.ops [i 110 (.loadN 2 (t 6)),i 111 (.mov (t 16)),i 112 (.mov (t 2)),i 113 (.mov (t 3)),i 114 (.call .any (.func 15) [(t 110),(t 111),(t 112),(t 113)]),i 109 (.mov (t 114)),i 115 (.extract 0 (t 109)),i 116 (.extract 1 (t 109)),i 17 (.mov (t 115)),i 18 (.mov (t 116))]) (.seq (.ops [i 117 (.mov (t 18)),i 118 (.bin .neq (t 117) (k (.int .i64 0))),i 119 (.mov (t 118)),q 120 119 (.mov (t 17)),q 121 119 (.mov (t 13)),q 122 119 (.bin .lss (t 120) (t 121)),i 123 (.pick (t 119) (k (.bool true)) (t 122)),i 124 (.mov (t 123)),q 125 124 (.mov (t 17)),q 126 124 (.mov (t 13)),q 127 124 (.mov (t 1)),q 128 124 (.mov (t 15)),q 129 124 (.idxAddrS 3 (t 127) (t 128)),q 130 124 (.fieldAddr 2 (t 129)),q 131 124 (.load1 (t 130)),q 132 124 (.bin .add (t 126) (t 131)),q 133 124 (.bin .gtr (t 125) (t 132)),i 134 (.pick (t 124) (k (.bool true)) (t 133))]) (.cond (t 134) (.seq (.ops [i 12 (.mov (k (.bool false)))]) .ret) .skip)))))))))) .skip)) (.seq (.seq (.ops [i 135 (.fieldAddr 1 (t 6)),i 136 (.load1 (t 135)),i 137 (.lenSlice (t 136)),i 138 (.bin .eql (t 137) (k (.int .i64 0)))]) (.cond (t 138) (.seq (.ops [i 12 (.mov (k (.bool true)))]) .ret) .skip)) (.seq (.ops [i 139 (.loadN 2 (t 6)),i 140 (.call .any (.func 22) [(t 139)]),i 19 (.alloc [(.slice none 0 0),(.slice none 0 0)]),s (.store 2 (t 19) (t 140))]) (.seq (.ops [i 141 (.mov (t 4)),i 142 (.fieldAddr 1 (t 19)),i 143 (.load1 (t 142)),i 144 (.lenSlice (t 143)),i 145 (.call .any (.func 20) [(t 141),(t 144)]),i 20 (.mov (t 145))]) (.seq (.drawn 0 [i 146 (.fieldAddr 1 (t 19)),i 147 (.load1 (t 146)),i 148 (.mov (t 20)),i 149 (.fieldAddr 1 (t 19)),i 150 (.load1 (t 149)),i 151 (.mov (t 20)),i 152 (.idxAddrS 8 (t 150) (t 151)),i 153 (.fieldAddr 6 (t 152)),i 154 (.load1 (t 153)),i 155 (.mov (t 5)),i 156 (.conv .i64 (t 155)),i 157 (.bin .add (t 154) (t 156)),i 158 (.minmax false [(k (.int .i64 1000000000)),(t 157)]),i 159 (.idxAddrS 8 (t 147) (t 148)),i 160 (.fieldAddr 6 (t 159)),s (.store 1 (t 160) (t 158))]) (.seq (.ops [i 162 (.loadN 2 (t 19)),i 163 (.mov (t 1)),i 164 (.mov (t 2)),i 165 (.mov (t 3)),i 166 (.call .any (.func 15) [(t 162),(t 163),(t 164),(t 165)]),i 161 (.mov (t 166)),i 167 (.extract 0 (t 161)),i 168 (.extract 1 (t 161)),i 21 (.mov (t 167)),i 22 (.mov (t 168))]) (.seq (.ops [i 169 (.mov (t 22)),i 170 (.bin .eql (t 169) (k (.int .i64 0))),i 171 (.mov (t 170)),p 172 171 (.mov (t 21)),p 173 171 (.mov (t 13)),p 174 171 (.bin .geq (t 172) (t 173)),i 175 (.pick (t 171) (t 174) (k (.bool false))),i 176 (.mov (t 175)),p 177 176 (.mov (t 21)),p 178 176 (.mov (t 13)),p 179 176 (.mov (t 5)),p 180 176 (.conv .i64 (t 179)),p 181 176 (.bin .mul (k (.int .i64 16)) (t 180)),p 182 176 (.bin .add (t 178) (t 181)),p 183 176 (.bin .leq (t 177) (t 182)),i 184 (.pick (t 176) (t 183) (k (.bool false))),i 12 (.mov (t 184))]) .ret))))))))))))
def a6:zAf:=⟨185,[(.tmp 12)],c6⟩
theorem n6:a6.ntmps=185:=id rfl
theorem r6:a6.results=[(.tmp 12)]:=rfl
theorem b6:a6.body=c6:=rfl
def c8:zAc:=(.seq (.ops [i 2 (.box (t 0)),i 4 (.mov (k (.bool false)))]) (.seq (.seq (.ops [i 5 (.fieldAddr 0 (t 2)),i 6 (.load1 (t 5)),i 7 (.lenSlice (t 6)),i 8 (.bin .gtr (t 7) (k (.int .i64 260))),i 9 (.mov (t 8)),q 10 9 (.fieldAddr 1 (t 2)),q 11 9 (.load1 (t 10)),q 12 9 (.lenSlice (t 11)),q 13 9 (.bin .gtr (t 12) (k (.int .i64 260))),i 14 (.pick (t 9) (k (.bool true)) (t 13)),i 15 (.mov (t 14)),q 16 15 (.mov (t 1)),q 17 15 (.lenSlice (t 16)),q 18 15 (.bin .gtr (t 17) (k (.int .i64 60))),i 19 (.pick (t 15) (k (.bool true)) (t 18))]) (.cond (t 19) (.seq (.ops [i 4 (.mov (k (.bool true)))]) .ret) .skip)) (.seq (.ops [i 20 (.fieldAddr 0 (t 2)),i 21 (.load1 (t 20)),i 22 (.lenSlice (t 21)),i 23 (.bin .gtr (t 22) (k (.int .i64 7))),i 24 (.mov (t 23)),q 25 24 (.fieldAddr 1 (t 2)),q 26 24 (.load1 (t 25)),q 27 24 (.lenSlice (t 26)),q 28 24 (.bin .gtr (t 27) (k (.int .i64 8))),i 29 (.pick (t 24) (k (.bool true)) (t 28)),i 30 (.mov (t 29)),p 31 30 (.loadN 2 (t 2)),p 32 30 (.call .any (.func 14) [(t 31)]),p 33 30 (.bin .eql (t 32) (k (.int .i64 0))),i 34 (.pick (t 30) (t 33) (k (.bool false))),i 4 (.mov (t 34))]) .ret)))
def a8:zAf:=⟨35,[(.tmp 4)],c8⟩
theorem n8:a8.ntmps=35:=id rfl
theorem r8:a8.results=[(.tmp 4)]:=rfl
theorem b8:a8.body=c8:=rfl
def l9_1:zAc:=(.seq (.ops [i 20 (.bin .lss (t 19) (t 18))]) (.seq (.cond (t 20) .skip (.exit 0)) (.seq (.block 1 (.seq (.ops [i 21 (.mov (t 19)),i 22 (.idxAddrS 1 (t 17) (t 19)),i 23 (.load1 (t 22)),i 2 (.mov (t 21)),i 3 (.mov (t 23))]) (.seq (.ops [i 25 (.call .any (.func 25) []),i 26 (.mov (t 1)),i 27 (.mov (t 3)),i 28 (.call .any (.func 15) [(t 25),(t 26),(k (.int .i64 2)),(t 27)]),i 24 (.mov (t 28)),i 29 (.extract 0 (t 24)),i 30 (.extract 1 (t 24)),i 4 (.mov (t 29)),i 5 (.mov (t 30))]) (.seq (.ops [i 31 (.mov (t 4)),i 32 (.buildSlice 3 [(.int .i64 0),(.int .i64 0),(.int .i64 0)] [(0,(1,(k (.int .i64 100)))),(1,(1,(k (.int .i64 200)))),(2,(1,(k (.int .i64 250))))]),i 33 (.mov (t 2)),i 34 (.idxAddrS 1 (t 32) (t 33)),i 35 (.load1 (t 34)),i 36 (.bin .neq (t 31) (t 35)),i 37 (.mov (t 36)),q 38 37 (.mov (t 5)),q 39 37 (.bin .neq (t 38) (k (.int .i64 0))),i 40 (.pick (t 37) (k (.bool true)) (t 39))]) (.cond (t 40) (.seq (.ops [i 0 (.mov (k (.bool false)))]) .ret) .skip))))) (.ops [i 41 (.bin .add (t 19) (k (.int .i64 1))),i 19 (.mov (t 41))]))))
def c9:zAc:=(.seq (.ops [i 0 (.mov (k (.bool false)))]) (.seq (.ops [i 15 (.build [(.int .i64 0),(.int .i64 0),(.int .i64 0)] [(0,(1,(k (.int .i64 1)))),(2,(1,(k (.int .i64 250))))]),i 16 (.buildSlice 1 [(.int .i64 0),(.int .i64 0),(.int .i64 0)] [(0,(3,(t 15)))]),i 1 (.mov (t 16))]) (.seq (.seq (.ops [i 17 (.buildSlice 3 [(.int .i64 0),(.int .i64 0),(.int .i64 0)] [(0,(1,(k (.int .i64 660)))),(1,(1,(k (.int .i64 2100)))),(2,(1,(k (.int .i64 3540))))]),i 18 (.lenSlice (t 17)),i 19 (.mov (k (.int .i64 0)))]) (.block 0 (.loop l9_1))) (.seq (.ops [i 42 (.build [(.int .i64 0),(.int .i64 0),(.int .i64 0),(.int .i64 0)] [(0,(1,(k (.int .i64 1)))),(1,(1,(k (.int .i64 600)))),(2,(1,(k (.int .i64 660)))),(3,(1,(k (.int .i64 100))))]),i 43 (.build [(.int .i64 0),(.int .i64 0),(.int .i64 0),(.int .i64 0)] [(0,(1,(k (.int .i64 1)))),(1,(1,(k (.int .i64 2040)))),(2,(1,(k (.int .i64 2100)))),(3,(1,(k (.int .i64 100))))]),i 44 (.buildSlice 2 [(.int .i64 0),(.int .i64 0),(.int .i64 0),(.int .i64 0),(.int .i64 0),(.int .i64 0),(.int .i64 0),(.int .i64 0)] [(0,(4,(t 42))),(4,(4,(t 43)))]),i 6 (.mov (t 44))]) (.seq (.ops [i 46 (.call .any (.func 25) []),i 47 (.mov (t 1)),i 48 (.call .any (.func 16) [(t 46),(t 47),(k (.int .i64 2)),(k (.int .i64 2100))]),i 45 (.mov (t 48)),i 49 (.extract 0 (t 45)),i 50 (.extract 1 (t 45)),i 7 (.mov (t 49)),i 8 (.mov (t 50))]) (.seq (.ops [i 52 (.call .any (.func 25) []),i 53 (.mov (t 1)),i 54 (.mov (t 7)),i 55 (.call .any (.func 10) [(t 52),(t 53),(k (.int .i64 2)),(k (.int .i64 2100)),(t 54)]),i 51 (.mov (t 55)),i 56 (.extract 0 (t 51)),i 57 (.extract 1 (t 51)),i 9 (.mov (t 56)),i 10 (.mov (t 57))]) (.seq (.ops [i 59 (.call .any (.func 25) []),i 60 (.mov (t 1)),i 61 (.call .any (.func 17) [(t 59),(t 60),(k (.int .i64 2)),(k (.int .i64 2100))]),i 58 (.mov (t 61)),i 62 (.extract 0 (t 58)),i 63 (.extract 1 (t 58)),i 11 (.alloc [(.slice none 0 0),(.slice none 0 0)]),s (.store 2 (t 11) (t 62)),i 12 (.mov (t 63))]) (.seq (.ops [i 65 (.call .any (.func 25) []),i 66 (.mov (t 1)),i 67 (.call .any (.func 17) [(t 65),(t 66),(k (.int .i64 2)),(k (.int .i64 3540))]),i 64 (.mov (t 67)),i 68 (.extract 0 (t 64)),i 69 (.extract 1 (t 64)),i 13 (.alloc [(.slice none 0 0),(.slice none 0 0)]),s (.store 2 (t 13) (t 68)),i 14 (.mov (t 69))]) (.seq (.ops [i 70 (.mov (t 8)),i 71 (.bin .eql (t 70) (k (.int .i64 0))),i 72 (.mov (t 71)),p 73 72 (.mov (t 7)),p 74 72 (.mov (t 6)),p 75 72 (.call .any (.func 24) [(t 73),(t 74)]),i 76 (.pick (t 72) (t 75) (k (.bool false))),i 77 (.mov (t 76)),p 78 77 (.mov (t 9)),p 79 77 (.bin .eql (t 78) (k (.int .i64 200))),i 80 (.pick (t 77) (t 79) (k (.bool false))),i 81 (.mov (t 80)),p 82 81 (.mov (t 10)),i 83 (.pick (t 81) (t 82) (k (.bool false))),i 84 (.mov (t 83)),p 85 84 (.mov (t 12)),p 86 84 (.bin .eql (t 85) (k (.int .i64 0))),i 87 (.pick (t 84) (t 86) (k (.bool false))),i 88 (.mov (t 87)),p 89 88 (.fieldAddr 0 (t 11)),p 90 88 (.load1 (t 89)),p 91 88 (.buildSlice 2 [(.int .i64 0),(.int .i64 0)] [(0,(1,(k (.int .i64 0)))),(1,(1,(k (.int .i64 (-1)))))]),p 92 88 (.call .any (.func 23) [(t 90),(t 91)]),i 93 (.pick (t 88) (t 92) (k (.bool false))),i 94 (.mov (t 93)),p 95 94 (.fieldAddr 1 (t 11)),p 96 94 (.load1 (t 95)),p 97 94 (.mov (t 6)),p 98 94 (.call .any (.func 24) [(t 96),(t 97)]),i 99 (.pick (t 94) (t 98) (k (.bool false))),i 100 (.mov (t 99)),p 101 100 (.mov (t 14)),p 102 100 (.bin .eql (t 101) (k (.int .i64 0))),i 103 (.pick (t 100) (t 102) (k (.bool false))),i 104 (.mov (t 103)),p 105 104 (.fieldAddr 0 (t 13)),p 106 104 (.load1 (t 105)),p 107 104 (.buildSlice 2 [(.int .i64 0),(.int .i64 0)] [(0,(1,(k (.int .i64 (-1))))),(1,(1,(k (.int .i64 (-1)))))]),p 108 104 (.call .any (.func 23) [(t 106),(t 107)]),i 109 (.pick (t 104) (t 108) (k (.bool false))),i 110 (.mov (t 109)),p 111 110 (.fieldAddr 1 (t 13)),p 112 110 (.load1 (t 111)),p 113 110 (.lenSlice (t 112)),p 114 110 (.bin .eql (t 113) (k (.int .i64 0))),i 115 (.pick (t 110) (t 114) (k (.bool false))),i 0 (.mov (t 115))]) .ret)))))))))
def a9:zAf:=⟨116,[(.tmp 0)],c9⟩
theorem n9:a9.ntmps=116:=id rfl
theorem r9:a9.results=[(.tmp 0)]:=rfl
theorem b9:a9.body=c9:=rfl
def l10_1:zAc:=(.seq (.ops [i 79 (.bin .lss (t 78) (t 77))]) (.seq (.cond (t 79) .skip (.exit 4)) (.seq (.block 5 (.seq (.ops [i 80 (.mov (t 78)),i 81 (.idxAddrS 4 (t 76) (t 78)),i 82 (.loadN 4 (t 81)),i 20 (.alloc [(.int .i64 0),(.int .i64 0),(.int .i64 0),(.int .i64 0)]),i 19 (.mov (t 80)),s (.store 4 (t 20) (t 82))]) (.seq (.ops [i 84 (.load1 (t 12)),i 85 (.fieldAddr 0 (t 20)),i 86 (.load1 (t 85)),i 87 (.fieldAddr 1 (t 20)),i 88 (.load1 (t 87)),i 89 (.fieldAddr 2 (t 20)),i 90 (.load1 (t 89)),i 91 (.build [(.int .i64 0),(.int .i64 0),(.int .i64 0),(.int .i64 0)] [(0,(1,(t 86))),(1,(1,(t 88))),(2,(1,(t 90)))]),i 92 (.lookup (.ints [.i64,.i64,.i64,.i64]) (.agg #[(.int .i64 0),(.int .i64 0),(.int .i64 0),(.int .i64 0),(.int .i64 0),(.int .i64 0),(.int .i64 0),(.int .u8 0)]) true (t 84) (t 91)),i 83 (.mov (t 92)),i 93 (.extract 0 (t 83)),i 94 (.extract 1 (t 83)),i 21 (.alloc [(.int .i64 0),(.int .i64 0),(.int .i64 0),(.int .i64 0),(.int .i64 0),(.int .i64 0),(.int .i64 0),(.int .u8 0)]),s (.store 8 (t 21) (t 93)),i 22 (.mov (t 94))]) (.seq (.seq (.drawn 0 [i 95 (.mov (t 22)),i 96 (.un .not (t 95)),i 97 (.mov (t 96)),q 98 97 (.fieldAddr 3 (t 20)),q 99 97 (.load1 (t 98)),q 100 97 (.bin .lss (t 99) (k (.int .i64 1))),i 101 (.pick (t 97) (k (.bool true)) (t 100)),i 102 (.mov (t 101)),q 103 102 (.fieldAddr 3 (t 20)),q 104 102 (.load1 (t 103)),q 105 102 (.fieldAddr 6 (t 21)),q 106 102 (.load1 (t 105)),q 107 102 (.bin .gtr (t 104) (t 106)),i 108 (.pick (t 102) (k (.bool true)) (t 107)),i 109 (.mov (t 108)),q 110 109 (.mov (t 19)),q 111 109 (.bin .gtr (t 110) (k (.int .i64 0))),q 112 109 (.mov (t 111)),p 113 112 (.mov (t 4)),p 114 112 (.mov (t 19)),p 115 112 (.bin .sub (t 114) (k (.int .i64 1))),p 116 112 (.idxAddrS 4 (t 113) (t 115)),p 117 112 (.loadN 4 (t 116)),p 118 112 (.loadN 4 (t 20)),p 119 112 (.call .pure (.func 28) [(t 117),(t 118)]),p 120 112 (.bin .geq (t 119) (k (.int .i64 0))),q 121 109 (.pick (t 112) (t 120) (k (.bool false))),i 122 (.pick (t 109) (k (.bool true)) (t 121))]) (.cond (t 122) (.seq (.ops [i 10 (.mov (k (.int .i64 0))),i 11 (.mov (k (.bool false)))]) .retM) .skip)) (.seq (.ops [i 123 (.mov (t 16)),i 124 (.fieldAddr 1 (t 21)),i 125 (.load1 (t 124)),i 126 (.fieldAddr 1 (t 20)),i 127 (.load1 (t 126)),i 128 (.fieldAddr 5 (t 21)),i 129 (.load1 (t 128)),i 130 (.bin .sub (t 127) (t 129)),i 131 (.fieldAddr 3 (t 20)),i 132 (.load1 (t 131)),i 133 (.un .neg (t 132)),i 134 (.build [(.int .i64 0),(.int .i64 0),(.int .i64 0)] [(0,(1,(t 125))),(1,(1,(t 130))),(2,(1,(t 133)))]),i 135 (.fieldAddr 2 (t 21)),i 136 (.load1 (t 135)),i 137 (.fieldAddr 2 (t 20)),i 138 (.load1 (t 137)),i 139 (.fieldAddr 3 (t 20)),i 140 (.load1 (t 139)),i 141 (.build [(.int .i64 0),(.int .i64 0),(.int .i64 0)] [(0,(1,(t 136))),(1,(1,(t 138))),(2,(1,(t 140)))]),i 142 (.buildSlice 2 [(.int .i64 0),(.int .i64 0),(.int .i64 0),(.int .i64 0),(.int .i64 0),(.int .i64 0)] [(0,(3,(t 134))),(3,(3,(t 141)))]),i 143 (.append 3 24 false (t 123) (t 142)),i 16 (.mov (t 143))]) (.seq (.ops [i 144 (.fieldAddr 2 (t 21)),i 145 (.load1 (t 144)),i 146 (.mov (t 2)),i 147 (.bin .eql (t 145) (t 146))]) (.cond (t 147) (.ops [i 148 (.mov (t 15)),i 149 (.fieldAddr 3 (t 20)),i 150 (.load1 (t 149)),i 151 (.bin .add (t 148) (t 150)),i 15 (.mov (t 151))]) .skip))))))) (.ops [i 152 (.bin .add (t 78) (k (.int .i64 1))),i 78 (.mov (t 152))]))))
def l10_2:zAc:=(.seq (.ops [i 48 (.bin .lss (t 47) (t 46))]) (.seq (.cond (t 48) .skip (.exit 2)) (.seq (.block 3 (.seq (.ops [i 49 (.idxAddrS 3 (t 45) (t 47)),i 50 (.loadN 3 (t 49)),i 18 (.alloc [(.int .i64 0),(.int .i64 0),(.int .i64 0)]),s (.store 3 (t 18) (t 50))]) (.seq (.ops [i 51 (.mov (t 16)),i 52 (.fieldAddr 0 (t 18)),i 53 (.load1 (t 52)),i 54 (.fieldAddr 1 (t 18)),i 55 (.load1 (t 54)),i 56 (.fieldAddr 2 (t 18)),i 57 (.load1 (t 56)),i 58 (.build [(.int .i64 0),(.int .i64 0),(.int .i64 0)] [(0,(1,(t 53))),(1,(1,(t 55))),(2,(1,(t 57)))]),i 59 (.buildSlice 1 [(.int .i64 0),(.int .i64 0),(.int .i64 0)] [(0,(3,(t 58)))]),i 60 (.append 3 24 false (t 51) (t 59)),i 16 (.mov (t 60))]) (.seq (.ops [i 61 (.fieldAddr 0 (t 18)),i 62 (.load1 (t 61)),i 63 (.mov (t 2)),i 64 (.bin .eql (t 62) (t 63)),i 65 (.mov (t 64)),p 66 65 (.fieldAddr 1 (t 18)),p 67 65 (.load1 (t 66)),p 68 65 (.mov (t 3)),p 69 65 (.bin .leq (t 67) (t 68)),i 70 (.pick (t 65) (t 69) (k (.bool false)))]) (.cond (t 70) (.ops [i 71 (.mov (t 15)),i 72 (.fieldAddr 2 (t 18)),i 73 (.load1 (t 72)),i 74 (.bin .add (t 71) (t 73)),i 15 (.mov (t 74))]) .skip))))) (.ops [i 75 (.bin .add (t 47) (k (.int .i64 1))),i 47 (.mov (t 75))]))))
def ga10_1:zAc:=(.seq (.ops [i 13 (.alloc [(.int .i64 0),(.int .i64 0),(.int .i64 0),(.int .i64 0),(.int .i64 0),(.int .i64 0),(.int .i64 0),(.int .u8 0)]),s (.store 8 (t 13) (t 34))]) (.ops [i 14 (.alloc [(.int .i64 0),(.int .i64 0)]),s (.store 2 (t 14) (t 35))]))
def gb10_1:zAc:=(.block 1 (.ops [i 36 (.load1 (t 12)),i 37 (.fieldAddr 0 (t 13)),i 38 (.load1 (t 37)),i 39 (.fieldAddr 0 (t 14)),i 40 (.load1 (t 39)),i 41 (.fieldAddr 1 (t 14)),i 42 (.load1 (t 41)),i 43 (.build [(.int .i64 0),(.int .i64 0),(.int .i64 0),(.int .i64 0)] [(0,(1,(t 38))),(1,(1,(t 40))),(2,(1,(t 42)))]),i 44 (.loadN 8 (t 13)),s (.mapUpdate (.ints [.i64,.i64,.i64,.i64]) (t 36) (t 43) (t 44))]))
def c10:zAc:=(.seq (.seq (.ops [i 5 (.box (t 0)),i 10 (.mov (k (.int .i64 0))),i 11 (.mov (k (.bool false)))]) (.seq (.seq (.ops [i 23 (.loadN 2 (t 5)),i 24 (.mov (t 1)),i 25 (.mov (t 2)),i 26 (.mov (t 3)),i 27 (.call .any (.func 26) [(t 23),(t 24),(t 25),(t 26)]),i 28 (.bin .neq (t 27) (k (.int .i64 0)))]) (.cond (t 28) (.seq (.ops [i 10 (.mov (k (.int .i64 0))),i 11 (.mov (k (.bool false)))]) .retM) .skip)) (.seq (.ops [i 29 (.makeMap none),i 12 (.alloc [(.map none)]),s (.store 1 (t 12) (t 29))]) (.seq (.seq (.ops [i 30 (.loadN 2 (t 5)),i 31 (.mov (t 2)),i 32 (.mov (t 3)),i 33 (.call .any (.func 27) [(t 30),(t 31),(t 32)])]) (.block 0 (.rangeF (t 33) [34,35] ga10_1 gb10_1))) (.seq (.ops [i 15 (.mov (k (.int .i64 0)))]) (.seq (.ops [i 16 (.mov (k (.slice none 0 0)))]) (.seq (.seq (.ops [i 45 (.mov (t 1)),i 46 (.lenSlice (t 45)),i 47 (.mov (k (.int .i64 0)))]) (.block 2 (.loop l10_2))) (.seq (.seq (.ops [i 76 (.mov (t 4)),i 77 (.lenSlice (t 76)),i 78 (.mov (k (.int .i64 0)))]) (.block 4 (.loop l10_1))) (.seq (.seq (.ops [i 153 (.mov (t 16)),i 154 (.call .any (.func 29) [(t 153)]),i 155 (.un .not (t 154))]) (.cond (t 155) (.seq (.ops [i 10 (.mov (k (.int .i64 0))),i 11 (.mov (k (.bool false)))]) .retM) .skip)) (.seq (.ops [i 156 (.mov (t 15)),i 10 (.mov (t 156)),i 11 (.mov (k (.bool true)))]) .retM)))))))))) .retM)
def a10:zAf:=⟨157,[(.tmp 10),(.tmp 11)],c10⟩
theorem n10:a10.ntmps=157:=id rfl
theorem r10:a10.results=[(.tmp 10),(.tmp 11)]:=rfl
theorem b10:a10.body=c10:=rfl
def l14_1:zAc:=(.seq (.ops [i 52 (.bin .lss (t 51) (t 50))]) (.seq (.cond (t 52) .skip (.exit 2)) (.seq (.block 3 (.seq (.ops [i 53 (.idxAddrS 8 (t 49) (t 51)),i 54 (.loadN 8 (t 53)),i 8 (.alloc [(.int .i64 0),(.int .i64 0),(.int .i64 0),(.int .i64 0),(.int .i64 0),(.int .i64 0),(.int .i64 0),(.int .u8 0)]),s (.store 8 (t 8) (t 54))]) (.seq (.seq (.ops [i 55 (.loadN 8 (t 8)),i 56 (.call .any (.func 35) [(t 55)]),i 57 (.un .not (t 56)),i 58 (.mov (t 57)),q 59 58 (.mov (t 6)),q 60 58 (.fieldAddr 0 (t 8)),q 61 58 (.load1 (t 60)),q 62 58 (.lookup (.int .i64) (.bool false) false (t 59) (t 61)),i 63 (.pick (t 58) (k (.bool true)) (t 62)),i 64 (.mov (t 63)),q 65 64 (.mov (t 3)),q 66 64 (.fieldAddr 1 (t 8)),q 67 64 (.load1 (t 66)),q 68 64 (.lookup (.int .i64) (.bool false) false (t 65) (t 67)),q 69 64 (.un .not (t 68)),i 70 (.pick (t 64) (k (.bool true)) (t 69)),i 71 (.mov (t 70)),q 72 71 (.mov (t 3)),q 73 71 (.fieldAddr 2 (t 8)),q 74 71 (.load1 (t 73)),q 75 71 (.lookup (.int .i64) (.bool false) false (t 72) (t 74)),q 76 71 (.un .not (t 75)),i 77 (.pick (t 71) (k (.bool true)) (t 76))]) (.cond (t 77) (.seq (.ops [i 2 (.mov (k (.int .i64 321)))]) .ret) .skip)) (.ops [i 78 (.mov (t 6)),i 79 (.fieldAddr 0 (t 8)),i 80 (.load1 (t 79)),s (.mapUpdate (.int .i64) (t 78) (t 80) (k (.bool true)))])))) (.ops [i 81 (.bin .add (t 51) (k (.int .i64 1))),i 51 (.mov (t 81))]))))
def l14_2:zAc:=(.seq (.ops [i 27 (.bin .lss (t 26) (t 25))]) (.seq (.cond (t 27) .skip (.exit 0)) (.seq (.block 1 (.seq (.ops [i 28 (.idxAddrS 1 (t 24) (t 26)),i 29 (.load1 (t 28)),i 5 (.mov (t 29))]) (.seq (.seq (.ops [i 30 (.mov (t 5)),i 31 (.bin .lss (t 30) (k (.int .i64 1))),i 32 (.mov (t 31)),q 33 32 (.mov (t 5)),q 34 32 (.bin .gtr (t 33) (k (.int .i64 999999))),i 35 (.pick (t 32) (k (.bool true)) (t 34)),i 36 (.mov (t 35)),q 37 36 (.mov (t 3)),q 38 36 (.mov (t 5)),q 39 36 (.lookup (.int .i64) (.bool false) false (t 37) (t 38)),i 40 (.pick (t 36) (k (.bool true)) (t 39))]) (.cond (t 40) (.seq (.ops [i 2 (.mov (k (.int .i64 320)))]) .ret) .skip)) (.ops [i 41 (.mov (t 3)),i 42 (.mov (t 5)),s (.mapUpdate (.int .i64) (t 41) (t 42) (k (.bool true)))])))) (.ops [i 43 (.bin .add (t 26) (k (.int .i64 1))),i 26 (.mov (t 43))]))))
def c14:zAc:=(.seq (.ops [i 1 (.box (t 0)),i 2 (.mov (k (.int .i64 0)))]) (.seq (.seq (.ops [i 9 (.fieldAddr 0 (t 1)),i 10 (.load1 (t 9)),i 11 (.lenSlice (t 10)),i 12 (.bin .gtr (t 11) (k (.int .i64 50))),i 13 (.mov (t 12)),q 14 13 (.fieldAddr 1 (t 1)),q 15 13 (.load1 (t 14)),q 16 13 (.lenSlice (t 15)),q 17 13 (.bin .gtr (t 16) (k (.int .i64 200))),i 18 (.pick (t 13) (k (.bool true)) (t 17))]) (.cond (t 18) (.seq (.ops [i 2 (.mov (k (.int .i64 5)))]) .ret) .skip)) (.seq (.ops [i 19 (.fieldAddr 0 (t 1)),i 20 (.load1 (t 19)),i 21 (.lenSlice (t 20)),i 22 (.makeMap (some (t 21))),i 3 (.mov (t 22))]) (.seq (.seq (.ops [i 23 (.fieldAddr 0 (t 1)),i 24 (.load1 (t 23)),i 25 (.lenSlice (t 24)),i 26 (.mov (k (.int .i64 0)))]) (.block 0 (.loop l14_2))) (.seq (.ops [i 44 (.fieldAddr 1 (t 1)),i 45 (.load1 (t 44)),i 46 (.lenSlice (t 45)),i 47 (.makeMap (some (t 46))),i 6 (.mov (t 47))]) (.seq (.seq (.ops [i 48 (.fieldAddr 1 (t 1)),i 49 (.load1 (t 48)),i 50 (.lenSlice (t 49)),i 51 (.mov (k (.int .i64 0)))]) (.block 2 (.loop l14_1))) (.seq (.ops [i 2 (.mov (k (.int .i64 0)))]) .ret)))))))
def a14:zAf:=⟨82,[(.tmp 2)],c14⟩
theorem n14:a14.ntmps=82:=id rfl
theorem r14:a14.results=[(.tmp 2)]:=rfl
theorem b14:a14.body=c14:=rfl
def c15:zAc:=(.seq (.ops [i 4 (.box (t 0)),i 8 (.mov (k (.int .i64 0))),i 9 (.mov (k (.int .i64 0)))]) (.seq (.seq (.ops [i 11 (.loadN 2 (t 4)),i 12 (.mov (t 1)),i 13 (.mov (t 2)),i 14 (.mov (t 3)),i 15 (.call .any (.func 26) [(t 11),(t 12),(t 13),(t 14)]),i 10 (.mov (t 15))]) (.seq (.ops [i 16 (.mov (t 10)),i 17 (.bin .neq (t 16) (k (.int .i64 0)))]) (.cond (t 17) (.seq (.ops [i 18 (.mov (t 10)),i 8 (.mov (k (.int .i64 0))),i 9 (.mov (t 18))]) .ret) .skip))) (.seq (.ops [i 19 (.loadN 2 (t 4)),i 20 (.mov (t 1)),i 21 (.mov (t 2)),i 22 (.mov (t 3)),i 23 (.call .any (.func 36) [(t 19),(t 20),(t 21),(t 22)]),i 24 (.nilCheck (t 23)),i 25 (.fieldAddr 7 (t 24)),i 26 (.load1 (t 25)),i 8 (.mov (t 26)),i 9 (.mov (k (.int .i64 0)))]) .ret)))
def a15:zAf:=⟨27,[(.tmp 8),(.tmp 9)],c15⟩
theorem n15:a15.ntmps=27:=id rfl
theorem r15:a15.results=[(.tmp 8),(.tmp 9)]:=rfl
theorem b15:a15.body=c15:=rfl
def l16_1:zAc:=(.seq (.ops [i 35 (.bin .lss (t 34) (t 33))]) (.seq (.cond (t 35) .skip (.exit 0)) (.seq (.block 1 (.seq (.ops [i 36 (.idxAddrS 11 (t 32) (t 34)),i 37 (.loadN 11 (t 36)),i 14 (.alloc [(.int .i64 0),(.int .i64 0),(.int .i64 0),(.int .i64 0),(.int .i64 0),(.int .i64 0),(.int .i64 0),(.int .u8 0),(.int .i64 0),(.int .i64 0),(.int .i64 0)]),s (.store 11 (t 14) (t 37))]) (.seq (.drawn 0 [i 38 (.mov (t 11)),i 39 (.nilCheck (t 38)),i 40 (.fieldAddr 2 (t 39)),i 41 (.load1 (t 40)),i 42 (.fieldAddr 10 (t 14)),i 43 (.load1 (t 42)),i 44 (.bin .xor (t 43) (k (.int .i64 1))),i 45 (.idxAddrS 2 (t 41) (t 44)),i 46 (.fieldAddr 1 (t 45)),i 47 (.load1 (t 46)),i 15 (.mov (t 47))]) (.seq (.ops [i 48 (.mov (t 15)),i 49 (.bin .gtr (t 48) (k (.int .i64 0)))]) (.cond (t 49) (.ops [i 50 (.mov (t 12)),i 51 (.fieldAddr 0 (t 14)),i 52 (.fieldAddr 0 (t 51)),i 53 (.load1 (t 52)),i 54 (.fieldAddr 8 (t 14)),i 55 (.fieldAddr 0 (t 54)),i 56 (.load1 (t 55)),i 57 (.fieldAddr 8 (t 14)),i 58 (.fieldAddr 1 (t 57)),i 59 (.load1 (t 58)),i 60 (.mov (t 15)),i 61 (.build [(.int .i64 0),(.int .i64 0),(.int .i64 0),(.int .i64 0)] [(0,(1,(t 53))),(1,(1,(t 56))),(2,(1,(t 59))),(3,(1,(t 60)))]),i 62 (.buildSlice 1 [(.int .i64 0),(.int .i64 0),(.int .i64 0),(.int .i64 0)] [(0,(4,(t 61)))]),i 63 (.append 4 32 false (t 50) (t 62)),i 12 (.mov (t 63))]) .skip))))) (.ops [i 64 (.bin .add (t 34) (k (.int .i64 1))),i 34 (.mov (t 64))]))))
def c16:zAc:=(.seq (.ops [i 4 (.box (t 0)),i 8 (.mov (k (.slice none 0 0))),i 9 (.mov (k (.int .i64 0)))]) (.seq (.seq (.ops [i 16 (.loadN 2 (t 4)),i 17 (.mov (t 1)),i 18 (.mov (t 2)),i 19 (.mov (t 3)),i 20 (.call .any (.func 26) [(t 16),(t 17),(t 18),(t 19)]),i 10 (.mov (t 20))]) (.seq (.ops [i 21 (.mov (t 10)),i 22 (.bin .neq (t 21) (k (.int .i64 0)))]) (.cond (t 22) (.seq (.ops [i 23 (.mov (t 10)),i 8 (.mov (k (.slice none 0 0))),i 9 (.mov (t 23))]) .ret) .skip))) (.seq (.ops [i 24 (.loadN 2 (t 4)),i 25 (.mov (t 1)),i 26 (.mov (t 2)),i 27 (.mov (t 3)),i 28 (.call .any (.func 36) [(t 24),(t 25),(t 26),(t 27)]),i 11 (.mov (t 28))]) (.seq (.ops [i 12 (.mov (k (.slice none 0 0)))]) (.seq (.seq (.ops [i 29 (.mov (t 11)),i 30 (.nilCheck (t 29)),i 31 (.fieldAddr 6 (t 30)),i 32 (.load1 (t 31)),i 33 (.lenSlice (t 32)),i 34 (.mov (k (.int .i64 0)))]) (.block 0 (.loop l16_1))) (.seq (.ops [i 65 (.mov (t 12)),i 66 (.call .any (.func 37) [(t 65),(.func 28)])]) (.seq (.ops [i 67 (.mov (t 12)),i 8 (.mov (t 67)),i 9 (.mov (k (.int .i64 0)))]) .ret)))))))
def a16:zAf:=⟨68,[(.tmp 8),(.tmp 9)],c16⟩
theorem n16:a16.ntmps=68:=id rfl
theorem r16:a16.results=[(.tmp 8),(.tmp 9)]:=rfl
theorem b16:a16.body=c16:=rfl
def l17_1:zAc:=(.seq (.ops [i 111 (.bin .lss (t 110) (t 109))]) (.seq (.cond (t 111) .skip (.exit 4)) (.seq (.block 5 (.seq (.ops [i 112 (.idxAddrS 11 (t 108) (t 110)),i 113 (.loadN 11 (t 112)),i 23 (.alloc [(.int .i64 0),(.int .i64 0),(.int .i64 0),(.int .i64 0),(.int .i64 0),(.int .i64 0),(.int .i64 0),(.int .u8 0),(.int .i64 0),(.int .i64 0),(.int .i64 0)]),s (.store 11 (t 23) (t 113))]) (.seq (.ops [i 114 (.fieldAddr 8 (t 23)),i 115 (.loadN 2 (t 114)),i 24 (.alloc [(.int .i64 0),(.int .i64 0)]),s (.store 2 (t 24) (t 115))]) (.seq (.ops [i 117 (.mov (t 12)),i 118 (.fieldAddr 0 (t 23)),i 119 (.fieldAddr 1 (t 118)),i 120 (.load1 (t 119)),i 121 (.lookup (.int .i64) (.int .i64 0) true (t 117) (t 120)),i 116 (.mov (t 121)),i 122 (.extract 0 (t 116)),i 123 (.extract 1 (t 116)),i 25 (.mov (t 122)),i 26 (.mov (t 123))]) (.seq (.ops [i 125 (.mov (t 12)),i 126 (.fieldAddr 0 (t 23)),i 127 (.fieldAddr 2 (t 126)),i 128 (.load1 (t 127)),i 129 (.lookup (.int .i64) (.int .i64 0) true (t 125) (t 128)),i 124 (.mov (t 129)),i 130 (.extract 0 (t 124)),i 131 (.extract 1 (t 124)),i 27 (.mov (t 130)),i 28 (.mov (t 131))]) (.seq (.ops [i 132 (.mov (t 26)),i 133 (.mov (t 132)),p 134 133 (.mov (t 25)),p 135 133 (.fieldAddr 0 (t 24)),p 136 133 (.load1 (t 135)),p 137 133 (.fieldAddr 0 (t 23)),p 138 133 (.fieldAddr 5 (t 137)),p 139 133 (.load1 (t 138)),p 140 133 (.bin .sub (t 136) (t 139)),p 141 133 (.bin .leq (t 134) (t 140)),i 142 (.pick (t 133) (t 141) (k (.bool false))),i 143 (.mov (t 142)),p 144 143 (.mov (t 28)),p 145 143 (.un .not (t 144)),p 146 143 (.mov (t 145)),q 147 146 (.mov (t 27)),q 148 146 (.fieldAddr 1 (t 24)),q 149 146 (.load1 (t 148)),q 150 146 (.bin .gtr (t 147) (t 149)),p 151 143 (.pick (t 146) (k (.bool true)) (t 150)),i 152 (.pick (t 143) (t 151) (k (.bool false)))]) (.cond (t 152) (.ops [i 153 (.fieldAddr 1 (t 17)),i 154 (.load1 (t 153)),i 155 (.fieldAddr 0 (t 23)),i 156 (.fieldAddr 0 (t 155)),i 157 (.load1 (t 156)),i 158 (.fieldAddr 0 (t 24)),i 159 (.load1 (t 158)),i 160 (.fieldAddr 1 (t 24)),i 161 (.load1 (t 160)),i 162 (.fieldAddr 0 (t 23)),i 163 (.fieldAddr 6 (t 162)),i 164 (.load1 (t 163)),i 165 (.build [(.int .i64 0),(.int .i64 0),(.int .i64 0),(.int .i64 0)] [(0,(1,(t 157))),(1,(1,(t 159))),(2,(1,(t 161))),(3,(1,(t 164)))]),i 166 (.buildSlice 1 [(.int .i64 0),(.int .i64 0),(.int .i64 0),(.int .i64 0)] [(0,(4,(t 165)))]),i 167 (.append 4 32 false (t 154) (t 166)),i 168 (.fieldAddr 1 (t 17)),s (.store 1 (t 168) (t 167))]) .skip))))))) (.ops [i 169 (.bin .add (t 110) (k (.int .i64 1))),i 110 (.mov (t 169))]))))
def l17_2:zAc:=(.seq (.ops [i 87 (.bin .lss (t 86) (t 85))]) (.seq (.cond (t 87) .skip (.exit 2)) (.seq (.block 3 (.seq (.ops [i 88 (.idxAddrS 1 (t 84) (t 86)),i 89 (.load1 (t 88)),i 19 (.mov (t 89))]) (.seq (.ops [i 91 (.mov (t 12)),i 92 (.mov (t 19)),i 93 (.lookup (.int .i64) (.int .i64 0) true (t 91) (t 92)),i 90 (.mov (t 93)),i 94 (.extract 0 (t 90)),i 95 (.extract 1 (t 90)),i 20 (.mov (t 94)),i 21 (.mov (t 95))]) (.seq (.seq (.ops [i 96 (.mov (t 21)),i 97 (.un .not (t 96))]) (.cond (t 97) (.ops [i 20 (.mov (k (.int .i64 (-1))))]) .skip)) (.ops [i 98 (.fieldAddr 0 (t 17)),i 99 (.load1 (t 98)),i 100 (.mov (t 20)),i 101 (.buildSlice 1 [(.int .i64 0)] [(0,(1,(t 100)))]),i 102 (.append 1 8 false (t 99) (t 101)),i 103 (.fieldAddr 0 (t 17)),s (.store 1 (t 103) (t 102))]))))) (.ops [i 104 (.bin .add (t 86) (k (.int .i64 1))),i 86 (.mov (t 104))]))))
def l17_3:zAc:=(.seq (.ops [i 53 (.bin .lss (t 52) (t 51))]) (.seq (.cond (t 53) .skip (.exit 0)) (.seq (.block 1 (.seq (.ops [i 54 (.mov (t 52)),i 55 (.idxAddrS 2 (t 50) (t 52)),i 56 (.loadN 2 (t 55)),i 14 (.alloc [(.int .i64 0),(.int .i64 0)]),i 13 (.mov (t 54)),s (.store 2 (t 14) (t 56))]) (.seq (.ops [i 58 (.mov (t 12)),i 59 (.fieldAddr 0 (t 14)),i 60 (.load1 (t 59)),i 61 (.lookup (.int .i64) (.int .i64 0) true (t 58) (t 60)),i 57 (.mov (t 61)),i 62 (.extract 0 (t 57)),i 63 (.extract 1 (t 57)),i 15 (.mov (t 62)),i 16 (.mov (t 63))]) (.seq (.ops [i 64 (.mov (t 16)),i 65 (.un .not (t 64)),i 66 (.mov (t 65)),p 67 66 (.mov (t 11)),p 68 66 (.nilCheck (t 67)),p 69 66 (.fieldAddr 4 (t 68)),p 70 66 (.load1 (t 69)),p 71 66 (.mov (t 13)),p 72 66 (.bin .add (t 71) (k (.int .i64 2))),p 73 66 (.idxAddrS 1 (t 70) (t 72)),p 74 66 (.load1 (t 73)),p 75 66 (.bin .geq (t 74) (k (.int .i64 0))),i 76 (.pick (t 66) (t 75) (k (.bool false)))]) (.cond (t 76) (.ops [i 77 (.mov (t 12)),i 78 (.fieldAddr 0 (t 14)),i 79 (.load1 (t 78)),i 80 (.fieldAddr 1 (t 14)),i 81 (.load1 (t 80)),s (.mapUpdate (.int .i64) (t 77) (t 79) (t 81))]) .skip))))) (.ops [i 82 (.bin .add (t 52) (k (.int .i64 1))),i 52 (.mov (t 82))]))))
def c17:zAc:=(.seq (.ops [i 4 (.box (t 0)),i 8 (.alloc [(.slice none 0 0),(.slice none 0 0)]),i 9 (.mov (k (.int .i64 0)))]) (.seq (.seq (.ops [i 29 (.loadN 2 (t 4)),i 30 (.mov (t 1)),i 31 (.mov (t 2)),i 32 (.mov (t 3)),i 33 (.call .any (.func 26) [(t 29),(t 30),(t 31),(t 32)]),i 10 (.mov (t 33))]) (.seq (.ops [i 34 (.mov (t 10)),i 35 (.bin .neq (t 34) (k (.int .i64 0)))]) (.cond (t 35) (.seq (.ops [i 36 (.build [(.slice none 0 0),(.slice none 0 0)] []),i 37 (.mov (t 10)),s (.store 2 (t 8) (t 36)),i 9 (.mov (t 37))]) .ret) .skip))) (.seq (.ops [i 38 (.loadN 2 (t 4)),i 39 (.mov (t 1)),i 40 (.mov (t 2)),i 41 (.mov (t 3)),i 42 (.call .any (.func 36) [(t 38),(t 39),(t 40),(t 41)]),i 11 (.mov (t 42))]) (.seq (.ops [i 43 (.fieldAddr 0 (t 4)),i 44 (.load1 (t 43)),i 45 (.lenSlice (t 44)),i 46 (.makeMap (some (t 45))),i 12 (.mov (t 46))]) (.seq (.seq (.ops [i 47 (.mov (t 11)),i 48 (.nilCheck (t 47)),i 49 (.fieldAddr 0 (t 48)),i 50 (.load1 (t 49)),i 51 (.lenSlice (t 50)),i 52 (.mov (k (.int .i64 0)))]) (.block 0 (.loop l17_3))) (.seq (.ops [i 17 (.alloc [(.slice none 0 0),(.slice none 0 0)])]) (.seq (.seq (.ops [i 83 (.fieldAddr 0 (t 4)),i 84 (.load1 (t 83)),i 85 (.lenSlice (t 84)),i 86 (.mov (k (.int .i64 0)))]) (.block 2 (.loop l17_2))) (.seq (.seq (.ops [i 105 (.mov (t 11)),i 106 (.nilCheck (t 105)),i 107 (.fieldAddr 6 (t 106)),i 108 (.load1 (t 107)),i 109 (.lenSlice (t 108)),i 110 (.mov (k (.int .i64 0)))]) (.block 4 (.loop l17_1))) (.seq (.ops [i 170 (.fieldAddr 1 (t 17)),i 171 (.load1 (t 170)),i 172 (.call .any (.func 37) [(t 171),(.func 28)])]) (.seq (.ops [i 173 (.loadN 2 (t 17)),s (.store 2 (t 8) (t 173)),i 9 (.mov (k (.int .i64 0)))]) .ret))))))))))
def a17:zAf:=⟨174,[(.cellN 2 8),(.tmp 9)],c17⟩
theorem n17:a17.ntmps=174:=id rfl
theorem r17:a17.results=[(.cellN 2 8),(.tmp 9)]:=rfl
theorem b17:a17.body=c17:=rfl
def l18_1:zAc:=(.seq (.seq (.ops [i 6 (.mov (t 5)),i 7 (.fieldAddr 0 (t 2)),i 8 (.load1 (t 7)),i 9 (.lenSlice (t 8)),i 10 (.bin .lss (t 6) (t 9))]) (.cond (t 10) .skip (.exit 0))) (.seq (.block 1 (.seq (.ops [i 13 (.fieldAddr 0 (t 2)),i 14 (.load1 (t 13)),i 15 (.mov (t 5)),i 16 (.idxAddrS 1 (t 14) (t 15)),i 17 (.load1 (t 16)),i 18 (.mov (t 1)),i 19 (.bin .eql (t 17) (t 18))]) (.cond (t 19) (.seq (.ops [i 20 (.mov (t 5)),i 4 (.mov (t 20))]) .ret) .skip))) (.ops [i 11 (.mov (t 5)),i 12 (.bin .add (t 11) (k (.int .i64 1))),i 5 (.mov (t 12))])))
def c18:zAc:=(.seq (.ops [i 2 (.box (t 0)),i 4 (.mov (k (.int .i64 0)))]) (.seq (.seq (.ops [i 5 (.mov (k (.int .i64 0)))]) (.block 0 (.loop l18_1))) (.seq (.ops [i 4 (.mov (k (.int .i64 (-1))))]) .ret)))
def a18:zAf:=⟨21,[(.tmp 4)],c18⟩
theorem n18:a18.ntmps=21:=id rfl
theorem r18:a18.results=[(.tmp 4)]:=rfl
theorem b18:a18.body=c18:=rfl
def c20:zAc:=(.seq (.ops [i 4 (.mov (k (.int .i64 0)))]) (.seq (.seq (.ops [i 5 (.mov (t 1)),i 6 (.bin .lss (t 5) (k (.int .i64 1)))]) (.cond (t 6) (.seq (.ops [i 4 (.mov (k (.int .i64 0)))]) .ret) .skip)) (.seq (.ops [i 7 (.mov (t 0)),i 8 (.mov (t 1)),i 9 (.bin .rem (t 7) (t 8)),i 0 (.mov (t 9))]) (.seq (.seq (.ops [i 10 (.mov (t 0)),i 11 (.bin .lss (t 10) (k (.int .i64 0)))]) (.cond (t 11) (.ops [i 12 (.mov (t 0)),i 13 (.mov (t 1)),i 14 (.bin .add (t 12) (t 13)),i 0 (.mov (t 14))]) .skip)) (.seq (.ops [i 15 (.mov (t 0)),i 4 (.mov (t 15))]) .ret)))))
def a20:zAf:=⟨16,[(.tmp 4)],c20⟩
theorem n20:a20.ntmps=16:=id rfl
theorem r20:a20.results=[(.tmp 4)]:=rfl
theorem b20:a20.body=c20:=rfl
def c22:zAc:=(.seq (.ops [i 1 (.box (t 0)),i 2 (.alloc [(.slice none 0 0),(.slice none 0 0)])]) (.seq (.ops [i 3 (.fieldAddr 0 (t 1)),i 4 (.load1 (t 3)),i 5 (.call .any (.func 40) [(t 4)]),i 6 (.fieldAddr 0 (t 1)),s (.store 1 (t 6) (t 5))]) (.seq (.ops [i 7 (.fieldAddr 1 (t 1)),i 8 (.load1 (t 7)),i 9 (.call .any (.func 41) [(t 8)]),i 10 (.fieldAddr 1 (t 1)),s (.store 1 (t 10) (t 9))]) (.seq (.ops [i 11 (.loadN 2 (t 1)),s (.store 2 (t 2) (t 11))]) .ret))))
def a22:zAf:=⟨12,[(.cellN 2 2)],c22⟩
theorem n22:a22.ntmps=12:=id rfl
theorem r22:a22.results=[(.cellN 2 2)]:=rfl
theorem b22:a22.body=c22:=rfl
def l23_1:zAc:=(.seq (.seq (.ops [i 11 (.mov (t 5)),i 12 (.mov (t 0)),i 13 (.lenSlice (t 12)),i 14 (.bin .lss (t 11) (t 13))]) (.cond (t 14) .skip (.exit 0))) (.seq (.block 1 (.seq (.drawn 0 [i 17 (.mov (t 0)),i 18 (.mov (t 5)),i 19 (.idxAddrS 1 (t 17) (t 18)),i 20 (.load1 (t 19)),i 21 (.mov (t 1)),i 22 (.mov (t 5)),i 23 (.idxAddrS 1 (t 21) (t 22)),i 24 (.load1 (t 23)),i 25 (.bin .neq (t 20) (t 24))]) (.cond (t 25) (.seq (.ops [i 4 (.mov (k (.bool false)))]) .ret) .skip))) (.ops [i 15 (.mov (t 5)),i 16 (.bin .add (t 15) (k (.int .i64 1))),i 5 (.mov (t 16))])))
def c23:zAc:=(.seq (.ops [i 4 (.mov (k (.bool false)))]) (.seq (.seq (.ops [i 6 (.mov (t 0)),i 7 (.lenSlice (t 6)),i 8 (.mov (t 1)),i 9 (.lenSlice (t 8)),i 10 (.bin .neq (t 7) (t 9))]) (.cond (t 10) (.seq (.ops [i 4 (.mov (k (.bool false)))]) .ret) .skip)) (.seq (.seq (.ops [i 5 (.mov (k (.int .i64 0)))]) (.block 0 (.loop l23_1))) (.seq (.ops [i 4 (.mov (k (.bool true)))]) .ret))))
def a23:zAf:=⟨26,[(.tmp 4)],c23⟩
theorem n23:a23.ntmps=26:=id rfl
theorem r23:a23.results=[(.tmp 4)]:=rfl
theorem b23:a23.body=c23:=rfl
def l24_1:zAc:=(.seq (.seq (.ops [i 11 (.mov (t 5)),i 12 (.mov (t 0)),i 13 (.lenSlice (t 12)),i 14 (.bin .lss (t 11) (t 13))]) (.cond (t 14) .skip (.exit 0))) (.seq (.block 1 (.seq (.drawn 0 [i 17 (.mov (t 0)),i 18 (.mov (t 5)),i 19 (.idxAddrS 4 (t 17) (t 18)),i 20 (.loadN 4 (t 19)),i 21 (.mov (t 1)),i 22 (.mov (t 5)),i 23 (.idxAddrS 4 (t 21) (t 22)),i 24 (.loadN 4 (t 23)),i 25 (.eqv true (.agg [(.int .i64),(.int .i64),(.int .i64),(.int .i64)]) (t 20) (t 24))]) (.cond (t 25) (.seq (.ops [i 4 (.mov (k (.bool false)))]) .ret) .skip))) (.ops [i 15 (.mov (t 5)),i 16 (.bin .add (t 15) (k (.int .i64 1))),i 5 (.mov (t 16))])))
def c24:zAc:=(.seq (.ops [i 4 (.mov (k (.bool false)))]) (.seq (.seq (.ops [i 6 (.mov (t 0)),i 7 (.lenSlice (t 6)),i 8 (.mov (t 1)),i 9 (.lenSlice (t 8)),i 10 (.bin .neq (t 7) (t 9))]) (.cond (t 10) (.seq (.ops [i 4 (.mov (k (.bool false)))]) .ret) .skip)) (.seq (.seq (.ops [i 5 (.mov (k (.int .i64 0)))]) (.block 0 (.loop l24_1))) (.seq (.ops [i 4 (.mov (k (.bool true)))]) .ret))))
def a24:zAf:=⟨26,[(.tmp 4)],c24⟩
theorem n24:a24.ntmps=26:=id rfl
theorem r24:a24.results=[(.tmp 4)]:=rfl
theorem b24:a24.body=c24:=rfl
def c25:zAc:=(.seq (.ops [i 0 (.alloc [(.slice none 0 0),(.slice none 0 0)])]) (.seq (.ops [i 1 (.buildSlice 2 [(.int .i64 0),(.int .i64 0)] [(0,(1,(k (.int .i64 1)))),(1,(1,(k (.int .i64 2))))]),i 2 (.call .any (.func 42) [(k (.int .i64 1)),(k (.int .i64 1)),(k (.int .i64 2)),(k (.int .i64 600)),(k (.int .i64 60)),(k (.int .i64 0)),(k (.int .i64 100))]),i 3 (.buildSlice 1 [(.int .i64 0),(.int .i64 0),(.int .i64 0),(.int .i64 0),(.int .i64 0),(.int .i64 0),(.int .i64 0),(.int .u8 0)] [(0,(8,(t 2)))]),i 4 (.build [(.slice none 0 0),(.slice none 0 0)] [(0,(1,(t 1))),(1,(1,(t 3)))]),s (.store 2 (t 0) (t 4))]) .ret))
def a25:zAf:=⟨5,[(.cellN 2 0)],c25⟩
theorem n25:a25.ntmps=5:=id rfl
theorem r25:a25.results=[(.cellN 2 0)]:=rfl
theorem b25:a25.body=c25:=rfl
def l26_1:zAc:=(.seq (.ops [i 36 (.bin .lss (t 35) (t 34))]) (.seq (.cond (t 36) .skip (.exit 0)) (.seq (.block 1 (.seq (.ops [i 37 (.idxAddrS 3 (t 33) (t 35)),i 38 (.loadN 3 (t 37)),i 11 (.alloc [(.int .i64 0),(.int .i64 0),(.int .i64 0)]),s (.store 3 (t 11) (t 38))]) (.seq (.seq (.ops [i 39 (.fieldAddr 0 (t 4)),i 40 (.load1 (t 39)),i 41 (.fieldAddr 0 (t 11)),i 42 (.load1 (t 41)),i 43 (.call .any (.func 43) [(t 40),(t 42)]),i 44 (.un .not (t 43)),i 45 (.mov (t 44)),q 46 45 (.fieldAddr 1 (t 11)),q 47 45 (.load1 (t 46)),q 48 45 (.bin .lss (t 47) (k (.int .i64 0))),i 49 (.pick (t 45) (k (.bool true)) (t 48)),i 50 (.mov (t 49)),q 51 50 (.fieldAddr 1 (t 11)),q 52 50 (.load1 (t 51)),q 53 50 (.bin .gtr (t 52) (k (.int .i64 1051898399))),i 54 (.pick (t 50) (k (.bool true)) (t 53))]) (.cond (t 54) (.seq (.ops [i 8 (.mov (k (.int .i64 340)))]) .ret) .skip)) (.seq (.ops [i 55 (.fieldAddr 2 (t 11)),i 56 (.load1 (t 55)),i 57 (.bin .lss (t 56) (k (.int .i64 0))),i 58 (.mov (t 57)),q 59 58 (.fieldAddr 2 (t 11)),q 60 58 (.load1 (t 59)),q 61 58 (.bin .gtr (t 60) (k (.int .i64 1000000000))),i 62 (.pick (t 58) (k (.bool true)) (t 61))]) (.cond (t 62) (.seq (.ops [i 8 (.mov (k (.int .i64 340)))]) .ret) .skip))))) (.ops [i 63 (.bin .add (t 35) (k (.int .i64 1))),i 35 (.mov (t 63))]))))
def c26:zAc:=(.seq (.ops [i 4 (.box (t 0)),i 8 (.mov (k (.int .i64 0)))]) (.seq (.seq (.ops [i 12 (.loadN 2 (t 4)),i 13 (.call .any (.func 14) [(t 12)]),i 9 (.mov (t 13))]) (.seq (.ops [i 14 (.mov (t 9)),i 15 (.bin .neq (t 14) (k (.int .i64 0)))]) (.cond (t 15) (.seq (.ops [i 16 (.mov (t 9)),i 8 (.mov (t 16))]) .ret) .skip))) (.seq (.seq (.ops [i 17 (.fieldAddr 0 (t 4)),i 18 (.load1 (t 17)),i 19 (.mov (t 2)),i 20 (.call .any (.func 43) [(t 18),(t 19)]),i 21 (.un .not (t 20)),i 22 (.mov (t 21)),q 23 22 (.mov (t 3)),q 24 22 (.bin .lss (t 23) (k (.int .i64 0))),i 25 (.pick (t 22) (k (.bool true)) (t 24)),i 26 (.mov (t 25)),q 27 26 (.mov (t 3)),q 28 26 (.bin .gtr (t 27) (k (.int .i64 1051898399))),i 29 (.pick (t 26) (k (.bool true)) (t 28))]) (.cond (t 29) (.seq (.ops [i 8 (.mov (k (.int .i64 2)))]) .ret) .skip)) (.seq (.seq (.ops [i 30 (.mov (t 1)),i 31 (.lenSlice (t 30)),i 32 (.bin .gtr (t 31) (k (.int .i64 50)))]) (.cond (t 32) (.seq (.ops [i 8 (.mov (k (.int .i64 5)))]) .ret) .skip)) (.seq (.seq (.ops [i 33 (.mov (t 1)),i 34 (.lenSlice (t 33)),i 35 (.mov (k (.int .i64 0)))]) (.block 0 (.loop l26_1))) (.seq (.ops [i 8 (.mov (k (.int .i64 0)))]) .ret))))))
def a26:zAf:=⟨64,[(.tmp 8)],c26⟩
theorem n26:a26.ntmps=64:=id rfl
theorem r26:a26.results=[(.tmp 8)]:=rfl
theorem b26:a26.body=c26:=rfl
def c27:zAc:=(.seq (.ops [i 3 (.box (t 0)),i 4 (.box (t 1)),i 5 (.box (t 2)),i 6 (.mov (k .nilFunc))]) (.seq (.ops [i 7 (.makeFunc 44 [] [(t 5),(t 3),(t 4)]),i 6 (.mov (t 7))]) .ret))
def a27:zAf:=⟨8,[(.tmp 6)],c27⟩
theorem n27:a27.ntmps=8:=id rfl
theorem r27:a27.results=[(.tmp 6)]:=rfl
theorem b27:a27.body=c27:=rfl
def c28:zAc:=(.seq (.ops [i 2 (.box (t 0)),i 3 (.box (t 1)),i 4 (.mov (k (.int .i64 0)))]) (.seq (.drawn 1 [i 5 (.fieldAddr 1 (t 2)),⟨(some 6),none,(.load1 (t 5)),none,[0]⟩,i 7 (.fieldAddr 1 (t 3)),⟨(some 8),none,(.load1 (t 7)),none,[0]⟩,⟨(some 9),none,(.call .pure (.func 46) [(t 6),(t 8)]),none,[0]⟩,i 10 (.fieldAddr 0 (t 2)),⟨(some 11),none,(.load1 (t 10)),none,[0]⟩,i 12 (.fieldAddr 0 (t 3)),⟨(some 13),none,(.load1 (t 12)),none,[0]⟩,⟨(some 14),none,(.call .pure (.func 46) [(t 11),(t 13)]),none,[0]⟩,⟨(some 15),none,(.buildSlice 2 [(.int .i64 0),(.int .i64 0)] [(0,(1,(t 9))),(1,(1,(t 14)))]),(some 0),[]⟩,i 16 (.call .pure (.func 45) [(t 15)]),i 4 (.mov (t 16))]) .ret))
def a28:zAf:=⟨17,[(.tmp 4)],c28⟩
theorem n28:a28.ntmps=17:=id rfl
theorem r28:a28.results=[(.tmp 4)]:=rfl
theorem b28:a28.body=c28:=rfl
def l29_1:zAc:=(.seq (.ops [i 11 (.bin .lss (t 10) (t 9))]) (.seq (.cond (t 11) .skip (.exit 0)) (.seq (.block 1 (.seq (.ops [i 12 (.mov (t 10)),i 13 (.idxAddrS 3 (t 8) (t 10)),i 14 (.loadN 3 (t 13)),i 5 (.alloc [(.int .i64 0),(.int .i64 0),(.int .i64 0)]),i 4 (.mov (t 12)),s (.store 3 (t 5) (t 14))]) (.seq (.seq (.drawn 0 [i 15 (.mov (t 4)),i 16 (.bin .gtr (t 15) (k (.int .i64 0))),i 17 (.mov (t 16)),p 18 17 (.mov (t 0)),p 19 17 (.mov (t 4)),p 20 17 (.bin .sub (t 19) (k (.int .i64 1))),p 21 17 (.idxAddrS 3 (t 18) (t 20)),p 22 17 (.fieldAddr 0 (t 21)),p 23 17 (.load1 (t 22)),p 24 17 (.fieldAddr 0 (t 5)),p 25 17 (.load1 (t 24)),p 26 17 (.bin .neq (t 23) (t 25)),i 27 (.pick (t 17) (t 26) (k (.bool false)))]) (.cond (t 27) (.ops [i 3 (.mov (k (.int .i64 0)))]) .skip)) (.seq (.ops [i 28 (.mov (t 3)),i 29 (.fieldAddr 2 (t 5)),i 30 (.load1 (t 29)),i 31 (.bin .add (t 28) (t 30)),i 3 (.mov (t 31))]) (.seq (.ops [i 32 (.mov (t 3)),i 33 (.bin .lss (t 32) (k (.int .i64 0)))]) (.cond (t 33) (.seq (.ops [i 2 (.mov (k (.bool false)))]) .ret) .skip)))))) (.ops [i 34 (.bin .add (t 10) (k (.int .i64 1))),i 10 (.mov (t 34))]))))
def c29:zAc:=(.seq (.ops [i 2 (.mov (k (.bool false)))]) (.seq (.ops [i 6 (.mov (t 0)),i 7 (.call .any (.func 47) [(t 6),(.func 48)])]) (.seq (.ops [i 3 (.mov (k (.int .i64 0)))]) (.seq (.seq (.ops [i 8 (.mov (t 0)),i 9 (.lenSlice (t 8)),i 10 (.mov (k (.int .i64 0)))]) (.block 0 (.loop l29_1))) (.seq (.ops [i 2 (.mov (k (.bool true)))]) .ret)))))
def a29:zAf:=⟨35,[(.tmp 2)],c29⟩
theorem n29:a29.ntmps=35:=id rfl
theorem r29:a29.results=[(.tmp 2)]:=rfl
theorem b29:a29.body=c29:=rfl
def l35_1:zAc:=(.seq (.ops [i 34 (.bin .lss (t 33) (k (.int .i64 8)))]) (.seq (.cond (t 34) .skip (.exit 0)) (.seq (.block 1 (.seq (.ops [i 35 (.idxA 8 3 true (t 32) (t 33)),i 5 (.alloc [(.int .i64 0),(.int .i64 0),(.int .i64 0)]),s (.store 3 (t 5) (t 35))]) (.seq (.ops [i 36 (.fieldAddr 0 (t 5)),i 37 (.load1 (t 36)),i 38 (.fieldAddr 1 (t 5)),i 39 (.load1 (t 38)),i 40 (.bin .lss (t 37) (t 39)),i 41 (.mov (t 40)),q 42 41 (.fieldAddr 0 (t 5)),q 43 41 (.load1 (t 42)),q 44 41 (.fieldAddr 2 (t 5)),q 45 41 (.load1 (t 44)),q 46 41 (.bin .gtr (t 43) (t 45)),i 47 (.pick (t 41) (k (.bool true)) (t 46))]) (.cond (t 47) (.seq (.ops [i 2 (.mov (k (.bool false)))]) .ret) .skip)))) (.ops [i 48 (.bin .add (t 33) (k (.int .i64 1))),i 33 (.mov (t 48))]))))
def c35:zAc:=(.seq (.ops [i 1 (.box (t 0)),i 2 (.mov (k (.bool false)))]) (.seq (.ops [i 6 (.fieldAddr 0 (t 1)),i 7 (.load1 (t 6)),i 8 (.build [(.int .i64 0),(.int .i64 0),(.int .i64 0)] [(0,(1,(t 7))),(1,(1,(k (.int .i64 1)))),(2,(1,(k (.int .i64 999999))))]),i 9 (.fieldAddr 1 (t 1)),i 10 (.load1 (t 9)),i 11 (.build [(.int .i64 0),(.int .i64 0),(.int .i64 0)] [(0,(1,(t 10))),(1,(1,(k (.int .i64 1)))),(2,(1,(k (.int .i64 999999))))]),i 12 (.fieldAddr 2 (t 1)),i 13 (.load1 (t 12)),i 14 (.build [(.int .i64 0),(.int .i64 0),(.int .i64 0)] [(0,(1,(t 13))),(1,(1,(k (.int .i64 1)))),(2,(1,(k (.int .i64 999999))))]),i 15 (.fieldAddr 3 (t 1)),i 16 (.load1 (t 15)),i 17 (.build [(.int .i64 0),(.int .i64 0),(.int .i64 0)] [(0,(1,(t 16))),(1,(1,(k (.int .i64 0)))),(2,(1,(k (.int .i64 1439))))]),i 18 (.fieldAddr 4 (t 1)),i 19 (.load1 (t 18)),i 20 (.build [(.int .i64 0),(.int .i64 0),(.int .i64 0)] [(0,(1,(t 19))),(1,(1,(k (.int .i64 1)))),(2,(1,(k (.int .i64 20160))))]),i 21 (.fieldAddr 5 (t 1)),i 22 (.load1 (t 21)),i 23 (.build [(.int .i64 0),(.int .i64 0),(.int .i64 0)] [(0,(1,(t 22))),(1,(1,(k (.int .i64 0)))),(2,(1,(k (.int .i64 10080))))]),i 24 (.fieldAddr 6 (t 1)),i 25 (.load1 (t 24)),i 26 (.build [(.int .i64 0),(.int .i64 0),(.int .i64 0)] [(0,(1,(t 25))),(1,(1,(k (.int .i64 0)))),(2,(1,(k (.int .i64 1000000000))))]),i 27 (.fieldAddr 7 (t 1)),i 28 (.load1 (t 27)),i 29 (.conv .i64 (t 28)),i 30 (.build [(.int .i64 0),(.int .i64 0),(.int .i64 0)] [(0,(1,(t 29))),(1,(1,(k (.int .i64 1)))),(2,(1,(k (.int .i64 127))))]),i 31 (.build [(.int .i64 0),(.int .i64 0),(.int .i64 0),(.int .i64 0),(.int .i64 0),(.int .i64 0),(.int .i64 0),(.int .i64 0),(.int .i64 0),(.int .i64 0),(.int .i64 0),(.int .i64 0),(.int .i64 0),(.int .i64 0),(.int .i64 0),(.int .i64 0),(.int .i64 0),(.int .i64 0),(.int .i64 0),(.int .i64 0),(.int .i64 0),(.int .i64 0),(.int .i64 0),(.int .i64 0)] [(0,(3,(t 8))),(3,(3,(t 11))),(6,(3,(t 14))),(9,(3,(t 17))),(12,(3,(t 20))),(15,(3,(t 23))),(18,(3,(t 26))),(21,(3,(t 30)))]),i 3 (.alloc [(.int .i64 0),(.int .i64 0),(.int .i64 0),(.int .i64 0),(.int .i64 0),(.int .i64 0),(.int .i64 0),(.int .i64 0),(.int .i64 0),(.int .i64 0),(.int .i64 0),(.int .i64 0),(.int .i64 0),(.int .i64 0),(.int .i64 0),(.int .i64 0),(.int .i64 0),(.int .i64 0),(.int .i64 0),(.int .i64 0),(.int .i64 0),(.int .i64 0),(.int .i64 0),(.int .i64 0)]),s (.store 24 (t 3) (t 31))]) (.seq (.seq (.ops [i 32 (.loadN 24 (t 3)),i 33 (.mov (k (.int .i64 0)))]) (.block 0 (.loop l35_1))) (.seq (.ops [i 49 (.fieldAddr 1 (t 1)),i 50 (.load1 (t 49)),i 51 (.fieldAddr 2 (t 1)),i 52 (.load1 (t 51)),i 53 (.bin .neq (t 50) (t 52)),i 2 (.mov (t 53))]) .ret))))
def a35:zAf:=⟨54,[(.tmp 2)],c35⟩
theorem n35:a35.ntmps=54:=id rfl
theorem r35:a35.results=[(.tmp 2)]:=rfl
theorem b35:a35.body=c35:=rfl
def l36_1:zAc:=(.seq (.seq (.ops [i 142 (.mov (t 20))]) (.cond (t 142) .skip (.exit 8))) (.seq (.block 9 (.drawn 0 [i 145 (.loadR none (t 9)),i 146 (.nilCheck (t 145)),i 147 (.fieldAddr 7 (t 146)),i 148 (.loadR none (t 147)),i 149 (.load1 (t 9)),i 150 (.call .recs (.func 58) [(t 149),(k (.int .i64 0)),(k (.int .i64 1152921504606846976))]),i 151 (.bin .add (t 148) (t 150)),i 152 (.nilCheck (t 145)),i 153 (.fieldAddr 7 (t 152)),s (.store 1 (t 153) (t 151))])) (.ops [i 143 (.load1 (t 9)),i 144 (.call .any (.func 57) [(t 143)]),i 20 (.mov (t 144))])))
def l36_2:zAc:=(.seq (.ops [i 81 (.bin .lss (t 80) (t 79))]) (.seq (.cond (t 81) .skip (.exit 4)) (.seq (.block 5 (.seq (.ops [i 82 (.idxAddrS 3 (t 78) (t 80)),i 83 (.loadN 3 (t 82)),i 16 (.alloc [(.int .i64 0),(.int .i64 0),(.int .i64 0)]),s (.store 3 (t 16) (t 83))]) (.seq (.ops [i 84 (.fieldAddr 1 (t 16)),i 85 (.load1 (t 84)),i 86 (.mov (t 3)),i 87 (.bin .leq (t 85) (t 86))]) (.cond (t 87) (.drawn 0 [i 88 (.load1 (t 9)),i 89 (.load1 (t 10)),i 90 (.fieldAddr 0 (t 16)),i 91 (.load1 (t 90)),i 92 (.fieldAddr 1 (t 16)),i 93 (.load1 (t 92)),i 94 (.build [(.int .i64 0),(.int .i64 0)] [(0,(1,(t 91))),(1,(1,(t 93)))]),i 95 (.call .pure (t 89) [(t 94)]),i 96 (.fieldAddr 2 (t 16)),i 97 (.load1 (t 96)),i 98 (.call .any (.func 55) [(t 88),(k (.int .i64 0)),(t 95),(t 97)])]) .skip)))) (.ops [i 99 (.bin .add (t 80) (k (.int .i64 1))),i 80 (.mov (t 99))]))))
def l36_3:zAc:=(.seq (.ops [i 28 (.bin .lss (t 27) (t 26))]) (.seq (.cond (t 28) .skip (.exit 0)) (.seq (.block 1 (.seq (.ops [i 29 (.idxAddrS 3 (t 25) (t 27)),i 30 (.loadN 3 (t 29)),i 12 (.alloc [(.int .i64 0),(.int .i64 0),(.int .i64 0)]),s (.store 3 (t 12) (t 30))]) (.ops [i 31 (.load1 (t 9)),i 32 (.fieldAddr 0 (t 12)),i 33 (.load1 (t 32)),i 34 (.fieldAddr 1 (t 12)),i 35 (.load1 (t 34)),i 36 (.build [(.int .i64 0),(.int .i64 0)] [(0,(1,(t 33))),(1,(1,(t 35)))]),i 37 (.fieldAddr 0 (t 12)),i 38 (.load1 (t 37)),i 39 (.load1 (t 6)),i 40 (.bin .neq (t 38) (t 39)),i 41 (.mov (t 40)),p 42 41 (.fieldAddr 1 (t 12)),p 43 41 (.load1 (t 42)),p 44 41 (.mov (t 3)),p 45 41 (.bin .leq (t 43) (t 44)),i 46 (.pick (t 41) (t 45) (k (.bool false))),i 47 (.call .any (.func 53) [(t 31),(t 36),(t 46)])]))) (.ops [i 48 (.bin .add (t 27) (k (.int .i64 1))),i 27 (.mov (t 48))]))))
def ga36_1:zAc:=(.seq (.ops [i 17 (.alloc [(.int .i64 0),(.int .i64 0),(.int .i64 0),(.int .i64 0),(.int .i64 0),(.int .i64 0),(.int .i64 0),(.int .u8 0)]),s (.store 8 (t 17) (t 104))]) (.ops [i 18 (.alloc [(.int .i64 0),(.int .i64 0)]),s (.store 2 (t 18) (t 105))]))
def gb36_1:zAc:=(.block 7 (.seq (.drawn 0 [i 106 (.load1 (t 9)),i 107 (.load1 (t 10)),i 108 (.fieldAddr 1 (t 17)),i 109 (.load1 (t 108)),i 110 (.fieldAddr 0 (t 18)),i 111 (.load1 (t 110)),i 112 (.fieldAddr 5 (t 17)),i 113 (.load1 (t 112)),i 114 (.bin .sub (t 111) (t 113)),i 115 (.build [(.int .i64 0),(.int .i64 0)] [(0,(1,(t 109))),(1,(1,(t 114)))]),i 116 (.call .pure (t 107) [(t 115)]),i 117 (.load1 (t 10)),i 118 (.fieldAddr 2 (t 17)),i 119 (.load1 (t 118)),i 120 (.fieldAddr 1 (t 18)),i 121 (.load1 (t 120)),i 122 (.build [(.int .i64 0),(.int .i64 0)] [(0,(1,(t 119))),(1,(1,(t 121)))]),i 123 (.call .pure (t 117) [(t 122)]),i 124 (.fieldAddr 6 (t 17)),i 125 (.load1 (t 124)),i 126 (.call .any (.func 55) [(t 106),(t 116),(t 123),(t 125)]),i 19 (.mov (t 126))]) (.drawn 2 [⟨(some 128),none,(.load1 (t 9)),none,[0,1]⟩,i 129 (.nilCheck (t 128)),i 130 (.fieldAddr 6 (t 129)),⟨(some 131),none,(.load1 (t 130)),none,[0,1]⟩,⟨(some 132),none,(.loadN 8 (t 17)),none,[0,1]⟩,⟨(some 133),none,(.loadN 2 (t 18)),none,[0,1]⟩,i 134 (.mov (t 19)),i 135 (.build [(.int .i64 0),(.int .i64 0),(.int .i64 0),(.int .i64 0),(.int .i64 0),(.int .i64 0),(.int .i64 0),(.int .u8 0),(.int .i64 0),(.int .i64 0),(.int .i64 0)] [(0,(8,(t 132))),(8,(2,(t 133))),(10,(1,(t 134)))]),⟨(some 136),none,(.buildSlice 1 [(.int .i64 0),(.int .i64 0),(.int .i64 0),(.int .i64 0),(.int .i64 0),(.int .i64 0),(.int .i64 0),(.int .u8 0),(.int .i64 0),(.int .i64 0),(.int .i64 0)] [(0,(11,(t 135)))]),(some 0),[]⟩,⟨(some 137),none,(.appendL 11 88 false (t 131) (t 136)),(some 1),[]⟩,⟨(some 127),none,(.load1 (t 9)),none,[0,1]⟩,i 138 (.nilCheck (t 127)),i 139 (.fieldAddr 6 (t 138)),s (.store 1 (t 139) (t 137))])))
def ga36_2:zAc:=(.seq (.ops [i 13 (.alloc [(.int .i64 0),(.int .i64 0),(.int .i64 0),(.int .i64 0),(.int .i64 0),(.int .i64 0),(.int .i64 0),(.int .u8 0)]),s (.store 8 (t 13) (t 53))]) (.ops [i 14 (.alloc [(.int .i64 0),(.int .i64 0)]),s (.store 2 (t 14) (t 54))]))
def gb36_2:zAc:=(.block 3 (.seq (.ops [i 55 (.load1 (t 9)),i 56 (.fieldAddr 1 (t 13)),i 57 (.load1 (t 56)),i 58 (.fieldAddr 0 (t 14)),i 59 (.load1 (t 58)),i 60 (.fieldAddr 5 (t 13)),i 61 (.load1 (t 60)),i 62 (.bin .sub (t 59) (t 61)),i 63 (.build [(.int .i64 0),(.int .i64 0)] [(0,(1,(t 57))),(1,(1,(t 62)))]),i 64 (.call .any (.func 53) [(t 55),(t 63),(k (.bool true))])]) (.ops [i 65 (.load1 (t 9)),i 66 (.fieldAddr 2 (t 13)),i 67 (.load1 (t 66)),i 68 (.fieldAddr 1 (t 14)),i 69 (.load1 (t 68)),i 70 (.build [(.int .i64 0),(.int .i64 0)] [(0,(1,(t 67))),(1,(1,(t 69)))]),i 71 (.fieldAddr 2 (t 13)),i 72 (.load1 (t 71)),i 73 (.load1 (t 6)),i 74 (.bin .neq (t 72) (t 73)),i 75 (.call .any (.func 53) [(t 65),(t 70),(t 74)])])))
def c36:zAc:=(.seq (.seq (.ops [i 4 (.box (t 0)),i 6 (.box (t 2)),i 8 (.mov (k (.pointer none)))]) (.seq (.ops [i 21 (.makeMap none),i 22 (.build [(.slice none 0 0),(.map none),(.slice none 0 0),(.slice none 0 0),(.slice none 0 0),(.slice none 0 0),(.slice none 0 0),(.int .i64 0)] [(1,(1,(t 21)))]),i 23 (.box (t 22)),i 9 (.alloc [(.pointer none)]),s (.store 1 (t 9) (t 23))]) (.seq (.ops [i 24 (.makeFunc 52 [] [(t 6),(t 9)]),i 10 (.alloc [.nilFunc]),s (.store 1 (t 10) (t 24))]) (.seq (.seq (.ops [i 25 (.mov (t 1)),i 26 (.lenSlice (t 25)),i 27 (.mov (k (.int .i64 0)))]) (.block 0 (.loop l36_3))) (.seq (.seq (.ops [i 49 (.loadN 2 (t 4)),i 50 (.load1 (t 6)),i 51 (.mov (t 3)),i 52 (.call .any (.func 27) [(t 49),(t 50),(t 51)])]) (.block 2 (.rangeF (t 52) [53,54] ga36_2 gb36_2))) (.seq (.ops [i 76 (.load1 (t 9)),i 77 (.call .any (.func 54) [(t 76)])]) (.seq (.seq (.ops [i 78 (.mov (t 1)),i 79 (.lenSlice (t 78)),i 80 (.mov (k (.int .i64 0)))]) (.block 4 (.loop l36_2))) (.seq (.seq (.ops [i 100 (.loadN 2 (t 4)),i 101 (.load1 (t 6)),i 102 (.mov (t 3)),i 103 (.call .any (.func 27) [(t 100),(t 101),(t 102)])]) (.block 6 (.rangeF (t 103) [104,105] ga36_1 gb36_1))) (.seq (.ops [i 140 (.load1 (t 9)),i 141 (.call .any (.func 56) [(t 140)])]) (.seq (.seq (.ops [i 20 (.mov (k (.bool true)))]) (.block 8 (.loop l36_1))) (.seq (.ops [i 154 (.load1 (t 9)),i 8 (.mov (t 154))]) .retM))))))))))) .retM)
def a36:zAf:=⟨155,[(.tmp 8)],c36⟩
theorem n36:a36.ntmps=155:=id rfl
theorem r36:a36.results=[(.tmp 8)]:=rfl
theorem b36:a36.body=c36:=rfl
def c38:zAc:=(.seq (.ops [i 4 (.box (t 0)),i 5 (.box (t 1)),i 8 (.mov (k (.bool false)))]) (.seq (.drawn 0 [i 10 (.fieldAddr 0 (t 5)),i 11 (.load1 (t 10)),i 12 (.loadN 2 (t 4)),i 13 (.mov (t 2)),i 14 (.call .pure (.func 18) [(t 12),(t 13)]),i 15 (.idxAddrS 1 (t 11) (t 14)),i 16 (.load1 (t 15)),i 9 (.mov (t 16))]) (.seq (.ops [i 17 (.mov (t 9)),i 18 (.bin .lss (t 17) (k (.int .i64 0))),i 19 (.mov (t 18)),q 20 19 (.mov (t 9)),q 21 19 (.mov (t 3)),q 22 19 (.bin .gtr (t 20) (t 21)),i 23 (.pick (t 19) (k (.bool true)) (t 22)),i 8 (.mov (t 23))]) .ret)))
def a38:zAf:=⟨24,[(.tmp 8)],c38⟩
theorem n38:a38.ntmps=24:=id rfl
theorem r38:a38.results=[(.tmp 8)]:=rfl
theorem b38:a38.body=c38:=rfl
def c39:zAc:=(.seq (.ops [i 2 (.box (t 0)),i 4 (.alloc [(.int .i64 0),(.int .i64 0)]),i 5 (.mov (k (.bool false)))]) (.seq (.seq (.ops [i 6 (.loadN 8 (t 2)),i 7 (.call .any (.func 35) [(t 6)]),i 8 (.un .not (t 7)),i 9 (.mov (t 8)),q 10 9 (.mov (t 1)),q 11 9 (.bin .lss (t 10) (k (.int .i64 0))),i 12 (.pick (t 9) (k (.bool true)) (t 11)),i 13 (.mov (t 12)),q 14 13 (.mov (t 1)),q 15 13 (.bin .gtr (t 14) (k (.int .i64 730484))),i 16 (.pick (t 13) (k (.bool true)) (t 15))]) (.cond (t 16) (.seq (.ops [i 17 (.build [(.int .i64 0),(.int .i64 0)] []),s (.store 2 (t 4) (t 17)),i 5 (.mov (k (.bool false)))]) .ret) .skip)) (.seq (.ops [i 18 (.loadN 8 (t 2)),i 19 (.mov (t 1)),i 20 (.call .any (.func 61) [(t 18),(t 19)]),i 21 (.extract 0 (t 20)),i 22 (.extract 1 (t 20)),s (.store 2 (t 4) (t 21)),i 5 (.mov (t 22))]) .ret)))
def a39:zAf:=⟨23,[(.cellN 2 4),(.tmp 5)],c39⟩
theorem n39:a39.ntmps=23:=id rfl
theorem r39:a39.results=[(.cellN 2 4),(.tmp 5)]:=rfl
theorem b39:a39.body=c39:=rfl
def c40:zAc:=(.seq (.ops [i 2 (.mov (k (.slice none 0 0)))]) (.seq (.ops [i 3 (.mov (k (.slice none 0 0)))]) (.seq (.ops [i 4 (.mov (t 3)),i 5 (.mov (t 0)),i 6 (.append 1 8 false (t 4) (t 5)),i 2 (.mov (t 6))]) .ret)))
def a40:zAf:=⟨7,[(.tmp 2)],c40⟩
theorem n40:a40.ntmps=7:=id rfl
theorem r40:a40.results=[(.tmp 2)]:=rfl
theorem b40:a40.body=c40:=rfl
def c41:zAc:=(.seq (.ops [i 2 (.mov (k (.slice none 0 0)))]) (.seq (.ops [i 3 (.mov (k (.slice none 0 0)))]) (.seq (.ops [i 4 (.mov (t 3)),i 5 (.mov (t 0)),i 6 (.append 8 64 false (t 4) (t 5)),i 2 (.mov (t 6))]) .ret)))
def a41:zAf:=⟨7,[(.tmp 2)],c41⟩
theorem n41:a41.ntmps=7:=id rfl
theorem r41:a41.results=[(.tmp 2)]:=rfl
theorem b41:a41.body=c41:=rfl
def c42:zAc:=(.seq (.ops [i 14 (.alloc [(.int .i64 0),(.int .i64 0),(.int .i64 0),(.int .i64 0),(.int .i64 0),(.int .i64 0),(.int .i64 0),(.int .u8 0)])]) (.seq (.ops [i 15 (.mov (t 0)),i 16 (.mov (t 1)),i 17 (.mov (t 2)),i 18 (.mov (t 3)),i 19 (.mov (t 4)),i 20 (.mov (t 5)),i 21 (.mov (t 6)),i 22 (.build [(.int .i64 0),(.int .i64 0),(.int .i64 0),(.int .i64 0),(.int .i64 0),(.int .i64 0),(.int .i64 0),(.int .u8 0)] [(0,(1,(t 15))),(1,(1,(t 16))),(2,(1,(t 17))),(3,(1,(t 18))),(4,(1,(t 19))),(5,(1,(t 20))),(6,(1,(t 21))),(7,(1,(k (.int .u8 127))))]),s (.store 8 (t 14) (t 22))]) .ret))
def a42:zAf:=⟨23,[(.cellN 8 14)],c42⟩
theorem n42:a42.ntmps=23:=id rfl
theorem r42:a42.results=[(.cellN 8 14)]:=rfl
theorem b42:a42.body=c42:=rfl
def c43:zAc:=(.seq (.ops [i 4 (.mov (k (.bool false)))]) (.seq (.ops [i 5 (.mov (t 0)),i 6 (.mov (t 1)),i 7 (.call .any (.func 62) [(t 5),(t 6)]),i 8 (.bin .geq (t 7) (k (.int .i64 0))),i 4 (.mov (t 8))]) .ret))
def a43:zAf:=⟨9,[(.tmp 4)],c43⟩
theorem n43:a43.ntmps=9:=id rfl
theorem r43:a43.results=[(.tmp 4)]:=rfl
theorem b43:a43.body=c43:=rfl
def l44_1:zAc:=(.seq (.seq (.ops [i 27 (.mov (t 8)),i 28 (.load1 (t 1)),i 29 (.bin .quo (t 28) (k (.int .i64 1440))),i 30 (.bin .leq (t 27) (t 29))]) (.cond (t 30) .skip (.exit 2))) (.seq (.block 3 (.seq (.ops [i 34 (.loadN 8 (t 7)),i 35 (.mov (t 8)),i 36 (.call .any (.func 39) [(t 34),(t 35)]),i 33 (.mov (t 36)),i 37 (.extract 0 (t 33)),i 38 (.extract 1 (t 33)),i 9 (.alloc [(.int .i64 0),(.int .i64 0)]),s (.store 2 (t 9) (t 37)),i 10 (.mov (t 38))]) (.seq (.seq (.ops [i 39 (.mov (t 10)),i 40 (.un .not (t 39)),i 41 (.mov (t 40)),q 42 41 (.fieldAddr 0 (t 9)),q 43 41 (.load1 (t 42)),q 44 41 (.mov (t 5)),q 45 41 (.bin .lss (t 43) (t 44)),i 46 (.pick (t 41) (k (.bool true)) (t 45)),i 47 (.mov (t 46)),q 48 47 (.fieldAddr 1 (t 9)),q 49 47 (.load1 (t 48)),q 50 47 (.load1 (t 1)),q 51 47 (.bin .gtr (t 49) (t 50)),i 52 (.pick (t 47) (k (.bool true)) (t 51))]) (.cond (t 52) (.exit 3) .skip)) (.seq (.ops [i 53 (.mov (t 0)),i 54 (.loadN 8 (t 7)),i 55 (.loadN 2 (t 9)),i 56 (.call .any (t 53) [(t 54),(t 55)]),i 57 (.un .not (t 56))]) (.cond (t 57) .ret .skip))))) (.ops [i 31 (.mov (t 8)),i 32 (.bin .add (t 31) (k (.int .i64 1))),i 8 (.mov (t 32))])))
def l44_2:zAc:=(.seq (.ops [i 18 (.bin .lss (t 17) (t 16))]) (.seq (.cond (t 18) .skip (.exit 0)) (.seq (.block 1 (.seq (.ops [i 19 (.idxAddrS 8 (t 15) (t 17)),i 20 (.loadN 8 (t 19)),i 7 (.alloc [(.int .i64 0),(.int .i64 0),(.int .i64 0),(.int .i64 0),(.int .i64 0),(.int .i64 0),(.int .i64 0),(.int .u8 0)]),s (.store 8 (t 7) (t 20))]) (.seq (.seq (.ops [i 21 (.fieldAddr 1 (t 7)),i 22 (.load1 (t 21)),i 23 (.load1 (t 3)),i 24 (.bin .eql (t 22) (t 23))]) (.cond (t 24) (.exit 1) .skip)) (.seq (.ops [i 25 (.mov (t 5)),i 26 (.bin .quo (t 25) (k (.int .i64 1440))),i 8 (.mov (t 26))]) (.block 2 (.loop l44_1)))))) (.ops [i 58 (.bin .add (t 17) (k (.int .i64 1))),i 17 (.mov (t 58))]))))
def c44:zAc:=(.seq (.ops [i 11 (.load1 (t 1)),i 12 (.bin .sub (t 11) (k (.int .i64 20160))),i 13 (.minmax true [(k (.int .i64 0)),(t 12)]),i 5 (.mov (t 13))]) (.seq (.ops [i 14 (.fieldAddr 1 (t 2)),i 15 (.load1 (t 14)),i 16 (.lenSlice (t 15)),i 17 (.mov (k (.int .i64 0)))]) (.block 0 (.loop l44_2))))
def a44:zAf:=⟨59,[],c44⟩
theorem n44:a44.ntmps=59:=id rfl
theorem r44:a44.results=[]:=rfl
theorem b44:a44.body=c44:=rfl
def l45_1:zAc:=(.seq (.ops [i 9 (.bin .lss (t 8) (t 7))]) (.seq (.cond (t 9) .skip (.exit 0)) (.seq (.block 1 (.seq (.ops [i 10 (.idxAddrS 1 (t 6) (t 8)),i 11 (.load1 (t 10)),i 5 (.mov (t 11))]) (.seq (.ops [i 12 (.mov (t 5)),i 13 (.mov (t 3)),i 14 (.bin .neq (t 12) (t 13))]) (.cond (t 14) (.seq (.ops [i 15 (.mov (t 5)),i 2 (.mov (t 15))]) .ret) .skip)))) (.ops [i 16 (.bin .add (t 8) (k (.int .i64 1))),i 8 (.mov (t 16))]))))
def c45:zAc:=(.seq (.ops [i 2 (.mov (k (.int .i64 0)))]) (.seq (.ops [i 3 (.mov (k (.int .i64 0)))]) (.seq (.seq (.ops [i 6 (.mov (t 0)),i 7 (.lenSlice (t 6)),i 8 (.mov (k (.int .i64 0)))]) (.block 0 (.loop l45_1))) (.seq (.ops [i 17 (.mov (t 3)),i 2 (.mov (t 17))]) .ret))))
def a45:zAf:=⟨18,[(.tmp 2)],c45⟩
theorem n45:a45.ntmps=18:=id rfl
theorem r45:a45.results=[(.tmp 2)]:=rfl
theorem b45:a45.body=c45:=rfl
def c46:zAc:=(.seq (.ops [i 4 (.mov (k (.int .i64 0)))]) (.seq (.ops [i 7 (.mov (t 0)),i 8 (.call .any (.func 63) [(t 7)]),i 5 (.mov (t 8))]) (.seq (.ops [i 9 (.mov (t 1)),i 10 (.call .any (.func 63) [(t 9)]),i 6 (.mov (t 10))]) (.seq (.seq (.ops [i 11 (.mov (t 5))]) (.cond (t 11) (.seq (.seq (.ops [i 12 (.mov (t 6))]) (.cond (t 12) (.seq (.ops [i 4 (.mov (k (.int .i64 0)))]) .ret) .skip)) (.seq (.ops [i 4 (.mov (k (.int .i64 (-1))))]) .ret)) .skip)) (.seq (.seq (.ops [i 13 (.mov (t 6))]) (.cond (t 13) (.seq (.ops [i 4 (.mov (k (.int .i64 1)))]) .ret) .skip)) (.seq (.seq (.ops [i 14 (.mov (t 0)),i 15 (.mov (t 1)),i 16 (.bin .lss (t 14) (t 15))]) (.cond (t 16) (.seq (.ops [i 4 (.mov (k (.int .i64 (-1))))]) .ret) .skip)) (.seq (.seq (.ops [i 17 (.mov (t 0)),i 18 (.mov (t 1)),i 19 (.bin .gtr (t 17) (t 18))]) (.cond (t 19) (.seq (.ops [i 4 (.mov (k (.int .i64 1)))]) .ret) .skip)) (.seq (.ops [i 4 (.mov (k (.int .i64 0)))]) .ret))))))))
def a46:zAf:=⟨20,[(.tmp 4)],c46⟩
theorem n46:a46.ntmps=20:=id rfl
theorem r46:a46.results=[(.tmp 4)]:=rfl
theorem b46:a46.body=c46:=rfl
def c48:zAc:=(.seq (.ops [i 2 (.box (t 0)),i 3 (.box (t 1)),i 4 (.mov (k (.int .i64 0)))]) (.seq (.drawn 1 [i 5 (.fieldAddr 0 (t 2)),⟨(some 6),none,(.load1 (t 5)),none,[0]⟩,i 7 (.fieldAddr 0 (t 3)),⟨(some 8),none,(.load1 (t 7)),none,[0]⟩,⟨(some 9),none,(.call .pure (.func 46) [(t 6),(t 8)]),none,[0]⟩,i 10 (.fieldAddr 1 (t 2)),⟨(some 11),none,(.load1 (t 10)),none,[0]⟩,i 12 (.fieldAddr 1 (t 3)),⟨(some 13),none,(.load1 (t 12)),none,[0]⟩,⟨(some 14),none,(.call .pure (.func 46) [(t 11),(t 13)]),none,[0]⟩,i 15 (.fieldAddr 2 (t 3)),⟨(some 16),none,(.load1 (t 15)),none,[0]⟩,i 17 (.fieldAddr 2 (t 2)),⟨(some 18),none,(.load1 (t 17)),none,[0]⟩,⟨(some 19),none,(.call .pure (.func 46) [(t 16),(t 18)]),none,[0]⟩,⟨(some 20),none,(.buildSlice 3 [(.int .i64 0),(.int .i64 0),(.int .i64 0)] [(0,(1,(t 9))),(1,(1,(t 14))),(2,(1,(t 19)))]),(some 0),[]⟩,i 21 (.call .pure (.func 45) [(t 20)]),i 4 (.mov (t 21))]) .ret))
def a48:zAf:=⟨22,[(.tmp 4)],c48⟩
theorem n48:a48.ntmps=22:=id rfl
theorem r48:a48.results=[(.tmp 4)]:=rfl
theorem b48:a48.body=c48:=rfl
def c52:zAc:=(.seq (.ops [i 3 (.box (t 0)),i 4 (.mov (k (.int .i64 0)))]) (.seq (.seq (.ops [i 5 (.fieldAddr 0 (t 3)),i 6 (.load1 (t 5)),i 7 (.load1 (t 1)),i 8 (.bin .eql (t 6) (t 7))]) (.cond (t 8) (.seq (.ops [i 4 (.mov (k (.int .i64 1)))]) .ret) .skip)) (.seq (.drawn 0 [i 9 (.load1 (t 2)),i 10 (.nilCheck (t 9)),i 11 (.fieldAddr 1 (t 10)),i 12 (.load1 (t 11)),i 13 (.loadN 2 (t 3)),i 14 (.lookup (.ints [.i64,.i64]) (.int .i64 0) false (t 12) (t 13)),i 4 (.mov (t 14))]) .ret)))
def a52:zAf:=⟨15,[(.tmp 4)],c52⟩
theorem n52:a52.ntmps=15:=id rfl
theorem r52:a52.results=[(.tmp 4)]:=rfl
theorem b52:a52.body=c52:=rfl
def c53:zAc:=(.seq (.ops [i 4 (.box (t 1))]) (.seq (.drawn 0 [i 9 (.mov (t 0)),i 10 (.nilCheck (t 9)),i 11 (.fieldAddr 1 (t 10)),i 12 (.load1 (t 11)),i 13 (.loadN 2 (t 4)),i 14 (.lookup (.ints [.i64,.i64]) (.int .i64 0) true (t 12) (t 13)),i 8 (.mov (t 14)),i 15 (.extract 0 (t 8)),i 16 (.extract 1 (t 8)),i 6 (.mov (t 15)),i 7 (.mov (t 16))]) (.seq (.ops [i 17 (.mov (t 2)),i 18 (.mov (t 17)),p 19 18 (.mov (t 7)),p 20 18 (.un .not (t 19)),i 21 (.pick (t 18) (t 20) (k (.bool false)))]) (.cond (t 21) (.seq (.drawn 0 [i 22 (.mov (t 0)),i 23 (.nilCheck (t 22)),i 24 (.fieldAddr 1 (t 23)),i 25 (.load1 (t 24)),i 26 (.loadN 2 (t 4)),s (.mapUpdate (.ints [.i64,.i64]) (t 25) (t 26) (k (.int .i64 0)))]) (.drawn 2 [i 27 (.mov (t 0)),i 28 (.mov (t 0)),i 29 (.nilCheck (t 28)),i 30 (.fieldAddr 0 (t 29)),⟨(some 31),none,(.load1 (t 30)),none,[0,1]⟩,⟨(some 32),none,(.loadN 2 (t 4)),none,[0,1]⟩,⟨(some 33),none,(.buildSlice 1 [(.int .i64 0),(.int .i64 0)] [(0,(2,(t 32)))]),(some 0),[]⟩,⟨(some 34),none,(.append 2 16 false (t 31) (t 33)),(some 1),[]⟩,i 35 (.nilCheck (t 27)),i 36 (.fieldAddr 0 (t 35)),s (.store 1 (t 36) (t 34))])) .skip))))
def a53:zAf:=⟨37,[],c53⟩
theorem n53:a53.ntmps=37:=id rfl
theorem r53:a53.results=[]:=rfl
theorem b53:a53.body=c53:=rfl
def l54_1:zAc:=(.seq (.ops [i 25 (.bin .lss (t 24) (t 23))]) (.seq (.cond (t 25) .skip (.exit 0)) (.seq (.block 1 (.seq (.ops [i 26 (.mov (t 24)),i 27 (.idxAddrS 2 (t 22) (t 24)),i 28 (.loadN 2 (t 27)),i 3 (.alloc [(.int .i64 0),(.int .i64 0)]),i 2 (.mov (t 26)),s (.store 2 (t 3) (t 28))]) (.seq (.drawn 0 [i 29 (.mov (t 0)),i 30 (.nilCheck (t 29)),i 31 (.fieldAddr 1 (t 30)),i 32 (.load1 (t 31)),i 33 (.loadN 2 (t 3)),i 34 (.mov (t 2)),i 35 (.bin .add (t 34) (k (.int .i64 2))),s (.mapUpdate (.ints [.i64,.i64]) (t 32) (t 33) (t 35))]) (.seq (.drawn 0 [i 36 (.mov (t 2)),i 37 (.bin .gtr (t 36) (k (.int .i64 0))),i 38 (.mov (t 37)),p 39 38 (.mov (t 0)),p 40 38 (.nilCheck (t 39)),p 41 38 (.fieldAddr 0 (t 40)),p 42 38 (.load1 (t 41)),p 43 38 (.mov (t 2)),p 44 38 (.bin .sub (t 43) (k (.int .i64 1))),p 45 38 (.idxAddrS 2 (t 42) (t 44)),p 46 38 (.fieldAddr 0 (t 45)),p 47 38 (.load1 (t 46)),p 48 38 (.fieldAddr 0 (t 3)),p 49 38 (.load1 (t 48)),p 50 38 (.bin .eql (t 47) (t 49)),i 51 (.pick (t 38) (t 50) (k (.bool false)))]) (.cond (t 51) (.ops [i 52 (.mov (t 0)),i 53 (.mov (t 2)),i 54 (.bin .add (t 53) (k (.int .i64 1))),i 55 (.mov (t 2)),i 56 (.bin .add (t 55) (k (.int .i64 2))),i 57 (.call .any (.func 55) [(t 52),(t 54),(t 56),(k (.int .i64 1152921504606846976))])]) .skip))))) (.ops [i 58 (.bin .add (t 24) (k (.int .i64 1))),i 24 (.mov (t 58))]))))
def c54:zAc:=(.seq (.ops [i 4 (.mov (t 0)),i 5 (.nilCheck (t 4)),i 6 (.fieldAddr 0 (t 5)),i 7 (.load1 (t 6)),i 8 (.call .any (.func 69) [(t 7),(.func 70)])]) (.seq (.ops [i 9 (.mov (t 0)),i 10 (.mov (t 0)),i 11 (.nilCheck (t 10)),i 12 (.fieldAddr 0 (t 11)),i 13 (.load1 (t 12)),i 14 (.lenSlice (t 13)),i 15 (.bin .add (t 14) (k (.int .i64 2))),i 16 (.makeSlice 1 24 [(.slice none 0 0)] (t 15) (t 15)),i 17 (.nilCheck (t 9)),i 18 (.fieldAddr 3 (t 17)),s (.store 1 (t 18) (t 16))]) (.seq (.ops [i 19 (.mov (t 0)),i 20 (.nilCheck (t 19)),i 21 (.fieldAddr 0 (t 20)),i 22 (.load1 (t 21)),i 23 (.lenSlice (t 22)),i 24 (.mov (k (.int .i64 0)))]) (.block 0 (.loop l54_1)))))
def a54:zAf:=⟨59,[],c54⟩
theorem n54:a54.ntmps=59:=id rfl
theorem r54:a54.results=[]:=rfl
theorem b54:a54.body=c54:=rfl
def c55:zAc:=(.seq (.ops [i 8 (.mov (k (.int .i64 0)))]) (.seq (.ops [i 10 (.mov (t 0)),i 11 (.nilCheck (t 10)),i 12 (.fieldAddr 2 (t 11)),i 13 (.load1 (t 12)),i 14 (.lenSlice (t 13)),i 9 (.mov (t 14))]) (.seq (.ops [i 15 (.mov (t 0)),i 16 (.mov (t 0)),i 17 (.nilCheck (t 16)),i 18 (.fieldAddr 2 (t 17)),i 19 (.load1 (t 18)),i 20 (.mov (t 2)),i 21 (.mov (t 3)),i 22 (.build [(.int .i64 0),(.int .i64 0)] [(0,(1,(t 20))),(1,(1,(t 21)))]),i 23 (.mov (t 1)),i 24 (.build [(.int .i64 0),(.int .i64 0)] [(0,(1,(t 23)))]),i 25 (.buildSlice 2 [(.int .i64 0),(.int .i64 0),(.int .i64 0),(.int .i64 0)] [(0,(2,(t 22))),(2,(2,(t 24)))]),i 26 (.append 2 16 false (t 19) (t 25)),i 27 (.nilCheck (t 15)),i 28 (.fieldAddr 2 (t 27)),s (.store 1 (t 28) (t 26))]) (.seq (.drawn 2 [i 34 (.mov (t 0)),i 35 (.nilCheck (t 34)),i 36 (.fieldAddr 3 (t 35)),⟨(some 37),none,(.load1 (t 36)),none,[0,1]⟩,i 38 (.mov (t 1)),i 39 (.idxAddrS 1 (t 37) (t 38)),⟨(some 40),none,(.load1 (t 39)),none,[0,1]⟩,i 41 (.mov (t 9)),⟨(some 42),none,(.buildSlice 1 [(.int .i64 0)] [(0,(1,(t 41)))]),(some 0),[]⟩,⟨(some 43),none,(.appendL 1 8 false (t 40) (t 42)),(some 1),[]⟩,i 29 (.mov (t 0)),i 30 (.nilCheck (t 29)),i 31 (.fieldAddr 3 (t 30)),⟨(some 32),none,(.load1 (t 31)),none,[0,1]⟩,i 33 (.mov (t 1)),i 44 (.idxAddrS 1 (t 32) (t 33)),s (.store 1 (t 44) (t 43))]) (.seq (.drawn 2 [i 50 (.mov (t 0)),i 51 (.nilCheck (t 50)),i 52 (.fieldAddr 3 (t 51)),⟨(some 53),none,(.load1 (t 52)),none,[0,1]⟩,i 54 (.mov (t 2)),i 55 (.idxAddrS 1 (t 53) (t 54)),⟨(some 56),none,(.load1 (t 55)),none,[0,1]⟩,i 57 (.mov (t 9)),i 58 (.bin .add (t 57) (k (.int .i64 1))),⟨(some 59),none,(.buildSlice 1 [(.int .i64 0)] [(0,(1,(t 58)))]),(some 0),[]⟩,⟨(some 60),none,(.appendL 1 8 false (t 56) (t 59)),(some 1),[]⟩,i 45 (.mov (t 0)),i 46 (.nilCheck (t 45)),i 47 (.fieldAddr 3 (t 46)),⟨(some 48),none,(.load1 (t 47)),none,[0,1]⟩,i 49 (.mov (t 2)),i 61 (.idxAddrS 1 (t 48) (t 49)),s (.store 1 (t 61) (t 60))]) (.seq (.ops [i 62 (.mov (t 9)),i 8 (.mov (t 62))]) .ret))))))
def a55:zAf:=⟨63,[(.tmp 8)],c55⟩
theorem n55:a55.ntmps=63:=id rfl
theorem r55:a55.results=[(.tmp 8)]:=rfl
theorem b55:a55.body=c55:=rfl
def l56_1:zAc:=(.seq (.ops [i 28 (.bin .lss (t 27) (t 26))]) (.seq (.cond (t 28) .skip (.exit 0)) (.seq (.block 1 (.seq (.ops [i 29 (.mov (t 27)),i 30 (.idxAddrS 2 (t 25) (t 27)),i 31 (.loadN 2 (t 30)),i 3 (.alloc [(.int .i64 0),(.int .i64 0)]),i 2 (.mov (t 29)),s (.store 2 (t 3) (t 31))]) (.drawn 0 [i 32 (.mov (t 0)),i 33 (.nilCheck (t 32)),i 34 (.fieldAddr 4 (t 33)),i 35 (.load1 (t 34)),i 36 (.mov (t 2)),i 37 (.bin .add (t 36) (k (.int .i64 2))),i 38 (.fieldAddr 1 (t 3)),i 39 (.load1 (t 38)),i 40 (.bin .add (t 39) (k (.int .i64 1))),i 41 (.idxAddrS 1 (t 35) (t 37)),s (.store 1 (t 41) (t 40))]))) (.ops [i 42 (.bin .add (t 27) (k (.int .i64 1))),i 27 (.mov (t 42))]))))
def c56:zAc:=(.seq (.ops [i 4 (.mov (t 0)),i 5 (.mov (t 0)),i 6 (.nilCheck (t 5)),i 7 (.fieldAddr 3 (t 6)),i 8 (.load1 (t 7)),i 9 (.lenSlice (t 8)),i 10 (.makeSlice 1 8 [(.int .i64 0)] (t 9) (t 9)),i 11 (.nilCheck (t 4)),i 12 (.fieldAddr 5 (t 11)),s (.store 1 (t 12) (t 10))]) (.seq (.ops [i 13 (.mov (t 0)),i 14 (.mov (t 0)),i 15 (.nilCheck (t 14)),i 16 (.fieldAddr 3 (t 15)),i 17 (.load1 (t 16)),i 18 (.lenSlice (t 17)),i 19 (.makeSlice 1 8 [(.int .i64 0)] (t 18) (t 18)),i 20 (.nilCheck (t 13)),i 21 (.fieldAddr 4 (t 20)),s (.store 1 (t 21) (t 19))]) (.seq (.seq (.ops [i 22 (.mov (t 0)),i 23 (.nilCheck (t 22)),i 24 (.fieldAddr 0 (t 23)),i 25 (.load1 (t 24)),i 26 (.lenSlice (t 25)),i 27 (.mov (k (.int .i64 0)))]) (.block 0 (.loop l56_1))) (.ops [i 43 (.mov (t 0)),i 44 (.nilCheck (t 43)),i 45 (.fieldAddr 4 (t 44)),i 46 (.load1 (t 45)),i 47 (.idxAddrS 1 (t 46) (k (.int .i64 1))),s (.store 1 (t 47) (k (.int .i64 1051898401)))]))))
def a56:zAf:=⟨48,[],c56⟩
theorem n56:a56.ntmps=48:=id rfl
theorem r56:a56.results=[]:=rfl
theorem b56:a56.body=c56:=rfl
def l57_1:zAc:=(.seq (.ops [i 50 (.bin .lss (t 49) (t 48))]) (.seq (.cond (t 50) .skip (.exit 2)) (.seq (.block 3 (.seq (.ops [i 51 (.idxAddrS 1 (t 47) (t 49)),i 52 (.load1 (t 51)),i 6 (.mov (t 52))]) (.seq (.ops [i 53 (.mov (t 0)),i 54 (.nilCheck (t 53)),i 55 (.fieldAddr 2 (t 54)),i 56 (.load1 (t 55)),i 57 (.mov (t 6)),i 58 (.idxAddrS 2 (t 56) (t 57)),i 59 (.loadN 2 (t 58)),i 7 (.alloc [(.int .i64 0),(.int .i64 0)]),s (.store 2 (t 7) (t 59))]) (.seq (.drawn 0 [i 60 (.fieldAddr 1 (t 7)),i 61 (.load1 (t 60)),i 62 (.bin .gtr (t 61) (k (.int .i64 0))),i 63 (.mov (t 62)),p 64 63 (.mov (t 0)),p 65 63 (.nilCheck (t 64)),p 66 63 (.fieldAddr 4 (t 65)),p 67 63 (.load1 (t 66)),p 68 63 (.fieldAddr 0 (t 7)),p 69 63 (.load1 (t 68)),p 70 63 (.idxAddrS 1 (t 67) (t 69)),p 71 63 (.load1 (t 70)),p 72 63 (.bin .lss (t 71) (k (.int .i64 0))),i 73 (.pick (t 63) (t 72) (k (.bool false)))]) (.cond (t 73) (.seq (.drawn 0 [i 74 (.mov (t 0)),i 75 (.nilCheck (t 74)),i 76 (.fieldAddr 4 (t 75)),i 77 (.load1 (t 76)),i 78 (.fieldAddr 0 (t 7)),i 79 (.load1 (t 78)),i 80 (.mov (t 0)),i 81 (.nilCheck (t 80)),i 82 (.fieldAddr 4 (t 81)),i 83 (.load1 (t 82)),i 84 (.mov (t 4)),i 85 (.idxAddrS 1 (t 83) (t 84)),i 86 (.load1 (t 85)),i 87 (.bin .add (t 86) (k (.int .i64 1))),i 88 (.idxAddrS 1 (t 77) (t 79)),s (.store 1 (t 88) (t 87))]) (.ops [i 89 (.mov (t 3)),i 90 (.fieldAddr 0 (t 7)),i 91 (.load1 (t 90)),i 92 (.buildSlice 1 [(.int .i64 0)] [(0,(1,(t 91)))]),i 93 (.append 1 8 false (t 89) (t 92)),i 3 (.mov (t 93))])) .skip))))) (.ops [i 94 (.bin .add (t 49) (k (.int .i64 1))),i 49 (.mov (t 94))]))))
def l57_2:zAc:=(.seq (.seq (.ops [i 33 (.mov (t 3)),i 34 (.lenSlice (t 33)),i 35 (.bin .gtr (t 34) (k (.int .i64 0)))]) (.cond (t 35) .skip (.exit 0))) (.block 1 (.seq (.ops [i 36 (.mov (t 3)),i 37 (.idxAddrS 1 (t 36) (k (.int .i64 0))),i 38 (.load1 (t 37)),i 4 (.mov (t 38))]) (.seq (.ops [i 39 (.mov (t 3)),i 40 (.sliceS 1 (t 39) (some (k (.int .i64 1))) none none),i 3 (.mov (t 40))]) (.seq (.ops [i 41 (.mov (t 0)),i 42 (.nilCheck (t 41)),i 43 (.fieldAddr 3 (t 42)),i 44 (.load1 (t 43)),i 45 (.mov (t 4)),i 46 (.idxAddrS 1 (t 44) (t 45)),i 47 (.load1 (t 46)),i 48 (.lenSlice (t 47)),i 49 (.mov (k (.int .i64 0)))]) (.block 2 (.loop l57_1)))))))
def c57:zAc:=(.seq (.ops [i 2 (.mov (k (.bool false)))]) (.seq (.ops [i 8 (.mov (t 0)),i 9 (.mov (t 0)),i 10 (.nilCheck (t 9)),i 11 (.fieldAddr 3 (t 10)),i 12 (.load1 (t 11)),i 13 (.lenSlice (t 12)),i 14 (.makeSlice 1 8 [(.int .i64 0)] (t 13) (t 13)),i 15 (.nilCheck (t 8)),i 16 (.fieldAddr 5 (t 15)),s (.store 1 (t 16) (t 14))]) (.seq (.ops [i 17 (.mov (t 0)),i 18 (.buildSlice 1 [(.int .i64 0)] [(0,(1,(k (.int .i64 (-1)))))]),i 19 (.mov (t 0)),i 20 (.nilCheck (t 19)),i 21 (.fieldAddr 3 (t 20)),i 22 (.load1 (t 21)),i 23 (.lenSlice (t 22)),i 24 (.call .any (.func 71) [(t 18),(t 23)]),i 25 (.nilCheck (t 17)),i 26 (.fieldAddr 4 (t 25)),s (.store 1 (t 26) (t 24))]) (.seq (.ops [i 27 (.mov (t 0)),i 28 (.nilCheck (t 27)),i 29 (.fieldAddr 4 (t 28)),i 30 (.load1 (t 29)),i 31 (.idxAddrS 1 (t 30) (k (.int .i64 0))),s (.store 1 (t 31) (k (.int .i64 0)))]) (.seq (.ops [i 32 (.buildSlice 1 [(.int .i64 0)] [(0,(1,(k (.int .i64 0))))]),i 3 (.mov (t 32))]) (.seq (.block 0 (.loop l57_2)) (.seq (.ops [i 95 (.mov (t 0)),i 96 (.nilCheck (t 95)),i 97 (.fieldAddr 4 (t 96)),i 98 (.load1 (t 97)),i 99 (.idxAddrS 1 (t 98) (k (.int .i64 1))),i 100 (.load1 (t 99)),i 101 (.bin .geq (t 100) (k (.int .i64 0))),i 2 (.mov (t 101))]) .ret)))))))
def a57:zAf:=⟨102,[(.tmp 2)],c57⟩
theorem n57:a57.ntmps=102:=id rfl
theorem r57:a57.results=[(.tmp 2)]:=rfl
theorem b57:a57.body=c57:=rfl
def l58_1:zAc:=(.seq (.seq (.drawn 0 [i 17 (.mov (t 0)),i 18 (.nilCheck (t 17)),i 19 (.fieldAddr 5 (t 18)),i 20 (.load1 (t 19)),i 21 (.mov (t 1)),i 22 (.idxAddrS 1 (t 20) (t 21)),i 23 (.load1 (t 22)),i 24 (.mov (t 0)),i 25 (.nilCheck (t 24)),i 26 (.fieldAddr 3 (t 25)),i 27 (.load1 (t 26)),i 28 (.mov (t 1)),i 29 (.idxAddrS 1 (t 27) (t 28)),i 30 (.load1 (t 29)),i 31 (.lenSlice (t 30)),i 32 (.bin .lss (t 23) (t 31))]) (.cond (t 32) .skip (.exit 0))) (.block 1 (.seq (.drawn 0 [i 33 (.mov (t 0)),i 34 (.nilCheck (t 33)),i 35 (.fieldAddr 3 (t 34)),i 36 (.load1 (t 35)),i 37 (.mov (t 1)),i 38 (.idxAddrS 1 (t 36) (t 37)),i 39 (.load1 (t 38)),i 40 (.mov (t 0)),i 41 (.nilCheck (t 40)),i 42 (.fieldAddr 5 (t 41)),i 43 (.load1 (t 42)),i 44 (.mov (t 1)),i 45 (.idxAddrS 1 (t 43) (t 44)),i 46 (.load1 (t 45)),i 47 (.idxAddrS 1 (t 39) (t 46)),i 48 (.load1 (t 47)),i 9 (.mov (t 48))]) (.seq (.ops [i 49 (.mov (t 0)),i 50 (.nilCheck (t 49)),i 51 (.fieldAddr 2 (t 50)),i 52 (.load1 (t 51)),i 53 (.mov (t 9)),i 54 (.idxAddrS 2 (t 52) (t 53)),i 55 (.loadN 2 (t 54)),i 10 (.alloc [(.int .i64 0),(.int .i64 0)]),s (.store 2 (t 10) (t 55))]) (.seq (.seq (.drawn 0 [i 56 (.fieldAddr 1 (t 10)),i 57 (.load1 (t 56)),i 58 (.bin .gtr (t 57) (k (.int .i64 0))),i 59 (.mov (t 58)),p 60 59 (.mov (t 0)),p 61 59 (.nilCheck (t 60)),p 62 59 (.fieldAddr 4 (t 61)),p 63 59 (.load1 (t 62)),p 64 59 (.fieldAddr 0 (t 10)),p 65 59 (.load1 (t 64)),p 66 59 (.idxAddrS 1 (t 63) (t 65)),p 67 59 (.load1 (t 66)),p 68 59 (.mov (t 0)),p 69 59 (.nilCheck (t 68)),p 70 59 (.fieldAddr 4 (t 69)),p 71 59 (.load1 (t 70)),p 72 59 (.mov (t 1)),p 73 59 (.idxAddrS 1 (t 71) (t 72)),p 74 59 (.load1 (t 73)),p 75 59 (.bin .gtr (t 67) (t 74)),i 76 (.pick (t 59) (t 75) (k (.bool false)))]) (.cond (t 76) (.seq (.ops [i 77 (.mov (t 7)),i 78 (.fieldAddr 0 (t 10)),i 79 (.load1 (t 78)),i 80 (.mov (t 2)),i 81 (.mov (t 8)),i 82 (.bin .sub (t 80) (t 81)),i 83 (.fieldAddr 1 (t 10)),i 84 (.load1 (t 83)),i 85 (.minmax false [(t 82),(t 84)]),i 86 (.call .any (t 77) [(t 79),(t 85)]),i 11 (.mov (t 86))]) (.seq (.ops [i 87 (.mov (t 0)),i 88 (.nilCheck (t 87)),i 89 (.fieldAddr 2 (t 88)),i 90 (.load1 (t 89)),i 91 (.mov (t 9)),i 92 (.idxAddrS 2 (t 90) (t 91)),i 93 (.fieldAddr 1 (t 92)),i 94 (.load1 (t 93)),i 95 (.mov (t 11)),i 96 (.bin .sub (t 94) (t 95)),i 97 (.idxAddrS 2 (t 90) (t 91)),i 98 (.fieldAddr 1 (t 97)),s (.store 1 (t 98) (t 96))]) (.seq (.ops [i 99 (.mov (t 0)),i 100 (.nilCheck (t 99)),i 101 (.fieldAddr 2 (t 100)),i 102 (.load1 (t 101)),i 103 (.mov (t 9)),i 104 (.bin .xor (t 103) (k (.int .i64 1))),i 105 (.idxAddrS 2 (t 102) (t 104)),i 106 (.fieldAddr 1 (t 105)),i 107 (.load1 (t 106)),i 108 (.mov (t 11)),i 109 (.bin .add (t 107) (t 108)),i 110 (.idxAddrS 2 (t 102) (t 104)),i 111 (.fieldAddr 1 (t 110)),s (.store 1 (t 111) (t 109))]) (.seq (.ops [i 112 (.mov (t 8)),i 113 (.mov (t 11)),i 114 (.bin .add (t 112) (t 113)),i 8 (.mov (t 114))]) (.seq (.ops [i 115 (.mov (t 8)),i 116 (.mov (t 2)),i 117 (.bin .eql (t 115) (t 116))]) (.cond (t 117) (.seq (.ops [i 118 (.mov (t 8)),i 6 (.mov (t 118))]) .ret) .skip)))))) .skip)) (.ops [i 119 (.mov (t 0)),i 120 (.nilCheck (t 119)),i 121 (.fieldAddr 5 (t 120)),i 122 (.load1 (t 121)),i 123 (.mov (t 1)),i 124 (.idxAddrS 1 (t 122) (t 123)),i 125 (.load1 (t 124)),i 126 (.bin .add (t 125) (k (.int .i64 1))),i 127 (.idxAddrS 1 (t 122) (t 123)),s (.store 1 (t 127) (t 126))]))))))
def c58:zAc:=(.seq (.ops [i 6 (.mov (k (.int .i64 0)))]) (.seq (.seq (.ops [i 12 (.mov (t 1)),i 13 (.bin .eql (t 12) (k (.int .i64 1)))]) (.cond (t 13) (.seq (.ops [i 14 (.mov (t 2)),i 6 (.mov (t 14))]) .ret) .skip)) (.seq (.ops [i 15 (.mov (t 0)),i 16 (.makeFunc 58 [(t 15)] []),i 7 (.mov (t 16))]) (.seq (.ops [i 8 (.mov (k (.int .i64 0)))]) (.seq (.block 0 (.loop l58_1)) (.seq (.ops [i 128 (.mov (t 8)),i 6 (.mov (t 128))]) .ret))))))
def a58:zAf:=⟨129,[(.tmp 6)],c58⟩
theorem n58:a58.ntmps=129:=id rfl
theorem r58:a58.results=[(.tmp 6)]:=rfl
theorem b58:a58.body=c58:=rfl
def c61:zAc:=(.seq (.ops [i 2 (.box (t 0)),i 4 (.alloc [(.int .i64 0),(.int .i64 0)]),i 5 (.mov (k (.bool false)))]) (.seq (.ops [i 7 (.mov (t 1)),i 8 (.bin .mul (k (.int .i64 1440)) (t 7)),i 9 (.fieldAddr 3 (t 2)),i 10 (.load1 (t 9)),i 11 (.bin .add (t 8) (t 10)),i 6 (.mov (t 11))]) (.seq (.seq (.ops [i 12 (.fieldAddr 7 (t 2)),i 13 (.load1 (t 12)),i 14 (.mov (t 1)),i 15 (.bin .rem (t 14) (k (.int .i64 7))),i 16 (.bin .shr (t 13) (t 15)),i 17 (.bin .and (t 16) (k (.int .u8 1))),i 18 (.bin .eql (t 17) (k (.int .u8 0))),i 19 (.mov (t 18)),q 20 19 (.mov (t 6)),q 21 19 (.fieldAddr 5 (t 2)),q 22 19 (.load1 (t 21)),q 23 19 (.bin .sub (t 20) (t 22)),q 24 19 (.bin .lss (t 23) (k (.int .i64 0))),i 25 (.pick (t 19) (k (.bool true)) (t 24)),i 26 (.mov (t 25)),q 27 26 (.mov (t 6)),q 28 26 (.fieldAddr 4 (t 2)),q 29 26 (.load1 (t 28)),q 30 26 (.bin .add (t 27) (t 29)),q 31 26 (.bin .gtr (t 30) (k (.int .i64 1051898399))),i 32 (.pick (t 26) (k (.bool true)) (t 31))]) (.cond (t 32) (.seq (.ops [i 33 (.build [(.int .i64 0),(.int .i64 0)] []),s (.store 2 (t 4) (t 33)),i 5 (.mov (k (.bool false)))]) .ret) .skip)) (.seq (.ops [i 34 (.mov (t 6)),i 35 (.mov (t 6)),i 36 (.fieldAddr 4 (t 2)),i 37 (.load1 (t 36)),i 38 (.bin .add (t 35) (t 37)),i 39 (.build [(.int .i64 0),(.int .i64 0)] [(0,(1,(t 34))),(1,(1,(t 38)))]),s (.store 2 (t 4) (t 39)),i 5 (.mov (k (.bool true)))]) .ret))))
def a61:zAf:=⟨40,[(.cellN 2 4),(.tmp 5)],c61⟩
theorem n61:a61.ntmps=40:=id rfl
theorem r61:a61.results=[(.cellN 2 4),(.tmp 5)]:=rfl
theorem b61:a61.body=c61:=rfl
def l62_1:zAc:=(.seq (.ops [i 9 (.bin .lss (t 8) (t 7))]) (.seq (.cond (t 9) .skip (.exit 0)) (.seq (.block 1 (.seq (.ops [i 10 (.mov (t 8)),i 5 (.mov (t 10))]) (.seq (.ops [i 11 (.mov (t 1)),i 12 (.mov (t 0)),i 13 (.mov (t 5)),i 14 (.idxAddrS 1 (t 12) (t 13)),i 15 (.load1 (t 14)),i 16 (.bin .eql (t 11) (t 15))]) (.cond (t 16) (.seq (.ops [i 17 (.mov (t 5)),i 4 (.mov (t 17))]) .ret) .skip)))) (.ops [i 18 (.bin .add (t 8) (k (.int .i64 1))),i 8 (.mov (t 18))]))))
def c62:zAc:=(.seq (.ops [i 4 (.mov (k (.int .i64 0)))]) (.seq (.seq (.ops [i 6 (.mov (t 0)),i 7 (.lenSlice (t 6)),i 8 (.mov (k (.int .i64 0)))]) (.block 0 (.loop l62_1))) (.seq (.ops [i 4 (.mov (k (.int .i64 (-1))))]) .ret)))
def a62:zAf:=⟨19,[(.tmp 4)],c62⟩
theorem n62:a62.ntmps=19:=id rfl
theorem r62:a62.results=[(.tmp 4)]:=rfl
theorem b62:a62.body=c62:=rfl
def c63:zAc:=(.seq (.ops [i 2 (.mov (k (.bool false)))]) (.seq (.ops [i 3 (.mov (t 0)),i 4 (.mov (t 0)),i 5 (.bin .neq (t 3) (t 4)),i 2 (.mov (t 5))]) .ret))
def a63:zAf:=⟨6,[(.tmp 2)],c63⟩
theorem n63:a63.ntmps=6:=id rfl
theorem r63:a63.results=[(.tmp 2)]:=rfl
theorem b63:a63.body=c63:=rfl
def c70:zAc:=(.seq (.ops [i 2 (.box (t 0)),i 3 (.box (t 1)),i 4 (.mov (k (.int .i64 0)))]) (.seq (.drawn 1 [i 5 (.fieldAddr 0 (t 2)),⟨(some 6),none,(.load1 (t 5)),none,[0]⟩,i 7 (.fieldAddr 0 (t 3)),⟨(some 8),none,(.load1 (t 7)),none,[0]⟩,⟨(some 9),none,(.call .pure (.func 46) [(t 6),(t 8)]),none,[0]⟩,i 10 (.fieldAddr 1 (t 2)),⟨(some 11),none,(.load1 (t 10)),none,[0]⟩,i 12 (.fieldAddr 1 (t 3)),⟨(some 13),none,(.load1 (t 12)),none,[0]⟩,⟨(some 14),none,(.call .pure (.func 46) [(t 11),(t 13)]),none,[0]⟩,⟨(some 15),none,(.buildSlice 2 [(.int .i64 0),(.int .i64 0)] [(0,(1,(t 9))),(1,(1,(t 14)))]),(some 0),[]⟩,i 16 (.call .pure (.func 45) [(t 15)]),i 4 (.mov (t 16))]) .ret))
def a70:zAf:=⟨17,[(.tmp 4)],c70⟩
theorem n70:a70.ntmps=17:=id rfl
theorem r70:a70.results=[(.tmp 4)]:=rfl
theorem b70:a70.body=c70:=rfl
def l71_1:zAc:=(.seq (.seq (.ops [i 34 (.mov (t 8)),i 35 (.mov (t 7)),i 36 (.lenSlice (t 35)),i 37 (.bin .lss (t 34) (t 36))]) (.cond (t 37) .skip (.exit 0))) (.block 1 (.drawn 0 [i 38 (.mov (t 8)),i 39 (.mov (t 7)),i 40 (.mov (t 8)),i 41 (.sliceS 1 (t 39) (some (t 40)) none none),i 42 (.mov (t 7)),i 43 (.mov (t 8)),i 44 (.sliceS 1 (t 42) none (some (t 43)) none),i 45 (.copy 1 (t 41) (t 44)),i 46 (.bin .add (t 38) (t 45)),i 8 (.mov (t 46))])))
def c71:zAc:=(.seq (.ops [i 4 (.mov (k (.slice none 0 0)))]) (.seq (.seq (.ops [i 9 (.mov (t 1)),i 10 (.bin .lss (t 9) (k (.int .i64 0)))]) (.cond (t 10) (.ops [i 11 (.die (k (.string ⟨#[99,97,110,110,111,116,32,98,101,32,110,101,103,97,116,105,118,101]⟩))),s (.die (t 11))]) .skip)) (.seq (.ops [i 13 (.mov (t 0)),i 14 (.lenSlice (t 13)),i 15 (.conv .u64 (t 14)),i 16 (.mov (t 1)),i 17 (.conv .u64 (t 16)),i 18 (.call .any (.func 91) [(t 15),(t 17)]),i 12 (.mov (t 18)),i 19 (.extract 0 (t 12)),i 20 (.extract 1 (t 12)),i 5 (.mov (t 19)),i 6 (.mov (t 20))]) (.seq (.seq (.ops [i 21 (.mov (t 5)),i 22 (.bin .gtr (t 21) (k (.int .u64 0))),i 23 (.mov (t 22)),q 24 23 (.mov (t 6)),q 25 23 (.bin .gtr (t 24) (k (.int .u64 9223372036854775807))),i 26 (.pick (t 23) (k (.bool true)) (t 25))]) (.cond (t 26) (.ops [i 27 (.die (k (.string ⟨#[116,104,101,32,114,101,115,117,108,116,32,111,102,32,40,108,101,110,40,120,41,32,42,32,99,111,117,110,116,41,32,111,118,101,114,102,108,111,119,115]⟩))),s (.die (t 27))]) .skip)) (.seq (.ops [i 28 (.mov (t 6)),i 29 (.conv .i64 (t 28)),i 30 (.makeSlice 1 8 [(.int .i64 0)] (t 29) (t 29)),i 7 (.mov (t 30))]) (.seq (.ops [i 31 (.mov (t 7)),i 32 (.mov (t 0)),i 33 (.copy 1 (t 31) (t 32)),i 8 (.mov (t 33))]) (.seq (.block 0 (.loop l71_1)) (.seq (.ops [i 47 (.mov (t 7)),i 4 (.mov (t 47))]) .ret))))))))
def a71:zAf:=⟨48,[(.tmp 4)],c71⟩
theorem n71:a71.ntmps=48:=id rfl
theorem r71:a71.results=[(.tmp 4)]:=rfl
theorem b71:a71.body=c71:=rfl
def c80:zAc:=(.seq (.ops [i 2 (.mov (k (.int .i64 0)))]) (.seq (.seq (.ops [i 3 (.mov (t 0)),i 4 (.bin .geq (t 3) (k (.int .u32 65536)))]) (.cond (t 4) (.seq (.ops [i 5 (.mov (t 0)),i 6 (.bin .shr (t 5) (k (.int .u64 16))),i 0 (.mov (t 6))]) (.ops [i 2 (.mov (k (.int .i64 16)))])) .skip)) (.seq (.seq (.ops [i 7 (.mov (t 0)),i 8 (.bin .geq (t 7) (k (.int .u32 256)))]) (.cond (t 8) (.seq (.ops [i 9 (.mov (t 0)),i 10 (.bin .shr (t 9) (k (.int .u64 8))),i 0 (.mov (t 10))]) (.ops [i 11 (.mov (t 2)),i 12 (.bin .add (t 11) (k (.int .i64 8))),i 2 (.mov (t 12))])) .skip)) (.seq (.ops [i 13 (.mov (t 2)),i 14 (.mov (t 0)),i 15 (.conv .u8 (t 14)),i 16 (.idxStr (k (.string ⟨#[0,1,2,2,3,3,3,3,4,4,4,4,4,4,4,4,5,5,5,5,5,5,5,5,5,5,5,5,5,5,5,5,6,6,6,6,6,6,6,6,6,6,6,6,6,6,6,6,6,6,6,6,6,6,6,6,6,6,6,6,6,6,6,6,7,7,7,7,7,7,7,7,7,7,7,7,7,7,7,7,7,7,7,7,7,7,7,7,7,7,7,7,7,7,7,7,7,7,7,7,7,7,7,7,7,7,7,7,7,7,7,7,7,7,7,7,7,7,7,7,7,7,7,7,7,7,7,7,8,8,8,8,8,8,8,8,8,8,8,8,8,8,8,8,8,8,8,8,8,8,8,8,8,8,8,8,8,8,8,8,8,8,8,8,8,8,8,8,8,8,8,8,8,8,8,8,8,8,8,8,8,8,8,8,8,8,8,8,8,8,8,8,8,8,8,8,8,8,8,8,8,8,8,8,8,8,8,8,8,8,8,8,8,8,8,8,8,8,8,8,8,8,8,8,8,8,8,8,8,8,8,8,8,8,8,8,8,8,8,8,8,8,8,8,8,8,8,8,8,8,8,8,8,8,8,8]⟩)) (t 15)),i 17 (.conv .i64 (t 16)),i 18 (.bin .add (t 13) (t 17)),i 2 (.mov (t 18))]) .ret))))
def a80:zAf:=⟨19,[(.tmp 2)],c80⟩
def c91:zAc:=(.seq (.ops [i 4 (.mov (k (.int .u64 0))),i 5 (.mov (k (.int .u64 0)))]) (.seq (.cond (k (.bool false)) (.seq (.ops [i 11 (.mov (t 0)),i 12 (.conv .u32 (t 11)),i 13 (.mov (t 1)),i 14 (.conv .u32 (t 13)),i 15 (.call .any (.func 108) [(t 12),(t 14)]),i 10 (.mov (t 15)),i 16 (.extract 0 (t 10)),i 17 (.extract 1 (t 10)),i 6 (.mov (t 16)),i 7 (.mov (t 17))]) (.seq (.ops [i 18 (.mov (t 6)),i 19 (.conv .u64 (t 18)),i 20 (.mov (t 7)),i 21 (.conv .u64 (t 20)),i 4 (.mov (t 19)),i 5 (.mov (t 21))]) .ret)) .skip) (.seq (.ops [i 23 (.mov (t 0)),i 24 (.mov (t 1)),i 25 (.call .any (.func 109) [(t 23),(t 24)]),i 22 (.mov (t 25)),i 26 (.extract 0 (t 22)),i 27 (.extract 1 (t 22)),i 8 (.mov (t 26)),i 9 (.mov (t 27))]) (.seq (.ops [i 28 (.mov (t 8)),i 29 (.mov (t 9)),i 4 (.mov (t 28)),i 5 (.mov (t 29))]) .ret))))
def a91:zAf:=⟨30,[(.tmp 4),(.tmp 5)],c91⟩
theorem n91:a91.ntmps=30:=id rfl
theorem r91:a91.results=[(.tmp 4),(.tmp 5)]:=rfl
theorem b91:a91.body=c91:=rfl
def c108:zAc:=(.seq (.ops [i 4 (.mov (k (.int .u32 0))),i 5 (.mov (k (.int .u32 0)))]) (.seq (.ops [i 7 (.mov (t 0)),i 8 (.conv .u64 (t 7)),i 9 (.mov (t 1)),i 10 (.conv .u64 (t 9)),i 11 (.bin .mul (t 8) (t 10)),i 6 (.mov (t 11))]) (.seq (.ops [i 12 (.mov (t 6)),i 13 (.bin .shr (t 12) (k (.int .u64 32))),i 14 (.conv .u32 (t 13)),i 15 (.mov (t 6)),i 16 (.conv .u32 (t 15)),i 4 (.mov (t 14)),i 5 (.mov (t 16))]) .ret)))
def a108:zAf:=⟨17,[(.tmp 4),(.tmp 5)],c108⟩
def c109:zAc:=(.seq (.ops [i 4 (.mov (k (.int .u64 0))),i 5 (.mov (k (.int .u64 0)))]) (.seq (.ops [i 14 (.mov (t 0)),i 15 (.bin .and (t 14) (k (.int .u64 4294967295))),i 6 (.mov (t 15))]) (.seq (.ops [i 16 (.mov (t 0)),i 17 (.bin .shr (t 16) (k (.int .u64 32))),i 7 (.mov (t 17))]) (.seq (.ops [i 18 (.mov (t 1)),i 19 (.bin .and (t 18) (k (.int .u64 4294967295))),i 8 (.mov (t 19))]) (.seq (.ops [i 20 (.mov (t 1)),i 21 (.bin .shr (t 20) (k (.int .u64 32))),i 9 (.mov (t 21))]) (.seq (.ops [i 22 (.mov (t 6)),i 23 (.mov (t 8)),i 24 (.bin .mul (t 22) (t 23)),i 10 (.mov (t 24))]) (.seq (.ops [i 25 (.mov (t 7)),i 26 (.mov (t 8)),i 27 (.bin .mul (t 25) (t 26)),i 28 (.mov (t 10)),i 29 (.bin .shr (t 28) (k (.int .u64 32))),i 30 (.bin .add (t 27) (t 29)),i 11 (.mov (t 30))]) (.seq (.ops [i 31 (.mov (t 11)),i 32 (.bin .and (t 31) (k (.int .u64 4294967295))),i 12 (.mov (t 32))]) (.seq (.ops [i 33 (.mov (t 11)),i 34 (.bin .shr (t 33) (k (.int .u64 32))),i 13 (.mov (t 34))]) (.seq (.ops [i 35 (.mov (t 12)),i 36 (.mov (t 6)),i 37 (.mov (t 9)),i 38 (.bin .mul (t 36) (t 37)),i 39 (.bin .add (t 35) (t 38)),i 12 (.mov (t 39))]) (.seq (.ops [i 40 (.mov (t 7)),i 41 (.mov (t 9)),i 42 (.bin .mul (t 40) (t 41)),i 43 (.mov (t 13)),i 44 (.bin .add (t 42) (t 43)),i 45 (.mov (t 12)),i 46 (.bin .shr (t 45) (k (.int .u64 32))),i 47 (.bin .add (t 44) (t 46)),i 4 (.mov (t 47))]) (.seq (.ops [i 48 (.mov (t 0)),i 49 (.mov (t 1)),i 50 (.bin .mul (t 48) (t 49)),i 5 (.mov (t 50))]) .ret))))))))))))
def a109:zAf:=⟨51,[(.tmp 4),(.tmp 5)],c109⟩
theorem n109:a109.ntmps=51:=id rfl
theorem r109:a109.results=[(.tmp 4),(.tmp 5)]:=rfl
theorem b109:a109.body=c109:=rfl
def table:List (FuncId×zAf):=[(6,a6),(8,a8),(9,a9),(10,a10),(14,a14),(15,a15),(16,a16),(17,a17),(18,a18),(20,a20),(22,a22),(23,a23),(24,a24),(25,a25),(26,a26),(27,a27),(28,a28),(29,a29),(35,a35),(36,a36),(38,a38),(39,a39),(40,a40),(41,a41),(42,a42),(43,a43),(44,a44),(45,a45),(46,a46),(48,a48),(52,a52),(53,a53),(54,a54),(55,a55),(56,a56),(57,a57),(58,a58),(61,a61),(62,a62),(63,a63),(70,a70),(71,a71),(80,a80),(91,a91),(108,a108),(109,a109),(37,Srt.aSORT zL),(47,Srt.aSORT zC),(59,Srt.aPDQ zL),(60,Srt.aLEN zL),(64,Srt.aPDQ zC),(69,Srt.aSORT zP),(72,Srt.aINS zL),(73,Srt.aHEAP zL),(74,Srt.aBRK zL),(75,Srt.aCHO zL),(76,Srt.aREV zL),(77,Srt.aPIS zL),(78,Srt.aPEQ zL),(79,Srt.aPART zL),(81,Srt.aLEN64 zL),(82,Srt.aINS zC),(83,Srt.aHEAP zC),(84,Srt.aBRK zC),(85,Srt.aCHO zC),(86,Srt.aREV zC),(87,Srt.aPIS zC),(88,Srt.aPEQ zC),(89,Srt.aPART zC),(90,Srt.aPDQ zP),(92,Srt.aSIFT zL),(93,Srt.aNPT zL),(94,Srt.aXOR zL),(95,Srt.aMEDA zL),(96,Srt.aMED zL),(97,Srt.aSIFT zC),(98,Srt.aMEDA zC),(99,Srt.aMED zC),(100,Srt.aINS zP),(101,Srt.aHEAP zP),(102,Srt.aBRK zP),(103,Srt.aCHO zP),(104,Srt.aREV zP),(105,Srt.aPIS zP),(106,Srt.aPEQ zP),(107,Srt.aPART zP),(110,Srt.aORD zL),(111,Srt.aORD zC),(112,Srt.aSIFT zP),(113,Srt.aMEDA zP),(114,Srt.aMED zP),(115,Srt.aORD zP)]
def tr (g:FuncId):Option zAf:=table.lookup g
theorem e6:tr 6=some a6:=rfl
theorem e8:tr 8=some a8:=rfl
theorem e9:tr 9=some a9:=rfl
theorem e10:tr 10=some a10:=rfl
theorem e14:tr 14=some a14:=rfl
theorem e15:tr 15=some a15:=rfl
theorem e16:tr 16=some a16:=rfl
theorem e17:tr 17=some a17:=rfl
theorem e18:tr 18=some a18:=rfl
theorem e20:tr 20=some a20:=rfl
theorem e22:tr 22=some a22:=rfl
theorem e23:tr 23=some a23:=rfl
theorem e24:tr 24=some a24:=rfl
theorem e25:tr 25=some a25:=rfl
theorem e26:tr 26=some a26:=rfl
theorem e27:tr 27=some a27:=rfl
theorem e28:tr 28=some a28:=rfl
theorem e29:tr 29=some a29:=rfl
theorem e35:tr 35=some a35:=rfl
theorem e36:tr 36=some a36:=rfl
theorem e38:tr 38=some a38:=rfl
theorem e39:tr 39=some a39:=rfl
theorem e40:tr 40=some a40:=rfl
theorem e41:tr 41=some a41:=rfl
theorem e42:tr 42=some a42:=rfl
theorem e43:tr 43=some a43:=rfl
theorem e44:tr 44=some a44:=rfl
theorem e45:tr 45=some a45:=rfl
theorem e46:tr 46=some a46:=rfl
theorem e48:tr 48=some a48:=rfl
theorem e52:tr 52=some a52:=rfl
theorem e53:tr 53=some a53:=rfl
theorem e54:tr 54=some a54:=rfl
theorem e55:tr 55=some a55:=rfl
theorem e56:tr 56=some a56:=rfl
theorem e57:tr 57=some a57:=rfl
theorem e58:tr 58=some a58:=rfl
theorem e61:tr 61=some a61:=rfl
theorem e62:tr 62=some a62:=rfl
theorem e63:tr 63=some a63:=rfl
theorem e70:tr 70=some a70:=rfl
theorem e71:tr 71=some a71:=rfl
theorem e91:tr 91=some a91:=rfl
theorem e109:tr 109=some a109:=rfl
end Go.Proofs.Ytohnaffmcjbpoaa.Fn

namespace Go.Proofs.Ytohnaffmcjbpoaa.Fn
open Go.AM Go.AM.Sym Go.Net
class OB where
 on:FuncId→Bool
def orc [OB] (g:FuncId) (as:List Value):Option Value:=if (g=9∨g=999)∧OB.on g=true∧as=[] then some (.bool true) else none
def E [OB]:Env:=⟨tr,pf,orc,true⟩
instance dtE [OB]:DT E E:=⟨rfl⟩
section
variable {mp:Bool} {lim:Nat} {g:FuncId} {as:List Value} {v:Value} {af:zAf} {H:zH} {Q:Value→zH→Prop}
theorem pc [OB] (h:g≠9∧g≠999) (ht:tr g=some af) (hp:pf g=true) (hf:flat 4 v=true) (hr:Ret E af H.length [.code af.body] (zFr as) (H++[]) fun v' _=>v'=v):CallR E mp lim g as H Q=Q v H:=
 CallR_pure (E:=E) (by simp [E,orc,h]) ht hp hf (zRp hr)
theorem po [OB] (h:g≠9∧g≠999) (ht:tr g=some af) (hp:pf g=true) (hf:olds H.length 4 v=true) (hr:Ret E af H.length [.code af.body] (zFr as) (H++[]) fun v' _=>v'=v):CallR E mp lim g as H Q=Q v H:=
 CallR_old (E:=E) (by simp [E,orc,h]) ht hp hf (zRp hr)
theorem runs' [OB] (h:g≠9∧g≠999) (ht:tr g=some af) (hp:pf g=false) (hr:Ret E af lim [.code af.body] (zFr as) (H++[]) Q):CallR E false lim g as H Q:=by
 rw [CallR_run (E:=E) (by simp [E,orc,h]) ht hp rfl];exact zRp hr
theorem CallR.one [OB] (h:CallR E mp lim g as H Q):∃n v H',aCall E n mp lim (.inl g) as H=some [(v,H')]∧Q v H':=by
 obtain ⟨n,L,h1,h2,h3⟩:=h
 obtain ⟨⟨v,H'⟩,rfl⟩:=h2 rfl
 exact ⟨n,v,H',h1,h3 _ (List.mem_singleton.mpr rfl)⟩
theorem awake33_on [OB] (h:OB.on 9=true) (mp:Bool) (lim:Nat) (H:zH) (Q:Value→zH→Prop):CallR E mp lim 9 [] H Q=Q (.bool true) H:=
 CallR_orc (E:=E) (by simp [E,orc,h]) rfl rfl
end
def encL (l:Leg):List Value:=[.int .i64 l.id,.int .i64 l.frm,.int .i64 l.dst,.int .i64 l.dep,.int .i64 l.mins,.int .i64 l.cut,.int .i64 l.grams,.int .u8 l.days]
theorem zLl (l:Leg):(encL l).length=8:=id rfl
theorem zL0 {l:Leg}:(encL l)[0]? = some (.int .i64 l.id):=id rfl
theorem zL1 {l:Leg}:(encL l)[1]? = some (.int .i64 l.frm):=id rfl
theorem zL2 {l:Leg}:(encL l)[2]? = some (.int .i64 l.dst):=id rfl
theorem zL3 {l:Leg}:(encL l)[3]? = some (.int .i64 l.dep):=id rfl
theorem zL4 {l:Leg}:(encL l)[4]? = some (.int .i64 l.mins):=id rfl
theorem zL5 {l:Leg}:(encL l)[5]? = some (.int .i64 l.cut):=id rfl
theorem zL6 {l:Leg}:(encL l)[6]? = some (.int .i64 l.grams):=id rfl
theorem zL7 {l:Leg}:(encL l)[7]? = some (.int .u8 l.days):=id rfl
def encI (n:Int):List Value:=[.int .i64 n]
theorem zIl (n:Int):(encI n).length=1:=id rfl
theorem hget_alive' {H:zH} {i:Nat} {es:List (Value×Value)} (h:zG H i=.map es):i<H.length:=by
 rcases Nat.lt_or_ge i H.length with h1 | h1
 ·exact h1
 ·unfold zG at h
  rw [List.getD_eq_getElem?_getD,List.getElem?_eq_none h1] at h
  cases h
def By (l:Leg):Prop:=0≤l.days∧l.days≤255
theorem _root_.Go.Net.Fine.by {l:Leg} (h:Fine l):By l:=by unfold Fine at h;unfold By;omega
def enc3 (x:Int×Int×Int):List Value:=[.int .i64 x.1,.int .i64 x.2.1,.int .i64 x.2.2]
theorem enc3_len (x:Int×Int×Int):(enc3 x).length=3:=id rfl
def lims (l:Leg):List (Int×Int×Int):=[(l.id,1,999999),(l.frm,1,999999),(l.dst,1,999999),(l.dep,0,1439),(l.mins,1,20160),(l.cut,0,10080),(l.grams,0,1000000000),(l.days,1,127)]
def inB (x:Int×Int×Int):Prop:=x.2.1≤x.1∧x.1≤x.2.2
theorem fine_iff {l:Leg}:Fine l↔(∀j,j<8→inB (gt (lims l) j))∧l.frm≠l.dst:=by
 constructor
 ·intro h
  unfold Fine at h
  refine ⟨fun j hj=>?_,by omega⟩
  match j,hj with
  | 0,_=>show 1≤l.id∧l.id≤999999;omega
  | 1,_=>show 1≤l.frm∧l.frm≤999999;omega
  | 2,_=>show 1≤l.dst∧l.dst≤999999;omega
  | 3,_=>show 0≤l.dep∧l.dep≤1439;omega
  | 4,_=>show 1≤l.mins∧l.mins≤20160;omega
  | 5,_=>show 0≤l.cut∧l.cut≤10080;omega
  | 6,_=>show 0≤l.grams∧l.grams≤1000000000;omega
  | 7,_=>show 1≤l.days∧l.days≤127;omega
 ·rintro ⟨h,hn⟩
  have h0:1≤l.id∧l.id≤999999:=h 0 (by decide)
  have h1:1≤l.frm∧l.frm≤999999:=h 1 (by decide)
  have h2:1≤l.dst∧l.dst≤999999:=h 2 (by decide)
  have h3:0≤l.dep∧l.dep≤1439:=h 3 (by decide)
  have h4:1≤l.mins∧l.mins≤20160:=h 4 (by decide)
  have h5:0≤l.cut∧l.cut≤10080:=h 5 (by decide)
  have h6:0≤l.grams∧l.grams≤1000000000:=h 6 (by decide)
  have h7:1≤l.days∧l.days≤127:=h 7 (by decide)
  unfold Fine;omega
theorem right_ok [OB] {mp:Bool} {lim:Nat} {l:Leg} {H:zH} {Q:Value→zH→Prop} (hd:By l):CallR E mp lim 35 [.agg (encL l).toArray] H Q=Q (.bool (decide (Fine l))) H:=by
 refine pc (by decide) e35 rfl rfl ?_
 rw [b35,c35]
 have wd:IntKind.i64.wrap l.days=l.days:=zWi (by unfold By at hd;omega) (by unfold By at hd;omega)
 simp only [n35,r35,encL,wd,SB,Nat.reduceLT,zCa,aOp,Nat.reduceEqDiff,zB,aUn,reduceCtorEq,zFr,place,zTu,Nat.reduceAdd,Nat.reduceLeDiff,zRe,Int.reduceEq,Int.reduceLT,Int.reduceLE]
 refine zRr (fun i=>8-i) (fun i fr G=>i≤8∧fr 1=.pointer (some ⟨H.length,0,none⟩)∧fr 32=.agg ((lims l).flatMap enc3).toArray∧fr 33=.int .i64 (i:Int)∧zG G H.length=.cells false (encL l)∧∀j,j<i→inB (gt (lims l) j)) 0
  ⟨Nat.zero_le _,(by rfl),by rfl,by rfl,by rw [zHn];rfl,fun j hj=>by omega⟩ ?_
 intro i fr G ⟨hi,g1,g32,g33,gH,hall⟩ hN
 have hl:=zHa gH
 rw [zRc l35_1.eq_1]
 refine zRp ?_
 have gX:=fun X=>(Ext.refl.app (X:=X)).cells gH
 by_cases hlt:i<8
 ·have hw1:IntKind.i64.wrap ((i:Int)+1)=((i+1:Nat):Int):=zWn (by omega)
  have hd:=flat_drop enc3_len (lims l) i hlt
  have h8:(i:Int)<8:=by omega
  have h0:(0:Int)≤(i:Int):=by omega
  have hL:H.length≤G.length:=by omega
  simp only [n35,r35,g1,g32,g33,h8,h0,hd,hw1,enc3,hL,SB,Nat.reduceLT,zCa,aOp,Nat.reduceEqDiff,zB,aUn,reduceCtorEq,zFr,place,zTu,Nat.reduceAdd,Nat.reduceLeDiff,zRe,Int.reduceEq,Int.reduceLT,Int.reduceLE]
  repeat' ((first | refine wantK_dec (fun hw=>?_) (fun hw=>?_) | refine condK_dec (fun hw=>?_) (fun hw=>?_) | refine wantK_any (fun hw=>?_) (fun hw=>?_) | refine condK_any (fun hw=>?_) (fun hw=>?_))<;>(try simp only [hw,n35,r35,g1,g32,g33,h8,h0,hd,hw1,enc3,hL,SB,Nat.reduceLT,zCa,aOp,Nat.reduceEqDiff,zB,aUn,reduceCtorEq,zFr,place,zTu,Nat.reduceAdd,Nat.reduceLeDiff,zRe,Int.reduceEq,Int.reduceLT,Int.reduceLE]))
  ·rw [decide_eq_false]
   rw [fine_iff]
   intro h
   have:=(h.1 i hlt).1
   omega
  ·rw [decide_eq_false]
   rw [fine_iff]
   intro h
   have:=(h.1 i hlt).2
   omega
  ·refine hN (i+1) _ _ ⟨by omega,(by exact g1),(by exact g32),(by rfl),(Ext.refl.app).cells gH,fun j hj=>?_⟩ (by omega)
   rcases Nat.lt_or_ge j i with h | h
   ·exact hall j h
   ·obtain rfl:j=i:=by omega
    unfold inB;omega
 ·obtain rfl:i=8:=by omega
  simp only [n35,r35,g1,g32,g33,gX,encL,SB,Nat.reduceLT,zCa,aOp,Nat.reduceEqDiff,zB,aUn,reduceCtorEq,zFr,place,zTu,Nat.reduceAdd,Nat.reduceLeDiff,zRe,Int.reduceEq,Int.reduceLT,Int.reduceLE]
  congr 1
  rw [Bool.eq_iff_iff]
  simp only [decide_eq_true_eq,fine_iff,Bool.not_eq_true',decide_eq_false_iff_not]
  exact ⟨fun h=>⟨hall,h⟩,fun h=>h.2⟩
def depV:Option (Int×Int)→Value
 | some (a,b)=>.tuple #[.agg #[.int .i64 a,.int .i64 b],.bool true]
 | none=>.tuple #[.agg #[.int .i64 0,.int .i64 0],.bool false]
theorem depV_flat {x:Option (Int×Int)}:flat 4 (depV x)=true:=by cases x<;>rfl
def depOn (l:Leg) (d:Nat):Option (Int×Int):=if goes l d then some (1440*(d:Int)+l.dep,1440*(d:Int)+l.dep+l.mins) else none
theorem bit_ok {a:Int} {k:Nat} (h0:0≤a) (h1:a≤255) (hk:k<7) :
  IntKind.u8.wrap ((BitVec.ofInt 8 (a.fdiv (2 ^ (min k 8))) &&& BitVec.ofInt 8 1).toNat:Int)=((a.toNat / 2 ^ k % 2:Nat):Int):=by
 obtain ⟨n,rfl⟩:∃n:Nat,a=(n:Int):=⟨a.toNat,by omega⟩
 rw [Nat.min_eq_left (by omega),Int.toNat_natCast]
 have e:((n:Int).fdiv (2 ^ k))=((n / 2 ^ k:Nat):Int):=by
  rw [show ((2:Int) ^ k)=((2 ^ k:Nat):Int) by simp,Int.fdiv_eq_ediv_of_nonneg _ (Int.natCast_nonneg _)]
  rfl
 rw [e,BitVec.ofInt_natCast,BitVec.toNat_and]
 have hl:n / 2 ^ k<256:=Nat.lt_of_le_of_lt (Nat.div_le_self _ _) (by omega)
 have e1:(BitVec.ofInt 8 1).toNat=1:=rfl
 rw [e1,BitVec.toNat_ofNat,Nat.mod_eq_of_lt hl,Nat.and_one_is_mod]
 simp only [IntKind.wrap,IntKind.bits,IntKind.signed]
 simp;omega
theorem departure_ok [OB] {mp:Bool} {lim:Nat} {l:Leg} {d:Nat} {H:zH} {Q:Value→zH→Prop} (hl:Fine l) (hd:d<dayN):CallR E mp lim 61 [.agg (encL l).toArray,.int .i64 (d:Int)] H Q=Q (depV (depOn l d)) H:=by
 refine pc (by decide) e61 rfl depV_flat ?_
 rw [b61,c61]
 rw [dayN_eq] at hd
 have hb:=hl.by
 unfold By at hb
 have h7:Int.tmod (d:Int) 7=((d % 7:Nat):Int):=rfl
 have h7':¬(((d % 7:Nat):Int)<0):=by omega
 have hbit:=bit_ok (a:=l.days) (k:=d % 7) hb.1 hb.2 (by omega)
 have hF:=hl
 unfold Fine at hF
 have w1:IntKind.i64.wrap (1440*(d:Int))=1440*(d:Int):=zWi (by omega) (by omega)
 have w2:IntKind.i64.wrap (1440*(d:Int)+l.dep)=1440*(d:Int)+l.dep:=zWi (by omega) (by omega)
 have w3:IntKind.i64.wrap (1440*(d:Int)+l.dep-l.cut)=1440*(d:Int)+l.dep-l.cut:=zWi (by omega) (by omega)
 have w4:IntKind.i64.wrap (1440*(d:Int)+l.dep+l.mins)=1440*(d:Int)+l.dep+l.mins:=zWi (by omega) (by omega)
 have hr:runs l.days d=(l.days.toNat / 2 ^ (d % 7) % 2 == 1):=rfl
 have hb2:l.days.toNat / 2 ^ (d % 7) % 2<2:=Nat.mod_lt _ (by decide)
 generalize l.days.toNat / 2 ^ (d % 7) % 2=b at hbit hr hb2
 change IntKind.u8.wrap ((BitVec.ofInt (IntKind.bits .u8) (l.days.fdiv (2 ^ (min (d % 7) (IntKind.bits .u8)))) &&& BitVec.ofInt (IntKind.bits .u8) 1).toNat:Int)=((b:Nat):Int) at hbit
 have hg:goes l d=((b == 1)&&decide (0≤1440*(d:Int)+l.dep-l.cut)&&decide (1440*(d:Int)+l.dep+l.mins≤1051898399)):=by unfold goes maxTime;rw [hr]
 simp only [n61,r61,zLl,zL0,zL1,zL2,zL3,zL4,zL5,zL6,zL7,zTa,h7,h7',hbit,w1,w2,w3,w4,SB,Nat.reduceLT,zCa,aOp,Nat.reduceEqDiff,zB,aUn,reduceCtorEq,zFr,place,zTu,Nat.reduceAdd,Nat.reduceLeDiff,zRe,Int.reduceEq,Int.reduceLT,Int.reduceLE]
 repeat' ((first | refine wantK_dec (fun hw=>?_) (fun hw=>?_) | refine condK_dec (fun hw=>?_) (fun hw=>?_) | refine wantK_any (fun hw=>?_) (fun hw=>?_) | refine condK_any (fun hw=>?_) (fun hw=>?_))<;>(try simp only [hw,n61,r61,zLl,zL0,zL1,zL2,zL3,zL4,zL5,zL6,zL7,zTa,h7,h7',hbit,w1,w2,w3,w4,SB,Nat.reduceLT,zCa,aOp,Nat.reduceEqDiff,zB,aUn,reduceCtorEq,zFr,place,zTu,Nat.reduceAdd,Nat.reduceLeDiff,zRe,Int.reduceEq,Int.reduceLT,Int.reduceLE]))
 ·obtain rfl:b=0:=by omega
  rw [depOn,hg];rfl
 ·obtain rfl:b=1:=by omega
  rw [depOn,hg,decide_eq_false (by omega)];rfl
 ·obtain rfl:b=1:=by omega
  rw [depOn,hg,decide_eq_false (p:=_≤(1051898399:Int)) (by omega),Bool.and_false];rfl
 ·obtain rfl:b=1:=by omega
  rw [depOn,hg,decide_eq_true (p:=_≤(1051898399:Int)) (by omega),decide_eq_true (by omega)];rfl
theorem max_v {a b:Int}:aMinMaxAll true (.int .i64 a) [.int .i64 b]=some (.int .i64 (max a b)):=by
 simp only [aMinMaxAll,aMinMax,if_true]
 congr 2
 split<;>omega
theorem min_v {a b:Int}:aMinMaxAll false (.int .i64 a) [.int .i64 b]=some (.int .i64 (min a b)):=by
 simp only [aMinMaxAll,aMinMax,if_true]
 simp only [Bool.false_eq_true,if_false]
 congr 2
 split<;>omega
theorem on_ok [OB] {mp:Bool} {lim:Nat} {l:Leg} {d:Int} {H:zH} {Q:Value→zH→Prop} (hl:Fine l):CallR E mp lim 39 [.agg (encL l).toArray,.int .i64 d] H Q=Q (depV (if 0≤d∧d<730485 then depOn l d.toNat else none)) H:=by
 refine pc (by decide) e39 rfl depV_flat ?_
 rw [b39,c39]
 have hrt:=fun (H:zH) (mp:Bool) (lim:Nat) (Q:Value→zH→Prop)=>right_ok (mp:=mp) (lim:=lim) (H:=H) (Q:=Q) hl.by
 rw [decide_eq_true hl] at hrt
 by_cases h1:d<0
 ·rw [if_neg (by omega)]
  simp only [n39,r39,hrt,zLl,zL0,zL1,zL2,zL3,zL4,zL5,zL6,zL7,zTa,h1,depV,SB,Nat.reduceLT,zCa,aOp,Nat.reduceEqDiff,zB,aUn,reduceCtorEq,zFr,place,zTu,Nat.reduceAdd,Nat.reduceLeDiff,zRe,Int.reduceEq,Int.reduceLT,Int.reduceLE]
 ·by_cases h2:730484<d
  ·rw [if_neg (by omega)]
   simp only [n39,r39,hrt,zLl,zL0,zL1,zL2,zL3,zL4,zL5,zL6,zL7,zTa,h1,h2,depV,SB,Nat.reduceLT,zCa,aOp,Nat.reduceEqDiff,zB,aUn,reduceCtorEq,zFr,place,zTu,Nat.reduceAdd,Nat.reduceLeDiff,zRe,Int.reduceEq,Int.reduceLT,Int.reduceLE]
  ·rw [if_pos (by omega)]
   obtain ⟨n,rfl⟩:∃n:Nat,d=(n:Int):=⟨d.toNat,by omega⟩
   have hdep:=fun (H:zH) (mp:Bool) (lim:Nat) (Q:Value→zH→Prop)=>departure_ok (mp:=mp) (lim:=lim) (H:=H) (Q:=Q) (l:=l) (d:=n) hl (by rw [dayN_eq];omega)
   rw [Int.toNat_natCast]
   cases hx:depOn l n with
   | none=>
     rw [hx] at hdep
     simp only [depV] at hdep
     simp only [n39,r39,hrt,zLl,zL0,zL1,zL2,zL3,zL4,zL5,zL6,zL7,zTa,h1,h2,hdep,depV,SB,Nat.reduceLT,zCa,aOp,Nat.reduceEqDiff,zB,aUn,reduceCtorEq,zFr,place,zTu,Nat.reduceAdd,Nat.reduceLeDiff,zRe,Int.reduceEq,Int.reduceLT,Int.reduceLE]
   | some p=>
     rw [hx] at hdep
     simp only [depV] at hdep
     simp only [n39,r39,hrt,zLl,zL0,zL1,zL2,zL3,zL4,zL5,zL6,zL7,zTa,h1,h2,hdep,depV,SB,Nat.reduceLT,zCa,aOp,Nat.reduceEqDiff,zB,aUn,reduceCtorEq,zFr,place,zTu,Nat.reduceAdd,Nat.reduceLeDiff,zRe,Int.reduceEq,Int.reduceLT,Int.reduceLE]
def netV (pp:Option Addr) (np cp:Nat) (pl:Option Addr) (nl cl:Nat):List Value:=[.slice pp np cp,.slice pl nl cl]
theorem zNl {pp pl:Option Addr} {np cp nl cl:Nat}:(netV pp np cp pl nl cl).length=2:=id rfl
theorem zN0 {pp pl:Option Addr} {np cp nl cl:Nat}:(netV pp np cp pl nl cl)[0]? = some (.slice pp np cp):=id rfl
theorem zN1 {pp pl:Option Addr} {np cp nl cl:Nat}:(netV pp np cp pl nl cl)[1]? = some (.slice pl nl cl):=id rfl
structure NetIn (H:zH) (pp pl:Option Addr) (P:List Int) (L:List Leg):Prop where
 sp:Sl H encI 1 pp P
 sl:Sl H encL 8 pl L
 np:P.length<2 ^ 63
 nl:L.length<2 ^ 63
 bys:∀l∈L,By l
theorem NetIn.app {H:zH} {pp pl:Option Addr} {P:List Int} {L:List Leg} (h:NetIn H pp pl P L) (X:zH):NetIn (H++X) pp pl P L:=⟨h.sp.app X,h.sl.app X,h.np,h.nl,h.bys⟩
theorem NetIn.ext {H G:zH} {pp pl:Option Addr} {P:List Int} {L:List Leg} (h:NetIn H pp pl P L) (e:Ext H G):NetIn G pp pl P L:=⟨e.sl h.sp,e.sl h.sl,h.np,h.nl,h.bys⟩
def metMap (ks:List Int):List (Value×Value):=ks.map fun k=>(.int .i64 k,.bool true)
theorem met_no {ks:List Int} {a:Int} {i:Nat} (h:a∉ks):findKey (.int .i64 a) (metMap ks) i=some none:=by
 unfold metMap
 exact findKey_no (f:=fun k:Int=>k) (g:=fun _=>.bool true) fun x hx e=>h (e▸hx)
theorem met_yes {ks:List Int} {a:Int} {i:Nat} (h:a∈ks):∃j,findKey (.int .i64 a) (metMap ks) i=some (some (j,.bool true)):=by
 unfold metMap
 exact findKey_yes (f:=fun k:Int=>k) (g:=fun _=>.bool true) ⟨a,h,rfl⟩ fun _ _ _=>rfl
theorem met_add {ks:List Int} {a:Int}:metMap ks++[(.int .i64 a,.bool true)]=metMap (ks++[a]):=by simp [metMap]
def pOk (P:List Int) (i:Nat):Prop:=1≤gt P i∧gt P i≤999999∧gt P i∉P.take i
instance (P:List Int) (i:Nat):Decidable (pOk P i):=by unfold pOk;infer_instance
def PlantsOk (P:List Int):Prop:=∀i,i<P.length→pOk P i
instance (P:List Int):Decidable (PlantsOk P):=by unfold PlantsOk;infer_instance
def lOk (P:List Int) (L:List Leg) (i:Nat):Prop:=Fine (gt L i)∧(gt L i).id∉(L.take i).map (·.id)∧(gt L i).frm∈P∧(gt L i).dst∈P
instance (P:List Int) (L:List Leg) (i:Nat):Decidable (lOk P L i):=by unfold lOk;infer_instance
def LegsOk (P:List Int) (L:List Leg):Prop:=∀i,i<L.length→lOk P L i
instance (P:List Int) (L:List Leg):Decidable (LegsOk P L):=by unfold LegsOk;infer_instance
def validN (P:List Int) (L:List Leg):Int:=if 50<P.length∨200<L.length then 5 else if ¬PlantsOk P then 320 else if ¬LegsOk P L then 321 else 0
theorem valid_legs [OB] {H G:zH} {pp pl:Option Addr} {P:List Int} {L:List Leg} {cp cl R:Nat} {fr:Nat→Value} {K:List zAi} {v:Value} (hn:NetIn G pp pl P L) (hNV:zG G R=.cells false (netV pp P.length cp pl L.length cl))
  (hm:zG G (R+1)=.map (metMap P)) (hR:H.length≤R) (f1:fr 1=.pointer (some ⟨R,0,none⟩)) (f3:fr 3=.map (some (R+1))) (f6:fr 6=.map (some G.length)) (f49:fr 49=.slice pl L.length cl) (f50:fr 50=.int .i64 (L.length:Int)) (f51:fr 51=.int .i64 0)
  (hbad:¬LegsOk P L→v=.int .i64 321)
  (hR':∀fr' G',LegsOk P L→Ret E a14 H.length K fr' (G'++[]) fun v' _=>v'=v) :
  Ret E a14 H.length (.code (.loop l14_1)::.inBlock 2::K) fr (G++[.map []]) fun v' _=>v'=v:=by
 have hlG:=hget_alive' hm
 refine zRr (fun i=>L.length-i) (fun i fr G'=>i≤L.length∧fr 3=.map (some (R+1))∧fr 6=.map (some G.length)∧fr 49=.slice pl L.length cl∧fr 50=.int .i64 (L.length:Int)∧fr 51=.int .i64 (i:Int)∧
  G.length<G'.length∧Sl G' encL 8 pl L∧zG G' (R+1)=.map (metMap P)∧zG G' G.length=.map (metMap ((L.take i).map (·.id)))∧∀j,j<i→lOk P L j) 0
  ⟨Nat.zero_le _,f3,f6,f49,f50,f51,by simp,hn.sl.app _,by rw [zHo hlG];exact hm,zHn,fun j hj=>by omega⟩ ?_
 intro i fr G' ⟨hi,h3,h6,h49,h50,h51,hL,hsl,hmp,hml,hall⟩ hN
 rw [zRc l14_1.eq_1]
 refine zRp ?_
 by_cases hlt:i<L.length
 ·have hL':=Nat.le_of_lt hL
  have hby:=hn.bys _ (gt_mem hlt)
  have hp':∀X,zG (G'++X) (R+1)=.map (metMap P):=fun X=>by rw [zHo (hget_alive' hmp)];exact hmp
  have hm':∀X,zG (G'++X) G.length=.map (metMap ((L.take i).map (·.id))):=fun X=>by rw [zHo hL];exact hml
  have hld:=fun X=>(hsl.app X).loadCells zLl hlt
  have hidx:=fun c (k:IntKind) (H1:zH)=>hsl.idx (c:=c) (k:=k) (H1:=H1) hlt
  have hw1:IntKind.i64.wrap ((i:Int)+1)=((i+1:Nat):Int):=zWn (by have:=hn.nl;omega)
  have hlG2:H.length≤G.length:=by omega
  have hlG3:H.length≤G'.length:=by omega
  have hrt:=fun (H:zH) (mp:Bool) (lim:Nat) (Q:Value→zH→Prop)=>right_ok (mp:=mp) (lim:=lim) (H:=H) (Q:=Q) hby
  have bad:¬lOk P L i→v=.int .i64 321:=fun h=>hbad fun hh=>h (hh i hlt)
  by_cases hf:Fine (gt L i)
  ·rw [decide_eq_true hf] at hrt
   by_cases hmet:(gt L i).id∈(L.take i).map (·.id)
   ·obtain ⟨j,hj⟩:=met_yes (i:=0) hmet
    simp only [n14,r14,h3,h6,h49,h50,h51,hlt,hL',hidx,hld,hw1,hm',hp',hj,hrt,zLl,zL0,zL1,zL2,zL3,zL4,zL5,zL6,zL7,zTa,hlG3,SB,Nat.reduceLT,zCa,aOp,Nat.reduceEqDiff,zB,aUn,reduceCtorEq,zFr,place,zTu,Nat.reduceAdd,Nat.reduceLeDiff,zRe,Int.reduceEq,Int.reduceLT,Int.reduceLE]
    exact (bad fun h=>h.2.1 hmet).symm
   ·have hj:=met_no (i:=0) hmet
    by_cases hfr:(gt L i).frm∈P
    ·obtain ⟨j1,hj1⟩:=met_yes (i:=0) hfr
     by_cases hds:(gt L i).dst∈P
     ·obtain ⟨j2,hj2⟩:=met_yes (i:=0) hds
      simp only [n14,r14,h3,h6,h49,h50,h51,hlt,hL',hidx,hld,hw1,hm',hp',hj,hj1,hj2,hrt,zLl,zL0,zL1,zL2,zL3,zL4,zL5,zL6,zL7,zTa,hlG2,hlG3,SB,Nat.reduceLT,zCa,aOp,Nat.reduceEqDiff,zB,aUn,reduceCtorEq,zFr,place,zTu,Nat.reduceAdd,Nat.reduceLeDiff,zRe,Int.reduceEq,Int.reduceLT,Int.reduceLE]
      refine hN (i+1) _ _ ⟨by omega,(by exact h3),(by exact h6),(by exact h49),(by exact h50),(by rfl),by simp;omega, ?_, ?_, ?_,fun j hj=>?_⟩ (by omega)
      ·refine hsl.sim fun b ro c hb=>?_
       rw [zHs (by rintro rfl;rw [hml] at hb;cases hb),zHo (zHa hb)];exact hb
      ·rw [zHs (by omega),zHo (hget_alive' hmp)];exact hmp
      ·rw [hget_set_eq (by simp;omega),met_add,take_snoc hlt,List.map_append];rfl
      ·rcases Nat.lt_or_ge j i with h | h
       ·exact hall j h
       ·obtain rfl:j=i:=by omega
        exact ⟨hf,hmet,hfr,hds⟩
     ·have hj2:=met_no (i:=0) hds
      simp only [n14,r14,h3,h6,h49,h50,h51,hlt,hL',hidx,hld,hw1,hm',hp',hj,hj1,hj2,hrt,zLl,zL0,zL1,zL2,zL3,zL4,zL5,zL6,zL7,zTa,hlG2,hlG3,SB,Nat.reduceLT,zCa,aOp,Nat.reduceEqDiff,zB,aUn,reduceCtorEq,zFr,place,zTu,Nat.reduceAdd,Nat.reduceLeDiff,zRe,Int.reduceEq,Int.reduceLT,Int.reduceLE]
      exact (bad fun h=>hds h.2.2.2).symm
    ·have hj1:=met_no (i:=0) hfr
     simp only [n14,r14,h3,h6,h49,h50,h51,hlt,hL',hidx,hld,hw1,hm',hp',hj,hj1,hrt,zLl,zL0,zL1,zL2,zL3,zL4,zL5,zL6,zL7,zTa,hlG2,hlG3,SB,Nat.reduceLT,zCa,aOp,Nat.reduceEqDiff,zB,aUn,reduceCtorEq,zFr,place,zTu,Nat.reduceAdd,Nat.reduceLeDiff,zRe,Int.reduceEq,Int.reduceLT,Int.reduceLE]
     exact (bad fun h=>hfr h.2.2.1).symm
  ·rw [decide_eq_false hf] at hrt
   simp only [n14,r14,h3,h6,h49,h50,h51,hlt,hL',hidx,hld,hw1,hm',hp',hrt,zLl,zL0,zL1,zL2,zL3,zL4,zL5,zL6,zL7,zTa,hlG3,SB,Nat.reduceLT,zCa,aOp,Nat.reduceEqDiff,zB,aUn,reduceCtorEq,zFr,place,zTu,Nat.reduceAdd,Nat.reduceLeDiff,zRe,Int.reduceEq,Int.reduceLT,Int.reduceLE]
   exact (bad fun h=>hf h.1).symm
 ·obtain rfl:i=L.length:=by omega
  simp only [n14,r14,h3,h6,h49,h50,h51,hlt,SB,Nat.reduceLT,zCa,aOp,Nat.reduceEqDiff,zB,aUn,reduceCtorEq,zFr,place,zTu,Nat.reduceAdd,Nat.reduceLeDiff,zRe,Int.reduceEq,Int.reduceLT,Int.reduceLE]
  exact hR' _ _ hall
theorem valid_ok [OB] {mp:Bool} {lim:Nat} {pp pl:Option Addr} {P:List Int} {L:List Leg} {cp cl:Nat} {H:zH} {Q:Value→zH→Prop} (hn:NetIn H pp pl P L) :
  CallR E mp lim 14 [.agg (netV pp P.length cp pl L.length cl).toArray] H Q=Q (.int .i64 (validN P L)) H:=by
 refine pc (by decide) e14 rfl rfl ?_
 rw [b14,c14]
 by_cases h50:50<(P.length:Int)
 ·simp only [n14,r14,zNl,zN0,zN1,h50,SB,Nat.reduceLT,zCa,aOp,Nat.reduceEqDiff,zB,aUn,reduceCtorEq,zFr,place,zTu,Nat.reduceAdd,Nat.reduceLeDiff,zRe,Int.reduceEq,Int.reduceLT,Int.reduceLE]
  rw [validN,if_pos (by omega)]
 by_cases h200:200<(L.length:Int)
 ·simp only [n14,r14,zNl,zN0,zN1,h50,h200,SB,Nat.reduceLT,zCa,aOp,Nat.reduceEqDiff,zB,aUn,reduceCtorEq,zFr,place,zTu,Nat.reduceAdd,Nat.reduceLeDiff,zRe,Int.reduceEq,Int.reduceLT,Int.reduceLE]
  rw [validN,if_pos (by omega)]
 simp only [n14,r14,zNl,zN0,zN1,h50,h200,SB,Nat.reduceLT,zCa,aOp,Nat.reduceEqDiff,zB,aUn,reduceCtorEq,zFr,place,zTu,Nat.reduceAdd,Nat.reduceLeDiff,zRe,Int.reduceEq,Int.reduceLT,Int.reduceLE]
 have hv:validN P L=if ¬PlantsOk P then 320 else if ¬LegsOk P L then 321 else 0:=by rw [validN,if_neg (by omega)]
 refine zRr (fun i=>P.length-i) (fun i fr G=>i≤P.length∧fr 1=.pointer (some ⟨H.length,0,none⟩)∧fr 3=.map (some (H.length+1))∧fr 24=.slice pp P.length cp∧fr 25=.int .i64 (P.length:Int)∧fr 26=.int .i64 (i:Int)∧
  H.length+1<G.length∧Sl G encI 1 pp P∧Sl G encL 8 pl L∧zG G H.length=.cells false (netV pp P.length cp pl L.length cl)∧zG G (H.length+1)=.map (metMap (P.take i))∧∀j,j<i→pOk P j) 0
  ⟨Nat.zero_le _,(by rfl),(by rfl),(by rfl),(by rfl),by rfl,by simp,hn.sp.app _,hn.sl.app _,zHn,zHw,fun j hj=>by omega⟩ ?_
 intro i fr G ⟨hi,h1,h3,h24,h25,h26,hL,hsp,hsl,hnv,hm,hall⟩ hN
 rw [zRc l14_2.eq_1]
 refine zRp ?_
 have hnX:=fun X=>(Ext.refl.app (X:=X)).cells hnv
 have hm':∀X,zG (G++X) (H.length+1)=.map (metMap (P.take i)):=fun X=>by rw [zHo hL];exact hm
 have hL1:H.length≤H.length+1:=by omega
 by_cases hlt:i<P.length
 ·have hld:=fun X=>(hsp.app X).loadCell0 zIl hlt (by decide)
  simp only [encI,List.getElem?_cons_zero] at hld
  have hidx:=fun c (k:IntKind) (H1:zH)=>hsp.idx (c:=c) (k:=k) (H1:=H1) hlt
  have hw1:IntKind.i64.wrap ((i:Int)+1)=((i+1:Nat):Int):=zWn (by omega)
  have bad:¬pOk P i→validN P L=320:=fun h=>by rw [hv,if_pos fun hh=>h (hh i hlt)]
  by_cases ha:gt P i<1
  ·simp only [n14,r14,h1,h3,h24,h25,h26,hlt,hidx,hld,hw1,hm',ha,SB,Nat.reduceLT,zCa,aOp,Nat.reduceEqDiff,zB,aUn,reduceCtorEq,zFr,place,zTu,Nat.reduceAdd,Nat.reduceLeDiff,zRe,Int.reduceEq,Int.reduceLT,Int.reduceLE]
   rw [bad fun h=>by have:=h.1;omega]
  ·by_cases hb:999999<gt P i
   ·simp only [n14,r14,h1,h3,h24,h25,h26,hlt,hidx,hld,hw1,hm',ha,hb,SB,Nat.reduceLT,zCa,aOp,Nat.reduceEqDiff,zB,aUn,reduceCtorEq,zFr,place,zTu,Nat.reduceAdd,Nat.reduceLeDiff,zRe,Int.reduceEq,Int.reduceLT,Int.reduceLE]
    rw [bad fun h=>by have:=h.2.1;omega]
   ·by_cases hmet:gt P i∈P.take i
    ·obtain ⟨j,hj⟩:=met_yes (i:=0) hmet
     simp only [n14,r14,h1,h3,h24,h25,h26,hlt,hidx,hld,hw1,hm',ha,hb,hj,SB,Nat.reduceLT,zCa,aOp,Nat.reduceEqDiff,zB,aUn,reduceCtorEq,zFr,place,zTu,Nat.reduceAdd,Nat.reduceLeDiff,zRe,Int.reduceEq,Int.reduceLT,Int.reduceLE]
     rw [bad fun h=>h.2.2 hmet]
    ·have hj:=met_no (i:=0) hmet
     simp only [n14,r14,h1,h3,h24,h25,h26,hlt,hidx,hld,hw1,hm',ha,hb,hj,hL1,SB,Nat.reduceLT,zCa,aOp,Nat.reduceEqDiff,zB,aUn,reduceCtorEq,zFr,place,zTu,Nat.reduceAdd,Nat.reduceLeDiff,zRe,Int.reduceEq,Int.reduceLT,Int.reduceLE]
     have hG2:∀b ro c,zG G b=.cells ro c→zG ((G++[]).set (H.length+1) (.map (metMap (P.take i)++[(Value.int .i64 (gt P i),Value.bool true)]))) b=.cells ro c:=fun b ro c hb=>by
      rw [zHs (by rintro rfl;rw [hm] at hb;cases hb),zHo (zHa hb)];exact hb
     refine hN (i+1) _ _ ⟨by omega,(by exact h1),(by exact h3),(by exact h24),(by exact h25),(by rfl),by simp;omega,hsp.sim hG2,hsl.sim hG2,hG2 _ _ _ hnv, ?_,fun j hj=>?_⟩ (by omega)
     ·rw [hget_set_eq (by simp;omega),met_add,take_snoc hlt]
     ·rcases Nat.lt_or_ge j i with h | h
      ·exact hall j h
      ·obtain rfl:j=i:=by omega
       exact ⟨by omega,by omega,hmet⟩
 ·obtain rfl:i=P.length:=by omega
  rw [List.take_length] at hm
  have hP:PlantsOk P:=hall
  rw [if_neg (by simpa using hP)] at hv
  simp only [n14,r14,h1,h3,h24,h25,h26,hlt,hnX,zNl,zN0,zN1,SB,Nat.reduceLT,zCa,aOp,Nat.reduceEqDiff,zB,aUn,reduceCtorEq,zFr,place,zTu,Nat.reduceAdd,Nat.reduceLeDiff,zRe,Int.reduceEq,Int.reduceLT,Int.reduceLE]
  refine valid_legs (H:=H) (R:=H.length) (G:=G) ⟨hsp,hsl,hn.np,hn.nl,hn.bys⟩ hnv hm (Nat.le_refl _) (by exact h1) (by exact h3) (by rfl) (by rfl) (by rfl) (by rfl) (fun h=>by rw [hv,if_pos h]) fun fr' G' h=>?_
  rw [if_neg (by simpa using h)] at hv
  rw [hv]
  simp only [n14,r14,SB,Nat.reduceLT,zCa,aOp,Nat.reduceEqDiff,zB,aUn,reduceCtorEq,zFr,place,zTu,Nat.reduceAdd,Nat.reduceLeDiff,zRe,Int.reduceEq,Int.reduceLT,Int.reduceLE]
theorem PlantsOk.idx {P:List Int} (h:PlantsOk P) {i:Nat} (hi:i<P.length):P.idxOf (gt P i)=i:=by
 have h1:=(h i hi).2.2
 have h2:P.idxOf (gt P i)≤i:=by
  rw [zGl hi]
  apply Decidable.byContradiction;intro hc
  have:=List.not_of_lt_findIdx (xs:=P) (p:=(· == P[i])) (i:=i) (by unfold List.idxOf at hc;omega)
  simp at this
 rcases Nat.lt_or_ge (P.idxOf (gt P i)) i with h3 | h3
 ·exfalso
  apply h1
  have hm:gt P i∈P:=gt_mem hi
  have hl:=List.idxOf_lt_length_of_mem hm
  have:=List.getElem_idxOf hl
  rw [List.mem_take_iff_getElem]
  exact ⟨P.idxOf (gt P i),by omega,this⟩
 ·omega
theorem validN_0 {P:List Int} {L:List Leg} (h:validN P L=0):P.length≤50∧L.length≤200∧PlantsOk P∧LegsOk P L:=by
 unfold validN at h
 split at h
 ·cases h
 ·split at h
  ·cases h
  ·split at h
   ·cases h
   ·rename_i h1 h2 h3
    exact ⟨by omega,by omega,by simpa using h2,by simpa using h3⟩
def posN (P:List Int):Int→Nat:=fun p=>P.idxOf p
theorem valid_net {P:List Int} {L:List Leg} (h:validN P L=0):NetOk 50 P L (posN P):=by
 obtain ⟨h1,h2,h3,h4⟩:=validN_0 h
 have key:∀l∈L,Fine l∧l.frm∈P∧l.dst∈P:=fun l hl=>by
  obtain ⟨i,hi,rfl⟩:=List.mem_iff_getElem.1 hl
  have:=h4 i hi
  unfold lOk at this
  rw [zGl hi] at this
  exact ⟨this.1,this.2.2⟩
 refine ⟨fun l hl=>(key l hl).1,fun l hl=>(key l hl).2.1,fun l hl=>(key l hl).2.2,fun a ha b hb e=>?_,fun a ha=>?_⟩
 ·have h1:=List.getElem_idxOf (List.idxOf_lt_length_of_mem ha)
  have h2:=List.getElem_idxOf (List.idxOf_lt_length_of_mem hb)
  rw [←h1,←h2]
  congr 1
 ·have:=List.idxOf_lt_length_of_mem ha
  show P.idxOf a<50
  omega
def placeN (P:List Int) (p:Int):Int:=if p∈P then (posN P p:Int) else -1
theorem placeN_nn {P:List Int} {p:Int}:0≤placeN P p↔p∈P:=by
 unfold placeN;split
 ·rename_i h;exact ⟨fun _=>h,fun _=>by omega⟩
 ·rename_i h;exact ⟨fun hh=>by omega,fun hh=>absurd hh h⟩
theorem ld_ints {H:zH} {q:Option Addr} {T:List Int} {i:Nat} (h:Sl H encI 1 q T) (hi:i<T.length):∀X,AM.loadCell (H++X) (elt q 1 i)=some (.int .i64 (gt T i)):=fun X=>by
 rw [(h.app X).loadCell0 zIl hi (by decide)];rfl
theorem ix_ints {H:zH} {q:Option Addr} {T:List Int} {i n:Nat} (h:Sl H encI 1 q T) (hi:i<n) (hT:T.length=n):∀(c:Nat) (k:IntKind) (H1:zH),idxK 1 (.slice q n c) (.int k (i:Int)) H1=some (.pointer (some (elt q 1 i)),H1):=fun c k H1=>by
 subst hT;exact h.idx hi
def opB (p:Option Addr):List Nat:=match p with
 | none=>[]
 | some a=>[a.block]
theorem Own.moreF {α:Type} {lim lim' e bytes cap:Nat} {G:zH} {enc:α→List Value} {p:Option Addr} {l:List α} (h:Own lim G enc e p cap l) (hll:lim'≤lim) (he:∀x,(enc x).length=e) (he0:e≠0) (m:List α) (hm:m≠[]) (hb:(l.length+m.length)*bytes≤maxBytes) (hn:l.length+m.length<2 ^ 61)
  (X:zH) {x:Value} {str:Bool} (h1:firstCells (G++X) e str x=some (m.flatMap enc)) (h2:lenOf x=some m.length) :
  ∃G2,zAa lim' none e bytes str (.slice p l.length cap) x (G++X)=some (.slice (some ⟨(G++X).length,0,none⟩) (l.length+m.length) (loose e),G2++[])∧Own G.length G2 enc e (some ⟨(G++X).length,0,none⟩) (loose e) (l++m)∧Chg (opB p) G G2∧(G++X).length<G2.length:=by
 have hm0:¬m.length=0:=fun q=>hm (List.length_eq_zero_iff.1 q)
 rcases h with ⟨k1,k2,k3⟩ | ⟨R,k1,k2,k3,k4⟩
 ·subst k1 k2 k3
  refine ⟨G++(X++[.cells false (m.flatMap enc)]), ?_, ?_,Chg.refl.app,by simp⟩
  ·simp only [List.length_nil,Nat.zero_add] at hb hn⊢
   simp only [zAa,h1,h2,hm0,if_false,Nat.zero_add]
   rw [if_neg (by omega)]
   simp [place]
  ·rw [List.nil_append]
   refine Own.new ?_ (by simp)
   rw [←List.append_assoc];exact zHn
 ·subst k1 k2
  have hRl:=zHa k3
  have hR':zG (G++X) R=.cells false (l.flatMap enc):=by rw [zHo hRl];exact k3
  have hold:AM.loadCells (G++X) ⟨R,0,none⟩ (l.length*e)=some (l.flatMap enc):=by
   simp only [loadCells_lit,hR',Nat.zero_add,flat_len he,Nat.le_refl,if_true,List.drop_zero]
   rw [List.take_of_length_le (by rw [flat_len he];exact Nat.le_refl _)]
  have hmt:Mut G (G.set R .dead) R:=⟨by simp,fun j hj=>zHs hj⟩
  refine ⟨G.set R .dead++(X++[.cells false ((l++m).flatMap enc)]), ?_, ?_,(Chg.refl.mut hmt (.inl (by simp [opB]))).app,by simp⟩
  ·simp only [zAa,h1,h2,hold,hR',hm0,if_false,if_true]
   rw [if_neg (by unfold loose;omega)]
   simp [show lim'≤R by omega,place,List.set_append_left _ _ hRl,List.append_assoc]
  ·refine Own.new ?_ (by simp)
   rw [←List.append_assoc,show (G++X).length=(G.set R .dead++X).length by simp];exact zHn
theorem field_mut {α:Type} [Inhabited α] {G:zH} {enc:α→List Value} {e:Nat} {l:List α} {lim S:Nat} (he:∀x,(enc x).length=e) (hS:zG G S=.cells false (l.flatMap enc)) (hl:lim≤S) {i j:Nat} (hi:i<l.length) (hj:j<e) {v:Value} (y:α) (hy:enc y=(enc (gt l i)).set j v) :
  ∃G',(∀X,AM.storeAt lim (G++X) ((elt (some ⟨S,0,none⟩) e i).add j) [v]=some (G'++X))∧zG G' S=.cells false ((l.set i y).flatMap enc)∧Mut G G' S:=by
 obtain ⟨G',h1,h2,h3⟩:=mut_set (zHa hS) (.cells false ((l.set i y).flatMap enc))
 refine ⟨G',fun X=>?_,h2,h3⟩
 have h4:i*e+e≤l.length*e:=by
  have:=Nat.mul_le_mul_right e (Nat.succ_le_of_lt hi)
  rw [Nat.succ_mul] at this;exact this
 have hS':zG (G++X) S=.cells false (l.flatMap enc):=by rw [zHo (zHa hS)];exact hS
 simp only [elt,addrOf,Option.getD_some,addr_add,storeAt_lit,hS',Nat.zero_add,List.length_singleton]
 rw [if_pos ⟨hl,by rw [flat_len he];omega⟩,←h1]
 congr 3
 show (l.flatMap enc).set (i*e+j) v=_
 clear h1 h2 h3 hS hS' h4
 induction l generalizing i with
 | nil=>simp at hi
 | cons x l ih=>
   cases i with
   | zero=>
     rw [gt_cons_zero] at hy
     rw [Nat.zero_mul,Nat.zero_add,List.set_cons_zero,List.flatMap_cons,List.flatMap_cons,List.set_append_left _ _ (by rw [he];exact hj),hy]
   | succ i=>
     rw [zGc] at hy
     rw [List.set_cons_succ,List.flatMap_cons,List.flatMap_cons,List.set_append_right _ _ (by rw [he,Nat.succ_mul];omega),he,show (i+1)*e+j-e=i*e+j by rw [Nat.succ_mul];omega,ih (by simpa using hi) hy]
section
variable {G:zH} {pp pl:Option Addr} {P:List Int} {L:List Leg}
theorem NetIn.sim {H:zH} (h:NetIn H pp pl P L) (hk:∀b ro c,zG H b=.cells ro c→zG G b=.cells ro c):NetIn G pp pl P L:=⟨h.sp.sim hk,h.sl.sim hk,h.np,h.nl,h.bys⟩
end
end Go.Proofs.Ytohnaffmcjbpoaa.Fn

