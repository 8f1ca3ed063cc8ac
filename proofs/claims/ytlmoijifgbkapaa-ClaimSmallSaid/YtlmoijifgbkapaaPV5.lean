/-
  Joined texts, 5 of 7. A part of the claim that the last text states.
-/
import Derived.ProofKit
import Derived.Deep.Slices
import Derived.OpenShut
import Derived.Sort.AssemblyPlain
import Derived.Lib.BitFns
import Derived.Test.YtlmoijifgbkapaaPV4
set_option linter.unusedVariables false
set_option linter.unusedSimpArgs false
set_option linter.defProp false
set_option linter.unusedSectionVars false
set_option maxRecDepth 100000
set_option maxHeartbeats 4000000
namespace Go.AM
open Go.ChangeShapes Go.WideShapes Go.ChangeAt Go.RowKit
inductive Ty where
 | int (k:IntKind) | bool | str | slice (t:Ty) | arr (n:Nat) (t:Ty) | nil | pair (a b:Ty)
def Ty.size:Ty→Nat
 | .nil=>0
 | .arr n t=>n*t.size
 | .pair a b=>a.size+b.size
 | _=>1
abbrev Ty.den:Ty→Type
 | .int _=>Int
 | .bool=>Bool
 | .str=>ByteArray
 | .slice t=>List t.den
 | .arr _ t=>List t.den
 | .nil=>Unit
 | .pair a b=>a.den×b.den
def Rep:(t:Ty)→zH→t.den→List Value→Prop
 | .int k,_,n,cs=>cs=[.int k n]∧k.min≤n∧n≤k.max
 | .bool,_,b,cs=>cs=[.bool b]
 | .str,_,s,cs=>cs=[.string s]∧s.size≤maxLen
 | .slice t,H,l,cs=>l.length≤maxLen∧∃p cap,cs=[.slice p l.length cap]∧(p=none→l=[]∧cap=0)∧
   ∀a,p=some a→a.spot=none∧a.off=0∧cap=loose t.size∧(l≠[]→∃es:List (List Value),zG H a.block=.cells true es.flatten∧es.length=l.length∧∀(i:Nat) x e,l[i]? = some x→es[i]? = some e→Rep t H x e)
 | .arr n t,H,l,cs=>∃es:List (List Value),cs=es.flatten∧es.length=n∧l.length=n∧∀(i:Nat) x e,l[i]? = some x→es[i]? = some e→Rep t H x e
 | .nil,_,_,cs=>cs=[]
 | .pair a b,H,x,cs=>∃c1 c2,cs=c1++c2∧Rep a H x.1 c1∧Rep b H x.2 c2
theorem Rep.app:∀{t:Ty} {H:zH} {x:t.den} {cs:List Value} (_:Rep t H x cs) (X:zH),Rep t (H++X) x cs
 | .int _,_,_,_,h,_=>h
 | .bool,_,_,_,h,_=>h
 | .str,_,_,_,h,_=>h
 | .nil,_,_,_,h,_=>h
 | .pair a b,_,_,_,⟨c1,c2,e,h1,h2⟩,X=>⟨c1,c2,e,h1.app X,h2.app X⟩
 | .arr n t,H,l,cs,⟨es,e,h1,h2,h3⟩,X=>⟨es,e,h1,h2,fun i x c hx hc=>(h3 i x c hx hc).app X⟩
 | .slice t,H,l,cs,⟨h0,p,cap,e,h1,h2⟩,X=>by
   refine ⟨h0,p,cap,e,h1,fun a ha=>?_⟩
   obtain ⟨k1,k2,k3,k4⟩:=h2 a ha
   refine ⟨k1,k2,k3,fun hl=>?_⟩
   obtain ⟨es,m1,m2,m3⟩:=k4 hl
   exact ⟨es,by rw [zHo (zHa m1)];exact m1,m2,fun i x e hx he=>(m3 i x e hx he).app X⟩
theorem flatten_len {k:Nat}:∀{es:List (List Value)},(∀e∈es,e.length=k)→es.flatten.length=es.length*k
 | [],_=>by simp
 | e::es,h=>by
   rw [List.flatten_cons,List.length_append,h e (by simp),flatten_len (fun x hx=>h x (by simp [hx])),List.length_cons,Nat.succ_mul];omega
theorem Rep.len:∀{t:Ty} {H:zH} {x:t.den} {cs:List Value} (_:Rep t H x cs),cs.length=t.size
 | .int _,_,_,_,h=>by rw [h.1];rfl
 | .bool,_,_,_,h=>by simp only [Rep] at h;rw [h];rfl
 | .str,_,_,_,h=>by rw [h.1];rfl
 | .nil,_,_,_,h=>by simp only [Rep] at h;rw [h];rfl
 | .pair a b,_,_,_,⟨c1,c2,e,h1,h2⟩=>by rw [e,List.length_append,h1.len,h2.len];rfl
 | .slice t,H,l,cs,⟨h0,p,cap,e,h1,h2⟩=>by rw [e];rfl
 | .arr n t,H,l,cs,⟨es,e,h1,h2,h3⟩=>by
   rw [e,flatten_len (k:=t.size),h1];· rfl
   intro c hc
   obtain ⟨i,hi,rfl⟩:=List.mem_iff_getElem.1 hc
   exact (h3 i _ _ (List.getElem?_eq_getElem (by omega)) (List.getElem?_eq_getElem hi)).len
section
variable {w:World} {Pg:Prg} {W:Nat→Prop} {lim:Nat}
def NoOwn (H:zH):Prop:=∀(i:Nat) b,H[i]? = some b→owned b=false
theorem NoOwn.snoc {H:zH} (h:NoOwn H) {b:Blk} (hb:owned b=false):NoOwn (H++[b]):=by
 intro i x hx
 by_cases hi:i<H.length
 ·rw [List.getElem?_append_left hi] at hx;exact h i x hx
 ·rw [List.getElem?_append_right (by omega)] at hx
  have:=(List.getElem?_eq_some_iff.1 hx).1
  have e:i-H.length=0:=by simp at this;omega
  rw [e] at hx;simp at hx;subst hx;exact hb
def Opens (Pg:Prg) (W:Nat→Prop) (lim:Nat) (w:World) (t:Ty) (cs:List Value):Prop:=
 ∀σ H,Inv Pg W lim σ H w→NoOwn H→∃X σ' as x,Inv Pg W lim σ' (H++X) w∧NoOwn (H++X)∧Sig.le σ σ'∧zLr σ' as cs∧Rep t (H++X) x as∧∀v∈cs,v.oneCell'=true
theorem Opens.atom1 {t:Ty} {v:Value} {x:t.den} (hv:atom v=true) (ho:v.oneCell'=true) (hr:∀H,Rep t H x [v]):Opens Pg W lim w t [v]:=fun σ H h hn=>
 ⟨[],σ,[v],x,by simpa using h,by simpa using hn,Sig.le_refl _,zLr.cons (.atom hv) zLr.nil,hr _,fun u hu=>by simp at hu;subst hu;exact ho⟩
theorem Opens.int {k:IntKind} {n:Int} (h:(Lit.int k n).wf=true):Opens Pg W lim w (.int k) [.int k n]:=by
 refine Opens.atom1 (x:=n) rfl rfl fun H=>⟨rfl, ?_⟩
 simpa [Lit.wf] using h
theorem Opens.bool {b:Bool}:Opens Pg W lim w .bool [.bool b]:=Opens.atom1 (t:=.bool) (x:=b) rfl rfl fun H=>rfl
theorem Opens.str {s:ByteArray} (h:s.size≤maxLen):Opens Pg W lim w .str [.string s]:=Opens.atom1 (t:=.str) (x:=s) rfl rfl fun H=>⟨rfl,h⟩
theorem Opens.nil:Opens Pg W lim w .nil []:=fun σ H h hn=>⟨[],σ,[],(),by simpa using h,by simpa using hn,Sig.le_refl _,zLr.nil,rfl,fun u hu=>by simp at hu⟩
theorem Opens.pair {a b:Ty} {c1 c2:List Value} (h1:Opens Pg W lim w a c1) (h2:Opens Pg W lim w b c2):Opens Pg W lim w (.pair a b) (c1++c2):=by
 intro σ H h hn
 obtain ⟨X,σ1,as,x,k1,k1',k2,k3,k4,k5⟩:=h1 σ H h hn
 obtain ⟨Y,σ2,bs,y,m1,m1',m2,m3,m4,m5⟩:=h2 σ1 _ k1 k1'
 refine ⟨X++Y,σ2,as++bs,(x,y),by rw [←List.append_assoc];exact m1,by rw [←List.append_assoc];exact m1',Sig.le_trans k2 m2,zLr.append (k3.mono m2) m3,⟨as,bs,rfl, ?_, ?_⟩,fun v hv=>?_⟩
 ·rw [←List.append_assoc];exact k4.app Y
 ·rw [←List.append_assoc];exact m4
 ·rcases List.mem_append.1 hv with hv | hv
  ·exact k5 v hv
  ·exact m5 v hv
def sigAt (σ:Sig) (n:Nat) (L:Loc):Sig:=fun i=>if i=n then some L else σ i
theorem sigAt_same {σ:Sig} {n:Nat} {L:Loc}:sigAt σ n L n=some L:=if_pos rfl
theorem sigAt_ne {σ:Sig} {n i:Nat} {L:Loc} (h:i≠n):sigAt σ n L i=σ i:=if_neg h
theorem Inv.snoc {σ:Sig} {H:zH} (h:Inv Pg W lim σ H w) (hn:NoOwn H) (L:Loc) (b:Blk) (hb:owned b=false) (hr:BlkRel Pg (sigAt σ H.length L) w L b) :
  Inv Pg W lim (sigAt σ H.length L) (H++[b]) w∧Sig.le σ (sigAt σ H.length L):=by
 have hle:Sig.le σ (sigAt σ H.length L):=by
  intro i K hi
  have:=h.lt hi
  rw [sigAt_ne (by omega)];exact hi
 have hno:=hn.snoc hb
 refine ⟨⟨h.toRoot, ?_,fun i j bi bj Li Lj hi hj hne ho=>?_,fun i x K hx ho=>?_,fun i hi=>?_⟩,hle⟩
 ·intro i x hx ha
  by_cases hi:i<H.length
  ·rw [List.getElem?_append_left hi] at hx
   obtain ⟨K,h1,h2⟩:=h.blk i x hx ha
   exact ⟨K,hle i K h1,h2.mono hle fun _=>rfl⟩
  ·rw [List.getElem?_append_right (by omega)] at hx
   have:=(List.getElem?_eq_some_iff.1 hx).1
   have e:i=H.length:=by simp at this;omega
   subst e
   rw [Nat.sub_self] at hx;simp at hx;subst hx
   exact ⟨L,sigAt_same,hr⟩
 ·rw [hno i bi hi] at ho;cases ho
 ·rw [hno i x hx] at ho;cases ho
 ·simp at hi
  rw [sigAt_ne (by omega)]
  exact h.dom i (by omega)
theorem opens_elems {t:Ty} {n:Nat} {cs:Nat→List Value} (hel:∀i,i<n→Opens Pg W lim w t (cs i)) {σ:Sig} {H:zH} (h:Inv Pg W lim σ H w) (hn:NoOwn H) :
  ∃X σ',∃es:List (List Value),∃xs:List t.den,Inv Pg W lim σ' (H++X) w∧NoOwn (H++X)∧Sig.le σ σ'∧es.length=n∧xs.length=n∧
   ∀(i:Nat) x e,xs[i]? = some x→es[i]? = some e→Rep t (H++X) x e∧zLr σ' e (cs i)∧∀v∈cs i,v.oneCell'=true:=by
 induction n with
 | zero=>exact ⟨[],σ,[],[],by simpa using h,by simpa using hn,Sig.le_refl _,rfl,rfl,fun i x e hx=>by simp at hx⟩
 | succ n ih=>
   obtain ⟨X,σ1,es,xs,k1,k2,k3,k4,k5,k6⟩:=ih fun i hi=>hel i (by omega)
   obtain ⟨Y,σ2,as,x,m1,m2,m3,m4,m5,m6⟩:=hel n (by omega) σ1 _ k1 k2
   refine ⟨X++Y,σ2,es++[as],xs++[x],by rw [←List.append_assoc];exact m1,by rw [←List.append_assoc];exact m2,Sig.le_trans k3 m3,by simp [k4],by simp [k5],fun i y e hy he=>?_⟩
   rw [←List.append_assoc]
   by_cases hi:i<n
   ·rw [List.getElem?_append_left (by omega)] at hy he
    obtain ⟨q1,q2,q3⟩:=k6 i y e hy he
    exact ⟨q1.app Y,q2.mono m3,q3⟩
   ·have hi':i=n:=by
     have:=(List.getElem?_eq_some_iff.1 hy).1
     simp at this;omega
    subst hi'
    rw [List.getElem?_append_right (by omega),k5] at hy
    rw [List.getElem?_append_right (by omega),k4] at he
    simp at hy he
    subst hy he
    exact ⟨m5,m4,m6⟩
theorem flatten_at {e:Nat}:∀(es:List (List Value)),(∀x∈es,x.length=e)→∀(j:Nat) v,es.flatten[j]? = some v→∃x,es[j / e]? = some x∧x[j % e]? = some v
 | [],_,j,v,h=>by simp at h
 | x::es,he,j,v,h=>by
   have hx:=he x (by simp)
   rw [List.flatten_cons] at h
   by_cases hj:j<x.length
   ·rw [List.getElem?_append_left hj] at h
    rw [hx] at hj
    rw [Nat.div_eq_of_lt hj,Nat.mod_eq_of_lt hj]
    exact ⟨x,rfl,h⟩
   ·rw [List.getElem?_append_right (by omega),hx] at h
    rw [hx] at hj
    obtain ⟨y,h1,h2⟩:=flatten_at es (fun z hz=>he z (by simp [hz])) _ _ h
    have hpos:0<e:=by
     rcases Nat.eq_zero_or_pos e with h0 | h0
     ·subst h0
      have hz:y.length=0:=he y (by have:=List.mem_of_getElem? h1;simp [this])
      rw [List.length_eq_zero_iff.1 hz] at h2;simp at h2
     ·exact h0
    have e1:j / e=(j-e) / e+1:=by rw [←Nat.add_div_right _ hpos];congr 1;omega
    have e2:j % e=(j-e) % e:=by rw [Nat.mod_eq_sub_mod (by omega)]
    rw [e1,e2]
    exact ⟨y,by simpa using h1,h2⟩
theorem Opens.arr {t:Ty} {n:Nat} {cs:List Value} (hl:cs.length=n*t.size) (hel:∀i,i<n→Opens Pg W lim w t ((cs.drop (i*t.size)).take t.size)):Opens Pg W lim w (.arr n t) cs:=by
 intro σ H h hn
 obtain ⟨X,σ1,es,xs,k1,k2,k3,k4,k5,k6⟩:=opens_elems (n:=n) (cs:=fun i=>(cs.drop (i*t.size)).take t.size) hel h hn
 have hes:∀e∈es,e.length=t.size:=by
  intro e he
  obtain ⟨i,hi,rfl⟩:=List.mem_iff_getElem.1 he
  exact (k6 i _ _ (List.getElem?_eq_getElem (by omega)) (List.getElem?_eq_getElem hi)).1.len
 have hat:∀(j:Nat) v,cs[j]? = some v→j / t.size<n∧j % t.size<t.size∧((cs.drop (j / t.size*t.size)).take t.size)[j % t.size]? = some v:=by
  intro j v hj
  have hjl:j<n*t.size:=by rw [←hl];exact (List.getElem?_eq_some_iff.1 hj).1
  have hpos:0<t.size:=by
   rcases Nat.eq_zero_or_pos t.size with h0 | h0
   ·rw [h0] at hjl;simp at hjl
   ·exact h0
  have hm:=Nat.mod_lt j hpos
  refine ⟨(Nat.div_lt_iff_lt_mul hpos).2 hjl,hm, ?_⟩
  rw [List.getElem?_take,if_pos hm,List.getElem?_drop,Nat.div_add_mod' j t.size]
  exact hj
 refine ⟨X,σ1,es.flatten,xs,k1,k2,k3,⟨by rw [flatten_len hes,k4,hl],fun j a v ha hv=>?_⟩,⟨es,rfl,k4,k5,fun i x e hx he=>(k6 i x e hx he).1⟩,fun v hv=>?_⟩
 ·obtain ⟨h1,h2,h3⟩:=hat j v hv
  obtain ⟨e,e1,e2⟩:=flatten_at es hes j a ha
  exact (k6 _ _ e (List.getElem?_eq_getElem (by omega)) e1).2.1.2 _ _ _ e2 h3
 ·obtain ⟨j,hj⟩:=List.mem_iff_getElem?.1 hv
  obtain ⟨h1,h2,h3⟩:=hat j v hj
  exact (k6 (j / t.size) _ _ (List.getElem?_eq_getElem (by omega)) (List.getElem?_eq_getElem (by omega))).2.2 v (List.mem_of_getElem? h3)
theorem Opens.nilslice {t:Ty}:Opens Pg W lim w (.slice t) [.slice none 0 0]:=by
 refine Opens.atom1 (t:=.slice t) (x:=([]:List t.den)) rfl rfl fun H=>⟨Nat.zero_le _,none,0,rfl,fun _=>⟨rfl,rfl⟩,fun a ha=>by cases ha⟩
theorem Opens.slice {t:Ty} {a:Addr} {len cap:Nat} {cs:Nat→List Value} (hl:len≤cap) (hc:cap≤maxLen) (hsz:t.size≠0)
  (hel:∀i,i<cap→w.cells? 0 (a.add (i*t.size)) t.size=some (cs i)∧Opens Pg W lim w t (cs i)):Opens Pg W lim w (.slice t) [.slice (some a) len cap]:=by
 intro σ H h hn
 by_cases h0:len=0
 ·subst h0
  obtain ⟨m1,m2⟩:=h.snoc hn ⟨a.block,a.off,cap*t.size⟩ .dead rfl trivial
  refine ⟨[.dead],_,[.slice (some ⟨H.length,0,none⟩) 0 (loose t.size)],[],m1,hn.snoc rfl,m2,zLr.cons ?_ zLr.nil,⟨Nat.zero_le _,some ⟨H.length,0,none⟩,loose t.size,rfl,fun h=>(by cases h),fun b hb=>?_⟩,fun v hv=>by simp at hv;subst hv;rfl⟩
  ·by_cases hcap:cap=0
   ·subst hcap
    exact .eslice sigAt_same (.inr ⟨_,rfl⟩)
   ·have hsp:a.spot=none:=by
     obtain ⟨h1,h2⟩:=hel 0 (by omega)
     obtain ⟨_,h3,h4⟩:=World.cells?_some h1
     have h5:=h4 0 (by omega)
     rw [List.getElem?_eq_getElem (by omega)] at h5
     have:=World.cell?_spot h5
     simpa [Addr.add] using this
    obtain ⟨b,o,s⟩:=a
    simp only at hsp;subst hsp
    exact .lslice (L:=⟨b,o,cap*t.size⟩) (k:=0) sigAt_same hl (by simp)
  ·cases hb
   exact ⟨rfl,rfl,rfl,fun h=>absurd rfl h⟩
 ·obtain ⟨X,σ1,es,xs,k1,k2,k3,k4,k5,k6⟩:=opens_elems (n:=len) (cs:=cs) (fun i hi=>(hel i (by omega)).2) h hn
  have hsp:a.spot=none:=by
   obtain ⟨h1,h2⟩:=hel 0 (by omega)
   obtain ⟨_,h3,h4⟩:=World.cells?_some h1
   have h5:=h4 0 (by omega)
   rw [List.getElem?_eq_getElem (by omega)] at h5
   have:=World.cell?_spot h5
   simpa [Addr.add] using this
  have hcell:∀i,i<len→∀j,j<t.size→∃v,(cs i)[j]? = some v∧w.cell? ⟨a.block,a.off+(i*t.size+j),none⟩=some v:=by
   intro i hi j hj
   obtain ⟨_,h3,h4⟩:=World.cells?_some (hel i (by omega)).1
   have h5:=h4 j hj
   have hg:(cs i)[j]? = some ((cs i)[j]'(by omega)):=List.getElem?_eq_getElem _
   rw [hg,Go.Deep.add_add] at h5
   refine ⟨_,hg, ?_⟩
   rw [←h5]
   congr 1
   obtain ⟨b,o,s⟩:=a
   simp only at hsp;subst hsp
   exact (addr_add (b:=b) (o:=o)).symm
  obtain ⟨v0,_,hv0⟩:=hcell 0 (by omega) 0 (by omega)
  have hheap:∃cells el fz,w.heap[a.block]? = some (.cells cells el fz):=by
   unfold World.cell? at hv0
   split at hv0
   ·rename_i c el fz hh;exact ⟨c,el,fz,hh⟩
   ·cases hv0
  obtain ⟨cells,el,fz,hh⟩:=hheap
  have hes:∀e∈es,e.length=t.size:=by
   intro e he
   obtain ⟨i,hi,rfl⟩:=List.mem_iff_getElem.1 he
   exact (k6 i _ _ (List.getElem?_eq_getElem (by omega)) (List.getElem?_eq_getElem hi)).1.len
  have hblk:BlkRel Pg (sigAt σ1 (H++X).length ⟨a.block,a.off,cap*t.size⟩) w ⟨a.block,a.off,cap*t.size⟩ (.cells true es.flatten):=by
   refine ⟨cells,el,fz,hh,fun j v hv=>?_,fun h=>by cases h⟩
   obtain ⟨e,h1,h2⟩:=flatten_at es hes j v hv
   have hi:j / t.size<len:=by have:=(List.getElem?_eq_some_iff.1 h1).1;omega
   have hj:j % t.size<t.size:=Nat.mod_lt _ (by omega)
   obtain ⟨q1,q2,q3⟩:=k6 _ _ e (List.getElem?_eq_getElem (by omega)) h1
   obtain ⟨u,r1,r2⟩:=hcell _ hi _ hj
   refine ⟨u, ?_,(q2.2 _ _ _ h2 r1).mono ?_,q3 u (List.mem_of_getElem? r1)⟩
   ·rw [Nat.div_add_mod' j t.size] at r2
    simpa [World.cell?,hh] using r2
   ·intro i K hi
    have:=k1.lt hi
    rw [sigAt_ne (by omega)];exact hi
  obtain ⟨m1,m2⟩:=k1.snoc k2 _ _ rfl hblk
  refine ⟨X++[.cells true es.flatten],_,[.slice (some ⟨(H++X).length,0,none⟩) len (loose t.size)],xs,by rw [←List.append_assoc];exact m1,by rw [←List.append_assoc];exact k2.snoc rfl,Sig.le_trans k3 m2,zLr.cons ?_ zLr.nil, ?_,fun v hv=>by simp at hv;subst hv;rfl⟩
  ·obtain ⟨b,o,s⟩:=a
   simp only at hsp;subst hsp
   exact .lslice (L:=⟨b,o,cap*t.size⟩) (k:=0) sigAt_same hl (by simp)
  ·refine ⟨by rw [k5];omega,some ⟨(H++X).length,0,none⟩,loose t.size,by rw [k5],(fun h=>(by cases h)),fun b hb=>?_⟩
   cases hb
   refine ⟨rfl,rfl,rfl,fun _=>⟨es, ?_,by omega,fun i x e hx he=>?_⟩⟩
   ·rw [←List.append_assoc];exact zHn
   ·rw [←List.append_assoc];exact (k6 i x e hx he).1.app _
section
variable (P:Program)
def tyFields (f:TypeId→Option Ty):List Field→Nat→Option Ty
 | [],_=>some .nil
 | fd::fs,off=>if fd.offset=off then match f fd.type with
   | some ty=>if ty.size=P.cellsOf fd.type then match tyFields f fs (off+ty.size) with
     | some r=>some (.pair ty r)
     | none=>none
     else none
   | none=>none
   else none
def tyOf:Nat→TypeId→Option Ty
 | 0,_=>none
 | n+1,t=>match P.underlying t with
   | some .bool=>some .bool
   | some (.int k)=>some (.int k)
   | some .string=>some .str
   | some (.slice e)=>match tyOf n e with
     | some ty=>if ty.size=P.cellsOf e∧ty.size≠0 then some (.slice ty) else none
     | none=>none
   | some (.array k e)=>match tyOf n e with
     | some ty=>if ty.size=P.cellsOf e∧k*ty.size=P.cellsOf t then some (.arr k ty) else none
     | none=>none
   | some (.struct fs)=>match tyFields P (tyOf n) fs.toList 0 with
     | some ty=>if ty.size=P.cellsOf t then some ty else none
     | none=>none
   | _=>none
end
variable {P:Program} {H:Type} {enc:TypeId×Value→H} {held:Bool}
theorem opens_fields {n m:Nat} {cs:List Value} (ih:∀t ty cs x,tyOf P n t=some ty→DataW.trod enc P w 0 (fun _=>true) held m t cs=some x→Opens Pg W lim w ty cs) :
  ∀(fs:List Field) (off:Nat) (xs:List (DataW H×List MemPlace)) (ty:Ty),tyFields P (tyOf P n) fs off=some ty→off+ty.size=cs.length→(∀(i:Nat) f,fs[i]? = some f→DataW.trod enc P w 0 (fun _=>true) held m f.type ((cs.drop f.offset).take (P.cellsOf f.type))=xs[i]?)→xs.length=fs.length→Opens Pg W lim w ty (cs.drop off)
 | [],off,xs,ty,ht,hl,hx,hxl=>by
   simp only [tyFields,Option.some.injEq] at ht
   subst ht
   rw [List.drop_eq_nil_of_le (by simp [Ty.size] at hl;omega)]
   exact Opens.nil
 | fd::fs,off,xs,ty,ht,hl,hx,hxl=>by
   simp only [tyFields] at ht
   split at ht
   case isFalse=>cases ht
   rename_i ho
   split at ht
   case h_2=>cases ht
   rename_i ty1 h1
   split at ht
   case isFalse=>cases ht
   rename_i hs
   split at ht
   case h_2=>cases ht
   rename_i r hr
   cases ht
   simp only [Ty.size] at hl
   match xs,hxl with
   | x0::xs,hxl=>
     have h2:=hx 0 fd rfl
     simp only [List.getElem?_cons_zero] at h2
     have h3:=ih _ _ _ _ h1 h2
     have h4:=opens_fields (cs:=cs) ih fs (off+ty1.size) xs r hr (by omega) (fun i f hf=>by simpa using hx (i+1) f (by simpa using hf)) (by simpa using hxl)
     rw [ho,←hs] at h3
     have:=Opens.pair h3 h4
     rw [←List.drop_drop,List.take_append_drop] at this
     exact this
theorem opens_trod:∀(n m:Nat) {t:TypeId} {ty:Ty} {cs:List Value} {x:DataW H×List MemPlace},tyOf P n t=some ty→DataW.trod enc P w 0 (fun _=>true) held m t cs=some x→Opens Pg W lim w ty cs
 | 0,_,t,ty,cs,x,ht,_=>by simp [tyOf] at ht
 | n+1,m,t,ty,cs,x,ht,h=>by
   simp only [tyOf] at ht
   split at ht
   ·rename_i hu;cases ht
    obtain ⟨b,rfl,_⟩:=DataW.trod_bool hu h
    exact Opens.bool
   ·rename_i k hu;cases ht
    obtain ⟨b,rfl,_,hw⟩:=DataW.trod_int hu h
    exact Opens.int hw
   ·rename_i hu;cases ht
    obtain ⟨b,rfl,_,hw⟩:=DataW.trod_string hu h
    exact Opens.str hw
   ·rename_i e hu
    split at ht
    case h_2=>cases ht
    rename_i ty' he
    split at ht
    case isFalse=>cases ht
    rename_i hs
    cases ht
    rcases Go.Deep.open_slice hu h with ⟨rfl,_⟩ | ⟨a,len,cap,mm,m',D,Pl,rfl,hb,hl,hm,hmm,hx,hi⟩
    ·exact Opens.nilslice
    ·simp only [if_true] at hmm
     subst hmm
     have hel:∀i,∃cs',i<mm→w.cells? 0 (a.add (i*ty'.size)) ty'.size=some cs'∧Opens Pg W lim w ty' cs':=by
      intro i
      by_cases him:i<mm
      ·obtain ⟨cs',h1,h2⟩:=hi i him
       exact ⟨cs',fun _=>⟨by rw [hs.1];exact h1,opens_trod n m' he h2⟩⟩
      ·exact ⟨[],fun h=>absurd h him⟩
     exact Opens.slice (cs:=fun i=>Classical.choose (hel i)) hl hm hs.2 fun i hi=>Classical.choose_spec (hel i) hi
   ·rename_i k e hu
    split at ht
    case h_2=>cases ht
    rename_i ty' he
    split at ht
    case isFalse=>cases ht
    rename_i hs
    cases ht
    obtain ⟨xs,m',_,_,hcl,hxl,hf⟩:=DataW.trod_array hu h
    refine Opens.arr (by rw [hcl,hs.2]) fun i hi=>?_
    have h1:=hf i hi
    rw [List.getElem?_eq_getElem (by omega)] at h1
    rw [hs.1]
    exact opens_trod n m' he h1
   ·rename_i fs hu
    split at ht
    case h_2=>cases ht
    rename_i ty' he
    split at ht
    case isFalse=>cases ht
    rename_i hs
    cases ht
    obtain ⟨xs,m',_,_,hcl,hxl,hf⟩:=DataW.trod_struct hu h
    have:=opens_fields (cs:=cs) (fun t ty cs x h1 h2=>opens_trod n m' h1 h2) fs.toList 0 xs ty he (by omega) (fun i f hf'=>hf i f (by simpa using hf')) (by simpa using hxl)
    simpa using this
   ·cases ht
end
def isRow:Ty→Bool
 | .nil=>true
 | .pair _ _=>true
 | .arr _ _=>true
 | _=>false
def RepV (t:Ty) (H:zH) (x:t.den) (v:Value):Prop:=if isRow t=true then ∃as,v=.agg as.toArray∧Rep t H x as else Rep t H x [v]
abbrev dens:List Ty→Type
 | []=>Unit
 | t::ts=>t.den×dens ts
def RepAll:(ts:List Ty)→zH→dens ts→List Value→Prop
 | [],_,_,vs=>vs=[]
 | t::ts,H,x,vs=>∃v r,vs=v::r∧RepV t H x.1 v∧RepAll ts H x.2 r
theorem RepV.app {t:Ty} {H:zH} {x:t.den} {v:Value} (h:RepV t H x v) (X:zH):RepV t (H++X) x v:=by
 unfold RepV at *
 split
 ·rename_i hr
  rw [if_pos hr] at h
  obtain ⟨as,e,k⟩:=h
  exact ⟨as,e,k.app X⟩
 ·rename_i hr
  rw [if_neg hr] at h
  exact h.app X
section
variable {P:Program} {H:Type} {enc:TypeId×Value→H} {w:World} {Pg:Prg} {W:Nat→Prop} {lim:Nat}
theorem tyFields_row {f:TypeId→Option Ty}:∀{fs:List Field} {off:Nat} {ty:Ty},tyFields P f fs off=some ty→isRow ty=true
 | [],off,ty,h=>by simp only [tyFields,Option.some.injEq] at h;subst h;rfl
 | fd::fs,off,ty,h=>by
   simp only [tyFields] at h
   split at h
   ·split at h
    ·split at h
     ·split at h
      ·cases h;rfl
      ·cases h
     ·cases h
    ·cases h
   ·cases h
theorem arg_cells {n:Nat} {t:TypeId} {ty:Ty} {v:Value} {r:Reach} {base:Nat} (ht:tyOf P n t=some ty) (hv:Value.okWide P w r base t v):if isRow ty=true then ∃cs,v=.agg cs else v.cells.toList=[v]:=by
 cases n with
 | zero=>simp [tyOf] at ht
 | succ n=>
   simp only [tyOf] at ht
   split at ht
   ·rename_i hu;cases ht
    obtain ⟨b,rfl⟩:=okWide_bool hu hv
    rfl
   ·rename_i k hu;cases ht
    obtain ⟨b,rfl⟩:=okWide_int hu hv
    rfl
   ·rename_i hu;cases ht
    obtain ⟨b,rfl⟩:=okWide_string hu hv
    rfl
   ·rename_i e hu
    split at ht
    case h_2=>cases ht
    split at ht
    case isFalse=>cases ht
    cases ht
    obtain ⟨a,l,c,rfl⟩:=okWide_slice hu hv
    rfl
   ·rename_i k e hu
    split at ht
    case h_2=>cases ht
    rename_i ty' he
    split at ht
    case isFalse=>cases ht
    cases ht
    have hv2:=hv
    simp only [Value.okWide,hu] at hv2
    obtain ⟨cs,rfl,_⟩:=hv2
    exact ⟨cs,rfl⟩
   ·rename_i fs hu
    split at ht
    case h_2=>cases ht
    rename_i ty' he
    split at ht
    case isFalse=>cases ht
    cases ht
    obtain ⟨cs,rfl,_⟩:=okWide_struct hu hv
    rw [if_pos (tyFields_row he)]
    exact ⟨cs,rfl⟩
   ·cases ht
theorem opens_args {n:Nat} {r:Reach} {base:Nat}:∀{ts:List TypeId} {vs:List Value} {ds:List (DataW H)} {ps:List MemPlace} {tys:List Ty},DataW.TrodAll enc P w 0 (fun _=>true) true ts vs ds ps→ts.mapM (tyOf P n)=some tys→
  (∀(j:Nat) t v,ts[j]? = some t→vs[j]? = some v→Value.okWide P w r base t v)→∀σ H,Inv Pg W lim σ H w→NoOwn H→
  ∃X σ' as x,Inv Pg W lim σ' (H++X) w∧NoOwn (H++X)∧Sig.le σ σ'∧zLr σ' as vs∧RepAll tys (H++X) x as
 | [],[],[],ps,tys,_,ht,_,σ,Hp,hi,hn=>by
   simp at ht;subst ht
   exact ⟨[],σ,[],(),by simpa using hi,by simpa using hn,Sig.le_refl _,zLr.nil,rfl⟩
 | t::ts,v::vs,d::ds,ps,tys,hA,ht,hv,σ,Hp,hi,hn=>by
   obtain ⟨p,q,h1,h2,rfl⟩:=hA
   rw [List.mapM_cons] at ht
   obtain ⟨ty,hty,ht⟩:=zOb ht
   obtain ⟨tr,htr,ht⟩:=zOb ht
   cases ht
   obtain ⟨m,hm⟩:=h1
   have hc:=arg_cells hty (hv 0 t v rfl rfl)
   obtain ⟨X,σ1,as,x,k1,k2,k3,k4,k5,k6⟩:=opens_trod n m hty hm σ Hp hi hn
   obtain ⟨Y,σ2,bs,y,m1,m2,m3,m4,m5⟩:=opens_args h2 htr (fun j t' v' e1 e2=>hv (j+1) t' v' (by simpa using e1) (by simpa using e2)) σ1 _ k1 k2
   have key:∃av,zVr σ1 av v∧RepV ty (Hp++X) x av:=by
    split at hc
    ·rename_i hr
     obtain ⟨cs,rfl⟩:=hc
     refine ⟨.agg as.toArray,zVr.agg_iff.2 ⟨by simpa [Value.cells] using k4,by simpa [Value.cells] using k6⟩, ?_⟩
     unfold RepV;rw [if_pos hr]
     exact ⟨as,rfl,k5⟩
    ·rename_i hr
     rw [hc] at k4
     have hl:=k4.1
     match as,hl,k4,k5 with
     | [a],_,k4,k5=>
       refine ⟨a,k4.head, ?_⟩
       unfold RepV;rw [if_neg hr]
       exact k5
   obtain ⟨av,q1,q2⟩:=key
   refine ⟨X++Y,σ2,av::bs,(x,y),by rw [←List.append_assoc];exact m1,by rw [←List.append_assoc];exact m2,Sig.le_trans k3 m3,zLr.cons (q1.mono m3) m4,av,bs,rfl, ?_, ?_⟩
   ·rw [←List.append_assoc];exact q2.app Y
   ·rw [←List.append_assoc];exact m5
 | [],[],_::_,_,_,hA,_,_,_,_,_,_=>hA.elim
 | [],_::_,_,_,_,hA,_,_,_,_,_,_=>hA.elim
 | _::_,[],_,_,_,hA,_,_,_,_,_,_=>hA.elim
 | _::_,_::_,[],_,_,hA,_,_,_,_,_,_=>hA.elim
theorem trodAll_stays (hl:laidOutB P=true) {w':World} (hb:Below w.heap.size w w'):∀{ts:List TypeId} {vs:List Value} {ds:List (DataW H)} {ps:List MemPlace},(∀t∈ts,P.readableRec t=true∧t<P.types.size)→DataW.TrodAll enc P w 0 (fun _=>true) true ts vs ds ps→
  (∀x∈ps,x.block<w.heap.size)→DataW.TrodAll enc P w' 0 (fun b=>decide (b<w.heap.size)) true ts vs ds ps
 | [],[],[],ps,_,h,_=>h
 | t::ts,v::vs,d::ds,ps,hr,h,hlt=>by
   obtain ⟨p,q,h1,h2,rfl⟩:=h
   exact ⟨p,q,Below.trod hl (hr t (by simp)).1 (hr t (by simp)).2 h1 hb fun x hx=>hlt x (by simp [hx]),trodAll_stays hl hb (fun t' ht'=>hr t' (by simp [ht'])) h2 fun x hx=>hlt x (by simp [hx]),rfl⟩
 | [],[],_::_,_,_,hA,_=>hA.elim
 | [],_::_,_,_,_,hA,_=>hA.elim
 | _::_,[],_,_,_,hA,_=>hA.elim
 | _::_,_::_,[],_,_,hA,_=>hA.elim
theorem trodAll_length:∀{ts:List TypeId} {vs:List Value} {ds:List (DataW H)} {ps:List MemPlace},DataW.TrodAll enc P w 0 (fun _=>true) true ts vs ds ps→ds.length=ts.length
 | [],[],[],ps,_=>rfl
 | t::ts,v::vs,d::ds,ps,h=>by
   obtain ⟨p,q,h1,h2,rfl⟩:=h
   simp [trodAll_length h2]
 | [],[],_::_,_,hA=>hA.elim
 | [],_::_,_,_,hA=>hA.elim
 | _::_,[],_,_,hA=>hA.elim
 | _::_,_::_,[],_,hA=>hA.elim
end
theorem law_returns {C:Checked} {os:Os} {g:FuncId} {fn:Func} {s:ChangeSpec} {E:Env} {tys:List Ty} {tb:TypeId} {conds:List PathCond} {H:Type} {enc:TypeId×Value→H}
  (own:ownKnob C.prog.godebug=none) (started:os.Started) (noInit:C.prog.inits.idxOf? g=none) (hfn:C.prog.funcs[g]? = some fn) (hvars:s.vars=[])
  (hspec:∀ds:List (DataW H),ds.length=fn.params.size→s.fn H ds={ results:=[.lit (.bool true)],args:=ds })
  (hres:fn.resultTypes=#[tb]) (hb:C.prog.underlying tb=some .bool) (htys:fn.params.toList.mapM (tyOf C.prog 9)=some tys)
  (hread:∀t∈fn.params.toList,C.prog.readableRec t=true∧t<C.prog.types.size) (hlaid:laidOutB C.prog=true) (hE:EnvOk C.prog E)
  (witness:∃(w:World) (tape:Tape) (i:Input),w.os=os∧(w.forCall tape i).Shaped C.prog∧i.vars=[]∧Input.okWide C.prog (w.forCall tape i) .any w.heap.size g i∧
   s.pre6 enc C.prog fn conds false (w.forCall tape i).memory i.args∧({}:Assume).holds C.prog (lone (Frame.enter C.prog g i.args .normal) [] (w.forCall tape i)))
  (run:∀H vs x,RepAll tys H x vs→CallR E false H.length g vs H fun v _=>v=.bool true) (hgl:∀w,Gl C.prog w:=by exact fun _=>trivial) :
  ReturnsInHanded {} C os g .any (s.pre6 enc C.prog fn conds false) (s.post enc C.prog fn false true false false):=by
 refine returnsInHanded_of_change own started noInit hfn witness ?_
 intro w base args ds gs before hval hW hcnd hholds
 have hW':=hW
 obtain ⟨p,q,hA,hV,rfl,hfz,hnd⟩:=hW
 rw [hvars] at hV
 obtain ⟨rfl,rfl⟩:=trodVars_none hV
 obtain ⟨X,σ,as,x,k1,k2,k3,k4,k5⟩:=opens_args hA htys (fun j t v h1 h2=>hval j t v (by simpa using h1) (by simpa using h2)) (fun _=>none) [] (Inv.nil (P:=C.prog) (E:=E) w ⟨w,hgl w,Nat.le_refl _,fun _ _=>rfl⟩) (fun i b hb=>by simp at hb)
 rw [List.nil_append] at k1 k2 k5
 have k1':Inv (Prg.mk C.prog E.pure) (fun k=>w.heap.size≤k) X.length σ X w:=⟨k1.toRoot,k1.blk,k1.inj,(fun i b L hb ho=>by rw [k2 i b hb] at ho;cases ho),k1.dom⟩
 obtain ⟨n,LL,hx,hrun⟩:=run X as x k5
 have hcall:=(callOkS hE n).calls _ _ _ _ _ _ hx (Nat.le_refl _) _ _ _ _ k1' k4
 rw [show args.toList.toArray=args by simp] at hcall
 refine hcall.mono fun e w' hp=>?_
 obtain ⟨r,hr,v',σ',rfl,hv,hinv,hst,_⟩:=hp
 rw [hrun.2 r hr] at hv
 rw [hv.bool_left]
 have hbel:Below w.heap.size w w':=⟨hst.os,hst.tape,hst.output.1,hst.size,fun k hk=>hst.block k (by omega)⟩
 have hlt:∀x∈p,x.block<w.heap.size:=fun x hx=>by
  have:=hW'.lt x (by simpa using hx)
  simpa using this
 have hs:=hspec ds (by simpa using trodAll_length hA)
 refine ⟨_,rfl,_,_,_,[],p,[],hW', ?_, ?_, ?_,hbel.frame _,fun h=>by cases h⟩
 ·rw [List.append_nil,hs,hres]
  exact trodAll_mk1 (shut_bool hb true)
 ·rw [List.append_nil,hs]
  exact trodAll_stays hlaid hbel hread hA hlt
 ·rw [List.append_nil,hs,hvars]
  rfl
theorem Rep.sl {t:Ty} {H:zH} {l:List t.den} {cs:List Value} {α:Type} (f:t.den→α) (enc:α→List Value) (he:∀H x c,Rep t H x c→c=enc (f x)) (h:Rep (.slice t) H l cs) :
  ∃p cap,cs=[.slice p (l.map f).length cap]∧Sl H enc t.size p (l.map f)∧l.length<2 ^ 63:=by
 obtain ⟨h0,p,cap,e,h1,h2⟩:=h
 have hlen:l.length<2 ^ 63:=by unfold maxLen at h0;omega
 refine ⟨p,cap,by rw [e,List.length_map], ?_,hlen⟩
 cases p with
 | none=>simp only [Sl];rw [(h1 rfl).1];rfl
 | some a=>
   obtain ⟨k1,k2,k3,k4⟩:=h2 a rfl
   refine ⟨k1,fun hn=>?_⟩
   obtain ⟨es,m1,m2,m3⟩:=k4 (by rintro rfl;exact hn rfl)
   have key:es.flatten=(l.map f).flatMap enc:=by
    have:es=l.map fun x=>enc (f x):=by
     apply List.ext_getElem (by simpa using m2)
     intro i i1 i2
     have i3:i<l.length:=by simpa using i2
     have:=he _ _ _ (m3 i l[i] es[i] (List.getElem?_eq_getElem _) (List.getElem?_eq_getElem _))
     rw [this];simp
    rw [this,List.flatMap_def,List.map_map]
    rfl
   have hfl:es.flatten.length=l.length*t.size:=by
    have:∀(es:List (List Value)),(∀x∈es,x.length=t.size)→es.flatten.length=es.length*t.size:=by
     intro es
     induction es with
     | nil=>simp
     | cons x es ih=>intro h;simp [ih fun y hy=>h y (by simp [hy]),h x (by simp),Nat.add_mul,Nat.add_comm]
    rw [this es,m2]
    intro x hx
    obtain ⟨i,hi,rfl⟩:=List.mem_iff_getElem.1 hx
    exact (m3 i _ _ (List.getElem?_eq_getElem (by omega)) (List.getElem?_eq_getElem hi)).len
   refine ⟨true,_,m1, ?_, ?_⟩
   ·rw [k2,hfl,List.length_map];omega
   ·rw [k2,List.drop_zero,key,List.take_of_length_le]
    rw [←key,hfl,List.length_map]
    exact Nat.le_refl _
theorem RepV.row {t:Ty} {H:zH} {x:t.den} {v:Value} (hr:isRow t=true) (h:RepV t H x v):∃cs,v=.agg cs.toArray∧Rep t H x cs:=by
 unfold RepV at h
 rw [if_pos hr] at h
 exact h
theorem RepV.one {t:Ty} {H:zH} {x:t.den} {v:Value} (hr:isRow t=false) (h:RepV t H x v):Rep t H x [v]:=by
 unfold RepV at h
 rw [if_neg (by rw [hr];decide)] at h
 exact h
end Go.AM

namespace Go.AM
structure Chg (A:List Nat) (H H':zH):Prop where
 len:H.length≤H'.length
 other:∀j,j<H.length→j∉A→zG H' j=zG H j
section
variable {A B:List Nat} {H H' K:zH}
theorem Chg.refl:Chg A H H:=⟨Nat.le_refl _,fun _ _ _=>rfl⟩
theorem Chg.trans (h:Chg A H H') (k:Chg A H' K):Chg A H K:=⟨Nat.le_trans h.len k.len,fun j hj hA=>(k.other j (by have:=h.len;omega) hA).trans (h.other j hj hA)⟩
theorem Chg.mono (h:Chg A H H') (hs:∀j,j<H.length→j∈A→j∈B):Chg B H H':=⟨h.len,fun j hj hB=>h.other j hj fun hA=>hB (hs j hj hA)⟩
theorem Chg.app (h:Chg A H H') {X:zH}:Chg A H (H'++X):=⟨by have:=h.len;simp;omega,fun j hj hA=>by rw [zHo (by have:=h.len;omega)];exact h.other j hj hA⟩
theorem Chg.pre (h:Chg A (H++K) H'):Chg A H H':=⟨by have:=h.len;simp at this;omega,fun j hj hA=>by rw [h.other j (by simp;omega) hA,zHo hj]⟩
theorem Chg.mut {R:Nat} (h:Chg A H H') (m:Mut H' K R) (hR:R∈A∨H.length≤R):Chg A H K:=⟨by rw [m.len];exact h.len,fun j hj hA=>by
 rw [m.other j (by rintro rfl;rcases hR with h1 | h1;exact hA h1;omega)];exact h.other j hj hA⟩
theorem Chg.set {R:Nat} {b:Blk} (h:Chg A H H') (hR:R∈A∨H.length≤R):Chg A H (H'.set R b):=h.mut (R:=R) ⟨by simp,fun j hj=>zHs hj⟩ hR
theorem Chg.get (h:Chg A H H') {j:Nat} {b:Blk} (hj:zG H j=b) (hl:j<H.length) (hA:j∉A):zG H' j=b:=by rw [h.other j hl hA];exact hj
theorem Chg.cells (h:Chg A H H') {j:Nat} {ro:Bool} {c:List Value} (hj:zG H j=.cells ro c) (hA:j∉A):zG H' j=.cells ro c:=h.get hj (zHa hj) hA
theorem Chg.sl {α:Type} {enc:α→List Value} {e:Nat} {p:Option Addr} {l:List α} (h:Chg A H H') (hs:Sl H enc e p l) (hp:∀a,p=some a→l≠[]→a.block∉A):Sl H' enc e p l:=by
 cases p with
 | none=>exact hs
 | some a=>
   refine ⟨hs.1,fun hn=>?_⟩
   obtain ⟨ro,c,h2,h3⟩:=hs.2 hn
   exact ⟨ro,c,h.cells h2 (hp a rfl hn),h3⟩
theorem Ext.chg (h:Ext H H'):Chg A H H':=by obtain ⟨X,rfl⟩:=h;exact Chg.refl.app
theorem Chg.ext (h:Chg [] H H'):Ext H H':=by
 refine ⟨H'.drop H.length, ?_⟩
 apply List.ext_getElem
 ·have:=h.len;simp;omega
 intro i h1 h2
 by_cases hi:i<H.length
 ·rw [List.getElem_append_left hi]
  have:=h.other i hi (by simp)
  unfold zG at this
  rw [List.getD_eq_getElem?_getD,List.getD_eq_getElem?_getD,List.getElem?_eq_getElem h1,List.getElem?_eq_getElem hi] at this
  exact this
 ·rw [List.getElem_append_right (by omega),List.getElem_drop]
  congr 1
  omega
end
theorem Sl.lt {α:Type} {H:zH} {enc:α→List Value} {e:Nat} {a:Addr} {l:List α} (h:Sl H enc e (some a) l) (hn:l≠[]):a.block<H.length:=by
 obtain ⟨ro,c,h2,_⟩:=h.2 hn
 exact zHa h2
theorem Sl.some {α:Type} {H:zH} {enc:α→List Value} {e:Nat} {p:Option Addr} {l:List α} (h:Sl H enc e p l) (hn:l≠[]):∃a,p=some a:=by
 cases p with
 | none=>exact absurd h hn
 | some a=>exact ⟨a,rfl⟩
section
variable {α:Type} [Inhabited α] {H:zH} {enc:α→List Value} {e:Nat} {p:Option Addr} {l:List α}
omit [Inhabited α] in
theorem store_elt {lim S:Nat} (he:∀x,(enc x).length=e) (hp:p=Option.some ⟨S,0,none⟩) (hS:zG H S=.cells false (l.flatMap enc)) (hl:lim≤S) {i:Nat} (hi:i<l.length) (y:α):AM.storeAt lim H (elt p e i) (enc y)=Option.some (H.set S (.cells false ((l.set i y).flatMap enc))):=by
 subst hp
 have h1:i*e+e≤l.length*e:=by
  have:=Nat.mul_le_mul_right e (Nat.succ_le_of_lt hi)
  rw [Nat.succ_mul] at this;exact this
 simp only [elt,addrOf,Option.getD_some,addr_add,storeAt_lit,hS,Nat.zero_add]
 rw [if_pos ⟨hl,by rw [he,flat_len he];exact h1⟩,flat_set he y _ _ hi]
end
theorem store_mut {α:Type} {G:zH} {enc:α→List Value} {e:Nat} {p:Option Addr} {l:List α} {lim S:Nat} (he:∀x,(enc x).length=e) (hp:p=some ⟨S,0,none⟩) (hS:zG G S=.cells false (l.flatMap enc)) (hl:lim≤S) {i:Nat} (hi:i<l.length) (y:α) :
  ∃G',(∀X,AM.storeAt lim (G++X) (elt p e i) (enc y)=some (G'++X))∧zG G' S=.cells false ((l.set i y).flatMap enc)∧Mut G G' S:=by
 obtain ⟨G',h1,h2,h3⟩:=mut_set (zHa hS) (.cells false ((l.set i y).flatMap enc))
 exact ⟨G',fun X=>by rw [store_elt he hp (by rw [zHo (zHa hS)];exact hS) hl hi,h1],h2,h3⟩
theorem Own.step {α:Type} {lim lim' e bytes cap:Nat} {G:zH} {enc:α→List Value} {p:Option Addr} {l:List α} (h:Own lim G enc e p cap l) (hll:lim'≤lim) (he:∀x,(enc x).length=e) (he0:e≠0) (x:α) (hb:(l.length+1)*bytes≤maxBytes) (hn:l.length+1<2 ^ 61) (hlG:lim≤G.length)
  (X:zH) (b k:Nat) (hx:zG (G++X) b=.cells false (enc x)) :
  ∃G2,zAa lim' none e bytes false (.slice p l.length cap) (.slice (some ⟨b,0,none⟩) 1 k) (G++X)=some (.slice (some ⟨G.length+X.length,0,none⟩) (l.length+1) (loose e),G2++[])∧
   Own lim (G2++[]) enc e (some ⟨G.length+X.length,0,none⟩) (loose e) (l++[x])∧(∀A H0,H0.length≤lim→Chg A H0 G→Chg A H0 (G2++[]))∧(∀j,j<G.length→(∀a,p=some a→j≠a.block)→zG (G2++[]) j=zG G j)∧G2.length=G.length+X.length+1∧
   (∀j,j<X.length→zG (G2++[]) (G.length+j)=X.getD j .dead):=by
 obtain ⟨G',R,hR1,hR2,hm,_,hp⟩:=h.push1 (lim':=lim') (bytes:=bytes) hll he he0 x hb hn
 have hRl:lim≤R:=by
  rcases Option.eq_none_or_eq_some p with h1 | ⟨a,h1⟩
  ·rw [hR1 h1];exact hlG
  ·rw [hR2 a h1];exact (h.block h1).1
 refine ⟨G'++(X++[.cells false ((l++[x]).flatMap enc)]),by rw [List.append_nil];exact hp X b k hx, ?_,fun A H0 h1 h2=>?_,fun j hj hp=>?_,by simp [hm.len];omega,fun j hj=>?_⟩
 ·rw [List.append_nil]
  refine Own.new ?_ (by omega)
  rw [←List.append_assoc,←hm.len,←List.length_append]
  exact zHn
 ·rw [List.append_nil]
  exact (h2.mut hm (.inr (by omega))).app
 ·rw [List.append_nil,zHo (by rw [hm.len];exact hj)]
  refine hm.other j ?_
  rcases Option.eq_none_or_eq_some p with h1 | ⟨a,h1⟩
  ·rw [hR1 h1];omega
  ·rw [hR2 a h1];exact hp a h1
 ·rw [List.append_nil,←hm.len,zHw,List.getD_eq_getElem?_getD,List.getElem?_append_left hj,List.getD_eq_getElem?_getD]
theorem setAll_mid:∀(vs a b c:List Value),vs.length=b.length→setAll (a++b++c) a.length vs=a++vs++c:=by
 intro vs
 induction vs with
 | nil=>intro a b c h;simp at h;have:b=[]:=List.length_eq_zero_iff.1 h.symm;subst this;rfl
 | cons v vs ih=>
   intro a b c h
   match b,h with
   | x::b,h=>
     rw [setAll_cons]
     have e1:(a++x::b++c).set a.length v=(a++[v])++b++c:=by simp
     rw [e1]
     have:=ih (a++[v]) b c (by simpa using h)
     rw [List.length_append] at this
     simp only [List.length_cons,List.length_nil,Nat.zero_add] at this
     rw [this];simp
theorem Sl.pre {α:Type} {H:zH} {enc:α→List Value} {e:Nat} {p:Option Addr} {l m:List α} (h:Sl H enc e p (l++m)) (he:∀x,(enc x).length=e):Sl H enc e p l:=by
 cases p with
 | none=>simp only [Sl] at h;exact (List.append_eq_nil_iff.1 h).1
 | some a=>
   refine ⟨h.1,fun hn=>?_⟩
   obtain ⟨ro,c,h1,h2,h3⟩:=h.2 (by simp [hn])
   have hle:l.length*e≤(l++m).length*e:=Nat.mul_le_mul_right e (by simp)
   refine ⟨ro,c,h1,by omega, ?_⟩
   have h4:=congrArg (List.take (l.length*e)) h3
   rw [List.take_take,Nat.min_eq_left hle,List.flatMap_append,List.take_append_of_le_length (by rw [flat_len he];exact Nat.le_refl _),List.take_of_length_le (l:=l.flatMap enc) (by rw [flat_len he];exact Nat.le_refl _)] at h4
   exact h4
theorem Sl.row {α:Type} {H:zH} {enc:α→List Value} {e R:Nat} {l:List α} (he:∀x,(enc x).length=e) {ro:Bool} (h:zG H R=.cells ro (l.flatMap enc)):Sl H enc e (Option.some ⟨R,0,none⟩) l:=Sl.lit he (by rw [h];rfl) (by rw [h];rfl)
theorem Own.chg {α:Type} {A:List Nat} {lim e cap:Nat} {G H':zH} {enc:α→List Value} {p:Option Addr} {l:List α} (h:Own lim G enc e p cap l) (hc:Chg A G H') (hp:∀a,p=some a→a.block∉A):Own lim H' enc e p cap l:=by
 rcases h with h | ⟨R,h1,h2,h3,h4⟩
 ·exact .inl h
 ·exact .inr ⟨R,h1,h2,hc.cells h3 (hp _ h1),h4⟩
theorem flat_take {α:Type} {enc:α→List Value} {e:Nat} (he:∀x,(enc x).length=e):∀(l:List α) (k:Nat),(l.take k).flatMap enc=(l.flatMap enc).take (k*e)
 | [],k=>by simp
 | x::l,0=>by simp
 | x::l,k+1=>by
   rw [List.take_succ_cons,List.flatMap_cons,List.flatMap_cons,flat_take he l k,List.take_append,he,List.take_of_length_le (l:=enc x) (by rw [he,Nat.succ_mul];omega),Nat.succ_mul,Nat.add_sub_cancel]
theorem flat_dropN {α:Type} {enc:α→List Value} {e:Nat} (he:∀x,(enc x).length=e):∀(l:List α) (k:Nat),(l.drop k).flatMap enc=(l.flatMap enc).drop (k*e)
 | [],k=>by simp
 | x::l,0=>by simp
 | x::l,k+1=>by
   rw [List.drop_succ_cons,List.flatMap_cons,flat_dropN he l k,List.drop_append,he,List.drop_eq_nil_of_le (as:=enc x) (by rw [he,Nat.succ_mul];omega),List.nil_append,Nat.succ_mul,Nat.add_sub_cancel]
theorem Sl.sub {α:Type} {H:zH} {enc:α→List Value} {e:Nat} {a:Addr} {l:List α} (h:Sl H enc e (Option.some a) l) (he:∀x,(enc x).length=e) {lo hi:Nat} (h1:lo≤hi) (h2:hi≤l.length):Sl H enc e (Option.some (a.add (lo*e))) ((l.take hi).drop lo):=by
 obtain ⟨b,o,s⟩:=a
 have hs:=h.1
 simp only at hs;subst hs
 rw [addr_add]
 refine ⟨rfl,fun hn=>?_⟩
 have hne:l≠[]:=by rintro rfl;simp at hn
 obtain ⟨ro,c,k1,k2,k3⟩:=h.2 hne
 have hlen:((l.take hi).drop lo).length=hi-lo:=by simp;omega
 have e1:(hi-lo)*e+lo*e=hi*e:=by rw [←Nat.add_mul,Nat.sub_add_cancel h1]
 have e2:hi*e≤l.length*e:=Nat.mul_le_mul_right e h2
 refine ⟨ro,c,k1,by simp only [hlen] at *;omega, ?_⟩
 simp only at k2 k3⊢
 rw [hlen,flat_dropN he,flat_take he,←k3,List.take_take,Nat.min_eq_left e2,List.drop_take,List.drop_drop,show hi*e-lo*e=(hi-lo)*e by omega]
theorem Sl.same {α:Type} {H G:zH} {enc:α→List Value} {e:Nat} {p:Option Addr} {l:List α} (h:Sl H enc e p l) (hg:∀a,p=Option.some a→l≠[]→zG G a.block=zG H a.block):Sl G enc e p l:=by
 cases p with
 | none=>exact h
 | some a=>
   refine ⟨h.1,fun hn=>?_⟩
   obtain ⟨ro,c,h2,h3⟩:=h.2 hn
   exact ⟨ro,c,by rw [hg a rfl hn];exact h2,h3⟩
end Go.AM

namespace Go.AM.Srt
open Go.AM Go.AM.Sym Go.Sort
def ltC {α:Type} (c:α→α→Int) (x y:α):Bool:=decide (c x y<0)
class EncOk {α:Type} (enc:α→List Value) (k:outParam Nat):Prop where
 len:∀x,(enc x).length=k
 ok:∀x,∀v∈enc x,atom v=true∧v.oneCell'=true
 inj:∀x y,enc x=enc y→x=y
structure Cmp {α:Type} (E0:Env) (enc:α→List Value) (cl:FuncId) (cs:List Value) (c:α→α→Int):Prop where
 atoms:∀v∈cs,atom v=true
 fn:∃af,E0.tr cl=some af
 call:∀x y,CallR E0 false 0 cl (.agg (enc x).toArray::.agg (enc y).toArray::cs) [] fun v _=>v=.int .i64 (c x y)
 swo:SWO (ltC c)
section
variable {E0:Env} {α:Type} [Inhabited α] {enc:α→List Value} {k:Nat} [K:EncOk enc k] {cl:FuncId} {cs:List Value} {c:α→α→Int} {lim:Nat} {H:zH}
def sortN (c:α→α→Int) (l:List α):List α:=(pdq (ltC c) l.toArray 0 l.length (Lib.bitLen l.length) true true).toList
theorem sortN_ok (hO:SWO (ltC c)) (l:List α):PermIn 0 l.length l.toArray (sortN c l).toArray∧SortedIn (ltC c) 0 l.length (sortN c l).toArray:=by
 have h:=pdq_sorts (ltC c) hO l.toArray 0 l.length (Lib.bitLen l.length) true true (Nat.zero_le _) (by simp) (Or.inl rfl)
 simpa [sortN] using h
theorem sortN_len (hO:SWO (ltC c)) (l:List α):(sortN c l).length=l.length:=by simpa using (sortN_ok hO l).1.1
def At (E0:Env) (enc:α→List Value) (xs:List Value) (H:zH) (x:Nat×List α×(α→α→Int)):Prop:=
 x.2.1≠[]∧x.2.1.length<4611686018427387904∧zG H x.1=.cells false (x.2.1.flatMap enc)∧∃cap cl cs,xs=[.slice (some ⟨x.1,0,none⟩) x.2.1.length cap,.func (.func cl) #[] (List.toArray cs)]∧Cmp E0 enc cl cs x.2.2
open Classical in
noncomputable def sortF (E0:Env) (enc:α→List Value) (xs:List Value) (H:zH):Option (Value×List (List Value)×Option (Nat×List Value)):=
 if h:∃x,At E0 enc xs H x then some (.tuple #[],[],some (h.choose.1,(sortN h.choose.2.2 h.choose.2.1).flatMap enc))
 else if ∃p cap f,xs=[.slice p 0 cap,f] then some (.tuple #[],[],none) else none
theorem flat_inj {α:Type} {enc:α→List Value} {k:Nat} (K:EncOk enc k):∀{l m:List α},l.length=m.length→l.flatMap enc=m.flatMap enc→l=m
 | [],[],_,_=>rfl
 | x::l,y::m,hl,h=>by
   rw [List.flatMap_cons,List.flatMap_cons] at h
   obtain ⟨h1,h2⟩:=List.append_inj h (by rw [K.len,K.len])
   rw [K.inj _ _ h1,flat_inj K (by simpa using hl) h2]
theorem Cmp.uniq {c':α→α→Int} (h:Cmp E0 enc cl cs c) (h':Cmp E0 enc cl cs c'):c=c':=by
 funext x y
 obtain ⟨n,L,a1,a2⟩:=h.call x y
 obtain ⟨n',L',b1,b2⟩:=h'.call x y
 have e1:=aCall_le E0 (Nat.le_max_left n n') _ _ _ _ _ _ a1
 have e2:=aCall_le E0 (Nat.le_max_right n n') _ _ _ _ _ _ b1
 rw [e1] at e2;cases e2
 cases L with
 | nil=>exact absurd rfl (aCall_ne E0 a1)
 | cons r L=>
   have e1:=a2.2 r (List.mem_cons_self)
   have e2:=b2.2 r (List.mem_cons_self)
   rw [e1] at e2;exact (Value.int.inj e2).2
variable {E:Env} {g:FuncId}
theorem sort_nil (hs:∀xs H,E.orc g xs=none∧E.eff g xs H=sortF E0 enc xs H) {p:Option Addr} {cap:Nat} {f:Value} {Q:Value→zH→Prop}:CallR E false lim g [.slice p 0 cap,f] H Q=Q (.tuple #[]) H:=by
 have he:sortF E0 enc [.slice p 0 cap,f] H=some (.tuple #[],[],none):=by
  unfold sortF
  rw [dif_neg ?_,if_pos ⟨p,cap,f,rfl⟩]
  rintro ⟨x,h0,_,_,cap',cl,cs,e,_⟩
  have:x.2.1.length=0:=by
   have e':=(List.cons.inj e).1
   cases x with | mk a b=>cases b with | mk b c=>simp at e'⊢;exact List.length_eq_zero_iff.1 e'.2.1.symm
  exact h0 (List.length_eq_zero_iff.1 this)
 rw [CallR_eff (hs _ H).1 ((hs _ _).2.trans he) rfl]
 show Q _ (H++[])=_
 rw [List.append_nil]
theorem sort_ok {k':Nat} [K':EncOk enc k'] (hs:∀xs H,E.orc g xs=none∧E.eff g xs H=sortF E0 enc xs H) (hc:Cmp E0 enc cl cs c) {B cap:Nat} {l:List α} (hB:zG H B=.cells false (l.flatMap enc)) (hl:lim≤B) (hn:l.length<4611686018427387904) {Q:Value→zH→Prop} :
  CallR E false lim g [.slice (some ⟨B,0,none⟩) l.length cap,.func (.func cl) #[] cs.toArray] H Q=Q (.tuple #[]) (H.set B (.cells false ((sortN c l).flatMap enc))):=by
 by_cases h0:l=[]
 ·subst h0
  have e:H.set B (.cells false ((sortN c ([]:List α)).flatMap enc))=H:=by
   have:sortN c ([]:List α)=[]:=List.length_eq_zero_iff.1 (sortN_len hc.swo [])
   rw [this,←hB]
   apply List.ext_getElem?
   intro i
   rw [List.getElem?_set]
   split
   ·rename_i e;subst e
    have hi:=hget_some hB rfl
    rw [if_pos (List.getElem?_eq_some_iff.1 hi).1,hi,hB]
   ·rfl
  rw [e];exact sort_nil hs
 ·have hx:∃x,At E0 enc [.slice (some ⟨B,0,none⟩) l.length cap,.func (.func cl) #[] cs.toArray] H x:=⟨(B,l,c),h0,hn,hB,cap,cl,cs,rfl,hc⟩
  have key:hx.choose.1=B∧hx.choose.2.1=l∧hx.choose.2.2=c:=by
   obtain ⟨q0,q1,q2,cap',cl',cs',e,q3⟩:=hx.choose_spec
   simp only [List.cons.injEq,Value.slice.injEq,Option.some.injEq,Addr.mk.injEq,Value.func.injEq,and_true,true_and] at e
   obtain ⟨⟨e1,e2,_⟩,e3,e4⟩:=e
   cases e3
   have e5:cs=cs':=by simpa using congrArg Array.toList e4
   subst e5
   rw [←e1,hB] at q2
   injection q2 with _ q4
   exact ⟨e1.symm,(flat_inj K' e2 q4).symm,q3.uniq hc⟩
  have he:sortF E0 enc [.slice (some ⟨B,0,none⟩) l.length cap,.func (.func cl) #[] cs.toArray] H=some (.tuple #[],[],some (B,(sortN c l).flatMap enc)):=by
   unfold sortF
   rw [dif_pos hx,key.1,key.2.1,key.2.2]
  have hu:updOk lim H (some (B,(sortN c l).flatMap enc))=true:=by
   simp only [updOk,hB,hl,decide_true,Bool.true_and,decide_eq_true_eq]
   rw [flat_len K'.len,flat_len K'.len,sortN_len hc.swo]
  rw [CallR_eff (hs _ H).1 ((hs _ _).2.trans he) hu]
  show Q _ (H.set B _++[])=_
  rw [List.append_nil]
end
end Go.AM.Srt

namespace Go.Proofs.Ytlmoijifgbkapaa.Fn
open Go.AM Go.AM.Sym
class OA where
 on:Bool
 srt:FuncId→List Value→zH→Option (Value×List (List Value)×Option (Nat×List Value))
 srtN:∀g as H,g≠50→srt g as H=none
def orc [OA] (g:FuncId) (as:List Value):Option Value:=if g=10∧OA.on=true∧as=[] then some (.bool true) else none
def E [OA]:Env:=⟨tr,pf,orc,true,OA.srt⟩
instance dtE [OA]:DT E E:=⟨rfl⟩
section
variable {mp:Bool} {lim:Nat} {g:FuncId} {as:List Value} {v:Value} {af:zAf} {H:zH} {Q:Value→zH→Prop}
theorem pc [OA] (h:g≠10∧g≠50) (ht:tr g=some af) (hp:pf g=true) (hf:flat 4 v=true) (hr:Ret E af H.length [.code af.body] (zFr as) (H++[]) fun v' _=>v'=v):CallR E mp lim g as H Q=Q v H:=
 CallR_pure (E:=E) (by simp [E,orc,OA.srtN,h]) ht hp hf (zRp hr)
theorem runs [OA] {g:FuncId} {af:zAf} {lim:Nat} {as:List Value} {H H':zH} {v:Value} {Q:Value→zH→Prop} (h:g≠10∧g≠50) (ht:tr g=some af) (hp:pf g=false) (hr:Ret E af lim [.code af.body] (zFr as) H fun v' H1=>v'=v∧H1=H'):CallR E false lim g as H Q=Q v H':=
 CallR.eq (by rw [CallR_run (E:=E) (by simp [E,orc,OA.srtN,h]) ht hp rfl];exact hr)
theorem CallR.one [OA] (h:CallR E mp lim g as H Q):∃n v H',aCall E n mp lim (.inl g) as H=some [(v,H')]∧Q v H':=by
 obtain ⟨n,L,h1,h2,h3⟩:=h
 obtain ⟨⟨v,H'⟩,rfl⟩:=h2 rfl
 exact ⟨n,v,H',h1,h3 _ (List.mem_singleton.mpr rfl)⟩
end
theorem in_ok [OA] (mp:Bool) (lim:Nat) (n lo hi:Int) (H:zH) (Q:Value→zH→Prop):CallR E mp lim 34 [.int .i64 n,.int .i64 lo,.int .i64 hi] H Q=Q (.bool (decide (lo≤n∧n≤hi))) H:=by
 refine pc (by decide) e34 rfl rfl ?_
 rw [b34,c34]
 simp only [n34,r34,SB,seval,zCa,aOp,zB,aUn,reduceCtorEq,zFr,place,zTu,zRe]
 repeat' ((first | refine wantK_dec (fun hw=>?_) (fun hw=>?_) | refine condK_dec (fun hw=>?_) (fun hw=>?_) | refine wantK_any (fun hw=>?_) (fun hw=>?_) | refine condK_any (fun hw=>?_) (fun hw=>?_))<;>(try simp only [hw,n34,r34,SB,Nat.reduceLT,zCa,aOp,Nat.reduceEqDiff,zB,aUn,reduceCtorEq,zFr,place,zTu,Nat.reduceAdd,Nat.reduceLeDiff,zRe,Int.reduceEq,Int.reduceLT,Int.reduceLE]))
theorem id_ok [OA] (mp:Bool) (lim:Nat) (n:Int) (H:zH) (Q:Value→zH→Prop):CallR E mp lim 32 [.int .i64 n] H Q=Q (.agg #[.int .i64 n,.int .i64 1,.int .i64 999999]) H:=by
 refine pc (by decide) e32 rfl rfl ?_
 rw [b32,c32]
 simp only [n32,r32,SB,seval,zCa,aOp,zB,aUn,reduceCtorEq,zFr,place,zTu,zRe]
theorem isNaN_ok [OA] (mp:Bool) (lim:Nat) (n:Int) (H:zH) (Q:Value→zH→Prop):CallR E mp lim 67 [.int .i64 n] H Q=Q (.bool false) H:=by
 refine pc (by decide) e67 rfl rfl ?_
 rw [b67,c67]
 simp only [n67,r67,SB,seval,zCa,aOp,zB,aUn,reduceCtorEq,zFr,place,zTu,zRe]
theorem isNaN8_ok [OA] (mp:Bool) (lim:Nat) (n:Int) (H:zH) (Q:Value→zH→Prop):CallR E mp lim 68 [.int .u8 n] H Q=Q (.bool false) H:=by
 refine pc (by decide) e68 rfl rfl ?_
 rw [b68,c68]
 simp only [n68,r68,SB,seval,zCa,aOp,zB,aUn,reduceCtorEq,zFr,place,zTu,zRe]
def cmpI (a b:Int):Int:=if a<b then -1 else if b<a then 1 else 0
theorem cmp_ok [OA] (mp:Bool) (lim:Nat) (a b:Int) (H:zH) (Q:Value→zH→Prop):CallR E mp lim 53 [.int .i64 a,.int .i64 b] H Q=Q (.int .i64 (cmpI a b)) H:=by
 refine pc (by decide) e53 rfl rfl ?_
 rw [b53,c53]
 simp only [n53,r53,isNaN_ok,SB,seval,zCa,aOp,zB,aUn,reduceCtorEq,zFr,place,zTu,zRe]
 repeat' ((first | refine wantK_dec (fun hw=>?_) (fun hw=>?_) | refine condK_dec (fun hw=>?_) (fun hw=>?_) | refine wantK_any (fun hw=>?_) (fun hw=>?_) | refine condK_any (fun hw=>?_) (fun hw=>?_))<;>(try simp only [hw,n53,r53,isNaN_ok,SB,Nat.reduceLT,zCa,aOp,Nat.reduceEqDiff,zB,aUn,reduceCtorEq,zFr,place,zTu,Nat.reduceAdd,Nat.reduceLeDiff,zRe,Int.reduceEq,Int.reduceLT,Int.reduceLE]))
 all_goals simp [cmpI, *]
theorem cmp8_ok [OA] (mp:Bool) (lim:Nat) (a b:Int) (H:zH) (Q:Value→zH→Prop):CallR E mp lim 54 [.int .u8 a,.int .u8 b] H Q=Q (.int .i64 (cmpI a b)) H:=by
 refine pc (by decide) e54 rfl rfl ?_
 rw [b54,c54]
 simp only [n54,r54,isNaN8_ok,SB,seval,zCa,aOp,zB,aUn,reduceCtorEq,zFr,place,zTu,zRe]
 repeat' ((first | refine wantK_dec (fun hw=>?_) (fun hw=>?_) | refine condK_dec (fun hw=>?_) (fun hw=>?_) | refine wantK_any (fun hw=>?_) (fun hw=>?_) | refine condK_any (fun hw=>?_) (fun hw=>?_))<;>(try simp only [hw,n54,r54,isNaN8_ok,SB,Nat.reduceLT,zCa,aOp,Nat.reduceEqDiff,zB,aUn,reduceCtorEq,zFr,place,zTu,Nat.reduceAdd,Nat.reduceLeDiff,zRe,Int.reduceEq,Int.reduceLT,Int.reduceLE]))
 all_goals simp [cmpI, *]
def encL (x:Int×Int×Int):List Value:=[.int .i64 x.1,.int .i64 x.2.1,.int .i64 x.2.2]
def inB (x:Int×Int×Int):Bool:=decide (x.2.1≤x.1∧x.1≤x.2.2)
theorem within_ok [OA] (mp:Bool) (lim:Nat) {p:Option Addr} {l:List (Int×Int×Int)} {cap:Nat} {H:zH} {Q:Value→zH→Prop} (hs:Sl H encL 3 p l) (hn:l.length<2 ^ 62) :
  CallR E mp lim 31 [.slice p l.length cap] H Q=Q (.bool (allFrom (fun i=>inB (gt l i)) l.length 0)) H:=by
 refine pc (by decide) e31 rfl rfl ?_
 rw [b31,c31]
 simp only [n31,r31,SB,seval,zCa,aOp,zB,aUn,reduceCtorEq,zFr,place,zTu,zRe]
 refine zRr (fun i=>l.length-i) (fun i fr G=>i≤l.length∧fr 5=.slice p l.length cap∧fr 6=.int .i64 (l.length:Int)∧fr 7=.int .i64 (i:Int)∧H.length≤G.length∧Sl G encL 3 p l∧
  allFrom (fun i=>inB (gt l i)) l.length 0=allFrom (fun i=>inB (gt l i)) l.length i) 0 ⟨Nat.zero_le _,(by rfl),(by rfl),by rfl,by simp,hs.app _,rfl⟩ ?_
 intro i fr G ⟨hi,h5,h6,h7,hL,hg,ha⟩ hN
 rw [zRc l31_1.eq_1]
 refine zRp ?_
 by_cases hlt:i<l.length
 ·have hld:=(hg.app []).loadCells (fun _=>rfl) hlt
  have hidx:=fun c (k:IntKind) (H1:zH)=>hg.idx (c:=c) (k:=k) (H1:=H1) hlt
  have hw1:IntKind.i64.wrap ((i:Int)+1)=((i+1:Nat):Int):=zWn (by omega)
  simp only [n31,r31,h5,h6,h7,hlt,hL,hidx,hld,encL,hw1,SB,seval,zCa,aOp,zB,aUn,reduceCtorEq,zFr,place,zTu,zRe]
  repeat' ((first | refine wantK_dec (fun hw=>?_) (fun hw=>?_) | refine condK_dec (fun hw=>?_) (fun hw=>?_) | refine wantK_any (fun hw=>?_) (fun hw=>?_) | refine condK_any (fun hw=>?_) (fun hw=>?_))<;>(try simp only [hw,n31,r31,h5,h6,h7,hlt,hL,hidx,hld,encL,hw1,SB,Nat.reduceLT,zCa,aOp,Nat.reduceEqDiff,zB,aUn,reduceCtorEq,zFr,place,zTu,Nat.reduceAdd,Nat.reduceLeDiff,zRe,Int.reduceEq,Int.reduceLT,Int.reduceLE]))
  ·rw [ha,allFrom_step hlt];simp [inB];omega
  ·rw [ha,allFrom_step hlt];simp [inB];omega
  ·refine hN (i+1) _ _ ⟨by omega,(by exact h5),(by exact h6),(by rfl),by simp;omega,hg.app _, ?_⟩ (by omega)
   rw [ha,allFrom_step hlt];simp [inB];omega
 ·obtain rfl:i=l.length:=by omega
  simp only [n31,r31,h5,h6,h7,hlt,ha,allFrom_end,SB,seval,zCa,aOp,zB,aUn,reduceCtorEq,zFr,place,zTu,zRe]
def rowsOf:List Value→List (Int×Int×Int)
 | .int _ a::.int _ b::.int _ c::r=>(a,b,c)::rowsOf r
 | _=>[]
def okRows:List Value→Bool
 | .int .i64 _::.int .i64 _::.int .i64 _::r=>okRows r
 | []=>true
 | _=>false
theorem rowsOf_cons {j k l:IntKind} {a b c:Int} {r:List Value}:rowsOf (.int j a::.int k b::.int l c::r)=(a,b,c)::rowsOf r:=rfl
theorem rowsOf_nil:rowsOf []=[]:=rfl
theorem okRows_cons {a b c:Int} {r:List Value}:okRows (.int .i64 a::.int .i64 b::.int .i64 c::r)=okRows r:=id rfl
theorem okRows_nil:okRows []=true:=id rfl
theorem rowsOf_ok:∀c:List Value,okRows c=true→c=(rowsOf c).flatMap encL
 | [],_=>rfl
 | .int .i64 a::.int .i64 b::.int .i64 c::r,h=>by
   rw [rowsOf_cons,List.flatMap_cons,←rowsOf_ok r h];rfl
def allIn:List (Int×Int×Int)→Bool
 | []=>true
 | x::l=>inB x&&allIn l
theorem allIn_from (l:List (Int×Int×Int)):allFrom (fun i=>inB (gt l i)) l.length 0=allIn l:=by
 induction l with
 | nil=>rfl
 | cons x l ih=>
   rw [allFrom_step (by simp),gt_cons_zero,allIn,←ih]
   congr 1
   rw [Bool.eq_iff_iff,allFrom_iff,allFrom_iff]
   constructor
   ·intro h j h1 h2
    have:=h (j+1) (by omega) (by simp;omega)
    rwa [zGc] at this
   ·intro h j h1 h2
    obtain ⟨j,rfl⟩:∃j',j=j'+1:=⟨j-1,by omega⟩
    rw [zGc]
    exact h j (by omega) (by simp at h2;omega)
theorem within_lit [OA] {mp:Bool} {lim b n cap:Nat} {H:zH} {Q:Value→zH→Prop} (h1:isCells (zG H b)=true) (h2:okRows (cellsOf (zG H b))=true) (h3:(rowsOf (cellsOf (zG H b))).length=n) (h4:n<2 ^ 62) :
  CallR E mp lim 31 [.slice (some ⟨b,0,none⟩) n cap] H Q=Q (.bool (allIn (rowsOf (cellsOf (zG H b))))) H:=by
 subst h3
 rw [within_ok mp lim (Sl.lit (fun _=>rfl) h1 (rowsOf_ok _ h2)) h4,allIn_from]
def orL:List Int→Int
 | []=>0
 | x::l=>if x≠0 then x else orL l
def encI (x:Int):List Value:=[.int .i64 x]
theorem orL_drop {l:List Int} {i:Nat} (h:i<l.length):orL (l.drop i)=if gt l i≠0 then gt l i else orL (l.drop (i+1)):=by
 rw [List.drop_eq_getElem_cons h,orL,zGl h]
theorem or_ok [OA] (mp:Bool) (lim:Nat) {p:Option Addr} {l:List Int} {cap:Nat} {H:zH} {Q:Value→zH→Prop} (hs:Sl H encI 1 p l) (hn:l.length<2 ^ 62) :
  CallR E mp lim 52 [.slice p l.length cap] H Q=Q (.int .i64 (orL l)) H:=by
 refine pc (by decide) e52 rfl rfl ?_
 rw [b52,c52]
 simp only [n52,r52,SB,seval,zCa,aOp,zB,aUn,reduceCtorEq,zFr,place,zTu,zRe]
 refine zRr (fun i=>l.length-i) (fun i fr G=>i≤l.length∧fr 6=.slice p l.length cap∧fr 7=.int .i64 (l.length:Int)∧fr 8=.int .i64 (i:Int)∧fr 3=.int .i64 0∧Sl G encI 1 p l∧
  orL l=orL (l.drop i)) 0 ⟨Nat.zero_le _,(by rfl),(by rfl),by rfl,(by rfl),hs.app _,rfl⟩ ?_
 intro i fr G ⟨hi,h6,h7,h8,h3,hg,ha⟩ hN
 rw [zRc l52_1.eq_1]
 refine zRp ?_
 by_cases hlt:i<l.length
 ·have hld:=(hg.app []).loadCell0 (fun _=>rfl) hlt (by decide)
  have hidx:=fun c (k:IntKind) (H1:zH)=>hg.idx (c:=c) (k:=k) (H1:=H1) hlt
  have hw1:IntKind.i64.wrap ((i:Int)+1)=((i+1:Nat):Int):=zWn (by omega)
  rw [orL_drop hlt] at ha
  simp only [n52,r52,h6,h7,h8,h3,hlt,hidx,hld,encI,hw1,SB,seval,zCa,aOp,zB,aUn,reduceCtorEq,zFr,place,zTu,zRe]
  repeat' ((first | refine wantK_dec (fun hw=>?_) (fun hw=>?_) | refine condK_dec (fun hw=>?_) (fun hw=>?_) | refine wantK_any (fun hw=>?_) (fun hw=>?_) | refine condK_any (fun hw=>?_) (fun hw=>?_))<;>(try simp only [hw,n52,r52,h6,h7,h8,h3,hlt,hidx,hld,encI,hw1,SB,Nat.reduceLT,zCa,aOp,Nat.reduceEqDiff,zB,aUn,reduceCtorEq,zFr,place,zTu,Nat.reduceAdd,Nat.reduceLeDiff,zRe,Int.reduceEq,Int.reduceLT,Int.reduceLE]))
  ·rw [ha,if_pos hw]
  ·refine hN (i+1) _ _ ⟨by omega,(by exact h6),(by exact h7),(by rfl),(by exact h3),hg.app _, ?_⟩ (by omega)
   rw [ha,if_neg hw]
 ·obtain rfl:i=l.length:=by omega
  rw [List.drop_length,orL] at ha
  simp only [n52,r52,h6,h7,h8,h3,hlt,ha,SB,seval,zCa,aOp,zB,aUn,reduceCtorEq,zFr,place,zTu,zRe]
def intsOf:List Value→List Int
 | .int _ a::r=>a::intsOf r
 | _=>[]
def okInts:List Value→Bool
 | .int .i64 _::r=>okInts r
 | []=>true
 | _=>false
theorem intsOf_cons {j:IntKind} {a:Int} {r:List Value}:intsOf (.int j a::r)=a::intsOf r:=rfl
theorem intsOf_nil:intsOf []=[]:=rfl
theorem okInts_cons {a:Int} {r:List Value}:okInts (.int .i64 a::r)=okInts r:=id rfl
theorem okInts_nil:okInts []=true:=id rfl
theorem intsOf_ok:∀c:List Value,okInts c=true→c=(intsOf c).flatMap encI
 | [],_=>rfl
 | .int .i64 a::r,h=>by
   rw [intsOf_cons,List.flatMap_cons,←intsOf_ok r h];rfl
theorem or_lit [OA] {mp:Bool} {lim b n cap:Nat} {H:zH} {Q:Value→zH→Prop} (h1:isCells (zG H b)=true) (h2:okInts (cellsOf (zG H b))=true) (h3:(intsOf (cellsOf (zG H b))).length=n) (h4:n<2 ^ 62) :
  CallR E mp lim 52 [.slice (some ⟨b,0,none⟩) n cap] H Q=Q (.int .i64 (orL (intsOf (cellsOf (zG H b))))) H:=by
 subst h3
 rw [or_ok mp lim (Sl.lit (fun _=>rfl) h1 (intsOf_ok _ h2)) h4]
structure Std where
 cls:Int
 frm:Int
 to:Int
 mins:Int
 deriving Inhabited
def encS (x:Std):List Value:=[.int .u8 x.cls,.int .i64 x.frm,.int .i64 x.to,.int .i64 x.mins]
def cmpS (a b:Std):Int:=orL [cmpI a.cls b.cls,cmpI a.frm b.frm,cmpI a.to b.to]
theorem compare_ok [OA] {mp:Bool} {lim:Nat} {a1 a2 a3 a4 b1 b2 b3 b4:Int} {H:zH} {Q:Value→zH→Prop}:CallR E mp lim 33 [.agg #[.int .u8 a1,.int .i64 a2,.int .i64 a3,.int .i64 a4],.agg #[.int .u8 b1,.int .i64 b2,.int .i64 b3,.int .i64 b4]] H Q=Q (.int .i64 (cmpS ⟨a1,a2,a3,a4⟩ ⟨b1,b2,b3,b4⟩)) H:=by
 refine pc (by decide) e33 rfl rfl ?_
 rw [b33,c33]
 simp only [n33,r33,cmp_ok,cmp8_ok,or_lit,isCells_cells,cellsOf_cells,intsOf_cons,intsOf_nil,okInts_cons,okInts_nil,Nat.reducePow,cmpS,SB,seval,zCa,aOp,zB,aUn,reduceCtorEq,zFr,place,zTu,zRe]
theorem zEl (x:Std):(encS x).length=4:=rfl
theorem std_eta {x:Std}:(⟨x.cls,x.frm,x.to,x.mins⟩:Std)=x:=rfl
def okStd (x:Std):Bool:=decide (1≤x.cls)&&allIn [(x.frm,1,999999),(x.to,1,999999),(x.mins,0,100000)]
def okAt (l:List Std) (i:Nat):Bool:=okStd (gt l i)&&(decide (i=0)||decide (cmpS (gt l (i-1)) (gt l i)<0))
def right (l:List Std):Bool:=decide (l.length≤500)&&allFrom (okAt l) l.length 0
theorem Right_ok [OA] (mp:Bool) (lim:Nat) {p:Option Addr} {l:List Std} {cap:Nat} {H:zH} {Q:Value→zH→Prop} (hs:Sl H encS 4 p l) (hn:l.length<2 ^ 62) :
  CallR E mp lim 11 [.slice p l.length cap] H Q=Q (.bool (right l)) H:=by
 refine pc (by decide) e11 rfl rfl ?_
 rw [b11,c11]
 simp only [n11,r11,SB,seval,zCa,aOp,zB,aUn,reduceCtorEq,zFr,place,zTu,zRe]
 repeat' ((first | refine wantK_dec (fun hw=>?_) (fun hw=>?_) | refine condK_dec (fun hw=>?_) (fun hw=>?_) | refine wantK_any (fun hw=>?_) (fun hw=>?_) | refine condK_any (fun hw=>?_) (fun hw=>?_))<;>(try simp only [hw,n11,r11,SB,Nat.reduceLT,zCa,aOp,Nat.reduceEqDiff,zB,aUn,reduceCtorEq,zFr,place,zTu,Nat.reduceAdd,Nat.reduceLeDiff,zRe,Int.reduceEq,Int.reduceLT,Int.reduceLE]))
 ·simp [right];omega
 have h500:l.length≤500:=by omega
 refine zRr (fun i=>l.length-i) (fun i fr G=>i≤l.length∧fr 0=.slice p l.length cap∧fr 8=.slice p l.length cap∧fr 9=.int .i64 (l.length:Int)∧fr 10=.int .i64 (i:Int)∧Ext H G∧
  allFrom (okAt l) l.length 0=allFrom (okAt l) l.length i) 0 ⟨Nat.zero_le _,(by rfl),(by rfl),(by rfl),by rfl,Ext.refl.app,rfl⟩ ?_
 intro i fr G ⟨hi,h0,h8,h9,h10,hE,ha⟩ hN
 rw [zRc l11_1.eq_1]
 refine zRp ?_
 by_cases hlt:i<l.length
 ·have hL:=hE.len
  have hg:=hE.sl hs
  have hld:=fun X=>(hg.app X).loadCells zEl hlt
  have hidx:=fun c (k:IntKind) (H1:zH)=>hg.idx (c:=c) (k:=k) (H1:=H1) hlt
  have hw1:IntKind.i64.wrap ((i:Int)+1)=((i+1:Nat):Int):=zWn (by omega)
  have hw2:0<i→IntKind.i64.wrap ((i:Int)-1)=((i-1:Nat):Int):=fun h=>wrap_pred h (by omega)
  have hlp:=fun (_:0<i)=>(by omega:i-1<l.length)
  have hldp:=fun (h:0<i) X=>(hg.app X).loadCells zEl (hlp h)
  have hidxp:=fun (h:0<i) c (k:IntKind) (H1:zH)=>hg.idx (c:=c) (k:=k) (H1:=H1) (hlp h)
  simp only [n11,r11,h0,h8,h9,h10,hlt,hL,hidx,hld,encS,hw1,id_ok,SB,seval,zCa,aOp,zB,aUn,reduceCtorEq,zFr,place,zTu,zRe]
  repeat' ((first | refine wantK_dec (fun hw=>?_) (fun hw=>?_) | refine condK_dec (fun hw=>?_) (fun hw=>?_) | refine wantK_any (fun hw=>?_) (fun hw=>?_) | refine condK_any (fun hw=>?_) (fun hw=>?_))<;>(try simp only [hw,n11,r11,h0,h8,h9,h10,hlt,hL,hidx,hld,hidxp,hldp,encS,hw1,hw2,id_ok,within_lit,isCells_cells,cellsOf_cells,rowsOf_cons,rowsOf_nil,okRows_cons,okRows_nil,Nat.reducePow,compare_ok,std_eta,SB,Nat.reduceLT,zCa,aOp,Nat.reduceEqDiff,zB,aUn,reduceCtorEq,zFr,place,zTu,Nat.reduceAdd,Nat.reduceLeDiff,zRe,Int.reduceEq,Int.reduceLT,Int.reduceLE]))
  all_goals first | refine hN (i+1) _ _ ⟨by omega,(by exact h0),(by exact h8),(by exact h9),(by rfl),hE.app, ?_⟩ (by omega) | skip
  all_goals clear hN;simp only [right,ha,allFrom_step hlt,okAt,okStd]
  all_goals simp [*]
  all_goals omega
 ·obtain rfl:i=l.length:=by omega
  simp only [n11,r11,h0,h8,h9,h10,hlt,SB,seval,zCa,aOp,zB,aUn,reduceCtorEq,zFr,place,zTu,zRe]
  simp [right,h500,ha,allFrom_end]
def aheadS (a b:Std):Bool:=if a.cls≠b.cls then decide (a.cls<b.cls) else if a.frm≠b.frm then decide (a.frm<b.frm) else decide (a.to<b.to)
theorem aheadS_cmp (a b:Std):aheadS a b=decide (cmpS a b<0):=by
 simp only [aheadS,cmpS,orL,cmpI,ne_eq,ite_not]
 rw [Bool.eq_iff_iff]
 repeat' split
 all_goals simp
 all_goals omega
theorem ahead_ok [OA] {mp:Bool} {lim:Nat} {a1 a2 a3 a4 b1 b2 b3 b4:Int} {H:zH} {Q:Value→zH→Prop}:CallR E mp lim 35 [.agg #[.int .u8 a1,.int .i64 a2,.int .i64 a3,.int .i64 a4],.agg #[.int .u8 b1,.int .i64 b2,.int .i64 b3,.int .i64 b4]] H Q=Q (.bool (aheadS ⟨a1,a2,a3,a4⟩ ⟨b1,b2,b3,b4⟩)) H:=by
 refine pc (by decide) e35 rfl rfl ?_
 rw [b35,c35]
 simp only [n35,r35,SB,seval,zCa,aOp,zB,aUn,reduceCtorEq,zFr,place,zTu,zRe]
 repeat' ((first | refine wantK_dec (fun hw=>?_) (fun hw=>?_) | refine condK_dec (fun hw=>?_) (fun hw=>?_) | refine wantK_any (fun hw=>?_) (fun hw=>?_) | refine condK_any (fun hw=>?_) (fun hw=>?_))<;>(try simp only [hw,n35,r35,SB,Nat.reduceLT,zCa,aOp,Nat.reduceEqDiff,zB,aUn,reduceCtorEq,zFr,place,zTu,Nat.reduceAdd,Nat.reduceLeDiff,zRe,Int.reduceEq,Int.reduceLT,Int.reduceLE]))
 all_goals simp [aheadS, *]
theorem okStd_ref (x:Std):okStd x=(!decide (x.cls=0∨x.cls<0)&&decide (1≤x.frm∧x.frm≤999999)&&decide (1≤x.to∧x.to≤999999)&&decide (0≤x.mins∧x.mins≤100000)):=by
 simp only [okStd,allIn,inB,Bool.and_true]
 rw [Bool.eq_iff_iff]
 simp
 omega
theorem refRight_ok [OA] (mp:Bool) (lim:Nat) {p:Option Addr} {l:List Std} {cap:Nat} {H:zH} {Q:Value→zH→Prop} (hs:Sl H encS 4 p l) (hn:l.length<2 ^ 62) (hu:∀x∈l,0≤x.cls) :
  CallR E mp lim 12 [.slice p l.length cap] H Q=Q (.bool (right l)) H:=by
 refine pc (by decide) e12 rfl rfl ?_
 rw [b12,c12]
 simp only [n12,r12,SB,seval,zCa,aOp,zB,aUn,reduceCtorEq,zFr,place,zTu,zRe]
 refine zRr (fun i=>l.length-i) (fun i fr G=>i≤l.length∧fr 0=.slice p l.length cap∧fr 3=.int .i64 (i:Int)∧Ext H G∧
  allFrom (okAt l) l.length 0=allFrom (okAt l) l.length i) 0 ⟨Nat.zero_le _,(by rfl),by rfl,Ext.refl.app,rfl⟩ ?_
 intro i fr G ⟨hi,h0,h3,hE,ha⟩ hN
 rw [zRc l12_1.eq_1]
 refine zRp ?_
 by_cases hlt:i<l.length
 ·have hL:=hE.len
  have hg:=hE.sl hs
  have hld:=fun X=>(hg.app X).loadCells zEl hlt
  have hidx:=fun c (k:IntKind) (H1:zH)=>hg.idx (c:=c) (k:=k) (H1:=H1) hlt
  have hw1:IntKind.i64.wrap ((i:Int)+1)=((i+1:Nat):Int):=zWn (by omega)
  have hw2:0<i→IntKind.i64.wrap ((i:Int)-1)=((i-1:Nat):Int):=fun h=>wrap_pred h (by omega)
  have hlp:=fun (_:0<i)=>(by omega:i-1<l.length)
  have hldp:=fun (h:0<i) X=>(hg.app X).loadCells zEl (hlp h)
  have hidxp:=fun (h:0<i) c (k:IntKind) (H1:zH)=>hg.idx (c:=c) (k:=k) (H1:=H1) (hlp h)
  have hu':=hu _ (gt_mem hlt)
  simp only [n12,r12,h0,h3,hlt,hL,hidx,hld,encS,hw1,in_ok,SB,seval,zCa,aOp,zB,aUn,reduceCtorEq,zFr,place,zTu,zRe]
  repeat' ((first | refine wantK_dec (fun hw=>?_) (fun hw=>?_) | refine condK_dec (fun hw=>?_) (fun hw=>?_) | refine wantK_any (fun hw=>?_) (fun hw=>?_) | refine condK_any (fun hw=>?_) (fun hw=>?_))<;>(try simp only [hw,n12,r12,h0,h3,hlt,hL,hidx,hld,hidxp,hldp,encS,hw1,hw2,in_ok,Nat.reducePow,ahead_ok,std_eta,SB,Nat.reduceLT,zCa,aOp,Nat.reduceEqDiff,zB,aUn,reduceCtorEq,zFr,place,zTu,Nat.reduceAdd,Nat.reduceLeDiff,zRe,Int.reduceEq,Int.reduceLT,Int.reduceLE]))
  all_goals first | refine hN (i+1) _ _ ⟨by omega,(by exact h0),(by rfl),hE.app, ?_⟩ (by omega) | skip
  all_goals clear hN
  all_goals try simp only [aheadS_cmp,decide_eq_true_eq,decide_eq_false_iff_not] at *
  all_goals simp only [right,ha,allFrom_step hlt,okAt,okStd_ref]
  all_goals simp [*]
  all_goals omega
 ·obtain rfl:i=l.length:=by omega
  simp only [n12,r12,h0,h3,hlt,SB,seval,zCa,aOp,zB,aUn,reduceCtorEq,zFr,place,zTu,zRe]
  simp [right,ha,allFrom_end]
  omega
def wantS (c f t:Int) (x:Std):Bool:=decide (x.cls=c)&&decide (x.frm=f)&&decide (x.to=t)
theorem want_ok [OA] {mp:Bool} {lim:Nat} {x:Std} {c f t:Int} {b6 b7 b8:Nat} {r6 r7 r8:Bool} {H:zH} {Q:Value→zH→Prop} (h6:zG H b6=.cells r6 [.int .u8 c]) (h7:zG H b7=.cells r7 [.int .i64 f]) (h8:zG H b8=.cells r8 [.int .i64 t]) :
  CallR E mp lim 62 [.agg (encS x).toArray,.pointer (some ⟨b6,0,none⟩),.pointer (some ⟨b7,0,none⟩),.pointer (some ⟨b8,0,none⟩)] H Q=Q (.bool (wantS c f t x)) H:=by
 refine pc (by decide) e62 rfl rfl ?_
 rw [b62,c62]
 have g6:=fun X=>(Ext.refl.app (X:=X)).cells h6
 have g7:=fun X=>(Ext.refl.app (X:=X)).cells h7
 have g8:=fun X=>(Ext.refl.app (X:=X)).cells h8
 simp only [n62,r62,encS,g6,g7,g8,SB,seval,zCa,aOp,zB,aUn,reduceCtorEq,zFr,place,zTu,zRe]
 repeat' ((first | refine wantK_dec (fun hw=>?_) (fun hw=>?_) | refine condK_dec (fun hw=>?_) (fun hw=>?_) | refine wantK_any (fun hw=>?_) (fun hw=>?_) | refine condK_any (fun hw=>?_) (fun hw=>?_))<;>(try simp only [hw,n62,r62,encS,g6,g7,g8,SB,Nat.reduceLT,zCa,aOp,Nat.reduceEqDiff,zB,aUn,reduceCtorEq,zFr,place,zTu,Nat.reduceAdd,Nat.reduceLeDiff,zRe,Int.reduceEq,Int.reduceLT,Int.reduceLE]))
 all_goals simp [wantS, *]
theorem find_ok [OA] {mp:Bool} {lim:Nat} {p:Option Addr} {l:List Std} {cap:Nat} {H:zH} {Q:Value→zH→Prop} {g':FuncId} {cs:List Value} (w:Std→Bool) (hs:Sl H encS 4 p l) (hn:l.length<2 ^ 62)
  (hcl:∀(X:zH) (lim:Nat) (x:Std) (Q:Value→zH→Prop),CallR E false lim g' (.agg (encS x).toArray::cs) (H++X) Q=Q (.bool (w x)) (H++X)) :
  CallR E mp lim 61 [.slice p l.length cap,.func (.func g') #[] cs.toArray] H Q=Q (.tuple #[.agg (encS ((l.find? w).getD default)).toArray,.bool (l.find? w).isSome]) H:=by
 refine pc (by decide) e61 rfl rfl ?_
 rw [b61,c61]
 simp only [n61,r61,SB,seval,zCa,aOp,zB,aUn,reduceCtorEq,zFr,place,zTu,zRe]
 refine zRr (fun i=>l.length-i) (fun i fr G=>i≤l.length∧fr 9=.slice p l.length cap∧fr 1=.func (.func g') #[] cs.toArray∧fr 10=.int .i64 (l.length:Int)∧fr 11=.int .i64 (i:Int)∧
  fr 4=.pointer (some ⟨H.length,0,none⟩)∧Ext H G∧zG G H.length=.cells false [.int .u8 0,.int .i64 0,.int .i64 0,.int .i64 0]∧
  l.find? w=(l.drop i).find? w) 0 ⟨Nat.zero_le _,(by rfl),(by rfl),(by rfl),by rfl,(by rfl),Ext.refl.app,zHn,rfl⟩ ?_
 intro i fr G ⟨hi,h9,h1,h10,h11,h4,hE,hz,ha⟩ hN
 rw [zRc l61_1.eq_1]
 refine zRp ?_
 have hL:=hE.len
 have hzl:=zHa hz
 have hz':=fun X=>(Ext.refl.app (X:=X)).cells hz
 by_cases hlt:i<l.length
 ·have hg:=hE.sl hs
  have hld:=fun X=>(hg.app X).loadCells zEl hlt
  have hidx:=fun c (k:IntKind) (H1:zH)=>hg.idx (c:=c) (k:=k) (H1:=H1) hlt
  have hw1:IntKind.i64.wrap ((i:Int)+1)=((i+1:Nat):Int):=zWn (by omega)
  rw [find_drop hlt] at ha
  have hcl':∀(X:zH) (lim:Nat) (x:Std) (Q:Value→zH→Prop),CallR E false lim g' (.agg (encS x).toArray::cs) (G++X) Q=Q (.bool (w x)) (G++X):=by
   obtain ⟨Y,rfl⟩:=hE
   intro X lim x Q
   rw [List.append_assoc];exact hcl _ _ _ _
  simp only [encS] at hcl'
  simp only [n61,r61,h9,h1,h10,h11,h4,hlt,hL,hidx,hld,encS,hw1,hcl',SB,seval,zCa,aOp,zB,aUn,reduceCtorEq,zFr,place,zTu,zRe]
  repeat' ((first | refine wantK_dec (fun hw=>?_) (fun hw=>?_) | refine condK_dec (fun hw=>?_) (fun hw=>?_) | refine wantK_any (fun hw=>?_) (fun hw=>?_) | refine condK_any (fun hw=>?_) (fun hw=>?_))<;>(try simp only [hw,n61,r61,h9,h1,h10,h11,h4,hlt,hL,hidx,hld,encS,hw1,hcl',hz',hget_set_eq,List.length_set,Nat.lt_add_right,hzl,find_drop,SB,Nat.reduceLT,zCa,aOp,Nat.reduceEqDiff,zB,aUn,reduceCtorEq,zFr,place,zTu,Nat.reduceAdd,Nat.reduceLeDiff,zRe,Int.reduceEq,Int.reduceLT,Int.reduceLE]))
  ·rw [ha,if_pos hw];rfl
  ·refine hN (i+1) _ _ ⟨by omega,(by exact h9),(by exact h1),(by exact h10),(by rfl),(by exact h4),hE.app,hz' _, ?_⟩ (by omega)
   rw [ha,if_neg (by simp [hw])]
 ·obtain rfl:i=l.length:=by omega
  rw [List.drop_length,List.find?_nil] at ha
  simp only [n61,r61,h9,h1,h10,h11,h4,hlt,ha,hz',hzl,hL,hget_set_eq,List.length_set,Nat.lt_add_right,SB,seval,zCa,aOp,zB,aUn,reduceCtorEq,zFr,place,zTu,zRe]
  rfl
def findS (l:List Std) (c f t:Int):Option Std:=l.find? (wantS c f t)
def dayEnd (n:Int):Int:=n.tdiv 1440*1440+1440-1
theorem dayEnd_pos {n:Int} (h:0≤n):dayEnd n=n / 1440*1440+1439:=by
 rw [dayEnd,Int.tdiv_eq_ediv_of_nonneg h];omega
theorem find_right {l:List Std} {w:Std→Bool} {x:Std} (h:l.find? w=some x) (hr:right l=true):okStd x=true:=by
 obtain ⟨i,hi,rfl⟩:=List.mem_iff_getElem.1 (List.mem_of_find?_eq_some h)
 simp only [right,Bool.and_eq_true,allFrom_iff] at hr
 have:=hr.2 i (Nat.zero_le _) hi
 simp only [okAt,Bool.and_eq_true,zGl hi] at this
 exact this.1
def prom (l:List Std) (c f t a:Int):Int×Bool×Bool:=
 match findS l c f t with
 | none=>(0,false,false)
 | some x=>if 1051898399<a∨1051898399<dayEnd (a+x.mins) then (0,true,false) else (dayEnd (a+x.mins),true,true)
theorem promise_ok [OA] {mp:Bool} {lim:Nat} {p:Option Addr} {l:List Std} {cap:Nat} {c f t a:Int} {H:zH} {Q:Value→zH→Prop} (hs:Sl H encS 4 p l) (hn:l.length<2 ^ 62) (hr:right l=true) (ha:0≤a) :
  CallR E mp lim 40 [.slice p l.length cap,.int .u8 c,.int .i64 f,.int .i64 t,.int .i64 a] H Q=Q (.tuple #[.int .i64 (prom l c f t a).1,.bool (prom l c f t a).2.1,.bool (prom l c f t a).2.2]) H:=by
 refine pc (by decide) e40 rfl rfl ?_
 rw [b40,c40]
 have hf:∀(mp:Bool) (lim:Nat) (G:zH) (Q:Value→zH→Prop),Ext (H++[.cells false [.int .u8 c],.cells false [.int .i64 f],.cells false [.int .i64 t]]) G→
   CallR E mp lim 61 [.slice p l.length cap,.func (.func 62) #[] #[.pointer (some ⟨H.length,0,none⟩),.pointer (some ⟨H.length+1,0,none⟩),.pointer (some ⟨H.length+2,0,none⟩)]] G Q=Q (.tuple #[.agg (encS ((findS l c f t).getD default)).toArray,.bool (findS l c f t).isSome]) G:=by
  intro mp lim G Q hG
  refine find_ok (cs:=[.pointer (some ⟨H.length,0,none⟩),.pointer (some ⟨H.length+1,0,none⟩),.pointer (some ⟨H.length+2,0,none⟩)]) (wantS c f t) (hG.sl (hs.app _)) hn fun X lim x Q=>?_
  exact want_ok ((hG.app (X:=X)).cells (zHn)) ((hG.app (X:=X)).cells (zHw)) ((hG.app (X:=X)).cells (zHw))
 cases hfs:findS l c f t with
 | none=>
   simp only [n40,r40,hf,Ext.refl,encS,hfs,Option.isSome_none,Option.getD_none,SB,seval,zCa,aOp,zB,aUn,reduceCtorEq,zFr,place,zTu,zRe]
   simp [prom,hfs]
 | some x=>
   have hx:=find_right hfs hr
   simp [okStd,allIn,inB] at hx
   have hw1:¬1051898399<a→IntKind.i64.wrap (a+x.mins)=a+x.mins:=fun h=>zWi (by omega) (by omega)
   have hw2:¬1051898399<a→IntKind.i64.wrap ((a+x.mins).tdiv 1440)=(a+x.mins).tdiv 1440:=fun h=>by rw [Int.tdiv_eq_ediv_of_nonneg (by omega)];exact zWi (by omega) (by omega)
   have hw3:¬1051898399<a→IntKind.i64.wrap ((a+x.mins).tdiv 1440*1440)=(a+x.mins).tdiv 1440*1440:=fun h=>by rw [Int.tdiv_eq_ediv_of_nonneg (by omega)];exact zWi (by omega) (by omega)
   have hw4:¬1051898399<a→IntKind.i64.wrap ((a+x.mins).tdiv 1440*1440+1440)=(a+x.mins).tdiv 1440*1440+1440:=fun h=>by rw [Int.tdiv_eq_ediv_of_nonneg (by omega)];exact zWi (by omega) (by omega)
   have hw5:¬1051898399<a→IntKind.i64.wrap ((a+x.mins).tdiv 1440*1440+1440-1)=dayEnd (a+x.mins):=fun h=>by rw [Int.tdiv_eq_ediv_of_nonneg (by omega),dayEnd,Int.tdiv_eq_ediv_of_nonneg (by omega)];exact zWi (by omega) (by omega)
   simp only [n40,r40,hf,Ext.refl,encS,hfs,Option.isSome_some,Option.getD_some,SB,seval,zCa,aOp,zB,aUn,reduceCtorEq,zFr,place,zTu,zRe]
   repeat' ((first | refine wantK_dec (fun hw=>?_) (fun hw=>?_) | refine condK_dec (fun hw=>?_) (fun hw=>?_) | refine wantK_any (fun hw=>?_) (fun hw=>?_) | refine condK_any (fun hw=>?_) (fun hw=>?_))<;>(try simp only [hw,n40,r40,hw1,hw2,hw3,hw4,hw5,SB,Nat.reduceLT,zCa,aOp,Nat.reduceEqDiff,zB,aUn,reduceCtorEq,zFr,place,zTu,Nat.reduceAdd,Nat.reduceLeDiff,zRe,Int.reduceEq,Int.reduceLT,Int.reduceLE]))
   all_goals simp [prom,hfs, *]
def promiseS (l:List Std) (c f t a:Int):Int×Int:=
 if right l=false∨a<0 then (0,2) else
 match findS l c f t with
 | none=>(0,6)
 | some x=>if 1051898399<a+x.mins then (0,3) else (dayEnd (a+x.mins),0)
theorem dayEnd_lt {n:Int} (h:0≤n):1051898399<dayEnd n↔1051898399<n:=by rw [dayEnd_pos h];omega
theorem promise_prom {l:List Std} {c f t a:Int} (hr:right l=true) (ha:¬a<0):promiseS l c f t a=if (prom l c f t a).2.1=false then (0,6) else if (prom l c f t a).2.2=false then (0,3) else ((prom l c f t a).1,0):=by
 cases hfs:findS l c f t with
 | none=>simp [promiseS,prom,hr,ha,hfs]
 | some x=>
   have hx:=find_right hfs hr
   simp [okStd,allIn,inB] at hx
   have hd:=dayEnd_lt (n:=a+x.mins) (by omega)
   by_cases h:1051898399<a+x.mins
   ·simp [promiseS,prom,hr,ha,hfs,h,hd]
   ·simp [promiseS,prom,hr,ha,hfs,h,hd,show ¬1051898399<a by omega]
theorem Promise_ok [OA] {mp:Bool} {lim:Nat} {p:Option Addr} {l:List Std} {cap:Nat} {c f t a:Int} {H:zH} {Q:Value→zH→Prop} (hs:Sl H encS 4 p l) (hn:l.length<2 ^ 62) :
  CallR E mp lim 16 [.slice p l.length cap,.int .u8 c,.int .i64 f,.int .i64 t,.int .i64 a] H Q=Q (.tuple #[.int .i64 (promiseS l c f t a).1,.int .i64 (promiseS l c f t a).2]) H:=by
 refine pc (by decide) e16 rfl rfl ?_
 rw [b16,c16]
 have hR:=fun mp lim X Q=>Right_ok mp lim (cap:=cap) (Q:=Q) (hs.app X) hn
 have hP:=fun (hr:right l=true) (ha:¬a<0) mp lim X Q=>promise_ok (c:=c) (f:=f) (t:=t) (mp:=mp) (lim:=lim) (cap:=cap) (Q:=Q) (hs.app X) hn hr (by omega:0≤a)
 simp only [n16,r16,hR,SB,seval,zCa,aOp,zB,aUn,reduceCtorEq,zFr,place,zTu,zRe]
 repeat' ((first | refine wantK_dec (fun hw=>?_) (fun hw=>?_) | refine condK_dec (fun hw=>?_) (fun hw=>?_) | refine wantK_any (fun hw=>?_) (fun hw=>?_) | refine condK_any (fun hw=>?_) (fun hw=>?_))<;>(try simp only [*,n16,r16,hP,SB,Nat.reduceLT,zCa,aOp,Nat.reduceEqDiff,zB,aUn,reduceCtorEq,zFr,place,zTu,Nat.reduceAdd,Nat.reduceLeDiff,zRe,Int.reduceEq,Int.reduceLT,Int.reduceLE]))
 all_goals clear hR hP
 all_goals first
  | (rw [promise_prom (by assumption) (by assumption)];simp [*];done)
  | (simp [promiseS, *];done)
theorem refPromise_ok [OA] {mp:Bool} {lim:Nat} {p:Option Addr} {l:List Std} {cap:Nat} {c f t a:Int} {H:zH} {Q:Value→zH→Prop} (hs:Sl H encS 4 p l) (hn:l.length<2 ^ 62) (hu:∀x∈l,0≤x.cls) :
  CallR E mp lim 36 [.slice p l.length cap,.int .u8 c,.int .i64 f,.int .i64 t,.int .i64 a] H Q=Q (.tuple #[.int .i64 (promiseS l c f t a).1,.int .i64 (promiseS l c f t a).2]) H:=by
 refine pc (by decide) e36 rfl rfl ?_
 rw [b36,c36]
 have hR:=fun mp lim X Q=>refRight_ok mp lim (cap:=cap) (Q:=Q) (hs.app X) hn hu
 simp only [n36,r36,hR,SB,seval,zCa,aOp,zB,aUn,reduceCtorEq,zFr,place,zTu,zRe]
 by_cases hr:right l=true
 case neg=>simp only [n36,r36,hR,hr,SB,seval,zCa,aOp,zB,aUn,reduceCtorEq,zFr,place,zTu,zRe];simp [promiseS,hr]
 by_cases ha0:a<0
 case pos=>simp only [n36,r36,hR,hr,ha0,SB,seval,zCa,aOp,zB,aUn,reduceCtorEq,zFr,place,zTu,zRe];simp [promiseS,ha0]
 simp only [n36,r36,hR,hr,ha0,SB,seval,zCa,aOp,zB,aUn,reduceCtorEq,zFr,place,zTu,zRe]
 refine zRr (fun i=>l.length-i) (fun i fr G=>i≤l.length∧fr 0=.slice p l.length cap∧fr 1=.int .u8 c∧fr 2=.int .i64 f∧fr 3=.int .i64 t∧fr 4=.int .i64 a∧fr 12=.int .i64 (i:Int)∧Ext H G∧
  findS l c f t=(l.drop i).find? (wantS c f t)) 0 ⟨Nat.zero_le _,(by rfl),(by rfl),(by rfl),(by rfl),(by rfl),by rfl,Ext.refl.app,rfl⟩ ?_
 intro i fr G ⟨hi,h0,h1,h2,h3,h4,h12,hE,ha⟩ hN
 rw [zRc l36_1.eq_1]
 refine zRp ?_
 by_cases hlt:i<l.length
 ·have hL:=hE.len
  have hg:=hE.sl hs
  have hld:=fun X j hj=>(hg.app X).loadCell (j:=j) zEl hlt hj
  have hld0:=fun X=>(hg.app X).loadCell0 zEl hlt (by decide)
  have hidx:=fun c (k:IntKind) (H1:zH)=>hg.idx (c:=c) (k:=k) (H1:=H1) hlt
  have hw1:IntKind.i64.wrap ((i:Int)+1)=((i+1:Nat):Int):=zWn (by omega)
  rw [find_drop hlt] at ha
  by_cases hw:wantS c f t (gt l i)=true
  ·rw [if_pos hw] at ha
   have hx:=find_right ha hr
   simp [okStd,allIn,inB] at hx
   simp only [wantS,Bool.and_eq_true,decide_eq_true_eq] at hw
   have hwr1:¬1051898399<a→IntKind.i64.wrap (a+(gt l i).mins)=a+(gt l i).mins:=fun h=>zWi (by omega) (by omega)
   have hwr2:¬1051898399<a→IntKind.i64.wrap ((a+(gt l i).mins).tdiv 1440)=(a+(gt l i).mins).tdiv 1440:=fun h=>by rw [Int.tdiv_eq_ediv_of_nonneg (by omega)];exact zWi (by omega) (by omega)
   have hwr3:¬1051898399<a→IntKind.i64.wrap (1440*(a+(gt l i).mins).tdiv 1440)=1440*(a+(gt l i).mins).tdiv 1440:=fun h=>by rw [Int.tdiv_eq_ediv_of_nonneg (by omega)];exact zWi (by omega) (by omega)
   have hwr4:¬1051898399<a→IntKind.i64.wrap (1440*(a+(gt l i).mins).tdiv 1440+1439)=dayEnd (a+(gt l i).mins):=fun h=>by rw [Int.tdiv_eq_ediv_of_nonneg (by omega),dayEnd_pos (by omega),zWi (by omega) (by omega)];omega
   have hd:=dayEnd_lt (n:=a+(gt l i).mins) (by omega)
   by_cases c1:1051898399<a
   ·have c2:1051898399<a+(gt l i).mins:=by omega
    simp only [n36,r36,h0,h1,h2,h3,h4,h12,hlt,hL,hidx,hld,hld0,encS,hw1,hw.1.1,hw.1.2,hw.2,c1,SB,seval,zCa,aOp,zB,aUn,reduceCtorEq,zFr,place,zTu,zRe]
    simp [promiseS,ha,hr,ha0,c2]
   ·by_cases c2:1051898399<a+(gt l i).mins
    ·simp only [n36,r36,h0,h1,h2,h3,h4,h12,hlt,hL,hidx,hld,hld0,encS,hw1,hw.1.1,hw.1.2,hw.2,c1,c2,hwr1,SB,seval,zCa,aOp,zB,aUn,reduceCtorEq,zFr,place,zTu,zRe]
     simp [promiseS,ha,hr,ha0,c2]
    ·simp only [n36,r36,h0,h1,h2,h3,h4,h12,hlt,hL,hidx,hld,hld0,encS,hw1,hw.1.1,hw.1.2,hw.2,c1,c2,hwr1,hwr2,hwr3,hwr4,SB,seval,zCa,aOp,zB,aUn,reduceCtorEq,zFr,place,zTu,zRe]
     simp [promiseS,ha,hr,ha0,c2]
  ·rw [if_neg hw] at ha
   have hw':¬(gt l i).cls=c∨(gt l i).cls=c∧¬(gt l i).frm=f∨(gt l i).cls=c∧(gt l i).frm=f∧¬(gt l i).to=t:=by
    simp [wantS] at hw
    by_cases q1:(gt l i).cls=c<;>by_cases q2:(gt l i).frm=f<;>simp_all
   rcases hw' with q1 | ⟨q1,q2⟩ | ⟨q1,q2,q3⟩
   ·simp only [n36,r36,h0,h1,h2,h3,h4,h12,hlt,hL,hidx,hld,hld0,encS,hw1,q1,SB,seval,zCa,aOp,zB,aUn,reduceCtorEq,zFr,place,zTu,zRe]
    refine hN (i+1) _ _ ⟨by omega,(by exact h0),(by exact h1),(by exact h2),(by exact h3),(by exact h4),(by rfl),hE.app,ha⟩ (by omega)
   ·simp only [n36,r36,h0,h1,h2,h3,h4,h12,hlt,hL,hidx,hld,hld0,encS,hw1,q1,q2,SB,seval,zCa,aOp,zB,aUn,reduceCtorEq,zFr,place,zTu,zRe]
    refine hN (i+1) _ _ ⟨by omega,(by exact h0),(by exact h1),(by exact h2),(by exact h3),(by exact h4),(by rfl),hE.app,ha⟩ (by omega)
   ·simp only [n36,r36,h0,h1,h2,h3,h4,h12,hlt,hL,hidx,hld,hld0,encS,hw1,q1,q2,q3,SB,seval,zCa,aOp,zB,aUn,reduceCtorEq,zFr,place,zTu,zRe]
    refine hN (i+1) _ _ ⟨by omega,(by exact h0),(by exact h1),(by exact h2),(by exact h3),(by exact h4),(by rfl),hE.app,ha⟩ (by omega)
 ·obtain rfl:i=l.length:=by omega
  rw [List.drop_length,List.find?_nil] at ha
  simp only [n36,r36,h0,h1,h2,h3,h4,h12,hlt,SB,seval,zCa,aOp,zB,aUn,reduceCtorEq,zFr,place,zTu,zRe]
  simp [promiseS,ha,hr,ha0]
theorem promises_ok [OA] {mp:Bool} {lim:Nat} {p:Option Addr} {l:List Std} {cap:Nat} {c f t a:Int} {H:zH} {Q:Value→zH→Prop} (hs:Sl H encS 4 p l) (hn:l.length<2 ^ 62) (hu:∀x∈l,0≤x.cls) :
  CallR E mp lim 13 [.slice p l.length cap,.int .u8 c,.int .i64 f,.int .i64 t,.int .i64 a] H Q=Q (.bool true) H:=by
 refine pc (by decide) e13 rfl rfl ?_
 rw [b13,c13]
 have h1:=fun mp lim X Q=>Promise_ok (c:=c) (f:=f) (t:=t) (a:=a) (mp:=mp) (lim:=lim) (cap:=cap) (Q:=Q) (hs.app X) hn
 have h2:=fun mp lim X Q=>refPromise_ok (c:=c) (f:=f) (t:=t) (a:=a) (mp:=mp) (lim:=lim) (cap:=cap) (Q:=Q) (hs.app X) hn hu
 simp only [n13,r13,h1,h2,SB,seval,zCa,aOp,zB,aUn,reduceCtorEq,zFr,place,zTu,zRe]
theorem Right0_ok [OA] {mp:Bool} {lim:Nat} {n:Int} {H:zH} {Q:Value→zH→Prop}:CallR E mp lim 88 [.int .i64 n] H Q=Q (.bool (decide (-1000000000000000≤n∧n≤1000000000000000))) H:=by
 refine pc (by decide) e88 rfl rfl ?_
 rw [b88,c88]
 simp only [n88,r88,SB,seval,zCa,aOp,zB,aUn,reduceCtorEq,zFr,place,zTu,zRe]
 repeat' ((first | refine wantK_dec (fun hw=>?_) (fun hw=>?_) | refine condK_dec (fun hw=>?_) (fun hw=>?_) | refine wantK_any (fun hw=>?_) (fun hw=>?_) | refine condK_any (fun hw=>?_) (fun hw=>?_))<;>(try simp only [hw,n88,r88,SB,Nat.reduceLT,zCa,aOp,Nat.reduceEqDiff,zB,aUn,reduceCtorEq,zFr,place,zTu,Nat.reduceAdd,Nat.reduceLeDiff,zRe,Int.reduceEq,Int.reduceLT,Int.reduceLE]))
def shareS (n p:Int):Int:=n / 10000*p+n % 10000*p / 10000
theorem part_ok [OA] {mp:Bool} {lim:Nat} {n p:Int} {H:zH} {Q:Value→zH→Prop} (h1:0≤n∧n≤1000000000000000) (h2:0≤p∧p≤10000) :
  CallR E mp lim 89 [.int .i64 n,.int .i64 p,.int .i64 10000] H Q=Q (.tuple #[.int .i64 (shareS n p),.int .i64 (n % 10000*p % 10000)]) H:=by
 refine pc (by decide) e89 rfl rfl ?_
 rw [b89,c89]
 have hq:n.tdiv 10000=n / 10000:=Int.tdiv_eq_ediv_of_nonneg h1.1
 have hr:n.tmod 10000=n % 10000:=Int.tmod_eq_emod_of_nonneg h1.1
 have hq1:0≤n / 10000:=by omega
 have hq2:n / 10000≤100000000000:=by omega
 have hr1:0≤n % 10000:=by omega
 have hr2:n % 10000<10000:=by omega
 have hm1:0≤n / 10000*p:=Int.mul_nonneg hq1 h2.1
 have hm2:n / 10000*p≤100000000000*10000:=Int.mul_le_mul hq2 h2.2 h2.1 (by decide)
 have hm3:0≤n % 10000*p:=Int.mul_nonneg hr1 h2.1
 have hm4:n % 10000*p≤10000*10000:=Int.mul_le_mul (by omega) h2.2 h2.1 (by decide)
 have hneg:¬n % 10000<0:=by omega
 have w1:IntKind.i64.wrap (n / 10000)=n / 10000:=zWi (by omega) (by omega)
 have w2:IntKind.i64.wrap (n / 10000*p)=n / 10000*p:=zWi (by omega) (by omega)
 have w3:IntKind.i64.wrap (n % 10000*p)=n % 10000*p:=zWi (by omega) (by omega)
 have hq3:(n % 10000*p).tdiv 10000=n % 10000*p / 10000:=Int.tdiv_eq_ediv_of_nonneg hm3
 have hr3:(n % 10000*p).tmod 10000=n % 10000*p % 10000:=Int.tmod_eq_emod_of_nonneg hm3
 have w4:IntKind.i64.wrap (n % 10000*p / 10000)=n % 10000*p / 10000:=zWi (by omega) (by omega)
 have w5:IntKind.i64.wrap (n / 10000*p+n % 10000*p / 10000)=shareS n p:=zWi (by omega) (by omega)
 simp only [n89,r89,hq,hr,hneg,w1,w2,w3,hq3,hr3,w4,w5,SB,seval,zCa,aOp,zB,aUn,reduceCtorEq,zFr,place,zTu,zRe]
theorem zero_ok [OA] {mp:Bool} {lim:Nat} {H:zH} {Q:Value→zH→Prop}:CallR E mp lim 90 [] H Q=Q (.int .i64 0) H:=by
 refine pc (by decide) e90 rfl rfl ?_
 rw [b90,c90]
 simp only [n90,r90,SB,seval,zCa,aOp,zB,aUn,reduceCtorEq,zFr,place,zTu,zRe]
theorem Share_ok [OA] {mp:Bool} {lim:Nat} {n p:Int} {H:zH} {Q:Value→zH→Prop} (h1:0≤n∧n≤1000000000000000) (h2:0≤p∧p≤10000) :
  CallR E mp lim 76 [.int .i64 n,.int .i64 p,.int .u8 1] H Q=Q (.tuple #[.int .i64 (shareS n p),.int .i64 0]) H:=by
 refine pc (by decide) e76 rfl rfl ?_
 rw [b76,c76]
 have c1:-1000000000000000≤n∧n≤1000000000000000:=by omega
 have c2:¬p<0:=by omega
 have c3:¬10000<p:=by omega
 have hp:=fun mp lim H Q=>part_ok (mp:=mp) (lim:=lim) (H:=H) (Q:=Q) h1 h2
 have w1:IntKind.i64.wrap (shareS n p+0)=shareS n p:=by
  rw [Int.add_zero]
  have hm1:0≤n / 10000*p:=Int.mul_nonneg (by omega) h2.1
  have hm2:n / 10000*p≤100000000000*10000:=Int.mul_le_mul (by omega) h2.2 h2.1 (by decide)
  have hm3:0≤n % 10000*p:=Int.mul_nonneg (by omega) h2.1
  have hm4:n % 10000*p≤10000*10000:=Int.mul_le_mul (by omega) h2.2 h2.1 (by decide)
  exact zWi (by unfold shareS;omega) (by unfold shareS;omega)
 simp only [n76,r76,Right0_ok,c1,c2,c3,hp,zero_ok,w1,SB,seval,zCa,aOp,zB,aUn,reduceCtorEq,zFr,place,zTu,zRe]
structure Trm where
 cls:Int
 free:Int
 share:Int
 most:Int
 aft:Int
 lmt:Int
 wthn:Int
 deriving Inhabited
structure Snt where
 item:Int
 cls:Int
 frm:Int
 to:Int
 acc:Int
 del:Int
 deriving Inhabited
structure Clm where
 id:Int
 item:Int
 tm:Int
 kind:Int
 post:Int
 val:Int
 deriving Inhabited
def encT (x:Trm):List Value:=[.int .u8 x.cls,.int .i64 x.free,.int .i64 x.share,.int .i64 x.most,.int .i64 x.aft,.int .i64 x.lmt,.int .i64 x.wthn]
def encN (x:Snt):List Value:=[.int .i64 x.item,.int .u8 x.cls,.int .i64 x.frm,.int .i64 x.to,.int .i64 x.acc,.int .i64 x.del]
def encC (x:Clm):List Value:=[.int .i64 x.id,.int .i64 x.item,.int .i64 x.tm,.int .u8 x.kind,.int .i64 x.post,.int .i64 x.val]
theorem encT_len (x:Trm):(encT x).length=7:=rfl
theorem encN_len (x:Snt):(encN x).length=6:=rfl
theorem encC_len (x:Clm):(encC x).length=6:=rfl
section
variable {mp:Bool} {lim:Nat} {H:zH} {Q:Value→zH→Prop} {c:Clm} {x:Snt} {y:Trm} {p:Int} {kn ht la lo dn:Bool}
theorem row1_ok [OA]:CallR E mp lim 69 [.agg #[.int .i64 c.id,.int .i64 c.item,.int .i64 c.tm,.int .u8 c.kind,.int .i64 c.post,.int .i64 c.val,.int .i64 x.item,.int .u8 x.cls,.int .i64 x.frm,.int .i64 x.to,.int .i64 x.acc,.int .i64 x.del,.int .u8 y.cls,.int .i64 y.free,.int .i64 y.share,.int .i64 y.most,.int .i64 y.aft,.int .i64 y.lmt,.int .i64 y.wthn,.int .i64 p,.bool kn,.bool ht,.bool la,.bool lo,.bool dn]] H Q=Q (.bool (!kn)) H:=by
 refine pc (by decide) e69 rfl rfl ?_
 rw [b69,c69]
 simp only [n69,r69,SB,seval,zCa,aOp,zB,aUn,reduceCtorEq,zFr,place,zTu,zRe]
theorem row2_ok [OA]:CallR E mp lim 70 [.agg #[.int .i64 c.id,.int .i64 c.item,.int .i64 c.tm,.int .u8 c.kind,.int .i64 c.post,.int .i64 c.val,.int .i64 x.item,.int .u8 x.cls,.int .i64 x.frm,.int .i64 x.to,.int .i64 x.acc,.int .i64 x.del,.int .u8 y.cls,.int .i64 y.free,.int .i64 y.share,.int .i64 y.most,.int .i64 y.aft,.int .i64 y.lmt,.int .i64 y.wthn,.int .i64 p,.bool kn,.bool ht,.bool la,.bool lo,.bool dn]] H Q=Q (.bool (!ht)) H:=by
 refine pc (by decide) e70 rfl rfl ?_
 rw [b70,c70]
 simp only [n70,r70,SB,seval,zCa,aOp,zB,aUn,reduceCtorEq,zFr,place,zTu,zRe]
theorem row3_ok [OA]:CallR E mp lim 71 [.agg #[.int .i64 c.id,.int .i64 c.item,.int .i64 c.tm,.int .u8 c.kind,.int .i64 c.post,.int .i64 c.val,.int .i64 x.item,.int .u8 x.cls,.int .i64 x.frm,.int .i64 x.to,.int .i64 x.acc,.int .i64 x.del,.int .u8 y.cls,.int .i64 y.free,.int .i64 y.share,.int .i64 y.most,.int .i64 y.aft,.int .i64 y.lmt,.int .i64 y.wthn,.int .i64 p,.bool kn,.bool ht,.bool la,.bool lo,.bool dn]] H Q=Q (.bool (decide (IntKind.i64.wrap (p+IntKind.i64.wrap (y.wthn*1440))<c.tm))) H:=by
 refine pc (by decide) e71 rfl rfl ?_
 rw [b71,c71]
 simp only [n71,r71,SB,seval,zCa,aOp,zB,aUn,reduceCtorEq,zFr,place,zTu,zRe]
theorem row4_ok [OA]:CallR E mp lim 72 [.agg #[.int .i64 c.id,.int .i64 c.item,.int .i64 c.tm,.int .u8 c.kind,.int .i64 c.post,.int .i64 c.val,.int .i64 x.item,.int .u8 x.cls,.int .i64 x.frm,.int .i64 x.to,.int .i64 x.acc,.int .i64 x.del,.int .u8 y.cls,.int .i64 y.free,.int .i64 y.share,.int .i64 y.most,.int .i64 y.aft,.int .i64 y.lmt,.int .i64 y.wthn,.int .i64 p,.bool kn,.bool ht,.bool la,.bool lo,.bool dn]] H Q=Q (.bool (la&&!dn)) H:=by
 refine pc (by decide) e72 rfl rfl ?_
 rw [b72,c72]
 simp only [n72,r72,SB,seval,zCa,aOp,zB,aUn,reduceCtorEq,zFr,place,zTu,zRe]
 repeat' ((first | refine wantK_dec (fun hw=>?_) (fun hw=>?_) | refine condK_dec (fun hw=>?_) (fun hw=>?_) | refine wantK_any (fun hw=>?_) (fun hw=>?_) | refine condK_any (fun hw=>?_) (fun hw=>?_))<;>(try simp only [hw,n72,r72,Bool.true_and,Bool.false_and,SB,Nat.reduceLT,zCa,aOp,Nat.reduceEqDiff,zB,aUn,reduceCtorEq,zFr,place,zTu,Nat.reduceAdd,Nat.reduceLeDiff,zRe,Int.reduceEq,Int.reduceLT,Int.reduceLE]))
theorem row5_ok [OA]:CallR E mp lim 73 [.agg #[.int .i64 c.id,.int .i64 c.item,.int .i64 c.tm,.int .u8 c.kind,.int .i64 c.post,.int .i64 c.val,.int .i64 x.item,.int .u8 x.cls,.int .i64 x.frm,.int .i64 x.to,.int .i64 x.acc,.int .i64 x.del,.int .u8 y.cls,.int .i64 y.free,.int .i64 y.share,.int .i64 y.most,.int .i64 y.aft,.int .i64 y.lmt,.int .i64 y.wthn,.int .i64 p,.bool kn,.bool ht,.bool la,.bool lo,.bool dn]] H Q=Q (.bool (la&&decide (x.del≤IntKind.i64.wrap (p+y.free)))) H:=by
 refine pc (by decide) e73 rfl rfl ?_
 rw [b73,c73]
 simp only [n73,r73,SB,seval,zCa,aOp,zB,aUn,reduceCtorEq,zFr,place,zTu,zRe]
 repeat' ((first | refine wantK_dec (fun hw=>?_) (fun hw=>?_) | refine condK_dec (fun hw=>?_) (fun hw=>?_) | refine wantK_any (fun hw=>?_) (fun hw=>?_) | refine condK_any (fun hw=>?_) (fun hw=>?_))<;>(try simp only [hw,n73,r73,Bool.true_and,Bool.false_and,SB,Nat.reduceLT,zCa,aOp,Nat.reduceEqDiff,zB,aUn,reduceCtorEq,zFr,place,zTu,Nat.reduceAdd,Nat.reduceLeDiff,zRe,Int.reduceEq,Int.reduceLT,Int.reduceLE]))
theorem row6_ok [OA]:CallR E mp lim 74 [.agg #[.int .i64 c.id,.int .i64 c.item,.int .i64 c.tm,.int .u8 c.kind,.int .i64 c.post,.int .i64 c.val,.int .i64 x.item,.int .u8 x.cls,.int .i64 x.frm,.int .i64 x.to,.int .i64 x.acc,.int .i64 x.del,.int .u8 y.cls,.int .i64 y.free,.int .i64 y.share,.int .i64 y.most,.int .i64 y.aft,.int .i64 y.lmt,.int .i64 y.wthn,.int .i64 p,.bool kn,.bool ht,.bool la,.bool lo,.bool dn]] H Q=Q (.bool (lo&&dn)) H:=by
 refine pc (by decide) e74 rfl rfl ?_
 rw [b74,c74]
 simp only [n74,r74,SB,seval,zCa,aOp,zB,aUn,reduceCtorEq,zFr,place,zTu,zRe]
 repeat' ((first | refine wantK_dec (fun hw=>?_) (fun hw=>?_) | refine condK_dec (fun hw=>?_) (fun hw=>?_) | refine wantK_any (fun hw=>?_) (fun hw=>?_) | refine condK_any (fun hw=>?_) (fun hw=>?_))<;>(try simp only [hw,n74,r74,Bool.true_and,Bool.false_and,SB,Nat.reduceLT,zCa,aOp,Nat.reduceEqDiff,zB,aUn,reduceCtorEq,zFr,place,zTu,Nat.reduceAdd,Nat.reduceLeDiff,zRe,Int.reduceEq,Int.reduceLT,Int.reduceLE]))
theorem row7_ok [OA]:CallR E mp lim 75 [.agg #[.int .i64 c.id,.int .i64 c.item,.int .i64 c.tm,.int .u8 c.kind,.int .i64 c.post,.int .i64 c.val,.int .i64 x.item,.int .u8 x.cls,.int .i64 x.frm,.int .i64 x.to,.int .i64 x.acc,.int .i64 x.del,.int .u8 y.cls,.int .i64 y.free,.int .i64 y.share,.int .i64 y.most,.int .i64 y.aft,.int .i64 y.lmt,.int .i64 y.wthn,.int .i64 p,.bool kn,.bool ht,.bool la,.bool lo,.bool dn]] H Q=Q (.bool (lo&&decide (c.tm≤IntKind.i64.wrap (p+y.aft)))) H:=by
 refine pc (by decide) e75 rfl rfl ?_
 rw [b75,c75]
 simp only [n75,r75,SB,seval,zCa,aOp,zB,aUn,reduceCtorEq,zFr,place,zTu,zRe]
 repeat' ((first | refine wantK_dec (fun hw=>?_) (fun hw=>?_) | refine condK_dec (fun hw=>?_) (fun hw=>?_) | refine wantK_any (fun hw=>?_) (fun hw=>?_) | refine condK_any (fun hw=>?_) (fun hw=>?_))<;>(try simp only [hw,n75,r75,Bool.true_and,Bool.false_and,SB,Nat.reduceLT,zCa,aOp,Nat.reduceEqDiff,zB,aUn,reduceCtorEq,zFr,place,zTu,Nat.reduceAdd,Nat.reduceLeDiff,zRe,Int.reduceEq,Int.reduceLT,Int.reduceLE]))
theorem rows_ok [OA]:CallR E mp lim 59 [] H Q=Q (.agg #[.func (.func 69) #[] #[],.int .u8 1,.func (.func 70) #[] #[],.int .u8 2,.func (.func 71) #[] #[],.int .u8 3,.func (.func 72) #[] #[],.int .u8 4,.func (.func 73) #[] #[],.int .u8 5,.func (.func 74) #[] #[],.int .u8 5,.func (.func 75) #[] #[],.int .u8 4]) H:=by
 refine pc (by decide) e59 rfl rfl ?_
 rw [b59,c59]
 simp only [n59,r59,fillV_func,SB,seval,zCa,aOp,zB,aUn,reduceCtorEq,zFr,place,zTu,zRe]
def decF (c:Clm) (x:Snt) (y:Trm) (p:Int) (kn ht la lo dn:Bool) (paid:Int):Int×Int:=
 if kn=false then (0,1) else if ht=false then (0,2)
 else if IntKind.i64.wrap (p+IntKind.i64.wrap (y.wthn*1440))<c.tm then (0,3)
 else if (la&&!dn)=true then (0,4) else if (la&&decide (x.del≤IntKind.i64.wrap (p+y.free)))=true then (0,5)
 else if (lo&&dn)=true then (0,5) else if (lo&&decide (c.tm≤IntKind.i64.wrap (p+y.aft)))=true then (0,4) else (paid,6)
theorem wl1:IntKind.i64.wrap 1=1:=by decide
theorem wl2:IntKind.i64.wrap 2=2:=by decide
theorem wl3:IntKind.i64.wrap 3=3:=by decide
theorem wl4:IntKind.i64.wrap 4=4:=by decide
theorem wl5:IntKind.i64.wrap 5=5:=by decide
theorem wl6:IntKind.i64.wrap 6=6:=by decide
theorem wl7:IntKind.i64.wrap 7=7:=by decide
theorem decide_ok [OA] {n:Int} (hp:(∀v,decF c x y p kn ht la lo dn v=(v,6))→∀(mp:Bool) (lim:Nat) (H:zH) (Q:Value→zH→Prop),CallR E mp lim 60 [.agg #[.int .i64 c.id,.int .i64 c.item,.int .i64 c.tm,.int .u8 c.kind,.int .i64 c.post,.int .i64 c.val,.int .i64 x.item,.int .u8 x.cls,.int .i64 x.frm,.int .i64 x.to,.int .i64 x.acc,.int .i64 x.del,.int .u8 y.cls,.int .i64 y.free,.int .i64 y.share,.int .i64 y.most,.int .i64 y.aft,.int .i64 y.lmt,.int .i64 y.wthn,.int .i64 p,.bool kn,.bool ht,.bool la,.bool lo,.bool dn]] H Q=Q (.int .i64 n) H) :
  CallR E mp lim 39 [.agg #[.int .i64 c.id,.int .i64 c.item,.int .i64 c.tm,.int .u8 c.kind,.int .i64 c.post,.int .i64 c.val,.int .i64 x.item,.int .u8 x.cls,.int .i64 x.frm,.int .i64 x.to,.int .i64 x.acc,.int .i64 x.del,.int .u8 y.cls,.int .i64 y.free,.int .i64 y.share,.int .i64 y.most,.int .i64 y.aft,.int .i64 y.lmt,.int .i64 y.wthn,.int .i64 p,.bool kn,.bool ht,.bool la,.bool lo,.bool dn]] H Q=Q (.agg #[.int .i64 c.id,.int .i64 (decF c x y p kn ht la lo dn n).1,.int .u8 (decF c x y p kn ht la lo dn n).2]) H:=by
 refine pc (by decide) e39 rfl rfl ?_
 rw [b39,c39]
 by_cases c1:kn=false
 ·subst c1
  simp only [n39,r39,rows_ok,row1_ok,row2_ok,row3_ok,row4_ok,row5_ok,row6_ok,row7_ok,Ret_loop,Ret_inLoop,l39_1,wl1,wl2,wl3,wl4,wl5,wl6,wl7,Int.reduceAdd,Int.reduceToNat,Int.toNat_zero,Nat.zero_mul,Nat.reduceMul,Int.zero_add,and_self,fillV_func,Int.toNat_one,Nat.one_mul,SB,seval,zCa,aOp,zB,aUn,reduceCtorEq,zFr,place,zTu,zRe]
  simp [decF]
 simp only [Bool.not_eq_false] at c1
 by_cases c2:ht=false
 ·subst c1 c2
  simp only [n39,r39,rows_ok,row1_ok,row2_ok,row3_ok,row4_ok,row5_ok,row6_ok,row7_ok,Ret_loop,Ret_inLoop,l39_1,wl1,wl2,wl3,wl4,wl5,wl6,wl7,Int.reduceAdd,Int.reduceToNat,Int.toNat_zero,Nat.zero_mul,Nat.reduceMul,Int.zero_add,and_self,fillV_func,Int.toNat_one,Nat.one_mul,SB,seval,zCa,aOp,zB,aUn,reduceCtorEq,zFr,place,zTu,zRe]
  simp [decF]
 simp only [Bool.not_eq_false] at c2
 subst c1 c2
 by_cases c3:IntKind.i64.wrap (p+IntKind.i64.wrap (y.wthn*1440))<c.tm
 ·simp only [n39,r39,rows_ok,row1_ok,row2_ok,row3_ok,row4_ok,row5_ok,row6_ok,row7_ok,Ret_loop,Ret_inLoop,l39_1,wl1,wl2,wl3,wl4,wl5,wl6,wl7,Int.reduceAdd,Int.reduceToNat,Int.toNat_zero,Nat.zero_mul,Nat.reduceMul,Int.zero_add,and_self,fillV_func,Int.toNat_one,Nat.one_mul,c3,SB,seval,zCa,aOp,zB,aUn,reduceCtorEq,zFr,place,zTu,zRe]
  simp [decF,c3]
 by_cases c4:(la&&!dn)=true
 ·simp only [n39,r39,rows_ok,row1_ok,row2_ok,row3_ok,row4_ok,row5_ok,row6_ok,row7_ok,Ret_loop,Ret_inLoop,l39_1,wl1,wl2,wl3,wl4,wl5,wl6,wl7,Int.reduceAdd,Int.reduceToNat,Int.toNat_zero,Nat.zero_mul,Nat.reduceMul,Int.zero_add,and_self,fillV_func,Int.toNat_one,Nat.one_mul,c3,c4,SB,seval,zCa,aOp,zB,aUn,reduceCtorEq,zFr,place,zTu,zRe]
  simp [decF,c3,c4]
 by_cases c5:(la&&decide (x.del≤IntKind.i64.wrap (p+y.free)))=true
 ·simp only [Bool.not_eq_true] at c4
  simp only [n39,r39,rows_ok,row1_ok,row2_ok,row3_ok,row4_ok,row5_ok,row6_ok,row7_ok,Ret_loop,Ret_inLoop,l39_1,wl1,wl2,wl3,wl4,wl5,wl6,wl7,Int.reduceAdd,Int.reduceToNat,Int.toNat_zero,Nat.zero_mul,Nat.reduceMul,Int.zero_add,and_self,fillV_func,Int.toNat_one,Nat.one_mul,c3,c4,c5,SB,seval,zCa,aOp,zB,aUn,reduceCtorEq,zFr,place,zTu,zRe]
  simp [decF,c3,c4,c5]
 by_cases c6:(lo&&dn)=true
 ·simp only [Bool.not_eq_true] at c4 c5
  simp only [n39,r39,rows_ok,row1_ok,row2_ok,row3_ok,row4_ok,row5_ok,row6_ok,row7_ok,Ret_loop,Ret_inLoop,l39_1,wl1,wl2,wl3,wl4,wl5,wl6,wl7,Int.reduceAdd,Int.reduceToNat,Int.toNat_zero,Nat.zero_mul,Nat.reduceMul,Int.zero_add,and_self,fillV_func,Int.toNat_one,Nat.one_mul,c3,c4,c5,c6,SB,seval,zCa,aOp,zB,aUn,reduceCtorEq,zFr,place,zTu,zRe]
  simp [decF,c3,c4,c5,c6]
 by_cases c7:(lo&&decide (c.tm≤IntKind.i64.wrap (p+y.aft)))=true
 ·simp only [Bool.not_eq_true] at c4 c5 c6
  simp only [n39,r39,rows_ok,row1_ok,row2_ok,row3_ok,row4_ok,row5_ok,row6_ok,row7_ok,Ret_loop,Ret_inLoop,l39_1,wl1,wl2,wl3,wl4,wl5,wl6,wl7,Int.reduceAdd,Int.reduceToNat,Int.toNat_zero,Nat.zero_mul,Nat.reduceMul,Int.zero_add,and_self,fillV_func,Int.toNat_one,Nat.one_mul,c3,c4,c5,c6,c7,SB,seval,zCa,aOp,zB,aUn,reduceCtorEq,zFr,place,zTu,zRe]
  simp only [decF,c3,c4,c5,c6,c7]
  simp
 ·simp only [Bool.not_eq_true] at c4 c5 c6 c7
  have hp:=hp fun v=>by simp only [decF,c3,c4,c5,c6,c7];simp
  simp only [n39,r39,rows_ok,row1_ok,row2_ok,row3_ok,row4_ok,row5_ok,row6_ok,row7_ok,Ret_loop,Ret_inLoop,l39_1,wl1,wl2,wl3,wl4,wl5,wl6,wl7,Int.reduceAdd,Int.reduceToNat,Int.toNat_zero,Nat.zero_mul,Nat.reduceMul,Int.zero_add,and_self,fillV_func,Int.toNat_one,Nat.one_mul,c3,c4,c5,c6,c7,hp,SB,seval,zCa,aOp,zB,aUn,reduceCtorEq,zFr,place,zTu,zRe]
  simp only [decF,c3,c4,c5,c6,c7]
  simp
theorem paid_ok [OA] {n:Int} (h:lo=true∧n=IntKind.i64.wrap ((if y.lmt<c.val then y.lmt else c.val)+c.post)∨
   lo=false∧(0≤c.post∧c.post≤1000000000000000)∧∃d m,IntKind.i64.wrap (IntKind.i64.wrap (x.del-p)-y.free)=d∧IntKind.i64.wrap ((IntKind.i64.wrap (IntKind.i64.wrap (d+1440)-1)).tdiv 1440)=m∧n=shareS c.post (if y.most<IntKind.i64.wrap (m*y.share) then y.most else IntKind.i64.wrap (m*y.share))∧
    0≤(if y.most<IntKind.i64.wrap (m*y.share) then y.most else IntKind.i64.wrap (m*y.share))∧(if y.most<IntKind.i64.wrap (m*y.share) then y.most else IntKind.i64.wrap (m*y.share))≤10000) :
  CallR E mp lim 60 [.agg #[.int .i64 c.id,.int .i64 c.item,.int .i64 c.tm,.int .u8 c.kind,.int .i64 c.post,.int .i64 c.val,.int .i64 x.item,.int .u8 x.cls,.int .i64 x.frm,.int .i64 x.to,.int .i64 x.acc,.int .i64 x.del,.int .u8 y.cls,.int .i64 y.free,.int .i64 y.share,.int .i64 y.most,.int .i64 y.aft,.int .i64 y.lmt,.int .i64 y.wthn,.int .i64 p,.bool kn,.bool ht,.bool la,.bool lo,.bool dn]] H Q=Q (.int .i64 n) H:=by
 refine pc (by decide) e60 rfl rfl ?_
 rw [b60,c60]
 rcases h with ⟨rfl,rfl⟩ | ⟨rfl,h1,d,m,hd,hm,hn,hr⟩
 ·simp only [n60,r60,aMinMaxAll,aMinMax,SB,seval,zCa,aOp,zB,aUn,reduceCtorEq,zFr,place,zTu,zRe]
 ·have hS:=fun mp lim H Q=>Share_ok (mp:=mp) (lim:=lim) (H:=H) (Q:=Q) h1 hr
  simp only [n60,r60,aMinMaxAll,aMinMax,hd,hm,hS,hn,SB,seval,zCa,aOp,zB,aUn,reduceCtorEq,zFr,place,zTu,zRe]
end
def okT (x:Trm):Bool:=allIn [(x.free,0,100000),(x.share,0,10000),(x.most,0,10000),(x.aft,0,1000000),(x.lmt,0,250000000000000),(x.wthn,0,3650)]
def okTAt (l:List Trm) (i:Nat):Bool:=decide (1≤(gt l i).cls)&&(decide (i=0)||decide ((gt l (i-1)).cls<(gt l i).cls))&&okT (gt l i)
def rightT (l:List Trm):Bool:=decide (l.length≤200)&&allFrom (okTAt l) l.length 0
theorem RightTerms_ok [OA] (mp:Bool) (lim:Nat) {p:Option Addr} {l:List Trm} {cap:Nat} {H:zH} {Q:Value→zH→Prop} (hs:Sl H encT 7 p l) (hn:l.length<2 ^ 62) :
  CallR E mp lim 26 [.slice p l.length cap] H Q=Q (.bool (rightT l)) H:=by
 refine pc (by decide) e26 rfl rfl ?_
 rw [b26,c26]
 by_cases h200:200<(l.length:Int)
 ·simp only [n26,r26,h200,SB,seval,zCa,aOp,zB,aUn,reduceCtorEq,zFr,place,zTu,zRe]
  simp [rightT];omega
 simp only [n26,r26,h200,SB,seval,zCa,aOp,zB,aUn,reduceCtorEq,zFr,place,zTu,zRe]
 refine zRr (fun i=>l.length-i) (fun i fr G=>i≤l.length∧fr 0=.slice p l.length cap∧fr 8=.slice p l.length cap∧fr 9=.int .i64 (l.length:Int)∧fr 10=.int .i64 (i:Int)∧Ext H G∧
  allFrom (okTAt l) l.length 0=allFrom (okTAt l) l.length i) 0 ⟨Nat.zero_le _,(by rfl),(by rfl),(by rfl),by rfl,Ext.refl.app,rfl⟩ ?_
 intro i fr G ⟨hi,h0,h8,h9,h10,hE,ha⟩ hN
 rw [zRc l26_1.eq_1]
 refine zRp ?_
 by_cases hlt:i<l.length
 ·have hL:=hE.len
  have hg:=hE.sl hs
  have hld:=fun X=>(hg.app X).loadCells encT_len hlt
  have hidx:=fun c (k:IntKind) (H1:zH)=>hg.idx (c:=c) (k:=k) (H1:=H1) hlt
  have hw1:IntKind.i64.wrap ((i:Int)+1)=((i+1:Nat):Int):=zWn (by omega)
  have hw2:0<i→IntKind.i64.wrap ((i:Int)-1)=((i-1:Nat):Int):=fun h=>wrap_pred h (by omega)
  have hlp:=fun (_:0<i)=>(by omega:i-1<l.length)
  have hldp:=fun (h:0<i) X j hj=>(hg.app X).loadCell (j:=j) encT_len (hlp h) hj
  have hidxp:=fun (h:0<i) c (k:IntKind) (H1:zH)=>hg.idx (c:=c) (k:=k) (H1:=H1) (hlp h)
  simp only [n26,r26,h0,h8,h9,h10,hlt,hL,hidx,hld,encT,hw1,id_ok,within_lit,isCells_cells,cellsOf_cells,rowsOf_cons,rowsOf_nil,okRows_cons,okRows_nil,Nat.reducePow,SB,seval,zCa,aOp,zB,aUn,reduceCtorEq,zFr,place,zTu,zRe]
  repeat' ((first | refine wantK_dec (fun hw=>?_) (fun hw=>?_) | refine condK_dec (fun hw=>?_) (fun hw=>?_) | refine wantK_any (fun hw=>?_) (fun hw=>?_) | refine condK_any (fun hw=>?_) (fun hw=>?_))<;>(try simp only [hw,n26,r26,h0,h8,h9,h10,hlt,hL,hidx,hld,hidxp,hldp,encT,hw1,hw2,id_ok,within_lit,isCells_cells,cellsOf_cells,rowsOf_cons,rowsOf_nil,okRows_cons,okRows_nil,Nat.reducePow,SB,Nat.reduceLT,zCa,aOp,Nat.reduceEqDiff,zB,aUn,reduceCtorEq,zFr,place,zTu,Nat.reduceAdd,Nat.reduceLeDiff,zRe,Int.reduceEq,Int.reduceLT,Int.reduceLE]))
  all_goals first | refine hN (i+1) _ _ ⟨by omega,(by exact h0),(by exact h8),(by exact h9),(by rfl),hE.app, ?_⟩ (by omega) | skip
  all_goals clear hN;simp only [rightT,ha,allFrom_step hlt,okTAt,okT]
  all_goals simp [*]
  all_goals omega
 ·obtain rfl:i=l.length:=by omega
  simp only [n26,r26,h0,h8,h9,h10,hlt,SB,seval,zCa,aOp,zB,aUn,reduceCtorEq,zFr,place,zTu,zRe]
  simp [rightT,ha,allFrom_end]
  omega
def metMap (ks:List Int):List (Value×Value):=ks.map fun k=>(.int .i64 k,.bool true)
theorem met_no {ks:List Int} {a:Int} {i:Nat} (h:a∉ks):findKey (.int .i64 a) (metMap ks) i=some none:=by
 unfold metMap
 exact findKey_no (f:=fun k:Int=>k) (g:=fun _=>.bool true) fun x hx e=>h (e▸hx)
theorem met_yes {ks:List Int} {a:Int} {i:Nat} (h:a∈ks):∃j,findKey (.int .i64 a) (metMap ks) i=some (some (j,.bool true)):=by
 unfold metMap
 exact findKey_yes (f:=fun k:Int=>k) (g:=fun _=>.bool true) ⟨a,h,rfl⟩ fun _ _ _=>rfl
theorem met_add {ks:List Int} {a:Int}:metMap ks++[(.int .i64 a,.bool true)]=metMap (ks++[a]):=by simp [metMap]
def okN (x:Snt):Bool:=allIn [(x.item,1,999999),(x.frm,1,999999),(x.to,1,999999),(x.acc,0,1051898399)]&&(decide (x.del=-1)||inB (x.del,x.acc,1051898399))
def okNAt (l:List Snt) (i:Nat):Bool:=decide (1≤(gt l i).cls)&&!((l.take i).map (·.item)).contains (gt l i).item&&okN (gt l i)
def rightN (l:List Snt):Bool:=decide (l.length≤2000)&&allFrom (okNAt l) l.length 0
theorem take_map_succ {α:Type} [Inhabited α] {l:List α} {f:α→Int} {i:Nat} (h:i<l.length):((l.take (i+1)).map f)=(l.take i).map f++[f (gt l i)]:=by
 rw [List.take_succ_eq_append_getElem h,List.map_append,zGl h];rfl
theorem RightSent_ok [OA] (mp:Bool) (lim:Nat) {p:Option Addr} {l:List Snt} {cap:Nat} {H:zH} {Q:Value→zH→Prop} (hs:Sl H encN 6 p l) (hn:l.length<2 ^ 62) :
  CallR E mp lim 27 [.slice p l.length cap] H Q=Q (.bool (rightN l)) H:=by
 refine pc (by decide) e27 rfl rfl ?_
 rw [b27,c27]
 by_cases h200:2000<(l.length:Int)
 ·simp only [n27,r27,h200,SB,seval,zCa,aOp,zB,aUn,reduceCtorEq,zFr,place,zTu,zRe]
  simp [rightN];omega
 simp only [n27,r27,h200,SB,seval,zCa,aOp,zB,aUn,reduceCtorEq,zFr,place,zTu,zRe]
 refine zRr (fun i=>l.length-i) (fun i fr G=>i≤l.length∧fr 12=.slice p l.length cap∧fr 13=.int .i64 (l.length:Int)∧fr 14=.int .i64 (i:Int)∧fr 3=.map (some H.length)∧
  H.length<G.length∧Sl G encN 6 p l∧zG G H.length=.map (metMap ((l.take i).map (·.item)))∧
  allFrom (okNAt l) l.length 0=allFrom (okNAt l) l.length i) 0 ⟨Nat.zero_le _,(by rfl),(by rfl),by rfl,(by rfl),by simp,hs.app _,zHn,rfl⟩ ?_
 intro i fr G ⟨hi,h12,h13,h14,h3,hL,hg,hm,ha⟩ hN
 rw [zRc l27_1.eq_1]
 refine zRp ?_
 by_cases hlt:i<l.length
 ·have hL':=Nat.le_of_lt hL
  have hm':∀X,zG (G++X) H.length=.map (metMap ((l.take i).map (·.item))):=fun X=>by rw [zHo hL];exact hm
  have hld:=fun X=>(hg.app X).loadCells encN_len hlt
  have hidx:=fun c (k:IntKind) (H1:zH)=>hg.idx (c:=c) (k:=k) (H1:=H1) hlt
  have hw1:IntKind.i64.wrap ((i:Int)+1)=((i+1:Nat):Int):=zWn (by omega)
  by_cases hmet:(gt l i).item∈(l.take i).map (·.item)
  ·obtain ⟨j,hj⟩:=met_yes (i:=0) hmet
   simp only [n27,r27,h12,h13,h14,h3,hlt,hL',hidx,hld,encN,hw1,hm',hj,id_ok,within_lit,isCells_cells,cellsOf_cells,rowsOf_cons,rowsOf_nil,okRows_cons,okRows_nil,Nat.reducePow,SB,seval,zCa,aOp,zB,aUn,reduceCtorEq,zFr,place,zTu,zRe]
   repeat' ((first | refine wantK_dec (fun hw=>?_) (fun hw=>?_) | refine condK_dec (fun hw=>?_) (fun hw=>?_) | refine wantK_any (fun hw=>?_) (fun hw=>?_) | refine condK_any (fun hw=>?_) (fun hw=>?_))<;>(try simp only [hw,n27,r27,h12,h13,h14,h3,hlt,hL',hidx,hld,encN,hw1,hm',hj,id_ok,within_lit,isCells_cells,cellsOf_cells,rowsOf_cons,rowsOf_nil,okRows_cons,okRows_nil,Nat.reducePow,SB,Nat.reduceLT,zCa,aOp,Nat.reduceEqDiff,zB,aUn,reduceCtorEq,zFr,place,zTu,Nat.reduceAdd,Nat.reduceLeDiff,zRe,Int.reduceEq,Int.reduceLT,Int.reduceLE]))
   all_goals clear hN
   all_goals simp only [rightN,ha,allFrom_step hlt,okNAt]
   all_goals simp_all
  ·have hj:=met_no (i:=0) hmet
   simp only [n27,r27,h12,h13,h14,h3,hlt,hL',hidx,hld,encN,hw1,hm',hj,id_ok,within_lit,isCells_cells,cellsOf_cells,rowsOf_cons,rowsOf_nil,okRows_cons,okRows_nil,Nat.reducePow,SB,seval,zCa,aOp,zB,aUn,reduceCtorEq,zFr,place,zTu,zRe]
   repeat' ((first | refine wantK_dec (fun hw=>?_) (fun hw=>?_) | refine condK_dec (fun hw=>?_) (fun hw=>?_) | refine wantK_any (fun hw=>?_) (fun hw=>?_) | refine condK_any (fun hw=>?_) (fun hw=>?_))<;>(try simp only [hw,n27,r27,h12,h13,h14,h3,hlt,hL',hidx,hld,encN,hw1,hm',hj,id_ok,within_lit,isCells_cells,cellsOf_cells,rowsOf_cons,rowsOf_nil,okRows_cons,okRows_nil,Nat.reducePow,SB,Nat.reduceLT,zCa,aOp,Nat.reduceEqDiff,zB,aUn,reduceCtorEq,zFr,place,zTu,Nat.reduceAdd,Nat.reduceLeDiff,zRe,Int.reduceEq,Int.reduceLT,Int.reduceLE]))
   all_goals first
    | (refine hN (i+1) _ _ ⟨by omega,(by exact h12),(by exact h13),(by rfl),(by exact h3),by simp;omega, ?_, ?_, ?_⟩ (by omega)
       ·refine hg.sim fun b ro c hb=>?_
        rw [zHs (by rintro rfl;rw [hm] at hb;cases hb),zHo (zHa hb)];exact hb
       ·rw [hget_set_eq (by simp;omega),met_add,take_map_succ hlt])
    | skip
   all_goals clear hN
   all_goals simp only [rightN,ha,allFrom_step hlt,okNAt,okN]
   all_goals simp_all [allIn]
   all_goals omega
 ·obtain rfl:i=l.length:=by omega
  simp only [n27,r27,h12,h13,h14,h3,hlt,SB,seval,zCa,aOp,zB,aUn,reduceCtorEq,zFr,place,zTu,zRe]
  simp [rightN,ha,allFrom_end]
  omega
def okC (x:Clm):Bool:=allIn [(x.id,1,999999),(x.item,1,999999),(x.tm,0,1051898399),(x.post,0,250000000000000),(x.val,0,250000000000000)]
def okCAt (l:List Clm) (i:Nat):Bool:=decide ((gt l i).kind=1∨(gt l i).kind=2)&&!((l.take i).map (·.id)).contains (gt l i).id&&okC (gt l i)
def rightC (l:List Clm):Bool:=decide (l.length≤500)&&allFrom (okCAt l) l.length 0
theorem RightClaims_ok [OA] (mp:Bool) (lim:Nat) {p:Option Addr} {l:List Clm} {cap:Nat} {H:zH} {Q:Value→zH→Prop} (hs:Sl H encC 6 p l) (hn:l.length<2 ^ 62) :
  CallR E mp lim 28 [.slice p l.length cap] H Q=Q (.bool (rightC l)) H:=by
 refine pc (by decide) e28 rfl rfl ?_
 rw [b28,c28]
 by_cases h200:500<(l.length:Int)
 ·simp only [n28,r28,h200,SB,seval,zCa,aOp,zB,aUn,reduceCtorEq,zFr,place,zTu,zRe]
  simp [rightC];omega
 simp only [n28,r28,h200,SB,seval,zCa,aOp,zB,aUn,reduceCtorEq,zFr,place,zTu,zRe]
 refine zRr (fun i=>l.length-i) (fun i fr G=>i≤l.length∧fr 12=.slice p l.length cap∧fr 13=.int .i64 (l.length:Int)∧fr 14=.int .i64 (i:Int)∧fr 3=.map (some H.length)∧
  H.length<G.length∧Sl G encC 6 p l∧zG G H.length=.map (metMap ((l.take i).map (·.id)))∧
  allFrom (okCAt l) l.length 0=allFrom (okCAt l) l.length i) 0 ⟨Nat.zero_le _,(by rfl),(by rfl),by rfl,(by rfl),by simp,hs.app _,zHn,rfl⟩ ?_
 intro i fr G ⟨hi,h12,h13,h14,h3,hL,hg,hm,ha⟩ hN
 rw [zRc l28_1.eq_1]
 refine zRp ?_
 by_cases hlt:i<l.length
 ·have hL':=Nat.le_of_lt hL
  have hm':∀X,zG (G++X) H.length=.map (metMap ((l.take i).map (·.id))):=fun X=>by rw [zHo hL];exact hm
  have hld:=fun X=>(hg.app X).loadCells encC_len hlt
  have hidx:=fun c (k:IntKind) (H1:zH)=>hg.idx (c:=c) (k:=k) (H1:=H1) hlt
  have hw1:IntKind.i64.wrap ((i:Int)+1)=((i+1:Nat):Int):=zWn (by omega)
  by_cases hmet:(gt l i).id∈(l.take i).map (·.id)
  ·obtain ⟨j,hj⟩:=met_yes (i:=0) hmet
   simp only [n28,r28,h12,h13,h14,h3,hlt,hL',hidx,hld,encC,hw1,hm',hj,id_ok,within_lit,isCells_cells,cellsOf_cells,rowsOf_cons,rowsOf_nil,okRows_cons,okRows_nil,Nat.reducePow,SB,seval,zCa,aOp,zB,aUn,reduceCtorEq,zFr,place,zTu,zRe]
   repeat' ((first | refine wantK_dec (fun hw=>?_) (fun hw=>?_) | refine condK_dec (fun hw=>?_) (fun hw=>?_) | refine wantK_any (fun hw=>?_) (fun hw=>?_) | refine condK_any (fun hw=>?_) (fun hw=>?_))<;>(try simp only [hw,n28,r28,h12,h13,h14,h3,hlt,hL',hidx,hld,encC,hw1,hm',hj,id_ok,within_lit,isCells_cells,cellsOf_cells,rowsOf_cons,rowsOf_nil,okRows_cons,okRows_nil,Nat.reducePow,SB,Nat.reduceLT,zCa,aOp,Nat.reduceEqDiff,zB,aUn,reduceCtorEq,zFr,place,zTu,Nat.reduceAdd,Nat.reduceLeDiff,zRe,Int.reduceEq,Int.reduceLT,Int.reduceLE]))
   all_goals clear hN
   all_goals simp only [rightC,ha,allFrom_step hlt,okCAt]
   all_goals simp_all
  ·have hj:=met_no (i:=0) hmet
   simp only [n28,r28,h12,h13,h14,h3,hlt,hL',hidx,hld,encC,hw1,hm',hj,id_ok,within_lit,isCells_cells,cellsOf_cells,rowsOf_cons,rowsOf_nil,okRows_cons,okRows_nil,Nat.reducePow,SB,seval,zCa,aOp,zB,aUn,reduceCtorEq,zFr,place,zTu,zRe]
   repeat' ((first | refine wantK_dec (fun hw=>?_) (fun hw=>?_) | refine condK_dec (fun hw=>?_) (fun hw=>?_) | refine wantK_any (fun hw=>?_) (fun hw=>?_) | refine condK_any (fun hw=>?_) (fun hw=>?_))<;>(try simp only [hw,n28,r28,h12,h13,h14,h3,hlt,hL',hidx,hld,encC,hw1,hm',hj,id_ok,within_lit,isCells_cells,cellsOf_cells,rowsOf_cons,rowsOf_nil,okRows_cons,okRows_nil,Nat.reducePow,SB,Nat.reduceLT,zCa,aOp,Nat.reduceEqDiff,zB,aUn,reduceCtorEq,zFr,place,zTu,Nat.reduceAdd,Nat.reduceLeDiff,zRe,Int.reduceEq,Int.reduceLT,Int.reduceLE]))
   all_goals first
    | (refine hN (i+1) _ _ ⟨by omega,(by exact h12),(by exact h13),(by rfl),(by exact h3),by simp;omega, ?_, ?_, ?_⟩ (by omega)
       ·refine hg.sim fun b ro c hb=>?_
        rw [zHs (by rintro rfl;rw [hm] at hb;cases hb),zHo (zHa hb)];exact hb
       ·rw [hget_set_eq (by simp;omega),met_add,take_map_succ hlt])
    | skip
   all_goals clear hN
   all_goals simp only [rightC,ha,allFrom_step hlt,okCAt,okC]
   all_goals simp_all [allIn]
   all_goals omega
 ·obtain rfl:i=l.length:=by omega
  simp only [n28,r28,h12,h13,h14,h3,hlt,SB,seval,zCa,aOp,zB,aUn,reduceCtorEq,zFr,place,zTu,zRe]
  simp [rightC,ha,allFrom_end]
  omega
theorem findN_ok [OA] {mp:Bool} {lim:Nat} {p:Option Addr} {l:List Snt} {cap:Nat} {H:zH} {Q:Value→zH→Prop} {g':FuncId} {cs:List Value} (w:Snt→Bool) (hs:Sl H encN 6 p l) (hn:l.length<2 ^ 62)
  (hcl:∀(X:zH) (lim:Nat) (x:Snt) (Q:Value→zH→Prop),CallR E false lim g' (.agg (encN x).toArray::cs) (H++X) Q=Q (.bool (w x)) (H++X)) :
  CallR E mp lim 55 [.slice p l.length cap,.func (.func g') #[] cs.toArray] H Q=Q (.tuple #[.agg (encN ((l.find? w).getD default)).toArray,.bool (l.find? w).isSome]) H:=by
 refine pc (by decide) e55 rfl rfl ?_
 rw [b55,c55]
 simp only [n55,r55,SB,seval,zCa,aOp,zB,aUn,reduceCtorEq,zFr,place,zTu,zRe]
 refine zRr (fun i=>l.length-i) (fun i fr G=>i≤l.length∧fr 9=.slice p l.length cap∧fr 1=.func (.func g') #[] cs.toArray∧fr 10=.int .i64 (l.length:Int)∧fr 11=.int .i64 (i:Int)∧
  fr 4=.pointer (some ⟨H.length,0,none⟩)∧Ext H G∧zG G H.length=.cells false [.int .i64 0,.int .u8 0,.int .i64 0,.int .i64 0,.int .i64 0,.int .i64 0]∧
  l.find? w=(l.drop i).find? w) 0 ⟨Nat.zero_le _,(by rfl),(by rfl),(by rfl),by rfl,(by rfl),Ext.refl.app,zHn,rfl⟩ ?_
 intro i fr G ⟨hi,h9,h1,h10,h11,h4,hE,hz,ha⟩ hN
 rw [zRc l55_1.eq_1]
 refine zRp ?_
 have hL:=hE.len
 have hzl:=zHa hz
 have hz':=fun X=>(Ext.refl.app (X:=X)).cells hz
 by_cases hlt:i<l.length
 ·have hg:=hE.sl hs
  have hld:=fun X=>(hg.app X).loadCells encN_len hlt
  have hidx:=fun c (k:IntKind) (H1:zH)=>hg.idx (c:=c) (k:=k) (H1:=H1) hlt
  have hw1:IntKind.i64.wrap ((i:Int)+1)=((i+1:Nat):Int):=zWn (by omega)
  rw [find_drop hlt] at ha
  have hcl':∀(X:zH) (lim:Nat) (x:Snt) (Q:Value→zH→Prop),CallR E false lim g' (.agg (encN x).toArray::cs) (G++X) Q=Q (.bool (w x)) (G++X):=by
   obtain ⟨Y,rfl⟩:=hE
   intro X lim x Q
   rw [List.append_assoc];exact hcl _ _ _ _
  simp only [encN] at hcl'
  simp only [n55,r55,h9,h1,h10,h11,h4,hlt,hL,hidx,hld,encN,hw1,hcl',SB,seval,zCa,aOp,zB,aUn,reduceCtorEq,zFr,place,zTu,zRe]
  repeat' ((first | refine wantK_dec (fun hw=>?_) (fun hw=>?_) | refine condK_dec (fun hw=>?_) (fun hw=>?_) | refine wantK_any (fun hw=>?_) (fun hw=>?_) | refine condK_any (fun hw=>?_) (fun hw=>?_))<;>(try simp only [hw,n55,r55,h9,h1,h10,h11,h4,hlt,hL,hidx,hld,encN,hw1,hcl',hz',hget_set_eq,List.length_set,Nat.lt_add_right,hzl,find_drop,SB,Nat.reduceLT,zCa,aOp,Nat.reduceEqDiff,zB,aUn,reduceCtorEq,zFr,place,zTu,Nat.reduceAdd,Nat.reduceLeDiff,zRe,Int.reduceEq,Int.reduceLT,Int.reduceLE]))
  ·rw [ha,if_pos hw];rfl
  ·refine hN (i+1) _ _ ⟨by omega,(by exact h9),(by exact h1),(by exact h10),(by rfl),(by exact h4),hE.app,hz' _, ?_⟩ (by omega)
   rw [ha,if_neg (by simp [hw])]
 ·obtain rfl:i=l.length:=by omega
  rw [List.drop_length,List.find?_nil] at ha
  simp only [n55,r55,h9,h1,h10,h11,h4,hlt,ha,hz',hzl,hL,hget_set_eq,List.length_set,Nat.lt_add_right,SB,seval,zCa,aOp,zB,aUn,reduceCtorEq,zFr,place,zTu,zRe]
  rfl
theorem findT_ok [OA] {mp:Bool} {lim:Nat} {p:Option Addr} {l:List Trm} {cap:Nat} {H:zH} {Q:Value→zH→Prop} {g':FuncId} {cs:List Value} (w:Trm→Bool) (hs:Sl H encT 7 p l) (hn:l.length<2 ^ 62)
  (hcl:∀(X:zH) (lim:Nat) (x:Trm) (Q:Value→zH→Prop),CallR E false lim g' (.agg (encT x).toArray::cs) (H++X) Q=Q (.bool (w x)) (H++X)) :
  CallR E mp lim 57 [.slice p l.length cap,.func (.func g') #[] cs.toArray] H Q=Q (.tuple #[.agg (encT ((l.find? w).getD default)).toArray,.bool (l.find? w).isSome]) H:=by
 refine pc (by decide) e57 rfl rfl ?_
 rw [b57,c57]
 simp only [n57,r57,SB,seval,zCa,aOp,zB,aUn,reduceCtorEq,zFr,place,zTu,zRe]
 refine zRr (fun i=>l.length-i) (fun i fr G=>i≤l.length∧fr 9=.slice p l.length cap∧fr 1=.func (.func g') #[] cs.toArray∧fr 10=.int .i64 (l.length:Int)∧fr 11=.int .i64 (i:Int)∧
  fr 4=.pointer (some ⟨H.length,0,none⟩)∧Ext H G∧zG G H.length=.cells false [.int .u8 0,.int .i64 0,.int .i64 0,.int .i64 0,.int .i64 0,.int .i64 0,.int .i64 0]∧
  l.find? w=(l.drop i).find? w) 0 ⟨Nat.zero_le _,(by rfl),(by rfl),(by rfl),by rfl,(by rfl),Ext.refl.app,zHn,rfl⟩ ?_
 intro i fr G ⟨hi,h9,h1,h10,h11,h4,hE,hz,ha⟩ hN
 rw [zRc l57_1.eq_1]
 refine zRp ?_
 have hL:=hE.len
 have hzl:=zHa hz
 have hz':=fun X=>(Ext.refl.app (X:=X)).cells hz
 by_cases hlt:i<l.length
 ·have hg:=hE.sl hs
  have hld:=fun X=>(hg.app X).loadCells encT_len hlt
  have hidx:=fun c (k:IntKind) (H1:zH)=>hg.idx (c:=c) (k:=k) (H1:=H1) hlt
  have hw1:IntKind.i64.wrap ((i:Int)+1)=((i+1:Nat):Int):=zWn (by omega)
  rw [find_drop hlt] at ha
  have hcl':∀(X:zH) (lim:Nat) (x:Trm) (Q:Value→zH→Prop),CallR E false lim g' (.agg (encT x).toArray::cs) (G++X) Q=Q (.bool (w x)) (G++X):=by
   obtain ⟨Y,rfl⟩:=hE
   intro X lim x Q
   rw [List.append_assoc];exact hcl _ _ _ _
  simp only [encT] at hcl'
  simp only [n57,r57,h9,h1,h10,h11,h4,hlt,hL,hidx,hld,encT,hw1,hcl',SB,seval,zCa,aOp,zB,aUn,reduceCtorEq,zFr,place,zTu,zRe]
  repeat' ((first | refine wantK_dec (fun hw=>?_) (fun hw=>?_) | refine condK_dec (fun hw=>?_) (fun hw=>?_) | refine wantK_any (fun hw=>?_) (fun hw=>?_) | refine condK_any (fun hw=>?_) (fun hw=>?_))<;>(try simp only [hw,n57,r57,h9,h1,h10,h11,h4,hlt,hL,hidx,hld,encT,hw1,hcl',hz',hget_set_eq,List.length_set,Nat.lt_add_right,hzl,find_drop,SB,Nat.reduceLT,zCa,aOp,Nat.reduceEqDiff,zB,aUn,reduceCtorEq,zFr,place,zTu,Nat.reduceAdd,Nat.reduceLeDiff,zRe,Int.reduceEq,Int.reduceLT,Int.reduceLE]))
  ·rw [ha,if_pos hw];rfl
  ·refine hN (i+1) _ _ ⟨by omega,(by exact h9),(by exact h1),(by exact h10),(by rfl),(by exact h4),hE.app,hz' _, ?_⟩ (by omega)
   rw [ha,if_neg (by simp [hw])]
 ·obtain rfl:i=l.length:=by omega
  rw [List.drop_length,List.find?_nil] at ha
  simp only [n57,r57,h9,h1,h10,h11,h4,hlt,ha,hz',hzl,hL,hget_set_eq,List.length_set,Nat.lt_add_right,SB,seval,zCa,aOp,zB,aUn,reduceCtorEq,zFr,place,zTu,zRe]
  rfl
def checkS (l:List Std) (t:List Trm) (s:List Snt) (c:List Clm):Int:=
 if right l=false then 400 else if rightT t=false then 401 else if rightN s=false then 402 else if rightC c=false then 403 else 0
theorem check_ok [OA] {mp:Bool} {lim:Nat} {pl pt ps pc':Option Addr} {l:List Std} {t:List Trm} {s:List Snt} {c:List Clm} {k1 k2 k3 k4:Nat} {H:zH} {Q:Value→zH→Prop}
  (hl:Sl H encS 4 pl l) (ht:Sl H encT 7 pt t) (hs:Sl H encN 6 ps s) (hc:Sl H encC 6 pc' c) (nl:l.length<2 ^ 62) (nt:t.length<2 ^ 62) (ns:s.length<2 ^ 62) (nc:c.length<2 ^ 62) :
  CallR E mp lim 37 [.slice pl l.length k1,.slice pt t.length k2,.slice ps s.length k3,.slice pc' c.length k4] H Q=Q (.int .i64 (checkS l t s c)) H:=by
 refine pc (by decide) e37 rfl rfl ?_
 rw [b37,c37]
 have h1:=fun mp lim X Q=>Right_ok mp lim (cap:=k1) (Q:=Q) (hl.app X) nl
 have h2:=fun mp lim X Q=>RightTerms_ok mp lim (cap:=k2) (Q:=Q) (ht.app X) nt
 have h3:=fun mp lim X Q=>RightSent_ok mp lim (cap:=k3) (Q:=Q) (hs.app X) ns
 have h4:=fun mp lim X Q=>RightClaims_ok mp lim (cap:=k4) (Q:=Q) (hc.app X) nc
 simp only [n37,r37,h1,h2,h3,h4,SB,seval,zCa,aOp,zB,aUn,reduceCtorEq,zFr,place,zTu,zRe]
 repeat' ((first | refine wantK_dec (fun hw=>?_) (fun hw=>?_) | refine condK_dec (fun hw=>?_) (fun hw=>?_) | refine wantK_any (fun hw=>?_) (fun hw=>?_) | refine condK_any (fun hw=>?_) (fun hw=>?_))<;>(try simp only [hw,n37,r37,h1,h2,h3,h4,SB,Nat.reduceLT,zCa,aOp,Nat.reduceEqDiff,zB,aUn,reduceCtorEq,zFr,place,zTu,Nat.reduceAdd,Nat.reduceLeDiff,zRe,Int.reduceEq,Int.reduceLT,Int.reduceLE]))
 all_goals simp [checkS, *]
theorem wantN_ok [OA] {mp:Bool} {lim:Nat} {x:Snt} {c:Clm} {b7:Nat} {r7:Bool} {H:zH} {Q:Value→zH→Prop} (h7:zG H b7=.cells r7 (encC c)) :
  CallR E mp lim 56 [.agg (encN x).toArray,.pointer (some ⟨b7,0,none⟩)] H Q=Q (.bool (decide (x.item=c.item))) H:=by
 refine pc (by decide) e56 rfl rfl ?_
 rw [b56,c56]
 have g7:=fun X=>(Ext.refl.app (X:=X)).cells h7
 simp only [n56,r56,encN,encC,g7,SB,seval,zCa,aOp,zB,aUn,reduceCtorEq,zFr,place,zTu,zRe]
theorem wantT_ok [OA] {mp:Bool} {lim:Nat} {t:Trm} {k:Int} {b9:Nat} {r9:Bool} {d:List Value} {H:zH} {Q:Value→zH→Prop} (h9:zG H b9=.cells r9 d) (hd:d[7]? = some (.int .u8 k)) :
  CallR E mp lim 58 [.agg (encT t).toArray,.pointer (some ⟨b9,0,none⟩)] H Q=Q (.bool (decide (t.cls=k))) H:=by
 refine pc (by decide) e58 rfl rfl ?_
 rw [b58,c58]
 have g9:=fun X=>(Ext.refl.app (X:=X)).cells h9
 simp only [n58,r58,encT,g9,hd,SB,seval,zCa,aOp,zB,aUn,reduceCtorEq,zFr,place,zTu,zRe]
structure Fil where
 x:Snt
 y:Trm
 p:Int
 kn:Bool
 ht:Bool
 dn:Bool
def fileS (l:List Std) (t:List Trm) (s:List Snt) (c:Clm):Fil:=
 match s.find? (fun x=>decide (x.item=c.item)) with
 | none=>⟨default,default,0,false,false,false⟩
 | some x=>⟨x,(t.find? (fun y=>decide (y.cls=x.cls))).getD default,(prom l x.cls x.frm x.to x.acc).1,true,(t.find? (fun y=>decide (y.cls=x.cls))).isSome&&(prom l x.cls x.frm x.to x.acc).2.2,decide (¬x.del=-1)&&decide (x.del≤c.tm)⟩
theorem open_ok [OA] {mp:Bool} {lim:Nat} {pl pt ps:Option Addr} {l:List Std} {t:List Trm} {s:List Snt} {c:Clm} {k1 k2 k3:Nat} {H:zH} {Q:Value→zH→Prop}
  (hl:Sl H encS 4 pl l) (ht:Sl H encT 7 pt t) (hs:Sl H encN 6 ps s) (nl:l.length<2 ^ 62) (nt:t.length<2 ^ 62) (ns:s.length<2 ^ 62) (hr:right l=true) (ha:∀x∈s,0≤x.acc) :
  CallR E mp lim 38 [.slice pl l.length k1,.slice pt t.length k2,.slice ps s.length k3,.agg #[.int .i64 c.id,.int .i64 c.item,.int .i64 c.tm,.int .u8 c.kind,.int .i64 c.post,.int .i64 c.val]] H Q =
   Q (.agg #[.int .i64 c.id,.int .i64 c.item,.int .i64 c.tm,.int .u8 c.kind,.int .i64 c.post,.int .i64 c.val,.int .i64 (fileS l t s c).x.item,.int .u8 (fileS l t s c).x.cls,.int .i64 (fileS l t s c).x.frm,.int .i64 (fileS l t s c).x.to,.int .i64 (fileS l t s c).x.acc,.int .i64 (fileS l t s c).x.del,
     .int .u8 (fileS l t s c).y.cls,.int .i64 (fileS l t s c).y.free,.int .i64 (fileS l t s c).y.share,.int .i64 (fileS l t s c).y.most,.int .i64 (fileS l t s c).y.aft,.int .i64 (fileS l t s c).y.lmt,.int .i64 (fileS l t s c).y.wthn,
     .int .i64 (fileS l t s c).p,.bool (fileS l t s c).kn,.bool (fileS l t s c).ht,.bool (decide (c.kind=1)),.bool (decide (c.kind=2)),.bool (fileS l t s c).dn]) H:=by
 refine pc (by decide) e38 rfl rfl ?_
 rw [b38,c38]
 have hf:∀(mp:Bool) (lim:Nat) (X:zH) (Q:Value→zH→Prop),
   CallR E mp lim 55 [.slice ps s.length k3,.func (.func 56) #[] #[.pointer (some ⟨H.length,0,none⟩)]] (H++(.cells false [.int .i64 c.id,.int .i64 c.item,.int .i64 c.tm,.int .u8 c.kind,.int .i64 c.post,.int .i64 c.val]::X)) Q=Q (.tuple #[.agg (encN ((s.find? fun x=>decide (x.item=c.item)).getD default)).toArray,.bool (s.find? fun x=>decide (x.item=c.item)).isSome]) (H++(.cells false [.int .i64 c.id,.int .i64 c.item,.int .i64 c.tm,.int .u8 c.kind,.int .i64 c.post,.int .i64 c.val]::X)):=by
  intro mp lim X Q
  refine findN_ok (cs:=[.pointer (some ⟨H.length,0,none⟩)]) (fun x=>decide (x.item=c.item)) (hs.app _) ns fun Y lim x Q=>?_
  exact wantN_ok (c:=c) (r7:=false) (by rw [List.append_assoc,zHn];rfl)
 cases hfs:s.find? fun x=>decide (x.item=c.item) with
 | none=>
   simp only [n38,r38,hf,encN,hfs,Option.getD_none,Option.isSome_none,List.take_append_drop,SB,seval,zCa,aOp,zB,aUn,reduceCtorEq,zFr,place,zTu,zRe]
   simp [fileS,hfs]
   exact ⟨rfl,rfl,rfl,rfl,rfl,rfl,rfl⟩
 | some x=>
   have hP:=fun mp lim X Q=>promise_ok (mp:=mp) (lim:=lim) (cap:=k1) (c:=x.cls) (f:=x.frm) (t:=x.to) (a:=x.acc) (Q:=Q) (hl.app X) nl hr (ha x (List.mem_of_find?_eq_some hfs))
   have hf2:∀(mp:Bool) (lim:Nat) (b0 b1:Blk) (d:List Value) (X:zH) (Q:Value→zH→Prop),d[7]? = some (.int .u8 x.cls)→
     CallR E mp lim 57 [.slice pt t.length k2,.func (.func 58) #[] #[.pointer (some ⟨H.length+2,0,none⟩)]] (H++(b0::b1::.cells false d::X)) Q=Q (.tuple #[.agg (encT ((t.find? fun y=>decide (y.cls=x.cls)).getD default)).toArray,.bool (t.find? fun y=>decide (y.cls=x.cls)).isSome]) (H++(b0::b1::.cells false d::X)):=by
    intro mp lim b0 b1 d X Q hd
    refine findT_ok (cs:=[.pointer (some ⟨H.length+2,0,none⟩)]) (fun y=>decide (y.cls=x.cls)) (ht.app _) nt fun Y lim y Q=>?_
    exact wantT_ok (r9:=false) (d:=d) (by rw [List.append_assoc,zHw];rfl) hd
   have e:fileS l t s c=⟨x,(t.find? (fun y=>decide (y.cls=x.cls))).getD default,(prom l x.cls x.frm x.to x.acc).1,true,(t.find? (fun y=>decide (y.cls=x.cls))).isSome&&(prom l x.cls x.frm x.to x.acc).2.2,decide (¬x.del=-1)&&decide (x.del≤c.tm)⟩:=by simp [fileS,hfs]
   rw [e]
   by_cases hd:x.del=-1
   ·cases hft:t.find? (fun y=>decide (y.cls=x.cls)) with
    | none=>
      simp only [n38,r38,hf,encN,encT,hfs,hP,hf2,hft,hd,Option.getD_some,Option.isSome_some,Option.getD_none,Option.isSome_none,not_true_eq_false,decide_false,Bool.false_and,Bool.true_and,Int.reduceNeg,SB,seval,zCa,aOp,zB,aUn,reduceCtorEq,zFr,place,zTu,zRe]
    | some y=>
      simp only [n38,r38,hf,encN,encT,hfs,hP,hf2,hft,hd,Option.getD_some,Option.isSome_some,Option.getD_none,Option.isSome_none,not_true_eq_false,decide_false,Bool.false_and,Bool.true_and,Int.reduceNeg,SB,seval,zCa,aOp,zB,aUn,reduceCtorEq,zFr,place,zTu,zRe]
   ·cases hft:t.find? (fun y=>decide (y.cls=x.cls)) with
    | none=>
      simp only [n38,r38,hf,encN,encT,hfs,hP,hf2,hft,hd,Option.getD_some,Option.isSome_some,Option.getD_none,Option.isSome_none,not_true_eq_false,decide_false,Bool.false_and,Bool.true_and,Int.reduceNeg,SB,seval,zCa,aOp,zB,aUn,reduceCtorEq,zFr,place,zTu,zRe]
    | some y=>
      simp only [n38,r38,hf,encN,encT,hfs,hP,hf2,hft,hd,Option.getD_some,Option.isSome_some,Option.getD_none,Option.isSome_none,not_true_eq_false,decide_false,Bool.false_and,Bool.true_and,Int.reduceNeg,SB,seval,zCa,aOp,zB,aUn,reduceCtorEq,zFr,place,zTu,zRe]
def minI (a b:Int):Int:=if b<a then b else a
def daysS (f:Fil):Int:=(f.x.del-f.p-f.y.free+1439) / 1440
def paidS (c:Clm) (f:Fil):Int:=if c.kind=2 then minI c.val f.y.lmt+c.post else shareS c.post (minI (daysS f*f.y.share) f.y.most)
def vrd (c:Clm) (f:Fil):Int×Int:=
 if f.kn=false then (0,1) else if f.ht=false then (0,2)
 else if f.p+f.y.wthn*1440<c.tm then (0,3)
 else if c.kind=1 then (if f.dn=false then (0,4) else if f.x.del≤f.p+f.y.free then (0,5) else (paidS c f,6))
 else (if f.dn=true then (0,5) else if c.tm≤f.p+f.y.aft then (0,4) else (paidS c f,6))
structure FilOk (f:Fil):Prop where
 p:0≤f.p∧f.p≤1051898399
 free:0≤f.y.free∧f.y.free≤100000
 share:0≤f.y.share∧f.y.share≤10000
 most:0≤f.y.most∧f.y.most≤10000
 aft:0≤f.y.aft∧f.y.aft≤1000000
 lmt:0≤f.y.lmt∧f.y.lmt≤250000000000000
 wthn:0≤f.y.wthn∧f.y.wthn≤3650
 del:-1≤f.x.del∧f.x.del≤1051898399
theorem allFrom_mem {α:Type} [Inhabited α] {l:List α} {P:Nat→Bool} (h:allFrom P l.length 0=true) {x:α} (hx:x∈l):∃i,i<l.length∧gt l i=x∧P i=true:=by
 obtain ⟨i,hi,rfl⟩:=List.mem_iff_getElem.1 hx
 exact ⟨i,hi,zGl hi,allFrom_iff.1 h i (Nat.zero_le _) hi⟩
theorem rightN_mem {s:List Snt} (h:rightN s=true) {x:Snt} (hx:x∈s):okN x=true∧1≤x.cls:=by
 simp only [rightN,Bool.and_eq_true] at h
 obtain ⟨i,_,rfl,hi⟩:=allFrom_mem h.2 hx
 simp only [okNAt,Bool.and_eq_true,decide_eq_true_eq] at hi
 exact ⟨hi.2,hi.1.1⟩
theorem rightT_mem {t:List Trm} (h:rightT t=true) {x:Trm} (hx:x∈t):okT x=true:=by
 simp only [rightT,Bool.and_eq_true] at h
 obtain ⟨i,_,rfl,hi⟩:=allFrom_mem h.2 hx
 simp only [okTAt,Bool.and_eq_true,decide_eq_true_eq] at hi
 exact hi.2
theorem rightC_one {c:Clm} (h:rightC [c]=true):okC c=true∧(c.kind=1∨c.kind=2):=by
 simp only [rightC,Bool.and_eq_true] at h
 obtain ⟨i,_,hg,hi⟩:=allFrom_mem h.2 (List.mem_singleton.2 rfl)
 simp only [okCAt,Bool.and_eq_true,decide_eq_true_eq] at hi
 rw [hg] at hi
 exact ⟨hi.2,hi.1.1⟩
theorem prom_le (l:List Std) (c f t a:Int) (hr:right l=true) (ha:0≤a):0≤(prom l c f t a).1∧(prom l c f t a).1≤1051898399:=by
 unfold prom
 split
 ·simp
 ·rename_i x hx
  have h1:=find_right hx hr
  simp [okStd,allIn,inB] at h1
  split
  ·simp
  ·rename_i h2
   have:=dayEnd_pos (n:=a+x.mins) (by omega)
   simp only
   omega
theorem file_ok {l:List Std} {t:List Trm} {s:List Snt} (c:Clm) (hl:right l=true) (ht:rightT t=true) (hs:rightN s=true):FilOk (fileS l t s c):=by
 have hy:∀k:Int,let y:=(t.find? (fun y=>decide (y.cls=k))).getD default;(0≤y.free∧y.free≤100000)∧(0≤y.share∧y.share≤10000)∧(0≤y.most∧y.most≤10000)∧(0≤y.aft∧y.aft≤1000000)∧(0≤y.lmt∧y.lmt≤250000000000000)∧(0≤y.wthn∧y.wthn≤3650):=by
  intro k
  cases hf:t.find? (fun y=>decide (y.cls=k)) with
  | none=>simp only [Option.getD_none];refine ⟨⟨?_, ?_⟩,⟨?_, ?_⟩,⟨?_, ?_⟩,⟨?_, ?_⟩,⟨?_, ?_⟩,⟨?_, ?_⟩⟩<;>decide
  | some y=>
    have:=rightT_mem ht (List.mem_of_find?_eq_some hf)
    simp only [okT,allIn,inB,Bool.and_eq_true,decide_eq_true_eq,Bool.and_true] at this
    simp only [Option.getD_some]
    omega
 cases hf:s.find? (fun x=>decide (x.item=c.item)) with
 | none=>
   have e:fileS l t s c=⟨default,default,0,false,false,false⟩:=by simp [fileS,hf]
   rw [e]
   constructor<;>simp only<;>decide
 | some x=>
   have e:fileS l t s c=⟨x,(t.find? (fun y=>decide (y.cls=x.cls))).getD default,(prom l x.cls x.frm x.to x.acc).1,true,(t.find? (fun y=>decide (y.cls=x.cls))).isSome&&(prom l x.cls x.frm x.to x.acc).2.2,decide (¬x.del=-1)&&decide (x.del≤c.tm)⟩:=by simp [fileS,hf]
   rw [e]
   have h1:=(rightN_mem hs (List.mem_of_find?_eq_some hf)).1
   simp only [okN,allIn,inB,Bool.and_eq_true,Bool.or_eq_true,decide_eq_true_eq,Bool.and_true] at h1
   have h2:=prom_le l x.cls x.frm x.to x.acc hl (by omega)
   obtain ⟨y1,y2,y3,y4,y5,y6⟩:=hy x.cls
   exact ⟨h2,y1,y2,y3,y4,y5,y6,by simp only;omega⟩
theorem decF_vrd {c:Clm} {f:Fil} (hc:okC c=true) (hk:c.kind=1∨c.kind=2) (hf:FilOk f):decF c f.x f.y f.p f.kn f.ht (decide (c.kind=1)) (decide (c.kind=2)) f.dn (paidS c f)=vrd c f:=by
 obtain ⟨p1,p2,p3,p4,p5,p6,p7,p8⟩:=hf
 have w1:IntKind.i64.wrap (f.y.wthn*1440)=f.y.wthn*1440:=zWi (by omega) (by omega)
 have w2:IntKind.i64.wrap (f.p+f.y.wthn*1440)=f.p+f.y.wthn*1440:=zWi (by omega) (by omega)
 have w3:IntKind.i64.wrap (f.p+f.y.free)=f.p+f.y.free:=zWi (by omega) (by omega)
 have w4:IntKind.i64.wrap (f.p+f.y.aft)=f.p+f.y.aft:=zWi (by omega) (by omega)
 simp only [decF,vrd,w1,w2,w3,w4]
 rcases hk with hk | hk
 ·simp only [hk,decide_true,Bool.true_and,show decide ((1:Int)=2)=false from rfl,Bool.false_and]
  cases f.dn<;>simp
 ·simp only [hk,decide_true,Bool.true_and,show decide ((2:Int)=1)=false from rfl,Bool.false_and]
  cases f.dn<;>simp
theorem decF_six {c:Clm} {x:Snt} {y:Trm} {p:Int} {kn ht la lo dn:Bool} (h:decF c x y p kn ht la lo dn 0=(0,6)):(la&&decide (x.del≤IntKind.i64.wrap (p+y.free)))=false:=by
 unfold decF at h
 repeat' split at h
 all_goals first
  | (simp at h;done)
  | simp_all
theorem paid_of [OA] {c:Clm} {f:Fil} (hc:okC c=true) (hk:c.kind=1∨c.kind=2) (hf:FilOk f) (h:decF c f.x f.y f.p f.kn f.ht (decide (c.kind=1)) (decide (c.kind=2)) f.dn 0=(0,6)) {x:Snt} {y:Trm} {p:Int} {kn ht la lo dn:Bool}
  (e:f.x=x∧f.y=y∧f.p=p∧decide (c.kind=2)=lo) {mp:Bool} {lim:Nat} {H:zH} {Q:Value→zH→Prop}:CallR E mp lim 60 [.agg #[.int .i64 c.id,.int .i64 c.item,.int .i64 c.tm,.int .u8 c.kind,.int .i64 c.post,.int .i64 c.val,.int .i64 x.item,.int .u8 x.cls,.int .i64 x.frm,.int .i64 x.to,.int .i64 x.acc,.int .i64 x.del,.int .u8 y.cls,.int .i64 y.free,.int .i64 y.share,.int .i64 y.most,.int .i64 y.aft,.int .i64 y.lmt,.int .i64 y.wthn,.int .i64 p,.bool kn,.bool ht,.bool la,.bool lo,.bool dn]] H Q=Q (.int .i64 (paidS c f)) H:=by
 obtain ⟨rfl,rfl,rfl,rfl⟩:=e
 have h6:=decF_six h
 obtain ⟨p1,p2,p3,p4,p5,p6,p7,p8⟩:=hf
 simp only [okC,allIn,inB,Bool.and_eq_true,decide_eq_true_eq,Bool.and_true] at hc
 have w3:IntKind.i64.wrap (f.p+f.y.free)=f.p+f.y.free:=zWi (by omega) (by omega)
 refine paid_ok ?_
 rcases hk with hk | hk
 ·right
  simp only [hk,decide_true,Bool.true_and,decide_eq_false_iff_not,w3] at h6
  refine ⟨by simp [hk],by omega,f.x.del-f.p-f.y.free,daysS f, ?_, ?_, ?_, ?_⟩
  ·rw [zWi (n:=f.x.del-f.p) (by omega) (by omega),zWi (by omega) (by omega)]
  ·rw [zWi (n:=f.x.del-f.p-f.y.free+1440) (by omega) (by omega),zWi (n:=f.x.del-f.p-f.y.free+1440-1) (by omega) (by omega),Int.tdiv_eq_ediv_of_nonneg (by omega),zWi (by omega) (by omega)]
   unfold daysS
   congr 1
   omega
  ·have hd:1≤daysS f∧daysS f≤1000000:=by unfold daysS;omega
   have m1:0≤daysS f*f.y.share:=Int.mul_nonneg (by omega) p3.1
   have m2:daysS f*f.y.share≤1000000*10000:=Int.mul_le_mul hd.2 p3.2 p3.1 (by decide)
   rw [zWi (by omega) (by omega)]
   simp [paidS,hk,minI]
  ·have hd:1≤daysS f∧daysS f≤1000000:=by unfold daysS;omega
   have m1:0≤daysS f*f.y.share:=Int.mul_nonneg (by omega) p3.1
   have m2:daysS f*f.y.share≤1000000*10000:=Int.mul_le_mul hd.2 p3.2 p3.1 (by decide)
   rw [zWi (by omega) (by omega)]
   split<;>omega
 ·left
  refine ⟨by simp [hk], ?_⟩
  rw [zWi]
  ·simp [paidS,hk,minI]
  ·split<;>omega
  ·split<;>omega
def decideS (l:List Std) (t:List Trm) (s:List Snt) (c:Clm):Int×Int:=vrd c (fileS l t s c)
theorem checkS_ok {l:List Std} {t:List Trm} {s:List Snt} {c:List Clm} (h:checkS l t s c=0):right l=true∧rightT t=true∧rightN s=true∧rightC c=true:=by
 unfold checkS at h
 repeat' split at h
 all_goals first
  | (exact absurd h (by decide))
  | (simp only [Bool.not_eq_false] at *;refine ⟨?_, ?_, ?_, ?_⟩<;>assumption)
theorem Decide_ok [OA] {mp:Bool} {lim:Nat} {pl pt ps:Option Addr} {l:List Std} {t:List Trm} {s:List Snt} {c:Clm} {k1 k2 k3:Nat} {H:zH} {Q:Value→zH→Prop}
  (hl:Sl H encS 4 pl l) (ht:Sl H encT 7 pt t) (hs:Sl H encN 6 ps s) (nl:l.length<2 ^ 62) (nt:t.length<2 ^ 62) (ns:s.length<2 ^ 62) :
  CallR E mp lim 15 [.slice pl l.length k1,.slice pt t.length k2,.slice ps s.length k3,.agg #[.int .i64 c.id,.int .i64 c.item,.int .i64 c.tm,.int .u8 c.kind,.int .i64 c.post,.int .i64 c.val]] H Q =
   Q (.tuple #[.agg (if checkS l t s [c]=0 then #[.int .i64 c.id,.int .i64 (decideS l t s c).1,.int .u8 (decideS l t s c).2] else #[.int .i64 0,.int .i64 0,.int .u8 0]),.int .i64 (checkS l t s [c])]) H:=by
 have hfl:flat 4 (.tuple #[.agg (if checkS l t s [c]=0 then #[.int .i64 c.id,.int .i64 (decideS l t s c).1,.int .u8 (decideS l t s c).2] else #[.int .i64 0,.int .i64 0,.int .u8 0]),.int .i64 (checkS l t s [c])])=true:=by
  split<;>rfl
 refine pc (by decide) e15 rfl hfl ?_
 rw [b15,c15]
 have hck:∀(mp:Bool) (lim:Nat) (b0 b1:Blk) (ro:Bool) (X:zH) (Q:Value→zH→Prop),CallR E mp lim 37 [.slice pl l.length k1,.slice pt t.length k2,.slice ps s.length k3,.slice (some ⟨H.length+2,0,none⟩) 1 1] (H++(b0::b1::.cells ro [.int .i64 c.id,.int .i64 c.item,.int .i64 c.tm,.int .u8 c.kind,.int .i64 c.post,.int .i64 c.val]::X)) Q =
   Q (.int .i64 (checkS l t s [c])) (H++(b0::b1::.cells ro [.int .i64 c.id,.int .i64 c.item,.int .i64 c.tm,.int .u8 c.kind,.int .i64 c.post,.int .i64 c.val]::X)):=by
  intro mp lim b0 b1 ro X Q
  exact check_ok (c:=[c]) (hl.app _) (ht.app _) (hs.app _) (Sl.lit encC_len (by rw [zHw];rfl) (by rw [zHw];rfl)) nl nt ns (by simp)
 by_cases h0:checkS l t s [c]=0
 ·obtain ⟨r1,r2,r3,r4⟩:=checkS_ok h0
  obtain ⟨o1,o2⟩:=rightC_one r4
  have hfo:=file_ok c r1 r2 r3
  have ho:=fun mp lim X Q=>open_ok (mp:=mp) (lim:=lim) (k1:=k1) (k2:=k2) (k3:=k3) (c:=c) (Q:=Q) (hl.app X) (ht.app X) (hs.app X) nl nt ns r1 (fun x hx=>by
   have:=(rightN_mem r3 hx).1
   simp only [okN,allIn,inB,Bool.and_eq_true,decide_eq_true_eq,Bool.and_true] at this
   omega)
  have hd:=fun mp lim X Q=>decide_ok (mp:=mp) (lim:=lim) (H:=H++X) (Q:=Q) (c:=c) (x:=(fileS l t s c).x) (y:=(fileS l t s c).y) (p:=(fileS l t s c).p) (kn:=(fileS l t s c).kn) (ht:=(fileS l t s c).ht) (la:=decide (c.kind=1)) (lo:=decide (c.kind=2)) (dn:=(fileS l t s c).dn) (n:=paidS c (fileS l t s c))
   (fun h mp lim H Q=>paid_of o1 o2 hfo (h 0) ⟨rfl,rfl,rfl,rfl⟩)
  rw [decF_vrd o1 o2 hfo] at hd
  simp only [n15,r15,hck,h0,ho,hd,decideS,SB,seval,zCa,aOp,zB,aUn,reduceCtorEq,zFr,place,zTu,zRe]
 ·simp only [n15,r15,hck,h0,SB,seval,zCa,aOp,zB,aUn,reduceCtorEq,zFr,place,zTu,zRe]
theorem rightT_pair {t:List Trm} (h:rightT t=true):t.Pairwise (fun x y=>x.cls<y.cls):=by
 simp only [rightT,Bool.and_eq_true,allFrom_iff] at h
 have key:∀i j,i<j→j<t.length→(gt t i).cls<(gt t j).cls:=by
  intro i j hij hj
  induction j with
  | zero=>omega
  | succ j ih=>
    have h1:=h.2 (j+1) (Nat.zero_le _) hj
    simp only [okTAt,Bool.and_eq_true,Bool.or_eq_true,decide_eq_true_eq,Nat.add_sub_cancel] at h1
    have h2:(gt t j).cls<(gt t (j+1)).cls:=by omega
    by_cases hi:i=j
    ·subst hi;exact h2
    ·have:=ih (by omega) (by omega)
     omega
 rw [List.pairwise_iff_getElem]
 intro i j hi hj hij
 have:=key i j hij hj
 rwa [zGl hi,zGl hj] at this
theorem append_fresh {α:Type} {lim b e bytes c:Nat} {H:zH} {enc:α→List Value} {p:Option Addr} {l:List α} (hb:zG H b=.cells false []) (hs:Sl H enc e p l) (hp:p≠none) (h0:l.length≠0) (h1:e≠0) (h2:l.length*bytes≤maxBytes) (h3:l.length<2 ^ 62) :
  zAa lim none e bytes false (.slice (some ⟨b,0,none⟩) 0 0) (.slice p l.length c) H=some (.slice (some ⟨H.length,0,none⟩) l.length (loose e),H++[.cells false (l.flatMap enc)]):=by
 cases p with
 | none=>exact absurd rfl hp
 | some a=>
   obtain ⟨k1,k2⟩:=hs
   obtain ⟨ro,cs,k3,k4,k5⟩:=k2 (by rintro rfl;exact h0 rfl)
   have hl:AM.loadCells H a (l.length*e)=some (l.flatMap enc):=by
    obtain ⟨ab,ao,as'⟩:=a
    simp only [loadCells_lit]
    simp only at k3 k4 k5
    simp only [k3]
    rw [if_pos k4,k5]
   have h0':AM.loadCells H ⟨b,0,none⟩ (0*e)=some []:=by simp [loadCells_lit,hb]
   simp only [zAa,firstCells,lenOf,hl,h0',h0,Nat.zero_add,Nat.not_lt_zero,or_false,h1,false_or,Bool.false_eq_true,if_false]
   rw [if_neg (by omega),if_neg (by unfold loose;omega),if_pos (by decide),if_neg (by omega)]
   simp [place]
end Go.Proofs.Ytlmoijifgbkapaa.Fn

namespace Go.Proofs.Ytlmoijifgbkapaa.Fn
open Go.AM Go.AM.Sym Go.Sort
def cmpC (a b:Clm):Int:=orL [cmpI a.tm b.tm,cmpI a.id b.id]
theorem cmpC_ok [OA] (mp:Bool) (lim:Nat) (a b:Clm) (H:zH) (Q:Value→zH→Prop):CallR E mp lim 51 [.agg (encC a).toArray,.agg (encC b).toArray] H Q=Q (.int .i64 (cmpC a b)) H:=by
 refine pc (by decide) e51 rfl rfl ?_
 rw [b51,c51]
 simp only [encC]
 simp only [n51,r51,cmp_ok,or_lit,isCells_cells,cellsOf_cells,intsOf_cons,intsOf_nil,okInts_cons,okInts_nil,Nat.reducePow,cmpC,SB,seval,zCa,aOp,zB,aUn,reduceCtorEq,zFr,place,zTu,zRe]
theorem cmpC_lt (a b:Clm):Srt.ltC cmpC a b=decide (a.tm<b.tm∨a.tm=b.tm∧a.id<b.id):=by
 simp only [Srt.ltC,cmpC,orL,cmpI]
 rcases Int.lt_trichotomy a.tm b.tm with h | h | h
 ·simp [h]
 ·rcases Int.lt_trichotomy a.id b.id with k | k | k
  ·simp [h,k]
  ·simp [h,k]
  ·simp [h,k,show ¬a.id<b.id by omega]
 ·simp [h,show ¬a.tm<b.tm by omega,show ¬a.tm=b.tm by omega]
theorem cmpC_swo [OA]:SWO (Srt.ltC cmpC):=by
 refine ⟨fun x=>?_,fun x y z h1 h2=>?_,fun x y z h1 h2=>?_⟩
 ·rw [cmpC_lt];simp
 ·rw [cmpC_lt] at *;simp only [decide_eq_true_eq] at *;omega
 ·rw [cmpC_lt] at *;simp only [decide_eq_false_iff_not] at *;omega
abbrev base:OA:=⟨false,fun _ _ _=>none,fun _ _ _ _=>rfl⟩
abbrev Eb:Env:=@E base
instance encZC:Srt.EncOk encC 6:=⟨fun _=>rfl,fun x v hv=>by simp only [encC,List.mem_cons,List.not_mem_nil,or_false] at hv;rcases hv with h | h | h | h | h | h<;>rw [h]<;>exact ⟨rfl,rfl⟩,fun x y h=>by cases x;cases y;simpa [encC] using h⟩
noncomputable def srtF (g:FuncId) (as:List Value) (H:zH):Option (Value×List (List Value)×Option (Nat×List Value)):=if g=50 then Srt.sortF Eb encC as H else none
theorem srtF_no (g:FuncId) (as:List Value) (H:zH) (h1:g≠50):srtF g as H=none:=if_neg h1
class OB extends OA where
 srtOk:∀g as H,OA.srt g as H=srtF g as H
 awk:OA.on=true
theorem at50 [OB] (as:List Value) (H:zH):(E:Env).orc 50 as=none∧(E:Env).eff 50 as H=Srt.sortF Eb encC as H:=⟨by simp [E,orc,OA.srtN],by simp [E,OB.srtOk,srtF]⟩
theorem cmpC_c:Srt.Cmp Eb encC 51 [] cmpC:=⟨fun _ h=>(by cases h),⟨_,e51⟩,fun x y=>(by rw [@cmpC_ok base]),@cmpC_swo base⟩
theorem awake_ok [OB] {mp:Bool} {lim:Nat} {H:zH} {Q:Value→zH→Prop}:CallR E mp lim 10 [] H Q=Q (.bool true) H:=CallR_orc (by simp [E,orc,OB.awk]) rfl rfl
theorem clone_ok [OB] {lim cap:Nat} {p:Option Addr} {l:List Clm} {H:zH} {Q:Value→zH→Prop} (hs:Sl H encC 6 p l) (hp:l≠[]→p≠none) (hn:l≠[]) (h3:l.length≤500) :
  CallR E false lim 49 [.slice p l.length cap] H Q=Q (.slice (some ⟨H.length+1,0,none⟩) l.length (loose 6)) (H++[.cells false [],.cells false (l.flatMap encC)]):=by
 have h0:l.length≠0:=by intro h;exact hn (List.length_eq_zero_iff.1 h)
 refine runs (by decide) e49 rfl ?_
 rw [b49,c49]
 refine zRp ?_
 obtain ⟨a,rfl⟩:∃a,p=some a:=by
  cases p with
  | none=>exact absurd rfl (hp hn)
  | some a=>exact ⟨a,rfl⟩
 have happ:=fun X c=>append_fresh (lim:=lim) (bytes:=48) (c:=c) (b:=H.length) (H:=H++(.cells false []::X)) (by rw [zHn];rfl) (hs.app _) (hp hn) h0 (by decide:(6:Nat)≠0) (by unfold maxBytes;omega) (by omega)
 simp only [n49,r49,happ,aEq,SB,seval,zCa,aOp,zB,aUn,reduceCtorEq,zFr,place,zTu,zRe]
theorem clone_nil [OB] {lim cap:Nat} {p:Option Addr} {H:zH} :
  ∃p' k' Y,∀Q,CallR E false lim 49 [.slice p 0 cap] H Q=Q (.slice p' 0 k') (H++Y):=by
 cases p with
 | none=>
   refine ⟨none,0,[],fun Q=>?_⟩
   refine runs (by decide) e49 rfl ?_
   rw [b49,c49]
   refine zRp ?_
   simp only [n49,r49,aEq,Option.isNone_none,SB,seval,zCa,aOp,zB,aUn,reduceCtorEq,zFr,place,zTu,zRe]
 | some a=>
   refine ⟨some ⟨H.length,0,none⟩,0,[.cells false []],fun Q=>?_⟩
   refine runs (by decide) e49 rfl ?_
   rw [b49,c49]
   refine zRp ?_
   have happ:∀X c,zAa lim none 6 48 false (.slice (some ⟨H.length,0,none⟩) 0 0) (.slice (some a) 0 c) (H++(.cells false []::X))=some (.slice (some ⟨H.length,0,none⟩) 0 0,H++(.cells false []::X)):=by
    intro X c
    have h1:AM.loadCells (H++(.cells false []::X)) ⟨H.length,0,none⟩ (0*6)=some []:=by simp [loadCells_lit,zHn]
    simp [zAa,firstCells,lenOf]
   simp only [n49,r49,happ,aEq,SB,seval,zCa,aOp,zB,aUn,reduceCtorEq,zFr,place,zTu,zRe]
theorem perm_list {n:Nat} {d d':Array Clm} (hd:d.size=n) (h:PermIn 0 n d d'):d'.toList.Perm d.toList:=by
 obtain ⟨h1,h2,h3⟩:=h
 subst hd
 rw [Array.extract_size] at h3
 rw [←h1,Array.extract_size] at h3
 exact h3
def Lt (a b:Clm):Prop:=a.tm<b.tm∨a.tm=b.tm∧a.id<b.id
theorem sorted_list {n:Nat} {d:Array Clm} (hd:d.size=n) (h:SortedIn (Srt.ltC cmpC) 0 n d) (hid:d.toList.Pairwise (fun a b=>a.id≠b.id)):d.toList.Pairwise Lt:=by
 rw [List.pairwise_iff_getElem] at *
 intro i j hi hj hij
 have h1:=h i j (Nat.zero_le _) hij (by simpa [hd] using hj)
 have h2:=hid i j hi hj hij
 rw [cmpC_lt] at h1
 have e1:d[i]! = d.toList[i]:=by rw [getElem!_pos d i (by simpa using hi)];simp
 have e2:d[j]! = d.toList[j]:=by rw [getElem!_pos d j (by simpa using hj)];simp
 rw [e1,e2] at h1
 simp only [decide_eq_false_iff_not] at h1
 unfold Lt
 omega
theorem setAll_mid:∀(vs a b c:List Value),vs.length=b.length→setAll (a++b++c) a.length vs=a++vs++c:=by
 intro vs
 induction vs with
 | nil=>intro a b c h;simp at h;have:b=[]:=List.length_eq_zero_iff.1 h.symm;subst this;rfl
 | cons v vs ih=>
   intro a b c h
   match b,h with
   | x::b,h=>
     rw [setAll_cons]
     have e1:(a++x::b++c).set a.length v=(a++[v])++b++c:=by simp
     rw [e1]
     have:=ih (a++[v]) b c (by simpa using h)
     rw [List.length_append] at this
     simp only [List.length_cons,List.length_nil,Nat.zero_add] at this
     rw [this];simp
theorem append_room {lim R b e bytes n i k:Nat} {H:zH} {ro:Bool} {old rest new:List Value} (hb:zG H b=.cells ro new) (hR:zG H R=.cells false (old++rest)) (hl:lim≤R) (hi:i<n) (ho:old.length=i*e) (hr:rest.length=(n-i)*e) (hnew:new.length=e) (he:e≠0) (hk:k<2 ^ 62) (hn:n<2 ^ 40) (hm:n*bytes≤maxBytes) :
  zAa lim none e bytes false (.slice (some ⟨R,0,none⟩) i n) (.slice (some ⟨b,0,none⟩) 1 k) H=some (.slice (some ⟨R,0,none⟩) (i+1) n,H.set R (.cells false ((old++new)++rest.drop e))):=by
 have hre:e≤rest.length:=by
  rw [hr];exact Nat.le_mul_of_pos_left e (by omega)
 have hx:AM.loadCells H ⟨b,0,none⟩ (1*e)=some new:=by
  rw [loadCells_lit,hb]
  simp only [Nat.one_mul,Nat.zero_add,List.drop_zero]
  rw [if_pos (by omega),List.take_of_length_le (by omega)]
 have hy:AM.loadCells H ⟨R,0,none⟩ (i*e)=some old:=by
  rw [loadCells_lit,hR]
  simp only [Nat.zero_add,List.drop_zero]
  rw [if_pos (by rw [List.length_append];omega),←ho,List.take_left]
 have hmul:(i+1)*bytes≤n*bytes:=Nat.mul_le_mul_right _ hi
 have hie:(n-i)*e+i*e=n*e:=by rw [←Nat.add_mul,Nat.sub_add_cancel (by omega)]
 have hst:AM.storeAt lim H (Addr.add ⟨R,0,none⟩ (i*e)) new=some (H.set R (.cells false ((old++new)++rest.drop e))):=by
  simp only [addr_add,storeAt_lit,hR,Nat.zero_add]
  rw [if_pos ⟨hl,by rw [List.length_append];omega⟩]
  have:=setAll_mid new old (rest.take e) (rest.drop e) (by rw [hnew,List.length_take];omega)
  rw [List.append_assoc,List.take_append_drop,ho] at this
  rw [this]
 have h00:¬((1:Nat)=0):=by decide
 simp only [zAa,firstCells,lenOf,hx,hy,hst,h00,if_false,Bool.false_eq_true]
 rw [if_neg (by omega),if_neg (by unfold loose;omega),if_pos (by omega),if_pos (by omega)]
end Go.Proofs.Ytlmoijifgbkapaa.Fn

namespace Go.Proofs.Ytlmoijifgbkapaa.Fn
open Go.AM Go.AM.Sym
theorem run0 [OB] {g:FuncId} {af:zAf} {lim:Nat} {as:List Value} {H:zH} {Q:Value→zH→Prop} (h:g≠10∧g≠50) (ht:tr g=some af) (hp:pf g=false) (hr:Ret E af lim [.code af.body] (zFr as) (H++[]) Q):CallR E false lim g as H Q:=by
 rw [CallR_run (E:=E) (g:=g) (af:=af) (by simp [E,orc,OA.srtN,h]) ht hp rfl]
 exact zRp hr
theorem okT_ref (x:Trm):okT x=(decide (0≤x.free∧x.free≤100000)&&decide (0≤x.share∧x.share≤10000)&&decide (0≤x.most∧x.most≤10000)&&decide (0≤x.aft∧x.aft≤1000000)&&decide (0≤x.lmt∧x.lmt≤250000000000000)&&decide (0≤x.wthn∧x.wthn≤3650)):=by
 simp only [okT,allIn,inB,Bool.and_true,Bool.and_assoc]
theorem refRightTerms_ok [OB] (mp:Bool) (lim:Nat) {p:Option Addr} {l:List Trm} {cap:Nat} {H:zH} {Q:Value→zH→Prop} (hs:Sl H encT 7 p l) (hn:l.length<2 ^ 62) (hu:∀x∈l,0≤x.cls) :
  CallR E mp lim 41 [.slice p l.length cap] H Q=Q (.bool (rightT l)) H:=by
 refine pc (by decide) e41 rfl rfl ?_
 rw [b41,c41]
 simp only [n41,r41,SB,seval,zCa,aOp,zB,aUn,reduceCtorEq,zFr,place,zTu,zRe]
 refine zRr (fun i=>l.length-i) (fun i fr G=>i≤l.length∧fr 0=.slice p l.length cap∧fr 3=.int .i64 (i:Int)∧Ext H G∧
  allFrom (okTAt l) l.length 0=allFrom (okTAt l) l.length i) 0 ⟨Nat.zero_le _,(by rfl),by rfl,Ext.refl.app,rfl⟩ ?_
 intro i fr G ⟨hi,h0,h3,hE,ha⟩ hN
 rw [zRc l41_1.eq_1]
 refine zRp ?_
 by_cases hlt:i<l.length
 ·have hL:=hE.len
  have hg:=hE.sl hs
  have hld:=fun X=>(hg.app X).loadCells encT_len hlt
  have hidx:=fun c (k:IntKind) (H1:zH)=>hg.idx (c:=c) (k:=k) (H1:=H1) hlt
  have hw1:IntKind.i64.wrap ((i:Int)+1)=((i+1:Nat):Int):=zWn (by omega)
  have hw2:0<i→IntKind.i64.wrap ((i:Int)-1)=((i-1:Nat):Int):=fun h=>wrap_pred h (by omega)
  have hlp:=fun (_:0<i)=>(by omega:i-1<l.length)
  have hldp:=fun (h:0<i) X=>(hg.app X).loadCell0 encT_len (hlp h) (by decide)
  have hldq:=fun (h:0<i) X j hj=>(hg.app X).loadCell (j:=j) encT_len (hlp h) hj
  have hidxp:=fun (h:0<i) c (k:IntKind) (H1:zH)=>hg.idx (c:=c) (k:=k) (H1:=H1) (hlp h)
  have hu':=hu _ (gt_mem hlt)
  simp only [n41,r41,h0,h3,hlt,hL,hidx,hld,encT,hw1,in_ok,SB,seval,zCa,aOp,zB,aUn,reduceCtorEq,zFr,place,zTu,zRe]
  repeat' ((first | refine wantK_dec (fun hw=>?_) (fun hw=>?_) | refine condK_dec (fun hw=>?_) (fun hw=>?_) | refine wantK_any (fun hw=>?_) (fun hw=>?_) | refine condK_any (fun hw=>?_) (fun hw=>?_))<;>(try simp only [hw,n41,r41,h0,h3,hlt,hL,hidx,hld,hidxp,hldp,hldq,encT,hw1,hw2,in_ok,Nat.reducePow,SB,Nat.reduceLT,zCa,aOp,Nat.reduceEqDiff,zB,aUn,reduceCtorEq,zFr,place,zTu,Nat.reduceAdd,Nat.reduceLeDiff,zRe,Int.reduceEq,Int.reduceLT,Int.reduceLE]))
  all_goals first | refine hN (i+1) _ _ ⟨by omega,(by exact h0),(by rfl),hE.app, ?_⟩ (by omega) | skip
  all_goals clear hN
  all_goals simp only [rightT,ha,allFrom_step hlt,okTAt,okT_ref]
  all_goals simp [*]
  all_goals omega
 ·obtain rfl:i=l.length:=by omega
  simp only [n41,r41,h0,h3,hlt,SB,seval,zCa,aOp,zB,aUn,reduceCtorEq,zFr,place,zTu,zRe]
  simp [rightT,ha,allFrom_end]
  omega
theorem okN_ref (x:Snt):okN x=(decide (1≤x.item∧x.item≤999999)&&decide (1≤x.frm∧x.frm≤999999)&&decide (1≤x.to∧x.to≤999999)&&decide (0≤x.acc∧x.acc≤1051898399)&&(decide (x.del=-1)||decide (x.acc≤x.del∧x.del≤1051898399))):=by
 simp only [okN,allIn,inB,Bool.and_true,Bool.and_assoc]
theorem take_mem {α:Type} [Inhabited α] {l:List α} {f:α→Int} {i j:Nat} (hi:i≤l.length) (hj:j<i):f (gt l j)∈(l.take i).map f:=
 List.mem_map.2 ⟨gt l j,by rw [zGl (by omega)];exact List.mem_iff_getElem.2 ⟨j,by rw [List.length_take];omega,by simp⟩,rfl⟩
theorem take_not {α:Type} [Inhabited α] {l:List α} {f:α→Int} {i:Nat} {a:Int} (hi:i≤l.length) (h:∀j,j<i→f (gt l j)≠a):a∉(l.take i).map f:=by
 intro hm
 obtain ⟨x,hx,e⟩:=List.mem_map.1 hm
 obtain ⟨j,hj,rfl⟩:=List.mem_iff_getElem.1 hx
 rw [List.length_take] at hj
 refine h j (by omega) ?_
 rw [zGl (by omega)]
 simpa using e
theorem refRightSent_ok [OB] (mp:Bool) (lim:Nat) {p:Option Addr} {l:List Snt} {cap:Nat} {H:zH} {Q:Value→zH→Prop} (hs:Sl H encN 6 p l) (hn:l.length<2 ^ 62) (hu:∀x∈l,0≤x.cls) :
  CallR E mp lim 43 [.slice p l.length cap] H Q=Q (.bool (rightN l)) H:=by
 refine pc (by decide) e43 rfl rfl ?_
 rw [b43,c43]
 by_cases h200:2000<(l.length:Int)
 ·simp only [n43,r43,h200,SB,seval,zCa,aOp,zB,aUn,reduceCtorEq,zFr,place,zTu,zRe]
  simp [rightN];omega
 simp only [n43,r43,h200,SB,seval,zCa,aOp,zB,aUn,reduceCtorEq,zFr,place,zTu,zRe]
 refine zRr (fun i=>l.length-i) (fun i fr G=>i≤l.length∧fr 0=.slice p l.length cap∧fr 3=.int .i64 (i:Int)∧Ext H G∧
  allFrom (okNAt l) l.length 0=allFrom (okNAt l) l.length i) 0 ⟨Nat.zero_le _,(by rfl),by rfl,Ext.refl.app,rfl⟩ ?_
 intro i fr G ⟨hi,h0,h3,hE,ha⟩ hN
 rw [zRc l43_2.eq_1]
 refine zRp ?_
 by_cases hlt:i<l.length
 ·have hL:=hE.len
  have hg:=hE.sl hs
  have hld:=fun X=>(hg.app X).loadCells encN_len hlt
  have hidx:=fun c (k:IntKind) (H1:zH)=>hg.idx (c:=c) (k:=k) (H1:=H1) hlt
  have hw1:IntKind.i64.wrap ((i:Int)+1)=((i+1:Nat):Int):=zWn (by omega)
  have hu':=hu _ (gt_mem hlt)
  rw [allFrom_step hlt] at ha
  by_cases hc:(gt l i).cls=0
  ·simp only [n43,r43,h0,h3,hlt,hL,hidx,hld,encN,hw1,in_ok,hc,SB,seval,zCa,aOp,zB,aUn,reduceCtorEq,zFr,place,zTu,zRe]
   simp [rightN,ha,okNAt,hc]
  by_cases ho:okN (gt l i)=true
  case neg=>
   have hf:rightN l=false:=by simp [rightN,ha,okNAt,ho]
   rw [hf]
   rw [okN_ref] at ho
   clear ha hf
   simp only [n43,r43,h0,h3,hlt,hL,hidx,hld,encN,hw1,in_ok,hc,SB,seval,zCa,aOp,zB,aUn,reduceCtorEq,zFr,place,zTu,zRe]
   repeat' ((first | refine wantK_dec (fun hw=>?_) (fun hw=>?_) | refine condK_dec (fun hw=>?_) (fun hw=>?_) | refine wantK_any (fun hw=>?_) (fun hw=>?_) | refine condK_any (fun hw=>?_) (fun hw=>?_))<;>(try simp only [hw,n43,r43,h0,h3,hlt,hL,hidx,hld,encN,hw1,in_ok,hc,SB,Nat.reduceLT,zCa,aOp,Nat.reduceEqDiff,zB,aUn,reduceCtorEq,zFr,place,zTu,Nat.reduceAdd,Nat.reduceLeDiff,zRe,Int.reduceEq,Int.reduceLT,Int.reduceLE]))
   all_goals exfalso
   all_goals simp only [Bool.and_eq_true,Bool.or_eq_true,decide_eq_true_eq] at ho
   all_goals omega
  have hoo:=ho
  simp only [okN_ref,Bool.and_eq_true,Bool.or_eq_true,decide_eq_true_eq] at ho
  obtain ⟨⟨⟨⟨o1,o2⟩,o3⟩,o4⟩,o5⟩:=ho
  have o5':(gt l i).del=-1∨¬(gt l i).del=-1∧(gt l i).acc≤(gt l i).del∧(gt l i).del≤1051898399:=by omega
  rcases o5' with q | ⟨q,q1,q2⟩
  all_goals first
   | simp only [n43,r43,h0,h3,hlt,hL,hidx,hld,encN,hw1,in_ok,hc,o1,o2,o3,o4,q,q1,q2,SB,seval,zCa,aOp,zB,aUn,reduceCtorEq,zFr,place,zTu,zRe]
   | simp only [n43,r43,h0,h3,hlt,hL,hidx,hld,encN,hw1,in_ok,hc,o1,o2,o3,o4,q,SB,seval,zCa,aOp,zB,aUn,reduceCtorEq,zFr,place,zTu,zRe]
  all_goals
   refine zRr (fun j=>i-j) (fun j fr2 G2=>j≤i∧fr2 0=.slice p l.length cap∧fr2 3=.int .i64 (i:Int)∧fr2 4=.pointer (some ⟨G.length,0,none⟩)∧fr2 5=.int .i64 (j:Int)∧Ext (G++[.cells false (encN (gt l i))]) G2∧
    ∀j',j'<j→(gt l j').item≠(gt l i).item) 0 ⟨Nat.zero_le _,(by exact h0),(by exact h3),(by rfl),by rfl,(by first | exact Ext.refl | (simp only [encN,q];exact Ext.refl)),fun j' h=>absurd h (Nat.not_lt_zero _)⟩ ?_
   intro j fr2 G2 ⟨hj,k0,k3,k4,k5,hE2,hne⟩ hN2
   rw [zRc l43_1.eq_1]
   refine zRp ?_
   have hE3:Ext H G2:=hE.app.trans hE2
   have hg2:=hE3.sl hs
   have hx4:∀X,zG (G2++X) G.length=.cells false (encN (gt l i)):=fun X=>(hE2.app (X:=X)).cells zHn
   by_cases hjl:j<i
   ·have hjl':j<l.length:=by omega
    have hld2:=fun X=>(hg2.app X).loadCell0 encN_len hjl' (by decide)
    have hldq2:=fun X jj hj=>(hg2.app X).loadCell (j:=jj) encN_len hjl' hj
    have hidx2:=fun c (k:IntKind) (H1:zH)=>hg2.idx (c:=c) (k:=k) (H1:=H1) hjl'
    have hwj:IntKind.i64.wrap ((j:Int)+1)=((j+1:Nat):Int):=zWn (by omega)
    by_cases he:(gt l j).item=(gt l i).item
    ·simp only [n43,r43,k0,k3,k4,k5,hjl,hidx2,hld2,hldq2,encN,hx4,he,SB,seval,zCa,aOp,zB,aUn,reduceCtorEq,zFr,place,zTu,zRe]
     have hm:=take_mem (f:=(·.item)) (Nat.le_of_lt hlt) hjl
     rw [he] at hm
     simp only [rightN,ha,okNAt]
     simp_all
    ·simp only [n43,r43,k0,k3,k4,k5,hjl,hidx2,hld2,hldq2,encN,hx4,he,hwj,SB,seval,zCa,aOp,zB,aUn,reduceCtorEq,zFr,place,zTu,zRe]
     refine hN2 (j+1) _ _ ⟨by omega,(by exact k0),(by exact k3),(by exact k4),(by rfl),hE2.app,fun j' hj'=>?_⟩ (by omega)
     by_cases e:j'=j
     ·subst e;exact he
     ·exact hne j' (by omega)
   ·obtain rfl:j=i:=by omega
    simp only [n43,r43,k0,k3,k4,k5,hjl,hw1,SB,seval,zCa,aOp,zB,aUn,reduceCtorEq,zFr,place,zTu,zRe]
    refine hN (j+1) _ _ ⟨by omega,(by exact k0),(by rfl),hE3.app, ?_⟩ (by omega)
    have hm:=take_not (f:=(·.item)) (Nat.le_of_lt hlt) hne
    rw [ha]
    simp only [okNAt]
    simp_all
    omega
 ·obtain rfl:i=l.length:=by omega
  simp only [n43,r43,h0,h3,hlt,SB,seval,zCa,aOp,zB,aUn,reduceCtorEq,zFr,place,zTu,zRe]
  simp [rightN,ha,allFrom_end]
  omega
theorem okC_ref (x:Clm):okC x=(decide (1≤x.id∧x.id≤999999)&&decide (1≤x.item∧x.item≤999999)&&decide (0≤x.tm∧x.tm≤1051898399)&&decide (0≤x.post∧x.post≤250000000000000)&&decide (0≤x.val∧x.val≤250000000000000)):=by
 simp only [okC,allIn,inB,Bool.and_true,Bool.and_assoc]
theorem refRightClaims_ok [OB] (mp:Bool) (lim:Nat) {p:Option Addr} {l:List Clm} {cap:Nat} {H:zH} {Q:Value→zH→Prop} (hs:Sl H encC 6 p l) (hn:l.length<2 ^ 62) (hu:∀x∈l,0≤x.kind∧x.kind<256) :
  CallR E mp lim 44 [.slice p l.length cap] H Q=Q (.bool (rightC l)) H:=by
 refine pc (by decide) e44 rfl rfl ?_
 rw [b44,c44]
 by_cases h200:500<(l.length:Int)
 ·simp only [n44,r44,h200,SB,seval,zCa,aOp,zB,aUn,reduceCtorEq,zFr,place,zTu,zRe]
  simp [rightC];omega
 simp only [n44,r44,h200,SB,seval,zCa,aOp,zB,aUn,reduceCtorEq,zFr,place,zTu,zRe]
 refine zRr (fun i=>l.length-i) (fun i fr G=>i≤l.length∧fr 0=.slice p l.length cap∧fr 3=.int .i64 (i:Int)∧Ext H G∧
  allFrom (okCAt l) l.length 0=allFrom (okCAt l) l.length i) 0 ⟨Nat.zero_le _,(by rfl),by rfl,Ext.refl.app,rfl⟩ ?_
 intro i fr G ⟨hi,h0,h3,hE,ha⟩ hN
 rw [zRc l44_2.eq_1]
 refine zRp ?_
 by_cases hlt:i<l.length
 ·have hL:=hE.len
  have hg:=hE.sl hs
  have hld:=fun X=>(hg.app X).loadCells encC_len hlt
  have hidx:=fun c (k:IntKind) (H1:zH)=>hg.idx (c:=c) (k:=k) (H1:=H1) hlt
  have hw1:IntKind.i64.wrap ((i:Int)+1)=((i+1:Nat):Int):=zWn (by omega)
  have hu':=hu _ (gt_mem hlt)
  have hwk:IntKind.i64.wrap (gt l i).kind=(gt l i).kind:=zWi (by omega) (by omega)
  rw [allFrom_step hlt] at ha
  by_cases ho:okC (gt l i)=true∧1≤(gt l i).kind∧(gt l i).kind≤2
  case neg=>
   have hf:rightC l=false:=by
    simp only [rightC,ha,okCAt]
    have:¬okC (gt l i)=true∨¬((gt l i).kind=1∨(gt l i).kind=2):=by
     by_cases q:okC (gt l i)=true
     ·right;intro hk;exact ho ⟨q,by omega,by omega⟩
     ·exact .inl q
    rcases this with q | q<;>simp [q]
   rw [hf]
   rw [okC_ref] at ho
   clear ha hf
   simp only [n44,r44,h0,h3,hlt,hL,hidx,hld,encC,hw1,in_ok,hwk,SB,seval,zCa,aOp,zB,aUn,reduceCtorEq,zFr,place,zTu,zRe]
   repeat' ((first | refine wantK_dec (fun hw=>?_) (fun hw=>?_) | refine condK_dec (fun hw=>?_) (fun hw=>?_) | refine wantK_any (fun hw=>?_) (fun hw=>?_) | refine condK_any (fun hw=>?_) (fun hw=>?_))<;>(try simp only [hw,n44,r44,h0,h3,hlt,hL,hidx,hld,encC,hw1,in_ok,hwk,SB,Nat.reduceLT,zCa,aOp,Nat.reduceEqDiff,zB,aUn,reduceCtorEq,zFr,place,zTu,Nat.reduceAdd,Nat.reduceLeDiff,zRe,Int.reduceEq,Int.reduceLT,Int.reduceLE]))
   all_goals exfalso
   all_goals simp only [Bool.and_eq_true,decide_eq_true_eq] at ho
   all_goals omega
  have hoo:=ho
  simp only [okC_ref,Bool.and_eq_true,decide_eq_true_eq] at ho
  obtain ⟨⟨⟨⟨⟨o1,o2⟩,o3⟩,o4⟩,o5⟩,o6⟩:=ho
  simp only [n44,r44,h0,h3,hlt,hL,hidx,hld,encC,hw1,in_ok,hwk,o1,o2,o3,o4,o5,o6,SB,seval,zCa,aOp,zB,aUn,reduceCtorEq,zFr,place,zTu,zRe]
  all_goals
   refine zRr (fun j=>i-j) (fun j fr2 G2=>j≤i∧fr2 0=.slice p l.length cap∧fr2 3=.int .i64 (i:Int)∧fr2 4=.pointer (some ⟨G.length,0,none⟩)∧fr2 5=.int .i64 (j:Int)∧Ext (G++[.cells false (encC (gt l i))]) G2∧
    ∀j',j'<j→(gt l j').id≠(gt l i).id) 0 ⟨Nat.zero_le _,(by exact h0),(by exact h3),(by rfl),by rfl,(by first | exact Ext.refl | (simp only [encN,q];exact Ext.refl)),fun j' h=>absurd h (Nat.not_lt_zero _)⟩ ?_
   intro j fr2 G2 ⟨hj,k0,k3,k4,k5,hE2,hne⟩ hN2
   rw [zRc l44_1.eq_1]
   refine zRp ?_
   have hE3:Ext H G2:=hE.app.trans hE2
   have hg2:=hE3.sl hs
   have hx4:∀X,zG (G2++X) G.length=.cells false (encC (gt l i)):=fun X=>(hE2.app (X:=X)).cells zHn
   by_cases hjl:j<i
   ·have hjl':j<l.length:=by omega
    have hld2:=fun X=>(hg2.app X).loadCell0 encC_len hjl' (by decide)
    have hldq2:=fun X jj hj=>(hg2.app X).loadCell (j:=jj) encC_len hjl' hj
    have hidx2:=fun c (k:IntKind) (H1:zH)=>hg2.idx (c:=c) (k:=k) (H1:=H1) hjl'
    have hwj:IntKind.i64.wrap ((j:Int)+1)=((j+1:Nat):Int):=zWn (by omega)
    by_cases he:(gt l j).id=(gt l i).id
    ·simp only [n44,r44,k0,k3,k4,k5,hjl,hidx2,hld2,hldq2,encC,hx4,he,SB,seval,zCa,aOp,zB,aUn,reduceCtorEq,zFr,place,zTu,zRe]
     have hm:=take_mem (f:=(·.id)) (Nat.le_of_lt hlt) hjl
     rw [he] at hm
     simp only [rightC,ha,okCAt]
     simp_all
    ·simp only [n44,r44,k0,k3,k4,k5,hjl,hidx2,hld2,hldq2,encC,hx4,he,hwj,SB,seval,zCa,aOp,zB,aUn,reduceCtorEq,zFr,place,zTu,zRe]
     refine hN2 (j+1) _ _ ⟨by omega,(by exact k0),(by exact k3),(by exact k4),(by rfl),hE2.app,fun j' hj'=>?_⟩ (by omega)
     by_cases e:j'=j
     ·subst e;exact he
     ·exact hne j' (by omega)
   ·obtain rfl:j=i:=by omega
    simp only [n44,r44,k0,k3,k4,k5,hjl,hw1,SB,seval,zCa,aOp,zB,aUn,reduceCtorEq,zFr,place,zTu,zRe]
    refine hN (j+1) _ _ ⟨by omega,(by exact k0),(by rfl),hE3.app, ?_⟩ (by omega)
    have hm:=take_not (f:=(·.id)) (Nat.le_of_lt hlt) hne
    rw [ha]
    simp only [okCAt]
    simp_all
    omega
 ·obtain rfl:i=l.length:=by omega
  simp only [n44,r44,h0,h3,hlt,SB,seval,zCa,aOp,zB,aUn,reduceCtorEq,zFr,place,zTu,zRe]
  simp [rightC,ha,allFrom_end]
  omega
theorem otherTerms_ok [OB] {lim:Nat} {p:Option Addr} {l:List Trm} {cap:Nat} {H:zH} (hs:Sl H encT 7 p l) (hn:l.length≤2001) (hlim:lim≤H.length) :
  ∃p' k' Y,Sl (H++Y) encT 7 p' l∧∀Q,CallR E false lim 42 [.slice p l.length cap] H Q=Q (.slice p' l.length k') (H++Y):=by
 have key:CallR E false lim 42 [.slice p l.length cap] H (fun v G=>Ext H G∧∃p' k',v=.slice p' l.length k'∧Sl G encT 7 p' l):=by
  refine run0 (by decide) e42 rfl ?_
  rw [b42,c42]
  simp only [n42,r42,SB,seval,zCa,aOp,zB,aUn,reduceCtorEq,zFr,place,zTu,zRe]
  refine zRr (fun i=>l.length-i) (fun i fr G=>i≤l.length∧fr 0=.slice p l.length cap∧fr 4=.int .i64 (i:Int)∧Ext H G∧∃p' k',fr 3=.slice p' i k'∧Own H.length G encT 7 p' k' (l.take i)) 0 ⟨Nat.zero_le _,(by rfl),by rfl,Ext.refl.app,none,0,(by rfl),Own.nil⟩ ?_
  intro i fr G ⟨hi,g0,g4,hE,p',k',g3,hO⟩ hN
  rw [zRc l42_1.eq_1]
  refine zRp ?_
  by_cases hlt:i<l.length
  ·have hL:=hE.len
   have hg:=hE.sl hs
   have hld:=fun X=>(hg.app X).loadCells encT_len hlt
   have hidx:=fun c (k:IntKind) (H1:zH)=>hg.idx (c:=c) (k:=k) (H1:=H1) hlt
   have hw1:IntKind.i64.wrap ((i:Int)+1)=((i+1:Nat):Int):=zWn (by omega)
   have hti:(l.take i).length=i:=by rw [List.length_take];omega
   obtain ⟨G',R,q1,q2,hM,hE',happ⟩:=hO.push1 (bytes:=56) hlim encT_len (by decide) (gt l i) (by unfold maxBytes;omega) (by omega)
   rw [hti] at happ
   simp only [encT] at happ
   have hlim':lim≤G.length:=by omega
   have hr:=len_rules hM.len
   simp only [n42,r42,g0,g3,g4,hlt,hidx,hld,encT,hw1,happ,hlim',hr,SB,seval,zCa,aOp,zB,aUn,reduceCtorEq,zFr,place,zTu,zRe]
   refine hN (i+1) _ _ ⟨by omega,(by exact g0),(by rfl),(hE' H hE (Nat.le_refl _)).app,some ⟨G.length+2,0,none⟩,loose 7,(by rfl),Own.new ?_ (by omega)⟩ (by omega)
   rw [hr.2.1]
   simp only [List.getD_cons_succ,List.getD_cons_zero,List.take_succ_eq_append_getElem hlt,zGl hlt]
  ·obtain rfl:i=l.length:=by omega
   rw [List.take_length] at hO
   simp only [n42,r42,g0,g3,g4,hlt,SB,seval,zCa,aOp,zB,aUn,reduceCtorEq,zFr,place,zTu,zRe]
   exact ⟨hE.app,_,_,rfl,(hO.app _).sl encT_len⟩
 obtain ⟨k,v,H',hx,⟨Y,rfl⟩,p',k',rfl,hs'⟩:=CallR.one key
 exact ⟨p',k',Y,hs',fun Q=>CallR.det hx⟩
theorem others_ok [OB] {lim:Nat} {p:Option Addr} {l:List Clm} {cap:Nat} {H:zH} (hs:Sl H encC 6 p l) (hn:l.length≤2001) (hlim:lim≤H.length) :
  ∃p' k' Y,Sl (H++Y) encC 6 p' l∧∀Q,CallR E false lim 45 [.slice p l.length cap] H Q=Q (.slice p' l.length k') (H++Y):=by
 have key:CallR E false lim 45 [.slice p l.length cap] H (fun v G=>Ext H G∧∃p' k',v=.slice p' l.length k'∧Sl G encC 6 p' l):=by
  refine run0 (by decide) e45 rfl ?_
  rw [b45,c45]
  simp only [n45,r45,SB,seval,zCa,aOp,zB,aUn,reduceCtorEq,zFr,place,zTu,zRe]
  refine zRr (fun i=>l.length-i) (fun i fr G=>i≤l.length∧fr 0=.slice p l.length cap∧fr 4=.int .i64 (i:Int)∧Ext H G∧∃p' k',fr 3=.slice p' i k'∧Own H.length G encC 6 p' k' (l.take i)) 0 ⟨Nat.zero_le _,(by rfl),by rfl,Ext.refl.app,none,0,(by rfl),Own.nil⟩ ?_
  intro i fr G ⟨hi,g0,g4,hE,p',k',g3,hO⟩ hN
  rw [zRc l45_1.eq_1]
  refine zRp ?_
  by_cases hlt:i<l.length
  ·have hL:=hE.len
   have hg:=hE.sl hs
   have hld:=fun X=>(hg.app X).loadCells encC_len hlt
   have hidx:=fun c (k:IntKind) (H1:zH)=>hg.idx (c:=c) (k:=k) (H1:=H1) hlt
   have hw1:IntKind.i64.wrap ((i:Int)+1)=((i+1:Nat):Int):=zWn (by omega)
   have hti:(l.take i).length=i:=by rw [List.length_take];omega
   obtain ⟨G',R,q1,q2,hM,hE',happ⟩:=hO.push1 (bytes:=48) hlim encC_len (by decide) (gt l i) (by unfold maxBytes;omega) (by omega)
   rw [hti] at happ
   simp only [encC] at happ
   have hlim':lim≤G.length:=by omega
   have hr:=len_rules hM.len
   simp only [n45,r45,g0,g3,g4,hlt,hidx,hld,encC,hw1,happ,hlim',hr,SB,seval,zCa,aOp,zB,aUn,reduceCtorEq,zFr,place,zTu,zRe]
   refine hN (i+1) _ _ ⟨by omega,(by exact g0),(by rfl),(hE' H hE (Nat.le_refl _)).app,some ⟨G.length+2,0,none⟩,loose 6,(by rfl),Own.new ?_ (by omega)⟩ (by omega)
   rw [hr.2.1]
   simp only [List.getD_cons_succ,List.getD_cons_zero,List.take_succ_eq_append_getElem hlt,zGl hlt]
  ·obtain rfl:i=l.length:=by omega
   rw [List.take_length] at hO
   simp only [n45,r45,g0,g3,g4,hlt,SB,seval,zCa,aOp,zB,aUn,reduceCtorEq,zFr,place,zTu,zRe]
   exact ⟨hE.app,_,_,rfl,(hO.app _).sl encC_len⟩
 obtain ⟨k,v,H',hx,⟨Y,rfl⟩,p',k',rfl,hs'⟩:=CallR.one key
 exact ⟨p',k',Y,hs',fun Q=>CallR.det hx⟩
theorem refCheck_ok [OB] {mp:Bool} {lim:Nat} {pl pt ps pc':Option Addr} {l:List Std} {t:List Trm} {s:List Snt} {c:List Clm} {k1 k2 k3 k4:Nat} {H:zH} {Q:Value→zH→Prop}
  (hl:Sl H encS 4 pl l) (ht:Sl H encT 7 pt t) (hs:Sl H encN 6 ps s) (hc:Sl H encC 6 pc' c) (nl:l.length<2 ^ 62) (nt:t.length<2 ^ 62) (ns:s.length<2 ^ 62) (nc:c.length<2 ^ 62)
  (ul:∀x∈l,0≤x.cls) (ut:∀x∈t,0≤x.cls) (us:∀x∈s,0≤x.cls) (uc:∀x∈c,0≤x.kind∧x.kind<256) :
  CallR E mp lim 63 [.slice pl l.length k1,.slice pt t.length k2,.slice ps s.length k3,.slice pc' c.length k4] H Q=Q (.int .i64 (checkS l t s c)) H:=by
 refine pc (by decide) e63 rfl rfl ?_
 rw [b63,c63]
 have h1:=fun mp lim X Q=>refRight_ok mp lim (cap:=k1) (Q:=Q) (hl.app X) nl ul
 have h2:=fun mp lim X Q=>refRightTerms_ok mp lim (cap:=k2) (Q:=Q) (ht.app X) nt ut
 have h3:=fun mp lim X Q=>refRightSent_ok mp lim (cap:=k3) (Q:=Q) (hs.app X) ns us
 have h4:=fun mp lim X Q=>refRightClaims_ok mp lim (cap:=k4) (Q:=Q) (hc.app X) nc uc
 simp only [n63,r63,h1,h2,h3,h4,SB,seval,zCa,aOp,zB,aUn,reduceCtorEq,zFr,place,zTu,zRe]
 repeat' ((first | refine wantK_dec (fun hw=>?_) (fun hw=>?_) | refine condK_dec (fun hw=>?_) (fun hw=>?_) | refine wantK_any (fun hw=>?_) (fun hw=>?_) | refine condK_any (fun hw=>?_) (fun hw=>?_))<;>(try simp only [hw,n63,r63,h1,h2,h3,h4,SB,Nat.reduceLT,zCa,aOp,Nat.reduceEqDiff,zB,aUn,reduceCtorEq,zFr,place,zTu,Nat.reduceAdd,Nat.reduceLeDiff,zRe,Int.reduceEq,Int.reduceLT,Int.reduceLE]))
 all_goals simp [checkS, *]
theorem refShare_ok [OB] {mp:Bool} {lim:Nat} {n p:Int} {H:zH} {Q:Value→zH→Prop} (h1:0≤n∧n≤1000000000000000) (h2:0≤p∧p≤10000) :
  CallR E mp lim 77 [.int .i64 n,.int .i64 p] H Q=Q (.int .i64 (shareS n p)) H:=by
 refine pc (by decide) e77 rfl rfl ?_
 rw [b77,c77]
 have hq:n.tdiv 10000=n / 10000:=Int.tdiv_eq_ediv_of_nonneg h1.1
 have hr:n.tmod 10000=n % 10000:=Int.tmod_eq_emod_of_nonneg h1.1
 have hm1:0≤n / 10000*p:=Int.mul_nonneg (by omega) h2.1
 have hm2:n / 10000*p≤100000000000*10000:=Int.mul_le_mul (by omega) h2.2 h2.1 (by decide)
 have hm3:0≤n % 10000*p:=Int.mul_nonneg (by omega) h2.1
 have hm4:n % 10000*p≤10000*10000:=Int.mul_le_mul (by omega) h2.2 h2.1 (by decide)
 have w1:IntKind.i64.wrap (n / 10000)=n / 10000:=zWi (by omega) (by omega)
 have w2:IntKind.i64.wrap (n / 10000*p)=n / 10000*p:=zWi (by omega) (by omega)
 have w3:IntKind.i64.wrap (n % 10000*p)=n % 10000*p:=zWi (by omega) (by omega)
 have hq3:(n % 10000*p).tdiv 10000=n % 10000*p / 10000:=Int.tdiv_eq_ediv_of_nonneg hm3
 have w4:IntKind.i64.wrap (n % 10000*p / 10000)=n % 10000*p / 10000:=zWi (by omega) (by omega)
 have w5:IntKind.i64.wrap (n / 10000*p+n % 10000*p / 10000)=shareS n p:=zWi (by omega) (by omega)
 simp only [n77,r77,hq,hr,w1,w2,w3,hq3,w4,w5,SB,seval,zCa,aOp,zB,aUn,reduceCtorEq,zFr,place,zTu,zRe]
theorem last_find {α:Type} {P:α→Bool}:∀(t:List α) (a:α),t.Pairwise (fun x y=>P x=true→¬P y=true)→t.foldl (fun a y=>if P y=true then y else a) a=(t.find? P).getD a
 | [],_,_=>rfl
 | y::t,a,h=>by
   rw [List.pairwise_cons] at h
   rw [List.foldl_cons,List.find?_cons]
   by_cases hk:P y=true
   ·simp only [hk,if_true,Option.getD_some]
    have key:∀(t:List α) (a:α),(∀z∈t,¬P z=true)→t.foldl (fun a y=>if P y=true then y else a) a=a:=by
     intro t
     induction t with
     | nil=>intro a _;rfl
     | cons z t ih=>intro a hz;rw [List.foldl_cons,if_neg (hz z (by simp))];exact ih a fun w hw=>hz w (by simp [hw])
    exact key t y fun z hz=>h.1 z hz hk
   ·simp only [hk,Bool.false_eq_true,if_false]
    exact last_find t a h.2
def zN:Snt:=⟨0,0,0,0,0,0⟩
def zT:Trm:=⟨0,0,0,0,0,0,0⟩
def lstN (k:Int) (s:List Snt):Snt:=s.foldl (fun a x=>if decide (x.item=k)=true then x else a) zN
def lstT (k:Int) (t:List Trm):Trm:=t.foldl (fun a x=>if decide (x.cls=k)=true then x else a) zT
theorem lstN_step {s:List Snt} {k:Int} {i:Nat} (h:i<s.length):lstN k (s.take (i+1))=if (gt s i).item=k then gt s i else lstN k (s.take i):=by
 unfold lstN
 rw [List.take_succ_eq_append_getElem h,List.foldl_append,zGl h]
 simp
theorem lstT_step {s:List Trm} {k:Int} {i:Nat} (h:i<s.length):lstT k (s.take (i+1))=if (gt s i).cls=k then gt s i else lstT k (s.take i):=by
 unfold lstT
 rw [List.take_succ_eq_append_getElem h,List.foldl_append,zGl h]
 simp
theorem rightN_items {s:List Snt} (h:rightN s=true):s.Pairwise (fun a b=>a.item≠b.item):=by
 unfold rightN at h
 simp only [Bool.and_eq_true] at h
 rw [List.pairwise_iff_getElem]
 intro i j hi hj hij he
 have h2:=allFrom_iff.1 h.2 j (Nat.zero_le _) hj
 simp only [okNAt,Bool.and_eq_true,zGl hj,Bool.not_eq_true',List.contains_eq_mem,decide_eq_false_iff_not] at h2
 refine h2.1.2 ?_
 rw [←he]
 exact List.mem_map.2 ⟨s[i],List.mem_iff_getElem.2 ⟨i,by rw [List.length_take];omega,by simp⟩,rfl⟩
theorem lstN_find {s:List Snt} (h:rightN s=true) (k:Int):lstN k s=(s.find? (fun x=>decide (x.item=k))).getD zN:=by
 refine last_find s zN ((rightN_items h).imp fun {a b} hab=>?_)
 simp only [decide_eq_true_eq]
 intro q1 q2
 exact hab (q1.trans q2.symm)
theorem lstT_find {s:List Trm} (h:rightT s=true) (k:Int):lstT k s=(s.find? (fun x=>decide (x.cls=k))).getD zT:=by
 refine last_find s zT ((rightT_pair h).imp fun {a b} hab=>?_)
 simp only [decide_eq_true_eq]
 omega
theorem prom_sound {l:List Std} {c f t a:Int} (hr:right l=true) (ha:¬a<0):((promiseS l c f t a).2=0↔(prom l c f t a).2.2=true)∧((promiseS l c f t a).2=0→(promiseS l c f t a).1=(prom l c f t a).1):=by
 rw [promise_prom hr ha]
 have h0:(prom l c f t a).2.2=true→(prom l c f t a).2.1=true:=by
  unfold prom
  split
  ·simp
  ·split<;>simp
 by_cases h1:(prom l c f t a).2.1=false
 ·rw [if_pos h1]
  refine ⟨⟨fun q=>absurd q (by decide),fun q=>?_⟩,fun q=>absurd q (by decide)⟩
  rw [h0 q] at h1;cases h1
 ·rw [if_neg h1]
  by_cases h2:(prom l c f t a).2.2=false
  ·rw [if_pos h2]
   refine ⟨⟨fun q=>absurd q (by decide),fun q=>?_⟩,fun q=>absurd q (by decide)⟩
   rw [q] at h2;cases h2
  ·rw [if_neg h2]
   exact ⟨⟨fun _=>by simpa using h2,fun _=>rfl⟩,fun _=>rfl⟩
theorem verdict_ok [OB] {mp:Bool} {lim:Nat} {pl pt ps:Option Addr} {l:List Std} {t:List Trm} {s:List Snt} {c:Clm} {k1 k2 k3:Nat} {H:zH} {Q:Value→zH→Prop}
  (hl:Sl H encS 4 pl l) (ht:Sl H encT 7 pt t) (hs:Sl H encN 6 ps s) (nl:l.length<2 ^ 62) (nt:t.length<2 ^ 62) (ns:s.length<2 ^ 62) (ul:∀x∈l,0≤x.cls)
  (r1:right l=true) (r2:rightT t=true) (r3:rightN s=true) (o1:okC c=true) (o2:c.kind=1∨c.kind=2) :
  CallR E mp lim 64 [.slice pl l.length k1,.slice pt t.length k2,.slice ps s.length k3,.agg #[.int .i64 c.id,.int .i64 c.item,.int .i64 c.tm,.int .u8 c.kind,.int .i64 c.post,.int .i64 c.val]] H Q=Q (.agg #[.int .i64 c.id,.int .i64 (decideS l t s c).1,.int .u8 (decideS l t s c).2]) H:=by
 refine pc (by decide) e64 rfl rfl ?_
 rw [b64,c64]
 have hfo:=file_ok c r1 r2 r3
 simp only [n64,r64,SB,seval,zCa,aOp,zB,aUn,reduceCtorEq,zFr,place,zTu,zRe]
 refine zRr (fun i=>s.length-i) (fun i fr G=>i≤s.length∧fr 0=.slice pl l.length k1∧fr 1=.slice pt t.length k2∧fr 2=.slice ps s.length k3∧fr 7=.pointer (some ⟨H.length,0,none⟩)∧fr 8=.pointer (some ⟨H.length+1,0,none⟩)∧fr 9=.pointer (some ⟨H.length+2,0,none⟩)∧
  fr 10=.int .i64 (i:Int)∧G=H++[.cells false [.int .i64 c.id,.int .i64 c.item,.int .i64 c.tm,.int .u8 c.kind,.int .i64 c.post,.int .i64 c.val],.cells false [.int .i64 0,.int .i64 0,.int .u8 0],.cells false (encN (lstN c.item (s.take i)))]) 0 ⟨Nat.zero_le _,(by rfl),(by rfl),(by rfl),(by rfl),(by rfl),(by rfl),by rfl,rfl⟩ ?_
 intro i fr G ⟨hi,g0,g1,g2,g7,g8,g9,g10,hG⟩ hN
 subst hG
 rw [zRc l64_3.eq_1]
 by_cases hlt:i<s.length
 ·have hld:=fun X=>(hs.app X).loadCells encN_len hlt
  have hldj:=fun X j hj=>(hs.app X).loadCell (j:=j) encN_len hlt hj
  have hld0:=fun X=>(hs.app X).loadCell0 encN_len hlt (by decide)
  have hidx:=fun c (k:IntKind) (H1:zH)=>hs.idx (c:=c) (k:=k) (H1:=H1) hlt
  have hw1:IntKind.i64.wrap ((i:Int)+1)=((i+1:Nat):Int):=zWn (by omega)
  have hst:=lstN_step (k:=c.item) hlt
  by_cases he:(gt s i).item=c.item
  ·rw [if_pos he] at hst
   simp only [n64,r64,g0,g1,g2,g7,g8,g9,g10,hlt,hld,hldj,hld0,hidx,hw1,encN,he,SB,seval,zCa,aOp,zB,aUn,reduceCtorEq,zFr,place,zTu,zRe]
   refine hN (i+1) _ _ ⟨by omega,(by exact g0),(by exact g1),(by exact g2),(by exact g7),(by exact g8),(by exact g9),(by rfl), ?_⟩ (by omega)
   simp only [hst,encN,he]
  ·rw [if_neg he] at hst
   simp only [n64,r64,g0,g1,g2,g7,g8,g9,g10,hlt,hld,hldj,hld0,hidx,hw1,encN,he,SB,seval,zCa,aOp,zB,aUn,reduceCtorEq,zFr,place,zTu,zRe]
   refine hN (i+1) _ _ ⟨by omega,(by exact g0),(by exact g1),(by exact g2),(by exact g7),(by exact g8),(by exact g9),(by rfl), ?_⟩ (by omega)
   simp only [hst,encN]
 obtain rfl:i=s.length:=by omega
 clear hN
 rw [List.take_length,lstN_find r3]
 simp only [okC,allIn,inB,Bool.and_eq_true,decide_eq_true_eq,Bool.and_true] at o1
 cases hfs:s.find? (fun x=>decide (x.item=c.item)) with
 | none=>
   simp only [n64,r64,g0,g1,g2,g7,g8,g9,g10,hlt,encN,Option.getD_none,zN,SB,seval,zCa,aOp,zB,aUn,reduceCtorEq,zFr,place,zTu,zRe]
   simp [decideS,vrd,fileS,hfs]
 | some x=>
   have hxm:=List.mem_of_find?_eq_some hfs
   have hxi:x.item=c.item:=by simpa using List.find?_some hfs
   obtain ⟨hxo,hxc⟩:=rightN_mem r3 hxm
   simp only [okN,allIn,inB,Bool.and_eq_true,Bool.or_eq_true,decide_eq_true_eq,Bool.and_true] at hxo
   have hx0:¬x.item=0:=by omega
   have hP:=fun mp lim X Q=>refPromise_ok (mp:=mp) (lim:=lim) (cap:=k1) (c:=x.cls) (f:=x.frm) (t:=x.to) (a:=x.acc) (Q:=Q) (hl.app X) nl ul
   have hff:fileS l t s c=⟨x,(t.find? (fun y=>decide (y.cls=x.cls))).getD default,(prom l x.cls x.frm x.to x.acc).1,true,(t.find? (fun y=>decide (y.cls=x.cls))).isSome&&(prom l x.cls x.frm x.to x.acc).2.2,decide (¬x.del=-1)&&decide (x.del≤c.tm)⟩:=by simp [fileS,hfs]
   obtain ⟨s1,s2⟩:=prom_sound (l:=l) (c:=x.cls) (f:=x.frm) (t:=x.to) (a:=x.acc) r1 (by omega)
   simp only [n64,r64,g0,g1,g2,g7,g8,g9,g10,hlt,encN,Option.getD_some,hx0,hP,SB,seval,zCa,aOp,zB,aUn,reduceCtorEq,zFr,place,zTu,zRe]
   refine zRr (fun i=>t.length-i) (fun i fr G=>i≤t.length∧fr 1=.slice pt t.length k2∧fr 7=.pointer (some ⟨H.length,0,none⟩)∧fr 8=.pointer (some ⟨H.length+1,0,none⟩)∧fr 9=.pointer (some ⟨H.length+2,0,none⟩)∧fr 11=.int .i64 (promiseS l x.cls x.frm x.to x.acc).1∧fr 12=.int .i64 (promiseS l x.cls x.frm x.to x.acc).2∧
    fr 13=.pointer (some ⟨H.length+3,0,none⟩)∧fr 14=.int .i64 (i:Int)∧G=H++[.cells false [.int .i64 c.id,.int .i64 c.item,.int .i64 c.tm,.int .u8 c.kind,.int .i64 c.post,.int .i64 c.val],.cells false [.int .i64 0,.int .i64 0,.int .u8 0],.cells false [.int .i64 x.item,.int .u8 x.cls,.int .i64 x.frm,.int .i64 x.to,.int .i64 x.acc,.int .i64 x.del],.cells false (encT (lstT x.cls (t.take i)))]) 0 ⟨Nat.zero_le _,(by exact g1),(by exact g7),(by exact g8),(by exact g9),(by rfl),(by rfl),(by rfl),by rfl,rfl⟩ ?_
   clear g0 g1 g2 g7 g8 g9 g10
   intro i fr G ⟨hi,g1,g7,g8,g9,g11,g12,g13,g14,hG⟩ hN
   subst hG
   rw [zRc l64_2.eq_1]
   by_cases hlt:i<t.length
   ·have hld:=fun X=>(ht.app X).loadCells encT_len hlt
    have hldj:=fun X j hj=>(ht.app X).loadCell (j:=j) encT_len hlt hj
    have hld0:=fun X=>(ht.app X).loadCell0 encT_len hlt (by decide)
    have hidx:=fun c (k:IntKind) (H1:zH)=>ht.idx (c:=c) (k:=k) (H1:=H1) hlt
    have hw1:IntKind.i64.wrap ((i:Int)+1)=((i+1:Nat):Int):=zWn (by omega)
    have hst:=lstT_step (k:=x.cls) hlt
    by_cases he:(gt t i).cls=x.cls
    ·rw [if_pos he] at hst
     simp only [n64,r64,g1,g7,g8,g9,g11,g12,g13,g14,hlt,hld,hldj,hld0,hidx,hw1,encT,he,SB,seval,zCa,aOp,zB,aUn,reduceCtorEq,zFr,place,zTu,zRe]
     refine hN (i+1) _ _ ⟨by omega,(by exact g1),(by exact g7),(by exact g8),(by exact g9),(by exact g11),(by exact g12),(by exact g13),(by rfl), ?_⟩ (by omega)
     simp only [hst,encT,he]
    ·rw [if_neg he] at hst
     simp only [n64,r64,g1,g7,g8,g9,g11,g12,g13,g14,hlt,hld,hldj,hld0,hidx,hw1,encT,he,SB,seval,zCa,aOp,zB,aUn,reduceCtorEq,zFr,place,zTu,zRe]
     refine hN (i+1) _ _ ⟨by omega,(by exact g1),(by exact g7),(by exact g8),(by exact g9),(by exact g11),(by exact g12),(by exact g13),(by rfl), ?_⟩ (by omega)
     simp only [hst,encT]
   obtain rfl:i=t.length:=by omega
   clear hN
   rw [List.take_length,lstT_find r2]
   generalize hPS:promiseS l x.cls x.frm x.to x.acc=P at *
   by_cases e0:P.2=0
   case neg=>
    have hpf:(prom l x.cls x.frm x.to x.acc).2.2=false:=by
     cases hq:(prom l x.cls x.frm x.to x.acc).2.2 with
     | false=>rfl
     | true=>exact absurd (s1.2 hq) e0
    simp only [n64,r64,g1,g7,g8,g9,g11,g12,g13,g14,hlt,encT,e0,SB,seval,zCa,aOp,zB,aUn,reduceCtorEq,zFr,place,zTu,zRe]
    simp [decideS,vrd,hff,hpf]
   have hpt:=s1.1 e0
   have hp1:=s2 e0
   cases hft:t.find? (fun y=>decide (y.cls=x.cls)) with
   | none=>
     simp only [n64,r64,g1,g7,g8,g9,g11,g12,g13,g14,hlt,encT,e0,Option.getD_none,zT,SB,seval,zCa,aOp,zB,aUn,reduceCtorEq,zFr,place,zTu,zRe]
     simp [decideS,vrd,hff,hft]
   | some y=>
     have hyc:y.cls=x.cls:=by simpa using List.find?_some hft
     have hy0:¬y.cls=0:=by omega
     rw [hft,hpt,←hp1] at hff
     simp only [Option.getD_some,Option.isSome_some,Bool.and_self] at hff
     rw [hff] at hfo
     obtain ⟨p1,p2,p3,p4,p5,p6,p7,p8⟩:=hfo
     simp only at p1 p2 p3 p4 p5 p6 p7 p8
     have hdn:(decide (¬x.del=-1)&&decide (x.del≤c.tm))=decide (0≤x.del∧x.del≤c.tm):=by
      rw [Bool.eq_iff_iff];simp;omega
     rw [hdn] at hff
     have hdec:decideS l t s c=vrd c ⟨x,y,P.1,true,true,decide (0≤x.del∧x.del≤c.tm)⟩:=by rw [decideS,hff]
     have w1:IntKind.i64.wrap (1440*y.wthn)=1440*y.wthn:=zWi (by omega) (by omega)
     have w2:IntKind.i64.wrap (P.1+1440*y.wthn)=P.1+1440*y.wthn:=zWi (by omega) (by omega)
     have w3:IntKind.i64.wrap (P.1+y.free)=P.1+y.free:=zWi (by omega) (by omega)
     have w4:IntKind.i64.wrap (P.1+y.aft)=P.1+y.aft:=zWi (by omega) (by omega)
     have w5:IntKind.i64.wrap (c.val+c.post)=c.val+c.post:=zWi (by omega) (by omega)
     have w6:IntKind.i64.wrap (y.lmt+c.post)=y.lmt+c.post:=zWi (by omega) (by omega)
     rw [hdec]
     by_cases c1:P.1+1440*y.wthn<c.tm
     ·simp only [n64,r64,g1,g7,g8,g9,g11,g12,g13,g14,hlt,encT,e0,Option.getD_some,hy0,w1,w2,c1,SB,seval,zCa,aOp,zB,aUn,reduceCtorEq,zFr,place,zTu,zRe]
      have c1':P.1+y.wthn*1440<c.tm:=by omega
      simp [vrd,c1']
     have c1':¬P.1+y.wthn*1440<c.tm:=by omega
     by_cases hd:0≤x.del∧x.del≤c.tm
     ·rcases o2 with hk | hk
      ·by_cases c2:x.del≤P.1+y.free
       ·simp only [n64,r64,g1,g7,g8,g9,g11,g12,g13,g14,hlt,encT,e0,Option.getD_some,hy0,w1,w2,w3,c1,hd.1,hd.2,hk,c2,SB,seval,zCa,aOp,zB,aUn,reduceCtorEq,zFr,place,zTu,zRe]
        simp [vrd,c1',hk,hd,c2]
       ·simp only [n64,r64,g1,g7,g8,g9,g11,g12,g13,g14,hlt,encT,e0,Option.getD_some,hy0,w1,w2,w3,c1,hd.1,hd.2,hk,c2,SB,seval,zCa,aOp,zB,aUn,reduceCtorEq,zFr,place,zTu,zRe]
        generalize hD:(x.del-P.1-y.free+1439) / 1440=D
        have hD1:1≤D∧D≤800000:=by omega
        refine zRr (fun d:Nat=>D.toNat-d) (fun d fr G=>(d:Int)≤D∧fr 7=.pointer (some ⟨H.length,0,none⟩)∧fr 8=.pointer (some ⟨H.length+1,0,none⟩)∧fr 9=.pointer (some ⟨H.length+2,0,none⟩)∧fr 11=.int .i64 P.1∧fr 13=.pointer (some ⟨H.length+3,0,none⟩)∧fr 16=.int .i64 (d:Int)∧
         G=H++[.cells false [.int .i64 c.id,.int .i64 c.item,.int .i64 c.tm,.int .u8 1,.int .i64 c.post,.int .i64 c.val],.cells false [.int .i64 0,.int .i64 0,.int .u8 0],.cells false [.int .i64 x.item,.int .u8 x.cls,.int .i64 x.frm,.int .i64 x.to,.int .i64 x.acc,.int .i64 x.del],.cells false [.int .u8 y.cls,.int .i64 y.free,.int .i64 y.share,.int .i64 y.most,.int .i64 y.aft,.int .i64 y.lmt,.int .i64 y.wthn]]) 0 ⟨by omega,(by exact g7),(by exact g8),(by exact g9),(by exact g11),(by exact g13),by rfl,rfl⟩ ?_
        clear g1 g7 g8 g9 g11 g12 g13 g14
        intro d fr G ⟨hdD,g7,g8,g9,g11,g13,g16,hG⟩ hN
        subst hG
        rw [zRc l64_1.eq_1]
        have v1:IntKind.i64.wrap (1440*(d:Int))=1440*(d:Int):=zWi (by omega) (by omega)
        have v2:IntKind.i64.wrap (P.1+y.free+1440*(d:Int))=P.1+y.free+1440*(d:Int):=zWi (by omega) (by omega)
        by_cases hdl:P.1+y.free+1440*(d:Int)<x.del
        ·have v3:IntKind.i64.wrap ((d:Int)+1)=((d+1:Nat):Int):=zWn (by omega)
         simp only [n64,r64,g7,g8,g9,g11,g13,g16,w3,v1,v2,v3,hdl,SB,seval,zCa,aOp,zB,aUn,reduceCtorEq,zFr,place,zTu,zRe]
         exact hN (d+1) _ _ ⟨by omega,(by exact g7),(by exact g8),(by exact g9),(by exact g11),(by exact g13),(by rfl),rfl⟩ (by omega)
        ·have hDd:(d:Int)=D:=by omega
         have m1:0≤(d:Int)*y.share:=Int.mul_nonneg (by omega) p3.1
         have m2:(d:Int)*y.share≤800000*10000:=Int.mul_le_mul (by omega) p3.2 p3.1 (by decide)
         have v4:IntKind.i64.wrap ((d:Int)*y.share)=(d:Int)*y.share:=zWi (by omega) (by omega)
         by_cases c3:y.most<(d:Int)*y.share
         ·have hS:=fun mp lim H Q=>refShare_ok (mp:=mp) (lim:=lim) (H:=H) (Q:=Q) (n:=c.post) (p:=y.most) (by omega) (by omega)
          simp only [n64,r64,g7,g8,g9,g11,g13,g16,w3,v1,v2,v4,hdl,c3,hS,SB,seval,zCa,aOp,zB,aUn,reduceCtorEq,zFr,place,zTu,zRe]
          simp [vrd,c1',hk,hd,c2,paidS,daysS,hD,←hDd,minI,c3]
         ·have hS:=fun mp lim H Q=>refShare_ok (mp:=mp) (lim:=lim) (H:=H) (Q:=Q) (n:=c.post) (p:=(d:Int)*y.share) (by omega) (by omega)
          simp only [n64,r64,g7,g8,g9,g11,g13,g16,w3,v1,v2,v4,hdl,c3,hS,SB,seval,zCa,aOp,zB,aUn,reduceCtorEq,zFr,place,zTu,zRe]
          simp [vrd,c1',hk,hd,c2,paidS,daysS,hD,←hDd,minI,c3]
      ·simp only [n64,r64,g1,g7,g8,g9,g11,g12,g13,g14,hlt,encT,e0,Option.getD_some,hy0,w1,w2,w3,c1,hd.1,hd.2,hk,SB,seval,zCa,aOp,zB,aUn,reduceCtorEq,zFr,place,zTu,zRe]
       simp [vrd,c1',hk,hd]
     ·have hd':¬0≤x.del∨(0≤x.del∧¬x.del≤c.tm):=by omega
      rcases o2 with hk | hk
      ·rcases hd' with q | ⟨q,q'⟩
       ·simp only [n64,r64,g1,g7,g8,g9,g11,g12,g13,g14,hlt,encT,e0,Option.getD_some,hy0,w1,w2,w3,c1,q,hk,SB,seval,zCa,aOp,zB,aUn,reduceCtorEq,zFr,place,zTu,zRe]
        simp [vrd,c1',hk,hd]
       ·simp only [n64,r64,g1,g7,g8,g9,g11,g12,g13,g14,hlt,encT,e0,Option.getD_some,hy0,w1,w2,w3,c1,q,q',hk,SB,seval,zCa,aOp,zB,aUn,reduceCtorEq,zFr,place,zTu,zRe]
        simp [vrd,c1',hk,hd]
      ·by_cases c2:c.tm≤P.1+y.aft
       ·rcases hd' with q | ⟨q,q'⟩
        ·simp only [n64,r64,g1,g7,g8,g9,g11,g12,g13,g14,hlt,encT,e0,Option.getD_some,hy0,w1,w2,w4,c1,q,hk,c2,SB,seval,zCa,aOp,zB,aUn,reduceCtorEq,zFr,place,zTu,zRe]
         simp [vrd,c1',hk,hd,c2]
        ·simp only [n64,r64,g1,g7,g8,g9,g11,g12,g13,g14,hlt,encT,e0,Option.getD_some,hy0,w1,w2,w4,c1,q,q',hk,c2,SB,seval,zCa,aOp,zB,aUn,reduceCtorEq,zFr,place,zTu,zRe]
         simp [vrd,c1',hk,hd,c2]
       ·by_cases c3:c.val<y.lmt
        ·have c3':¬y.lmt<c.val:=by omega
         rcases hd' with q | ⟨q,q'⟩
         ·simp only [n64,r64,g1,g7,g8,g9,g11,g12,g13,g14,hlt,encT,e0,Option.getD_some,hy0,w1,w2,w4,w5,c1,q,hk,c2,c3,SB,seval,zCa,aOp,zB,aUn,reduceCtorEq,zFr,place,zTu,zRe]
          simp [vrd,c1',hk,hd,c2,paidS,minI,c3']
         ·simp only [n64,r64,g1,g7,g8,g9,g11,g12,g13,g14,hlt,encT,e0,Option.getD_some,hy0,w1,w2,w4,w5,c1,q,q',hk,c2,c3,SB,seval,zCa,aOp,zB,aUn,reduceCtorEq,zFr,place,zTu,zRe]
          simp [vrd,c1',hk,hd,c2,paidS,minI,c3']
        ·have c3':minI c.val y.lmt=y.lmt:=by unfold minI;split<;>omega
         rcases hd' with q | ⟨q,q'⟩
         ·simp only [n64,r64,g1,g7,g8,g9,g11,g12,g13,g14,hlt,encT,e0,Option.getD_some,hy0,w1,w2,w4,w6,c1,q,hk,c2,c3,SB,seval,zCa,aOp,zB,aUn,reduceCtorEq,zFr,place,zTu,zRe]
          simp [vrd,c1',hk,hd,c2,paidS,c3']
         ·simp only [n64,r64,g1,g7,g8,g9,g11,g12,g13,g14,hlt,encT,e0,Option.getD_some,hy0,w1,w2,w4,w6,c1,q,q',hk,c2,c3,SB,seval,zCa,aOp,zB,aUn,reduceCtorEq,zFr,place,zTu,zRe]
          simp [vrd,c1',hk,hd,c2,paidS,c3']
theorem refDecide_ok [OB] {mp:Bool} {lim:Nat} {pl pt ps:Option Addr} {l:List Std} {t:List Trm} {s:List Snt} {c:Clm} {k1 k2 k3:Nat} {H:zH} {Q:Value→zH→Prop}
  (hl:Sl H encS 4 pl l) (ht:Sl H encT 7 pt t) (hs:Sl H encN 6 ps s) (nl:l.length<2 ^ 62) (nt:t.length<2 ^ 62) (ns:s.length<2 ^ 62) (ul:∀x∈l,0≤x.cls) (ut:∀x∈t,0≤x.cls) (us:∀x∈s,0≤x.cls) (uc:0≤c.kind∧c.kind<256) :
  CallR E mp lim 48 [.slice pl l.length k1,.slice pt t.length k2,.slice ps s.length k3,.agg #[.int .i64 c.id,.int .i64 c.item,.int .i64 c.tm,.int .u8 c.kind,.int .i64 c.post,.int .i64 c.val]] H Q =
   Q (.tuple #[.agg (if checkS l t s [c]=0 then #[.int .i64 c.id,.int .i64 (decideS l t s c).1,.int .u8 (decideS l t s c).2] else #[.int .i64 0,.int .i64 0,.int .u8 0]),.int .i64 (checkS l t s [c])]) H:=by
 have hfl:flat 4 (.tuple #[.agg (if checkS l t s [c]=0 then #[.int .i64 c.id,.int .i64 (decideS l t s c).1,.int .u8 (decideS l t s c).2] else #[.int .i64 0,.int .i64 0,.int .u8 0]),.int .i64 (checkS l t s [c])])=true:=by
  split<;>rfl
 refine pc (by decide) e48 rfl hfl ?_
 rw [b48,c48]
 have hck:∀(mp:Bool) (lim:Nat) (b0 b1:Blk) (ro:Bool) (X:zH) (Q:Value→zH→Prop),CallR E mp lim 63 [.slice pl l.length k1,.slice pt t.length k2,.slice ps s.length k3,.slice (some ⟨H.length+2,0,none⟩) 1 1] (H++(b0::b1::.cells ro [.int .i64 c.id,.int .i64 c.item,.int .i64 c.tm,.int .u8 c.kind,.int .i64 c.post,.int .i64 c.val]::X)) Q =
   Q (.int .i64 (checkS l t s [c])) (H++(b0::b1::.cells ro [.int .i64 c.id,.int .i64 c.item,.int .i64 c.tm,.int .u8 c.kind,.int .i64 c.post,.int .i64 c.val]::X)):=by
  intro mp lim b0 b1 ro X Q
  exact refCheck_ok (c:=[c]) (hl.app _) (ht.app _) (hs.app _) (Sl.lit encC_len (by rw [zHw];rfl) (by rw [zHw];rfl)) nl nt ns (by simp) ul ut us (by simpa using uc)
 by_cases h0:checkS l t s [c]=0
 ·obtain ⟨r1,r2,r3,r4⟩:=checkS_ok h0
  obtain ⟨o1,o2⟩:=rightC_one r4
  have hv:=fun mp lim X Q=>verdict_ok (mp:=mp) (lim:=lim) (k1:=k1) (k2:=k2) (k3:=k3) (c:=c) (Q:=Q) (hl.app X) (ht.app X) (hs.app X) nl nt ns ul r1 r2 r3 o1 o2
  simp only [n48,r48,hck,h0,hv,SB,seval,zCa,aOp,zB,aUn,reduceCtorEq,zFr,place,zTu,zRe]
 ·simp only [n48,r48,hck,h0,SB,seval,zCa,aOp,zB,aUn,reduceCtorEq,zFr,place,zTu,zRe]
theorem same_ok [OB] {mp:Bool} {lim:Nat} {a1 a2 a3 b1 b2 b3:Int} {H:zH} {Q:Value→zH→Prop} :
  CallR E mp lim 47 [.agg #[.int .i64 a1,.int .i64 a2,.int .u8 a3],.agg #[.int .i64 b1,.int .i64 b2,.int .u8 b3]] H Q=Q (.bool (decide (a1=b1∧a2=b2∧a3=b3))) H:=by
 refine pc (by decide) e47 rfl rfl ?_
 rw [b47,c47]
 simp only [n47,r47,SB,seval,zCa,aOp,zB,aUn,reduceCtorEq,zFr,place,zTu,zRe]
 repeat' ((first | refine wantK_dec (fun hw=>?_) (fun hw=>?_) | refine condK_dec (fun hw=>?_) (fun hw=>?_) | refine wantK_any (fun hw=>?_) (fun hw=>?_) | refine condK_any (fun hw=>?_) (fun hw=>?_))<;>(try simp only [hw,n47,r47,SB,Nat.reduceLT,zCa,aOp,Nat.reduceEqDiff,zB,aUn,reduceCtorEq,zFr,place,zTu,Nat.reduceAdd,Nat.reduceLeDiff,zRe,Int.reduceEq,Int.reduceLT,Int.reduceLE]))
 all_goals simp [*]
end Go.Proofs.Ytlmoijifgbkapaa.Fn

namespace Go.Proofs.Ytlmoijifgbkapaa.Fn
open Go.AM Go.AM.Sym Go.Sort
def encO (x:Int×Int×Int):List Value:=[.int .i64 x.1,.int .i64 x.2.1,.int .u8 x.2.2]
theorem encO_len (x:Int×Int×Int):(encO x).length=3:=rfl
def outO (l:List Std) (t:List Trm) (s:List Snt) (paid:List Int) (x:Clm):Int×Int×Int:=
 if (decideS l t s x).2≠1∧x.item∈paid then (x.id,0,7) else (x.id,(decideS l t s x).1,(decideS l t s x).2)
def paidN (l:List Std) (t:List Trm) (s:List Snt) (paid:List Int) (x:Clm):List Int:=if (outO l t s paid x).2.2=6 then paid++[x.item] else paid
def paidA (l:List Std) (t:List Trm) (s:List Snt) (d:List Clm):List Int:=d.foldl (paidN l t s) []
def goO (l:List Std) (t:List Trm) (s:List Snt):List Int→List Clm→List (Int×Int×Int)
 | _,[]=>[]
 | paid,x::r=>outO l t s paid x::goO l t s (paidN l t s paid x) r
theorem goO_snoc {l:List Std} {t:List Trm} {s:List Snt} {x:Clm}:∀(a:List Clm) (p:List Int),goO l t s p (a++[x])=goO l t s p a++[outO l t s (a.foldl (paidN l t s) p) x]
 | [],p=>rfl
 | y::a,p=>by rw [List.cons_append,goO,goO_snoc a];rfl
theorem goO_len {l:List Std} {t:List Trm} {s:List Snt}:∀(a:List Clm) (p:List Int),(goO l t s p a).length=a.length
 | [],p=>rfl
 | y::a,p=>by rw [goO,List.length_cons,goO_len a,List.length_cons]
theorem rightC_mem {c:List Clm} (h:rightC c=true) {x:Clm} (hx:x∈c):okC x=true∧(x.kind=1∨x.kind=2):=by
 unfold rightC at h
 simp only [Bool.and_eq_true] at h
 obtain ⟨i,hi,rfl,h2⟩:=allFrom_mem h.2 hx
 simp only [okCAt,Bool.and_eq_true,decide_eq_true_eq] at h2
 exact ⟨h2.2,h2.1.1⟩
theorem rightC_ids {c:List Clm} (h:rightC c=true):c.Pairwise (fun a b=>a.id≠b.id):=by
 unfold rightC at h
 simp only [Bool.and_eq_true] at h
 rw [List.pairwise_iff_getElem]
 intro i j hi hj hij he
 have h2:=allFrom_iff.1 h.2 j (Nat.zero_le _) hj
 simp only [okCAt,Bool.and_eq_true,zGl hj,Bool.not_eq_true',List.contains_eq_mem,decide_eq_false_iff_not] at h2
 refine h2.1.2 ?_
 rw [←he]
 exact List.mem_map.2 ⟨c[i],List.mem_iff_getElem.2 ⟨i,by rw [List.length_take];omega,by simp⟩,rfl⟩
theorem Ext_set {H G:zH} (h:Ext H G) {i:Nat} {b:Blk} (hi:H.length≤i):Ext H (G.set i b):=by
 obtain ⟨X,rfl⟩:=h
 exact ⟨X.set (i-H.length) b,by rw [List.set_append_right _ _ hi]⟩
theorem order_ok [OB] {lim:Nat} {c:List Clm} {H:zH} (hlim:lim≤H.length) (hr:rightC c=true) (hn:c.length≤500) :
  ∃(d:List Clm) (G:zH),d.Perm c∧d.Pairwise Lt∧Ext H G∧zG G (H.length+1)=.cells false (d.flatMap encC)∧H.length+1<G.length∧
   ∀Q,CallR E false lim 50 [.slice (some ⟨H.length+1,0,none⟩) c.length (loose 6),.func (.func 51) #[] #[]] (H++[.cells false [],.cells false (c.flatMap encC)]) Q=Q (.tuple #[]) (G++[]):=by
 obtain ⟨h2,h3⟩:=Srt.sortN_ok cmpC_swo c
 have h1:(Srt.sortN cmpC c).toArray.size=c.length:=by rw [List.size_toArray];exact Srt.sortN_len cmpC_swo c
 have hp':(Srt.sortN cmpC c).Perm c:=perm_list (d:=c.toArray) (n:=c.length) (by simp) h2
 have hB:zG (H++[Blk.cells false [],Blk.cells false (c.flatMap encC)]) (H.length+1)=.cells false (c.flatMap encC):=by rw [zHw];rfl
 refine ⟨Srt.sortN cmpC c,(H++[Blk.cells false [],Blk.cells false (c.flatMap encC)]).set (H.length+1) (Blk.cells false ((Srt.sortN cmpC c).flatMap encC)),hp', ?_, ?_, ?_, ?_, ?_⟩
 ·refine sorted_list h1 h3 ?_
  exact (hp'.pairwise_iff (fun h e=>h e.symm)).2 (rightC_ids hr)
 ·exact Ext_set Ext.refl.app (by omega)
 ·exact hget_set_eq (by simp)
 ·simp
 ·intro Q
  rw [List.append_nil]
  exact Srt.sort_ok at50 cmpC_c (cs:=[]) hB (by omega) (by omega)
theorem Settle_bad [OB] {lim:Nat} {pl pt ps pc:Option Addr} {l:List Std} {t:List Trm} {s:List Snt} {c:List Clm} {k1 k2 k3 k4:Nat} {H:zH} (hl:Sl H encS 4 pl l) (ht:Sl H encT 7 pt t) (hs:Sl H encN 6 ps s) (hc:Sl H encC 6 pc c) (nl:l.length<2 ^ 62) (nt:t.length<2 ^ 62) (ns:s.length<2 ^ 62) (nc:c.length<2 ^ 62) (h0:¬checkS l t s c=0) {Q:Value→zH→Prop}:CallR E false lim 25 [.slice pl l.length k1,.slice pt t.length k2,.slice ps s.length k3,.slice pc c.length k4] H Q=Q (.tuple #[.slice none 0 0,.int .i64 (checkS l t s c)]) H:=by
 refine runs (by decide) e25 rfl ?_
 rw [b25,c25]
 refine zRp ?_
 have hck:=fun mp lim X Q=>check_ok (mp:=mp) (lim:=lim) (k1:=k1) (k2:=k2) (k3:=k3) (k4:=k4) (Q:=Q) (hl.app X) (ht.app X) (hs.app X) (hc.app X) nl nt ns nc
 simp only [n25,r25,hck,h0,SB,seval,zCa,aOp,zB,aUn,reduceCtorEq,zFr,place,zTu,zRe]
 exact List.append_nil _
theorem Settle_run [OB] {lim:Nat} {pl pt ps pc:Option Addr} {l:List Std} {t:List Trm} {s:List Snt} {c:List Clm} {k1 k2 k3 k4:Nat} {H:zH} (hl:Sl H encS 4 pl l) (ht:Sl H encT 7 pt t) (hs:Sl H encN 6 ps s) (hc:Sl H encC 6 pc c) (nl:l.length<2 ^ 62) (nt:t.length<2 ^ 62) (ns:s.length<2 ^ 62) (nc:c.length<2 ^ 62) (hlim:lim≤H.length) (h0:checkS l t s c=0) (hpn:c≠[]→pc≠none) (hc0:c≠[]) :
  ∃(d:List Clm) (p:Option Addr) (Y:zH),d.Perm c∧d.Pairwise Lt∧Sl (H++Y) encO 3 p (goO l t s [] d)∧(p=none→d=[])∧∀Q,CallR E false lim 25 [.slice pl l.length k1,.slice pt t.length k2,.slice ps s.length k3,.slice pc c.length k4] H Q=Q (.tuple #[.slice p c.length c.length,.int .i64 0]) (H++Y):=by
 obtain ⟨r1,r2,r3,r4⟩:=checkS_ok h0
 have hn:c.length≤500:=by
  unfold rightC at r4
  simp only [Bool.and_eq_true,decide_eq_true_eq] at r4
  exact r4.1
 obtain ⟨d,G1,hp,hlt,hE1,hB1,hBl,hsort⟩:=order_ok hlim r4 hn
 have hdl:d.length=c.length:=hp.length_eq
 have key:CallR E false lim 25 [.slice pl l.length k1,.slice pt t.length k2,.slice ps s.length k3,.slice pc c.length k4] H (fun v H'=>v=.tuple #[.slice (some ⟨G1.length+1,0,none⟩) c.length c.length,.int .i64 0]∧Ext H H'∧Sl H' encO 3 (some ⟨G1.length+1,0,none⟩) (goO l t s [] d)):=by
  rw [CallR_run (E:=E) (g:=25) (af:=a25) (by simp [E,orc,OA.srtN]) e25 rfl rfl]
  rw [b25,c25]
  refine zRp ?_
  have hck:=fun mp lim X Q=>check_ok (mp:=mp) (lim:=lim) (k1:=k1) (k2:=k2) (k3:=k3) (k4:=k4) (Q:=Q) (hl.app X) (ht.app X) (hs.app X) (hc.app X) nl nt ns nc
  have hcl:∀Q,CallR E false lim 49 [.slice pc c.length k4] (H++[]) Q=Q (.slice (some ⟨H.length+1,0,none⟩) c.length (loose 6)) (H++[.cells false [],.cells false (c.flatMap encC)]):=fun Q=>by rw [List.append_nil];exact clone_ok hc hpn hc0 hn
  have q1:0≤(c.length:Int):=by omega
  have q2:(c.length:Int)*24≤35184372088832:=by omega
  have q3:(c.length:Int)<4611686018427387904:=by omega
  simp only [n25,r25,hck,h0,hcl,hsort,q1,q2,q3,and_self,if_true,Int.toNat_natCast,Int.toNat_zero,SB,seval,zCa,aOp,zB,aUn,reduceCtorEq,zFr,place,zTu,zRe]
  generalize hz:(List.map (fun j=>[Value.int IntKind.i64 0,Value.int IntKind.i64 0,Value.int IntKind.u8 0].getD (j % 3) undef) (List.range (c.length*3)))=z
  have hzl:z.length=c.length*3:=by rw [←hz];simp
  refine zRr (fun i=>c.length-i) (fun i fr G=>i≤c.length∧fr 0=.slice pl l.length k1∧fr 1=.slice pt t.length k2∧fr 2=.slice ps s.length k3∧fr 12=.map (some G1.length)∧fr 13=.slice (some ⟨G1.length+1,0,none⟩) i c.length∧
   fr 33=.slice (some ⟨H.length+1,0,none⟩) c.length (loose 6)∧fr 34=.int .i64 (c.length:Int)∧fr 35=.int .i64 (i:Int)∧Ext G1 G∧G1.length+1<G.length∧
   zG G G1.length=.map (metMap (paidA l t s (d.take i)))∧∃rest,rest.length=(c.length-i)*3∧zG G (G1.length+1)=.cells false ((goO l t s [] (d.take i)).flatMap encO++rest))
   0 ⟨Nat.zero_le _,(by rfl),(by rfl),(by rfl),(by rfl),(by rfl),(by rfl),(by rfl),by rfl,Ext.refl.app,by simp,zHn,z,hzl,zHw⟩ ?_
  intro i fr G ⟨hi,g0,g1,g2,g12,g13,g33,g34,g35,hE2,hL,hM,rest,hrl,hR⟩ hN
  rw [zRc l25_1.eq_1]
  refine zRp ?_
  by_cases hlt':i<c.length
  ·have hid:i<d.length:=by omega
   have hE:Ext H G:=hE1.trans hE2
   have hxc:gt d i∈c:=hp.subset (gt_mem hid)
   obtain ⟨o1,o2⟩:=rightC_mem r4 hxc
   have hBG:Sl G encC 6 (some ⟨H.length+1,0,none⟩) d:=hE2.sl (Sl.lit encC_len (by rw [hB1];rfl) (by rw [hB1];rfl))
   have hld:=fun X=>(hBG.app X).loadCells encC_len hid
   have hidx:∀k (kk:IntKind) (H1:zH),idxK 6 (.slice (some ⟨H.length+1,0,none⟩) c.length k) (.int kk (i:Int)) H1=some (.pointer (some (elt (some ⟨H.length+1,0,none⟩) 6 i)),H1):=fun k kk H1=>by rw [←hdl];exact hBG.idx hid
   have hw1:IntKind.i64.wrap ((i:Int)+1)=((i+1:Nat):Int):=zWn (by omega)
   have hfo:=file_ok (gt d i) r1 r2 r3
   have ho:=fun mp lim X Q=>open_ok (mp:=mp) (lim:=lim) (k1:=k1) (k2:=k2) (k3:=k3) (c:=gt d i) (Q:=Q) ((hE.sl hl).app X) ((hE.sl ht).app X) ((hE.sl hs).app X) nl nt ns r1 (fun x hx=>by
    have:=(rightN_mem r3 hx).1
    simp only [okN,allIn,inB,Bool.and_eq_true,decide_eq_true_eq,Bool.and_true] at this
    omega)
   have hd:=fun mp lim X Q=>decide_ok (mp:=mp) (lim:=lim) (H:=G++X) (Q:=Q) (c:=gt d i) (x:=(fileS l t s (gt d i)).x) (y:=(fileS l t s (gt d i)).y) (p:=(fileS l t s (gt d i)).p) (kn:=(fileS l t s (gt d i)).kn) (ht:=(fileS l t s (gt d i)).ht) (la:=decide ((gt d i).kind=1)) (lo:=decide ((gt d i).kind=2)) (dn:=(fileS l t s (gt d i)).dn) (n:=paidS (gt d i) (fileS l t s (gt d i)))
    (fun h mp lim H Q=>paid_of o1 o2 hfo (h 0) ⟨rfl,rfl,rfl,rfl⟩)
   rw [decF_vrd o1 o2 hfo] at hd
   have htk:d.take (i+1)=d.take i++[gt d i]:=by rw [List.take_succ_eq_append_getElem hid,zGl hid]
   have hpa:paidA l t s (d.take (i+1))=paidN l t s (paidA l t s (d.take i)) (gt d i):=by rw [htk,paidA,List.foldl_append];rfl
   have hgo:goO l t s [] (d.take (i+1))=goO l t s [] (d.take i)++[outO l t s (paidA l t s (d.take i)) (gt d i)]:=by rw [htk,goO_snoc];rfl
   have hgl:((goO l t s [] (d.take i)).flatMap encO).length=i*3:=by rw [flat_len encO_len,goO_len,List.length_take,Nat.min_eq_left (by omega)]
   have hlit':(i:Int)<(c.length:Int):=by omega
   have hLL:lim≤G1.length:=by have:=hE1.len;omega
   have hlG:lim≤G.length:=by omega
   have hM':∀X,zG (G++X) G1.length=.map (metMap (paidA l t s (d.take i))):=fun X=>by rw [zHo (by omega)];exact hM
   simp only [show decideS l t s (gt d i)=vrd (gt d i) (fileS l t s (gt d i)) from rfl,outO,paidN] at hpa hgo
   generalize hv:vrd (gt d i) (fileS l t s (gt d i))=v at hd hpa hgo
   have happ:∀(K:zH) (o:Int×Int×Int),zG K (G.length+2)=.cells false (encO o)→zG K (G1.length+1)=.cells false ((goO l t s [] (d.take i)).flatMap encO++rest)→
     zAa lim none 3 24 false (.slice (some ⟨G1.length+1,0,none⟩) i c.length) (.slice (some ⟨G.length+2,0,none⟩) 1 1) K=some (.slice (some ⟨G1.length+1,0,none⟩) (i+1) c.length,K.set (G1.length+1) (.cells false ((goO l t s [] (d.take i)++[o]).flatMap encO++rest.drop 3))):=by
    intro K o k1 k2
    rw [append_room k1 k2 (by omega) hlt' hgl hrl (encO_len o) (by decide) (by decide) (by omega) (by unfold maxBytes;omega)]
    simp only [List.flatMap_append,List.flatMap_cons,List.flatMap_nil,List.append_nil]
   have hdrop:(rest.drop 3).length=(c.length-(i+1))*3:=by rw [List.length_drop,hrl];omega
   by_cases c1:v.2=1
   ·have c6:¬v.2=6:=by omega
    rw [if_neg (by simp [c1])] at hgo
    rw [if_neg (by rw [if_neg (by simp [c1])];exact c6)] at hpa
    have happ':=fun b0 b1=>happ (G++[b0,b1,.cells false [.int .i64 (gt d i).id,.int .i64 v.1,.int .u8 1]]) ((gt d i).id,v.1,1) (by rw [zHw];rfl) (by rw [zHo (by omega)];exact hR)
    rw [c1] at hgo
    simp only [n25,r25,g0,g1,g2,g12,g13,g33,g34,g35,hlt',hidx,hld,encC,hw1,ho,hd,c1,c6,hlG,happ',SB,seval,zCa,aOp,zB,aUn,reduceCtorEq,zFr,place,zTu,zRe]
    refine hN (i+1) _ _ ⟨by omega,(by exact g0),(by exact g1),(by exact g2),(by exact g12),(by rfl),(by exact g33),(by exact g34),(by rfl),Ext_set hE2.app (by omega),by simp;omega, ?_,rest.drop 3,hdrop, ?_⟩ (by omega)
    ·rw [zHs (by omega),hM',hpa]
    ·rw [hget_set_eq (by simp;omega),hgo]
   have c1':(v.2 != 1)=true:=by simpa using c1
   by_cases hm:(gt d i).item∈paidA l t s (d.take i)
   ·obtain ⟨j,hj⟩:=met_yes (i:=0) hm
    rw [if_pos ⟨c1,hm⟩] at hgo
    rw [if_neg (by rw [if_pos ⟨c1,hm⟩];exact (by decide:¬(7:Int)=6))] at hpa
    have happ':=fun b0 b1=>happ (G++[b0,b1,.cells false [.int .i64 (gt d i).id,.int .i64 0,.int .u8 7]]) ((gt d i).id,0,7) (by rw [zHw];rfl) (by rw [zHo (by omega)];exact hR)
    simp only [n25,r25,g0,g1,g2,g12,g13,g33,g34,g35,hlt',hidx,hld,encC,hw1,ho,hd,c1,hlG,happ',hM',hj,SB,seval,zCa,aOp,zB,aUn,reduceCtorEq,zFr,place,zTu,zRe]
    refine hN (i+1) _ _ ⟨by omega,(by exact g0),(by exact g1),(by exact g2),(by exact g12),(by rfl),(by exact g33),(by exact g34),(by rfl),Ext_set hE2.app (by omega),by simp;omega, ?_,rest.drop 3,hdrop, ?_⟩ (by omega)
    ·rw [zHs (by omega),hM',hpa]
    ·rw [hget_set_eq (by simp;omega),hgo]
   ·have hj:=met_no (i:=0) hm
    rw [if_neg (by simp [hm])] at hgo
    rw [if_neg (show ¬(v.2≠1∧(gt d i).item∈paidA l t s (d.take i)) by simp [hm])] at hpa
    by_cases c6:v.2=6
    ·rw [if_pos (show ((gt d i).id,v.1,v.2).2.2=6 from c6)] at hpa
     rw [c6] at hgo
     have hset:∀X,(G++X).set G1.length (.map (metMap (paidA l t s (d.take i)++[(gt d i).item])))=G.set G1.length (.map (metMap (paidA l t s (d.take i)++[(gt d i).item])))++X:=fun X=>List.set_append_left _ _ (by omega)
     have hsl:(G.set G1.length (.map (metMap (paidA l t s (d.take i)++[(gt d i).item])))).length=G.length:=by simp
     have hsm:zG (G.set G1.length (.map (metMap (paidA l t s (d.take i)++[(gt d i).item])))) G1.length=.map (metMap (paidA l t s (d.take i)++[(gt d i).item])):=hget_set_eq (by omega)
     have hsr:zG (G.set G1.length (.map (metMap (paidA l t s (d.take i)++[(gt d i).item])))) (G1.length+1)=.cells false ((goO l t s [] (d.take i)).flatMap encO++rest):=by rw [zHs (by omega)];exact hR
     have hsE:Ext G1 (G.set G1.length (.map (metMap (paidA l t s (d.take i)++[(gt d i).item])))):=Ext_set hE2 (by omega)
     generalize G.set G1.length (.map (metMap (paidA l t s (d.take i)++[(gt d i).item])))=Gs at hset hsl hsm hsr hsE
     have hgn:∀X j,zG (Gs++X) (G.length+j)=X.getD j .dead:=fun X j=>by rw [←hsl];exact zHw
     have happ':=fun b0 b1=>happ (Gs++[b0,b1,.cells false [.int .i64 (gt d i).id,.int .i64 v.1,.int .u8 6]]) ((gt d i).id,v.1,6) (by rw [hgn];rfl) (by rw [zHo (by omega)];exact hsr)
     simp only [n25,r25,g0,g1,g2,g12,g13,g33,g34,g35,hlt',hidx,hld,encC,hw1,ho,hd,c1,c6,hlG,hM',hj,hLL,met_add,hset,hsl,hgn,happ',SB,seval,zCa,aOp,zB,aUn,reduceCtorEq,zFr,place,zTu,zRe]
     refine hN (i+1) _ _ ⟨by omega,(by exact g0),(by exact g1),(by exact g2),(by exact g12),(by rfl),(by exact g33),(by exact g34),(by rfl),Ext_set hsE.app (by omega),by simp;omega, ?_,rest.drop 3,hdrop, ?_⟩ (by omega)
     ·rw [zHs (by omega),zHo (by omega),hpa];exact hsm
     ·rw [hget_set_eq (by simp;omega),hgo]
    ·rw [if_neg (show ¬((gt d i).id,v.1,v.2).2.2=6 from c6)] at hpa
     have happ':=fun b0 b1=>happ (G++[b0,b1,.cells false [.int .i64 (gt d i).id,.int .i64 v.1,.int .u8 v.2]]) ((gt d i).id,v.1,v.2) (by rw [zHw];rfl) (by rw [zHo (by omega)];exact hR)
     simp only [n25,r25,g0,g1,g2,g12,g13,g33,g34,g35,hlt',hidx,hld,encC,hw1,ho,hd,c1,c6,hlG,happ',hM',hj,SB,seval,zCa,aOp,zB,aUn,reduceCtorEq,zFr,place,zTu,zRe]
     refine hN (i+1) _ _ ⟨by omega,(by exact g0),(by exact g1),(by exact g2),(by exact g12),(by rfl),(by exact g33),(by exact g34),(by rfl),Ext_set hE2.app (by omega),by simp;omega, ?_,rest.drop 3,hdrop, ?_⟩ (by omega)
     ·rw [zHs (by omega),hM',hpa]
     ·rw [hget_set_eq (by simp;omega),hgo]
  ·obtain rfl:i=c.length:=by omega
   clear hN
   rw [show d.take c.length=d by rw [←hdl,List.take_length]] at hR
   have hr0:rest=[]:=List.length_eq_zero_iff.1 (by rw [hrl];simp)
   rw [hr0,List.append_nil] at hR
   simp only [n25,r25,g0,g1,g2,g12,g13,g33,g34,g35,hlt',SB,seval,zCa,aOp,zB,aUn,reduceCtorEq,zFr,place,zTu,zRe]
   exact ⟨(hE1.trans hE2).app,Sl.lit encO_len (by rw [zHo (by omega),hR];rfl) (by rw [zHo (by omega),hR];rfl)⟩
 obtain ⟨k,v,H',hx,rfl,⟨Y,rfl⟩,hs'⟩:=CallR.one key
 exact ⟨d,_,Y,hp,hlt,hs',(fun h=>by cases h),fun Q=>CallR.det hx⟩
end Go.Proofs.Ytlmoijifgbkapaa.Fn

