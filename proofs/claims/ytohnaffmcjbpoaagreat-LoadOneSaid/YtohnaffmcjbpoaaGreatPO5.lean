/-
  Joined texts, 5 of 9. A part of the claim that the last text states.
-/
import Derived.ProofKit
import Derived.Deep.Slices
import Derived.OpenShut
import Derived.Test.YtohnaffmcjbpoaaGreatPO4
set_option linter.unusedVariables false
set_option linter.unusedSimpArgs false
set_option linter.defProp false
set_option linter.unusedSectionVars false
set_option maxRecDepth 100000
set_option maxHeartbeats 4000000
namespace Go.AM
open Go.ChangeShapes Go.WideShapes Go.ChangeAt Go.RowKit
inductive Ty where
 | int (k:IntKind) | bool | str | slice (t:Ty) | arr (n:Nat) (t:Ty) | nil | pair (a b:Ty)
def Ty.size:Ty→Nat
 | .nil=>0
 | .arr n t=>n*t.size
 | .pair a b=>a.size+b.size
 | _=>1
abbrev Ty.den:Ty→Type
 | .int _=>Int
 | .bool=>Bool
 | .str=>ByteArray
 | .slice t=>List t.den
 | .arr _ t=>List t.den
 | .nil=>Unit
 | .pair a b=>a.den×b.den
def Rep:(t:Ty)→zH→t.den→List Value→Prop
 | .int k,_,n,cs=>cs=[.int k n]∧k.min≤n∧n≤k.max
 | .bool,_,b,cs=>cs=[.bool b]
 | .str,_,s,cs=>cs=[.string s]∧s.size≤maxLen
 | .slice t,H,l,cs=>l.length≤maxLen∧∃p cap,cs=[.slice p l.length cap]∧(p=none→l=[]∧cap=0)∧
   ∀a,p=some a→a.spot=none∧a.off=0∧cap=loose t.size∧(l≠[]→∃es:List (List Value),zG H a.block=.cells true es.flatten∧es.length=l.length∧∀(i:Nat) x e,l[i]? = some x→es[i]? = some e→Rep t H x e)
 | .arr n t,H,l,cs=>∃es:List (List Value),cs=es.flatten∧es.length=n∧l.length=n∧∀(i:Nat) x e,l[i]? = some x→es[i]? = some e→Rep t H x e
 | .nil,_,_,cs=>cs=[]
 | .pair a b,H,x,cs=>∃c1 c2,cs=c1++c2∧Rep a H x.1 c1∧Rep b H x.2 c2
theorem Rep.app:∀{t:Ty} {H:zH} {x:t.den} {cs:List Value} (_:Rep t H x cs) (X:zH),Rep t (H++X) x cs
 | .int _,_,_,_,h,_=>h
 | .bool,_,_,_,h,_=>h
 | .str,_,_,_,h,_=>h
 | .nil,_,_,_,h,_=>h
 | .pair a b,_,_,_,⟨c1,c2,e,h1,h2⟩,X=>⟨c1,c2,e,h1.app X,h2.app X⟩
 | .arr n t,H,l,cs,⟨es,e,h1,h2,h3⟩,X=>⟨es,e,h1,h2,fun i x c hx hc=>(h3 i x c hx hc).app X⟩
 | .slice t,H,l,cs,⟨h0,p,cap,e,h1,h2⟩,X=>by
   refine ⟨h0,p,cap,e,h1,fun a ha=>?_⟩
   obtain ⟨k1,k2,k3,k4⟩:=h2 a ha
   refine ⟨k1,k2,k3,fun hl=>?_⟩
   obtain ⟨es,m1,m2,m3⟩:=k4 hl
   exact ⟨es,by rw [zHo (zHa m1)];exact m1,m2,fun i x e hx he=>(m3 i x e hx he).app X⟩
theorem flatten_len {k:Nat}:∀{es:List (List Value)},(∀e∈es,e.length=k)→es.flatten.length=es.length*k
 | [],_=>by simp
 | e::es,h=>by
   rw [List.flatten_cons,List.length_append,h e (by simp),flatten_len (fun x hx=>h x (by simp [hx])),List.length_cons,Nat.succ_mul];omega
theorem Rep.len:∀{t:Ty} {H:zH} {x:t.den} {cs:List Value} (_:Rep t H x cs),cs.length=t.size
 | .int _,_,_,_,h=>by rw [h.1];rfl
 | .bool,_,_,_,h=>by simp only [Rep] at h;rw [h];rfl
 | .str,_,_,_,h=>by rw [h.1];rfl
 | .nil,_,_,_,h=>by simp only [Rep] at h;rw [h];rfl
 | .pair a b,_,_,_,⟨c1,c2,e,h1,h2⟩=>by rw [e,List.length_append,h1.len,h2.len];rfl
 | .slice t,H,l,cs,⟨h0,p,cap,e,h1,h2⟩=>by rw [e];rfl
 | .arr n t,H,l,cs,⟨es,e,h1,h2,h3⟩=>by
   rw [e,flatten_len (k:=t.size),h1];· rfl
   intro c hc
   obtain ⟨i,hi,rfl⟩:=List.mem_iff_getElem.1 hc
   exact (h3 i _ _ (List.getElem?_eq_getElem (by omega)) (List.getElem?_eq_getElem hi)).len
section
variable {w:World} {Pg:Prg} {W:Nat→Prop} {lim:Nat}
def NoOwn (H:zH):Prop:=∀(i:Nat) b,H[i]? = some b→zd7 b=false
theorem NoOwn.snoc {H:zH} (h:NoOwn H) {b:Blk} (hb:zd7 b=false):NoOwn (H++[b]):=by
 intro i x hx
 by_cases hi:i<H.length
 ·rw [List.getElem?_append_left hi] at hx;exact h i x hx
 ·rw [List.getElem?_append_right (by omega)] at hx
  have:=(List.getElem?_eq_some_iff.1 hx).1
  have e:i-H.length=0:=by simp at this;omega
  rw [e] at hx;simp at hx;subst hx;exact hb
def zb0 (Pg:Prg) (W:Nat→Prop) (lim:Nat) (w:World) (t:Ty) (cs:List Value):Prop:=
 ∀σ H,Inv Pg W lim σ H w→NoOwn H→∃X σ' as x,Inv Pg W lim σ' (H++X) w∧NoOwn (H++X)∧Sig.le σ σ'∧zLr σ' as cs∧Rep t (H++X) x as∧∀v∈cs,v.oneCell'=true
theorem zb0.atom1 {t:Ty} {v:Value} {x:t.den} (hv:atom v=true) (ho:v.oneCell'=true) (hr:∀H,Rep t H x [v]):zb0 Pg W lim w t [v]:=fun σ H h hn=>
 ⟨[],σ,[v],x,by simpa using h,by simpa using hn,Sig.le_refl _,zLr.cons (.atom hv) zLr.nil,hr _,fun u hu=>by simp at hu;subst hu;exact ho⟩
theorem zb0.int {k:IntKind} {n:Int} (h:(Lit.int k n).wf=true):zb0 Pg W lim w (.int k) [.int k n]:=by
 refine zb0.atom1 (x:=n) rfl rfl fun H=>⟨rfl, ?_⟩
 simpa [Lit.wf] using h
theorem zb0.bool {b:Bool}:zb0 Pg W lim w .bool [.bool b]:=zb0.atom1 (t:=.bool) (x:=b) rfl rfl fun H=>rfl
theorem zb0.str {s:ByteArray} (h:s.size≤maxLen):zb0 Pg W lim w .str [.string s]:=zb0.atom1 (t:=.str) (x:=s) rfl rfl fun H=>⟨rfl,h⟩
theorem zb0.nil:zb0 Pg W lim w .nil []:=fun σ H h hn=>⟨[],σ,[],(),by simpa using h,by simpa using hn,Sig.le_refl _,zLr.nil,rfl,fun u hu=>by simp at hu⟩
theorem zb0.pair {a b:Ty} {c1 c2:List Value} (h1:zb0 Pg W lim w a c1) (h2:zb0 Pg W lim w b c2):zb0 Pg W lim w (.pair a b) (c1++c2):=by
 intro σ H h hn
 obtain ⟨X,σ1,as,x,k1,k1',k2,k3,k4,k5⟩:=h1 σ H h hn
 obtain ⟨Y,σ2,bs,y,m1,m1',m2,m3,m4,m5⟩:=h2 σ1 _ k1 k1'
 refine ⟨X++Y,σ2,as++bs,(x,y),by rw [←List.append_assoc];exact m1,by rw [←List.append_assoc];exact m1',Sig.le_trans k2 m2,zLr.append (k3.mono m2) m3,⟨as,bs,rfl, ?_, ?_⟩,fun v hv=>?_⟩
 ·rw [←List.append_assoc];exact k4.app Y
 ·rw [←List.append_assoc];exact m4
 ·rcases List.mem_append.1 hv with hv | hv
  ·exact k5 v hv
  ·exact m5 v hv
def sigAt (σ:Sig) (n:Nat) (L:Loc):Sig:=fun i=>if i=n then some L else σ i
theorem sigAt_same {σ:Sig} {n:Nat} {L:Loc}:sigAt σ n L n=some L:=if_pos rfl
theorem sigAt_ne {σ:Sig} {n i:Nat} {L:Loc} (h:i≠n):sigAt σ n L i=σ i:=if_neg h
theorem Inv.snoc {σ:Sig} {H:zH} (h:Inv Pg W lim σ H w) (hn:NoOwn H) (L:Loc) (b:Blk) (hb:zd7 b=false) (hr:BlkRel Pg (sigAt σ H.length L) w L b) :
  Inv Pg W lim (sigAt σ H.length L) (H++[b]) w∧Sig.le σ (sigAt σ H.length L):=by
 have hle:Sig.le σ (sigAt σ H.length L):=by
  intro i K hi
  have:=h.lt hi
  rw [sigAt_ne (by omega)];exact hi
 have hno:=hn.snoc hb
 refine ⟨⟨?_,fun i j bi bj Li Lj hi hj hne ho=>?_,fun i x K hx ho=>?_,h.fresh,fun i hi=>?_⟩,hle⟩
 ·intro i x hx ha
  by_cases hi:i<H.length
  ·rw [List.getElem?_append_left hi] at hx
   obtain ⟨K,h1,h2⟩:=h.blk i x hx ha
   exact ⟨K,hle i K h1,h2.mono hle fun _=>rfl⟩
  ·rw [List.getElem?_append_right (by omega)] at hx
   have:=(List.getElem?_eq_some_iff.1 hx).1
   have e:i=H.length:=by simp at this;omega
   subst e
   rw [Nat.sub_self] at hx;simp at hx;subst hx
   exact ⟨L,sigAt_same,hr⟩
 ·rw [hno i bi hi] at ho;cases ho
 ·rw [hno i x hx] at ho;cases ho
 ·simp at hi
  rw [sigAt_ne (by omega)]
  exact h.dom i (by omega)
theorem opens_elems {t:Ty} {n:Nat} {cs:Nat→List Value} (hel:∀i,i<n→zb0 Pg W lim w t (cs i)) {σ:Sig} {H:zH} (h:Inv Pg W lim σ H w) (hn:NoOwn H) :
  ∃X σ',∃es:List (List Value),∃xs:List t.den,Inv Pg W lim σ' (H++X) w∧NoOwn (H++X)∧Sig.le σ σ'∧es.length=n∧xs.length=n∧
   ∀(i:Nat) x e,xs[i]? = some x→es[i]? = some e→Rep t (H++X) x e∧zLr σ' e (cs i)∧∀v∈cs i,v.oneCell'=true:=by
 induction n with
 | zero=>exact ⟨[],σ,[],[],by simpa using h,by simpa using hn,Sig.le_refl _,rfl,rfl,fun i x e hx=>by simp at hx⟩
 | succ n ih=>
   obtain ⟨X,σ1,es,xs,k1,k2,k3,k4,k5,k6⟩:=ih fun i hi=>hel i (by omega)
   obtain ⟨Y,σ2,as,x,m1,m2,m3,m4,m5,m6⟩:=hel n (by omega) σ1 _ k1 k2
   refine ⟨X++Y,σ2,es++[as],xs++[x],by rw [←List.append_assoc];exact m1,by rw [←List.append_assoc];exact m2,Sig.le_trans k3 m3,by simp [k4],by simp [k5],fun i y e hy he=>?_⟩
   rw [←List.append_assoc]
   by_cases hi:i<n
   ·rw [List.getElem?_append_left (by omega)] at hy he
    obtain ⟨q1,q2,q3⟩:=k6 i y e hy he
    exact ⟨q1.app Y,q2.mono m3,q3⟩
   ·have hi':i=n:=by
     have:=(List.getElem?_eq_some_iff.1 hy).1
     simp at this;omega
    subst hi'
    rw [List.getElem?_append_right (by omega),k5] at hy
    rw [List.getElem?_append_right (by omega),k4] at he
    simp at hy he
    subst hy he
    exact ⟨m5,m4,m6⟩
theorem flatten_at {e:Nat}:∀(es:List (List Value)),(∀x∈es,x.length=e)→∀(j:Nat) v,es.flatten[j]? = some v→∃x,es[j / e]? = some x∧x[j % e]? = some v
 | [],_,j,v,h=>by simp at h
 | x::es,he,j,v,h=>by
   have hx:=he x (by simp)
   rw [List.flatten_cons] at h
   by_cases hj:j<x.length
   ·rw [List.getElem?_append_left hj] at h
    rw [hx] at hj
    rw [Nat.div_eq_of_lt hj,Nat.mod_eq_of_lt hj]
    exact ⟨x,rfl,h⟩
   ·rw [List.getElem?_append_right (by omega),hx] at h
    rw [hx] at hj
    obtain ⟨y,h1,h2⟩:=flatten_at es (fun z hz=>he z (by simp [hz])) _ _ h
    have hpos:0<e:=by
     rcases Nat.eq_zero_or_pos e with h0 | h0
     ·subst h0
      have hz:y.length=0:=he y (by have:=List.mem_of_getElem? h1;simp [this])
      rw [List.length_eq_zero_iff.1 hz] at h2;simp at h2
     ·exact h0
    have e1:j / e=(j-e) / e+1:=by rw [←Nat.add_div_right _ hpos];congr 1;omega
    have e2:j % e=(j-e) % e:=by rw [Nat.mod_eq_sub_mod (by omega)]
    rw [e1,e2]
    exact ⟨y,by simpa using h1,h2⟩
theorem zb0.arr {t:Ty} {n:Nat} {cs:List Value} (hl:cs.length=n*t.size) (hel:∀i,i<n→zb0 Pg W lim w t ((cs.drop (i*t.size)).take t.size)):zb0 Pg W lim w (.arr n t) cs:=by
 intro σ H h hn
 obtain ⟨X,σ1,es,xs,k1,k2,k3,k4,k5,k6⟩:=opens_elems (n:=n) (cs:=fun i=>(cs.drop (i*t.size)).take t.size) hel h hn
 have hes:∀e∈es,e.length=t.size:=by
  intro e he
  obtain ⟨i,hi,rfl⟩:=List.mem_iff_getElem.1 he
  exact (k6 i _ _ (List.getElem?_eq_getElem (by omega)) (List.getElem?_eq_getElem hi)).1.len
 have hat:∀(j:Nat) v,cs[j]? = some v→j / t.size<n∧j % t.size<t.size∧((cs.drop (j / t.size*t.size)).take t.size)[j % t.size]? = some v:=by
  intro j v hj
  have hjl:j<n*t.size:=by rw [←hl];exact (List.getElem?_eq_some_iff.1 hj).1
  have hpos:0<t.size:=by
   rcases Nat.eq_zero_or_pos t.size with h0 | h0
   ·rw [h0] at hjl;simp at hjl
   ·exact h0
  have hm:=Nat.mod_lt j hpos
  refine ⟨(Nat.div_lt_iff_lt_mul hpos).2 hjl,hm, ?_⟩
  rw [List.getElem?_take,if_pos hm,List.getElem?_drop,Nat.div_add_mod' j t.size]
  exact hj
 refine ⟨X,σ1,es.flatten,xs,k1,k2,k3,⟨by rw [flatten_len hes,k4,hl],fun j a v ha hv=>?_⟩,⟨es,rfl,k4,k5,fun i x e hx he=>(k6 i x e hx he).1⟩,fun v hv=>?_⟩
 ·obtain ⟨h1,h2,h3⟩:=hat j v hv
  obtain ⟨e,e1,e2⟩:=flatten_at es hes j a ha
  exact (k6 _ _ e (List.getElem?_eq_getElem (by omega)) e1).2.1.2 _ _ _ e2 h3
 ·obtain ⟨j,hj⟩:=List.mem_iff_getElem?.1 hv
  obtain ⟨h1,h2,h3⟩:=hat j v hj
  exact (k6 (j / t.size) _ _ (List.getElem?_eq_getElem (by omega)) (List.getElem?_eq_getElem (by omega))).2.2 v (List.mem_of_getElem? h3)
theorem zb0.nilslice {t:Ty}:zb0 Pg W lim w (.slice t) [.slice none 0 0]:=by
 refine zb0.atom1 (t:=.slice t) (x:=([]:List t.den)) rfl rfl fun H=>⟨Nat.zero_le _,none,0,rfl,fun _=>⟨rfl,rfl⟩,fun a ha=>by cases ha⟩
theorem zb0.slice {t:Ty} {a:Addr} {len cap:Nat} {cs:Nat→List Value} (hl:len≤cap) (hc:cap≤maxLen) (hsz:t.size≠0)
  (hel:∀i,i<cap→w.cells? 0 (a.add (i*t.size)) t.size=some (cs i)∧zb0 Pg W lim w t (cs i)):zb0 Pg W lim w (.slice t) [.slice (some a) len cap]:=by
 intro σ H h hn
 by_cases h0:len=0
 ·subst h0
  obtain ⟨m1,m2⟩:=h.snoc hn ⟨a.block,a.off,cap*t.size⟩ .dead rfl trivial
  refine ⟨[.dead],_,[.slice (some ⟨H.length,0,none⟩) 0 (loose t.size)],[],m1,hn.snoc rfl,m2,zLr.cons ?_ zLr.nil,⟨Nat.zero_le _,some ⟨H.length,0,none⟩,loose t.size,rfl,fun h=>(by cases h),fun b hb=>?_⟩,fun v hv=>by simp at hv;subst hv;rfl⟩
  ·by_cases hcap:cap=0
   ·subst hcap
    exact .eslice sigAt_same (.inr ⟨_,rfl⟩)
   ·have hsp:a.spot=none:=by
     obtain ⟨h1,h2⟩:=hel 0 (by omega)
     obtain ⟨_,h3,h4⟩:=World.cells?_some h1
     have h5:=h4 0 (by omega)
     rw [List.getElem?_eq_getElem (by omega)] at h5
     have:=World.cell?_spot h5
     simpa [Addr.add] using this
    obtain ⟨b,o,s⟩:=a
    simp only at hsp;subst hsp
    exact .lslice (L:=⟨b,o,cap*t.size⟩) (k:=0) sigAt_same hl (by simp)
  ·cases hb
   exact ⟨rfl,rfl,rfl,fun h=>absurd rfl h⟩
 ·obtain ⟨X,σ1,es,xs,k1,k2,k3,k4,k5,k6⟩:=opens_elems (n:=len) (cs:=cs) (fun i hi=>(hel i (by omega)).2) h hn
  have hsp:a.spot=none:=by
   obtain ⟨h1,h2⟩:=hel 0 (by omega)
   obtain ⟨_,h3,h4⟩:=World.cells?_some h1
   have h5:=h4 0 (by omega)
   rw [List.getElem?_eq_getElem (by omega)] at h5
   have:=World.cell?_spot h5
   simpa [Addr.add] using this
  have hcell:∀i,i<len→∀j,j<t.size→∃v,(cs i)[j]? = some v∧w.cell? ⟨a.block,a.off+(i*t.size+j),none⟩=some v:=by
   intro i hi j hj
   obtain ⟨_,h3,h4⟩:=World.cells?_some (hel i (by omega)).1
   have h5:=h4 j hj
   have hg:(cs i)[j]? = some ((cs i)[j]'(by omega)):=List.getElem?_eq_getElem _
   rw [hg,Go.Deep.add_add] at h5
   refine ⟨_,hg, ?_⟩
   rw [←h5]
   congr 1
   obtain ⟨b,o,s⟩:=a
   simp only at hsp;subst hsp
   exact (zay (b:=b) (o:=o)).symm
  obtain ⟨v0,_,hv0⟩:=hcell 0 (by omega) 0 (by omega)
  have hheap:∃cells el fz,w.heap[a.block]? = some (.cells cells el fz):=by
   unfold World.cell? at hv0
   split at hv0
   ·rename_i c el fz hh;exact ⟨c,el,fz,hh⟩
   ·cases hv0
  obtain ⟨cells,el,fz,hh⟩:=hheap
  have hes:∀e∈es,e.length=t.size:=by
   intro e he
   obtain ⟨i,hi,rfl⟩:=List.mem_iff_getElem.1 he
   exact (k6 i _ _ (List.getElem?_eq_getElem (by omega)) (List.getElem?_eq_getElem hi)).1.len
  have hblk:BlkRel Pg (sigAt σ1 (H++X).length ⟨a.block,a.off,cap*t.size⟩) w ⟨a.block,a.off,cap*t.size⟩ (.cells true es.flatten):=by
   refine ⟨cells,el,fz,hh,fun j v hv=>?_,fun h=>by cases h⟩
   obtain ⟨e,h1,h2⟩:=flatten_at es hes j v hv
   have hi:j / t.size<len:=by have:=(List.getElem?_eq_some_iff.1 h1).1;omega
   have hj:j % t.size<t.size:=Nat.mod_lt _ (by omega)
   obtain ⟨q1,q2,q3⟩:=k6 _ _ e (List.getElem?_eq_getElem (by omega)) h1
   obtain ⟨u,r1,r2⟩:=hcell _ hi _ hj
   refine ⟨u, ?_,(q2.2 _ _ _ h2 r1).mono ?_,q3 u (List.mem_of_getElem? r1)⟩
   ·rw [Nat.div_add_mod' j t.size] at r2
    simpa [World.cell?,hh] using r2
   ·intro i K hi
    have:=k1.lt hi
    rw [sigAt_ne (by omega)];exact hi
  obtain ⟨m1,m2⟩:=k1.snoc k2 _ _ rfl hblk
  refine ⟨X++[.cells true es.flatten],_,[.slice (some ⟨(H++X).length,0,none⟩) len (loose t.size)],xs,by rw [←List.append_assoc];exact m1,by rw [←List.append_assoc];exact k2.snoc rfl,Sig.le_trans k3 m2,zLr.cons ?_ zLr.nil, ?_,fun v hv=>by simp at hv;subst hv;rfl⟩
  ·obtain ⟨b,o,s⟩:=a
   simp only at hsp;subst hsp
   exact .lslice (L:=⟨b,o,cap*t.size⟩) (k:=0) sigAt_same hl (by simp)
  ·refine ⟨by rw [k5];omega,some ⟨(H++X).length,0,none⟩,loose t.size,by rw [k5],(fun h=>(by cases h)),fun b hb=>?_⟩
   cases hb
   refine ⟨rfl,rfl,rfl,fun _=>⟨es, ?_,by omega,fun i x e hx he=>?_⟩⟩
   ·rw [←List.append_assoc];exact zHn
   ·rw [←List.append_assoc];exact (k6 i x e hx he).1.app _
section
variable (P:Program)
def zdj (f:TypeId→Option Ty):List Field→Nat→Option Ty
 | [],_=>some .nil
 | fd::fs,off=>if fd.offset=off then match f fd.type with
   | some ty=>if ty.size=P.cellsOf fd.type then match zdj f fs (off+ty.size) with
     | some r=>some (.pair ty r)
     | none=>none
     else none
   | none=>none
   else none
def tyOf:Nat→TypeId→Option Ty
 | 0,_=>none
 | n+1,t=>match P.underlying t with
   | some .bool=>some .bool
   | some (.int k)=>some (.int k)
   | some .string=>some .str
   | some (.slice e)=>match tyOf n e with
     | some ty=>if ty.size=P.cellsOf e∧ty.size≠0 then some (.slice ty) else none
     | none=>none
   | some (.array k e)=>match tyOf n e with
     | some ty=>if ty.size=P.cellsOf e∧k*ty.size=P.cellsOf t then some (.arr k ty) else none
     | none=>none
   | some (.struct fs)=>match zdj P (tyOf n) fs.toList 0 with
     | some ty=>if ty.size=P.cellsOf t then some ty else none
     | none=>none
   | _=>none
end
variable {P:Program} {H:Type} {enc:TypeId×Value→H} {held:Bool}
theorem opens_fields {n m:Nat} {cs:List Value} (ih:∀t ty cs x,tyOf P n t=some ty→DataW.trod enc P w 0 (fun _=>true) held m t cs=some x→zb0 Pg W lim w ty cs) :
  ∀(fs:List Field) (off:Nat) (xs:List (DataW H×List MemPlace)) (ty:Ty),zdj P (tyOf P n) fs off=some ty→off+ty.size=cs.length→(∀(i:Nat) f,fs[i]? = some f→DataW.trod enc P w 0 (fun _=>true) held m f.type ((cs.drop f.offset).take (P.cellsOf f.type))=xs[i]?)→xs.length=fs.length→zb0 Pg W lim w ty (cs.drop off)
 | [],off,xs,ty,ht,hl,hx,hxl=>by
   simp only [zdj,Option.some.injEq] at ht
   subst ht
   rw [List.drop_eq_nil_of_le (by simp [Ty.size] at hl;omega)]
   exact zb0.nil
 | fd::fs,off,xs,ty,ht,hl,hx,hxl=>by
   simp only [zdj] at ht
   split at ht
   case isFalse=>cases ht
   rename_i ho
   split at ht
   case h_2=>cases ht
   rename_i ty1 h1
   split at ht
   case isFalse=>cases ht
   rename_i hs
   split at ht
   case h_2=>cases ht
   rename_i r hr
   cases ht
   simp only [Ty.size] at hl
   match xs,hxl with
   | x0::xs,hxl=>
     have h2:=hx 0 fd rfl
     simp only [List.getElem?_cons_zero] at h2
     have h3:=ih _ _ _ _ h1 h2
     have h4:=opens_fields (cs:=cs) ih fs (off+ty1.size) xs r hr (by omega) (fun i f hf=>by simpa using hx (i+1) f (by simpa using hf)) (by simpa using hxl)
     rw [ho,←hs] at h3
     have:=zb0.pair h3 h4
     rw [←List.drop_drop,List.take_append_drop] at this
     exact this
theorem opens_trod:∀(n m:Nat) {t:TypeId} {ty:Ty} {cs:List Value} {x:DataW H×List MemPlace},tyOf P n t=some ty→DataW.trod enc P w 0 (fun _=>true) held m t cs=some x→zb0 Pg W lim w ty cs
 | 0,_,t,ty,cs,x,ht,_=>by simp [tyOf] at ht
 | n+1,m,t,ty,cs,x,ht,h=>by
   simp only [tyOf] at ht
   split at ht
   ·rename_i hu;cases ht
    obtain ⟨b,rfl,_⟩:=DataW.trod_bool hu h
    exact zb0.bool
   ·rename_i k hu;cases ht
    obtain ⟨b,rfl,_,hw⟩:=DataW.trod_int hu h
    exact zb0.int hw
   ·rename_i hu;cases ht
    obtain ⟨b,rfl,_,hw⟩:=DataW.trod_string hu h
    exact zb0.str hw
   ·rename_i e hu
    split at ht
    case h_2=>cases ht
    rename_i ty' he
    split at ht
    case isFalse=>cases ht
    rename_i hs
    cases ht
    rcases Go.Deep.open_slice hu h with ⟨rfl,_⟩ | ⟨a,len,cap,mm,m',D,Pl,rfl,hb,hl,hm,hmm,hx,hi⟩
    ·exact zb0.nilslice
    ·simp only [if_true] at hmm
     subst hmm
     have hel:∀i,∃cs',i<mm→w.cells? 0 (a.add (i*ty'.size)) ty'.size=some cs'∧zb0 Pg W lim w ty' cs':=by
      intro i
      by_cases him:i<mm
      ·obtain ⟨cs',h1,h2⟩:=hi i him
       exact ⟨cs',fun _=>⟨by rw [hs.1];exact h1,opens_trod n m' he h2⟩⟩
      ·exact ⟨[],fun h=>absurd h him⟩
     exact zb0.slice (cs:=fun i=>Classical.choose (hel i)) hl hm hs.2 fun i hi=>Classical.choose_spec (hel i) hi
   ·rename_i k e hu
    split at ht
    case h_2=>cases ht
    rename_i ty' he
    split at ht
    case isFalse=>cases ht
    rename_i hs
    cases ht
    obtain ⟨xs,m',_,_,hcl,hxl,hf⟩:=DataW.trod_array hu h
    refine zb0.arr (by rw [hcl,hs.2]) fun i hi=>?_
    have h1:=hf i hi
    rw [List.getElem?_eq_getElem (by omega)] at h1
    rw [hs.1]
    exact opens_trod n m' he h1
   ·rename_i fs hu
    split at ht
    case h_2=>cases ht
    rename_i ty' he
    split at ht
    case isFalse=>cases ht
    rename_i hs
    cases ht
    obtain ⟨xs,m',_,_,hcl,hxl,hf⟩:=DataW.trod_struct hu h
    have:=opens_fields (cs:=cs) (fun t ty cs x h1 h2=>opens_trod n m' h1 h2) fs.toList 0 xs ty he (by omega) (fun i f hf'=>hf i f (by simpa using hf')) (by simpa using hxl)
    simpa using this
   ·cases ht
end
def isRow:Ty→Bool
 | .nil=>true
 | .pair _ _=>true
 | .arr _ _=>true
 | _=>false
def RepV (t:Ty) (H:zH) (x:t.den) (v:Value):Prop:=if isRow t=true then ∃as,v=.agg as.toArray∧Rep t H x as else Rep t H x [v]
abbrev dens:List Ty→Type
 | []=>Unit
 | t::ts=>t.den×dens ts
def RepAll:(ts:List Ty)→zH→dens ts→List Value→Prop
 | [],_,_,vs=>vs=[]
 | t::ts,H,x,vs=>∃v r,vs=v::r∧RepV t H x.1 v∧RepAll ts H x.2 r
theorem RepV.app {t:Ty} {H:zH} {x:t.den} {v:Value} (h:RepV t H x v) (X:zH):RepV t (H++X) x v:=by
 unfold RepV at *
 split
 ·rename_i hr
  rw [if_pos hr] at h
  obtain ⟨as,e,k⟩:=h
  exact ⟨as,e,k.app X⟩
 ·rename_i hr
  rw [if_neg hr] at h
  exact h.app X
section
variable {P:Program} {H:Type} {enc:TypeId×Value→H} {w:World} {Pg:Prg} {W:Nat→Prop} {lim:Nat}
theorem tyFields_row {f:TypeId→Option Ty}:∀{fs:List Field} {off:Nat} {ty:Ty},zdj P f fs off=some ty→isRow ty=true
 | [],off,ty,h=>by simp only [zdj,Option.some.injEq] at h;subst h;rfl
 | fd::fs,off,ty,h=>by
   simp only [zdj] at h
   split at h
   ·split at h
    ·split at h
     ·split at h
      ·cases h;rfl
      ·cases h
     ·cases h
    ·cases h
   ·cases h
theorem arg_cells {n:Nat} {t:TypeId} {ty:Ty} {v:Value} {r:Reach} {base:Nat} (ht:tyOf P n t=some ty) (hv:Value.okWide P w r base t v):if isRow ty=true then ∃cs,v=.agg cs else v.cells.toList=[v]:=by
 cases n with
 | zero=>simp [tyOf] at ht
 | succ n=>
   simp only [tyOf] at ht
   split at ht
   ·rename_i hu;cases ht
    obtain ⟨b,rfl⟩:=okWide_bool hu hv
    rfl
   ·rename_i k hu;cases ht
    obtain ⟨b,rfl⟩:=okWide_int hu hv
    rfl
   ·rename_i hu;cases ht
    obtain ⟨b,rfl⟩:=okWide_string hu hv
    rfl
   ·rename_i e hu
    split at ht
    case h_2=>cases ht
    split at ht
    case isFalse=>cases ht
    cases ht
    obtain ⟨a,l,c,rfl⟩:=okWide_slice hu hv
    rfl
   ·rename_i k e hu
    split at ht
    case h_2=>cases ht
    rename_i ty' he
    split at ht
    case isFalse=>cases ht
    cases ht
    have hv2:=hv
    simp only [Value.okWide,hu] at hv2
    obtain ⟨cs,rfl,_⟩:=hv2
    exact ⟨cs,rfl⟩
   ·rename_i fs hu
    split at ht
    case h_2=>cases ht
    rename_i ty' he
    split at ht
    case isFalse=>cases ht
    cases ht
    obtain ⟨cs,rfl,_⟩:=okWide_struct hu hv
    rw [if_pos (tyFields_row he)]
    exact ⟨cs,rfl⟩
   ·cases ht
theorem opens_args {n:Nat} {r:Reach} {base:Nat}:∀{ts:List TypeId} {vs:List Value} {ds:List (DataW H)} {ps:List MemPlace} {tys:List Ty},DataW.TrodAll enc P w 0 (fun _=>true) true ts vs ds ps→ts.mapM (tyOf P n)=some tys→
  (∀(j:Nat) t v,ts[j]? = some t→vs[j]? = some v→Value.okWide P w r base t v)→∀σ H,Inv Pg W lim σ H w→NoOwn H→
  ∃X σ' as x,Inv Pg W lim σ' (H++X) w∧NoOwn (H++X)∧Sig.le σ σ'∧zLr σ' as vs∧RepAll tys (H++X) x as
 | [],[],[],ps,tys,_,ht,_,σ,Hp,hi,hn=>by
   simp at ht;subst ht
   exact ⟨[],σ,[],(),by simpa using hi,by simpa using hn,Sig.le_refl _,zLr.nil,rfl⟩
 | t::ts,v::vs,d::ds,ps,tys,hA,ht,hv,σ,Hp,hi,hn=>by
   obtain ⟨p,q,h1,h2,rfl⟩:=hA
   rw [List.mapM_cons] at ht
   obtain ⟨ty,hty,ht⟩:=zOb ht
   obtain ⟨tr,htr,ht⟩:=zOb ht
   cases ht
   obtain ⟨m,hm⟩:=h1
   have hc:=arg_cells hty (hv 0 t v rfl rfl)
   obtain ⟨X,σ1,as,x,k1,k2,k3,k4,k5,k6⟩:=opens_trod n m hty hm σ Hp hi hn
   obtain ⟨Y,σ2,bs,y,m1,m2,m3,m4,m5⟩:=opens_args h2 htr (fun j t' v' e1 e2=>hv (j+1) t' v' (by simpa using e1) (by simpa using e2)) σ1 _ k1 k2
   have key:∃av,zVr σ1 av v∧RepV ty (Hp++X) x av:=by
    split at hc
    ·rename_i hr
     obtain ⟨cs,rfl⟩:=hc
     refine ⟨.agg as.toArray,zVr.agg_iff.2 ⟨by simpa [Value.cells] using k4,by simpa [Value.cells] using k6⟩, ?_⟩
     unfold RepV;rw [if_pos hr]
     exact ⟨as,rfl,k5⟩
    ·rename_i hr
     rw [hc] at k4
     have hl:=k4.1
     match as,hl,k4,k5 with
     | [a],_,k4,k5=>
       refine ⟨a,k4.head, ?_⟩
       unfold RepV;rw [if_neg hr]
       exact k5
   obtain ⟨av,q1,q2⟩:=key
   refine ⟨X++Y,σ2,av::bs,(x,y),by rw [←List.append_assoc];exact m1,by rw [←List.append_assoc];exact m2,Sig.le_trans k3 m3,zLr.cons (q1.mono m3) m4,av,bs,rfl, ?_, ?_⟩
   ·rw [←List.append_assoc];exact q2.app Y
   ·rw [←List.append_assoc];exact m5
 | [],[],_::_,_,_,hA,_,_,_,_,_,_=>hA.elim
 | [],_::_,_,_,_,hA,_,_,_,_,_,_=>hA.elim
 | _::_,[],_,_,_,hA,_,_,_,_,_,_=>hA.elim
 | _::_,_::_,[],_,_,hA,_,_,_,_,_,_=>hA.elim
theorem trodAll_stays (hl:laidOutB P=true) {w':World} (hb:Below w.heap.size w w'):∀{ts:List TypeId} {vs:List Value} {ds:List (DataW H)} {ps:List MemPlace},(∀t∈ts,P.readableRec t=true∧t<P.types.size)→DataW.TrodAll enc P w 0 (fun _=>true) true ts vs ds ps→
  (∀x∈ps,x.block<w.heap.size)→DataW.TrodAll enc P w' 0 (fun b=>decide (b<w.heap.size)) true ts vs ds ps
 | [],[],[],ps,_,h,_=>h
 | t::ts,v::vs,d::ds,ps,hr,h,hlt=>by
   obtain ⟨p,q,h1,h2,rfl⟩:=h
   exact ⟨p,q,Below.trod hl (hr t (by simp)).1 (hr t (by simp)).2 h1 hb fun x hx=>hlt x (by simp [hx]),trodAll_stays hl hb (fun t' ht'=>hr t' (by simp [ht'])) h2 fun x hx=>hlt x (by simp [hx]),rfl⟩
 | [],[],_::_,_,_,hA,_=>hA.elim
 | [],_::_,_,_,_,hA,_=>hA.elim
 | _::_,[],_,_,_,hA,_=>hA.elim
 | _::_,_::_,[],_,_,hA,_=>hA.elim
theorem trodAll_length:∀{ts:List TypeId} {vs:List Value} {ds:List (DataW H)} {ps:List MemPlace},DataW.TrodAll enc P w 0 (fun _=>true) true ts vs ds ps→ds.length=ts.length
 | [],[],[],ps,_=>rfl
 | t::ts,v::vs,d::ds,ps,h=>by
   obtain ⟨p,q,h1,h2,rfl⟩:=h
   simp [trodAll_length h2]
 | [],[],_::_,_,hA=>hA.elim
 | [],_::_,_,_,hA=>hA.elim
 | _::_,[],_,_,hA=>hA.elim
 | _::_,_::_,[],_,hA=>hA.elim
end
theorem law_returns {C:Checked} {os:Os} {g:FuncId} {fn:Func} {s:ChangeSpec} {E:Env} {tys:List Ty} {tb:TypeId} {conds:List PathCond} {H:Type} {enc:TypeId×Value→H}
  (own:ownKnob C.prog.godebug=none) (started:os.Started) (noInit:C.prog.inits.idxOf? g=none) (hfn:C.prog.funcs[g]? = some fn) (hvars:s.vars=[])
  (hspec:∀ds:List (DataW H),ds.length=fn.params.size→s.fn H ds={ results:=[.lit (.bool true)],args:=ds })
  (hres:fn.resultTypes=#[tb]) (hb:C.prog.underlying tb=some .bool) (htys:fn.params.toList.mapM (tyOf C.prog 9)=some tys)
  (hread:∀t∈fn.params.toList,C.prog.readableRec t=true∧t<C.prog.types.size) (hlaid:laidOutB C.prog=true) (hE:EnvOk C.prog E)
  (witness:∃(w:World) (tape:Tape) (i:Input),w.os=os∧(w.forCall tape i).Shaped C.prog∧i.vars=[]∧Input.okWide C.prog (w.forCall tape i) .any w.heap.size g i∧
   s.pre6 enc C.prog fn conds false (w.forCall tape i).memory i.args∧({}:Assume).holds C.prog (lone (Frame.enter C.prog g i.args .normal) [] (w.forCall tape i)))
  (run:∀H vs x,RepAll tys H x vs→za0 E false H.length g vs H fun v _=>v=.bool true) :
  ReturnsInHanded {} C os g .any (s.pre6 enc C.prog fn conds false) (s.post enc C.prog fn false true false false):=by
 refine returnsInHanded_of_change own started noInit hfn witness ?_
 intro w base args ds gs before hval hW hcnd hholds
 have hW':=hW
 obtain ⟨p,q,hA,hV,rfl,hfz,hnd⟩:=hW
 rw [hvars] at hV
 obtain ⟨rfl,rfl⟩:=trodVars_none hV
 obtain ⟨X,σ,as,x,k1,k2,k3,k4,k5⟩:=opens_args hA htys (fun j t v h1 h2=>hval j t v (by simpa using h1) (by simpa using h2)) (fun _=>none) [] (Inv.nil (P:=C.prog) (E:=E) w) (fun i b hb=>by simp at hb)
 rw [List.nil_append] at k1 k2 k5
 have k1':Inv (Prg.mk C.prog E.pure) (fun k=>w.heap.size≤k) X.length σ X w:=⟨k1.blk,k1.inj,(fun i b L hb ho=>by rw [k2 i b hb] at ho;cases ho),k1.fresh,k1.dom⟩
 obtain ⟨n,LL,hx,hrun⟩:=run X as x k5
 have hcall:=(callOkS hE n).calls _ _ _ _ _ _ hx (Nat.le_refl _) _ _ _ _ k1' k4
 rw [show args.toList.toArray=args by simp] at hcall
 refine hcall.mono fun e w' hp=>?_
 obtain ⟨r,hr,v',σ',rfl,hv,hinv,hst,_⟩:=hp
 rw [hrun.2 r hr] at hv
 rw [hv.bool_left]
 have hbel:Below w.heap.size w w':=⟨hst.os,hst.tape,hst.output,hst.size,fun k hk=>hst.block k (by omega)⟩
 have hlt:∀x∈p,x.block<w.heap.size:=fun x hx=>by
  have:=hW'.lt x (by simpa using hx)
  simpa using this
 have hs:=hspec ds (by simpa using trodAll_length hA)
 refine ⟨_,rfl,_,_,_,[],p,[],hW', ?_, ?_, ?_,hbel.frame _,fun h=>by cases h⟩
 ·rw [List.append_nil,hs,hres]
  exact trodAll_mk1 (shut_bool hb true)
 ·rw [List.append_nil,hs]
  exact trodAll_stays hlaid hbel hread hA hlt
 ·rw [List.append_nil,hs,hvars]
  rfl
theorem Rep.sl {t:Ty} {H:zH} {l:List t.den} {cs:List Value} {α:Type} (f:t.den→α) (enc:α→List Value) (he:∀H x c,Rep t H x c→c=enc (f x)) (h:Rep (.slice t) H l cs) :
  ∃p cap,cs=[.slice p (l.map f).length cap]∧Sl H enc t.size p (l.map f)∧l.length<2 ^ 63:=by
 obtain ⟨h0,p,cap,e,h1,h2⟩:=h
 have hlen:l.length<2 ^ 63:=by unfold maxLen at h0;omega
 refine ⟨p,cap,by rw [e,List.length_map], ?_,hlen⟩
 cases p with
 | none=>simp only [Sl];rw [(h1 rfl).1];rfl
 | some a=>
   obtain ⟨k1,k2,k3,k4⟩:=h2 a rfl
   refine ⟨k1,fun hn=>?_⟩
   obtain ⟨es,m1,m2,m3⟩:=k4 (by rintro rfl;exact hn rfl)
   have key:es.flatten=(l.map f).flatMap enc:=by
    have:es=l.map fun x=>enc (f x):=by
     apply List.ext_getElem (by simpa using m2)
     intro i i1 i2
     have i3:i<l.length:=by simpa using i2
     have:=he _ _ _ (m3 i l[i] es[i] (List.getElem?_eq_getElem _) (List.getElem?_eq_getElem _))
     rw [this];simp
    rw [this,List.flatMap_def,List.map_map]
    rfl
   have hfl:es.flatten.length=l.length*t.size:=by
    have:∀(es:List (List Value)),(∀x∈es,x.length=t.size)→es.flatten.length=es.length*t.size:=by
     intro es
     induction es with
     | nil=>simp
     | cons x es ih=>intro h;simp [ih fun y hy=>h y (by simp [hy]),h x (by simp),Nat.add_mul,Nat.add_comm]
    rw [this es,m2]
    intro x hx
    obtain ⟨i,hi,rfl⟩:=List.mem_iff_getElem.1 hx
    exact (m3 i _ _ (List.getElem?_eq_getElem (by omega)) (List.getElem?_eq_getElem hi)).len
   refine ⟨true,_,m1, ?_, ?_⟩
   ·rw [k2,hfl,List.length_map];omega
   ·rw [k2,List.drop_zero,key,List.take_of_length_le]
    rw [←key,hfl,List.length_map]
    exact Nat.le_refl _
theorem Rep.slice_mem {t:Ty} {H:zH} {l:List t.den} {cs:List Value} (h:Rep (.slice t) H l cs):∀x∈l,∃c,Rep t H x c:=by
 intro x hx
 obtain ⟨h0,p,cap,e,h1,h2⟩:=h
 cases p with
 | none=>rw [(h1 rfl).1] at hx;simp at hx
 | some a=>
   obtain ⟨k1,k2,k3,k4⟩:=h2 a rfl
   obtain ⟨es,m1,m2,m3⟩:=k4 (by rintro rfl;simp at hx)
   obtain ⟨i,hi,rfl⟩:=List.mem_iff_getElem.1 hx
   exact ⟨_,m3 i _ _ (List.getElem?_eq_getElem hi) (List.getElem?_eq_getElem (by omega))⟩
theorem Rep.nil_of {H:zH} {x:Ty.nil.den} {cs:List Value} (h:Rep .nil H x cs):cs=[]:=h
theorem RepV.row {t:Ty} {H:zH} {x:t.den} {v:Value} (hr:isRow t=true) (h:RepV t H x v):∃cs,v=.agg cs.toArray∧Rep t H x cs:=by
 unfold RepV at h
 rw [if_pos hr] at h
 exact h
theorem RepV.one {t:Ty} {H:zH} {x:t.den} {v:Value} (hr:isRow t=false) (h:RepV t H x v):Rep t H x [v]:=by
 unfold RepV at h
 rw [if_neg (by rw [hr];decide)] at h
 exact h
end Go.AM

namespace Go.AM
structure Chg (A:List Nat) (H H':zH):Prop where
 len:H.length≤H'.length
 other:∀j,j<H.length→j∉A→zG H' j=zG H j
section
variable {A B:List Nat} {H H' K:zH}
theorem Chg.refl:Chg A H H:=⟨Nat.le_refl _,fun _ _ _=>rfl⟩
theorem Chg.trans (h:Chg A H H') (k:Chg A H' K):Chg A H K:=⟨Nat.le_trans h.len k.len,fun j hj hA=>(k.other j (by have:=h.len;omega) hA).trans (h.other j hj hA)⟩
theorem Chg.trans' (h:Chg A H H') (k:Chg B H' K) (hB:∀j,j∈B→j<H.length→j∈A):Chg A H K:=⟨Nat.le_trans h.len k.len,fun j hj hA=>(k.other j (by have:=h.len;omega) fun hb=>hA (hB j hb hj)).trans (h.other j hj hA)⟩
theorem Chg.mono (h:Chg A H H') (hs:∀j,j<H.length→j∈A→j∈B):Chg B H H':=⟨h.len,fun j hj hB=>h.other j hj fun hA=>hB (hs j hj hA)⟩
theorem Chg.app (h:Chg A H H') {X:zH}:Chg A H (H'++X):=⟨by have:=h.len;simp;omega,fun j hj hA=>by rw [zHo (by have:=h.len;omega)];exact h.other j hj hA⟩
theorem Chg.pre (h:Chg A (H++K) H'):Chg A H H':=⟨by have:=h.len;simp at this;omega,fun j hj hA=>by rw [h.other j (by simp;omega) hA,zHo hj]⟩
theorem Chg.mut {R:Nat} (h:Chg A H H') (m:Mut H' K R) (hR:R∈A∨H.length≤R):Chg A H K:=⟨by rw [m.len];exact h.len,fun j hj hA=>by
 rw [m.other j (by rintro rfl;rcases hR with h1 | h1;exact hA h1;omega)];exact h.other j hj hA⟩
theorem Chg.set {R:Nat} {b:Blk} (h:Chg A H H') (hR:R∈A∨H.length≤R):Chg A H (H'.set R b):=h.mut (R:=R) ⟨by simp,fun j hj=>zHs hj⟩ hR
theorem Chg.get (h:Chg A H H') {j:Nat} {b:Blk} (hj:zG H j=b) (hl:j<H.length) (hA:j∉A):zG H' j=b:=by rw [h.other j hl hA];exact hj
theorem Chg.cells (h:Chg A H H') {j:Nat} {ro:Bool} {c:List Value} (hj:zG H j=.cells ro c) (hA:j∉A):zG H' j=.cells ro c:=h.get hj (zHa hj) hA
theorem Chg.sl {α:Type} {enc:α→List Value} {e:Nat} {p:Option Addr} {l:List α} (h:Chg A H H') (hs:Sl H enc e p l) (hp:∀a,p=some a→l≠[]→a.block∉A):Sl H' enc e p l:=by
 cases p with
 | none=>exact hs
 | some a=>
   refine ⟨hs.1,fun hn=>?_⟩
   obtain ⟨ro,c,h2,h3⟩:=hs.2 hn
   exact ⟨ro,c,h.cells h2 (hp a rfl hn),h3⟩
theorem Ext.chg (h:Ext H H'):Chg A H H':=by obtain ⟨X,rfl⟩:=h;exact Chg.refl.app
theorem Chg.ext (h:Chg [] H H'):Ext H H':=by
 refine ⟨H'.drop H.length, ?_⟩
 apply List.ext_getElem
 ·have:=h.len;simp;omega
 intro i h1 h2
 by_cases hi:i<H.length
 ·rw [List.getElem_append_left hi]
  have:=h.other i hi (by simp)
  unfold zG at this
  rw [List.getD_eq_getElem?_getD,List.getD_eq_getElem?_getD,List.getElem?_eq_getElem h1,List.getElem?_eq_getElem hi] at this
  exact this
 ·rw [List.getElem_append_right (by omega),List.getElem_drop]
  congr 1
  omega
end
theorem Sl.lt {α:Type} {H:zH} {enc:α→List Value} {e:Nat} {a:Addr} {l:List α} (h:Sl H enc e (some a) l) (hn:l≠[]):a.block<H.length:=by
 obtain ⟨ro,c,h2,_⟩:=h.2 hn
 exact zHa h2
theorem Sl.some {α:Type} {H:zH} {enc:α→List Value} {e:Nat} {p:Option Addr} {l:List α} (h:Sl H enc e p l) (hn:l≠[]):∃a,p=some a:=by
 cases p with
 | none=>exact absurd h hn
 | some a=>exact ⟨a,rfl⟩
section
variable {α:Type} [Inhabited α] {H:zH} {enc:α→List Value} {e:Nat} {p:Option Addr} {l:List α}
omit [Inhabited α] in
theorem store_elt {lim S:Nat} (he:∀x,(enc x).length=e) (hp:p=Option.some ⟨S,0,none⟩) (hS:zG H S=.cells false (l.flatMap enc)) (hl:lim≤S) {i:Nat} (hi:i<l.length) (y:α):AM.storeAt lim H (elt p e i) (enc y)=Option.some (H.set S (.cells false ((l.set i y).flatMap enc))):=by
 subst hp
 have h1:i*e+e≤l.length*e:=by
  have:=Nat.mul_le_mul_right e (Nat.succ_le_of_lt hi)
  rw [Nat.succ_mul] at this;exact this
 simp only [elt,addrOf,Option.getD_some,zay,zc8,hS,Nat.zero_add]
 rw [if_pos ⟨hl,by rw [he,zaa he];exact h1⟩,flat_set he y _ _ hi]
end
theorem zd4 {α:Type} {G:zH} {enc:α→List Value} {e:Nat} {p:Option Addr} {l:List α} {lim S:Nat} (he:∀x,(enc x).length=e) (hp:p=some ⟨S,0,none⟩) (hS:zG G S=.cells false (l.flatMap enc)) (hl:lim≤S) {i:Nat} (hi:i<l.length) (y:α) :
  ∃G',(∀X,AM.storeAt lim (G++X) (elt p e i) (enc y)=some (G'++X))∧zG G' S=.cells false ((l.set i y).flatMap enc)∧Mut G G' S:=by
 obtain ⟨G',h1,h2,h3⟩:=za4 (zHa hS) (.cells false ((l.set i y).flatMap enc))
 exact ⟨G',fun X=>by rw [store_elt he hp (by rw [zHo (zHa hS)];exact hS) hl hi,h1],h2,h3⟩
theorem Own.step {α:Type} {lim lim' e bytes cap:Nat} {G:zH} {enc:α→List Value} {p:Option Addr} {l:List α} (h:Own lim G enc e p cap l) (hll:lim'≤lim) (he:∀x,(enc x).length=e) (he0:e≠0) (x:α) (hb:(l.length+1)*bytes≤za3) (hn:l.length+1<2 ^ 61) (hlG:lim≤G.length)
  (X:zH) (b k:Nat) (hx:zG (G++X) b=.cells false (enc x)) :
  ∃G2,zAa lim' none e bytes false (.slice p l.length cap) (.slice (some ⟨b,0,none⟩) 1 k) (G++X)=some (.slice (some ⟨G.length+X.length,0,none⟩) (l.length+1) (loose e),G2++[])∧
   Own lim (G2++[]) enc e (some ⟨G.length+X.length,0,none⟩) (loose e) (l++[x])∧(∀A H0,H0.length≤lim→Chg A H0 G→Chg A H0 (G2++[]))∧(∀j,j<G.length→(∀a,p=some a→j≠a.block)→zG (G2++[]) j=zG G j)∧G2.length=G.length+X.length+1∧
   (∀j,j<X.length→zG (G2++[]) (G.length+j)=X.getD j .dead):=by
 obtain ⟨G',R,hR1,hR2,hm,_,hp⟩:=h.push1 (lim':=lim') (bytes:=bytes) hll he he0 x hb hn
 have hRl:lim≤R:=by
  rcases Option.eq_none_or_eq_some p with h1 | ⟨a,h1⟩
  ·rw [hR1 h1];exact hlG
  ·rw [hR2 a h1];exact (h.block h1).1
 refine ⟨G'++(X++[.cells false ((l++[x]).flatMap enc)]),by rw [List.append_nil];exact hp X b k hx, ?_,fun A H0 h1 h2=>?_,fun j hj hp=>?_,by simp [hm.len];omega,fun j hj=>?_⟩
 ·rw [List.append_nil]
  refine Own.new ?_ (by omega)
  rw [←List.append_assoc,←hm.len,←List.length_append]
  exact zHn
 ·rw [List.append_nil]
  exact (h2.mut hm (.inr (by omega))).app
 ·rw [List.append_nil,zHo (by rw [hm.len];exact hj)]
  refine hm.other j ?_
  rcases Option.eq_none_or_eq_some p with h1 | ⟨a,h1⟩
  ·rw [hR1 h1];omega
  ·rw [hR2 a h1];exact hp a h1
 ·rw [List.append_nil,←hm.len,zHw,List.getD_eq_getElem?_getD,List.getElem?_append_left hj,List.getD_eq_getElem?_getD]
theorem append_newN {α:Type} {lim b e bytes c:Nat} {H:zH} {enc:α→List Value} {p:Option Addr} {l:List α} (hb:zG H b=.cells false []) (hs:Sl H enc e p l) (h1:e≠0) (h2:l.length*bytes≤za3) (h3:l.length<2 ^ 62) (hn:l≠[]) :
  zAa lim none e bytes false (.slice (some ⟨b,0,none⟩) 0 0) (.slice p l.length c) H=some (.slice (some ⟨H.length,0,none⟩) l.length (loose e),H++[.cells false (l.flatMap enc)]):=by
 obtain ⟨a,rfl⟩:=hs.some hn
 have h0:l.length≠0:=fun h=>hn (List.length_eq_zero_iff.1 h)
 obtain ⟨k1,k2⟩:=hs
 obtain ⟨ro,cs,k3,k4,k5⟩:=k2 hn
 have hl:AM.loadCells H a (l.length*e)=some (l.flatMap enc):=by
  obtain ⟨ab,ao,as'⟩:=a
  simp only [za2]
  simp only at k3 k4 k5
  simp only [k3]
  rw [if_pos k4,k5]
 have h0':AM.loadCells H ⟨b,0,none⟩ (0*e)=some []:=by simp [za2,hb]
 simp only [zAa,firstCells,lenOf,hl,h0',h0,Nat.zero_add,Nat.not_lt_zero,or_false,h1,false_or,Bool.false_eq_true,if_false]
 rw [if_neg (by omega),if_neg (by unfold loose;omega),if_pos (by decide),if_neg (by omega)]
 simp [place]
theorem cellsEq_dec:∀(k:KK) (n:Nat) (a b:List Value),a.length=n→b.length=n→(∀x∈a,∀y∈b,∃t,zcr k x y=some t∧(t=true↔x=y))→∃t,zCe (List.replicate n k) a b=some t∧(t=true↔a=b)
 | k,0,a,b,ha,hb,_=>by
   have:=List.length_eq_zero_iff.1 ha;have:=List.length_eq_zero_iff.1 hb
   subst_vars
   exact ⟨true,rfl,by simp⟩
 | k,n+1,a,b,ha,hb,h=>by
   match a,b,ha,hb with
   | x::a,y::b,ha,hb=>
     obtain ⟨t,h1,h2⟩:=h x (by simp) y (by simp)
     obtain ⟨u,h3,h4⟩:=cellsEq_dec k n a b (by simpa using ha) (by simpa using hb) fun x hx y hy=>h x (by simp [hx]) y (by simp [hy])
     refine ⟨t&&u, ?_, ?_⟩
     ·rw [List.replicate_succ]
      simp only [zCe,h1,h3]
     ·rw [Bool.and_eq_true,h2,h4];simp
theorem zb1 {α:Type} [Inhabited α] {l:List α} {i:Nat} (h:i<l.length):l.take (i+1)=l.take i++[gt l i]:=by
 rw [List.take_succ_eq_append_getElem h,zGl h]
theorem setAll_mid:∀(vs a b c:List Value),vs.length=b.length→zam (a++b++c) a.length vs=a++vs++c:=by
 intro vs
 induction vs with
 | nil=>intro a b c h;simp at h;have:b=[]:=List.length_eq_zero_iff.1 h.symm;subst this;rfl
 | cons v vs ih=>
   intro a b c h
   match b,h with
   | x::b,h=>
     rw [zc9]
     have e1:(a++x::b++c).set a.length v=(a++[v])++b++c:=by simp
     rw [e1]
     have:=ih (a++[v]) b c (by simpa using h)
     rw [List.length_append] at this
     simp only [List.length_cons,List.length_nil,Nat.zero_add] at this
     rw [this];simp
theorem Own.more {α:Type} {lim lim' e bytes cap:Nat} {G:zH} {enc:α→List Value} {p:Option Addr} {l:List α} (h:Own lim G enc e p cap l) (hll:lim'≤lim) (he:∀x,(enc x).length=e) (he0:e≠0) (m:List α) (hb:(l.length+m.length)*bytes≤za3) (hn:l.length+m.length<2 ^ 61) (hlG:lim≤G.length)
  (X:zH) {x:Value} {str:Bool} (h1:firstCells (G++X) e str x=some (m.flatMap enc)) (h2:lenOf x=some m.length) :
  ∃G2 p' cap',zAa lim' none e bytes str (.slice p l.length cap) x (G++X)=some (.slice p' (l.length+m.length) cap',G2++[])∧Own lim (G2++[]) enc e p' cap' (l++m)∧(∀A H0,H0.length≤lim→Chg A H0 G→Chg A H0 (G2++[]))∧
   (∀j,j<G.length→(∀a,p=some a→j≠a.block)→zG (G2++[]) j=zG G j)∧G.length≤G2.length:=by
 by_cases hm:m=[]
 ·subst hm
  have hcap:l.length≤cap:=by
   rcases h with ⟨k1,_,k3⟩ | ⟨R,_,k2,_,_⟩
   ·subst k1;simp
   ·rw [k2];simp at hn;unfold loose;omega
  refine ⟨G++X,p,cap, ?_,by rw [List.append_nil,List.append_nil];exact h.app X,fun A H0 q1 q2=>by rw [List.append_nil];exact q2.app,fun j hj _=>by rw [List.append_nil,zHo hj],by simp⟩
  simp only [List.length_nil,Nat.add_zero] at hb hn h2⊢
  simp only [zAa,h1,h2,Nat.add_zero,if_true,List.append_nil]
  rw [if_neg (by omega)]
 ·have hm0:¬m.length=0:=fun q=>hm (List.length_eq_zero_iff.1 q)
  rcases h with ⟨k1,k2,k3⟩ | ⟨R,k1,k2,k3,k4⟩
  ·subst k1 k2 k3
   refine ⟨G++(X++[.cells false (m.flatMap enc)]),some ⟨(G++X).length,0,none⟩,loose e, ?_, ?_,fun A H0 q1 q2=>by rw [List.append_nil];exact q2.app,fun j hj _=>by rw [List.append_nil,zHo hj],by simp⟩
   ·simp only [List.length_nil,Nat.zero_add] at hb hn⊢
    simp only [zAa,h1,h2,hm0,if_false,Nat.zero_add]
    rw [if_neg (by omega)]
    simp [place]
   ·rw [List.append_nil,List.nil_append]
    refine Own.new ?_ (by simp;omega)
    rw [←List.append_assoc];exact zHn
  ·subst k1 k2
   have hRl:=zHa k3
   have hR':zG (G++X) R=.cells false (l.flatMap enc):=by rw [zHo hRl];exact k3
   have hold:AM.loadCells (G++X) ⟨R,0,none⟩ (l.length*e)=some (l.flatMap enc):=by
    simp only [za2,hR',Nat.zero_add,zaa he,Nat.le_refl,if_true,List.drop_zero]
    rw [List.take_of_length_le (by rw [zaa he];exact Nat.le_refl _)]
   have hmt:Mut G (G.set R .dead) R:=⟨by simp,fun j hj=>zHs hj⟩
   refine ⟨G.set R .dead++(X++[.cells false ((l++m).flatMap enc)]),some ⟨(G++X).length,0,none⟩,loose e, ?_, ?_,fun A H0 q1 q2=>by rw [List.append_nil];exact (q2.mut hmt (.inr (by omega))).app,fun j hj hp=>by
    rw [List.append_nil,zHo (by simpa using hj)];exact zHs (hp _ rfl),by simp⟩
   ·simp only [zAa,h1,h2,hold,hR',hm0,if_false,if_true]
    rw [if_neg (by unfold loose;omega)]
    simp [show lim'≤R by omega,place,List.set_append_left _ _ hRl,List.append_assoc]
   ·rw [List.append_nil]
    refine Own.new ?_ (by simp;omega)
    rw [←List.append_assoc,show (G++X).length=(G.set R .dead++X).length by simp];exact zHn
theorem Own.moreD {α:Type} {lim lim' e bytes cap d:Nat} {G:zH} {enc:α→List Value} {p:Option Addr} {l:List α} (h:Own lim G enc e p cap l) (hll:lim'≤lim) (he:∀x,(enc x).length=e) (he0:e≠0) (m:List α) (hb:(l.length+m.length)*bytes≤za3) (hn:l.length+m.length<2 ^ 61) (hlG:lim≤G.length)
  (X:zH) (hd1:G.length≤d) (hd2:d<G.length+X.length) {x:Value} {str:Bool} (h1:firstCells (G++X) e str x=some (m.flatMap enc)) (h2:lenOf x=some m.length) :
  ∃G2 p' cap',zAa lim' (some d) e bytes str (.slice p l.length cap) x (G++X)=some (.slice p' (l.length+m.length) cap',G2++[])∧Own lim (G2++[]) enc e p' cap' (l++m)∧(∀A H0,H0.length≤lim→Chg A H0 G→Chg A H0 (G2++[]))∧
   (∀j,j<G.length→(∀a,p=some a→j≠a.block)→zG (G2++[]) j=zG G j)∧G.length≤G2.length∧(m≠[]→p'=some ⟨d,0,none⟩)∧(m=[]→p'=p):=by
 by_cases hm:m=[]
 ·subst hm
  have hcap:l.length≤cap:=by
   rcases h with ⟨k1,_,k3⟩ | ⟨R,_,k2,_,_⟩
   ·subst k1;simp
   ·rw [k2];simp at hn;unfold loose;omega
  refine ⟨G++X,p,cap, ?_,by rw [List.append_nil,List.append_nil];exact h.app X,fun A H0 q1 q2=>by rw [List.append_nil];exact q2.app,fun j hj _=>by rw [List.append_nil,zHo hj],by simp,fun h=>absurd rfl h,fun _=>rfl⟩
  simp only [List.length_nil,Nat.add_zero] at hb hn h2⊢
  simp only [zAa,h1,h2,Nat.add_zero,if_true,List.append_nil]
  rw [if_neg (by omega)]
 ·have hm0:¬m.length=0:=fun q=>hm (List.length_eq_zero_iff.1 q)
  rcases h with ⟨k1,k2,k3⟩ | ⟨R,k1,k2,k3,k4⟩
  ·subst k1 k2 k3
   refine ⟨(G++X).set d (.cells false (m.flatMap enc)),some ⟨d,0,none⟩,loose e, ?_, ?_,fun A H0 q1 q2=>by rw [List.append_nil];exact q2.app.set (.inr (by omega)),fun j hj _=>by rw [List.append_nil,zHs (by omega),zHo hj],by simp,fun _=>rfl,fun h=>absurd h hm⟩
   ·simp only [List.length_nil,Nat.zero_add] at hb hn⊢
    simp only [zAa,h1,h2,hm0,if_false,Nat.zero_add]
    rw [if_neg (by omega)]
    simp [place]
   ·rw [List.append_nil,List.nil_append]
    exact Own.new (zbi (by simp;omega)) (by omega)
  ·subst k1 k2
   have hRl:=zHa k3
   have hR':zG (G++X) R=.cells false (l.flatMap enc):=by rw [zHo hRl];exact k3
   have hold:AM.loadCells (G++X) ⟨R,0,none⟩ (l.length*e)=some (l.flatMap enc):=by
    simp only [za2,hR',Nat.zero_add,zaa he,Nat.le_refl,if_true,List.drop_zero]
    rw [List.take_of_length_le (by rw [zaa he];exact Nat.le_refl _)]
   refine ⟨((G++X).set R .dead).set d (.cells false ((l++m).flatMap enc)),some ⟨d,0,none⟩,loose e, ?_, ?_,fun A H0 q1 q2=>by rw [List.append_nil];exact (q2.app.set (.inr (by omega))).set (.inr (by omega)),fun j hj hp=>by
    rw [List.append_nil,zHs (by omega),zHs (hp _ rfl),zHo hj],by simp,fun _=>rfl,fun h=>absurd h hm⟩
   ·simp only [zAa,h1,h2,hold,hR',hm0,if_false,if_true]
    rw [if_neg (by unfold loose;omega)]
    simp [show lim'≤R by omega,place]
   ·rw [List.append_nil]
    exact Own.new (zbi (by simp;omega)) (by omega)
theorem zbk {α:Type} {e k:Nat} {H:zH} {enc:α→List Value} {p:Option Addr} {m:List α} (hs:Sl H enc e p m):firstCells H e false (.slice p m.length k)=some (m.flatMap enc):=by
 by_cases hm:m=[]
 ·subst hm
  cases p<;>simp [firstCells]
 ·obtain ⟨a,rfl,hl⟩:=hs.cells hm
  have:m.length≠0:=fun h=>hm (List.length_eq_zero_iff.1 h)
  simp [firstCells,this,hl]
theorem Sl.pre {α:Type} {H:zH} {enc:α→List Value} {e:Nat} {p:Option Addr} {l m:List α} (h:Sl H enc e p (l++m)) (he:∀x,(enc x).length=e):Sl H enc e p l:=by
 cases p with
 | none=>simp only [Sl] at h;exact (List.append_eq_nil_iff.1 h).1
 | some a=>
   refine ⟨h.1,fun hn=>?_⟩
   obtain ⟨ro,c,h1,h2,h3⟩:=h.2 (by simp [hn])
   have hle:l.length*e≤(l++m).length*e:=Nat.mul_le_mul_right e (by simp)
   refine ⟨ro,c,h1,by omega, ?_⟩
   have h4:=congrArg (List.take (l.length*e)) h3
   rw [List.take_take,Nat.min_eq_left hle,List.flatMap_append,List.take_append_of_le_length (by rw [zaa he];exact Nat.le_refl _),List.take_of_length_le (l:=l.flatMap enc) (by rw [zaa he];exact Nat.le_refl _)] at h4
   exact h4
theorem Sl.row {α:Type} {H:zH} {enc:α→List Value} {e R:Nat} {l:List α} (he:∀x,(enc x).length=e) {ro:Bool} (h:zG H R=.cells ro (l.flatMap enc)):Sl H enc e (Option.some ⟨R,0,none⟩) l:=Sl.lit he (by rw [h];rfl) (by rw [h];rfl)
theorem Own.chg {α:Type} {A:List Nat} {lim e cap:Nat} {G H':zH} {enc:α→List Value} {p:Option Addr} {l:List α} (h:Own lim G enc e p cap l) (hc:Chg A G H') (hp:∀a,p=some a→a.block∉A):Own lim H' enc e p cap l:=by
 rcases h with h | ⟨R,h1,h2,h3,h4⟩
 ·exact .inl h
 ·exact .inr ⟨R,h1,h2,hc.cells h3 (hp _ h1),h4⟩
def CapOk (e c n:Nat):Prop:=c=loose e∨(n≤c∧c<2 ^ 62)
theorem flat_take {α:Type} {enc:α→List Value} {e:Nat} (he:∀x,(enc x).length=e):∀(l:List α) (k:Nat),(l.take k).flatMap enc=(l.flatMap enc).take (k*e)
 | [],k=>by simp
 | x::l,0=>by simp
 | x::l,k+1=>by
   rw [List.take_succ_cons,List.flatMap_cons,List.flatMap_cons,flat_take he l k,List.take_append,he,List.take_of_length_le (l:=enc x) (by rw [he,Nat.succ_mul];omega),Nat.succ_mul,Nat.add_sub_cancel]
theorem flat_dropN {α:Type} {enc:α→List Value} {e:Nat} (he:∀x,(enc x).length=e):∀(l:List α) (k:Nat),(l.drop k).flatMap enc=(l.flatMap enc).drop (k*e)
 | [],k=>by simp
 | x::l,0=>by simp
 | x::l,k+1=>by
   rw [List.drop_succ_cons,List.flatMap_cons,flat_dropN he l k,List.drop_append,he,List.drop_eq_nil_of_le (as:=enc x) (by rw [he,Nat.succ_mul];omega),List.nil_append,Nat.succ_mul,Nat.add_sub_cancel]
theorem Sl.sub {α:Type} {H:zH} {enc:α→List Value} {e:Nat} {a:Addr} {l:List α} (h:Sl H enc e (Option.some a) l) (he:∀x,(enc x).length=e) {lo hi:Nat} (h1:lo≤hi) (h2:hi≤l.length):Sl H enc e (Option.some (a.add (lo*e))) ((l.take hi).drop lo):=by
 obtain ⟨b,o,s⟩:=a
 have hs:=h.1
 simp only at hs;subst hs
 rw [zay]
 refine ⟨rfl,fun hn=>?_⟩
 have hne:l≠[]:=by rintro rfl;simp at hn
 obtain ⟨ro,c,k1,k2,k3⟩:=h.2 hne
 have hlen:((l.take hi).drop lo).length=hi-lo:=by simp;omega
 have e1:(hi-lo)*e+lo*e=hi*e:=by rw [←Nat.add_mul,Nat.sub_add_cancel h1]
 have e2:hi*e≤l.length*e:=Nat.mul_le_mul_right e h2
 refine ⟨ro,c,k1,by simp only [hlen] at *;omega, ?_⟩
 simp only at k2 k3⊢
 rw [hlen,flat_dropN he,flat_take he,←k3,List.take_take,Nat.min_eq_left e2,List.drop_take,List.drop_drop,show hi*e-lo*e=(hi-lo)*e by omega]
theorem slice_arg {t:Ty} {H:zH} {l:List t.den} {v:Value} {α:Type} (f:t.den→α) (enc:α→List Value) (he:∀H x c,Rep t H x c→c=enc (f x)) (h:RepV (.slice t) H l v) :
  ∃p cap,v=.slice p (l.map f).length cap∧Sl H enc t.size p (l.map f)∧CapOk t.size cap (l.map f).length∧(l.map f).length<2 ^ 63:=by
 have h0:=RepV.one rfl h
 obtain ⟨p,cap,e,h1,h2⟩:=Rep.sl f enc he h0
 refine ⟨p,cap,List.singleton_inj.1 e,h1, ?_,by simpa using h2⟩
 obtain ⟨_,p',cap',e',k1,k2⟩:=h0
 rw [e] at e'
 simp only [List.cons.injEq,Value.slice.injEq,and_true] at e'
 obtain ⟨e1,_,e3⟩:=e'
 subst e1 e3
 cases p with
 | none=>obtain ⟨q1,q2⟩:=k1 rfl;exact .inr (by rw [q1,q2];simp)
 | some a=>exact .inl (k2 a rfl).2.2.1
theorem sliceAV_cut {n e lo hi:Nat} {a:Addr} {vlo vhi:Option Value} (hb:zde n n vlo vhi none=some (lo,hi,n)) (hn:n<2 ^ 62) (hl:lo<n):sliceAV n e (.pointer (some a)) vlo vhi none=some (.slice (some (a.add (lo*e))) (hi-lo) (n-lo)):=by
 have hB:zbp unV n n (vlo.map .const) (vhi.map .const) none=some (lo,hi,n):=by
  rw [bounds_V,←hb]
  cases vlo<;>cases vhi<;>rfl
 simp only [sliceAV,Option.map_none,hB,if_pos hn]
 rw [if_neg (by omega)]
theorem Sl.same {α:Type} {H G:zH} {enc:α→List Value} {e:Nat} {p:Option Addr} {l:List α} (h:Sl H enc e p l) (hg:∀a,p=Option.some a→l≠[]→zG G a.block=zG H a.block):Sl G enc e p l:=by
 cases p with
 | none=>exact h
 | some a=>
   refine ⟨h.1,fun hn=>?_⟩
   obtain ⟨ro,c,h2,h3⟩:=h.2 hn
   exact ⟨ro,c,by rw [hg a rfl hn];exact h2,h3⟩
theorem Own.appL {α:Type} {lim lim' e bytes cap:Nat} {G H:zH} {enc:α→List Value} {p:Option Addr} {l:List α} {dest:Option Nat} {str:Bool} {x:Value} (h:Own lim G enc e p cap l):appendLV lim' dest e bytes str (.slice p l.length cap) x H=zAa lim' dest e bytes str (.slice p l.length cap) x H:=by
 rcases h with ⟨h1,h2,h3⟩ | ⟨R,h1,h2,h3,h4⟩
 ·subst h2;rfl
 ·subst h1;rw [appendLV_some,if_pos (.inl h2)]
theorem Ext.get' {H G:zH} (h:Ext H G) {j:Nat} {b:Blk} (hj:zG H j=b) (hl:j<H.length):zG G j=b:=by
 obtain ⟨X,rfl⟩:=h
 rw [zHo hl];exact hj
end Go.AM

namespace Go.AM.Srt
open Go.AM Go.AM.Sym
structure Ids where
 (e LEN32 INS SIFT HEAP BRK CHO REV PIS PEQ PART PDQ SORT LEN LEN64 NPT XOR MEDA MED ORD:Nat)
def lINS_1 (z:Ids):zAc:=(.seq (.seq (.drawn 0 [mT 18 9,mT 19 1,i 20 (.bin .gtr (t 18) (t 19)),mT 21 20,⟨(some 22),(some (21,true)),(.mov (t 3)),none,[]⟩,⟨(some 23),(some (21,true)),(.mov (t 0)),none,[]⟩,⟨(some 24),(some (21,true)),(.mov (t 9)),none,[]⟩,⟨(some 25),(some (21,true)),(.idxAddrS z.e (t 23) (t 24)),none,[]⟩,⟨(some 26),(some (21,true)),(.loadN z.e (t 25)),none,[]⟩,⟨(some 27),(some (21,true)),(.mov (t 0)),none,[]⟩,⟨(some 28),(some (21,true)),(.mov (t 9)),none,[]⟩,⟨(some 29),(some (21,true)),(.bin .sub (t 28) (zT 1)),none,[]⟩,⟨(some 30),(some (21,true)),(.idxAddrS z.e (t 27) (t 29)),none,[]⟩,⟨(some 31),(some (21,true)),(.loadN z.e (t 30)),none,[]⟩,⟨(some 32),(some (21,true)),(.call .pure (t 22) [(t 26),(t 31)]),none,[]⟩,⟨(some 33),(some (21,true)),(.bin .lss (t 32) (zT 0)),none,[]⟩,i 34 (.pick (t 21) (t 33) (k (.bool false)))]) (.cond (t 34) .skip (.exit 2))) (.seq (.block 3 (.drawn 0 [mT 37 0,mT 38 9,mT 39 0,mT 40 9,i 41 (.bin .sub (t 40) (zT 1)),mT 42 0,mT 43 9,i 44 (.bin .sub (t 43) (zT 1)),i 45 (.idxAddrS z.e (t 42) (t 44)),i 46 (.loadN z.e (t 45)),mT 47 0,mT 48 9,i 49 (.idxAddrS z.e (t 47) (t 48)),i 50 (.loadN z.e (t 49)),i 51 (.idxAddrS z.e (t 37) (t 38)),⟨none,none,(.store z.e (t 51) (t 46)),none,[]⟩,i 52 (.idxAddrS z.e (t 39) (t 41)),⟨none,none,(.store z.e (t 52) (t 50)),none,[]⟩])) (.ops [mT 35 9,i 36 (.bin .sub (t 35) (zT 1)),mT 9 36])))
def lINS_2 (z:Ids):zAc:=(.seq (.seq (.ops [mT 12 8,mT 13 2,i 14 (.bin .lss (t 12) (t 13))]) (.cond (t 14) .skip (.exit 0))) (.seq (.block 1 (.seq (.ops [mT 17 8,mT 9 17]) (.block 2 (.loop (lINS_1 z))))) (.ops [mT 15 8,i 16 (.bin .add (t 15) (zT 1)),mT 8 16])))
def cINS (z:Ids):zAc:=(.seq (.ops [mT 10 1,i 11 (.bin .add (t 10) (zT 1)),mT 8 11]) (.block 0 (.loop (lINS_2 z))))
def aINS (z:Ids):zAf:=⟨53,[],cINS z⟩
theorem nINS {z:Ids}:(aINS z).ntmps=53:=id rfl
theorem rINS {z:Ids}:(aINS z).results=[]:=rfl
theorem bINS {z:Ids}:(aINS z).body=cINS z:=rfl
def lSIFT_1 (z:Ids):zAc:=(.block 1 (.seq (.ops [mT 13 10,i 14 (.bin .mul (zT 2) (t 13)),i 15 (.bin .add (t 14) (zT 1)),mT 11 15]) (.seq (.seq (.ops [mT 16 11,mT 17 2,i 18 (.bin .geq (t 16) (t 17))]) (.cond (t 18) (.exit 0) .skip)) (.seq (.seq (.drawn 0 [mT 19 11,i 20 (.bin .add (t 19) (zT 1)),mT 21 2,i 22 (.bin .lss (t 20) (t 21)),mT 23 22,⟨(some 24),(some (23,true)),(.mov (t 4)),none,[]⟩,⟨(some 25),(some (23,true)),(.mov (t 0)),none,[]⟩,⟨(some 26),(some (23,true)),(.mov (t 3)),none,[]⟩,⟨(some 27),(some (23,true)),(.mov (t 11)),none,[]⟩,⟨(some 28),(some (23,true)),(.bin .add (t 26) (t 27)),none,[]⟩,⟨(some 29),(some (23,true)),(.idxAddrS z.e (t 25) (t 28)),none,[]⟩,⟨(some 30),(some (23,true)),(.loadN z.e (t 29)),none,[]⟩,⟨(some 31),(some (23,true)),(.mov (t 0)),none,[]⟩,⟨(some 32),(some (23,true)),(.mov (t 3)),none,[]⟩,⟨(some 33),(some (23,true)),(.mov (t 11)),none,[]⟩,⟨(some 34),(some (23,true)),(.bin .add (t 32) (t 33)),none,[]⟩,⟨(some 35),(some (23,true)),(.bin .add (t 34) (zT 1)),none,[]⟩,⟨(some 36),(some (23,true)),(.idxAddrS z.e (t 31) (t 35)),none,[]⟩,⟨(some 37),(some (23,true)),(.loadN z.e (t 36)),none,[]⟩,⟨(some 38),(some (23,true)),(.call .pure (t 24) [(t 30),(t 37)]),none,[]⟩,⟨(some 39),(some (23,true)),(.bin .lss (t 38) (zT 0)),none,[]⟩,i 40 (.pick (t 23) (t 39) (k (.bool false)))]) (.cond (t 40) (.ops [mT 41 11,i 42 (.bin .add (t 41) (zT 1)),mT 11 42]) .skip)) (.seq (.seq (.drawn 0 [mT 43 4,mT 44 0,mT 45 3,mT 46 10,i 47 (.bin .add (t 45) (t 46)),i 48 (.idxAddrS z.e (t 44) (t 47)),i 49 (.loadN z.e (t 48)),mT 50 0,mT 51 3,mT 52 11,i 53 (.bin .add (t 51) (t 52)),i 54 (.idxAddrS z.e (t 50) (t 53)),i 55 (.loadN z.e (t 54)),i 56 (.call .pure (t 43) [(t 49),(t 55)]),i 57 (.bin .lss (t 56) (zT 0)),i 58 (.un .not (t 57))]) (.cond (t 58) .ret .skip)) (.seq (.drawn 0 [mT 59 0,mT 60 3,mT 61 10,i 62 (.bin .add (t 60) (t 61)),mT 63 0,mT 64 3,mT 65 11,i 66 (.bin .add (t 64) (t 65)),mT 67 0,mT 68 3,mT 69 11,i 70 (.bin .add (t 68) (t 69)),i 71 (.idxAddrS z.e (t 67) (t 70)),i 72 (.loadN z.e (t 71)),mT 73 0,mT 74 3,mT 75 10,i 76 (.bin .add (t 74) (t 75)),i 77 (.idxAddrS z.e (t 73) (t 76)),i 78 (.loadN z.e (t 77)),i 79 (.idxAddrS z.e (t 59) (t 62)),⟨none,none,(.store z.e (t 79) (t 72)),none,[]⟩,i 80 (.idxAddrS z.e (t 63) (t 66)),⟨none,none,(.store z.e (t 80) (t 78)),none,[]⟩]) (.ops [mT 81 11,mT 10 81])))))))
def cSIFT (z:Ids):zAc:=(.seq (.ops [mT 12 1,mT 10 12]) (.block 0 (.loop (lSIFT_1 z))))
def aSIFT (z:Ids):zAf:=⟨82,[],cSIFT z⟩
theorem nSIFT {z:Ids}:(aSIFT z).ntmps=82:=id rfl
theorem rSIFT {z:Ids}:(aSIFT z).results=[]:=rfl
theorem bSIFT {z:Ids}:(aSIFT z).body=cSIFT z:=rfl
def lHEAP_1 (z:Ids):zAc:=(.seq (.seq (.ops [mT 32 12,i 33 (.bin .geq (t 32) (zT 0))]) (.cond (t 33) .skip (.exit 2))) (.seq (.block 3 (.seq (.drawn 0 [mT 36 0,mT 37 8,mT 38 0,mT 39 8,mT 40 12,i 41 (.bin .add (t 39) (t 40)),mT 42 0,mT 43 8,mT 44 12,i 45 (.bin .add (t 43) (t 44)),i 46 (.idxAddrS z.e (t 42) (t 45)),i 47 (.loadN z.e (t 46)),mT 48 0,mT 49 8,i 50 (.idxAddrS z.e (t 48) (t 49)),i 51 (.loadN z.e (t 50)),i 52 (.idxAddrS z.e (t 36) (t 37)),⟨none,none,(.store z.e (t 52) (t 47)),none,[]⟩,i 53 (.idxAddrS z.e (t 38) (t 41)),⟨none,none,(.store z.e (t 53) (t 51)),none,[]⟩]) (.ops [mT 54 0,mT 55 9,mT 56 12,mT 57 8,mT 58 3,i 59 (.call .any (.func z.SIFT) [(t 54),(t 55),(t 56),(t 57),(t 58)])]))) (.ops [mT 34 12,i 35 (.bin .sub (t 34) (zT 1)),mT 12 35])))
def lHEAP_2 (z:Ids):zAc:=(.seq (.seq (.ops [mT 20 11,i 21 (.bin .geq (t 20) (zT 0))]) (.cond (t 21) .skip (.exit 0))) (.seq (.block 1 (.ops [mT 24 0,mT 25 11,mT 26 10,mT 27 8,mT 28 3,i 29 (.call .any (.func z.SIFT) [(t 24),(t 25),(t 26),(t 27),(t 28)])])) (.ops [mT 22 11,i 23 (.bin .sub (t 22) (zT 1)),mT 11 23])))
def cHEAP (z:Ids):zAc:=(.seq (.ops [mT 13 1,mT 8 13]) (.seq (.ops [i 9 (.mov (zT 0))]) (.seq (.ops [mT 14 2,mT 15 1,i 16 (.bin .sub (t 14) (t 15)),mT 10 16]) (.seq (.seq (.ops [mT 17 10,i 18 (.bin .sub (t 17) (zT 1)),i 19 (.bin .quo (t 18) (zT 2)),mT 11 19]) (.block 0 (.loop (lHEAP_2 z)))) (.seq (.ops [mT 30 10,i 31 (.bin .sub (t 30) (zT 1)),mT 12 31]) (.block 2 (.loop (lHEAP_1 z))))))))
def aHEAP (z:Ids):zAf:=⟨60,[],cHEAP z⟩
theorem nHEAP {z:Ids}:(aHEAP z).ntmps=60:=id rfl
theorem rHEAP {z:Ids}:(aHEAP z).results=[]:=rfl
theorem bHEAP {z:Ids}:(aHEAP z).body=cHEAP z:=rfl
def lBRK_1 (z:Ids):zAc:=(.seq (.seq (.ops [mT 28 11,mT 29 1,mT 30 8,i 31 (.bin .quo (t 30) (zT 4)),i 32 (.bin .mul (t 31) (zT 2)),i 33 (.bin .add (t 29) (t 32)),i 34 (.bin .add (t 33) (zT 1)),i 35 (.bin .leq (t 28) (t 34))]) (.cond (t 35) .skip (.exit 0))) (.seq (.block 1 (.seq (.ops [i 38 (.call .any (.func z.XOR) [(t 9)]),mT 39 10,i 40 (.bin .sub (t 39) (k (.int .u64 1))),i 41 (.bin .and (t 38) (t 40)),i 42 (.conv .i64 (t 41)),mT 12 42]) (.seq (.seq (.ops [mT 43 12,mT 44 8,i 45 (.bin .geq (t 43) (t 44))]) (.cond (t 45) (.ops [mT 46 12,mT 47 8,i 48 (.bin .sub (t 46) (t 47)),mT 12 48]) .skip)) (.drawn 0 [mT 49 0,mT 50 11,mT 51 0,mT 52 1,mT 53 12,i 54 (.bin .add (t 52) (t 53)),mT 55 0,mT 56 1,mT 57 12,i 58 (.bin .add (t 56) (t 57)),i 59 (.idxAddrS z.e (t 55) (t 58)),i 60 (.loadN z.e (t 59)),mT 61 0,mT 62 11,i 63 (.idxAddrS z.e (t 61) (t 62)),i 64 (.loadN z.e (t 63)),i 65 (.idxAddrS z.e (t 49) (t 50)),⟨none,none,(.store z.e (t 65) (t 60)),none,[]⟩,i 66 (.idxAddrS z.e (t 51) (t 54)),⟨none,none,(.store z.e (t 66) (t 64)),none,[]⟩])))) (.ops [mT 36 11,i 37 (.bin .add (t 36) (zT 1)),mT 11 37])))
def cBRK (z:Ids):zAc:=(.seq (.ops [mT 13 2,mT 14 1,i 15 (.bin .sub (t 13) (t 14)),mT 8 15]) (.seq (.ops [mT 16 8,i 17 (.bin .geq (t 16) (zT 8))]) (.cond (t 17) (.seq (.ops [mT 18 8,i 19 (.conv .u64 (t 18)),i 9 (.alloc [(.int .u64 0)]),⟨none,none,(.store 1 (t 9) (t 19)),none,[]⟩]) (.seq (.ops [mT 20 8,i 21 (.call .any (.func z.NPT) [(t 20)]),mT 10 21]) (.seq (.ops [mT 22 1,mT 23 8,i 24 (.bin .quo (t 23) (zT 4)),i 25 (.bin .mul (t 24) (zT 2)),i 26 (.bin .add (t 22) (t 25)),i 27 (.bin .sub (t 26) (zT 1)),mT 11 27]) (.block 0 (.loop (lBRK_1 z)))))) .skip)))
def aBRK (z:Ids):zAf:=⟨67,[],cBRK z⟩
theorem nBRK {z:Ids}:(aBRK z).ntmps=67:=id rfl
theorem rBRK {z:Ids}:(aBRK z).results=[]:=rfl
theorem bBRK {z:Ids}:(aBRK z).body=cBRK z:=rfl
def cCHO (z:Ids):zAc:=(.seq (.ops [i 8 (.mov (zT 0)),i 9 (.mov (zT 0))]) (.seq (.ops [mT 15 2,mT 16 1,i 17 (.bin .sub (t 15) (t 16)),mT 10 17]) (.seq (.ops [i 11 (.alloc [(.int .i64 0)])]) (.seq (.ops [mT 18 1,mT 19 10,i 20 (.bin .quo (t 19) (zT 4)),i 21 (.bin .mul (t 20) (zT 1)),i 22 (.bin .add (t 18) (t 21)),mT 12 22]) (.seq (.ops [mT 23 1,mT 24 10,i 25 (.bin .quo (t 24) (zT 4)),i 26 (.bin .mul (t 25) (zT 2)),i 27 (.bin .add (t 23) (t 26)),mT 13 27]) (.seq (.ops [mT 28 1,mT 29 10,i 30 (.bin .quo (t 29) (zT 4)),i 31 (.bin .mul (t 30) (zT 3)),i 32 (.bin .add (t 28) (t 31)),mT 14 32]) (.seq (.seq (.ops [mT 33 10,i 34 (.bin .geq (t 33) (zT 8))]) (.cond (t 34) (.seq (.seq (.ops [mT 35 10,i 36 (.bin .geq (t 35) (zT 50))]) (.cond (t 36) (.seq (.ops [mT 37 0,mT 38 12,mT 39 3,i 40 (.call .any (.func z.MEDA) [(t 37),(t 38),(t 11),(t 39)]),mT 12 40]) (.seq (.ops [mT 41 0,mT 42 13,mT 43 3,i 44 (.call .any (.func z.MEDA) [(t 41),(t 42),(t 11),(t 43)]),mT 13 44]) (.ops [mT 45 0,mT 46 14,mT 47 3,i 48 (.call .any (.func z.MEDA) [(t 45),(t 46),(t 11),(t 47)]),mT 14 48]))) .skip)) (.ops [mT 49 0,mT 50 12,mT 51 13,mT 52 14,mT 53 3,i 54 (.call .any (.func z.MED) [(t 49),(t 50),(t 51),(t 52),(t 11),(t 53)]),mT 13 54])) .skip)) (.seq (.ops [lT 55 11]) (.block 0 (.seq (.ops [i 58 (.bin .eql (t 55) (zT 0)),mT 57 58]) (.cond (t 57) (.seq (.ops [mT 59 13,mT 8 59,i 9 (.mov (zT 1))]) .ret) (.seq (.ops [i 61 (.bin .eql (t 55) (zT 12)),mT 60 61]) (.cond (t 60) (.seq (.ops [mT 62 13,mT 8 62,i 9 (.mov (zT 2))]) .ret) (.seq (.ops [mT 56 13,mT 8 56,i 9 (.mov (zT 0))]) .ret))))))))))))))
def aCHO (z:Ids):zAf:=⟨63,[(.tmp 8),(.tmp 9)],cCHO z⟩
theorem nCHO {z:Ids}:(aCHO z).ntmps=63:=id rfl
theorem rCHO {z:Ids}:(aCHO z).results=[(.tmp 8),(.tmp 9)]:=rfl
theorem bCHO {z:Ids}:(aCHO z).body=cCHO z:=rfl
def lREV_1 (z:Ids):zAc:=(.seq (.seq (.ops [mT 13 8,mT 14 9,i 15 (.bin .lss (t 13) (t 14))]) (.cond (t 15) .skip (.exit 0))) (.block 1 (.seq (.drawn 0 [mT 16 0,mT 17 8,mT 18 0,mT 19 9,mT 20 0,mT 21 9,i 22 (.idxAddrS z.e (t 20) (t 21)),i 23 (.loadN z.e (t 22)),mT 24 0,mT 25 8,i 26 (.idxAddrS z.e (t 24) (t 25)),i 27 (.loadN z.e (t 26)),i 28 (.idxAddrS z.e (t 16) (t 17)),⟨none,none,(.store z.e (t 28) (t 23)),none,[]⟩,i 29 (.idxAddrS z.e (t 18) (t 19)),⟨none,none,(.store z.e (t 29) (t 27)),none,[]⟩]) (.seq (.ops [mT 30 8,i 31 (.bin .add (t 30) (zT 1)),mT 8 31]) (.ops [mT 32 9,i 33 (.bin .sub (t 32) (zT 1)),mT 9 33])))))
def cREV (z:Ids):zAc:=(.seq (.ops [mT 10 1,mT 8 10]) (.seq (.ops [mT 11 2,i 12 (.bin .sub (t 11) (zT 1)),mT 9 12]) (.block 0 (.loop (lREV_1 z)))))
def aREV (z:Ids):zAf:=⟨34,[],cREV z⟩
theorem nREV {z:Ids}:(aREV z).ntmps=34:=id rfl
theorem rREV {z:Ids}:(aREV z).results=[]:=rfl
theorem bREV {z:Ids}:(aREV z).body=cREV z:=rfl
def lPIS_1 (z:Ids):zAc:=(.seq (.seq (.ops [mT 107 12,mT 108 2,i 109 (.bin .lss (t 107) (t 108))]) (.cond (t 109) .skip (.exit 6))) (.seq (.block 7 (.seq (.seq (.drawn 0 [mT 112 3,mT 113 0,mT 114 12,i 115 (.idxAddrS z.e (t 113) (t 114)),i 116 (.loadN z.e (t 115)),mT 117 0,mT 118 12,i 119 (.bin .sub (t 118) (zT 1)),i 120 (.idxAddrS z.e (t 117) (t 119)),i 121 (.loadN z.e (t 120)),i 122 (.call .pure (t 112) [(t 116),(t 121)]),i 123 (.bin .lss (t 122) (zT 0)),i 124 (.un .not (t 123))]) (.cond (t 124) (.exit 6) .skip)) (.drawn 0 [mT 125 0,mT 126 12,mT 127 0,mT 128 12,i 129 (.bin .sub (t 128) (zT 1)),mT 130 0,mT 131 12,i 132 (.bin .sub (t 131) (zT 1)),i 133 (.idxAddrS z.e (t 130) (t 132)),i 134 (.loadN z.e (t 133)),mT 135 0,mT 136 12,i 137 (.idxAddrS z.e (t 135) (t 136)),i 138 (.loadN z.e (t 137)),i 139 (.idxAddrS z.e (t 125) (t 126)),⟨none,none,(.store z.e (t 139) (t 134)),none,[]⟩,i 140 (.idxAddrS z.e (t 127) (t 129)),⟨none,none,(.store z.e (t 140) (t 138)),none,[]⟩]))) (.ops [mT 110 12,i 111 (.bin .add (t 110) (zT 1)),mT 12 111])))
def lPIS_2 (z:Ids):zAc:=(.seq (.seq (.ops [mT 68 11,i 69 (.bin .geq (t 68) (zT 1))]) (.cond (t 69) .skip (.exit 4))) (.seq (.block 5 (.seq (.seq (.drawn 0 [mT 72 3,mT 73 0,mT 74 11,i 75 (.idxAddrS z.e (t 73) (t 74)),i 76 (.loadN z.e (t 75)),mT 77 0,mT 78 11,i 79 (.bin .sub (t 78) (zT 1)),i 80 (.idxAddrS z.e (t 77) (t 79)),i 81 (.loadN z.e (t 80)),i 82 (.call .pure (t 72) [(t 76),(t 81)]),i 83 (.bin .lss (t 82) (zT 0)),i 84 (.un .not (t 83))]) (.cond (t 84) (.exit 4) .skip)) (.drawn 0 [mT 85 0,mT 86 11,mT 87 0,mT 88 11,i 89 (.bin .sub (t 88) (zT 1)),mT 90 0,mT 91 11,i 92 (.bin .sub (t 91) (zT 1)),i 93 (.idxAddrS z.e (t 90) (t 92)),i 94 (.loadN z.e (t 93)),mT 95 0,mT 96 11,i 97 (.idxAddrS z.e (t 95) (t 96)),i 98 (.loadN z.e (t 97)),i 99 (.idxAddrS z.e (t 85) (t 86)),⟨none,none,(.store z.e (t 99) (t 94)),none,[]⟩,i 100 (.idxAddrS z.e (t 87) (t 89)),⟨none,none,(.store z.e (t 100) (t 98)),none,[]⟩]))) (.ops [mT 70 11,i 71 (.bin .sub (t 70) (zT 1)),mT 11 71])))
def lPIS_3 (z:Ids):zAc:=(.seq (.seq (.drawn 0 [mT 19 9,mT 20 2,i 21 (.bin .lss (t 19) (t 20)),mT 22 21,⟨(some 23),(some (22,true)),(.mov (t 3)),none,[]⟩,⟨(some 24),(some (22,true)),(.mov (t 0)),none,[]⟩,⟨(some 25),(some (22,true)),(.mov (t 9)),none,[]⟩,⟨(some 26),(some (22,true)),(.idxAddrS z.e (t 24) (t 25)),none,[]⟩,⟨(some 27),(some (22,true)),(.loadN z.e (t 26)),none,[]⟩,⟨(some 28),(some (22,true)),(.mov (t 0)),none,[]⟩,⟨(some 29),(some (22,true)),(.mov (t 9)),none,[]⟩,⟨(some 30),(some (22,true)),(.bin .sub (t 29) (zT 1)),none,[]⟩,⟨(some 31),(some (22,true)),(.idxAddrS z.e (t 28) (t 30)),none,[]⟩,⟨(some 32),(some (22,true)),(.loadN z.e (t 31)),none,[]⟩,⟨(some 33),(some (22,true)),(.call .pure (t 23) [(t 27),(t 32)]),none,[]⟩,⟨(some 34),(some (22,true)),(.bin .lss (t 33) (zT 0)),none,[]⟩,⟨(some 35),(some (22,true)),(.un .not (t 34)),none,[]⟩,i 36 (.pick (t 22) (t 35) (k (.bool false)))]) (.cond (t 36) .skip (.exit 2))) (.block 3 (.ops [mT 37 9,i 38 (.bin .add (t 37) (zT 1)),mT 9 38])))
def lPIS_4 (z:Ids):zAc:=(.seq (.seq (.ops [mT 15 10,i 16 (.bin .lss (t 15) (zT 5))]) (.cond (t 16) .skip (.exit 0))) (.seq (.block 1 (.seq (.block 2 (.loop (lPIS_3 z))) (.seq (.seq (.ops [mT 39 9,mT 40 2,i 41 (.bin .eql (t 39) (t 40))]) (.cond (t 41) (.seq (.ops [i 8 (.mov (k (.bool true)))]) .ret) .skip)) (.seq (.seq (.ops [mT 42 2,mT 43 1,i 44 (.bin .sub (t 42) (t 43)),i 45 (.bin .lss (t 44) (zT 50))]) (.cond (t 45) (.seq (.ops [i 8 (.mov (k (.bool false)))]) .ret) .skip)) (.seq (.drawn 0 [mT 46 0,mT 47 9,mT 48 0,mT 49 9,i 50 (.bin .sub (t 49) (zT 1)),mT 51 0,mT 52 9,i 53 (.bin .sub (t 52) (zT 1)),i 54 (.idxAddrS z.e (t 51) (t 53)),i 55 (.loadN z.e (t 54)),mT 56 0,mT 57 9,i 58 (.idxAddrS z.e (t 56) (t 57)),i 59 (.loadN z.e (t 58)),i 60 (.idxAddrS z.e (t 46) (t 47)),⟨none,none,(.store z.e (t 60) (t 55)),none,[]⟩,i 61 (.idxAddrS z.e (t 48) (t 50)),⟨none,none,(.store z.e (t 61) (t 59)),none,[]⟩]) (.seq (.seq (.ops [mT 62 9,mT 63 1,i 64 (.bin .sub (t 62) (t 63)),i 65 (.bin .geq (t 64) (zT 2))]) (.cond (t 65) (.seq (.ops [mT 66 9,i 67 (.bin .sub (t 66) (zT 1)),mT 11 67]) (.block 4 (.loop (lPIS_2 z)))) .skip)) (.seq (.ops [mT 101 2,mT 102 9,i 103 (.bin .sub (t 101) (t 102)),i 104 (.bin .geq (t 103) (zT 2))]) (.cond (t 104) (.seq (.ops [mT 105 9,i 106 (.bin .add (t 105) (zT 1)),mT 12 106]) (.block 6 (.loop (lPIS_1 z)))) .skip)))))))) (.ops [mT 17 10,i 18 (.bin .add (t 17) (zT 1)),mT 10 18])))
def cPIS (z:Ids):zAc:=(.seq (.ops [i 8 (.mov (k (.bool false)))]) (.seq (.ops [mT 13 1,i 14 (.bin .add (t 13) (zT 1)),mT 9 14]) (.seq (.seq (.ops [i 10 (.mov (zT 0))]) (.block 0 (.loop (lPIS_4 z)))) (.seq (.ops [i 8 (.mov (k (.bool false)))]) .ret))))
def aPIS (z:Ids):zAf:=⟨141,[(.tmp 8)],cPIS z⟩
theorem nPIS {z:Ids}:(aPIS z).ntmps=141:=id rfl
theorem rPIS {z:Ids}:(aPIS z).results=[(.tmp 8)]:=rfl
theorem bPIS {z:Ids}:(aPIS z).body=cPIS z:=rfl
def lPEQ_1 (z:Ids):zAc:=(.seq (.seq (.drawn 0 [mT 50 11,mT 51 12,i 52 (.bin .leq (t 50) (t 51)),mT 53 52,⟨(some 54),(some (53,true)),(.mov (t 4)),none,[]⟩,⟨(some 55),(some (53,true)),(.mov (t 0)),none,[]⟩,⟨(some 56),(some (53,true)),(.mov (t 1)),none,[]⟩,⟨(some 57),(some (53,true)),(.idxAddrS z.e (t 55) (t 56)),none,[]⟩,⟨(some 58),(some (53,true)),(.loadN z.e (t 57)),none,[]⟩,⟨(some 59),(some (53,true)),(.mov (t 0)),none,[]⟩,⟨(some 60),(some (53,true)),(.mov (t 12)),none,[]⟩,⟨(some 61),(some (53,true)),(.idxAddrS z.e (t 59) (t 60)),none,[]⟩,⟨(some 62),(some (53,true)),(.loadN z.e (t 61)),none,[]⟩,⟨(some 63),(some (53,true)),(.call .pure (t 54) [(t 58),(t 62)]),none,[]⟩,⟨(some 64),(some (53,true)),(.bin .lss (t 63) (zT 0)),none,[]⟩,i 65 (.pick (t 53) (t 64) (k (.bool false)))]) (.cond (t 65) .skip (.exit 4))) (.block 5 (.ops [mT 66 12,i 67 (.bin .sub (t 66) (zT 1)),mT 12 67])))
def lPEQ_2 (z:Ids):zAc:=(.seq (.seq (.drawn 0 [mT 31 11,mT 32 12,i 33 (.bin .leq (t 31) (t 32)),mT 34 33,⟨(some 35),(some (34,true)),(.mov (t 4)),none,[]⟩,⟨(some 36),(some (34,true)),(.mov (t 0)),none,[]⟩,⟨(some 37),(some (34,true)),(.mov (t 1)),none,[]⟩,⟨(some 38),(some (34,true)),(.idxAddrS z.e (t 36) (t 37)),none,[]⟩,⟨(some 39),(some (34,true)),(.loadN z.e (t 38)),none,[]⟩,⟨(some 40),(some (34,true)),(.mov (t 0)),none,[]⟩,⟨(some 41),(some (34,true)),(.mov (t 11)),none,[]⟩,⟨(some 42),(some (34,true)),(.idxAddrS z.e (t 40) (t 41)),none,[]⟩,⟨(some 43),(some (34,true)),(.loadN z.e (t 42)),none,[]⟩,⟨(some 44),(some (34,true)),(.call .pure (t 35) [(t 39),(t 43)]),none,[]⟩,⟨(some 45),(some (34,true)),(.bin .lss (t 44) (zT 0)),none,[]⟩,⟨(some 46),(some (34,true)),(.un .not (t 45)),none,[]⟩,i 47 (.pick (t 34) (t 46) (k (.bool false)))]) (.cond (t 47) .skip (.exit 2))) (.block 3 (.ops [mT 48 11,i 49 (.bin .add (t 48) (zT 1)),mT 11 49])))
def lPEQ_3 (z:Ids):zAc:=(.block 1 (.seq (.block 2 (.loop (lPEQ_2 z))) (.seq (.block 4 (.loop (lPEQ_1 z))) (.seq (.seq (.ops [mT 68 11,mT 69 12,i 70 (.bin .gtr (t 68) (t 69))]) (.cond (t 70) (.exit 0) .skip)) (.seq (.drawn 0 [mT 71 0,mT 72 11,mT 73 0,mT 74 12,mT 75 0,mT 76 12,i 77 (.idxAddrS z.e (t 75) (t 76)),i 78 (.loadN z.e (t 77)),mT 79 0,mT 80 11,i 81 (.idxAddrS z.e (t 79) (t 80)),i 82 (.loadN z.e (t 81)),i 83 (.idxAddrS z.e (t 71) (t 72)),⟨none,none,(.store z.e (t 83) (t 78)),none,[]⟩,i 84 (.idxAddrS z.e (t 73) (t 74)),⟨none,none,(.store z.e (t 84) (t 82)),none,[]⟩]) (.seq (.ops [mT 85 11,i 86 (.bin .add (t 85) (zT 1)),mT 11 86]) (.ops [mT 87 12,i 88 (.bin .sub (t 87) (zT 1)),mT 12 88])))))))
def cPEQ (z:Ids):zAc:=(.seq (.ops [i 10 (.mov (zT 0))]) (.seq (.drawn 0 [mT 13 0,mT 14 1,mT 15 0,mT 16 3,mT 17 0,mT 18 3,i 19 (.idxAddrS z.e (t 17) (t 18)),i 20 (.loadN z.e (t 19)),mT 21 0,mT 22 1,i 23 (.idxAddrS z.e (t 21) (t 22)),i 24 (.loadN z.e (t 23)),i 25 (.idxAddrS z.e (t 13) (t 14)),⟨none,none,(.store z.e (t 25) (t 20)),none,[]⟩,i 26 (.idxAddrS z.e (t 15) (t 16)),⟨none,none,(.store z.e (t 26) (t 24)),none,[]⟩]) (.seq (.ops [mT 27 1,i 28 (.bin .add (t 27) (zT 1)),mT 29 2,i 30 (.bin .sub (t 29) (zT 1)),mT 11 28,mT 12 30]) (.seq (.block 0 (.loop (lPEQ_3 z))) (.seq (.ops [mT 89 11,mT 10 89]) .ret)))))
def aPEQ (z:Ids):zAf:=⟨90,[(.tmp 10)],cPEQ z⟩
theorem nPEQ {z:Ids}:(aPEQ z).ntmps=90:=id rfl
theorem rPEQ {z:Ids}:(aPEQ z).results=[(.tmp 10)]:=rfl
theorem bPEQ {z:Ids}:(aPEQ z).body=cPEQ z:=rfl
def lPART_1 (z:Ids):zAc:=(.seq (.seq (.drawn 0 [mT 123 12,mT 124 13,i 125 (.bin .leq (t 123) (t 124)),mT 126 125,⟨(some 127),(some (126,true)),(.mov (t 4)),none,[]⟩,⟨(some 128),(some (126,true)),(.mov (t 0)),none,[]⟩,⟨(some 129),(some (126,true)),(.mov (t 13)),none,[]⟩,⟨(some 130),(some (126,true)),(.idxAddrS z.e (t 128) (t 129)),none,[]⟩,⟨(some 131),(some (126,true)),(.loadN z.e (t 130)),none,[]⟩,⟨(some 132),(some (126,true)),(.mov (t 0)),none,[]⟩,⟨(some 133),(some (126,true)),(.mov (t 1)),none,[]⟩,⟨(some 134),(some (126,true)),(.idxAddrS z.e (t 132) (t 133)),none,[]⟩,⟨(some 135),(some (126,true)),(.loadN z.e (t 134)),none,[]⟩,⟨(some 136),(some (126,true)),(.call .pure (t 127) [(t 131),(t 135)]),none,[]⟩,⟨(some 137),(some (126,true)),(.bin .lss (t 136) (zT 0)),none,[]⟩,⟨(some 138),(some (126,true)),(.un .not (t 137)),none,[]⟩,i 139 (.pick (t 126) (t 138) (k (.bool false)))]) (.cond (t 139) .skip (.exit 8))) (.block 9 (.ops [mT 140 13,i 141 (.bin .sub (t 140) (zT 1)),mT 13 141])))
def lPART_2 (z:Ids):zAc:=(.seq (.seq (.drawn 0 [mT 105 12,mT 106 13,i 107 (.bin .leq (t 105) (t 106)),mT 108 107,⟨(some 109),(some (108,true)),(.mov (t 4)),none,[]⟩,⟨(some 110),(some (108,true)),(.mov (t 0)),none,[]⟩,⟨(some 111),(some (108,true)),(.mov (t 12)),none,[]⟩,⟨(some 112),(some (108,true)),(.idxAddrS z.e (t 110) (t 111)),none,[]⟩,⟨(some 113),(some (108,true)),(.loadN z.e (t 112)),none,[]⟩,⟨(some 114),(some (108,true)),(.mov (t 0)),none,[]⟩,⟨(some 115),(some (108,true)),(.mov (t 1)),none,[]⟩,⟨(some 116),(some (108,true)),(.idxAddrS z.e (t 114) (t 115)),none,[]⟩,⟨(some 117),(some (108,true)),(.loadN z.e (t 116)),none,[]⟩,⟨(some 118),(some (108,true)),(.call .pure (t 109) [(t 113),(t 117)]),none,[]⟩,⟨(some 119),(some (108,true)),(.bin .lss (t 118) (zT 0)),none,[]⟩,i 120 (.pick (t 108) (t 119) (k (.bool false)))]) (.cond (t 120) .skip (.exit 6))) (.block 7 (.ops [mT 121 12,i 122 (.bin .add (t 121) (zT 1)),mT 12 122])))
def lPART_3 (z:Ids):zAc:=(.block 5 (.seq (.block 6 (.loop (lPART_2 z))) (.seq (.block 8 (.loop (lPART_1 z))) (.seq (.seq (.ops [mT 142 12,mT 143 13,i 144 (.bin .gtr (t 142) (t 143))]) (.cond (t 144) (.exit 4) .skip)) (.seq (.drawn 0 [mT 145 0,mT 146 12,mT 147 0,mT 148 13,mT 149 0,mT 150 13,i 151 (.idxAddrS z.e (t 149) (t 150)),i 152 (.loadN z.e (t 151)),mT 153 0,mT 154 12,i 155 (.idxAddrS z.e (t 153) (t 154)),i 156 (.loadN z.e (t 155)),i 157 (.idxAddrS z.e (t 145) (t 146)),⟨none,none,(.store z.e (t 157) (t 152)),none,[]⟩,i 158 (.idxAddrS z.e (t 147) (t 148)),⟨none,none,(.store z.e (t 158) (t 156)),none,[]⟩]) (.seq (.ops [mT 159 12,i 160 (.bin .add (t 159) (zT 1)),mT 12 160]) (.ops [mT 161 13,i 162 (.bin .sub (t 161) (zT 1)),mT 13 162])))))))
def lPART_4 (z:Ids):zAc:=(.seq (.seq (.drawn 0 [mT 50 12,mT 51 13,i 52 (.bin .leq (t 50) (t 51)),mT 53 52,⟨(some 54),(some (53,true)),(.mov (t 4)),none,[]⟩,⟨(some 55),(some (53,true)),(.mov (t 0)),none,[]⟩,⟨(some 56),(some (53,true)),(.mov (t 13)),none,[]⟩,⟨(some 57),(some (53,true)),(.idxAddrS z.e (t 55) (t 56)),none,[]⟩,⟨(some 58),(some (53,true)),(.loadN z.e (t 57)),none,[]⟩,⟨(some 59),(some (53,true)),(.mov (t 0)),none,[]⟩,⟨(some 60),(some (53,true)),(.mov (t 1)),none,[]⟩,⟨(some 61),(some (53,true)),(.idxAddrS z.e (t 59) (t 60)),none,[]⟩,⟨(some 62),(some (53,true)),(.loadN z.e (t 61)),none,[]⟩,⟨(some 63),(some (53,true)),(.call .pure (t 54) [(t 58),(t 62)]),none,[]⟩,⟨(some 64),(some (53,true)),(.bin .lss (t 63) (zT 0)),none,[]⟩,⟨(some 65),(some (53,true)),(.un .not (t 64)),none,[]⟩,i 66 (.pick (t 53) (t 65) (k (.bool false)))]) (.cond (t 66) .skip (.exit 2))) (.block 3 (.ops [mT 67 13,i 68 (.bin .sub (t 67) (zT 1)),mT 13 68])))
def lPART_5 (z:Ids):zAc:=(.seq (.seq (.drawn 0 [mT 32 12,mT 33 13,i 34 (.bin .leq (t 32) (t 33)),mT 35 34,⟨(some 36),(some (35,true)),(.mov (t 4)),none,[]⟩,⟨(some 37),(some (35,true)),(.mov (t 0)),none,[]⟩,⟨(some 38),(some (35,true)),(.mov (t 12)),none,[]⟩,⟨(some 39),(some (35,true)),(.idxAddrS z.e (t 37) (t 38)),none,[]⟩,⟨(some 40),(some (35,true)),(.loadN z.e (t 39)),none,[]⟩,⟨(some 41),(some (35,true)),(.mov (t 0)),none,[]⟩,⟨(some 42),(some (35,true)),(.mov (t 1)),none,[]⟩,⟨(some 43),(some (35,true)),(.idxAddrS z.e (t 41) (t 42)),none,[]⟩,⟨(some 44),(some (35,true)),(.loadN z.e (t 43)),none,[]⟩,⟨(some 45),(some (35,true)),(.call .pure (t 36) [(t 40),(t 44)]),none,[]⟩,⟨(some 46),(some (35,true)),(.bin .lss (t 45) (zT 0)),none,[]⟩,i 47 (.pick (t 35) (t 46) (k (.bool false)))]) (.cond (t 47) .skip (.exit 0))) (.block 1 (.ops [mT 48 12,i 49 (.bin .add (t 48) (zT 1)),mT 12 49])))
def cPART (z:Ids):zAc:=(.seq (.ops [i 10 (.mov (zT 0)),i 11 (.mov (k (.bool false)))]) (.seq (.drawn 0 [mT 14 0,mT 15 1,mT 16 0,mT 17 3,mT 18 0,mT 19 3,i 20 (.idxAddrS z.e (t 18) (t 19)),i 21 (.loadN z.e (t 20)),mT 22 0,mT 23 1,i 24 (.idxAddrS z.e (t 22) (t 23)),i 25 (.loadN z.e (t 24)),i 26 (.idxAddrS z.e (t 14) (t 15)),⟨none,none,(.store z.e (t 26) (t 21)),none,[]⟩,i 27 (.idxAddrS z.e (t 16) (t 17)),⟨none,none,(.store z.e (t 27) (t 25)),none,[]⟩]) (.seq (.ops [mT 28 1,i 29 (.bin .add (t 28) (zT 1)),mT 30 2,i 31 (.bin .sub (t 30) (zT 1)),mT 12 29,mT 13 31]) (.seq (.block 0 (.loop (lPART_5 z))) (.seq (.block 2 (.loop (lPART_4 z))) (.seq (.seq (.ops [mT 69 12,mT 70 13,i 71 (.bin .gtr (t 69) (t 70))]) (.cond (t 71) (.seq (.drawn 0 [mT 72 0,mT 73 13,mT 74 0,mT 75 1,mT 76 0,mT 77 1,i 78 (.idxAddrS z.e (t 76) (t 77)),i 79 (.loadN z.e (t 78)),mT 80 0,mT 81 13,i 82 (.idxAddrS z.e (t 80) (t 81)),i 83 (.loadN z.e (t 82)),i 84 (.idxAddrS z.e (t 72) (t 73)),⟨none,none,(.store z.e (t 84) (t 79)),none,[]⟩,i 85 (.idxAddrS z.e (t 74) (t 75)),⟨none,none,(.store z.e (t 85) (t 83)),none,[]⟩]) (.seq (.ops [mT 86 13,mT 10 86,i 11 (.mov (k (.bool true)))]) .ret)) .skip)) (.seq (.drawn 0 [mT 87 0,mT 88 12,mT 89 0,mT 90 13,mT 91 0,mT 92 13,i 93 (.idxAddrS z.e (t 91) (t 92)),i 94 (.loadN z.e (t 93)),mT 95 0,mT 96 12,i 97 (.idxAddrS z.e (t 95) (t 96)),i 98 (.loadN z.e (t 97)),i 99 (.idxAddrS z.e (t 87) (t 88)),⟨none,none,(.store z.e (t 99) (t 94)),none,[]⟩,i 100 (.idxAddrS z.e (t 89) (t 90)),⟨none,none,(.store z.e (t 100) (t 98)),none,[]⟩]) (.seq (.ops [mT 101 12,i 102 (.bin .add (t 101) (zT 1)),mT 12 102]) (.seq (.ops [mT 103 13,i 104 (.bin .sub (t 103) (zT 1)),mT 13 104]) (.seq (.block 4 (.loop (lPART_3 z))) (.seq (.drawn 0 [mT 163 0,mT 164 13,mT 165 0,mT 166 1,mT 167 0,mT 168 1,i 169 (.idxAddrS z.e (t 167) (t 168)),i 170 (.loadN z.e (t 169)),mT 171 0,mT 172 13,i 173 (.idxAddrS z.e (t 171) (t 172)),i 174 (.loadN z.e (t 173)),i 175 (.idxAddrS z.e (t 163) (t 164)),⟨none,none,(.store z.e (t 175) (t 170)),none,[]⟩,i 176 (.idxAddrS z.e (t 165) (t 166)),⟨none,none,(.store z.e (t 176) (t 174)),none,[]⟩]) (.seq (.ops [mT 177 13,mT 10 177,i 11 (.mov (k (.bool false)))]) .ret))))))))))))
def aPART (z:Ids):zAf:=⟨178,[(.tmp 10),(.tmp 11)],cPART z⟩
theorem nPART {z:Ids}:(aPART z).ntmps=178:=id rfl
theorem rPART {z:Ids}:(aPART z).results=[(.tmp 10),(.tmp 11)]:=rfl
theorem bPART {z:Ids}:(aPART z).body=cPART z:=rfl
def zc6 (z:Ids):zAc:=(.block 1 (.seq (.ops [mT 21 2,mT 22 1,i 23 (.bin .sub (t 21) (t 22)),mT 12 23]) (.seq (.seq (.ops [mT 24 12,i 25 (.bin .leq (t 24) (zT 12))]) (.cond (t 25) (.seq (.ops [mT 26 0,mT 27 1,mT 28 2,mT 29 4,i 30 (.call .any (.func z.INS) [(t 26),(t 27),(t 28),(t 29)])]) .ret) .skip)) (.seq (.seq (.ops [mT 31 3,i 32 (.bin .eql (t 31) (zT 0))]) (.cond (t 32) (.seq (.ops [mT 33 0,mT 34 1,mT 35 2,mT 36 4,i 37 (.call .any (.func z.HEAP) [(t 33),(t 34),(t 35),(t 36)])]) .ret) .skip)) (.seq (.seq (.ops [mT 38 10,i 39 (.un .not (t 38))]) (.cond (t 39) (.seq (.ops [mT 40 0,mT 41 1,mT 42 2,mT 43 4,i 44 (.call .any (.func z.BRK) [(t 40),(t 41),(t 42),(t 43)])]) (.ops [mT 45 3,i 46 (.bin .sub (t 45) (zT 1)),mT 3 46])) .skip)) (.seq (.ops [mT 48 0,mT 49 1,mT 50 2,mT 51 4,i 52 (.call .any (.func z.CHO) [(t 48),(t 49),(t 50),(t 51)]),mT 47 52,i 53 (.extract 0 (t 47)),i 54 (.extract 1 (t 47)),mT 13 53,mT 14 54]) (.seq (.seq (.ops [mT 55 14,i 56 (.bin .eql (t 55) (zT 2))]) (.cond (t 56) (.seq (.ops [mT 57 0,mT 58 1,mT 59 2,mT 60 4,i 61 (.call .any (.func z.REV) [(t 57),(t 58),(t 59),(t 60)])]) (.seq (.ops [mT 62 2,i 63 (.bin .sub (t 62) (zT 1)),mT 64 13,mT 65 1,i 66 (.bin .sub (t 64) (t 65)),i 67 (.bin .sub (t 63) (t 66)),mT 13 67]) (.ops [i 14 (.mov (zT 1))]))) .skip)) (.seq (.seq (.ops [mT 68 10,mT 69 68,⟨(some 70),(some (69,true)),(.mov (t 11)),none,[]⟩,i 71 (.pick (t 69) (t 70) (k (.bool false))),mT 72 71,⟨(some 73),(some (72,true)),(.mov (t 14)),none,[]⟩,⟨(some 74),(some (72,true)),(.bin .eql (t 73) (zT 1)),none,[]⟩,i 75 (.pick (t 72) (t 74) (k (.bool false)))]) (.cond (t 75) (.seq (.ops [mT 76 0,mT 77 1,mT 78 2,mT 79 4,i 80 (.call .any (.func z.PIS) [(t 76),(t 77),(t 78),(t 79)])]) (.cond (t 80) .ret .skip)) .skip)) (.seq (.seq (.drawn 0 [mT 81 1,i 82 (.bin .gtr (t 81) (zT 0)),mT 83 82,⟨(some 84),(some (83,true)),(.mov (t 4)),none,[]⟩,⟨(some 85),(some (83,true)),(.mov (t 0)),none,[]⟩,⟨(some 86),(some (83,true)),(.mov (t 1)),none,[]⟩,⟨(some 87),(some (83,true)),(.bin .sub (t 86) (zT 1)),none,[]⟩,⟨(some 88),(some (83,true)),(.idxAddrS z.e (t 85) (t 87)),none,[]⟩,⟨(some 89),(some (83,true)),(.loadN z.e (t 88)),none,[]⟩,⟨(some 90),(some (83,true)),(.mov (t 0)),none,[]⟩,⟨(some 91),(some (83,true)),(.mov (t 13)),none,[]⟩,⟨(some 92),(some (83,true)),(.idxAddrS z.e (t 90) (t 91)),none,[]⟩,⟨(some 93),(some (83,true)),(.loadN z.e (t 92)),none,[]⟩,⟨(some 94),(some (83,true)),(.call .pure (t 84) [(t 89),(t 93)]),none,[]⟩,⟨(some 95),(some (83,true)),(.bin .lss (t 94) (zT 0)),none,[]⟩,⟨(some 96),(some (83,true)),(.un .not (t 95)),none,[]⟩,i 97 (.pick (t 83) (t 96) (k (.bool false)))]) (.cond (t 97) (.seq (.ops [mT 98 0,mT 99 1,mT 100 2,mT 101 13,mT 102 4,i 103 (.call .any (.func z.PEQ) [(t 98),(t 99),(t 100),(t 101),(t 102)]),mT 15 103]) (.seq (.ops [mT 104 15,mT 1 104]) (.exit 1))) .skip)) (.seq (.ops [mT 106 0,mT 107 1,mT 108 2,mT 109 13,mT 110 4,i 111 (.call .any (.func z.PART) [(t 106),(t 107),(t 108),(t 109),(t 110)]),mT 105 111,i 112 (.extract 0 (t 105)),i 113 (.extract 1 (t 105)),mT 16 112,mT 17 113]) (.seq (.ops [mT 114 17,mT 11 114]) (.seq (.ops [mT 115 16,mT 116 1,i 117 (.bin .sub (t 115) (t 116)),mT 118 2,mT 119 16,i 120 (.bin .sub (t 118) (t 119)),mT 18 117,mT 19 120]) (.seq (.ops [mT 121 12,i 122 (.bin .quo (t 121) (zT 8)),mT 20 122]) (.seq (.ops [mT 123 18,mT 124 19,i 125 (.bin .lss (t 123) (t 124))]) (.cond (t 125) (.seq (.ops [mT 126 18,mT 127 20,i 128 (.bin .geq (t 126) (t 127)),mT 10 128]) (.seq (.ops [mT 129 0,mT 130 1,mT 131 16,mT 132 3,mT 133 4,i 134 (.call .any (.func z.PDQ) [(t 129),(t 130),(t 131),(t 132),(t 133)])]) (.ops [mT 135 16,i 136 (.bin .add (t 135) (zT 1)),mT 1 136]))) (.seq (.ops [mT 137 19,mT 138 20,i 139 (.bin .geq (t 137) (t 138)),mT 10 139]) (.seq (.ops [mT 140 0,mT 141 16,i 142 (.bin .add (t 141) (zT 1)),mT 143 2,mT 144 3,mT 145 4,i 146 (.call .any (.func z.PDQ) [(t 140),(t 142),(t 143),(t 144),(t 145)])]) (.ops [mT 147 16,mT 2 147]))))))))))))))))))
def cPDQ (z:Ids):zAc:=(.seq (.ops [i 10 (.mov (k (.bool true)))]) (.seq (.ops [i 11 (.mov (k (.bool true)))]) (.block 0 (.loop (zc6 z)))))
def aPDQ (z:Ids):zAf:=⟨148,[],cPDQ z⟩
theorem nPDQ {z:Ids}:(aPDQ z).ntmps=148:=id rfl
theorem rPDQ {z:Ids}:(aPDQ z).results=[]:=rfl
theorem bPDQ {z:Ids}:(aPDQ z).body=cPDQ z:=rfl
def cSORT (z:Ids):zAc:=(.seq (.ops [mT 5 0,i 6 (.lenSlice (t 5)),mT 4 6]) (.ops [mT 7 0,mT 8 4,mT 9 4,i 10 (.conv .u64 (t 9)),i 11 (.call .any (.func z.LEN) [(t 10)]),mT 12 1,i 13 (.call .any (.func z.PDQ) [(t 7),(zT 0),(t 8),(t 11),(t 12)])]))
def aSORT (z:Ids):zAf:=⟨14,[],cSORT z⟩
theorem nSORT {z:Ids}:(aSORT z).ntmps=14:=id rfl
theorem rSORT {z:Ids}:(aSORT z).results=[]:=rfl
theorem bSORT {z:Ids}:(aSORT z).body=cSORT z:=rfl
def cLEN (z:Ids):zAc:=(.seq (.ops [i 2 (.mov (zT 0))]) (.seq (.cond (k (.bool false)) (.seq (.ops [mT 3 0,i 4 (.conv .u32 (t 3)),i 5 (.call .any (.func z.LEN32) [(t 4)]),mT 2 5]) .ret) .skip) (.seq (.ops [mT 6 0,i 7 (.call .any (.func z.LEN64) [(t 6)]),mT 2 7]) .ret)))
def aLEN (z:Ids):zAf:=⟨8,[(.tmp 2)],cLEN z⟩
theorem nLEN {z:Ids}:(aLEN z).ntmps=8:=id rfl
theorem rLEN {z:Ids}:(aLEN z).results=[(.tmp 2)]:=rfl
theorem bLEN {z:Ids}:(aLEN z).body=cLEN z:=rfl
def cLEN64 (z:Ids):zAc:=(.seq (.ops [i 2 (.mov (zT 0))]) (.seq (.seq (.ops [mT 3 0,i 4 (.bin .geq (t 3) (k (.int .u64 4294967296)))]) (.cond (t 4) (.seq (.ops [mT 5 0,i 6 (.bin .shr (t 5) (k (.int .u64 32))),mT 0 6]) (.ops [i 2 (.mov (zT 32))])) .skip)) (.seq (.seq (.ops [mT 7 0,i 8 (.bin .geq (t 7) (k (.int .u64 65536)))]) (.cond (t 8) (.seq (.ops [mT 9 0,i 10 (.bin .shr (t 9) (k (.int .u64 16))),mT 0 10]) (.ops [mT 11 2,i 12 (.bin .add (t 11) (zT 16)),mT 2 12])) .skip)) (.seq (.seq (.ops [mT 13 0,i 14 (.bin .geq (t 13) (k (.int .u64 256)))]) (.cond (t 14) (.seq (.ops [mT 15 0,i 16 (.bin .shr (t 15) (k (.int .u64 8))),mT 0 16]) (.ops [mT 17 2,i 18 (.bin .add (t 17) (zT 8)),mT 2 18])) .skip)) (.seq (.ops [mT 19 2,mT 20 0,i 21 (.conv .u8 (t 20)),i 22 (.idxStr (k (.string ⟨#[0,1,2,2,3,3,3,3,4,4,4,4,4,4,4,4,5,5,5,5,5,5,5,5,5,5,5,5,5,5,5,5,6,6,6,6,6,6,6,6,6,6,6,6,6,6,6,6,6,6,6,6,6,6,6,6,6,6,6,6,6,6,6,6,7,7,7,7,7,7,7,7,7,7,7,7,7,7,7,7,7,7,7,7,7,7,7,7,7,7,7,7,7,7,7,7,7,7,7,7,7,7,7,7,7,7,7,7,7,7,7,7,7,7,7,7,7,7,7,7,7,7,7,7,7,7,7,7,8,8,8,8,8,8,8,8,8,8,8,8,8,8,8,8,8,8,8,8,8,8,8,8,8,8,8,8,8,8,8,8,8,8,8,8,8,8,8,8,8,8,8,8,8,8,8,8,8,8,8,8,8,8,8,8,8,8,8,8,8,8,8,8,8,8,8,8,8,8,8,8,8,8,8,8,8,8,8,8,8,8,8,8,8,8,8,8,8,8,8,8,8,8,8,8,8,8,8,8,8,8,8,8,8,8,8,8,8,8,8,8,8,8,8,8,8,8,8,8,8,8,8,8,8,8,8,8]⟩)) (t 21)),i 23 (.conv .i64 (t 22)),i 24 (.bin .add (t 19) (t 23)),mT 2 24]) .ret)))))
def aLEN64 (z:Ids):zAf:=⟨25,[(.tmp 2)],cLEN64 z⟩
theorem nLEN64 {z:Ids}:(aLEN64 z).ntmps=25:=id rfl
theorem rLEN64 {z:Ids}:(aLEN64 z).results=[(.tmp 2)]:=rfl
theorem bLEN64 {z:Ids}:(aLEN64 z).body=cLEN64 z:=rfl
def cNPT (z:Ids):zAc:=(.seq (.ops [i 2 (.mov (k (.int .u64 0)))]) (.seq (.ops [mT 3 0,i 4 (.conv .u64 (t 3)),i 5 (.call .any (.func z.LEN) [(t 4)]),i 6 (.bin .shl (k (.int .u64 1)) (t 5)),mT 2 6]) .ret))
def aNPT (z:Ids):zAf:=⟨7,[(.tmp 2)],cNPT z⟩
theorem nNPT {z:Ids}:(aNPT z).ntmps=7:=id rfl
theorem rNPT {z:Ids}:(aNPT z).results=[(.tmp 2)]:=rfl
theorem bNPT {z:Ids}:(aNPT z).body=cNPT z:=rfl
def cXOR (z:Ids):zAc:=(.seq (.ops [i 2 (.mov (k (.int .u64 0)))]) (.seq (.drawn 0 [mT 3 0,i 4 (.nilCheck (t 3)),lT 5 4,mT 6 0,i 7 (.nilCheck (t 6)),lT 8 7,i 9 (.bin .shl (t 8) (k (.int .u64 13))),i 10 (.bin .xor (t 5) (t 9)),i 11 (.nilCheck (t 3)),⟨none,none,(.store 1 (t 11) (t 10)),none,[]⟩]) (.seq (.drawn 0 [mT 12 0,i 13 (.nilCheck (t 12)),lT 14 13,mT 15 0,i 16 (.nilCheck (t 15)),lT 17 16,i 18 (.bin .shr (t 17) (k (.int .u64 7))),i 19 (.bin .xor (t 14) (t 18)),i 20 (.nilCheck (t 12)),⟨none,none,(.store 1 (t 20) (t 19)),none,[]⟩]) (.seq (.drawn 0 [mT 21 0,i 22 (.nilCheck (t 21)),lT 23 22,mT 24 0,i 25 (.nilCheck (t 24)),lT 26 25,i 27 (.bin .shl (t 26) (k (.int .u64 17))),i 28 (.bin .xor (t 23) (t 27)),i 29 (.nilCheck (t 21)),⟨none,none,(.store 1 (t 29) (t 28)),none,[]⟩]) (.seq (.ops [mT 30 0,i 31 (.nilCheck (t 30)),lT 32 31,mT 2 32]) .ret)))))
def aXOR (z:Ids):zAf:=⟨33,[(.tmp 2)],cXOR z⟩
theorem nXOR {z:Ids}:(aXOR z).ntmps=33:=id rfl
theorem rXOR {z:Ids}:(aXOR z).results=[(.tmp 2)]:=rfl
theorem bXOR {z:Ids}:(aXOR z).body=cXOR z:=rfl
def cMEDA (z:Ids):zAc:=(.seq (.ops [i 8 (.mov (zT 0))]) (.seq (.ops [mT 9 0,mT 10 1,i 11 (.bin .sub (t 10) (zT 1)),mT 12 1,mT 13 1,i 14 (.bin .add (t 13) (zT 1)),mT 15 2,mT 16 3,i 17 (.call .any (.func z.MED) [(t 9),(t 11),(t 12),(t 14),(t 15),(t 16)]),mT 8 17]) .ret))
def aMEDA (z:Ids):zAf:=⟨18,[(.tmp 8)],cMEDA z⟩
theorem nMEDA {z:Ids}:(aMEDA z).ntmps=18:=id rfl
theorem rMEDA {z:Ids}:(aMEDA z).results=[(.tmp 8)]:=rfl
theorem bMEDA {z:Ids}:(aMEDA z).body=cMEDA z:=rfl
def cMED (z:Ids):zAc:=(.seq (.ops [i 12 (.mov (zT 0))]) (.seq (.ops [mT 14 0,mT 15 1,mT 16 2,mT 17 4,mT 18 5,i 19 (.call .any (.func z.ORD) [(t 14),(t 15),(t 16),(t 17),(t 18)]),mT 13 19,i 20 (.extract 0 (t 13)),i 21 (.extract 1 (t 13)),mT 1 20,mT 2 21]) (.seq (.ops [mT 23 0,mT 24 2,mT 25 3,mT 26 4,mT 27 5,i 28 (.call .any (.func z.ORD) [(t 23),(t 24),(t 25),(t 26),(t 27)]),mT 22 28,i 29 (.extract 0 (t 22)),i 30 (.extract 1 (t 22)),mT 2 29,mT 3 30]) (.seq (.ops [mT 32 0,mT 33 1,mT 34 2,mT 35 4,mT 36 5,i 37 (.call .any (.func z.ORD) [(t 32),(t 33),(t 34),(t 35),(t 36)]),mT 31 37,i 38 (.extract 0 (t 31)),i 39 (.extract 1 (t 31)),mT 1 38,mT 2 39]) (.seq (.ops [mT 40 2,mT 12 40]) .ret)))))
def aMED (z:Ids):zAf:=⟨41,[(.tmp 12)],cMED z⟩
theorem nMED {z:Ids}:(aMED z).ntmps=41:=id rfl
theorem rMED {z:Ids}:(aMED z).results=[(.tmp 12)]:=rfl
theorem bMED {z:Ids}:(aMED z).body=cMED z:=rfl
def cORD (z:Ids):zAc:=(.seq (.ops [i 10 (.mov (zT 0)),i 11 (.mov (zT 0))]) (.seq (.seq (.drawn 0 [mT 12 4,mT 13 0,mT 14 2,i 15 (.idxAddrS z.e (t 13) (t 14)),i 16 (.loadN z.e (t 15)),mT 17 0,mT 18 1,i 19 (.idxAddrS z.e (t 17) (t 18)),i 20 (.loadN z.e (t 19)),i 21 (.call .pure (t 12) [(t 16),(t 20)]),i 22 (.bin .lss (t 21) (zT 0))]) (.cond (t 22) (.seq (.ops [mT 23 3,i 24 (.nilCheck (t 23)),lT 25 24,i 26 (.bin .add (t 25) (zT 1)),i 27 (.nilCheck (t 23)),⟨none,none,(.store 1 (t 27) (t 26)),none,[]⟩]) (.seq (.ops [mT 28 2,mT 29 1,mT 10 28,mT 11 29]) .ret)) .skip)) (.seq (.ops [mT 30 1,mT 31 2,mT 10 30,mT 11 31]) .ret)))
def aORD (z:Ids):zAf:=⟨32,[(.tmp 10),(.tmp 11)],cORD z⟩
theorem nORD {z:Ids}:(aORD z).ntmps=32:=id rfl
theorem rORD {z:Ids}:(aORD z).results=[(.tmp 10),(.tmp 11)]:=rfl
theorem bORD {z:Ids}:(aORD z).body=cORD z:=rfl
def Knows (E:Env) (g:FuncId) (af:zAf) (p:Bool):Prop:=E.tr g=some af∧E.pure g=p∧∀as,E.orc g as=none
class SortAt (E:Env) (z:Ids):Prop where
 dt:E.dt=true
 INS:Knows E z.INS (aINS z) false
 SIFT:Knows E z.SIFT (aSIFT z) false
 HEAP:Knows E z.HEAP (aHEAP z) false
 BRK:Knows E z.BRK (aBRK z) false
 CHO:Knows E z.CHO (aCHO z) false
 REV:Knows E z.REV (aREV z) false
 PIS:Knows E z.PIS (aPIS z) false
 PEQ:Knows E z.PEQ (aPEQ z) false
 PART:Knows E z.PART (aPART z) false
 PDQ:Knows E z.PDQ (aPDQ z) false
 SORT:Knows E z.SORT (aSORT z) false
 LEN:Knows E z.LEN (aLEN z) true
 LEN64:Knows E z.LEN64 (aLEN64 z) true
 NPT:Knows E z.NPT (aNPT z) true
 XOR:Knows E z.XOR (aXOR z) false
 MEDA:Knows E z.MEDA (aMEDA z) false
 MED:Knows E z.MED (aMED z) false
 ORD:Knows E z.ORD (aORD z) false
class EncOk {α:Type} (enc:α→List Value) (z:outParam Ids):Prop where
 len:∀x,(enc x).length=z.e
section
variable {E:Env} {mp:Bool} {lim:Nat} {g:FuncId} {as:List Value} {v:Value} {af:zAf} {H H':zH} {Q:Value→zH→Prop}
theorem runs (h:Knows E g af false) (hr:Ret E af lim [.code af.body] (zFr as) H fun v' H1=>v'=v∧H1=H'):za0 E false lim g as H Q=Q v H':=by
 refine za0.eq ?_
 rw [zc2 (E:=E) (h.2.2 _) h.1 h.2.1 rfl]
 exact hr
theorem pcG (h:Knows E g af true) (hf:flat 4 v=true) (hr:Ret E af H.length [.code af.body] (zFr as) (H++[]) fun v' _=>v'=v):za0 E mp lim g as H Q=Q v H:=
 CallR_pure (E:=E) (h.2.2 _) h.1 h.2.1 hf (zRp hr)
theorem oneG (hd:E.dt=true) (h:za0 E mp lim g as H Q):∃n v H',zak E n mp lim (.inl g) as H=some [(v,H')]∧Q v H':=by
 obtain ⟨n,L,h1,h2,h3⟩:=h
 obtain ⟨⟨v,H'⟩,rfl⟩:=h2 hd
 exact ⟨n,v,H',h1,h3 _ (List.mem_singleton.mpr rfl)⟩
end
end Go.AM.Srt

namespace Go.Proofs.YtohnaffmcjbpoaaGreat.Fn
open Go.AM Go.AM.Sym
abbrev p (d n:Nat) (o:AOp):zIn:=⟨some d,some (n,true),o,none,[]⟩
abbrev q (d n:Nat) (o:AOp):zIn:=⟨some d,some (n,false),o,none,[]⟩
abbrev s (o:AOp):zIn:=⟨none,none,o,none,[]⟩
def pure:List FuncId:=[5,6,7,13,14,16,17,22,23,24,35,38,41,57,58,66,67,68,71,73,75,77,83,85,95,96,97,99,106,108,129,130]
def pf:FuncId→Bool:=fun f=>pure.contains f
def zL:Srt.Ids:=⟨4,95,87,107,88,89,90,91,92,93,94,65,40,66,96,108,109,110,111,131⟩
def zC:Srt.Ids:=⟨3,95,113,132,114,115,116,117,118,119,120,100,76,66,96,108,109,133,134,138⟩
def zP:Srt.Ids:=⟨2,95,121,135,122,123,124,125,126,127,128,105,84,66,96,108,109,136,137,139⟩
def l5_1:zAc:=(.seq (.seq (.ops [mT 159 23,fT 160 0 11,lT 161 160,i 162 (.lenSlice (t 161)),i 163 (.bin .lss (t 159) (t 162))]) (.cond (t 163) .skip (.exit 2))) (.seq (.block 3 (.seq (.ops [mT 166 19,mT 167 23,xT 168 1 166 167,lT 169 168,mT 24 169]) (.seq (.seq (.ops [mT 170 22,mT 171 170,q 172 171 (.mov (t 24)),q 173 171 (.mov (t 3)),q 174 171 (.bin .gtr (t 172) (t 173)),i 175 (.pick (t 171) (k (.bool true)) (t 174))]) (.cond (t 175) (.ops [i 24 (.mov (zT (-1)))]) .skip)) (.seq (.ops [fT 176 0 17,lT 177 176,mT 178 23,xT 179 1 177 178,lT 180 179,mT 181 24,i 182 (.bin .neq (t 180) (t 181))]) (.cond (t 182) (.seq (.ops [i 10 (.mov (k (.bool false)))]) .ret) .skip))))) (.ops [mT 164 23,i 165 (.bin .add (t 164) (zT 1)),mT 23 165])))
def l5_2:zAc:=(.seq (.seq (.ops [mT 56 12,fT 57 1 11,lT 58 57,i 59 (.lenSlice (t 58)),i 60 (.bin .lss (t 56) (t 59))]) (.cond (t 60) .skip (.exit 0))) (.seq (.block 1 (.drawn 0 [fT 63 1 11,lT 64 63,mT 65 12,fT 66 1 11,lT 67 66,mT 68 12,xT 69 8 67 68,fT 70 6 69,lT 71 70,i 72 (.minmax true [(zT 1),(t 71)]),xT 73 8 64 65,fT 74 6 73,s (.store 1 (t 74) (t 72))])) (.ops [mT 61 12,i 62 (.bin .add (t 61) (zT 1)),mT 12 62])))
def c5:zAc:=(.seq (.ops [i 5 (.box (t 0)),i 10 (.mov (k (.bool false)))]) (.seq (.seq (.ops [i 25 (.call .any (.func 7) []),i 26 (.un .not (t 25))]) (.cond (t 26) (.seq (.ops [i 10 (.mov (k (.bool false)))]) .ret) .skip)) (.seq (.seq (.ops [i 27 (.loadN 2 (t 5)),i 28 (.call .any (.func 6) [(t 27),(k (.slice none 0 0))]),mT 29 28,q 30 29 (.loadN 2 (t 5)),q 31 29 (.call .any (.func 13) [(t 30)]),q 32 29 (.bin .neq (t 31) (zT 0)),i 33 (.pick (t 29) (k (.bool true)) (t 32)),mT 34 33,q 35 34 (.loadN 2 (t 5)),q 36 34 (.mov (t 1)),q 37 34 (.call .any (.func 14) [(t 35),(t 36)]),q 38 34 (.bin .lss (t 37) (zT 0)),i 39 (.pick (t 34) (k (.bool true)) (t 38)),mT 40 39,q 41 40 (.loadN 2 (t 5)),q 42 40 (.mov (t 2)),q 43 40 (.call .any (.func 14) [(t 41),(t 42)]),q 44 40 (.bin .lss (t 43) (zT 0)),i 45 (.pick (t 40) (k (.bool true)) (t 44)),mT 46 45,q 47 46 (.mov (t 3)),q 48 46 (.bin .lss (t 47) (zT 0)),i 49 (.pick (t 46) (k (.bool true)) (t 48)),mT 50 49,q 51 50 (.mov (t 3)),q 52 50 (.bin .gtr (t 51) (zT 1051898399)),i 53 (.pick (t 50) (k (.bool true)) (t 52))]) (.cond (t 53) (.seq (.ops [i 10 (.mov (k (.bool true)))]) .ret) .skip)) (.seq (.ops [i 54 (.loadN 2 (t 5)),i 55 (.call .any (.func 15) [(t 54)]),i 11 (.alloc [(.slice none 0 0),(.slice none 0 0)]),s (.store 2 (t 11) (t 55))]) (.seq (.seq (.ops [i 12 (.mov (zT 0))]) (.block 0 (.loop l5_2))) (.seq (.ops [mT 75 3,mT 76 4,i 77 (.call .any (.func 16) [(t 76),(zT 20161)]),i 78 (.bin .sub (t 75) (t 77)),i 79 (.minmax true [(zT 0),(t 78)]),mT 13 79]) (.seq (.ops [mT 80 1,mT 81 13,i 82 (.build [(.int .i64 0),(.int .i64 0),(.int .i64 0)] [(0,(1,(t 80))),(1,(1,(t 81))),(2,(1,(zT 1)))]),i 83 (.buildSlice 1 [(.int .i64 0),(.int .i64 0),(.int .i64 0)] [(0,(3,(t 82)))]),mT 14 83]) (.seq (.ops [i 85 (.loadN 2 (t 11)),mT 86 14,mT 87 2,mT 88 3,i 89 (.call .any (.func 17) [(t 85),(t 86),(t 87),(t 88)]),mT 84 89,i 90 (.extract 0 (t 84)),i 91 (.extract 1 (t 84)),mT 15 90,mT 16 91]) (.seq (.ops [i 93 (.loadN 2 (t 11)),mT 94 14,mT 95 2,mT 96 3,i 97 (.call .any (.func 18) [(t 93),(t 94),(t 95),(t 96)]),mT 92 97,i 98 (.extract 0 (t 92)),i 99 (.extract 1 (t 92)),i 17 (.alloc [(.slice none 0 0),(.slice none 0 0)]),s (.store 2 (t 17) (t 98)),mT 18 99]) (.seq (.ops [i 101 (.loadN 2 (t 11)),mT 102 1,mT 103 13,i 104 (.call .any (.func 19) [(t 101),(t 102),(t 103)]),mT 100 104,i 105 (.extract 0 (t 100)),i 106 (.extract 1 (t 100)),mT 19 105,mT 20 106]) (.seq (.seq (.ops [mT 107 16,i 108 (.bin .neq (t 107) (zT 0)),mT 109 108,q 110 109 (.mov (t 18)),q 111 109 (.bin .neq (t 110) (zT 0)),i 112 (.pick (t 109) (k (.bool true)) (t 111)),mT 113 112,q 114 113 (.mov (t 20)),q 115 113 (.bin .neq (t 114) (zT 0)),i 116 (.pick (t 113) (k (.bool true)) (t 115)),mT 117 116,q 118 117 (.mov (t 19)),q 119 117 (.lenSlice (t 118)),q 120 117 (.fieldAddr 0 (t 11)),q 121 117 (.load1 (t 120)),q 122 117 (.lenSlice (t 121)),q 123 117 (.bin .neq (t 119) (t 122)),i 124 (.pick (t 117) (k (.bool true)) (t 123)),mT 125 124,q 126 125 (.fieldAddr 0 (t 17)),q 127 125 (.load1 (t 126)),q 128 125 (.lenSlice (t 127)),q 129 125 (.fieldAddr 0 (t 11)),q 130 125 (.load1 (t 129)),q 131 125 (.lenSlice (t 130)),q 132 125 (.bin .neq (t 128) (t 131)),i 133 (.pick (t 125) (k (.bool true)) (t 132))]) (.cond (t 133) (.seq (.ops [i 10 (.mov (k (.bool false)))]) .ret) .skip)) (.seq (.ops [mT 134 19,i 135 (.loadN 2 (t 11)),mT 136 2,i 137 (.call .any (.func 14) [(t 135),(t 136)]),xT 138 1 134 137,lT 139 138,mT 21 139]) (.seq (.ops [mT 140 21,i 141 (.bin .geq (t 140) (zT 0)),mT 142 141,p 143 142 (.mov (t 21)),p 144 142 (.mov (t 3)),p 145 142 (.bin .leq (t 143) (t 144)),i 146 (.pick (t 142) (t 145) (k (.bool false))),mT 22 146]) (.seq (.seq (.ops [mT 147 15,i 148 (.bin .neq (t 147) (zT 0)),mT 149 148,p 150 149 (.mov (t 15)),p 151 149 (.bin .neq (t 150) (zT 1)),i 152 (.pick (t 149) (t 151) (k (.bool false))),mT 153 152,q 154 153 (.mov (t 22)),q 155 153 (.mov (t 15)),q 156 153 (.bin .eql (t 155) (zT 1)),q 157 153 (.eqv true .bool (t 154) (t 156)),i 158 (.pick (t 153) (k (.bool true)) (t 157))]) (.cond (t 158) (.seq (.ops [i 10 (.mov (k (.bool false)))]) .ret) .skip)) (.seq (.seq (.ops [i 23 (.mov (zT 0))]) (.block 2 (.loop l5_1))) (.seq (.ops [i 10 (.mov (k (.bool true)))]) .ret))))))))))))))))
def a5:zAf:=⟨183,[(.tmp 10)],c5⟩
theorem n5:a5.ntmps=183:=id rfl
theorem r5:a5.results=[(.tmp 10)]:=rfl
theorem b5:a5.body=c5:=rfl
def c6:zAc:=(.seq (.ops [i 2 (.box (t 0)),i 4 (.mov (k (.bool false)))]) (.seq (.seq (.ops [fT 5 0 2,lT 6 5,i 7 (.lenSlice (t 6)),i 8 (.bin .gtr (t 7) (zT 260)),mT 9 8,q 10 9 (.fieldAddr 1 (t 2)),q 11 9 (.load1 (t 10)),q 12 9 (.lenSlice (t 11)),q 13 9 (.bin .gtr (t 12) (zT 260)),i 14 (.pick (t 9) (k (.bool true)) (t 13)),mT 15 14,q 16 15 (.mov (t 1)),q 17 15 (.lenSlice (t 16)),q 18 15 (.bin .gtr (t 17) (zT 60)),i 19 (.pick (t 15) (k (.bool true)) (t 18))]) (.cond (t 19) (.seq (.ops [i 4 (.mov (k (.bool true)))]) .ret) .skip)) (.seq (.ops [fT 20 0 2,lT 21 20,i 22 (.lenSlice (t 21)),i 23 (.bin .gtr (t 22) (zT 7)),mT 24 23,q 25 24 (.fieldAddr 1 (t 2)),q 26 24 (.load1 (t 25)),q 27 24 (.lenSlice (t 26)),q 28 24 (.bin .gtr (t 27) (zT 8)),i 29 (.pick (t 24) (k (.bool true)) (t 28)),mT 30 29,p 31 30 (.loadN 2 (t 2)),p 32 30 (.call .any (.func 13) [(t 31)]),p 33 30 (.bin .eql (t 32) (zT 0)),i 34 (.pick (t 30) (t 33) (k (.bool false))),mT 4 34]) .ret)))
def a6:zAf:=⟨35,[(.tmp 4)],c6⟩
theorem n6:a6.ntmps=35:=id rfl
theorem r6:a6.results=[(.tmp 4)]:=rfl
theorem b6:a6.body=c6:=rfl
def l7_1:zAc:=(.seq (.ops [i 20 (.bin .lss (t 19) (t 18))]) (.seq (.cond (t 20) .skip (.exit 0)) (.seq (.block 1 (.seq (.ops [mT 21 19,xT 22 1 17 19,lT 23 22,mT 2 21,mT 3 23]) (.seq (.ops [i 25 (.call .any (.func 20) []),mT 26 1,mT 27 3,i 28 (.call .any (.func 17) [(t 25),(t 26),(zT 2),(t 27)]),mT 24 28,i 29 (.extract 0 (t 24)),i 30 (.extract 1 (t 24)),mT 4 29,mT 5 30]) (.seq (.ops [mT 31 4,i 32 (.buildSlice 3 [(.int .i64 0),(.int .i64 0),(.int .i64 0)] [(0,(1,(zT 100))),(1,(1,(zT 200))),(2,(1,(zT 250)))]),mT 33 2,xT 34 1 32 33,lT 35 34,i 36 (.bin .neq (t 31) (t 35)),mT 37 36,q 38 37 (.mov (t 5)),q 39 37 (.bin .neq (t 38) (zT 0)),i 40 (.pick (t 37) (k (.bool true)) (t 39))]) (.cond (t 40) (.seq (.ops [i 0 (.mov (k (.bool false)))]) .ret) .skip))))) (.ops [i 41 (.bin .add (t 19) (zT 1)),mT 19 41]))))
def c7:zAc:=(.seq (.ops [i 0 (.mov (k (.bool false)))]) (.seq (.ops [i 15 (.build [(.int .i64 0),(.int .i64 0),(.int .i64 0)] [(0,(1,(zT 1))),(2,(1,(zT 250)))]),i 16 (.buildSlice 1 [(.int .i64 0),(.int .i64 0),(.int .i64 0)] [(0,(3,(t 15)))]),mT 1 16]) (.seq (.seq (.ops [i 17 (.buildSlice 3 [(.int .i64 0),(.int .i64 0),(.int .i64 0)] [(0,(1,(zT 660))),(1,(1,(zT 2100))),(2,(1,(zT 3540)))]),i 18 (.lenSlice (t 17)),i 19 (.mov (zT 0))]) (.block 0 (.loop l7_1))) (.seq (.ops [i 42 (.build [(.int .i64 0),(.int .i64 0),(.int .i64 0),(.int .i64 0)] [(0,(1,(zT 1))),(1,(1,(zT 600))),(2,(1,(zT 660))),(3,(1,(zT 100)))]),i 43 (.build [(.int .i64 0),(.int .i64 0),(.int .i64 0),(.int .i64 0)] [(0,(1,(zT 1))),(1,(1,(zT 2040))),(2,(1,(zT 2100))),(3,(1,(zT 100)))]),i 44 (.buildSlice 2 [(.int .i64 0),(.int .i64 0),(.int .i64 0),(.int .i64 0),(.int .i64 0),(.int .i64 0),(.int .i64 0),(.int .i64 0)] [(0,(4,(t 42))),(4,(4,(t 43)))]),mT 6 44]) (.seq (.ops [i 46 (.call .any (.func 20) []),mT 47 1,i 48 (.call .any (.func 21) [(t 46),(t 47),(zT 2),(zT 2100)]),mT 45 48,i 49 (.extract 0 (t 45)),i 50 (.extract 1 (t 45)),mT 7 49,mT 8 50]) (.seq (.ops [i 52 (.call .any (.func 20) []),mT 53 1,mT 54 7,i 55 (.call .any (.func 22) [(t 52),(t 53),(zT 2),(zT 2100),(t 54)]),mT 51 55,i 56 (.extract 0 (t 51)),i 57 (.extract 1 (t 51)),mT 9 56,mT 10 57]) (.seq (.ops [i 59 (.call .any (.func 20) []),mT 60 1,i 61 (.call .any (.func 18) [(t 59),(t 60),(zT 2),(zT 2100)]),mT 58 61,i 62 (.extract 0 (t 58)),i 63 (.extract 1 (t 58)),i 11 (.alloc [(.slice none 0 0),(.slice none 0 0)]),s (.store 2 (t 11) (t 62)),mT 12 63]) (.seq (.ops [i 65 (.call .any (.func 20) []),mT 66 1,i 67 (.call .any (.func 18) [(t 65),(t 66),(zT 2),(zT 3540)]),mT 64 67,i 68 (.extract 0 (t 64)),i 69 (.extract 1 (t 64)),i 13 (.alloc [(.slice none 0 0),(.slice none 0 0)]),s (.store 2 (t 13) (t 68)),mT 14 69]) (.seq (.ops [mT 70 8,i 71 (.bin .eql (t 70) (zT 0)),mT 72 71,p 73 72 (.mov (t 7)),p 74 72 (.mov (t 6)),p 75 72 (.call .any (.func 23) [(t 73),(t 74)]),i 76 (.pick (t 72) (t 75) (k (.bool false))),mT 77 76,p 78 77 (.mov (t 9)),p 79 77 (.bin .eql (t 78) (zT 200)),i 80 (.pick (t 77) (t 79) (k (.bool false))),mT 81 80,p 82 81 (.mov (t 10)),i 83 (.pick (t 81) (t 82) (k (.bool false))),mT 84 83,p 85 84 (.mov (t 12)),p 86 84 (.bin .eql (t 85) (zT 0)),i 87 (.pick (t 84) (t 86) (k (.bool false))),mT 88 87,p 89 88 (.fieldAddr 0 (t 11)),p 90 88 (.load1 (t 89)),p 91 88 (.buildSlice 2 [(.int .i64 0),(.int .i64 0)] [(0,(1,(zT 0))),(1,(1,(zT (-1))))]),p 92 88 (.call .any (.func 24) [(t 90),(t 91)]),i 93 (.pick (t 88) (t 92) (k (.bool false))),mT 94 93,p 95 94 (.fieldAddr 1 (t 11)),p 96 94 (.load1 (t 95)),p 97 94 (.mov (t 6)),p 98 94 (.call .any (.func 23) [(t 96),(t 97)]),i 99 (.pick (t 94) (t 98) (k (.bool false))),mT 100 99,p 101 100 (.mov (t 14)),p 102 100 (.bin .eql (t 101) (zT 0)),i 103 (.pick (t 100) (t 102) (k (.bool false))),mT 104 103,p 105 104 (.fieldAddr 0 (t 13)),p 106 104 (.load1 (t 105)),p 107 104 (.buildSlice 2 [(.int .i64 0),(.int .i64 0)] [(0,(1,(zT (-1)))),(1,(1,(zT (-1))))]),p 108 104 (.call .any (.func 24) [(t 106),(t 107)]),i 109 (.pick (t 104) (t 108) (k (.bool false))),mT 110 109,p 111 110 (.fieldAddr 1 (t 13)),p 112 110 (.load1 (t 111)),p 113 110 (.lenSlice (t 112)),p 114 110 (.bin .eql (t 113) (zT 0)),i 115 (.pick (t 110) (t 114) (k (.bool false))),mT 0 115]) .ret)))))))))
def a7:zAf:=⟨116,[(.tmp 0)],c7⟩
theorem n7:a7.ntmps=116:=id rfl
theorem r7:a7.results=[(.tmp 0)]:=rfl
theorem b7:a7.body=c7:=rfl
def c11:zAc:=(.seq (.ops [i 14 (.alloc [(.int .i64 0),(.int .i64 0),(.int .i64 0),(.int .i64 0),(.int .i64 0),(.int .i64 0),(.int .i64 0),(.int .u8 0)])]) (.seq (.ops [mT 15 0,mT 16 1,mT 17 2,mT 18 3,mT 19 4,mT 20 5,mT 21 6,i 22 (.build [(.int .i64 0),(.int .i64 0),(.int .i64 0),(.int .i64 0),(.int .i64 0),(.int .i64 0),(.int .i64 0),(.int .u8 0)] [(0,(1,(t 15))),(1,(1,(t 16))),(2,(1,(t 17))),(3,(1,(t 18))),(4,(1,(t 19))),(5,(1,(t 20))),(6,(1,(t 21))),(7,(1,(k (.int .u8 127))))]),s (.store 8 (t 14) (t 22))]) .ret))
def a11:zAf:=⟨23,[(.cellN 8 14)],c11⟩
theorem n11:a11.ntmps=23:=id rfl
theorem r11:a11.results=[(.cellN 8 14)]:=rfl
theorem b11:a11.body=c11:=rfl
def l13_1:zAc:=(.seq (.ops [i 52 (.bin .lss (t 51) (t 50))]) (.seq (.cond (t 52) .skip (.exit 2)) (.seq (.block 3 (.seq (.ops [xT 53 8 49 51,i 54 (.loadN 8 (t 53)),i 8 (.alloc [(.int .i64 0),(.int .i64 0),(.int .i64 0),(.int .i64 0),(.int .i64 0),(.int .i64 0),(.int .i64 0),(.int .u8 0)]),s (.store 8 (t 8) (t 54))]) (.seq (.seq (.ops [i 55 (.loadN 8 (t 8)),i 56 (.call .any (.func 35) [(t 55)]),i 57 (.un .not (t 56)),mT 58 57,q 59 58 (.mov (t 6)),q 60 58 (.fieldAddr 0 (t 8)),q 61 58 (.load1 (t 60)),q 62 58 (.lookup (.int .i64) (.bool false) false (t 59) (t 61)),i 63 (.pick (t 58) (k (.bool true)) (t 62)),mT 64 63,q 65 64 (.mov (t 3)),q 66 64 (.fieldAddr 1 (t 8)),q 67 64 (.load1 (t 66)),q 68 64 (.lookup (.int .i64) (.bool false) false (t 65) (t 67)),q 69 64 (.un .not (t 68)),i 70 (.pick (t 64) (k (.bool true)) (t 69)),mT 71 70,q 72 71 (.mov (t 3)),q 73 71 (.fieldAddr 2 (t 8)),q 74 71 (.load1 (t 73)),q 75 71 (.lookup (.int .i64) (.bool false) false (t 72) (t 74)),q 76 71 (.un .not (t 75)),i 77 (.pick (t 71) (k (.bool true)) (t 76))]) (.cond (t 77) (.seq (.ops [i 2 (.mov (zT 321))]) .ret) .skip)) (.ops [mT 78 6,fT 79 0 8,lT 80 79,s (.mapUpdate (.int .i64) (t 78) (t 80) (k (.bool true)))])))) (.ops [i 81 (.bin .add (t 51) (zT 1)),mT 51 81]))))
def l13_2:zAc:=(.seq (.ops [i 27 (.bin .lss (t 26) (t 25))]) (.seq (.cond (t 27) .skip (.exit 0)) (.seq (.block 1 (.seq (.ops [xT 28 1 24 26,lT 29 28,mT 5 29]) (.seq (.seq (.ops [mT 30 5,i 31 (.bin .lss (t 30) (zT 1)),mT 32 31,q 33 32 (.mov (t 5)),q 34 32 (.bin .gtr (t 33) (zT 999999)),i 35 (.pick (t 32) (k (.bool true)) (t 34)),mT 36 35,q 37 36 (.mov (t 3)),q 38 36 (.mov (t 5)),q 39 36 (.lookup (.int .i64) (.bool false) false (t 37) (t 38)),i 40 (.pick (t 36) (k (.bool true)) (t 39))]) (.cond (t 40) (.seq (.ops [i 2 (.mov (zT 320))]) .ret) .skip)) (.ops [mT 41 3,mT 42 5,s (.mapUpdate (.int .i64) (t 41) (t 42) (k (.bool true)))])))) (.ops [i 43 (.bin .add (t 26) (zT 1)),mT 26 43]))))
def c13:zAc:=(.seq (.ops [i 1 (.box (t 0)),i 2 (.mov (zT 0))]) (.seq (.seq (.ops [fT 9 0 1,lT 10 9,i 11 (.lenSlice (t 10)),i 12 (.bin .gtr (t 11) (zT 50)),mT 13 12,q 14 13 (.fieldAddr 1 (t 1)),q 15 13 (.load1 (t 14)),q 16 13 (.lenSlice (t 15)),q 17 13 (.bin .gtr (t 16) (zT 200)),i 18 (.pick (t 13) (k (.bool true)) (t 17))]) (.cond (t 18) (.seq (.ops [i 2 (.mov (zT 5))]) .ret) .skip)) (.seq (.ops [fT 19 0 1,lT 20 19,i 21 (.lenSlice (t 20)),i 22 (.makeMap (some (t 21))),mT 3 22]) (.seq (.seq (.ops [fT 23 0 1,lT 24 23,i 25 (.lenSlice (t 24)),i 26 (.mov (zT 0))]) (.block 0 (.loop l13_2))) (.seq (.ops [fT 44 1 1,lT 45 44,i 46 (.lenSlice (t 45)),i 47 (.makeMap (some (t 46))),mT 6 47]) (.seq (.seq (.ops [fT 48 1 1,lT 49 48,i 50 (.lenSlice (t 49)),i 51 (.mov (zT 0))]) (.block 2 (.loop l13_1))) (.seq (.ops [i 2 (.mov (zT 0))]) .ret)))))))
def a13:zAf:=⟨82,[(.tmp 2)],c13⟩
theorem n13:a13.ntmps=82:=id rfl
theorem r13:a13.results=[(.tmp 2)]:=rfl
theorem b13:a13.body=c13:=rfl
def l14_1:zAc:=(.seq (.seq (.ops [mT 6 5,fT 7 0 2,lT 8 7,i 9 (.lenSlice (t 8)),i 10 (.bin .lss (t 6) (t 9))]) (.cond (t 10) .skip (.exit 0))) (.seq (.block 1 (.seq (.ops [fT 13 0 2,lT 14 13,mT 15 5,xT 16 1 14 15,lT 17 16,mT 18 1,i 19 (.bin .eql (t 17) (t 18))]) (.cond (t 19) (.seq (.ops [mT 20 5,mT 4 20]) .ret) .skip))) (.ops [mT 11 5,i 12 (.bin .add (t 11) (zT 1)),mT 5 12])))
def c14:zAc:=(.seq (.ops [i 2 (.box (t 0)),i 4 (.mov (zT 0))]) (.seq (.seq (.ops [i 5 (.mov (zT 0))]) (.block 0 (.loop l14_1))) (.seq (.ops [i 4 (.mov (zT (-1)))]) .ret)))
def a14:zAf:=⟨21,[(.tmp 4)],c14⟩
theorem n14:a14.ntmps=21:=id rfl
theorem r14:a14.results=[(.tmp 4)]:=rfl
theorem b14:a14.body=c14:=rfl
def c15:zAc:=(.seq (.ops [i 1 (.box (t 0)),i 2 (.alloc [(.slice none 0 0),(.slice none 0 0)])]) (.seq (.ops [fT 3 0 1,lT 4 3,i 5 (.call .any (.func 36) [(t 4)]),fT 6 0 1,s (.store 1 (t 6) (t 5))]) (.seq (.ops [fT 7 1 1,lT 8 7,i 9 (.call .any (.func 37) [(t 8)]),fT 10 1 1,s (.store 1 (t 10) (t 9))]) (.seq (.ops [i 11 (.loadN 2 (t 1)),s (.store 2 (t 2) (t 11))]) .ret))))
def a15:zAf:=⟨12,[(.cellN 2 2)],c15⟩
theorem n15:a15.ntmps=12:=id rfl
theorem r15:a15.results=[(.cellN 2 2)]:=rfl
theorem b15:a15.body=c15:=rfl
def c16:zAc:=(.seq (.ops [i 4 (.mov (zT 0))]) (.seq (.seq (.ops [mT 5 1,i 6 (.bin .lss (t 5) (zT 1))]) (.cond (t 6) (.seq (.ops [i 4 (.mov (zT 0))]) .ret) .skip)) (.seq (.ops [mT 7 0,mT 8 1,i 9 (.bin .rem (t 7) (t 8)),mT 0 9]) (.seq (.seq (.ops [mT 10 0,i 11 (.bin .lss (t 10) (zT 0))]) (.cond (t 11) (.ops [mT 12 0,mT 13 1,i 14 (.bin .add (t 12) (t 13)),mT 0 14]) .skip)) (.seq (.ops [mT 15 0,mT 4 15]) .ret)))))
def a16:zAf:=⟨16,[(.tmp 4)],c16⟩
theorem n16:a16.ntmps=16:=id rfl
theorem r16:a16.results=[(.tmp 4)]:=rfl
theorem b16:a16.body=c16:=rfl
def c17:zAc:=(.seq (.ops [i 4 (.box (t 0)),i 8 (.mov (zT 0)),i 9 (.mov (zT 0))]) (.seq (.seq (.ops [i 11 (.loadN 2 (t 4)),mT 12 1,mT 13 2,mT 14 3,i 15 (.call .any (.func 38) [(t 11),(t 12),(t 13),(t 14)]),mT 10 15]) (.seq (.ops [mT 16 10,i 17 (.bin .neq (t 16) (zT 0))]) (.cond (t 17) (.seq (.ops [mT 18 10,i 8 (.mov (zT 0)),mT 9 18]) .ret) .skip))) (.seq (.ops [i 19 (.loadN 2 (t 4)),mT 20 1,mT 21 2,mT 22 3,i 23 (.call .any (.func 39) [(t 19),(t 20),(t 21),(t 22)]),i 24 (.nilCheck (t 23)),fT 25 7 24,lT 26 25,mT 8 26,i 9 (.mov (zT 0))]) .ret)))
def a17:zAf:=⟨27,[(.tmp 8),(.tmp 9)],c17⟩
theorem n17:a17.ntmps=27:=id rfl
theorem r17:a17.results=[(.tmp 8),(.tmp 9)]:=rfl
theorem b17:a17.body=c17:=rfl
def l18_1:zAc:=(.seq (.ops [i 111 (.bin .lss (t 110) (t 109))]) (.seq (.cond (t 111) .skip (.exit 4)) (.seq (.block 5 (.seq (.ops [xT 112 11 108 110,i 113 (.loadN 11 (t 112)),i 23 (.alloc [(.int .i64 0),(.int .i64 0),(.int .i64 0),(.int .i64 0),(.int .i64 0),(.int .i64 0),(.int .i64 0),(.int .u8 0),(.int .i64 0),(.int .i64 0),(.int .i64 0)]),s (.store 11 (t 23) (t 113))]) (.seq (.ops [fT 114 8 23,i 115 (.loadN 2 (t 114)),i 24 (.alloc [(.int .i64 0),(.int .i64 0)]),s (.store 2 (t 24) (t 115))]) (.seq (.ops [mT 117 12,fT 118 0 23,fT 119 1 118,lT 120 119,i 121 (.lookup (.int .i64) (.int .i64 0) true (t 117) (t 120)),mT 116 121,i 122 (.extract 0 (t 116)),i 123 (.extract 1 (t 116)),mT 25 122,mT 26 123]) (.seq (.ops [mT 125 12,fT 126 0 23,fT 127 2 126,lT 128 127,i 129 (.lookup (.int .i64) (.int .i64 0) true (t 125) (t 128)),mT 124 129,i 130 (.extract 0 (t 124)),i 131 (.extract 1 (t 124)),mT 27 130,mT 28 131]) (.seq (.ops [mT 132 26,mT 133 132,p 134 133 (.mov (t 25)),p 135 133 (.fieldAddr 0 (t 24)),p 136 133 (.load1 (t 135)),p 137 133 (.fieldAddr 0 (t 23)),p 138 133 (.fieldAddr 5 (t 137)),p 139 133 (.load1 (t 138)),p 140 133 (.bin .sub (t 136) (t 139)),p 141 133 (.bin .leq (t 134) (t 140)),i 142 (.pick (t 133) (t 141) (k (.bool false))),mT 143 142,p 144 143 (.mov (t 28)),p 145 143 (.un .not (t 144)),p 146 143 (.mov (t 145)),q 147 146 (.mov (t 27)),q 148 146 (.fieldAddr 1 (t 24)),q 149 146 (.load1 (t 148)),q 150 146 (.bin .gtr (t 147) (t 149)),p 151 143 (.pick (t 146) (k (.bool true)) (t 150)),i 152 (.pick (t 143) (t 151) (k (.bool false)))]) (.cond (t 152) (.ops [fT 153 1 17,lT 154 153,fT 155 0 23,fT 156 0 155,lT 157 156,fT 158 0 24,lT 159 158,fT 160 1 24,lT 161 160,fT 162 0 23,fT 163 6 162,lT 164 163,i 165 (.build [(.int .i64 0),(.int .i64 0),(.int .i64 0),(.int .i64 0)] [(0,(1,(t 157))),(1,(1,(t 159))),(2,(1,(t 161))),(3,(1,(t 164)))]),i 166 (.buildSlice 1 [(.int .i64 0),(.int .i64 0),(.int .i64 0),(.int .i64 0)] [(0,(4,(t 165)))]),i 167 (.append 4 32 false (t 154) (t 166)),fT 168 1 17,s (.store 1 (t 168) (t 167))]) .skip))))))) (.ops [i 169 (.bin .add (t 110) (zT 1)),mT 110 169]))))
def l18_2:zAc:=(.seq (.ops [i 87 (.bin .lss (t 86) (t 85))]) (.seq (.cond (t 87) .skip (.exit 2)) (.seq (.block 3 (.seq (.ops [xT 88 1 84 86,lT 89 88,mT 19 89]) (.seq (.ops [mT 91 12,mT 92 19,i 93 (.lookup (.int .i64) (.int .i64 0) true (t 91) (t 92)),mT 90 93,i 94 (.extract 0 (t 90)),i 95 (.extract 1 (t 90)),mT 20 94,mT 21 95]) (.seq (.seq (.ops [mT 96 21,i 97 (.un .not (t 96))]) (.cond (t 97) (.ops [i 20 (.mov (zT (-1)))]) .skip)) (.ops [fT 98 0 17,lT 99 98,mT 100 20,i 101 (.buildSlice 1 [(.int .i64 0)] [(0,(1,(t 100)))]),i 102 (.append 1 8 false (t 99) (t 101)),fT 103 0 17,s (.store 1 (t 103) (t 102))]))))) (.ops [i 104 (.bin .add (t 86) (zT 1)),mT 86 104]))))
def l18_3:zAc:=(.seq (.ops [i 53 (.bin .lss (t 52) (t 51))]) (.seq (.cond (t 53) .skip (.exit 0)) (.seq (.block 1 (.seq (.ops [mT 54 52,xT 55 2 50 52,i 56 (.loadN 2 (t 55)),i 14 (.alloc [(.int .i64 0),(.int .i64 0)]),mT 13 54,s (.store 2 (t 14) (t 56))]) (.seq (.ops [mT 58 12,fT 59 0 14,lT 60 59,i 61 (.lookup (.int .i64) (.int .i64 0) true (t 58) (t 60)),mT 57 61,i 62 (.extract 0 (t 57)),i 63 (.extract 1 (t 57)),mT 15 62,mT 16 63]) (.seq (.ops [mT 64 16,i 65 (.un .not (t 64)),mT 66 65,p 67 66 (.mov (t 11)),p 68 66 (.nilCheck (t 67)),p 69 66 (.fieldAddr 4 (t 68)),p 70 66 (.load1 (t 69)),p 71 66 (.mov (t 13)),p 72 66 (.bin .add (t 71) (zT 2)),p 73 66 (.idxAddrS 1 (t 70) (t 72)),p 74 66 (.load1 (t 73)),p 75 66 (.bin .geq (t 74) (zT 0)),i 76 (.pick (t 66) (t 75) (k (.bool false)))]) (.cond (t 76) (.ops [mT 77 12,fT 78 0 14,lT 79 78,fT 80 1 14,lT 81 80,s (.mapUpdate (.int .i64) (t 77) (t 79) (t 81))]) .skip))))) (.ops [i 82 (.bin .add (t 52) (zT 1)),mT 52 82]))))
def c18:zAc:=(.seq (.ops [i 4 (.box (t 0)),i 8 (.alloc [(.slice none 0 0),(.slice none 0 0)]),i 9 (.mov (zT 0))]) (.seq (.seq (.ops [i 29 (.loadN 2 (t 4)),mT 30 1,mT 31 2,mT 32 3,i 33 (.call .any (.func 38) [(t 29),(t 30),(t 31),(t 32)]),mT 10 33]) (.seq (.ops [mT 34 10,i 35 (.bin .neq (t 34) (zT 0))]) (.cond (t 35) (.seq (.ops [i 36 (.build [(.slice none 0 0),(.slice none 0 0)] []),mT 37 10,s (.store 2 (t 8) (t 36)),mT 9 37]) .ret) .skip))) (.seq (.ops [i 38 (.loadN 2 (t 4)),mT 39 1,mT 40 2,mT 41 3,i 42 (.call .any (.func 39) [(t 38),(t 39),(t 40),(t 41)]),mT 11 42]) (.seq (.ops [fT 43 0 4,lT 44 43,i 45 (.lenSlice (t 44)),i 46 (.makeMap (some (t 45))),mT 12 46]) (.seq (.seq (.ops [mT 47 11,i 48 (.nilCheck (t 47)),fT 49 0 48,lT 50 49,i 51 (.lenSlice (t 50)),i 52 (.mov (zT 0))]) (.block 0 (.loop l18_3))) (.seq (.ops [i 17 (.alloc [(.slice none 0 0),(.slice none 0 0)])]) (.seq (.seq (.ops [fT 83 0 4,lT 84 83,i 85 (.lenSlice (t 84)),i 86 (.mov (zT 0))]) (.block 2 (.loop l18_2))) (.seq (.seq (.ops [mT 105 11,i 106 (.nilCheck (t 105)),fT 107 6 106,lT 108 107,i 109 (.lenSlice (t 108)),i 110 (.mov (zT 0))]) (.block 4 (.loop l18_1))) (.seq (.ops [fT 170 1 17,lT 171 170,i 172 (.call .any (.func 40) [(t 171),(.func 41)])]) (.seq (.ops [i 173 (.loadN 2 (t 17)),s (.store 2 (t 8) (t 173)),i 9 (.mov (zT 0))]) .ret))))))))))
def a18:zAf:=⟨174,[(.cellN 2 8),(.tmp 9)],c18⟩
theorem n18:a18.ntmps=174:=id rfl
theorem r18:a18.results=[(.cellN 2 8),(.tmp 9)]:=rfl
theorem b18:a18.body=c18:=rfl
def c19:zAc:=(.seq (.ops [i 3 (.box (t 0)),i 6 (.mov (k (.slice none 0 0))),i 7 (.mov (zT 0))]) (.seq (.ops [i 13 (.loadN 2 (t 3)),mT 14 1,mT 15 1,mT 16 2,i 17 (.call .any (.func 42) [(t 13),(t 14),(t 15),(t 16)]),mT 12 17,i 18 (.extract 0 (t 12)),i 19 (.extract 1 (t 12)),mT 8 18,mT 9 19]) (.seq (.seq (.ops [mT 20 9,i 21 (.bin .neq (t 20) (zT 0))]) (.cond (t 21) (.seq (.ops [mT 22 9,i 6 (.mov (k (.slice none 0 0))),mT 7 22]) .ret) .skip)) (.seq (.ops [i 23 (.loadN 2 (t 3)),mT 24 8,mT 25 1,mT 26 2,i 27 (.call .any (.func 43) [(t 23),(t 24),(t 25),(t 26)]),mT 10 27]) (.seq (.ops [mT 28 10,mT 29 10,i 30 (.lenSlice (t 29)),i 31 (.bin .sub (t 30) (zT 1)),xT 32 50 28 31,i 33 (.loadN 50 (t 32)),i 11 (.alloc [(.int .i64 0),(.int .i64 0),(.int .i64 0),(.int .i64 0),(.int .i64 0),(.int .i64 0),(.int .i64 0),(.int .i64 0),(.int .i64 0),(.int .i64 0),(.int .i64 0),(.int .i64 0),(.int .i64 0),(.int .i64 0),(.int .i64 0),(.int .i64 0),(.int .i64 0),(.int .i64 0),(.int .i64 0),(.int .i64 0),(.int .i64 0),(.int .i64 0),(.int .i64 0),(.int .i64 0),(.int .i64 0),(.int .i64 0),(.int .i64 0),(.int .i64 0),(.int .i64 0),(.int .i64 0),(.int .i64 0),(.int .i64 0),(.int .i64 0),(.int .i64 0),(.int .i64 0),(.int .i64 0),(.int .i64 0),(.int .i64 0),(.int .i64 0),(.int .i64 0),(.int .i64 0),(.int .i64 0),(.int .i64 0),(.int .i64 0),(.int .i64 0),(.int .i64 0),(.int .i64 0),(.int .i64 0),(.int .i64 0),(.int .i64 0)]),s (.store 50 (t 11) (t 33))]) (.seq (.ops [fT 34 0 3,lT 35 34,i 36 (.lenSlice (t 35)),i 37 (.sliceA 50 1 (t 11) none (some (t 36)) none),i 38 (.call .any (.func 44) [(t 37)]),mT 6 38,i 7 (.mov (zT 0))]) .ret))))))
def a19:zAf:=⟨39,[(.tmp 6),(.tmp 7)],c19⟩
theorem n19:a19.ntmps=39:=id rfl
theorem r19:a19.results=[(.tmp 6),(.tmp 7)]:=rfl
theorem b19:a19.body=c19:=rfl
def c20:zAc:=(.seq (.ops [i 0 (.alloc [(.slice none 0 0),(.slice none 0 0)])]) (.seq (.ops [i 1 (.buildSlice 2 [(.int .i64 0),(.int .i64 0)] [(0,(1,(zT 1))),(1,(1,(zT 2)))]),i 2 (.call .any (.func 11) [(zT 1),(zT 1),(zT 2),(zT 600),(zT 60),(zT 0),(zT 100)]),i 3 (.buildSlice 1 [(.int .i64 0),(.int .i64 0),(.int .i64 0),(.int .i64 0),(.int .i64 0),(.int .i64 0),(.int .i64 0),(.int .u8 0)] [(0,(8,(t 2)))]),i 4 (.build [(.slice none 0 0),(.slice none 0 0)] [(0,(1,(t 1))),(1,(1,(t 3)))]),s (.store 2 (t 0) (t 4))]) .ret))
def a20:zAf:=⟨5,[(.cellN 2 0)],c20⟩
theorem n20:a20.ntmps=5:=id rfl
theorem r20:a20.results=[(.cellN 2 0)]:=rfl
theorem b20:a20.body=c20:=rfl
def l21_1:zAc:=(.seq (.ops [i 35 (.bin .lss (t 34) (t 33))]) (.seq (.cond (t 35) .skip (.exit 0)) (.seq (.block 1 (.seq (.ops [xT 36 11 32 34,i 37 (.loadN 11 (t 36)),i 14 (.alloc [(.int .i64 0),(.int .i64 0),(.int .i64 0),(.int .i64 0),(.int .i64 0),(.int .i64 0),(.int .i64 0),(.int .u8 0),(.int .i64 0),(.int .i64 0),(.int .i64 0)]),s (.store 11 (t 14) (t 37))]) (.seq (.drawn 0 [mT 38 11,i 39 (.nilCheck (t 38)),fT 40 2 39,lT 41 40,fT 42 10 14,lT 43 42,i 44 (.bin .xor (t 43) (zT 1)),xT 45 2 41 44,fT 46 1 45,lT 47 46,mT 15 47]) (.seq (.ops [mT 48 15,i 49 (.bin .gtr (t 48) (zT 0))]) (.cond (t 49) (.ops [mT 50 12,fT 51 0 14,fT 52 0 51,lT 53 52,fT 54 8 14,fT 55 0 54,lT 56 55,fT 57 8 14,fT 58 1 57,lT 59 58,mT 60 15,i 61 (.build [(.int .i64 0),(.int .i64 0),(.int .i64 0),(.int .i64 0)] [(0,(1,(t 53))),(1,(1,(t 56))),(2,(1,(t 59))),(3,(1,(t 60)))]),i 62 (.buildSlice 1 [(.int .i64 0),(.int .i64 0),(.int .i64 0),(.int .i64 0)] [(0,(4,(t 61)))]),i 63 (.append 4 32 false (t 50) (t 62)),mT 12 63]) .skip))))) (.ops [i 64 (.bin .add (t 34) (zT 1)),mT 34 64]))))
def c21:zAc:=(.seq (.ops [i 4 (.box (t 0)),i 8 (.mov (k (.slice none 0 0))),i 9 (.mov (zT 0))]) (.seq (.seq (.ops [i 16 (.loadN 2 (t 4)),mT 17 1,mT 18 2,mT 19 3,i 20 (.call .any (.func 38) [(t 16),(t 17),(t 18),(t 19)]),mT 10 20]) (.seq (.ops [mT 21 10,i 22 (.bin .neq (t 21) (zT 0))]) (.cond (t 22) (.seq (.ops [mT 23 10,i 8 (.mov (k (.slice none 0 0))),mT 9 23]) .ret) .skip))) (.seq (.ops [i 24 (.loadN 2 (t 4)),mT 25 1,mT 26 2,mT 27 3,i 28 (.call .any (.func 39) [(t 24),(t 25),(t 26),(t 27)]),mT 11 28]) (.seq (.ops [i 12 (.mov (k (.slice none 0 0)))]) (.seq (.seq (.ops [mT 29 11,i 30 (.nilCheck (t 29)),fT 31 6 30,lT 32 31,i 33 (.lenSlice (t 32)),i 34 (.mov (zT 0))]) (.block 0 (.loop l21_1))) (.seq (.ops [mT 65 12,i 66 (.call .any (.func 40) [(t 65),(.func 41)])]) (.seq (.ops [mT 67 12,mT 8 67,i 9 (.mov (zT 0))]) .ret)))))))
def a21:zAf:=⟨68,[(.tmp 8),(.tmp 9)],c21⟩
theorem n21:a21.ntmps=68:=id rfl
theorem r21:a21.results=[(.tmp 8),(.tmp 9)]:=rfl
theorem b21:a21.body=c21:=rfl
def l22_1:zAc:=(.seq (.ops [i 79 (.bin .lss (t 78) (t 77))]) (.seq (.cond (t 79) .skip (.exit 4)) (.seq (.block 5 (.seq (.ops [mT 80 78,xT 81 4 76 78,i 82 (.loadN 4 (t 81)),i 20 (.alloc [(.int .i64 0),(.int .i64 0),(.int .i64 0),(.int .i64 0)]),mT 19 80,s (.store 4 (t 20) (t 82))]) (.seq (.ops [lT 84 12,fT 85 0 20,lT 86 85,fT 87 1 20,lT 88 87,fT 89 2 20,lT 90 89,i 91 (.build [(.int .i64 0),(.int .i64 0),(.int .i64 0),(.int .i64 0)] [(0,(1,(t 86))),(1,(1,(t 88))),(2,(1,(t 90)))]),i 92 (.lookup (.ints [.i64,.i64,.i64,.i64]) (.agg #[(.int .i64 0),(.int .i64 0),(.int .i64 0),(.int .i64 0),(.int .i64 0),(.int .i64 0),(.int .i64 0),(.int .u8 0)]) true (t 84) (t 91)),mT 83 92,i 93 (.extract 0 (t 83)),i 94 (.extract 1 (t 83)),i 21 (.alloc [(.int .i64 0),(.int .i64 0),(.int .i64 0),(.int .i64 0),(.int .i64 0),(.int .i64 0),(.int .i64 0),(.int .u8 0)]),s (.store 8 (t 21) (t 93)),mT 22 94]) (.seq (.seq (.drawn 0 [mT 95 22,i 96 (.un .not (t 95)),mT 97 96,q 98 97 (.fieldAddr 3 (t 20)),q 99 97 (.load1 (t 98)),q 100 97 (.bin .lss (t 99) (zT 1)),i 101 (.pick (t 97) (k (.bool true)) (t 100)),mT 102 101,q 103 102 (.fieldAddr 3 (t 20)),q 104 102 (.load1 (t 103)),q 105 102 (.fieldAddr 6 (t 21)),q 106 102 (.load1 (t 105)),q 107 102 (.bin .gtr (t 104) (t 106)),i 108 (.pick (t 102) (k (.bool true)) (t 107)),mT 109 108,q 110 109 (.mov (t 19)),q 111 109 (.bin .gtr (t 110) (zT 0)),q 112 109 (.mov (t 111)),p 113 112 (.mov (t 4)),p 114 112 (.mov (t 19)),p 115 112 (.bin .sub (t 114) (zT 1)),p 116 112 (.idxAddrS 4 (t 113) (t 115)),p 117 112 (.loadN 4 (t 116)),p 118 112 (.loadN 4 (t 20)),p 119 112 (.call .pure (.func 41) [(t 117),(t 118)]),p 120 112 (.bin .geq (t 119) (zT 0)),q 121 109 (.pick (t 112) (t 120) (k (.bool false))),i 122 (.pick (t 109) (k (.bool true)) (t 121))]) (.cond (t 122) (.seq (.ops [i 10 (.mov (zT 0)),i 11 (.mov (k (.bool false)))]) .retM) .skip)) (.seq (.ops [mT 123 16,fT 124 1 21,lT 125 124,fT 126 1 20,lT 127 126,fT 128 5 21,lT 129 128,i 130 (.bin .sub (t 127) (t 129)),fT 131 3 20,lT 132 131,i 133 (.un .neg (t 132)),i 134 (.build [(.int .i64 0),(.int .i64 0),(.int .i64 0)] [(0,(1,(t 125))),(1,(1,(t 130))),(2,(1,(t 133)))]),fT 135 2 21,lT 136 135,fT 137 2 20,lT 138 137,fT 139 3 20,lT 140 139,i 141 (.build [(.int .i64 0),(.int .i64 0),(.int .i64 0)] [(0,(1,(t 136))),(1,(1,(t 138))),(2,(1,(t 140)))]),i 142 (.buildSlice 2 [(.int .i64 0),(.int .i64 0),(.int .i64 0),(.int .i64 0),(.int .i64 0),(.int .i64 0)] [(0,(3,(t 134))),(3,(3,(t 141)))]),i 143 (.append 3 24 false (t 123) (t 142)),mT 16 143]) (.seq (.ops [fT 144 2 21,lT 145 144,mT 146 2,i 147 (.bin .eql (t 145) (t 146))]) (.cond (t 147) (.ops [mT 148 15,fT 149 3 20,lT 150 149,i 151 (.bin .add (t 148) (t 150)),mT 15 151]) .skip))))))) (.ops [i 152 (.bin .add (t 78) (zT 1)),mT 78 152]))))
def l22_2:zAc:=(.seq (.ops [i 48 (.bin .lss (t 47) (t 46))]) (.seq (.cond (t 48) .skip (.exit 2)) (.seq (.block 3 (.seq (.ops [xT 49 3 45 47,i 50 (.loadN 3 (t 49)),i 18 (.alloc [(.int .i64 0),(.int .i64 0),(.int .i64 0)]),s (.store 3 (t 18) (t 50))]) (.seq (.ops [mT 51 16,fT 52 0 18,lT 53 52,fT 54 1 18,lT 55 54,fT 56 2 18,lT 57 56,i 58 (.build [(.int .i64 0),(.int .i64 0),(.int .i64 0)] [(0,(1,(t 53))),(1,(1,(t 55))),(2,(1,(t 57)))]),i 59 (.buildSlice 1 [(.int .i64 0),(.int .i64 0),(.int .i64 0)] [(0,(3,(t 58)))]),i 60 (.append 3 24 false (t 51) (t 59)),mT 16 60]) (.seq (.ops [fT 61 0 18,lT 62 61,mT 63 2,i 64 (.bin .eql (t 62) (t 63)),mT 65 64,p 66 65 (.fieldAddr 1 (t 18)),p 67 65 (.load1 (t 66)),p 68 65 (.mov (t 3)),p 69 65 (.bin .leq (t 67) (t 68)),i 70 (.pick (t 65) (t 69) (k (.bool false)))]) (.cond (t 70) (.ops [mT 71 15,fT 72 2 18,lT 73 72,i 74 (.bin .add (t 71) (t 73)),mT 15 74]) .skip))))) (.ops [i 75 (.bin .add (t 47) (zT 1)),mT 47 75]))))
def ga22_1:zAc:=(.seq (.ops [i 13 (.alloc [(.int .i64 0),(.int .i64 0),(.int .i64 0),(.int .i64 0),(.int .i64 0),(.int .i64 0),(.int .i64 0),(.int .u8 0)]),s (.store 8 (t 13) (t 34))]) (.ops [i 14 (.alloc [(.int .i64 0),(.int .i64 0)]),s (.store 2 (t 14) (t 35))]))
def gb22_1:zAc:=(.block 1 (.ops [lT 36 12,fT 37 0 13,lT 38 37,fT 39 0 14,lT 40 39,fT 41 1 14,lT 42 41,i 43 (.build [(.int .i64 0),(.int .i64 0),(.int .i64 0),(.int .i64 0)] [(0,(1,(t 38))),(1,(1,(t 40))),(2,(1,(t 42)))]),i 44 (.loadN 8 (t 13)),s (.mapUpdate (.ints [.i64,.i64,.i64,.i64]) (t 36) (t 43) (t 44))]))
def c22:zAc:=(.seq (.seq (.ops [i 5 (.box (t 0)),i 10 (.mov (zT 0)),i 11 (.mov (k (.bool false)))]) (.seq (.seq (.ops [i 23 (.loadN 2 (t 5)),mT 24 1,mT 25 2,mT 26 3,i 27 (.call .any (.func 38) [(t 23),(t 24),(t 25),(t 26)]),i 28 (.bin .neq (t 27) (zT 0))]) (.cond (t 28) (.seq (.ops [i 10 (.mov (zT 0)),i 11 (.mov (k (.bool false)))]) .retM) .skip)) (.seq (.ops [i 29 (.makeMap none),i 12 (.alloc [(.map none)]),s (.store 1 (t 12) (t 29))]) (.seq (.seq (.ops [i 30 (.loadN 2 (t 5)),mT 31 2,mT 32 3,i 33 (.call .any (.func 45) [(t 30),(t 31),(t 32)])]) (.block 0 (.rangeF (t 33) [34,35] ga22_1 gb22_1))) (.seq (.ops [i 15 (.mov (zT 0))]) (.seq (.ops [i 16 (.mov (k (.slice none 0 0)))]) (.seq (.seq (.ops [mT 45 1,i 46 (.lenSlice (t 45)),i 47 (.mov (zT 0))]) (.block 2 (.loop l22_2))) (.seq (.seq (.ops [mT 76 4,i 77 (.lenSlice (t 76)),i 78 (.mov (zT 0))]) (.block 4 (.loop l22_1))) (.seq (.seq (.ops [mT 153 16,i 154 (.call .any (.func 46) [(t 153)]),i 155 (.un .not (t 154))]) (.cond (t 155) (.seq (.ops [i 10 (.mov (zT 0)),i 11 (.mov (k (.bool false)))]) .retM) .skip)) (.seq (.ops [mT 156 15,mT 10 156,i 11 (.mov (k (.bool true)))]) .retM)))))))))) .retM)
def a22:zAf:=⟨157,[(.tmp 10),(.tmp 11)],c22⟩
theorem n22:a22.ntmps=157:=id rfl
theorem r22:a22.results=[(.tmp 10),(.tmp 11)]:=rfl
theorem b22:a22.body=c22:=rfl
def l23_1:zAc:=(.seq (.seq (.ops [mT 11 5,mT 12 0,i 13 (.lenSlice (t 12)),i 14 (.bin .lss (t 11) (t 13))]) (.cond (t 14) .skip (.exit 0))) (.seq (.block 1 (.seq (.drawn 0 [mT 17 0,mT 18 5,xT 19 4 17 18,i 20 (.loadN 4 (t 19)),mT 21 1,mT 22 5,xT 23 4 21 22,i 24 (.loadN 4 (t 23)),i 25 (.eqv true (.agg [(.int .i64),(.int .i64),(.int .i64),(.int .i64)]) (t 20) (t 24))]) (.cond (t 25) (.seq (.ops [i 4 (.mov (k (.bool false)))]) .ret) .skip))) (.ops [mT 15 5,i 16 (.bin .add (t 15) (zT 1)),mT 5 16])))
def c23:zAc:=(.seq (.ops [i 4 (.mov (k (.bool false)))]) (.seq (.seq (.ops [mT 6 0,i 7 (.lenSlice (t 6)),mT 8 1,i 9 (.lenSlice (t 8)),i 10 (.bin .neq (t 7) (t 9))]) (.cond (t 10) (.seq (.ops [i 4 (.mov (k (.bool false)))]) .ret) .skip)) (.seq (.seq (.ops [i 5 (.mov (zT 0))]) (.block 0 (.loop l23_1))) (.seq (.ops [i 4 (.mov (k (.bool true)))]) .ret))))
def a23:zAf:=⟨26,[(.tmp 4)],c23⟩
theorem n23:a23.ntmps=26:=id rfl
theorem r23:a23.results=[(.tmp 4)]:=rfl
theorem b23:a23.body=c23:=rfl
def l24_1:zAc:=(.seq (.seq (.ops [mT 11 5,mT 12 0,i 13 (.lenSlice (t 12)),i 14 (.bin .lss (t 11) (t 13))]) (.cond (t 14) .skip (.exit 0))) (.seq (.block 1 (.seq (.drawn 0 [mT 17 0,mT 18 5,xT 19 1 17 18,lT 20 19,mT 21 1,mT 22 5,xT 23 1 21 22,lT 24 23,i 25 (.bin .neq (t 20) (t 24))]) (.cond (t 25) (.seq (.ops [i 4 (.mov (k (.bool false)))]) .ret) .skip))) (.ops [mT 15 5,i 16 (.bin .add (t 15) (zT 1)),mT 5 16])))
def c24:zAc:=(.seq (.ops [i 4 (.mov (k (.bool false)))]) (.seq (.seq (.ops [mT 6 0,i 7 (.lenSlice (t 6)),mT 8 1,i 9 (.lenSlice (t 8)),i 10 (.bin .neq (t 7) (t 9))]) (.cond (t 10) (.seq (.ops [i 4 (.mov (k (.bool false)))]) .ret) .skip)) (.seq (.seq (.ops [i 5 (.mov (zT 0))]) (.block 0 (.loop l24_1))) (.seq (.ops [i 4 (.mov (k (.bool true)))]) .ret))))
def a24:zAf:=⟨26,[(.tmp 4)],c24⟩
theorem n24:a24.ntmps=26:=id rfl
theorem r24:a24.results=[(.tmp 4)]:=rfl
theorem b24:a24.body=c24:=rfl
def l35_1:zAc:=(.seq (.ops [i 34 (.bin .lss (t 33) (zT 8))]) (.seq (.cond (t 34) .skip (.exit 0)) (.seq (.block 1 (.seq (.ops [i 35 (.idxA 8 3 true (t 32) (t 33)),i 5 (.alloc [(.int .i64 0),(.int .i64 0),(.int .i64 0)]),s (.store 3 (t 5) (t 35))]) (.seq (.ops [fT 36 0 5,lT 37 36,fT 38 1 5,lT 39 38,i 40 (.bin .lss (t 37) (t 39)),mT 41 40,q 42 41 (.fieldAddr 0 (t 5)),q 43 41 (.load1 (t 42)),q 44 41 (.fieldAddr 2 (t 5)),q 45 41 (.load1 (t 44)),q 46 41 (.bin .gtr (t 43) (t 45)),i 47 (.pick (t 41) (k (.bool true)) (t 46))]) (.cond (t 47) (.seq (.ops [i 2 (.mov (k (.bool false)))]) .ret) .skip)))) (.ops [i 48 (.bin .add (t 33) (zT 1)),mT 33 48]))))
def c35:zAc:=(.seq (.ops [i 1 (.box (t 0)),i 2 (.mov (k (.bool false)))]) (.seq (.ops [fT 6 0 1,lT 7 6,i 8 (.build [(.int .i64 0),(.int .i64 0),(.int .i64 0)] [(0,(1,(t 7))),(1,(1,(zT 1))),(2,(1,(zT 999999)))]),fT 9 1 1,lT 10 9,i 11 (.build [(.int .i64 0),(.int .i64 0),(.int .i64 0)] [(0,(1,(t 10))),(1,(1,(zT 1))),(2,(1,(zT 999999)))]),fT 12 2 1,lT 13 12,i 14 (.build [(.int .i64 0),(.int .i64 0),(.int .i64 0)] [(0,(1,(t 13))),(1,(1,(zT 1))),(2,(1,(zT 999999)))]),fT 15 3 1,lT 16 15,i 17 (.build [(.int .i64 0),(.int .i64 0),(.int .i64 0)] [(0,(1,(t 16))),(1,(1,(zT 0))),(2,(1,(zT 1439)))]),fT 18 4 1,lT 19 18,i 20 (.build [(.int .i64 0),(.int .i64 0),(.int .i64 0)] [(0,(1,(t 19))),(1,(1,(zT 1))),(2,(1,(zT 20160)))]),fT 21 5 1,lT 22 21,i 23 (.build [(.int .i64 0),(.int .i64 0),(.int .i64 0)] [(0,(1,(t 22))),(1,(1,(zT 0))),(2,(1,(zT 10080)))]),fT 24 6 1,lT 25 24,i 26 (.build [(.int .i64 0),(.int .i64 0),(.int .i64 0)] [(0,(1,(t 25))),(1,(1,(zT 0))),(2,(1,(zT 1000000000)))]),fT 27 7 1,lT 28 27,i 29 (.conv .i64 (t 28)),i 30 (.build [(.int .i64 0),(.int .i64 0),(.int .i64 0)] [(0,(1,(t 29))),(1,(1,(zT 1))),(2,(1,(zT 127)))]),i 31 (.build [(.int .i64 0),(.int .i64 0),(.int .i64 0),(.int .i64 0),(.int .i64 0),(.int .i64 0),(.int .i64 0),(.int .i64 0),(.int .i64 0),(.int .i64 0),(.int .i64 0),(.int .i64 0),(.int .i64 0),(.int .i64 0),(.int .i64 0),(.int .i64 0),(.int .i64 0),(.int .i64 0),(.int .i64 0),(.int .i64 0),(.int .i64 0),(.int .i64 0),(.int .i64 0),(.int .i64 0)] [(0,(3,(t 8))),(3,(3,(t 11))),(6,(3,(t 14))),(9,(3,(t 17))),(12,(3,(t 20))),(15,(3,(t 23))),(18,(3,(t 26))),(21,(3,(t 30)))]),i 3 (.alloc [(.int .i64 0),(.int .i64 0),(.int .i64 0),(.int .i64 0),(.int .i64 0),(.int .i64 0),(.int .i64 0),(.int .i64 0),(.int .i64 0),(.int .i64 0),(.int .i64 0),(.int .i64 0),(.int .i64 0),(.int .i64 0),(.int .i64 0),(.int .i64 0),(.int .i64 0),(.int .i64 0),(.int .i64 0),(.int .i64 0),(.int .i64 0),(.int .i64 0),(.int .i64 0),(.int .i64 0)]),s (.store 24 (t 3) (t 31))]) (.seq (.seq (.ops [i 32 (.loadN 24 (t 3)),i 33 (.mov (zT 0))]) (.block 0 (.loop l35_1))) (.seq (.ops [fT 49 1 1,lT 50 49,fT 51 2 1,lT 52 51,i 53 (.bin .neq (t 50) (t 52)),mT 2 53]) .ret))))
def a35:zAf:=⟨54,[(.tmp 2)],c35⟩
theorem n35:a35.ntmps=54:=id rfl
theorem r35:a35.results=[(.tmp 2)]:=rfl
theorem b35:a35.body=c35:=rfl
def c36:zAc:=(.seq (.ops [i 2 (.mov (k (.slice none 0 0)))]) (.seq (.ops [i 3 (.mov (k (.slice none 0 0)))]) (.seq (.ops [mT 4 3,mT 5 0,i 6 (.append 1 8 false (t 4) (t 5)),mT 2 6]) .ret)))
def a36:zAf:=⟨7,[(.tmp 2)],c36⟩
theorem n36:a36.ntmps=7:=id rfl
theorem r36:a36.results=[(.tmp 2)]:=rfl
theorem b36:a36.body=c36:=rfl
def c37:zAc:=(.seq (.ops [i 2 (.mov (k (.slice none 0 0)))]) (.seq (.ops [i 3 (.mov (k (.slice none 0 0)))]) (.seq (.ops [mT 4 3,mT 5 0,i 6 (.append 8 64 false (t 4) (t 5)),mT 2 6]) .ret)))
def a37:zAf:=⟨7,[(.tmp 2)],c37⟩
theorem n37:a37.ntmps=7:=id rfl
theorem r37:a37.results=[(.tmp 2)]:=rfl
theorem b37:a37.body=c37:=rfl
def l38_1:zAc:=(.seq (.ops [i 36 (.bin .lss (t 35) (t 34))]) (.seq (.cond (t 36) .skip (.exit 0)) (.seq (.block 1 (.seq (.ops [xT 37 3 33 35,i 38 (.loadN 3 (t 37)),i 11 (.alloc [(.int .i64 0),(.int .i64 0),(.int .i64 0)]),s (.store 3 (t 11) (t 38))]) (.seq (.seq (.ops [fT 39 0 4,lT 40 39,fT 41 0 11,lT 42 41,i 43 (.call .any (.func 57) [(t 40),(t 42)]),i 44 (.un .not (t 43)),mT 45 44,q 46 45 (.fieldAddr 1 (t 11)),q 47 45 (.load1 (t 46)),q 48 45 (.bin .lss (t 47) (zT 0)),i 49 (.pick (t 45) (k (.bool true)) (t 48)),mT 50 49,q 51 50 (.fieldAddr 1 (t 11)),q 52 50 (.load1 (t 51)),q 53 50 (.bin .gtr (t 52) (zT 1051898399)),i 54 (.pick (t 50) (k (.bool true)) (t 53))]) (.cond (t 54) (.seq (.ops [i 8 (.mov (zT 340))]) .ret) .skip)) (.seq (.ops [fT 55 2 11,lT 56 55,i 57 (.bin .lss (t 56) (zT 0)),mT 58 57,q 59 58 (.fieldAddr 2 (t 11)),q 60 58 (.load1 (t 59)),q 61 58 (.bin .gtr (t 60) (zT 1000000000)),i 62 (.pick (t 58) (k (.bool true)) (t 61))]) (.cond (t 62) (.seq (.ops [i 8 (.mov (zT 340))]) .ret) .skip))))) (.ops [i 63 (.bin .add (t 35) (zT 1)),mT 35 63]))))
def c38:zAc:=(.seq (.ops [i 4 (.box (t 0)),i 8 (.mov (zT 0))]) (.seq (.seq (.ops [i 12 (.loadN 2 (t 4)),i 13 (.call .any (.func 13) [(t 12)]),mT 9 13]) (.seq (.ops [mT 14 9,i 15 (.bin .neq (t 14) (zT 0))]) (.cond (t 15) (.seq (.ops [mT 16 9,mT 8 16]) .ret) .skip))) (.seq (.seq (.ops [fT 17 0 4,lT 18 17,mT 19 2,i 20 (.call .any (.func 57) [(t 18),(t 19)]),i 21 (.un .not (t 20)),mT 22 21,q 23 22 (.mov (t 3)),q 24 22 (.bin .lss (t 23) (zT 0)),i 25 (.pick (t 22) (k (.bool true)) (t 24)),mT 26 25,q 27 26 (.mov (t 3)),q 28 26 (.bin .gtr (t 27) (zT 1051898399)),i 29 (.pick (t 26) (k (.bool true)) (t 28))]) (.cond (t 29) (.seq (.ops [i 8 (.mov (zT 2))]) .ret) .skip)) (.seq (.seq (.ops [mT 30 1,i 31 (.lenSlice (t 30)),i 32 (.bin .gtr (t 31) (zT 50))]) (.cond (t 32) (.seq (.ops [i 8 (.mov (zT 5))]) .ret) .skip)) (.seq (.seq (.ops [mT 33 1,i 34 (.lenSlice (t 33)),i 35 (.mov (zT 0))]) (.block 0 (.loop l38_1))) (.seq (.ops [i 8 (.mov (zT 0))]) .ret))))))
def a38:zAf:=⟨64,[(.tmp 8)],c38⟩
theorem n38:a38.ntmps=64:=id rfl
theorem r38:a38.results=[(.tmp 8)]:=rfl
theorem b38:a38.body=c38:=rfl
def l39_1:zAc:=(.seq (.seq (.ops [mT 142 20]) (.cond (t 142) .skip (.exit 8))) (.seq (.block 9 (.drawn 0 [i 145 (.loadR none (t 9)),i 146 (.nilCheck (t 145)),fT 147 7 146,i 148 (.loadR none (t 147)),lT 149 9,i 150 (.call .recs (.func 64) [(t 149),(zT 0),(zT 1152921504606846976)]),i 151 (.bin .add (t 148) (t 150)),i 152 (.nilCheck (t 145)),fT 153 7 152,s (.store 1 (t 153) (t 151))])) (.ops [lT 143 9,i 144 (.call .any (.func 63) [(t 143)]),mT 20 144])))
def l39_2:zAc:=(.seq (.ops [i 81 (.bin .lss (t 80) (t 79))]) (.seq (.cond (t 81) .skip (.exit 4)) (.seq (.block 5 (.seq (.ops [xT 82 3 78 80,i 83 (.loadN 3 (t 82)),i 16 (.alloc [(.int .i64 0),(.int .i64 0),(.int .i64 0)]),s (.store 3 (t 16) (t 83))]) (.seq (.ops [fT 84 1 16,lT 85 84,mT 86 3,i 87 (.bin .leq (t 85) (t 86))]) (.cond (t 87) (.drawn 0 [lT 88 9,lT 89 10,fT 90 0 16,lT 91 90,fT 92 1 16,lT 93 92,i 94 (.build [(.int .i64 0),(.int .i64 0)] [(0,(1,(t 91))),(1,(1,(t 93)))]),i 95 (.call .pure (t 89) [(t 94)]),fT 96 2 16,lT 97 96,i 98 (.call .any (.func 61) [(t 88),(zT 0),(t 95),(t 97)])]) .skip)))) (.ops [i 99 (.bin .add (t 80) (zT 1)),mT 80 99]))))
def l39_3:zAc:=(.seq (.ops [i 28 (.bin .lss (t 27) (t 26))]) (.seq (.cond (t 28) .skip (.exit 0)) (.seq (.block 1 (.seq (.ops [xT 29 3 25 27,i 30 (.loadN 3 (t 29)),i 12 (.alloc [(.int .i64 0),(.int .i64 0),(.int .i64 0)]),s (.store 3 (t 12) (t 30))]) (.ops [lT 31 9,fT 32 0 12,lT 33 32,fT 34 1 12,lT 35 34,i 36 (.build [(.int .i64 0),(.int .i64 0)] [(0,(1,(t 33))),(1,(1,(t 35)))]),fT 37 0 12,lT 38 37,lT 39 6,i 40 (.bin .neq (t 38) (t 39)),mT 41 40,p 42 41 (.fieldAddr 1 (t 12)),p 43 41 (.load1 (t 42)),p 44 41 (.mov (t 3)),p 45 41 (.bin .leq (t 43) (t 44)),i 46 (.pick (t 41) (t 45) (k (.bool false))),i 47 (.call .any (.func 59) [(t 31),(t 36),(t 46)])]))) (.ops [i 48 (.bin .add (t 27) (zT 1)),mT 27 48]))))
def ga39_1:zAc:=(.seq (.ops [i 17 (.alloc [(.int .i64 0),(.int .i64 0),(.int .i64 0),(.int .i64 0),(.int .i64 0),(.int .i64 0),(.int .i64 0),(.int .u8 0)]),s (.store 8 (t 17) (t 104))]) (.ops [i 18 (.alloc [(.int .i64 0),(.int .i64 0)]),s (.store 2 (t 18) (t 105))]))
def gb39_1:zAc:=(.block 7 (.seq (.drawn 0 [lT 106 9,lT 107 10,fT 108 1 17,lT 109 108,fT 110 0 18,lT 111 110,fT 112 5 17,lT 113 112,i 114 (.bin .sub (t 111) (t 113)),i 115 (.build [(.int .i64 0),(.int .i64 0)] [(0,(1,(t 109))),(1,(1,(t 114)))]),i 116 (.call .pure (t 107) [(t 115)]),lT 117 10,fT 118 2 17,lT 119 118,fT 120 1 18,lT 121 120,i 122 (.build [(.int .i64 0),(.int .i64 0)] [(0,(1,(t 119))),(1,(1,(t 121)))]),i 123 (.call .pure (t 117) [(t 122)]),fT 124 6 17,lT 125 124,i 126 (.call .any (.func 61) [(t 106),(t 116),(t 123),(t 125)]),mT 19 126]) (.drawn 2 [⟨(some 128),none,(.load1 (t 9)),none,[0,1]⟩,i 129 (.nilCheck (t 128)),fT 130 6 129,⟨(some 131),none,(.load1 (t 130)),none,[0,1]⟩,⟨(some 132),none,(.loadN 8 (t 17)),none,[0,1]⟩,⟨(some 133),none,(.loadN 2 (t 18)),none,[0,1]⟩,mT 134 19,i 135 (.build [(.int .i64 0),(.int .i64 0),(.int .i64 0),(.int .i64 0),(.int .i64 0),(.int .i64 0),(.int .i64 0),(.int .u8 0),(.int .i64 0),(.int .i64 0),(.int .i64 0)] [(0,(8,(t 132))),(8,(2,(t 133))),(10,(1,(t 134)))]),⟨(some 136),none,(.buildSlice 1 [(.int .i64 0),(.int .i64 0),(.int .i64 0),(.int .i64 0),(.int .i64 0),(.int .i64 0),(.int .i64 0),(.int .u8 0),(.int .i64 0),(.int .i64 0),(.int .i64 0)] [(0,(11,(t 135)))]),(some 0),[]⟩,⟨(some 137),none,(.appendL 11 88 false (t 131) (t 136)),(some 1),[]⟩,⟨(some 127),none,(.load1 (t 9)),none,[0,1]⟩,i 138 (.nilCheck (t 127)),fT 139 6 138,s (.store 1 (t 139) (t 137))])))
def ga39_2:zAc:=(.seq (.ops [i 13 (.alloc [(.int .i64 0),(.int .i64 0),(.int .i64 0),(.int .i64 0),(.int .i64 0),(.int .i64 0),(.int .i64 0),(.int .u8 0)]),s (.store 8 (t 13) (t 53))]) (.ops [i 14 (.alloc [(.int .i64 0),(.int .i64 0)]),s (.store 2 (t 14) (t 54))]))
def gb39_2:zAc:=(.block 3 (.seq (.ops [lT 55 9,fT 56 1 13,lT 57 56,fT 58 0 14,lT 59 58,fT 60 5 13,lT 61 60,i 62 (.bin .sub (t 59) (t 61)),i 63 (.build [(.int .i64 0),(.int .i64 0)] [(0,(1,(t 57))),(1,(1,(t 62)))]),i 64 (.call .any (.func 59) [(t 55),(t 63),(k (.bool true))])]) (.ops [lT 65 9,fT 66 2 13,lT 67 66,fT 68 1 14,lT 69 68,i 70 (.build [(.int .i64 0),(.int .i64 0)] [(0,(1,(t 67))),(1,(1,(t 69)))]),fT 71 2 13,lT 72 71,lT 73 6,i 74 (.bin .neq (t 72) (t 73)),i 75 (.call .any (.func 59) [(t 65),(t 70),(t 74)])])))
def c39:zAc:=(.seq (.seq (.ops [i 4 (.box (t 0)),i 6 (.box (t 2)),i 8 (.mov (k (.pointer none)))]) (.seq (.ops [i 21 (.makeMap none),i 22 (.build [(.slice none 0 0),(.map none),(.slice none 0 0),(.slice none 0 0),(.slice none 0 0),(.slice none 0 0),(.slice none 0 0),(.int .i64 0)] [(1,(1,(t 21)))]),i 23 (.box (t 22)),i 9 (.alloc [(.pointer none)]),s (.store 1 (t 9) (t 23))]) (.seq (.ops [i 24 (.makeFunc 58 [] [(t 6),(t 9)]),i 10 (.alloc [.nilFunc]),s (.store 1 (t 10) (t 24))]) (.seq (.seq (.ops [mT 25 1,i 26 (.lenSlice (t 25)),i 27 (.mov (zT 0))]) (.block 0 (.loop l39_3))) (.seq (.seq (.ops [i 49 (.loadN 2 (t 4)),lT 50 6,mT 51 3,i 52 (.call .any (.func 45) [(t 49),(t 50),(t 51)])]) (.block 2 (.rangeF (t 52) [53,54] ga39_2 gb39_2))) (.seq (.ops [lT 76 9,i 77 (.call .any (.func 60) [(t 76)])]) (.seq (.seq (.ops [mT 78 1,i 79 (.lenSlice (t 78)),i 80 (.mov (zT 0))]) (.block 4 (.loop l39_2))) (.seq (.seq (.ops [i 100 (.loadN 2 (t 4)),lT 101 6,mT 102 3,i 103 (.call .any (.func 45) [(t 100),(t 101),(t 102)])]) (.block 6 (.rangeF (t 103) [104,105] ga39_1 gb39_1))) (.seq (.ops [lT 140 9,i 141 (.call .any (.func 62) [(t 140)])]) (.seq (.seq (.ops [i 20 (.mov (k (.bool true)))]) (.block 8 (.loop l39_1))) (.seq (.ops [lT 154 9,mT 8 154]) .retM))))))))))) .retM)
def a39:zAf:=⟨155,[(.tmp 8)],c39⟩
theorem n39:a39.ntmps=155:=id rfl
theorem r39:a39.results=[(.tmp 8)]:=rfl
theorem b39:a39.body=c39:=rfl
def c41:zAc:=(.seq (.ops [i 2 (.box (t 0)),i 3 (.box (t 1)),i 4 (.mov (zT 0))]) (.seq (.drawn 1 [fT 5 1 2,⟨(some 6),none,(.load1 (t 5)),none,[0]⟩,fT 7 1 3,⟨(some 8),none,(.load1 (t 7)),none,[0]⟩,⟨(some 9),none,(.call .pure (.func 68) [(t 6),(t 8)]),none,[0]⟩,fT 10 0 2,⟨(some 11),none,(.load1 (t 10)),none,[0]⟩,fT 12 0 3,⟨(some 13),none,(.load1 (t 12)),none,[0]⟩,⟨(some 14),none,(.call .pure (.func 68) [(t 11),(t 13)]),none,[0]⟩,⟨(some 15),none,(.buildSlice 2 [(.int .i64 0),(.int .i64 0)] [(0,(1,(t 9))),(1,(1,(t 14)))]),(some 0),[]⟩,i 16 (.call .pure (.func 67) [(t 15)]),mT 4 16]) .ret))
def a41:zAf:=⟨17,[(.tmp 4)],c41⟩
theorem n41:a41.ntmps=17:=id rfl
theorem r41:a41.results=[(.tmp 4)]:=rfl
theorem b41:a41.body=c41:=rfl
def c42:zAc:=(.seq (.ops [i 4 (.box (t 0)),i 8 (.mov (k (.map none))),i 9 (.mov (zT 0))]) (.seq (.seq (.ops [i 16 (.loadN 2 (t 4)),i 17 (.call .any (.func 13) [(t 16)]),mT 10 17]) (.seq (.ops [mT 18 10,i 19 (.bin .neq (t 18) (zT 0))]) (.cond (t 19) (.seq (.ops [mT 20 10,i 8 (.mov (k (.map none))),mT 9 20]) .ret) .skip))) (.seq (.ops [i 21 (.loadN 2 (t 4)),i 22 (.call .any (.func 69) [(t 21)]),mT 11 22]) (.seq (.ops [mT 24 11,mT 25 1,i 26 (.lookup (.int .i64) (.int .i64 0) true (t 24) (t 25)),mT 23 26,i 27 (.extract 0 (t 23)),i 28 (.extract 1 (t 23)),mT 12 27,mT 13 28]) (.seq (.ops [mT 30 11,mT 31 2,i 32 (.lookup (.int .i64) (.int .i64 0) true (t 30) (t 31)),mT 29 32,i 33 (.extract 0 (t 29)),i 34 (.extract 1 (t 29)),mT 14 33,mT 15 34]) (.seq (.seq (.ops [mT 35 13,i 36 (.un .not (t 35)),mT 37 36,q 38 37 (.mov (t 15)),q 39 37 (.un .not (t 38)),i 40 (.pick (t 37) (k (.bool true)) (t 39)),mT 41 40,q 42 41 (.mov (t 3)),q 43 41 (.bin .lss (t 42) (zT 0)),i 44 (.pick (t 41) (k (.bool true)) (t 43)),mT 45 44,q 46 45 (.mov (t 3)),q 47 45 (.bin .gtr (t 46) (zT 1051898399)),i 48 (.pick (t 45) (k (.bool true)) (t 47))]) (.cond (t 48) (.seq (.ops [i 8 (.mov (k (.map none))),i 9 (.mov (zT 2))]) .ret) .skip)) (.seq (.ops [mT 49 11,mT 8 49,i 9 (.mov (zT 0))]) .ret)))))))
def a42:zAf:=⟨50,[(.tmp 8),(.tmp 9)],c42⟩
theorem n42:a42.ntmps=50:=id rfl
theorem r42:a42.results=[(.tmp 8),(.tmp 9)]:=rfl
theorem b42:a42.body=c42:=rfl
def c43:zAc:=(.seq (.ops [i 4 (.box (t 0)),i 5 (.box (t 1)),i 7 (.box (t 3)),i 8 (.mov (k (.slice none 0 0)))]) (.seq (.ops [i 10 (.makeFunc 70 [] [(t 5),(t 7)]),mT 9 10]) (.seq (.drawn 0 [lT 11 5,mT 12 2,i 13 (.lookup (.int .i64) (.int .i64 0) false (t 11) (t 12)),lT 14 7,i 15 (.call .pure (.func 73) [(t 13),(t 14)]),fT 16 1 4,lT 17 16,mT 18 9,i 19 (.call .any (.func 72) [(t 15),(t 17),(t 18)]),mT 8 19]) .ret)))
def a43:zAf:=⟨20,[(.tmp 8)],c43⟩
theorem n43:a43.ntmps=20:=id rfl
theorem r43:a43.results=[(.tmp 8)]:=rfl
theorem b43:a43.body=c43:=rfl
def c44:zAc:=(.seq (.ops [i 2 (.mov (k (.slice none 0 0)))]) (.seq (.seq (.ops [mT 3 0,i 4 (.eqv false .slice (t 3) (k (.slice none 0 0)))]) (.cond (t 4) (.seq (.ops [i 2 (.mov (k (.slice none 0 0)))]) .ret) .skip)) (.seq (.ops [i 5 (.buildSlice 0 [] []),mT 6 0,i 7 (.append 1 8 false (t 5) (t 6)),mT 2 7]) .ret)))
def a44:zAf:=⟨8,[(.tmp 2)],c44⟩
theorem n44:a44.ntmps=8:=id rfl
theorem r44:a44.results=[(.tmp 2)]:=rfl
theorem b44:a44.body=c44:=rfl
def c45:zAc:=(.seq (.ops [i 3 (.box (t 0)),i 4 (.box (t 1)),i 5 (.box (t 2)),i 6 (.mov (k .nilFunc))]) (.seq (.ops [i 7 (.makeFunc 74 [] [(t 5),(t 3),(t 4)]),mT 6 7]) .ret))
def a45:zAf:=⟨8,[(.tmp 6)],c45⟩
theorem n45:a45.ntmps=8:=id rfl
theorem r45:a45.results=[(.tmp 6)]:=rfl
theorem b45:a45.body=c45:=rfl
def l46_1:zAc:=(.seq (.ops [i 11 (.bin .lss (t 10) (t 9))]) (.seq (.cond (t 11) .skip (.exit 0)) (.seq (.block 1 (.seq (.ops [mT 12 10,xT 13 3 8 10,i 14 (.loadN 3 (t 13)),i 5 (.alloc [(.int .i64 0),(.int .i64 0),(.int .i64 0)]),mT 4 12,s (.store 3 (t 5) (t 14))]) (.seq (.seq (.drawn 0 [mT 15 4,i 16 (.bin .gtr (t 15) (zT 0)),mT 17 16,p 18 17 (.mov (t 0)),p 19 17 (.mov (t 4)),p 20 17 (.bin .sub (t 19) (zT 1)),p 21 17 (.idxAddrS 3 (t 18) (t 20)),p 22 17 (.fieldAddr 0 (t 21)),p 23 17 (.load1 (t 22)),p 24 17 (.fieldAddr 0 (t 5)),p 25 17 (.load1 (t 24)),p 26 17 (.bin .neq (t 23) (t 25)),i 27 (.pick (t 17) (t 26) (k (.bool false)))]) (.cond (t 27) (.ops [i 3 (.mov (zT 0))]) .skip)) (.seq (.ops [mT 28 3,fT 29 2 5,lT 30 29,i 31 (.bin .add (t 28) (t 30)),mT 3 31]) (.seq (.ops [mT 32 3,i 33 (.bin .lss (t 32) (zT 0))]) (.cond (t 33) (.seq (.ops [i 2 (.mov (k (.bool false)))]) .ret) .skip)))))) (.ops [i 34 (.bin .add (t 10) (zT 1)),mT 10 34]))))
def c46:zAc:=(.seq (.ops [i 2 (.mov (k (.bool false)))]) (.seq (.ops [mT 6 0,i 7 (.call .any (.func 76) [(t 6),(.func 77)])]) (.seq (.ops [i 3 (.mov (zT 0))]) (.seq (.seq (.ops [mT 8 0,i 9 (.lenSlice (t 8)),i 10 (.mov (zT 0))]) (.block 0 (.loop l46_1))) (.seq (.ops [i 2 (.mov (k (.bool true)))]) .ret)))))
def a46:zAf:=⟨35,[(.tmp 2)],c46⟩
theorem n46:a46.ntmps=35:=id rfl
theorem r46:a46.results=[(.tmp 2)]:=rfl
theorem b46:a46.body=c46:=rfl
def c57:zAc:=(.seq (.ops [i 4 (.mov (k (.bool false)))]) (.seq (.ops [mT 5 0,mT 6 1,i 7 (.call .any (.func 83) [(t 5),(t 6)]),i 8 (.bin .geq (t 7) (zT 0)),mT 4 8]) .ret))
def a57:zAf:=⟨9,[(.tmp 4)],c57⟩
theorem n57:a57.ntmps=9:=id rfl
theorem r57:a57.results=[(.tmp 4)]:=rfl
theorem b57:a57.body=c57:=rfl
def c58:zAc:=(.seq (.ops [i 3 (.box (t 0)),i 4 (.mov (zT 0))]) (.seq (.seq (.ops [fT 5 0 3,lT 6 5,lT 7 1,i 8 (.bin .eql (t 6) (t 7))]) (.cond (t 8) (.seq (.ops [i 4 (.mov (zT 1))]) .ret) .skip)) (.seq (.drawn 0 [lT 9 2,i 10 (.nilCheck (t 9)),fT 11 1 10,lT 12 11,i 13 (.loadN 2 (t 3)),i 14 (.lookup (.ints [.i64,.i64]) (.int .i64 0) false (t 12) (t 13)),mT 4 14]) .ret)))
def a58:zAf:=⟨15,[(.tmp 4)],c58⟩
theorem n58:a58.ntmps=15:=id rfl
theorem r58:a58.results=[(.tmp 4)]:=rfl
theorem b58:a58.body=c58:=rfl
def c59:zAc:=(.seq (.ops [i 4 (.box (t 1))]) (.seq (.drawn 0 [mT 9 0,i 10 (.nilCheck (t 9)),fT 11 1 10,lT 12 11,i 13 (.loadN 2 (t 4)),i 14 (.lookup (.ints [.i64,.i64]) (.int .i64 0) true (t 12) (t 13)),mT 8 14,i 15 (.extract 0 (t 8)),i 16 (.extract 1 (t 8)),mT 6 15,mT 7 16]) (.seq (.ops [mT 17 2,mT 18 17,p 19 18 (.mov (t 7)),p 20 18 (.un .not (t 19)),i 21 (.pick (t 18) (t 20) (k (.bool false)))]) (.cond (t 21) (.seq (.drawn 0 [mT 22 0,i 23 (.nilCheck (t 22)),fT 24 1 23,lT 25 24,i 26 (.loadN 2 (t 4)),s (.mapUpdate (.ints [.i64,.i64]) (t 25) (t 26) (zT 0))]) (.drawn 2 [mT 27 0,mT 28 0,i 29 (.nilCheck (t 28)),fT 30 0 29,⟨(some 31),none,(.load1 (t 30)),none,[0,1]⟩,⟨(some 32),none,(.loadN 2 (t 4)),none,[0,1]⟩,⟨(some 33),none,(.buildSlice 1 [(.int .i64 0),(.int .i64 0)] [(0,(2,(t 32)))]),(some 0),[]⟩,⟨(some 34),none,(.append 2 16 false (t 31) (t 33)),(some 1),[]⟩,i 35 (.nilCheck (t 27)),fT 36 0 35,s (.store 1 (t 36) (t 34))])) .skip))))
def a59:zAf:=⟨37,[],c59⟩
theorem n59:a59.ntmps=37:=id rfl
theorem r59:a59.results=[]:=rfl
theorem b59:a59.body=c59:=rfl
def l60_1:zAc:=(.seq (.ops [i 25 (.bin .lss (t 24) (t 23))]) (.seq (.cond (t 25) .skip (.exit 0)) (.seq (.block 1 (.seq (.ops [mT 26 24,xT 27 2 22 24,i 28 (.loadN 2 (t 27)),i 3 (.alloc [(.int .i64 0),(.int .i64 0)]),mT 2 26,s (.store 2 (t 3) (t 28))]) (.seq (.drawn 0 [mT 29 0,i 30 (.nilCheck (t 29)),fT 31 1 30,lT 32 31,i 33 (.loadN 2 (t 3)),mT 34 2,i 35 (.bin .add (t 34) (zT 2)),s (.mapUpdate (.ints [.i64,.i64]) (t 32) (t 33) (t 35))]) (.seq (.drawn 0 [mT 36 2,i 37 (.bin .gtr (t 36) (zT 0)),mT 38 37,p 39 38 (.mov (t 0)),p 40 38 (.nilCheck (t 39)),p 41 38 (.fieldAddr 0 (t 40)),p 42 38 (.load1 (t 41)),p 43 38 (.mov (t 2)),p 44 38 (.bin .sub (t 43) (zT 1)),p 45 38 (.idxAddrS 2 (t 42) (t 44)),p 46 38 (.fieldAddr 0 (t 45)),p 47 38 (.load1 (t 46)),p 48 38 (.fieldAddr 0 (t 3)),p 49 38 (.load1 (t 48)),p 50 38 (.bin .eql (t 47) (t 49)),i 51 (.pick (t 38) (t 50) (k (.bool false)))]) (.cond (t 51) (.ops [mT 52 0,mT 53 2,i 54 (.bin .add (t 53) (zT 1)),mT 55 2,i 56 (.bin .add (t 55) (zT 2)),i 57 (.call .any (.func 61) [(t 52),(t 54),(t 56),(zT 1152921504606846976)])]) .skip))))) (.ops [i 58 (.bin .add (t 24) (zT 1)),mT 24 58]))))
def c60:zAc:=(.seq (.ops [mT 4 0,i 5 (.nilCheck (t 4)),fT 6 0 5,lT 7 6,i 8 (.call .any (.func 84) [(t 7),(.func 85)])]) (.seq (.ops [mT 9 0,mT 10 0,i 11 (.nilCheck (t 10)),fT 12 0 11,lT 13 12,i 14 (.lenSlice (t 13)),i 15 (.bin .add (t 14) (zT 2)),i 16 (.makeSlice 1 24 [(.slice none 0 0)] (t 15) (t 15)),i 17 (.nilCheck (t 9)),fT 18 3 17,s (.store 1 (t 18) (t 16))]) (.seq (.ops [mT 19 0,i 20 (.nilCheck (t 19)),fT 21 0 20,lT 22 21,i 23 (.lenSlice (t 22)),i 24 (.mov (zT 0))]) (.block 0 (.loop l60_1)))))
def a60:zAf:=⟨59,[],c60⟩
theorem n60:a60.ntmps=59:=id rfl
theorem r60:a60.results=[]:=rfl
theorem b60:a60.body=c60:=rfl
def c61:zAc:=(.seq (.ops [i 8 (.mov (zT 0))]) (.seq (.ops [mT 10 0,i 11 (.nilCheck (t 10)),fT 12 2 11,lT 13 12,i 14 (.lenSlice (t 13)),mT 9 14]) (.seq (.ops [mT 15 0,mT 16 0,i 17 (.nilCheck (t 16)),fT 18 2 17,lT 19 18,mT 20 2,mT 21 3,i 22 (.build [(.int .i64 0),(.int .i64 0)] [(0,(1,(t 20))),(1,(1,(t 21)))]),mT 23 1,i 24 (.build [(.int .i64 0),(.int .i64 0)] [(0,(1,(t 23)))]),i 25 (.buildSlice 2 [(.int .i64 0),(.int .i64 0),(.int .i64 0),(.int .i64 0)] [(0,(2,(t 22))),(2,(2,(t 24)))]),i 26 (.append 2 16 false (t 19) (t 25)),i 27 (.nilCheck (t 15)),fT 28 2 27,s (.store 1 (t 28) (t 26))]) (.seq (.drawn 2 [mT 34 0,i 35 (.nilCheck (t 34)),fT 36 3 35,⟨(some 37),none,(.load1 (t 36)),none,[0,1]⟩,mT 38 1,xT 39 1 37 38,⟨(some 40),none,(.load1 (t 39)),none,[0,1]⟩,mT 41 9,⟨(some 42),none,(.buildSlice 1 [(.int .i64 0)] [(0,(1,(t 41)))]),(some 0),[]⟩,⟨(some 43),none,(.appendL 1 8 false (t 40) (t 42)),(some 1),[]⟩,mT 29 0,i 30 (.nilCheck (t 29)),fT 31 3 30,⟨(some 32),none,(.load1 (t 31)),none,[0,1]⟩,mT 33 1,xT 44 1 32 33,s (.store 1 (t 44) (t 43))]) (.seq (.drawn 2 [mT 50 0,i 51 (.nilCheck (t 50)),fT 52 3 51,⟨(some 53),none,(.load1 (t 52)),none,[0,1]⟩,mT 54 2,xT 55 1 53 54,⟨(some 56),none,(.load1 (t 55)),none,[0,1]⟩,mT 57 9,i 58 (.bin .add (t 57) (zT 1)),⟨(some 59),none,(.buildSlice 1 [(.int .i64 0)] [(0,(1,(t 58)))]),(some 0),[]⟩,⟨(some 60),none,(.appendL 1 8 false (t 56) (t 59)),(some 1),[]⟩,mT 45 0,i 46 (.nilCheck (t 45)),fT 47 3 46,⟨(some 48),none,(.load1 (t 47)),none,[0,1]⟩,mT 49 2,xT 61 1 48 49,s (.store 1 (t 61) (t 60))]) (.seq (.ops [mT 62 9,mT 8 62]) .ret))))))
def a61:zAf:=⟨63,[(.tmp 8)],c61⟩
theorem n61:a61.ntmps=63:=id rfl
theorem r61:a61.results=[(.tmp 8)]:=rfl
theorem b61:a61.body=c61:=rfl
def l62_1:zAc:=(.seq (.ops [i 28 (.bin .lss (t 27) (t 26))]) (.seq (.cond (t 28) .skip (.exit 0)) (.seq (.block 1 (.seq (.ops [mT 29 27,xT 30 2 25 27,i 31 (.loadN 2 (t 30)),i 3 (.alloc [(.int .i64 0),(.int .i64 0)]),mT 2 29,s (.store 2 (t 3) (t 31))]) (.drawn 0 [mT 32 0,i 33 (.nilCheck (t 32)),fT 34 4 33,lT 35 34,mT 36 2,i 37 (.bin .add (t 36) (zT 2)),fT 38 1 3,lT 39 38,i 40 (.bin .add (t 39) (zT 1)),xT 41 1 35 37,s (.store 1 (t 41) (t 40))]))) (.ops [i 42 (.bin .add (t 27) (zT 1)),mT 27 42]))))
def c62:zAc:=(.seq (.ops [mT 4 0,mT 5 0,i 6 (.nilCheck (t 5)),fT 7 3 6,lT 8 7,i 9 (.lenSlice (t 8)),i 10 (.makeSlice 1 8 [(.int .i64 0)] (t 9) (t 9)),i 11 (.nilCheck (t 4)),fT 12 5 11,s (.store 1 (t 12) (t 10))]) (.seq (.ops [mT 13 0,mT 14 0,i 15 (.nilCheck (t 14)),fT 16 3 15,lT 17 16,i 18 (.lenSlice (t 17)),i 19 (.makeSlice 1 8 [(.int .i64 0)] (t 18) (t 18)),i 20 (.nilCheck (t 13)),fT 21 4 20,s (.store 1 (t 21) (t 19))]) (.seq (.seq (.ops [mT 22 0,i 23 (.nilCheck (t 22)),fT 24 0 23,lT 25 24,i 26 (.lenSlice (t 25)),i 27 (.mov (zT 0))]) (.block 0 (.loop l62_1))) (.ops [mT 43 0,i 44 (.nilCheck (t 43)),fT 45 4 44,lT 46 45,i 47 (.idxAddrS 1 (t 46) (zT 1)),s (.store 1 (t 47) (zT 1051898401))]))))
def a62:zAf:=⟨48,[],c62⟩
theorem n62:a62.ntmps=48:=id rfl
theorem r62:a62.results=[]:=rfl
theorem b62:a62.body=c62:=rfl
def l63_1:zAc:=(.seq (.ops [i 50 (.bin .lss (t 49) (t 48))]) (.seq (.cond (t 50) .skip (.exit 2)) (.seq (.block 3 (.seq (.ops [xT 51 1 47 49,lT 52 51,mT 6 52]) (.seq (.ops [mT 53 0,i 54 (.nilCheck (t 53)),fT 55 2 54,lT 56 55,mT 57 6,xT 58 2 56 57,i 59 (.loadN 2 (t 58)),i 7 (.alloc [(.int .i64 0),(.int .i64 0)]),s (.store 2 (t 7) (t 59))]) (.seq (.drawn 0 [fT 60 1 7,lT 61 60,i 62 (.bin .gtr (t 61) (zT 0)),mT 63 62,p 64 63 (.mov (t 0)),p 65 63 (.nilCheck (t 64)),p 66 63 (.fieldAddr 4 (t 65)),p 67 63 (.load1 (t 66)),p 68 63 (.fieldAddr 0 (t 7)),p 69 63 (.load1 (t 68)),p 70 63 (.idxAddrS 1 (t 67) (t 69)),p 71 63 (.load1 (t 70)),p 72 63 (.bin .lss (t 71) (zT 0)),i 73 (.pick (t 63) (t 72) (k (.bool false)))]) (.cond (t 73) (.seq (.drawn 0 [mT 74 0,i 75 (.nilCheck (t 74)),fT 76 4 75,lT 77 76,fT 78 0 7,lT 79 78,mT 80 0,i 81 (.nilCheck (t 80)),fT 82 4 81,lT 83 82,mT 84 4,xT 85 1 83 84,lT 86 85,i 87 (.bin .add (t 86) (zT 1)),xT 88 1 77 79,s (.store 1 (t 88) (t 87))]) (.ops [mT 89 3,fT 90 0 7,lT 91 90,i 92 (.buildSlice 1 [(.int .i64 0)] [(0,(1,(t 91)))]),i 93 (.append 1 8 false (t 89) (t 92)),mT 3 93])) .skip))))) (.ops [i 94 (.bin .add (t 49) (zT 1)),mT 49 94]))))
def l63_2:zAc:=(.seq (.seq (.ops [mT 33 3,i 34 (.lenSlice (t 33)),i 35 (.bin .gtr (t 34) (zT 0))]) (.cond (t 35) .skip (.exit 0))) (.block 1 (.seq (.ops [mT 36 3,i 37 (.idxAddrS 1 (t 36) (zT 0)),lT 38 37,mT 4 38]) (.seq (.ops [mT 39 3,i 40 (.sliceS 1 (t 39) (some (zT 1)) none none),mT 3 40]) (.seq (.ops [mT 41 0,i 42 (.nilCheck (t 41)),fT 43 3 42,lT 44 43,mT 45 4,xT 46 1 44 45,lT 47 46,i 48 (.lenSlice (t 47)),i 49 (.mov (zT 0))]) (.block 2 (.loop l63_1)))))))
def c63:zAc:=(.seq (.ops [i 2 (.mov (k (.bool false)))]) (.seq (.ops [mT 8 0,mT 9 0,i 10 (.nilCheck (t 9)),fT 11 3 10,lT 12 11,i 13 (.lenSlice (t 12)),i 14 (.makeSlice 1 8 [(.int .i64 0)] (t 13) (t 13)),i 15 (.nilCheck (t 8)),fT 16 5 15,s (.store 1 (t 16) (t 14))]) (.seq (.ops [mT 17 0,i 18 (.buildSlice 1 [(.int .i64 0)] [(0,(1,(zT (-1))))]),mT 19 0,i 20 (.nilCheck (t 19)),fT 21 3 20,lT 22 21,i 23 (.lenSlice (t 22)),i 24 (.call .any (.func 86) [(t 18),(t 23)]),i 25 (.nilCheck (t 17)),fT 26 4 25,s (.store 1 (t 26) (t 24))]) (.seq (.ops [mT 27 0,i 28 (.nilCheck (t 27)),fT 29 4 28,lT 30 29,i 31 (.idxAddrS 1 (t 30) (zT 0)),s (.store 1 (t 31) (zT 0))]) (.seq (.ops [i 32 (.buildSlice 1 [(.int .i64 0)] [(0,(1,(zT 0)))]),mT 3 32]) (.seq (.block 0 (.loop l63_2)) (.seq (.ops [mT 95 0,i 96 (.nilCheck (t 95)),fT 97 4 96,lT 98 97,i 99 (.idxAddrS 1 (t 98) (zT 1)),lT 100 99,i 101 (.bin .geq (t 100) (zT 0)),mT 2 101]) .ret)))))))
def a63:zAf:=⟨102,[(.tmp 2)],c63⟩
theorem n63:a63.ntmps=102:=id rfl
theorem r63:a63.results=[(.tmp 2)]:=rfl
theorem b63:a63.body=c63:=rfl
def l64_1:zAc:=(.seq (.seq (.drawn 0 [mT 17 0,i 18 (.nilCheck (t 17)),fT 19 5 18,lT 20 19,mT 21 1,xT 22 1 20 21,lT 23 22,mT 24 0,i 25 (.nilCheck (t 24)),fT 26 3 25,lT 27 26,mT 28 1,xT 29 1 27 28,lT 30 29,i 31 (.lenSlice (t 30)),i 32 (.bin .lss (t 23) (t 31))]) (.cond (t 32) .skip (.exit 0))) (.block 1 (.seq (.drawn 0 [mT 33 0,i 34 (.nilCheck (t 33)),fT 35 3 34,lT 36 35,mT 37 1,xT 38 1 36 37,lT 39 38,mT 40 0,i 41 (.nilCheck (t 40)),fT 42 5 41,lT 43 42,mT 44 1,xT 45 1 43 44,lT 46 45,xT 47 1 39 46,lT 48 47,mT 9 48]) (.seq (.ops [mT 49 0,i 50 (.nilCheck (t 49)),fT 51 2 50,lT 52 51,mT 53 9,xT 54 2 52 53,i 55 (.loadN 2 (t 54)),i 10 (.alloc [(.int .i64 0),(.int .i64 0)]),s (.store 2 (t 10) (t 55))]) (.seq (.seq (.drawn 0 [fT 56 1 10,lT 57 56,i 58 (.bin .gtr (t 57) (zT 0)),mT 59 58,p 60 59 (.mov (t 0)),p 61 59 (.nilCheck (t 60)),p 62 59 (.fieldAddr 4 (t 61)),p 63 59 (.load1 (t 62)),p 64 59 (.fieldAddr 0 (t 10)),p 65 59 (.load1 (t 64)),p 66 59 (.idxAddrS 1 (t 63) (t 65)),p 67 59 (.load1 (t 66)),p 68 59 (.mov (t 0)),p 69 59 (.nilCheck (t 68)),p 70 59 (.fieldAddr 4 (t 69)),p 71 59 (.load1 (t 70)),p 72 59 (.mov (t 1)),p 73 59 (.idxAddrS 1 (t 71) (t 72)),p 74 59 (.load1 (t 73)),p 75 59 (.bin .gtr (t 67) (t 74)),i 76 (.pick (t 59) (t 75) (k (.bool false)))]) (.cond (t 76) (.seq (.ops [mT 77 7,fT 78 0 10,lT 79 78,mT 80 2,mT 81 8,i 82 (.bin .sub (t 80) (t 81)),fT 83 1 10,lT 84 83,i 85 (.minmax false [(t 82),(t 84)]),i 86 (.call .any (t 77) [(t 79),(t 85)]),mT 11 86]) (.seq (.ops [mT 87 0,i 88 (.nilCheck (t 87)),fT 89 2 88,lT 90 89,mT 91 9,xT 92 2 90 91,fT 93 1 92,lT 94 93,mT 95 11,i 96 (.bin .sub (t 94) (t 95)),xT 97 2 90 91,fT 98 1 97,s (.store 1 (t 98) (t 96))]) (.seq (.ops [mT 99 0,i 100 (.nilCheck (t 99)),fT 101 2 100,lT 102 101,mT 103 9,i 104 (.bin .xor (t 103) (zT 1)),xT 105 2 102 104,fT 106 1 105,lT 107 106,mT 108 11,i 109 (.bin .add (t 107) (t 108)),xT 110 2 102 104,fT 111 1 110,s (.store 1 (t 111) (t 109))]) (.seq (.ops [mT 112 8,mT 113 11,i 114 (.bin .add (t 112) (t 113)),mT 8 114]) (.seq (.ops [mT 115 8,mT 116 2,i 117 (.bin .eql (t 115) (t 116))]) (.cond (t 117) (.seq (.ops [mT 118 8,mT 6 118]) .ret) .skip)))))) .skip)) (.ops [mT 119 0,i 120 (.nilCheck (t 119)),fT 121 5 120,lT 122 121,mT 123 1,xT 124 1 122 123,lT 125 124,i 126 (.bin .add (t 125) (zT 1)),xT 127 1 122 123,s (.store 1 (t 127) (t 126))]))))))
def c64:zAc:=(.seq (.ops [i 6 (.mov (zT 0))]) (.seq (.seq (.ops [mT 12 1,i 13 (.bin .eql (t 12) (zT 1))]) (.cond (t 13) (.seq (.ops [mT 14 2,mT 6 14]) .ret) .skip)) (.seq (.ops [mT 15 0,i 16 (.makeFunc 64 [(t 15)] []),mT 7 16]) (.seq (.ops [i 8 (.mov (zT 0))]) (.seq (.block 0 (.loop l64_1)) (.seq (.ops [mT 128 8,mT 6 128]) .ret))))))
def a64:zAf:=⟨129,[(.tmp 6)],c64⟩
theorem n64:a64.ntmps=129:=id rfl
theorem r64:a64.results=[(.tmp 6)]:=rfl
theorem b64:a64.body=c64:=rfl
def l67_1:zAc:=(.seq (.ops [i 9 (.bin .lss (t 8) (t 7))]) (.seq (.cond (t 9) .skip (.exit 0)) (.seq (.block 1 (.seq (.ops [xT 10 1 6 8,lT 11 10,mT 5 11]) (.seq (.ops [mT 12 5,mT 13 3,i 14 (.bin .neq (t 12) (t 13))]) (.cond (t 14) (.seq (.ops [mT 15 5,mT 2 15]) .ret) .skip)))) (.ops [i 16 (.bin .add (t 8) (zT 1)),mT 8 16]))))
def c67:zAc:=(.seq (.ops [i 2 (.mov (zT 0))]) (.seq (.ops [i 3 (.mov (zT 0))]) (.seq (.seq (.ops [mT 6 0,i 7 (.lenSlice (t 6)),i 8 (.mov (zT 0))]) (.block 0 (.loop l67_1))) (.seq (.ops [mT 17 3,mT 2 17]) .ret))))
def a67:zAf:=⟨18,[(.tmp 2)],c67⟩
theorem n67:a67.ntmps=18:=id rfl
theorem r67:a67.results=[(.tmp 2)]:=rfl
theorem b67:a67.body=c67:=rfl
def c68:zAc:=(.seq (.ops [i 4 (.mov (zT 0))]) (.seq (.ops [mT 7 0,i 8 (.call .any (.func 97) [(t 7)]),mT 5 8]) (.seq (.ops [mT 9 1,i 10 (.call .any (.func 97) [(t 9)]),mT 6 10]) (.seq (.seq (.ops [mT 11 5]) (.cond (t 11) (.seq (.seq (.ops [mT 12 6]) (.cond (t 12) (.seq (.ops [i 4 (.mov (zT 0))]) .ret) .skip)) (.seq (.ops [i 4 (.mov (zT (-1)))]) .ret)) .skip)) (.seq (.seq (.ops [mT 13 6]) (.cond (t 13) (.seq (.ops [i 4 (.mov (zT 1))]) .ret) .skip)) (.seq (.seq (.ops [mT 14 0,mT 15 1,i 16 (.bin .lss (t 14) (t 15))]) (.cond (t 16) (.seq (.ops [i 4 (.mov (zT (-1)))]) .ret) .skip)) (.seq (.seq (.ops [mT 17 0,mT 18 1,i 19 (.bin .gtr (t 17) (t 18))]) (.cond (t 19) (.seq (.ops [i 4 (.mov (zT 1))]) .ret) .skip)) (.seq (.ops [i 4 (.mov (zT 0))]) .ret))))))))
def a68:zAf:=⟨20,[(.tmp 4)],c68⟩
theorem n68:a68.ntmps=20:=id rfl
theorem r68:a68.results=[(.tmp 4)]:=rfl
theorem b68:a68.body=c68:=rfl
def l69_1:zAc:=(.seq (.ops [i 14 (.bin .lss (t 13) (t 12))]) (.seq (.cond (t 14) .skip (.exit 0)) (.seq (.block 1 (.seq (.ops [mT 15 13,xT 16 1 11 13,lT 17 16,mT 4 15,mT 5 17]) (.ops [mT 18 3,mT 19 5,mT 20 4,s (.mapUpdate (.int .i64) (t 18) (t 19) (t 20))]))) (.ops [i 21 (.bin .add (t 13) (zT 1)),mT 13 21]))))
def c69:zAc:=(.seq (.ops [i 1 (.box (t 0)),i 2 (.mov (k (.map none)))]) (.seq (.ops [fT 6 0 1,lT 7 6,i 8 (.lenSlice (t 7)),i 9 (.makeMap (some (t 8))),mT 3 9]) (.seq (.seq (.ops [fT 10 0 1,lT 11 10,i 12 (.lenSlice (t 11)),i 13 (.mov (zT 0))]) (.block 0 (.loop l69_1))) (.seq (.ops [mT 22 3,mT 2 22]) .ret))))
def a69:zAf:=⟨23,[(.tmp 2)],c69⟩
theorem n69:a69.ntmps=23:=id rfl
theorem r69:a69.results=[(.tmp 2)]:=rfl
theorem b69:a69.body=c69:=rfl
def c70:zAc:=(.seq (.ops [i 5 (.box (t 0)),i 6 (.box (t 1))]) (.seq (.drawn 0 [lT 12 3,fT 13 1 5,lT 14 13,i 15 (.lookup (.int .i64) (.int .i64 0) false (t 12) (t 14)),i 16 (.idxAddrA 50 1 (t 6) (t 15)),lT 17 16,lT 18 3,fT 19 2 5,lT 20 19,i 21 (.lookup (.int .i64) (.int .i64 0) false (t 18) (t 20)),mT 8 17,mT 9 21]) (.seq (.seq (.ops [mT 22 8,i 23 (.bin .lss (t 22) (zT 0))]) (.cond (t 23) .ret .skip)) (.seq (.ops [i 25 (.loadN 8 (t 5)),mT 26 8,i 27 (.call .any (.func 71) [(t 25),(t 26)]),mT 24 27,i 28 (.extract 0 (t 24)),i 29 (.extract 1 (t 24)),i 10 (.alloc [(.int .i64 0),(.int .i64 0)]),s (.store 2 (t 10) (t 28)),mT 11 29]) (.seq (.drawn 0 [mT 30 11,mT 31 30,p 32 31 (.fieldAddr 1 (t 10)),p 33 31 (.load1 (t 32)),p 34 31 (.load1 (t 4)),p 35 31 (.bin .add (t 34) (zT 86400)),p 36 31 (.bin .leq (t 33) (t 35)),i 37 (.pick (t 31) (t 36) (k (.bool false))),mT 38 37,p 39 38 (.mov (t 2)),p 40 38 (.mov (t 9)),p 41 38 (.nilCheck (t 39)),p 42 38 (.idxAddrA 50 1 (t 41) (t 40)),p 43 38 (.load1 (t 42)),p 44 38 (.bin .lss (t 43) (zT 0)),p 45 38 (.mov (t 44)),q 46 45 (.fieldAddr 1 (t 10)),q 47 45 (.load1 (t 46)),q 48 45 (.mov (t 2)),q 49 45 (.mov (t 9)),q 50 45 (.nilCheck (t 48)),q 51 45 (.idxAddrA 50 1 (t 50) (t 49)),q 52 45 (.load1 (t 51)),q 53 45 (.bin .lss (t 47) (t 52)),p 54 38 (.pick (t 45) (k (.bool true)) (t 53)),i 55 (.pick (t 38) (t 54) (k (.bool false)))]) (.cond (t 55) (.drawn 0 [mT 56 2,mT 57 9,fT 58 1 10,lT 59 58,i 60 (.nilCheck (t 56)),i 61 (.idxAddrA 50 1 (t 60) (t 57)),s (.store 1 (t 61) (t 59))]) .skip))))))
def a70:zAf:=⟨62,[],c70⟩
theorem n70:a70.ntmps=62:=id rfl
theorem r70:a70.results=[]:=rfl
theorem b70:a70.body=c70:=rfl
def ga71_1:zAc:=(.ops [i 7 (.alloc [(.int .i64 0),(.int .i64 0)]),s (.store 2 (t 7) (t 26))])
def gb71_1:zAc:=(.block 1 (.seq (.ops [fT 27 0 7,lT 28 27,fT 29 5 2,lT 30 29,i 31 (.bin .sub (t 28) (t 30)),lT 32 3,i 33 (.bin .geq (t 31) (t 32))]) (.cond (t 33) (.seq (.ops [i 34 (.loadN 2 (t 7)),s (.store 2 (t 4) (t 34)),s (.store 1 (t 5) (k (.bool true)))]) .retR) .skip)))
def c71:zAc:=(.seq (.seq (.ops [i 2 (.box (t 0)),i 3 (.box (t 1)),i 4 (.alloc [(.int .i64 0),(.int .i64 0)]),i 5 (.alloc [(.bool false)])]) (.seq (.seq (.ops [i 8 (.loadN 8 (t 2)),i 9 (.call .any (.func 35) [(t 8)]),i 10 (.un .not (t 9)),mT 11 10,q 12 11 (.load1 (t 3)),q 13 11 (.bin .gtr (t 12) (zT 1051898399)),i 14 (.pick (t 11) (k (.bool true)) (t 13))]) (.cond (t 14) (.seq (.ops [i 15 (.build [(.int .i64 0),(.int .i64 0)] []),s (.store 2 (t 4) (t 15)),s (.store 1 (t 5) (k (.bool false)))]) .retM) .skip)) (.seq (.ops [lT 16 3,i 17 (.minmax true [(t 16),(zT 0)]),s (.store 1 (t 3) (t 17))]) (.seq (.ops [lT 18 3,fT 19 5 2,lT 20 19,i 21 (.bin .add (t 18) (t 20)),i 22 (.bin .quo (t 21) (zT 1440)),mT 6 22]) (.seq (.seq (.ops [i 23 (.loadN 8 (t 2)),mT 24 6,i 25 (.call .any (.func 98) [(t 23),(t 24),(zT 1)])]) (.block 0 (.rangeF (t 25) [26] ga71_1 gb71_1))) (.seq (.ops [i 35 (.build [(.int .i64 0),(.int .i64 0)] []),s (.store 2 (t 4) (t 35)),s (.store 1 (t 5) (k (.bool false)))]) .retM)))))) .retM)
def a71:zAf:=⟨36,[(.cellN 2 4),(.cell1 5)],c71⟩
theorem n71:a71.ntmps=36:=id rfl
theorem r71:a71.results=[(.cellN 2 4),(.cell1 5)]:=rfl
theorem b71:a71.body=c71:=rfl
def l72_1:zAc:=(.seq (.ops [i 24 (.bin .lss (t 23) (t 22))]) (.seq (.cond (t 24) .skip (.exit 2)) (.seq (.block 3 (.seq (.ops [xT 25 8 21 23,i 26 (.loadN 8 (t 25)),i 11 (.alloc [(.int .i64 0),(.int .i64 0),(.int .i64 0),(.int .i64 0),(.int .i64 0),(.int .i64 0),(.int .i64 0),(.int .u8 0)]),s (.store 8 (t 11) (t 26))]) (.ops [mT 27 2,i 28 (.loadN 8 (t 11)),i 29 (.loadN 50 (t 8)),i 30 (.call .any (t 27) [(t 28),(t 29),(t 9)])]))) (.ops [i 31 (.bin .add (t 23) (zT 1)),mT 23 31]))))
def l72_2:zAc:=(.block 1 (.seq (.ops [mT 14 7,mT 15 7,i 16 (.lenSlice (t 15)),i 17 (.bin .sub (t 16) (zT 1)),xT 18 50 14 17,i 19 (.loadN 50 (t 18)),i 8 (.alloc [(.int .i64 0),(.int .i64 0),(.int .i64 0),(.int .i64 0),(.int .i64 0),(.int .i64 0),(.int .i64 0),(.int .i64 0),(.int .i64 0),(.int .i64 0),(.int .i64 0),(.int .i64 0),(.int .i64 0),(.int .i64 0),(.int .i64 0),(.int .i64 0),(.int .i64 0),(.int .i64 0),(.int .i64 0),(.int .i64 0),(.int .i64 0),(.int .i64 0),(.int .i64 0),(.int .i64 0),(.int .i64 0),(.int .i64 0),(.int .i64 0),(.int .i64 0),(.int .i64 0),(.int .i64 0),(.int .i64 0),(.int .i64 0),(.int .i64 0),(.int .i64 0),(.int .i64 0),(.int .i64 0),(.int .i64 0),(.int .i64 0),(.int .i64 0),(.int .i64 0),(.int .i64 0),(.int .i64 0),(.int .i64 0),(.int .i64 0),(.int .i64 0),(.int .i64 0),(.int .i64 0),(.int .i64 0),(.int .i64 0),(.int .i64 0)]),s (.store 50 (t 8) (t 19))]) (.seq (.ops [i 20 (.loadN 50 (t 8)),i 9 (.alloc [(.int .i64 0),(.int .i64 0),(.int .i64 0),(.int .i64 0),(.int .i64 0),(.int .i64 0),(.int .i64 0),(.int .i64 0),(.int .i64 0),(.int .i64 0),(.int .i64 0),(.int .i64 0),(.int .i64 0),(.int .i64 0),(.int .i64 0),(.int .i64 0),(.int .i64 0),(.int .i64 0),(.int .i64 0),(.int .i64 0),(.int .i64 0),(.int .i64 0),(.int .i64 0),(.int .i64 0),(.int .i64 0),(.int .i64 0),(.int .i64 0),(.int .i64 0),(.int .i64 0),(.int .i64 0),(.int .i64 0),(.int .i64 0),(.int .i64 0),(.int .i64 0),(.int .i64 0),(.int .i64 0),(.int .i64 0),(.int .i64 0),(.int .i64 0),(.int .i64 0),(.int .i64 0),(.int .i64 0),(.int .i64 0),(.int .i64 0),(.int .i64 0),(.int .i64 0),(.int .i64 0),(.int .i64 0),(.int .i64 0),(.int .i64 0)]),s (.store 50 (t 9) (t 20))]) (.seq (.seq (.ops [mT 21 1,i 22 (.lenSlice (t 21)),i 23 (.mov (zT 0))]) (.block 2 (.loop l72_1))) (.seq (.seq (.ops [i 32 (.loadN 50 (t 9)),i 33 (.loadN 50 (t 8)),i 34 (.eqv false (.agg [(.int .i64),(.int .i64),(.int .i64),(.int .i64),(.int .i64),(.int .i64),(.int .i64),(.int .i64),(.int .i64),(.int .i64),(.int .i64),(.int .i64),(.int .i64),(.int .i64),(.int .i64),(.int .i64),(.int .i64),(.int .i64),(.int .i64),(.int .i64),(.int .i64),(.int .i64),(.int .i64),(.int .i64),(.int .i64),(.int .i64),(.int .i64),(.int .i64),(.int .i64),(.int .i64),(.int .i64),(.int .i64),(.int .i64),(.int .i64),(.int .i64),(.int .i64),(.int .i64),(.int .i64),(.int .i64),(.int .i64),(.int .i64),(.int .i64),(.int .i64),(.int .i64),(.int .i64),(.int .i64),(.int .i64),(.int .i64),(.int .i64),(.int .i64)]) (t 32) (t 33))]) (.cond (t 34) (.seq (.ops [mT 35 7,mT 6 35]) .ret) .skip)) (.ops [mT 36 7,i 37 (.loadN 50 (t 9)),i 38 (.buildSlice 1 [(.int .i64 0),(.int .i64 0),(.int .i64 0),(.int .i64 0),(.int .i64 0),(.int .i64 0),(.int .i64 0),(.int .i64 0),(.int .i64 0),(.int .i64 0),(.int .i64 0),(.int .i64 0),(.int .i64 0),(.int .i64 0),(.int .i64 0),(.int .i64 0),(.int .i64 0),(.int .i64 0),(.int .i64 0),(.int .i64 0),(.int .i64 0),(.int .i64 0),(.int .i64 0),(.int .i64 0),(.int .i64 0),(.int .i64 0),(.int .i64 0),(.int .i64 0),(.int .i64 0),(.int .i64 0),(.int .i64 0),(.int .i64 0),(.int .i64 0),(.int .i64 0),(.int .i64 0),(.int .i64 0),(.int .i64 0),(.int .i64 0),(.int .i64 0),(.int .i64 0),(.int .i64 0),(.int .i64 0),(.int .i64 0),(.int .i64 0),(.int .i64 0),(.int .i64 0),(.int .i64 0),(.int .i64 0),(.int .i64 0),(.int .i64 0)] [(0,(50,(t 37)))]),i 39 (.append 50 400 false (t 36) (t 38)),mT 7 39]))))))
def c72:zAc:=(.seq (.ops [i 3 (.box (t 0)),i 6 (.mov (k (.slice none 0 0)))]) (.seq (.ops [i 12 (.loadN 50 (t 3)),i 13 (.buildSlice 1 [(.int .i64 0),(.int .i64 0),(.int .i64 0),(.int .i64 0),(.int .i64 0),(.int .i64 0),(.int .i64 0),(.int .i64 0),(.int .i64 0),(.int .i64 0),(.int .i64 0),(.int .i64 0),(.int .i64 0),(.int .i64 0),(.int .i64 0),(.int .i64 0),(.int .i64 0),(.int .i64 0),(.int .i64 0),(.int .i64 0),(.int .i64 0),(.int .i64 0),(.int .i64 0),(.int .i64 0),(.int .i64 0),(.int .i64 0),(.int .i64 0),(.int .i64 0),(.int .i64 0),(.int .i64 0),(.int .i64 0),(.int .i64 0),(.int .i64 0),(.int .i64 0),(.int .i64 0),(.int .i64 0),(.int .i64 0),(.int .i64 0),(.int .i64 0),(.int .i64 0),(.int .i64 0),(.int .i64 0),(.int .i64 0),(.int .i64 0),(.int .i64 0),(.int .i64 0),(.int .i64 0),(.int .i64 0),(.int .i64 0),(.int .i64 0)] [(0,(50,(t 12)))]),mT 7 13]) (.block 0 (.loop l72_2))))
def a72:zAf:=⟨40,[(.tmp 6)],c72⟩
theorem n72:a72.ntmps=40:=id rfl
theorem r72:a72.results=[(.tmp 6)]:=rfl
theorem b72:a72.body=c72:=rfl
def l73_1:zAc:=(.seq (.ops [i 8 (.bin .lss (t 7) (zT 50))]) (.seq (.cond (t 8) .skip (.exit 0)) (.seq (.block 1 (.seq (.ops [mT 9 7,mT 6 9]) (.ops [mT 10 6,i 11 (.idxAddrA 50 1 (t 5) (t 10)),s (.store 1 (t 11) (zT (-1)))]))) (.ops [i 12 (.bin .add (t 7) (zT 1)),mT 7 12]))))
def c73:zAc:=(.seq (.ops [i 4 (.alloc [(.int .i64 0),(.int .i64 0),(.int .i64 0),(.int .i64 0),(.int .i64 0),(.int .i64 0),(.int .i64 0),(.int .i64 0),(.int .i64 0),(.int .i64 0),(.int .i64 0),(.int .i64 0),(.int .i64 0),(.int .i64 0),(.int .i64 0),(.int .i64 0),(.int .i64 0),(.int .i64 0),(.int .i64 0),(.int .i64 0),(.int .i64 0),(.int .i64 0),(.int .i64 0),(.int .i64 0),(.int .i64 0),(.int .i64 0),(.int .i64 0),(.int .i64 0),(.int .i64 0),(.int .i64 0),(.int .i64 0),(.int .i64 0),(.int .i64 0),(.int .i64 0),(.int .i64 0),(.int .i64 0),(.int .i64 0),(.int .i64 0),(.int .i64 0),(.int .i64 0),(.int .i64 0),(.int .i64 0),(.int .i64 0),(.int .i64 0),(.int .i64 0),(.int .i64 0),(.int .i64 0),(.int .i64 0),(.int .i64 0),(.int .i64 0)])]) (.seq (.ops [i 5 (.alloc [(.int .i64 0),(.int .i64 0),(.int .i64 0),(.int .i64 0),(.int .i64 0),(.int .i64 0),(.int .i64 0),(.int .i64 0),(.int .i64 0),(.int .i64 0),(.int .i64 0),(.int .i64 0),(.int .i64 0),(.int .i64 0),(.int .i64 0),(.int .i64 0),(.int .i64 0),(.int .i64 0),(.int .i64 0),(.int .i64 0),(.int .i64 0),(.int .i64 0),(.int .i64 0),(.int .i64 0),(.int .i64 0),(.int .i64 0),(.int .i64 0),(.int .i64 0),(.int .i64 0),(.int .i64 0),(.int .i64 0),(.int .i64 0),(.int .i64 0),(.int .i64 0),(.int .i64 0),(.int .i64 0),(.int .i64 0),(.int .i64 0),(.int .i64 0),(.int .i64 0),(.int .i64 0),(.int .i64 0),(.int .i64 0),(.int .i64 0),(.int .i64 0),(.int .i64 0),(.int .i64 0),(.int .i64 0),(.int .i64 0),(.int .i64 0)])]) (.seq (.seq (.ops [i 7 (.mov (zT 0))]) (.block 0 (.loop l73_1))) (.seq (.ops [mT 13 0,mT 14 1,i 15 (.idxAddrA 50 1 (t 5) (t 13)),s (.store 1 (t 15) (t 14))]) (.seq (.ops [i 16 (.loadN 50 (t 5)),s (.store 50 (t 4) (t 16))]) .ret)))))
def a73:zAf:=⟨17,[(.cellN 50 4)],c73⟩
theorem n73:a73.ntmps=17:=id rfl
theorem r73:a73.results=[(.cellN 50 4)]:=rfl
theorem b73:a73.body=c73:=rfl
def l74_1:zAc:=(.seq (.seq (.ops [mT 27 8,lT 28 1,i 29 (.bin .quo (t 28) (zT 1440)),i 30 (.bin .leq (t 27) (t 29))]) (.cond (t 30) .skip (.exit 2))) (.seq (.block 3 (.seq (.ops [i 34 (.loadN 8 (t 7)),mT 35 8,i 36 (.call .any (.func 75) [(t 34),(t 35)]),mT 33 36,i 37 (.extract 0 (t 33)),i 38 (.extract 1 (t 33)),i 9 (.alloc [(.int .i64 0),(.int .i64 0)]),s (.store 2 (t 9) (t 37)),mT 10 38]) (.seq (.seq (.ops [mT 39 10,i 40 (.un .not (t 39)),mT 41 40,q 42 41 (.fieldAddr 0 (t 9)),q 43 41 (.load1 (t 42)),q 44 41 (.mov (t 5)),q 45 41 (.bin .lss (t 43) (t 44)),i 46 (.pick (t 41) (k (.bool true)) (t 45)),mT 47 46,q 48 47 (.fieldAddr 1 (t 9)),q 49 47 (.load1 (t 48)),q 50 47 (.load1 (t 1)),q 51 47 (.bin .gtr (t 49) (t 50)),i 52 (.pick (t 47) (k (.bool true)) (t 51))]) (.cond (t 52) (.exit 3) .skip)) (.seq (.ops [mT 53 0,i 54 (.loadN 8 (t 7)),i 55 (.loadN 2 (t 9)),i 56 (.call .any (t 53) [(t 54),(t 55)]),i 57 (.un .not (t 56))]) (.cond (t 57) .ret .skip))))) (.ops [mT 31 8,i 32 (.bin .add (t 31) (zT 1)),mT 8 32])))
def l74_2:zAc:=(.seq (.ops [i 18 (.bin .lss (t 17) (t 16))]) (.seq (.cond (t 18) .skip (.exit 0)) (.seq (.block 1 (.seq (.ops [xT 19 8 15 17,i 20 (.loadN 8 (t 19)),i 7 (.alloc [(.int .i64 0),(.int .i64 0),(.int .i64 0),(.int .i64 0),(.int .i64 0),(.int .i64 0),(.int .i64 0),(.int .u8 0)]),s (.store 8 (t 7) (t 20))]) (.seq (.seq (.ops [fT 21 1 7,lT 22 21,lT 23 3,i 24 (.bin .eql (t 22) (t 23))]) (.cond (t 24) (.exit 1) .skip)) (.seq (.ops [mT 25 5,i 26 (.bin .quo (t 25) (zT 1440)),mT 8 26]) (.block 2 (.loop l74_1)))))) (.ops [i 58 (.bin .add (t 17) (zT 1)),mT 17 58]))))
def c74:zAc:=(.seq (.ops [lT 11 1,i 12 (.bin .sub (t 11) (zT 20160)),i 13 (.minmax true [(zT 0),(t 12)]),mT 5 13]) (.seq (.ops [fT 14 1 2,lT 15 14,i 16 (.lenSlice (t 15)),i 17 (.mov (zT 0))]) (.block 0 (.loop l74_2))))
def a74:zAf:=⟨59,[],c74⟩
theorem n74:a74.ntmps=59:=id rfl
theorem r74:a74.results=[]:=rfl
theorem b74:a74.body=c74:=rfl
def c75:zAc:=(.seq (.ops [i 2 (.box (t 0)),i 4 (.alloc [(.int .i64 0),(.int .i64 0)]),i 5 (.mov (k (.bool false)))]) (.seq (.seq (.ops [i 6 (.loadN 8 (t 2)),i 7 (.call .any (.func 35) [(t 6)]),i 8 (.un .not (t 7)),mT 9 8,q 10 9 (.mov (t 1)),q 11 9 (.bin .lss (t 10) (zT 0)),i 12 (.pick (t 9) (k (.bool true)) (t 11)),mT 13 12,q 14 13 (.mov (t 1)),q 15 13 (.bin .gtr (t 14) (zT 730484)),i 16 (.pick (t 13) (k (.bool true)) (t 15))]) (.cond (t 16) (.seq (.ops [i 17 (.build [(.int .i64 0),(.int .i64 0)] []),s (.store 2 (t 4) (t 17)),i 5 (.mov (k (.bool false)))]) .ret) .skip)) (.seq (.ops [i 18 (.loadN 8 (t 2)),mT 19 1,i 20 (.call .any (.func 99) [(t 18),(t 19)]),i 21 (.extract 0 (t 20)),i 22 (.extract 1 (t 20)),s (.store 2 (t 4) (t 21)),mT 5 22]) .ret)))
def a75:zAf:=⟨23,[(.cellN 2 4),(.tmp 5)],c75⟩
theorem n75:a75.ntmps=23:=id rfl
theorem r75:a75.results=[(.cellN 2 4),(.tmp 5)]:=rfl
theorem b75:a75.body=c75:=rfl
def c77:zAc:=(.seq (.ops [i 2 (.box (t 0)),i 3 (.box (t 1)),i 4 (.mov (zT 0))]) (.seq (.drawn 1 [fT 5 0 2,⟨(some 6),none,(.load1 (t 5)),none,[0]⟩,fT 7 0 3,⟨(some 8),none,(.load1 (t 7)),none,[0]⟩,⟨(some 9),none,(.call .pure (.func 68) [(t 6),(t 8)]),none,[0]⟩,fT 10 1 2,⟨(some 11),none,(.load1 (t 10)),none,[0]⟩,fT 12 1 3,⟨(some 13),none,(.load1 (t 12)),none,[0]⟩,⟨(some 14),none,(.call .pure (.func 68) [(t 11),(t 13)]),none,[0]⟩,fT 15 2 3,⟨(some 16),none,(.load1 (t 15)),none,[0]⟩,fT 17 2 2,⟨(some 18),none,(.load1 (t 17)),none,[0]⟩,⟨(some 19),none,(.call .pure (.func 68) [(t 16),(t 18)]),none,[0]⟩,⟨(some 20),none,(.buildSlice 3 [(.int .i64 0),(.int .i64 0),(.int .i64 0)] [(0,(1,(t 9))),(1,(1,(t 14))),(2,(1,(t 19)))]),(some 0),[]⟩,i 21 (.call .pure (.func 67) [(t 20)]),mT 4 21]) .ret))
def a77:zAf:=⟨22,[(.tmp 4)],c77⟩
theorem n77:a77.ntmps=22:=id rfl
theorem r77:a77.results=[(.tmp 4)]:=rfl
theorem b77:a77.body=c77:=rfl
def l83_1:zAc:=(.seq (.ops [i 9 (.bin .lss (t 8) (t 7))]) (.seq (.cond (t 9) .skip (.exit 0)) (.seq (.block 1 (.seq (.ops [mT 10 8,mT 5 10]) (.seq (.ops [mT 11 1,mT 12 0,mT 13 5,xT 14 1 12 13,lT 15 14,i 16 (.bin .eql (t 11) (t 15))]) (.cond (t 16) (.seq (.ops [mT 17 5,mT 4 17]) .ret) .skip)))) (.ops [i 18 (.bin .add (t 8) (zT 1)),mT 8 18]))))
def c83:zAc:=(.seq (.ops [i 4 (.mov (zT 0))]) (.seq (.seq (.ops [mT 6 0,i 7 (.lenSlice (t 6)),i 8 (.mov (zT 0))]) (.block 0 (.loop l83_1))) (.seq (.ops [i 4 (.mov (zT (-1)))]) .ret)))
def a83:zAf:=⟨19,[(.tmp 4)],c83⟩
theorem n83:a83.ntmps=19:=id rfl
theorem r83:a83.results=[(.tmp 4)]:=rfl
theorem b83:a83.body=c83:=rfl
def c85:zAc:=(.seq (.ops [i 2 (.box (t 0)),i 3 (.box (t 1)),i 4 (.mov (zT 0))]) (.seq (.drawn 1 [fT 5 0 2,⟨(some 6),none,(.load1 (t 5)),none,[0]⟩,fT 7 0 3,⟨(some 8),none,(.load1 (t 7)),none,[0]⟩,⟨(some 9),none,(.call .pure (.func 68) [(t 6),(t 8)]),none,[0]⟩,fT 10 1 2,⟨(some 11),none,(.load1 (t 10)),none,[0]⟩,fT 12 1 3,⟨(some 13),none,(.load1 (t 12)),none,[0]⟩,⟨(some 14),none,(.call .pure (.func 68) [(t 11),(t 13)]),none,[0]⟩,⟨(some 15),none,(.buildSlice 2 [(.int .i64 0),(.int .i64 0)] [(0,(1,(t 9))),(1,(1,(t 14)))]),(some 0),[]⟩,i 16 (.call .pure (.func 67) [(t 15)]),mT 4 16]) .ret))
def a85:zAf:=⟨17,[(.tmp 4)],c85⟩
theorem n85:a85.ntmps=17:=id rfl
theorem r85:a85.results=[(.tmp 4)]:=rfl
theorem b85:a85.body=c85:=rfl
def l86_1:zAc:=(.seq (.seq (.ops [mT 34 8,mT 35 7,i 36 (.lenSlice (t 35)),i 37 (.bin .lss (t 34) (t 36))]) (.cond (t 37) .skip (.exit 0))) (.block 1 (.drawn 0 [mT 38 8,mT 39 7,mT 40 8,i 41 (.sliceS 1 (t 39) (some (t 40)) none none),mT 42 7,mT 43 8,i 44 (.sliceS 1 (t 42) none (some (t 43)) none),i 45 (.copy 1 (t 41) (t 44)),i 46 (.bin .add (t 38) (t 45)),mT 8 46])))
def c86:zAc:=(.seq (.ops [i 4 (.mov (k (.slice none 0 0)))]) (.seq (.seq (.ops [mT 9 1,i 10 (.bin .lss (t 9) (zT 0))]) (.cond (t 10) (.ops [i 11 (.die (k (.string ⟨#[99,97,110,110,111,116,32,98,101,32,110,101,103,97,116,105,118,101]⟩))),s (.die (t 11))]) .skip)) (.seq (.ops [mT 13 0,i 14 (.lenSlice (t 13)),i 15 (.conv .u64 (t 14)),mT 16 1,i 17 (.conv .u64 (t 16)),i 18 (.call .any (.func 106) [(t 15),(t 17)]),mT 12 18,i 19 (.extract 0 (t 12)),i 20 (.extract 1 (t 12)),mT 5 19,mT 6 20]) (.seq (.seq (.ops [mT 21 5,i 22 (.bin .gtr (t 21) (k (.int .u64 0))),mT 23 22,q 24 23 (.mov (t 6)),q 25 23 (.bin .gtr (t 24) (k (.int .u64 9223372036854775807))),i 26 (.pick (t 23) (k (.bool true)) (t 25))]) (.cond (t 26) (.ops [i 27 (.die (k (.string ⟨#[116,104,101,32,114,101,115,117,108,116,32,111,102,32,40,108,101,110,40,120,41,32,42,32,99,111,117,110,116,41,32,111,118,101,114,102,108,111,119,115]⟩))),s (.die (t 27))]) .skip)) (.seq (.ops [mT 28 6,i 29 (.conv .i64 (t 28)),i 30 (.makeSlice 1 8 [(.int .i64 0)] (t 29) (t 29)),mT 7 30]) (.seq (.ops [mT 31 7,mT 32 0,i 33 (.copy 1 (t 31) (t 32)),mT 8 33]) (.seq (.block 0 (.loop l86_1)) (.seq (.ops [mT 47 7,mT 4 47]) .ret))))))))
def a86:zAf:=⟨48,[(.tmp 4)],c86⟩
theorem n86:a86.ntmps=48:=id rfl
theorem r86:a86.results=[(.tmp 4)]:=rfl
theorem b86:a86.body=c86:=rfl
def c95:zAc:=(.seq (.ops [i 2 (.mov (zT 0))]) (.seq (.seq (.ops [mT 3 0,i 4 (.bin .geq (t 3) (k (.int .u32 65536)))]) (.cond (t 4) (.seq (.ops [mT 5 0,i 6 (.bin .shr (t 5) (k (.int .u64 16))),mT 0 6]) (.ops [i 2 (.mov (zT 16))])) .skip)) (.seq (.seq (.ops [mT 7 0,i 8 (.bin .geq (t 7) (k (.int .u32 256)))]) (.cond (t 8) (.seq (.ops [mT 9 0,i 10 (.bin .shr (t 9) (k (.int .u64 8))),mT 0 10]) (.ops [mT 11 2,i 12 (.bin .add (t 11) (zT 8)),mT 2 12])) .skip)) (.seq (.ops [mT 13 2,mT 14 0,i 15 (.conv .u8 (t 14)),i 16 (.idxStr (k (.string ⟨#[0,1,2,2,3,3,3,3,4,4,4,4,4,4,4,4,5,5,5,5,5,5,5,5,5,5,5,5,5,5,5,5,6,6,6,6,6,6,6,6,6,6,6,6,6,6,6,6,6,6,6,6,6,6,6,6,6,6,6,6,6,6,6,6,7,7,7,7,7,7,7,7,7,7,7,7,7,7,7,7,7,7,7,7,7,7,7,7,7,7,7,7,7,7,7,7,7,7,7,7,7,7,7,7,7,7,7,7,7,7,7,7,7,7,7,7,7,7,7,7,7,7,7,7,7,7,7,7,8,8,8,8,8,8,8,8,8,8,8,8,8,8,8,8,8,8,8,8,8,8,8,8,8,8,8,8,8,8,8,8,8,8,8,8,8,8,8,8,8,8,8,8,8,8,8,8,8,8,8,8,8,8,8,8,8,8,8,8,8,8,8,8,8,8,8,8,8,8,8,8,8,8,8,8,8,8,8,8,8,8,8,8,8,8,8,8,8,8,8,8,8,8,8,8,8,8,8,8,8,8,8,8,8,8,8,8,8,8,8,8,8,8,8,8,8,8,8,8,8,8,8,8,8,8,8,8]⟩)) (t 15)),i 17 (.conv .i64 (t 16)),i 18 (.bin .add (t 13) (t 17)),mT 2 18]) .ret))))
def a95:zAf:=⟨19,[(.tmp 2)],c95⟩
def c97:zAc:=(.seq (.ops [i 2 (.mov (k (.bool false)))]) (.seq (.ops [mT 3 0,mT 4 0,i 5 (.bin .neq (t 3) (t 4)),mT 2 5]) .ret))
def a97:zAf:=⟨6,[(.tmp 2)],c97⟩
theorem n97:a97.ntmps=6:=id rfl
theorem r97:a97.results=[(.tmp 2)]:=rfl
theorem b97:a97.body=c97:=rfl
def c98:zAc:=(.seq (.ops [i 3 (.box (t 0)),i 4 (.box (t 1)),i 5 (.box (t 2)),i 6 (.mov (k .nilFunc))]) (.seq (.ops [i 7 (.makeFunc 112 [] [(t 4),(t 5),(t 3)]),mT 6 7]) .ret))
def a98:zAf:=⟨8,[(.tmp 6)],c98⟩
theorem n98:a98.ntmps=8:=id rfl
theorem r98:a98.results=[(.tmp 6)]:=rfl
theorem b98:a98.body=c98:=rfl
def c99:zAc:=(.seq (.ops [i 2 (.box (t 0)),i 4 (.alloc [(.int .i64 0),(.int .i64 0)]),i 5 (.mov (k (.bool false)))]) (.seq (.ops [mT 7 1,i 8 (.bin .mul (zT 1440) (t 7)),fT 9 3 2,lT 10 9,i 11 (.bin .add (t 8) (t 10)),mT 6 11]) (.seq (.seq (.ops [fT 12 7 2,lT 13 12,mT 14 1,i 15 (.bin .rem (t 14) (zT 7)),i 16 (.bin .shr (t 13) (t 15)),i 17 (.bin .and (t 16) (k (.int .u8 1))),i 18 (.bin .eql (t 17) (k (.int .u8 0))),mT 19 18,q 20 19 (.mov (t 6)),q 21 19 (.fieldAddr 5 (t 2)),q 22 19 (.load1 (t 21)),q 23 19 (.bin .sub (t 20) (t 22)),q 24 19 (.bin .lss (t 23) (zT 0)),i 25 (.pick (t 19) (k (.bool true)) (t 24)),mT 26 25,q 27 26 (.mov (t 6)),q 28 26 (.fieldAddr 4 (t 2)),q 29 26 (.load1 (t 28)),q 30 26 (.bin .add (t 27) (t 29)),q 31 26 (.bin .gtr (t 30) (zT 1051898399)),i 32 (.pick (t 26) (k (.bool true)) (t 31))]) (.cond (t 32) (.seq (.ops [i 33 (.build [(.int .i64 0),(.int .i64 0)] []),s (.store 2 (t 4) (t 33)),i 5 (.mov (k (.bool false)))]) .ret) .skip)) (.seq (.ops [mT 34 6,mT 35 6,fT 36 4 2,lT 37 36,i 38 (.bin .add (t 35) (t 37)),i 39 (.build [(.int .i64 0),(.int .i64 0)] [(0,(1,(t 34))),(1,(1,(t 38)))]),s (.store 2 (t 4) (t 39)),i 5 (.mov (k (.bool true)))]) .ret))))
def a99:zAf:=⟨40,[(.cellN 2 4),(.tmp 5)],c99⟩
theorem n99:a99.ntmps=40:=id rfl
theorem r99:a99.results=[(.cellN 2 4),(.tmp 5)]:=rfl
theorem b99:a99.body=c99:=rfl
def c106:zAc:=(.seq (.ops [i 4 (.mov (k (.int .u64 0))),i 5 (.mov (k (.int .u64 0)))]) (.seq (.cond (k (.bool false)) (.seq (.ops [mT 11 0,i 12 (.conv .u32 (t 11)),mT 13 1,i 14 (.conv .u32 (t 13)),i 15 (.call .any (.func 129) [(t 12),(t 14)]),mT 10 15,i 16 (.extract 0 (t 10)),i 17 (.extract 1 (t 10)),mT 6 16,mT 7 17]) (.seq (.ops [mT 18 6,i 19 (.conv .u64 (t 18)),mT 20 7,i 21 (.conv .u64 (t 20)),mT 4 19,mT 5 21]) .ret)) .skip) (.seq (.ops [mT 23 0,mT 24 1,i 25 (.call .any (.func 130) [(t 23),(t 24)]),mT 22 25,i 26 (.extract 0 (t 22)),i 27 (.extract 1 (t 22)),mT 8 26,mT 9 27]) (.seq (.ops [mT 28 8,mT 29 9,mT 4 28,mT 5 29]) .ret))))
def a106:zAf:=⟨30,[(.tmp 4),(.tmp 5)],c106⟩
theorem n106:a106.ntmps=30:=id rfl
theorem r106:a106.results=[(.tmp 4),(.tmp 5)]:=rfl
theorem b106:a106.body=c106:=rfl
def l112_1:zAc:=(.seq (.seq (.ops [lT 7 1,i 8 (.bin .geq (t 7) (zT 0)),mT 9 8,p 10 9 (.load1 (t 1)),p 11 9 (.bin .leq (t 10) (zT 730484)),i 12 (.pick (t 9) (t 11) (k (.bool false)))]) (.cond (t 12) .skip (.exit 0))) (.seq (.block 1 (.seq (.ops [i 17 (.loadN 8 (t 3)),lT 18 1,i 19 (.call .any (.func 99) [(t 17),(t 18)]),mT 16 19,i 20 (.extract 0 (t 16)),i 21 (.extract 1 (t 16)),i 5 (.alloc [(.int .i64 0),(.int .i64 0)]),s (.store 2 (t 5) (t 20)),mT 6 21]) (.seq (.ops [mT 22 6,mT 23 22,p 24 23 (.mov (t 0)),p 25 23 (.loadN 2 (t 5)),p 26 23 (.call .any (t 24) [(t 25)]),p 27 23 (.un .not (t 26)),i 28 (.pick (t 23) (t 27) (k (.bool false)))]) (.cond (t 28) .ret .skip)))) (.ops [lT 13 1,lT 14 2,i 15 (.bin .add (t 13) (t 14)),s (.store 1 (t 1) (t 15))])))
def c112:zAc:=(.block 0 (.loop l112_1))
def a112:zAf:=⟨29,[],c112⟩
theorem n112:a112.ntmps=29:=id rfl
theorem r112:a112.results=[]:=rfl
theorem b112:a112.body=c112:=rfl
def c129:zAc:=(.seq (.ops [i 4 (.mov (k (.int .u32 0))),i 5 (.mov (k (.int .u32 0)))]) (.seq (.ops [mT 7 0,i 8 (.conv .u64 (t 7)),mT 9 1,i 10 (.conv .u64 (t 9)),i 11 (.bin .mul (t 8) (t 10)),mT 6 11]) (.seq (.ops [mT 12 6,i 13 (.bin .shr (t 12) (k (.int .u64 32))),i 14 (.conv .u32 (t 13)),mT 15 6,i 16 (.conv .u32 (t 15)),mT 4 14,mT 5 16]) .ret)))
def a129:zAf:=⟨17,[(.tmp 4),(.tmp 5)],c129⟩
def c130:zAc:=(.seq (.ops [i 4 (.mov (k (.int .u64 0))),i 5 (.mov (k (.int .u64 0)))]) (.seq (.ops [mT 14 0,i 15 (.bin .and (t 14) (k (.int .u64 4294967295))),mT 6 15]) (.seq (.ops [mT 16 0,i 17 (.bin .shr (t 16) (k (.int .u64 32))),mT 7 17]) (.seq (.ops [mT 18 1,i 19 (.bin .and (t 18) (k (.int .u64 4294967295))),mT 8 19]) (.seq (.ops [mT 20 1,i 21 (.bin .shr (t 20) (k (.int .u64 32))),mT 9 21]) (.seq (.ops [mT 22 6,mT 23 8,i 24 (.bin .mul (t 22) (t 23)),mT 10 24]) (.seq (.ops [mT 25 7,mT 26 8,i 27 (.bin .mul (t 25) (t 26)),mT 28 10,i 29 (.bin .shr (t 28) (k (.int .u64 32))),i 30 (.bin .add (t 27) (t 29)),mT 11 30]) (.seq (.ops [mT 31 11,i 32 (.bin .and (t 31) (k (.int .u64 4294967295))),mT 12 32]) (.seq (.ops [mT 33 11,i 34 (.bin .shr (t 33) (k (.int .u64 32))),mT 13 34]) (.seq (.ops [mT 35 12,mT 36 6,mT 37 9,i 38 (.bin .mul (t 36) (t 37)),i 39 (.bin .add (t 35) (t 38)),mT 12 39]) (.seq (.ops [mT 40 7,mT 41 9,i 42 (.bin .mul (t 40) (t 41)),mT 43 13,i 44 (.bin .add (t 42) (t 43)),mT 45 12,i 46 (.bin .shr (t 45) (k (.int .u64 32))),i 47 (.bin .add (t 44) (t 46)),mT 4 47]) (.seq (.ops [mT 48 0,mT 49 1,i 50 (.bin .mul (t 48) (t 49)),mT 5 50]) .ret))))))))))))
def a130:zAf:=⟨51,[(.tmp 4),(.tmp 5)],c130⟩
theorem n130:a130.ntmps=51:=id rfl
theorem r130:a130.results=[(.tmp 4),(.tmp 5)]:=rfl
theorem b130:a130.body=c130:=rfl
def table:List (FuncId×zAf):=[(5,a5),(6,a6),(7,a7),(11,a11),(13,a13),(14,a14),(15,a15),(16,a16),(17,a17),(18,a18),(19,a19),(20,a20),(21,a21),(22,a22),(23,a23),(24,a24),(35,a35),(36,a36),(37,a37),(38,a38),(39,a39),(41,a41),(42,a42),(43,a43),(44,a44),(45,a45),(46,a46),(57,a57),(58,a58),(59,a59),(60,a60),(61,a61),(62,a62),(63,a63),(64,a64),(67,a67),(68,a68),(69,a69),(70,a70),(71,a71),(72,a72),(73,a73),(74,a74),(75,a75),(77,a77),(83,a83),(85,a85),(86,a86),(95,a95),(97,a97),(98,a98),(99,a99),(106,a106),(112,a112),(129,a129),(130,a130),(40,Srt.aSORT zL),(65,Srt.aPDQ zL),(66,Srt.aLEN zL),(76,Srt.aSORT zC),(84,Srt.aSORT zP),(87,Srt.aINS zL),(88,Srt.aHEAP zL),(89,Srt.aBRK zL),(90,Srt.aCHO zL),(91,Srt.aREV zL),(92,Srt.aPIS zL),(93,Srt.aPEQ zL),(94,Srt.aPART zL),(96,Srt.aLEN64 zL),(100,Srt.aPDQ zC),(105,Srt.aPDQ zP),(107,Srt.aSIFT zL),(108,Srt.aNPT zL),(109,Srt.aXOR zL),(110,Srt.aMEDA zL),(111,Srt.aMED zL),(113,Srt.aINS zC),(114,Srt.aHEAP zC),(115,Srt.aBRK zC),(116,Srt.aCHO zC),(117,Srt.aREV zC),(118,Srt.aPIS zC),(119,Srt.aPEQ zC),(120,Srt.aPART zC),(121,Srt.aINS zP),(122,Srt.aHEAP zP),(123,Srt.aBRK zP),(124,Srt.aCHO zP),(125,Srt.aREV zP),(126,Srt.aPIS zP),(127,Srt.aPEQ zP),(128,Srt.aPART zP),(131,Srt.aORD zL),(132,Srt.aSIFT zC),(133,Srt.aMEDA zC),(134,Srt.aMED zC),(135,Srt.aSIFT zP),(136,Srt.aMEDA zP),(137,Srt.aMED zP),(138,Srt.aORD zC),(139,Srt.aORD zP)]
def tr (g:FuncId):Option zAf:=table.lookup g
theorem e5:tr 5=some a5:=rfl
theorem e6:tr 6=some a6:=rfl
theorem e7:tr 7=some a7:=rfl
theorem e11:tr 11=some a11:=rfl
theorem e13:tr 13=some a13:=rfl
theorem e14:tr 14=some a14:=rfl
theorem e15:tr 15=some a15:=rfl
theorem e16:tr 16=some a16:=rfl
theorem e17:tr 17=some a17:=rfl
theorem e18:tr 18=some a18:=rfl
theorem e19:tr 19=some a19:=rfl
theorem e20:tr 20=some a20:=rfl
theorem e21:tr 21=some a21:=rfl
theorem e22:tr 22=some a22:=rfl
theorem e23:tr 23=some a23:=rfl
theorem e24:tr 24=some a24:=rfl
theorem e35:tr 35=some a35:=rfl
theorem e36:tr 36=some a36:=rfl
theorem e37:tr 37=some a37:=rfl
theorem e38:tr 38=some a38:=rfl
theorem e39:tr 39=some a39:=rfl
theorem e41:tr 41=some a41:=rfl
theorem e42:tr 42=some a42:=rfl
theorem e43:tr 43=some a43:=rfl
theorem e44:tr 44=some a44:=rfl
theorem e45:tr 45=some a45:=rfl
theorem e46:tr 46=some a46:=rfl
theorem e57:tr 57=some a57:=rfl
theorem e58:tr 58=some a58:=rfl
theorem e59:tr 59=some a59:=rfl
theorem e60:tr 60=some a60:=rfl
theorem e61:tr 61=some a61:=rfl
theorem e62:tr 62=some a62:=rfl
theorem e63:tr 63=some a63:=rfl
theorem e64:tr 64=some a64:=rfl
theorem e67:tr 67=some a67:=rfl
theorem e68:tr 68=some a68:=rfl
theorem e69:tr 69=some a69:=rfl
theorem e70:tr 70=some a70:=rfl
theorem e71:tr 71=some a71:=rfl
theorem e72:tr 72=some a72:=rfl
theorem e73:tr 73=some a73:=rfl
theorem e74:tr 74=some a74:=rfl
theorem e75:tr 75=some a75:=rfl
theorem e77:tr 77=some a77:=rfl
theorem e83:tr 83=some a83:=rfl
theorem e85:tr 85=some a85:=rfl
theorem e86:tr 86=some a86:=rfl
theorem e97:tr 97=some a97:=rfl
theorem e98:tr 98=some a98:=rfl
theorem e99:tr 99=some a99:=rfl
theorem e106:tr 106=some a106:=rfl
theorem e112:tr 112=some a112:=rfl
theorem e130:tr 130=some a130:=rfl
end Go.Proofs.YtohnaffmcjbpoaaGreat.Fn

namespace Go.Proofs.YtohnaffmcjbpoaaGreat.Fn
open Go.AM Go.AM.Sym Go.Net
class OB where
 on:FuncId→Bool
def orc [OB] (g:FuncId) (as:List Value):Option Value:=if (g=7∨g=999)∧OB.on g=true∧as=[] then some (.bool true) else none
def E [OB]:Env:=⟨tr,pf,orc,true⟩
instance dtE [OB]:DT E E:=⟨rfl⟩
section
variable {mp:Bool} {lim:Nat} {g:FuncId} {as:List Value} {v:Value} {af:zAf} {H:zH} {Q:Value→zH→Prop}
theorem pc [OB] (h:g≠7∧g≠999) (ht:tr g=some af) (hp:pf g=true) (hf:flat 4 v=true) (hr:Ret E af H.length [.code af.body] (zFr as) (H++[]) fun v' _=>v'=v):za0 E mp lim g as H Q=Q v H:=
 CallR_pure (E:=E) (by simp [E,orc,h]) ht hp hf (zRp hr)
theorem po [OB] (h:g≠7∧g≠999) (ht:tr g=some af) (hp:pf g=true) (hf:olds H.length 4 v=true) (hr:Ret E af H.length [.code af.body] (zFr as) (H++[]) fun v' _=>v'=v):za0 E mp lim g as H Q=Q v H:=
 CallR_old (E:=E) (by simp [E,orc,h]) ht hp hf (zRp hr)
theorem zbq [OB] (h:g≠7∧g≠999) (ht:tr g=some af) (hp:pf g=false) (hr:Ret E af lim [.code af.body] (zFr as) (H++[]) Q):za0 E false lim g as H Q:=by
 rw [zc2 (E:=E) (by simp [E,orc,h]) ht hp rfl];exact zRp hr
theorem za0.one [OB] (h:za0 E mp lim g as H Q):∃n v H',zak E n mp lim (.inl g) as H=some [(v,H')]∧Q v H':=by
 obtain ⟨n,L,h1,h2,h3⟩:=h
 obtain ⟨⟨v,H'⟩,rfl⟩:=h2 rfl
 exact ⟨n,v,H',h1,h3 _ (List.mem_singleton.mpr rfl)⟩
theorem awake33_on [OB] (h:OB.on 7=true) (mp:Bool) (lim:Nat) (H:zH) (Q:Value→zH→Prop):za0 E mp lim 7 [] H Q=Q (.bool true) H:=
 CallR_orc (E:=E) (by simp [E,orc,h]) rfl rfl
end
def encL (l:Leg):List Value:=[.int .i64 l.id,.int .i64 l.frm,.int .i64 l.dst,.int .i64 l.dep,.int .i64 l.mins,.int .i64 l.cut,.int .i64 l.grams,.int .u8 l.days]
theorem zLl (l:Leg):(encL l).length=8:=id rfl
theorem zL0 {l:Leg}:(encL l)[0]? = some (.int .i64 l.id):=id rfl
theorem zL1 {l:Leg}:(encL l)[1]? = some (.int .i64 l.frm):=id rfl
theorem zL2 {l:Leg}:(encL l)[2]? = some (.int .i64 l.dst):=id rfl
theorem zL3 {l:Leg}:(encL l)[3]? = some (.int .i64 l.dep):=id rfl
theorem zL4 {l:Leg}:(encL l)[4]? = some (.int .i64 l.mins):=id rfl
theorem zL5 {l:Leg}:(encL l)[5]? = some (.int .i64 l.cut):=id rfl
theorem zL6 {l:Leg}:(encL l)[6]? = some (.int .i64 l.grams):=id rfl
theorem zL7 {l:Leg}:(encL l)[7]? = some (.int .u8 l.days):=id rfl
theorem zc0 {α:Type} {X Y:List α} {k:Nat} {d:α}:(X++Y).getD (X.length+k) d=Y.getD k d:=by
 rw [List.getD_eq_getElem?_getD,List.getD_eq_getElem?_getD,List.getElem?_append_right (by omega),Nat.add_sub_cancel_left]
theorem zbz {α:Type} {X Y:List α} {d:α}:(X++Y).getD X.length d=Y.getD 0 d:=zc0 (k:=0)
theorem zdv {α:Type} {X Y:List α} {k:Nat} {b:α}:(X++Y).set (X.length+k) b=X++Y.set k b:=by
 rw [List.set_append_right _ _ (by omega),Nat.add_sub_cancel_left]
theorem zcs {α:Type} {X Y:List α} {b:α}:(X++Y).set X.length b=X++Y.set 0 b:=zdv (k:=0)
def encI (n:Int):List Value:=[.int .i64 n]
theorem zIl (n:Int):(encI n).length=1:=id rfl
theorem zbj {H:zH} {i:Nat} {es:List (Value×Value)} (h:zG H i=.map es):i<H.length:=by
 rcases Nat.lt_or_ge i H.length with h1 | h1
 ·exact h1
 ·unfold zG at h
  rw [List.getD_eq_getElem?_getD,List.getElem?_eq_none h1] at h
  cases h
def By (l:Leg):Prop:=0≤l.days∧l.days≤255
theorem _root_.Go.Net.Fine.by {l:Leg} (h:Fine l):By l:=by unfold Fine at h;unfold By;omega
def enc3 (x:Int×Int×Int):List Value:=[.int .i64 x.1,.int .i64 x.2.1,.int .i64 x.2.2]
theorem zds (x:Int×Int×Int):(enc3 x).length=3:=id rfl
def lims (l:Leg):List (Int×Int×Int):=[(l.id,1,999999),(l.frm,1,999999),(l.dst,1,999999),(l.dep,0,1439),(l.mins,1,20160),(l.cut,0,10080),(l.grams,0,1000000000),(l.days,1,127)]
def inB (x:Int×Int×Int):Prop:=x.2.1≤x.1∧x.1≤x.2.2
theorem fine_iff {l:Leg}:Fine l↔(∀j,j<8→inB (gt (lims l) j))∧l.frm≠l.dst:=by
 constructor
 ·intro h
  unfold Fine at h
  refine ⟨fun j hj=>?_,by omega⟩
  match j,hj with
  | 0,_=>show 1≤l.id∧l.id≤999999;omega
  | 1,_=>show 1≤l.frm∧l.frm≤999999;omega
  | 2,_=>show 1≤l.dst∧l.dst≤999999;omega
  | 3,_=>show 0≤l.dep∧l.dep≤1439;omega
  | 4,_=>show 1≤l.mins∧l.mins≤20160;omega
  | 5,_=>show 0≤l.cut∧l.cut≤10080;omega
  | 6,_=>show 0≤l.grams∧l.grams≤1000000000;omega
  | 7,_=>show 1≤l.days∧l.days≤127;omega
 ·rintro ⟨h,hn⟩
  have h0:1≤l.id∧l.id≤999999:=h 0 (by decide)
  have h1:1≤l.frm∧l.frm≤999999:=h 1 (by decide)
  have h2:1≤l.dst∧l.dst≤999999:=h 2 (by decide)
  have h3:0≤l.dep∧l.dep≤1439:=h 3 (by decide)
  have h4:1≤l.mins∧l.mins≤20160:=h 4 (by decide)
  have h5:0≤l.cut∧l.cut≤10080:=h 5 (by decide)
  have h6:0≤l.grams∧l.grams≤1000000000:=h 6 (by decide)
  have h7:1≤l.days∧l.days≤127:=h 7 (by decide)
  unfold Fine;omega
theorem right_ok [OB] {mp:Bool} {lim:Nat} {l:Leg} {H:zH} {Q:Value→zH→Prop} (hd:By l):za0 E mp lim 35 [.agg (encL l).toArray] H Q=Q (.bool (decide (Fine l))) H:=by
 refine pc (by decide) e35 rfl rfl ?_
 rw [b35,c35]
 have wd:IntKind.i64.wrap l.days=l.days:=zWi (by unfold By at hd;omega) (by unfold By at hd;omega)
 simp only [n35,r35,encL,wd,SB,seval,zCa,aOp,zB,aUn,reduceCtorEq,zFr,place,zTu,zRe]
 refine zRr (fun i=>8-i) (fun i fr G=>i≤8∧fr 1=.pointer (some ⟨H.length,0,none⟩)∧fr 32=.agg ((lims l).flatMap enc3).toArray∧fr 33=.int .i64 (i:Int)∧zG G H.length=.cells false (encL l)∧∀j,j<i→inB (gt (lims l) j)) 0
  ⟨Nat.zero_le _,(by rfl),by rfl,by rfl,by rw [zHn];rfl,fun j hj=>by omega⟩ ?_
 intro i fr G ⟨hi,g1,g32,g33,gH,hall⟩ hN
 have hl:=zHa gH
 rw [zRc l35_1.eq_1]
 refine zRp ?_
 have gX:=fun X=>(Ext.refl.app (X:=X)).cells gH
 by_cases hlt:i<8
 ·have hw1:IntKind.i64.wrap ((i:Int)+1)=((i+1:Nat):Int):=zWn (by omega)
  have hd:=flat_drop zds (lims l) i hlt
  have h8:(i:Int)<8:=by omega
  have h0:(0:Int)≤(i:Int):=by omega
  have hL:H.length≤G.length:=by omega
  simp only [n35,r35,g1,g32,g33,h8,h0,hd,hw1,enc3,hL,SB,seval,zCa,aOp,zB,aUn,reduceCtorEq,zFr,place,zTu,zRe]
  repeat' ((first | refine wantK_dec (fun hw=>?_) (fun hw=>?_) | refine condK_dec (fun hw=>?_) (fun hw=>?_) | refine wantK_any (fun hw=>?_) (fun hw=>?_) | refine condK_any (fun hw=>?_) (fun hw=>?_))<;>(try simp only [hw,n35,r35,g1,g32,g33,h8,h0,hd,hw1,enc3,hL,SB,Nat.reduceLT,zCa,aOp,Nat.reduceEqDiff,zB,aUn,reduceCtorEq,zFr,place,zTu,Nat.reduceAdd,Nat.reduceLeDiff,zRe,Int.reduceEq,Int.reduceLT,Int.reduceLE]))
  ·rw [decide_eq_false]
   rw [fine_iff]
   intro h
   have:=(h.1 i hlt).1
   omega
  ·rw [decide_eq_false]
   rw [fine_iff]
   intro h
   have:=(h.1 i hlt).2
   omega
  ·refine hN (i+1) _ _ ⟨by omega,by exact g1,by exact g32,(by rfl),(Ext.refl.app).cells gH,fun j hj=>?_⟩ (by omega)
   rcases Nat.lt_or_ge j i with h | h
   ·exact hall j h
   ·obtain rfl:j=i:=by omega
    unfold inB;omega
 ·obtain rfl:i=8:=by omega
  simp only [n35,r35,g1,g32,g33,gX,encL,SB,seval,zCa,aOp,zB,aUn,reduceCtorEq,zFr,place,zTu,zRe]
  congr 1
  rw [Bool.eq_iff_iff]
  simp only [decide_eq_true_eq,fine_iff,Bool.not_eq_true',decide_eq_false_iff_not]
  exact ⟨fun h=>⟨hall,h⟩,fun h=>h.2⟩
def depV:Option (Int×Int)→Value
 | some (a,b)=>.tuple #[.agg #[.int .i64 a,.int .i64 b],.bool true]
 | none=>.tuple #[.agg #[.int .i64 0,.int .i64 0],.bool false]
theorem depV_flat {x:Option (Int×Int)}:flat 4 (depV x)=true:=by cases x<;>rfl
def depOn (l:Leg) (d:Nat):Option (Int×Int):=if goes l d then some (1440*(d:Int)+l.dep,1440*(d:Int)+l.dep+l.mins) else none
theorem bit_ok {a:Int} {k:Nat} (h0:0≤a) (h1:a≤255) (hk:k<7) :
  IntKind.u8.wrap ((BitVec.ofInt 8 (a.fdiv (2 ^ (min k 8))) &&& BitVec.ofInt 8 1).toNat:Int)=((a.toNat / 2 ^ k % 2:Nat):Int):=by
 obtain ⟨n,rfl⟩:∃n:Nat,a=(n:Int):=⟨a.toNat,by omega⟩
 rw [Nat.min_eq_left (by omega),Int.toNat_natCast]
 have e:((n:Int).fdiv (2 ^ k))=((n / 2 ^ k:Nat):Int):=by
  rw [show ((2:Int) ^ k)=((2 ^ k:Nat):Int) by simp,Int.fdiv_eq_ediv_of_nonneg _ (Int.natCast_nonneg _)]
  rfl
 rw [e,BitVec.ofInt_natCast,BitVec.toNat_and]
 have hl:n / 2 ^ k<256:=Nat.lt_of_le_of_lt (Nat.div_le_self _ _) (by omega)
 have e1:(BitVec.ofInt 8 1).toNat=1:=rfl
 rw [e1,BitVec.toNat_ofNat,Nat.mod_eq_of_lt hl,Nat.and_one_is_mod]
 simp only [IntKind.wrap,IntKind.bits,IntKind.signed]
 simp;omega
theorem departure_ok [OB] {mp:Bool} {lim:Nat} {l:Leg} {d:Nat} {H:zH} {Q:Value→zH→Prop} (hl:Fine l) (hd:d<dayN):za0 E mp lim 99 [.agg (encL l).toArray,.int .i64 (d:Int)] H Q=Q (depV (depOn l d)) H:=by
 refine pc (by decide) e99 rfl depV_flat ?_
 rw [b99,c99]
 rw [dayN_eq] at hd
 have hb:=hl.by
 unfold By at hb
 have h7:Int.tmod (d:Int) 7=((d % 7:Nat):Int):=rfl
 have h7':¬(((d % 7:Nat):Int)<0):=by omega
 have hbit:=bit_ok (a:=l.days) (k:=d % 7) hb.1 hb.2 (by omega)
 have hF:=hl
 unfold Fine at hF
 have w1:IntKind.i64.wrap (1440*(d:Int))=1440*(d:Int):=zWi (by omega) (by omega)
 have w2:IntKind.i64.wrap (1440*(d:Int)+l.dep)=1440*(d:Int)+l.dep:=zWi (by omega) (by omega)
 have w3:IntKind.i64.wrap (1440*(d:Int)+l.dep-l.cut)=1440*(d:Int)+l.dep-l.cut:=zWi (by omega) (by omega)
 have w4:IntKind.i64.wrap (1440*(d:Int)+l.dep+l.mins)=1440*(d:Int)+l.dep+l.mins:=zWi (by omega) (by omega)
 have hr:runs l.days d=(l.days.toNat / 2 ^ (d % 7) % 2 == 1):=rfl
 have hb2:l.days.toNat / 2 ^ (d % 7) % 2<2:=Nat.mod_lt _ (by decide)
 generalize l.days.toNat / 2 ^ (d % 7) % 2=b at hbit hr hb2
 change IntKind.u8.wrap ((BitVec.ofInt (IntKind.bits .u8) (l.days.fdiv (2 ^ (min (d % 7) (IntKind.bits .u8)))) &&& BitVec.ofInt (IntKind.bits .u8) 1).toNat:Int)=((b:Nat):Int) at hbit
 have hg:goes l d=((b == 1)&&decide (0≤1440*(d:Int)+l.dep-l.cut)&&decide (1440*(d:Int)+l.dep+l.mins≤1051898399)):=by unfold goes za1;rw [hr]
 simp only [n99,r99,zLl,zL0,zL1,zL2,zL3,zL4,zL5,zL6,zL7,zTa,h7,h7',hbit,w1,w2,w3,w4,SB,seval,zCa,aOp,zB,aUn,reduceCtorEq,zFr,place,zTu,zRe]
 repeat' ((first | refine wantK_dec (fun hw=>?_) (fun hw=>?_) | refine condK_dec (fun hw=>?_) (fun hw=>?_) | refine wantK_any (fun hw=>?_) (fun hw=>?_) | refine condK_any (fun hw=>?_) (fun hw=>?_))<;>(try simp only [hw,n99,r99,zLl,zL0,zL1,zL2,zL3,zL4,zL5,zL6,zL7,zTa,h7,h7',hbit,w1,w2,w3,w4,SB,Nat.reduceLT,zCa,aOp,Nat.reduceEqDiff,zB,aUn,reduceCtorEq,zFr,place,zTu,Nat.reduceAdd,Nat.reduceLeDiff,zRe,Int.reduceEq,Int.reduceLT,Int.reduceLE]))
 ·obtain rfl:b=0:=by omega
  rw [depOn,hg];rfl
 ·obtain rfl:b=1:=by omega
  rw [depOn,hg,decide_eq_false (by omega)];rfl
 ·obtain rfl:b=1:=by omega
  rw [depOn,hg,decide_eq_false (p:=_≤(1051898399:Int)) (by omega),Bool.and_false];rfl
 ·obtain rfl:b=1:=by omega
  rw [depOn,hg,decide_eq_true (p:=_≤(1051898399:Int)) (by omega),decide_eq_true (by omega)];rfl
theorem max_v {a b:Int}:zb4 true (.int .i64 a) [.int .i64 b]=some (.int .i64 (max a b)):=by
 simp only [zb4,aMinMax,if_true]
 congr 2
 split<;>omega
theorem min_v {a b:Int}:zb4 false (.int .i64 a) [.int .i64 b]=some (.int .i64 (min a b)):=by
 simp only [zb4,aMinMax,if_true]
 simp only [Bool.false_eq_true,if_false]
 congr 2
 split<;>omega
theorem setParams_one {fr:Nat→Value} {p:Nat} {v:Value}:zb2 fr [p] [v]=upd fr p v:=rfl
def Pre (l:Leg) (r e s a b:Int) (ok:Bool) (x:LoopB):List Blk:=[.cells false (encL l),.cells false [.int .i64 r],.cells false [.int .i64 a,.int .i64 b],.cells false [.bool ok],.cells false (encL l),.cells false [.int .i64 e],.cells false [.int .i64 s],.dfr,.loop x]
theorem deps_rule [OB] {H X:zH} {l:Leg} {r s e:Int} {lp:LoopB} {Q:Value→zH→Prop} (J:Int→Prop) (F:zH→Prop) (hl:Fine l) (hs:s=1∨s=-1)
  (hround:∀e X,0≤e→e≤730484→goes l e.toNat=true→J e→CallY E false H.length (H.length+8) [.agg #[.int .i64 (1440*e+l.dep),.int .i64 (1440*e+l.dep+l.mins)]] (H++(Pre l r e s 0 0 false lp++X)) fun v H'=>(v=.bool true∧J (e+s)∧∃X',H'=H++(Pre l r e s 0 0 false lp++X'))∨(v=.bool false∧F H'))
  (hskip:∀e,0≤e→e≤730484→goes l e.toNat=false→J e→J (e+s))
  (hend:∀e X,J e→¬(0≤e∧e≤730484)→Q (.tuple #[]) (H++(Pre l r e s 0 0 false lp++X)))
  (hF:∀H',F H'→Q (.tuple #[]) H') (h0:J e) (he:-2≤e∧e≤2 ^ 40) :
  za0 E false H.length 112 [.func (.yield (H.length+8)) #[] #[],.pointer (some ⟨H.length+5,0,none⟩),.pointer (some ⟨H.length+6,0,none⟩),.pointer (some ⟨H.length+4,0,none⟩)] (H++(Pre l r e s 0 0 false lp++X)) Q:=by
 rw [zc2 (E:=E) (by simp [E,orc]) (show E.tr 112=some a112 from e112) rfl rfl,b112,c112]
 simp only [n112,r112,SB,seval,zCa,aOp,zB,aUn,reduceCtorEq,zFr,place,zTu,zRe]
 refine zRr (fun e:Int=>if s=1 then (730485-e).toNat else (e+1).toNat) (fun e fr G=>J e∧-2≤e∧e≤2 ^ 40∧fr 0=.func (.yield (H.length+8)) #[] #[]∧fr 1=.pointer (some ⟨H.length+5,0,none⟩)∧fr 2=.pointer (some ⟨H.length+6,0,none⟩)∧fr 3=.pointer (some ⟨H.length+4,0,none⟩)∧∃X,G=H++(Pre l r e s 0 0 false lp++X)) e
  ⟨h0,he.1,he.2,(by rfl),(by rfl),(by rfl),(by rfl),X,rfl⟩ ?_
 rintro e fr G ⟨hJ,b1,b2,g0,g1,g2,g3,X,rfl⟩ hN
 rw [zRc l112_1.eq_1]
 have ws:IntKind.i64.wrap (e+s)=e+s:=zWi (by omega) (by omega)
 by_cases h1:0≤e
 ·by_cases h2:e≤730484
  ·obtain ⟨d,rfl⟩:∃d:Nat,e=(d:Int):=⟨e.toNat,by omega⟩
   have hdep:=fun (H:zH) (mp:Bool) (lim:Nat) (Q:Value→zH→Prop)=>departure_ok (mp:=mp) (lim:=lim) (H:=H) (Q:=Q) (l:=l) (d:=d) hl (by rw [dayN_eq];omega)
   have hmeas:∀e':Int,e'=(d:Int)+s→(if s=1 then (730485-e').toNat else (e'+1).toNat)<(if s=1 then (730485-(d:Int)).toNat else ((d:Int)+1).toNat):=by
    intro e' h;subst h
    rcases hs with rfl | rfl
    ·simp;omega
    ·simp;omega
   cases hg:goes l d with
   | false=>
     have hno:depOn l d=none:=by unfold depOn;rw [hg];rfl
     rw [hno] at hdep
     simp only [depV] at hdep
     simp only [n112,r112,g0,g1,g2,g3,h1,h2,Pre,hdep,zLl,zL0,zL1,zL2,zL3,zL4,zL5,zL6,zL7,zTa,zc0,zbz,zdv,zcs,ws,SB,seval,zCa,aOp,zB,aUn,reduceCtorEq,zFr,place,zTu,zRe]
     exact hN ((d:Int)+s) _ _ ⟨hskip _ h1 h2 (by simpa using hg) hJ,by omega,by omega,by exact g0,by exact g1,by exact g2,by exact g3,_,rfl⟩ (hmeas _ rfl)
   | true=>
     have hso:depOn l d=some (1440*(d:Int)+l.dep,1440*(d:Int)+l.dep+l.mins):=by unfold depOn;rw [hg];rfl
     rw [hso] at hdep
     simp only [depV] at hdep
     simp only [n112,r112,g0,g1,g2,g3,h1,h2,Pre,hdep,zLl,zL0,zL1,zL2,zL3,zL4,zL5,zL6,zL7,zTa,zc0,zbz,zdv,zcs,ws,SB,seval,zCa,aOp,zB,aUn,reduceCtorEq,zFr,place,zTu,zRe]
     refine (hround _ _ h1 h2 (by simpa using hg) hJ).mono fun v H' hv=>?_
     rcases hv with ⟨rfl,hJ',X',rfl⟩ | ⟨rfl,hf⟩
     ·simp only [n112,r112,g0,g1,g2,g3,h1,h2,Pre,zLl,zL0,zL1,zL2,zL3,zL4,zL5,zL6,zL7,zTa,zc0,zbz,zdv,zcs,ws,SB,seval,zCa,aOp,zB,aUn,reduceCtorEq,zFr,place,zTu,zRe]
      exact hN ((d:Int)+s) _ _ ⟨hJ',by omega,by omega,by exact g0,by exact g1,by exact g2,by exact g3,_,rfl⟩ (hmeas _ rfl)
     ·refine zRp ?_
      simp only [n112,r112,g0,g1,g2,g3,h1,h2,Pre,zLl,zL0,zL1,zL2,zL3,zL4,zL5,zL6,zL7,zTa,zc0,zbz,zdv,zcs,ws,SB,seval,zCa,aOp,zB,aUn,reduceCtorEq,zFr,place,zTu,zRe]
      rw [List.append_nil]
      exact hF _ hf
  ·simp only [n112,r112,g0,g1,g2,g3,h1,h2,Pre,zLl,zL0,zL1,zL2,zL3,zL4,zL5,zL6,zL7,zTa,zc0,zbz,zdv,zcs,ws,SB,seval,zCa,aOp,zB,aUn,reduceCtorEq,zFr,place,zTu,zRe]
   exact hend e X hJ (by omega)
 ·simp only [n112,r112,g0,g1,g2,g3,h1,Pre,zLl,zL0,zL1,zL2,zL3,zL4,zL5,zL6,zL7,zTa,zc0,zbz,zdv,zcs,ws,SB,seval,zCa,aOp,zB,aUn,reduceCtorEq,zFr,place,zTu,zRe]
  exact hend e X hJ (by omega)
theorem departures_ok [OB] {lim:Nat} {l:Leg} {e s:Int} {H:zH} {Q:Value→zH→Prop}:za0 E false lim 98 [.agg (encL l).toArray,.int .i64 e,.int .i64 s] H Q=Q (.func (.func 112) #[] #[.pointer (some ⟨H.length+1,0,none⟩),.pointer (some ⟨H.length+2,0,none⟩),.pointer (some ⟨H.length,0,none⟩)]) (H++[.cells false (encL l),.cells false [.int .i64 e],.cells false [.int .i64 s]]):=by
 rw [zc2 (E:=E) (by simp [E,orc]) (show E.tr 98=some a98 from e98) rfl rfl,b98,c98]
 rw [←List.append_nil H]
 simp only [n98,r98,zLl,zL0,zL1,zL2,zL3,zL4,zL5,zL6,zL7,zTa,SB,seval,zCa,aOp,zB,aUn,reduceCtorEq,zFr,place,zTu,zRe]
theorem nextD_max {l:Leg} {r:Int}:zct l r=zct l (max r 0):=by
 unfold zct nextDay
 congr 2
 funext d
 cases hg:goes l d with
 | false=>rfl
 | true=>
   simp only [Bool.true_and]
   unfold goes at hg
   simp only [Bool.and_eq_true,decide_eq_true_eq] at hg
   rw [decide_eq_decide]
   omega
theorem nextD_late {l:Leg} {r:Int} (hl:Fine l) (h:za1<r):zct l r=none:=by
 cases hx:zct l r with
 | none=>rfl
 | some a=>
   obtain ⟨⟨d,_,hg,rfl⟩,h2,_⟩:=zca hx
   unfold goes at hg
   simp only [Bool.and_eq_true,decide_eq_true_eq] at hg
   unfold Fine at hl
   omega
theorem nextD_is {l:Leg} {r:Int} {d:Nat} (hd:d<dayN) (hg:goes l d=true) (hr:r≤1440*(d:Int)+l.dep-l.cut) (hno:∀d':Nat,d'<d→¬(goes l d'=true∧r≤1440*(d':Int)+l.dep-l.cut)):zct l r=some (1440*(d:Int)+l.dep):=by
 unfold zct nextDay
 have:(List.range dayN).find? (fun (d:Nat)=>goes l d&&decide (r≤1440*(d:Int)+l.dep-l.cut))=some d:=by
  rw [find_range]
  refine ⟨by simp [hg,hr],hd,fun j hj=>?_⟩
  have:=hno j hj
  simp only [Bool.and_eq_false_iff,decide_eq_false_iff_not]
  cases hgj:goes l j with
  | false=>exact .inl rfl
  | true=>exact .inr fun h=>this ⟨hgj,h⟩
 rw [this];rfl
theorem nextD_no {l:Leg} {r:Int} (hno:∀d':Nat,d'<dayN→¬(goes l d'=true∧r≤1440*(d':Int)+l.dep-l.cut)):zct l r=none:=by
 unfold zct nextDay
 rw [Option.map_eq_none_iff,find_range_none]
 intro j hj
 have:=hno j hj
 simp only [Bool.and_eq_false_iff,decide_eq_false_iff_not]
 cases hgj:goes l j with
 | false=>exact .inl rfl
 | true=>exact .inr fun h=>this ⟨hgj,h⟩
theorem next_key [OB] {H:zH} {l:Leg} {r e:Int} {fr0:Nat→Value} {K':List zAi} (hl:Fine l) (hr0:0≤r) (hrm:r≤za1) (he:e=(r+l.cut) / 1440) (f2:fr0 2=.pointer (some ⟨H.length,0,none⟩)) (f3:fr0 3=.pointer (some ⟨H.length+1,0,none⟩)) (f4:fr0 4=.pointer (some ⟨H.length+2,0,none⟩)) (f5:fr0 5=.pointer (some ⟨H.length+3,0,none⟩))
  (hm:marks (K'++[.mark (H.length+7)])=[H.length+7])
  (hnone:∀(e:Int) (X:zH),Ret E a71 H.length (K'++[.mark (H.length+7)]) fr0 (H++[.cells false (encL l),.cells false [.int .i64 r],.cells false [.int .i64 0,.int .i64 0],.cells false [.bool false],.cells false (encL l),.cells false [.int .i64 e],.cells false [.int .i64 1],.dfr,.dead]++X) fun v' _=>v'=depV none) :
  za0 E false H.length 112 [.func (.yield (H.length+8)) #[] #[],.pointer (some ⟨H.length+5,0,none⟩),.pointer (some ⟨H.length+6,0,none⟩),.pointer (some ⟨H.length+4,0,none⟩)] (H++(Pre l r e 1 0 0 false ⟨0,none,fr0,36,[26],ga71_1,gb71_1⟩++[])) fun _ H2=>
   endK (zG H2 (H.length+7+1)) fun x=>Ret E a71 H.length (pendI x++(K'++[.mark (H.length+7)])) fr0 (H2.set (H.length+7+1) .dead) fun v' _=>v'=depV ((zct l r).map fun a=>(a,a+l.mins)):=by
 have hF:=hl
 unfold Fine at hF
 unfold za1 at hrm
 refine deps_rule (fun e=>0≤e∧∀d:Nat,(d:Int)<e→¬(goes l d=true∧r≤1440*(d:Int)+l.dep-l.cut))
  (fun G=>∃(X:zH) (e a:Int),zct l r=some a∧G=H++(Pre l r e 1 a (a+l.mins) true ⟨2,some .retM,fr0,36,[26],ga71_1,gb71_1⟩++X)) hl (.inl rfl) ?_ ?_ ?_ ?_ ⟨by omega,fun d hd h=>by omega⟩ ⟨by omega,by omega⟩
 ·rintro e X h1 h2 hg ⟨_,hJ⟩
  obtain ⟨d,rfl⟩:∃d:Nat,e=(d:Int):=⟨e.toNat,by omega⟩
  rw [Int.toNat_natCast] at hg
  rw [CallY_run (x:=⟨0,none,fr0,36,[26],ga71_1,gb71_1⟩) (by rw [zHw];rfl) (by omega) rfl (by rfl),setParams_one]
  rw [zRc ga71_1.eq_1]
  have hle:H.length≤H.length+8:=by omega
  simp only [Pre,f2,f3,f4,f5,zc0,zbz,zdv,zcs,hle,SB,seval,zCa,aOp,zB,aUn,reduceCtorEq,zFr,place,zTu,zRe]
  rw [zRc gb71_1.eq_1]
  have w1:IntKind.i64.wrap (1440*(d:Int)+l.dep-l.cut)=1440*(d:Int)+l.dep-l.cut:=zWi (by omega) (by omega)
  by_cases h:r≤1440*(d:Int)+l.dep-l.cut
  ·simp only [Pre,f2,f3,f4,f5,zLl,zL0,zL1,zL2,zL3,zL4,zL5,zL6,zL7,zTa,zc0,zbz,zdv,zcs,hle,w1,h,SB,seval,zCa,aOp,zB,aUn,reduceCtorEq,zFr,place,zTu,zRe]
   exact .inr ⟨_,(d:Int),_,nextD_is (by rw [dayN_eq];omega) hg h (fun d' hd'=>hJ d' (by omega)),rfl⟩
  ·simp only [Pre,f2,f3,f4,f5,zLl,zL0,zL1,zL2,zL3,zL4,zL5,zL6,zL7,zTa,zc0,zbz,zdv,zcs,hle,w1,h,SB,seval,zCa,aOp,zB,aUn,reduceCtorEq,zFr,place,zTu,zRe]
   refine .inl ⟨⟨by omega,fun d' hd' hh=>?_⟩,_,rfl⟩
   rcases Int.lt_or_le (d':Int) (d:Int) with h3 | h3
   ·exact hJ d' h3 hh
   ·obtain rfl:d'=d:=by omega
    exact h hh.2
 ·rintro e h1 h2 hg ⟨_,hJ⟩
  refine ⟨by omega,fun d' hd' hh=>?_⟩
  rcases Int.lt_or_le (d':Int) e with h3 | h3
  ·exact hJ d' h3 hh
  ·obtain rfl:d'=e.toNat:=by omega
   rw [hg] at hh;simp at hh
 ·rintro e X ⟨_,hJ⟩ hne
  have hn:zct l r=none:=nextD_no fun d' hd'=>by rw [dayN_eq] at hd';exact hJ d' (by omega)
  rw [hn]
  simp only [Pre,SB,seval,zCa,aOp,zB,aUn,reduceCtorEq,zFr,place,zTu,zRe]
  have:=hnone e X
  simp only [List.append_assoc,List.cons_append,List.nil_append] at this
  exact this
 ·rintro G ⟨X,e,a,hn,rfl⟩
  rw [hn]
  show endK _ _
  have hle:H.length≤H.length+7:=by omega
  simp only [Pre,hm,f4,f5,r71,hle,Option.map_some,SB,seval,zCa,aOp,zB,aUn,reduceCtorEq,zFr,place,zTu,zRe]
  show Ret E a71 H.length (.code .retM::(K'++[.mark (H.length+7)])) fr0 _ _
  simp only [hm,f4,f5,r71,hle,depV,SB,seval,zCa,aOp,zB,aUn,reduceCtorEq,zFr,place,zTu,zRe]
theorem next_ok [OB] {mp:Bool} {lim:Nat} {l:Leg} {r:Int} {H:zH} {Q:Value→zH→Prop} (hl:Fine l) (hr:-2 ^ 63≤r) (hr2:r<2 ^ 63):za0 E mp lim 71 [.agg (encL l).toArray,.int .i64 r] H Q=Q (depV ((zct l r).map fun a=>(a,a+l.mins))) H:=by
 refine pc (by decide) e71 rfl depV_flat ?_
 rw [b71,c71]
 have hF:=hl
 unfold Fine at hF
 have hrt:=fun (H:zH) (mp:Bool) (lim:Nat) (Q:Value→zH→Prop)=>right_ok (mp:=mp) (lim:=lim) (H:=H) (Q:=Q) hl.by
 rw [decide_eq_true hl] at hrt
 by_cases hm:za1<r
 ·rw [nextD_late hl hm]
  unfold za1 at hm
  simp only [n71,r71,hrt,zLl,zL0,zL1,zL2,zL3,zL4,zL5,zL6,zL7,zTa,hm,Option.map_none,depV,SB,seval,zCa,aOp,zB,aUn,reduceCtorEq,zFr,place,zTu,zRe]
 ·rw [nextD_max]
  unfold za1 at hm
  have w1:IntKind.i64.wrap (max r 0+l.cut)=max r 0+l.cut:=zWi (by omega) (by omega)
  have w2:IntKind.i64.wrap (Int.tdiv (max r 0+l.cut) 1440)=(max r 0+l.cut) / 1440:=by
   rw [Int.tdiv_eq_ediv_of_nonneg (by omega)]
   exact zWi (by omega) (by omega)
  have hlen:∀a b c d e f g:Blk,(H++[a,b,c,d,e,f,g]).length=H.length+7:=by intros;simp
  simp only [n71,r71,hrt,zLl,zL0,zL1,zL2,zL3,zL4,zL5,zL6,zL7,zTa,hm,max_v,w1,w2,departures_ok,SB,seval,zCa,aOp,zB,aUn,reduceCtorEq,zFr,place,zTu,zRe]
  rw [hlen]
  refine next_key hl (by omega) (by unfold za1;omega) rfl (by rfl) (by rfl) (by rfl) (by rfl) rfl fun e X=>?_
  have hle:H.length≤H.length+7:=by omega
  show Ret E a71 H.length (.inBlock 0::.code _::.code .retM::.mark (H.length+7)::[]) _ _ _
  simp only [n71,r71,hle,depV,SB,seval,zCa,aOp,zB,aUn,reduceCtorEq,zFr,place,zTu,zRe]
theorem on_ok [OB] {mp:Bool} {lim:Nat} {l:Leg} {d:Int} {H:zH} {Q:Value→zH→Prop} (hl:Fine l):za0 E mp lim 75 [.agg (encL l).toArray,.int .i64 d] H Q=Q (depV (if 0≤d∧d<730485 then depOn l d.toNat else none)) H:=by
 refine pc (by decide) e75 rfl depV_flat ?_
 rw [b75,c75]
 have hrt:=fun (H:zH) (mp:Bool) (lim:Nat) (Q:Value→zH→Prop)=>right_ok (mp:=mp) (lim:=lim) (H:=H) (Q:=Q) hl.by
 rw [decide_eq_true hl] at hrt
 by_cases h1:d<0
 ·rw [if_neg (by omega)]
  simp only [n75,r75,hrt,zLl,zL0,zL1,zL2,zL3,zL4,zL5,zL6,zL7,zTa,h1,depV,SB,seval,zCa,aOp,zB,aUn,reduceCtorEq,zFr,place,zTu,zRe]
 ·by_cases h2:730484<d
  ·rw [if_neg (by omega)]
   simp only [n75,r75,hrt,zLl,zL0,zL1,zL2,zL3,zL4,zL5,zL6,zL7,zTa,h1,h2,depV,SB,seval,zCa,aOp,zB,aUn,reduceCtorEq,zFr,place,zTu,zRe]
  ·rw [if_pos (by omega)]
   obtain ⟨n,rfl⟩:∃n:Nat,d=(n:Int):=⟨d.toNat,by omega⟩
   have hdep:=fun (H:zH) (mp:Bool) (lim:Nat) (Q:Value→zH→Prop)=>departure_ok (mp:=mp) (lim:=lim) (H:=H) (Q:=Q) (l:=l) (d:=n) hl (by rw [dayN_eq];omega)
   rw [Int.toNat_natCast]
   cases hx:depOn l n with
   | none=>
     rw [hx] at hdep
     simp only [depV] at hdep
     simp only [n75,r75,hrt,zLl,zL0,zL1,zL2,zL3,zL4,zL5,zL6,zL7,zTa,h1,h2,hdep,depV,SB,seval,zCa,aOp,zB,aUn,reduceCtorEq,zFr,place,zTu,zRe]
   | some p=>
     rw [hx] at hdep
     simp only [depV] at hdep
     simp only [n75,r75,hrt,zLl,zL0,zL1,zL2,zL3,zL4,zL5,zL6,zL7,zTa,h1,h2,hdep,depV,SB,seval,zCa,aOp,zB,aUn,reduceCtorEq,zFr,place,zTu,zRe]
end Go.Proofs.YtohnaffmcjbpoaaGreat.Fn

