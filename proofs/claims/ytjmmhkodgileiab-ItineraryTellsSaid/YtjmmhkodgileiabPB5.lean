/-
  Joined texts, 5 of 9. A part of the claim that the last text states.
-/
import Derived.Test.YtjmmhkodgileiabPB4
namespace Go.Net
set_option maxRecDepth 100000
set_option linter.unusedVariables false
set_option linter.unusedSimpArgs false
structure Leg where
 (id frm dst dep mins cut grams days:Int)
 deriving DecidableEq,Inhabited
def maxTime:Int:=1051898399
def Fine (l:Leg):Prop:=1≤l.id∧l.id≤999999∧1≤l.frm∧l.frm≤999999∧1≤l.dst∧l.dst≤999999∧0≤l.dep∧l.dep≤1439∧1≤l.mins∧l.mins≤20160∧0≤l.cut∧l.cut≤10080∧0≤l.grams∧l.grams≤1000000000∧1≤l.days∧l.days≤127∧l.frm≠l.dst
instance (l:Leg):Decidable (Fine l):=by unfold Fine;infer_instance
def runs (days:Int) (d:Nat):Bool:=days.toNat / 2 ^ (d % 7) % 2 == 1
def goes (l:Leg) (d:Nat):Bool:=runs l.days d&&decide (0≤1440*(d:Int)+l.dep-l.cut)&&decide (1440*(d:Int)+l.dep+l.mins≤maxTime)
def dayN:Nat:=730485
theorem dayN_eq:dayN=730485:=rfl
attribute [irreducible] dayN
def Dep (l:Leg) (a:Int):Prop:=∃d:Nat,d<dayN∧goes l d=true∧a=1440*(d:Int)+l.dep
def nextDay (l:Leg) (r:Int):Option Nat:=(List.range dayN).find? fun (d:Nat)=>goes l d&&decide (r≤1440*(d:Int)+l.dep-l.cut)
def nextD (l:Leg) (r:Int):Option Int:=(nextDay l r).map fun (d:Nat)=>1440*(d:Int)+l.dep
def lastDay (l:Leg) (b:Int):Option Nat:=((List.range dayN).find? fun (d:Nat)=>goes l (dayN-1-d)&&decide (1440*((dayN-1-d:Nat):Int)+l.dep+l.mins≤b)).map fun (d:Nat)=>dayN-1-d
def lastD (l:Leg) (b:Int):Option Int:=(lastDay l b).map fun (d:Nat)=>1440*(d:Int)+l.dep
theorem find_range {n:Nat} {p:Nat→Bool} {i:Nat}:(List.range n).find? p=some i↔p i=true∧i<n∧∀j,j<i→p j=false:=by
 rw [List.find?_range_eq_some];simp
theorem find_range_none {n:Nat} {p:Nat→Bool}:(List.range n).find? p=none↔∀j,j<n→p j=false:=by
 rw [List.find?_range_eq_none];simp
theorem nextD_some {l:Leg} {r a:Int} (h:nextD l r=some a):Dep l a∧r≤a-l.cut∧∀b,Dep l b→r≤b-l.cut→a≤b:=by
 unfold nextD nextDay at h
 obtain ⟨d,hd,rfl⟩:=Option.map_eq_some_iff.1 h
 obtain ⟨h1,h2,h3⟩:=find_range.1 hd
 simp only [Bool.and_eq_true,decide_eq_true_eq] at h1
 refine ⟨⟨d,h2,h1.1,rfl⟩,h1.2,fun b ⟨e,he,hg,hb⟩ hr=>?_⟩
 subst hb
 by_cases hlt:e<d
 ·have:=h3 e hlt
  simp only [hg,Bool.true_and,decide_eq_false_iff_not] at this
  omega
 ·omega
theorem nextD_none {l:Leg} {r:Int} (h:nextD l r=none):∀b,Dep l b→b-l.cut<r:=by
 unfold nextD nextDay at h
 rw [Option.map_eq_none_iff,find_range_none] at h
 intro b ⟨e,he,hg,hb⟩
 have:=h e he
 simp only [hg,Bool.true_and,decide_eq_false_iff_not] at this
 omega
theorem lastD_some {l:Leg} {b a:Int} (h:lastD l b=some a):Dep l a∧a+l.mins≤b∧∀c,Dep l c→c+l.mins≤b→c≤a:=by
 unfold lastD lastDay at h
 obtain ⟨d,hd,rfl⟩:=Option.map_eq_some_iff.1 h
 obtain ⟨d',hd',rfl⟩:=Option.map_eq_some_iff.1 hd
 obtain ⟨h1,h2,h3⟩:=find_range.1 hd'
 simp only [Bool.and_eq_true,decide_eq_true_eq] at h1
 refine ⟨⟨dayN-1-d',by omega,h1.1,rfl⟩,h1.2,fun c ⟨e,he,hg,hc⟩ hr=>?_⟩
 subst hc
 by_cases hlt:dayN-1-d'<e
 ·have:=h3 (dayN-1-e) (by omega)
  rw [show dayN-1-(dayN-1-e)=e by omega] at this
  simp only [hg,Bool.true_and,decide_eq_false_iff_not] at this
  omega
 ·omega
inductive Way (L:List Leg):Nat→Int→Int→Int→Int→Prop where
 | nil (p t:Int):Way L 0 p t p t
 | snoc {k:Nat} {p t m s a:Int} {l:Leg}:Way L k p t m s→l∈L→l.frm=m→Dep l a→s≤a-l.cut→Way L (k+1) p t l.dst (a+l.mins)
theorem Way.later {L:List Leg} {k:Nat} {p t q u:Int} (h:Way L k p t q u) (hL:∀l∈L,Fine l):t≤u:=by
 induction h with
 | nil=>omega
 | snoc h hl hf hd hs ih=>have:=hL _ hl;unfold Fine at this;omega
theorem Way.early {L:List Leg} {k:Nat} {p t t' q u:Int} (h:Way L k p t q u) (ht:t'≤t):(k=0∧p=q∧u=t)∨Way L k p t' q u:=by
 induction h with
 | nil=>exact .inl ⟨rfl,rfl,rfl⟩
 | snoc h hl hf hd hs ih=>
   rcases ih ht with ⟨rfl,rfl,rfl⟩ | ih
   ·exact .inr (.snoc (.nil _ _) hl hf hd (by omega))
   ·exact .inr (.snoc ih hl hf hd hs)
theorem Way.mono {L M:List Leg} {k:Nat} {p t q u:Int} (h:Way L k p t q u) (hs:∀l∈L,l∈M):Way M k p t q u:=by
 induction h with
 | nil=>exact .nil _ _
 | snoc h hl hf hd hr ih=>exact .snoc ih (hs _ hl) hf hd hr
theorem Way.trans {L:List Leg} {k j:Nat} {p t m s q u:Int} (h:Way L k p t m s) (h2:Way L j m s q u):Way L (k+j) p t q u:=by
 induction h2 with
 | nil=>exact h
 | snoc h2 hl hf hd hr ih=>exact .snoc (ih h) hl hf hd hr
theorem Way.cons {L:List Leg} {k:Nat} {p t a q u:Int} {l:Leg} (hl:l∈L) (hf:l.frm=p) (hd:Dep l a) (hr:t≤a-l.cut) (h:Way L k l.dst (a+l.mins) q u):Way L (k+1) p t q u:=by
 have:=(Way.snoc (.nil p t) hl hf hd hr).trans h
 rwa [Nat.zero_add,Nat.add_comm] at this
theorem Way.head {L:List Leg} {k:Nat} {p t q u:Int} (h:Way L (k+1) p t q u):∃l∈L,∃a,l.frm=p∧Dep l a∧t≤a-l.cut∧Way L k l.dst (a+l.mins) q u:=by
 generalize hk:k+1=n at h
 induction h generalizing k with
 | nil=>omega
 | @snoc j p t m s a l h hl hf hd hr ih=>
   cases j with
   | zero=>
     cases h
     obtain rfl:k=0:=by omega
     exact ⟨l,hl,a,hf,hd,hr,.nil _ _⟩
   | succ i=>
     obtain ⟨l',hl',a',h1,h2,h3,h4⟩:=ih rfl
     obtain rfl:k=i+1:=by omega
     exact ⟨l',hl',a',h1,h2,h3,.snoc h4 hl hf hd hr⟩
def IsMin (S:Int→Prop) (v:Int):Prop:=(v=-1∧∀u,¬S u)∨(S v∧∀u,S u→v≤u)
theorem IsMin.uniq {S:Int→Prop} {v w:Int} (h:IsMin S v) (h':IsMin S w):v=w:=by
 rcases h with ⟨h1,h2⟩ | ⟨h1,h2⟩<;>rcases h' with ⟨g1,g2⟩ | ⟨g1,g2⟩
 ·omega
 ·exact absurd g1 (h2 _)
 ·exact absurd h1 (g2 _)
 ·have:=h2 _ g1;have:=g2 _ h1;omega
theorem IsMin.congr {S T:Int→Prop} {v:Int} (h:IsMin S v) (e:∀u,S u↔T u):IsMin T v:=by
 rcases h with ⟨h1,h2⟩ | ⟨h1,h2⟩
 ·exact .inl ⟨h1,fun u hu=>h2 u ((e u).2 hu)⟩
 ·exact .inr ⟨(e v).1 h1,fun u hu=>h2 u ((e u).2 hu)⟩
theorem IsMin.mem {S:Int→Prop} {v:Int} (h:IsMin S v) (hv:0≤v):S v:=by
 rcases h with ⟨h1,h2⟩ | ⟨h1,h2⟩
 ·omega
 ·exact h1
theorem IsMin.none {S:Int→Prop} {v:Int} (h:IsMin S v) (h0:∀u,S u→0≤u) (hv:v<0):∀u,¬S u:=by
 rcases h with ⟨h1,h2⟩ | ⟨h1,h2⟩
 ·exact h2
 ·have:=h0 _ h1;omega
theorem IsMin.le {S:Int→Prop} {v u:Int} (h:IsMin S v) (hu:S u):v≤u:=by
 rcases h with ⟨h1,h2⟩ | ⟨h1,h2⟩
 ·exact absurd hu (h2 _)
 ·exact h2 _ hu
theorem IsMin.one {S:Int→Prop} {v x:Int} (h:IsMin S v) (h0:∀u,S u→0≤u) (hx:0≤x):IsMin (fun u=>S u∨u=x) (if v<0∨x<v then x else v):=by
 by_cases hc:v<0∨x<v
 ·rw [if_pos hc]
  refine .inr ⟨.inr rfl,fun u hu=>?_⟩
  rcases hu with hu | hu
  ·rcases hc with hc | hc
   ·exact absurd hu (h.none h0 hc u)
   ·have:=h.le hu;omega
  ·omega
 ·rw [if_neg hc]
  have:=h.mem (by omega)
  refine .inr ⟨.inl this,fun u hu=>?_⟩
  rcases hu with hu | hu
  ·exact h.le hu
  ·omega
def useA (pos:Int→Nat) (lim:Int) (bef aft:List Int) (l:Leg):List Int:=
 if bef.getD (pos l.frm) (-1)<0 then aft else
 match nextD l (bef.getD (pos l.frm) (-1)) with
 | some a=>if a+l.mins≤lim∧(aft.getD (pos l.dst) (-1)<0∨a+l.mins<aft.getD (pos l.dst) (-1)) then aft.set (pos l.dst) (a+l.mins) else aft
 | none=>aft
def stepA (pos:Int→Nat) (lim:Int) (L:List Leg) (bef:List Int):List Int:=L.foldl (useA pos lim bef) bef
theorem useA_len {pos:Int→Nat} {lim:Int} {bef aft:List Int} {l:Leg}:(useA pos lim bef aft l).length=aft.length:=by
 unfold useA
 split
 ·rfl
 ·split
  ·split
   ·simp
   ·rfl
  ·rfl
theorem foldA_len {pos:Int→Nat} {lim:Int} {bef:List Int}:∀{L:List Leg} {aft:List Int},(L.foldl (useA pos lim bef) aft).length=aft.length
 | [],_=>rfl
 | l::L,aft=>by rw [List.foldl_cons,foldA_len,useA_len]
theorem stepA_len {pos:Int→Nat} {lim:Int} {L:List Leg} {bef:List Int}:(stepA pos lim L bef).length=bef.length:=foldA_len
def Brings (pos:Int→Nat) (lim:Int) (bef:List Int) (l:Leg) (q:Nat) (u:Int):Prop:=
 pos l.dst=q∧0≤bef.getD (pos l.frm) (-1)∧∃a,nextD l (bef.getD (pos l.frm) (-1))=some a∧u=a+l.mins∧u≤lim
theorem Dep.nonneg {l:Leg} {a:Int} (h:Dep l a) (hl:Fine l):0≤a:=by
 obtain ⟨d,_,_,rfl⟩:=h
 unfold Fine at hl;omega
theorem Brings.nonneg {pos:Int→Nat} {lim:Int} {bef:List Int} {l:Leg} {q:Nat} {u:Int} (h:Brings pos lim bef l q u) (hl:Fine l):0≤u:=by
 obtain ⟨_,_,a,h1,h2,_⟩:=h
 have:=(nextD_some h1).1.nonneg hl
 unfold Fine at hl;omega
theorem getD_set {L:List Int} {i j:Nat} {x d:Int} (hi:i<L.length):(L.set i x).getD j d=if i=j then x else L.getD j d:=by
 rw [List.getD_eq_getElem?_getD,List.getElem?_set]
 by_cases h:i=j
 ·simp [h,show j<L.length by omega]
 ·simp [h,List.getD_eq_getElem?_getD]
theorem useA_min {pos:Int→Nat} {lim:Int} {bef aft:List Int} {l:Leg} {q:Nat} {S:Int→Prop} (hl:Fine l) (hp:pos l.dst<aft.length) (h0:∀u,S u→0≤u) (h:IsMin S (aft.getD q (-1))) :
  IsMin (fun u=>S u∨Brings pos lim bef l q u) ((useA pos lim bef aft l).getD q (-1)):=by
 unfold useA
 by_cases hs:bef.getD (pos l.frm) (-1)<0
 ·rw [if_pos hs]
  exact h.congr fun u=>⟨.inl,fun hu=>hu.elim id fun hb=>absurd hb.2.1 (by omega)⟩
 rw [if_neg hs]
 cases hn:nextD l (bef.getD (pos l.frm) (-1)) with
 | none=>
   simp only []
   exact h.congr fun u=>⟨.inl,fun hu=>hu.elim id fun ⟨_,_,a,ha,_⟩=>by rw [hn] at ha;cases ha⟩
 | some a=>
   simp only []
   have ha0:0≤a+l.mins:=by have:=(nextD_some hn).1.nonneg hl;unfold Fine at hl;omega
   by_cases hlim:a+l.mins≤lim
   ·by_cases hq:pos l.dst=q
    ·have e:((if a+l.mins≤lim∧(aft.getD (pos l.dst) (-1)<0∨a+l.mins<aft.getD (pos l.dst) (-1)) then aft.set (pos l.dst) (a+l.mins) else aft).getD q (-1))=if aft.getD q (-1)<0∨a+l.mins<aft.getD q (-1) then a+l.mins else aft.getD q (-1):=by
      subst hq
      by_cases hc:aft.getD (pos l.dst) (-1)<0∨a+l.mins<aft.getD (pos l.dst) (-1)
      ·rw [if_pos ⟨hlim,hc⟩,if_pos hc,getD_set hp,if_pos rfl]
      ·rw [if_neg (fun h=>hc h.2),if_neg hc]
     rw [e]
     refine (h.one h0 ha0).congr fun u=>⟨fun hu=>hu.elim .inl fun hu=>.inr ⟨hq,by omega,a,hn,hu,by omega⟩,fun hu=>hu.elim .inl fun ⟨_,_,b,hb,hu,_⟩=>?_⟩
     rw [hn] at hb;cases hb;exact .inr hu
    ·have e:((if a+l.mins≤lim∧(aft.getD (pos l.dst) (-1)<0∨a+l.mins<aft.getD (pos l.dst) (-1)) then aft.set (pos l.dst) (a+l.mins) else aft).getD q (-1))=aft.getD q (-1):=by
      split
      ·rw [getD_set hp,if_neg hq]
      ·rfl
     rw [e]
     exact h.congr fun u=>⟨.inl,fun hu=>hu.elim id fun hb=>absurd hb.1 hq⟩
   ·rw [if_neg (fun h=>hlim h.1)]
    refine h.congr fun u=>⟨.inl,fun hu=>hu.elim id fun ⟨_,_,b,hb,hu,hl⟩=>?_⟩
    rw [hn] at hb;cases hb;omega
theorem foldA_min {pos:Int→Nat} {lim:Int} {bef:List Int} {q:Nat}:∀{L:List Leg} {aft:List Int} {S:Int→Prop},(∀l∈L,Fine l∧pos l.dst<aft.length)→(∀u,S u→0≤u)→IsMin S (aft.getD q (-1))→
  IsMin (fun u=>S u∨∃l∈L,Brings pos lim bef l q u) ((L.foldl (useA pos lim bef) aft).getD q (-1))
 | [],aft,S,hL,h0,h=>h.congr fun u=>⟨.inl,fun hu=>hu.elim id fun ⟨l,hl,_⟩=>by cases hl⟩
 | l::L,aft,S,hL,h0,h=>by
   obtain ⟨h1,h2⟩:=hL l (List.mem_cons_self ..)
   rw [List.foldl_cons]
   refine (foldA_min (L:=L) (fun x hx=>?_) (fun u hu=>?_) (useA_min (lim:=lim) (bef:=bef) h1 h2 h0 h)).congr fun u=>?_
   ·rw [useA_len];exact hL x (List.mem_cons_of_mem _ hx)
   ·rcases hu with hu | hu
    ·exact h0 u hu
    ·exact hu.nonneg h1
   ·constructor
    ·rintro ((h | h) | ⟨x,hx,h⟩)
     ·exact .inl h
     ·exact .inr ⟨l,List.mem_cons_self ..,h⟩
     ·exact .inr ⟨x,List.mem_cons_of_mem _ hx,h⟩
    ·rintro (h | ⟨x,hx,h⟩)
     ·exact .inl (.inl h)
     ·rcases List.mem_cons.1 hx with rfl | hx
      ·exact .inl (.inr h)
      ·exact .inr ⟨x,hx,h⟩
theorem IsMin.dom {S T:Int→Prop} {v:Int} (h:IsMin S v) (h1:∀u,S u→T u) (h2:∀u,T u→∃w,w≤u∧S w):IsMin T v:=by
 rcases h with ⟨g1,g2⟩ | ⟨g1,g2⟩
 ·exact .inl ⟨g1,fun u hu=>by obtain ⟨w,_,hw⟩:=h2 u hu;exact g2 w hw⟩
 ·exact .inr ⟨h1 _ g1,fun u hu=>by obtain ⟨w,hle,hw⟩:=h2 u hu;have:=g2 w hw;omega⟩
structure NetOk (N:Nat) (P:List Int) (L:List Leg) (pos:Int→Nat):Prop where
 fine:∀l∈L,Fine l
 frm:∀l∈L,l.frm∈P
 dst:∀l∈L,l.dst∈P
 inj:∀a∈P,∀b∈P,pos a=pos b→a=b
 lt:∀a∈P,pos a<N
def oneT (N i:Nat) (t:Int):List Int:=(List.replicate N (-1)).set i t
theorem oneT_len {N i:Nat} {t:Int}:(oneT N i t).length=N:=by simp [oneT]
theorem oneT_get {N i j:Nat} {t:Int} (hi:i<N):(oneT N i t).getD j (-1)=if i=j then t else -1:=by
 unfold oneT
 rw [getD_set (by simpa using hi)]
 split
 ·rfl
 ·rw [List.getD_eq_getElem?_getD,List.getElem?_replicate];split<;>rfl
def arrK (N:Nat) (pos:Int→Nat) (lim:Int) (L:List Leg) (p ready:Int):Nat→List Int
 | 0=>oneT N (pos p) ready
 | k+1=>stepA pos lim L (arrK N pos lim L p ready k)
theorem arrK_len {N:Nat} {pos:Int→Nat} {lim:Int} {L:List Leg} {p ready:Int}:∀{k:Nat},(arrK N pos lim L p ready k).length=N
 | 0=>oneT_len
 | k+1=>by rw [arrK,stepA_len,arrK_len]
theorem arrK_min {N:Nat} {P:List Int} {L:List Leg} {pos:Int→Nat} {lim p ready:Int} (hn:NetOk N P L pos) (hp:p∈P) (hr:0≤ready) (hlim:ready≤lim):∀(k:Nat) (q:Int),q∈P→
  IsMin (fun u=>(∃j,j≤k∧Way L j p ready q u)∧u≤lim) ((arrK N pos lim L p ready k).getD (pos q) (-1))
 | 0,q,hq=>by
   rw [arrK,oneT_get (hn.lt p hp)]
   by_cases h:pos p=pos q
   ·rw [if_pos h]
    have:=hn.inj p hp q hq h
    subst this
    refine .inr ⟨⟨⟨0,Nat.le_refl _,.nil _ _⟩,hlim⟩,fun u ⟨⟨j,hj,hw⟩,_⟩=>hw.later hn.fine⟩
   ·rw [if_neg h]
    refine .inl ⟨rfl,fun u ⟨⟨j,hj,hw⟩,_⟩=>?_⟩
    obtain rfl:j=0:=by omega
    cases hw
    exact h rfl
 | k+1,q,hq=>by
   have ih:=arrK_min hn hp hr hlim k
   have h0:∀q u,((∃j,j≤k∧Way L j p ready q u)∧u≤lim)→0≤u:=fun q u ⟨⟨j,_,hw⟩,_⟩=>by have:=hw.later hn.fine;omega
   rw [arrK,stepA]
   refine (foldA_min (L:=L) (fun l hl=>⟨hn.fine l hl,by rw [arrK_len];exact hn.lt _ (hn.dst l hl)⟩) (h0 q) (ih q hq)).dom (fun u hu=>?_) (fun u hu=>?_)
   ·rcases hu with ⟨⟨j,hj,hw⟩,hl⟩ | ⟨l,hl,hd,hs,a,ha,rfl,hlim'⟩
    ·exact ⟨⟨j,by omega,hw⟩,hl⟩
    ·obtain ⟨⟨j,hj,hw⟩,hsl⟩:=(ih l.frm (hn.frm l hl)).mem hs
     obtain ⟨g1,g2,g3⟩:=nextD_some ha
     have:=hn.inj _ (hn.dst l hl) q hq hd
     subst this
     exact ⟨⟨j+1,by omega,.snoc hw hl rfl g1 g2⟩,hlim'⟩
   ·obtain ⟨⟨j,hj,hw⟩,hul⟩:=hu
    by_cases hjk:j≤k
    ·exact ⟨u,Int.le_refl _,.inl ⟨⟨j,hjk,hw⟩,hul⟩⟩
    ·cases hw with
     | nil=>exact absurd (Nat.zero_le _) hjk
     | @snoc j' p t m s a l hw hl hf hd hs=>
       subst hf
       have hfl:=hn.fine l hl
       have hsl:s≤lim:=by unfold Fine at hfl;omega
       have hS:(∃j,j≤k∧Way L j p ready l.frm s)∧s≤lim:=⟨⟨j',by omega,hw⟩,hsl⟩
       have hle:=(ih l.frm (hn.frm l hl)).le hS
       have hpos:0≤(arrK N pos lim L p ready k).getD (pos l.frm) (-1):=by
        apply Decidable.byContradiction;intro hc
        exact (ih l.frm (hn.frm l hl)).none (h0 _) (by omega) s hS
       cases hnx:nextD l ((arrK N pos lim L p ready k).getD (pos l.frm) (-1)) with
       | none=>have:=nextD_none hnx a hd;omega
       | some b=>
         obtain ⟨g1,g2,g3⟩:=nextD_some hnx
         have:=g3 a hd (by omega)
         exact ⟨b+l.mins,by omega,.inr ⟨l,hl,rfl,hpos,b,hnx,rfl,by omega⟩⟩
theorem arrK_fix {N:Nat} {pos:Int→Nat} {lim:Int} {L:List Leg} {p ready:Int} {k:Nat} (h:arrK N pos lim L p ready (k+1)=arrK N pos lim L p ready k):∀j,arrK N pos lim L p ready (k+j)=arrK N pos lim L p ready k
 | 0=>rfl
 | j+1=>by rw [←Nat.add_assoc,arrK,arrK_fix h j];exact h
theorem arrK_all {N:Nat} {P:List Int} {L:List Leg} {pos:Int→Nat} {lim p ready:Int} (hn:NetOk N P L pos) (hp:p∈P) (hr:0≤ready) (hlim:ready≤lim) {k:Nat} (h:arrK N pos lim L p ready (k+1)=arrK N pos lim L p ready k) (q:Int) (hq:q∈P) :
  IsMin (fun u=>(∃j,Way L j p ready q u)∧u≤lim) ((arrK N pos lim L p ready k).getD (pos q) (-1)):=by
 refine (arrK_min hn hp hr hlim k q hq).dom (fun u ⟨⟨j,_,hw⟩,hl⟩=>⟨⟨j,hw⟩,hl⟩) (fun u ⟨⟨j,hw⟩,hl⟩=>?_)
 have hm:=arrK_min hn hp hr hlim (k+j) q hq
 rw [arrK_fix h] at hm
 have hle:=hm.le ⟨⟨j,by omega,hw⟩,hl⟩
 have hk:=arrK_min hn hp hr hlim k q hq
 have h0:∀u,((∃j',j'≤k+j∧Way L j' p ready q u)∧u≤lim)→0≤u:=fun u ⟨⟨j,_,hw⟩,_⟩=>by have:=hw.later hn.fine;omega
 have hpos:0≤(arrK N pos lim L p ready k).getD (pos q) (-1):=by
  apply Decidable.byContradiction;intro hc
  exact hm.none h0 (by omega) u ⟨⟨j,by omega,hw⟩,hl⟩
 exact ⟨_,hle,hk.mem hpos⟩
def farA (ready lim t:Int):Nat:=if t<0 then (lim-ready).toNat+1 else (t-ready).toNat
def muA (ready lim:Int) (T:List Int):Nat:=(T.map (farA ready lim)).sum
def Within (ready lim:Int) (T:List Int):Prop:=∀t∈T,t=-1∨ready≤t∧t≤lim
theorem muA_le {ready lim:Int}:∀{T:List Int},Within ready lim T→muA ready lim T≤T.length*((lim-ready).toNat+1)
 | [],_=>by simp [muA]
 | t::T,h=>by
   have ih:=muA_le (T:=T) fun x hx=>h x (List.mem_cons_of_mem _ hx)
   have h1:=h t (List.mem_cons_self ..)
   unfold muA at ih⊢
   simp only [List.map_cons,List.sum_cons,List.length_cons,Nat.succ_mul]
   have:farA ready lim t≤(lim-ready).toNat+1:=by unfold farA;split<;>omega
   omega
theorem mu_set {f:Int→Nat}:∀{T:List Int} {i:Nat} {x:Int} (hi:i<T.length),((T.set i x).map f).sum+f (T.getD i (-1))=(T.map f).sum+f x
 | t::T,0,x,_=>by simp;omega
 | t::T,i+1,x,hi=>by
   have:=mu_set (f:=f) (T:=T) (i:=i) (x:=x) (by simpa using hi)
   simp only [List.set_cons_succ,List.map_cons,List.sum_cons,List.getD_cons_succ]
   omega
theorem useA_mu {pos:Int→Nat} {ready lim:Int} {bef aft:List Int} {l:Leg} (hb:Within ready lim bef) (ha:Within ready lim aft) (hl:Fine l) (hd:pos l.dst<aft.length) (hr:0≤ready) :
  Within ready lim (useA pos lim bef aft l)∧(useA pos lim bef aft l=aft∨muA ready lim (useA pos lim bef aft l)<muA ready lim aft):=by
 unfold useA
 by_cases hs:bef.getD (pos l.frm) (-1)<0
 ·rw [if_pos hs];exact ⟨ha,.inl rfl⟩
 rw [if_neg hs]
 cases hn:nextD l (bef.getD (pos l.frm) (-1)) with
 | none=>exact ⟨ha,.inl rfl⟩
 | some a=>
   simp only []
   split
   case isFalse=>exact ⟨ha,.inl rfl⟩
   rename_i hc
   obtain ⟨g1,g2,g3⟩:=nextD_some hn
   have hbr:ready≤bef.getD (pos l.frm) (-1):=by
    by_cases h:pos l.frm<bef.length
    ·have e:bef.getD (pos l.frm) (-1)=bef[pos l.frm]:=by rw [List.getD_eq_getElem?_getD,List.getElem?_eq_getElem h];rfl
     have:=hb _ (List.getElem_mem h)
     rw [e] at hs⊢;omega
    ·rw [List.getD_eq_getElem?_getD,List.getElem?_eq_none (by omega)] at hs;exact absurd (by decide) hs
   have hfl:=hl
   unfold Fine at hfl
   have hin:ready≤a+l.mins∧a+l.mins≤lim:=⟨by omega,hc.1⟩
   have hold:aft.getD (pos l.dst) (-1)=-1∨ready≤aft.getD (pos l.dst) (-1)∧aft.getD (pos l.dst) (-1)≤lim:=by
    have e:aft.getD (pos l.dst) (-1)=aft[pos l.dst]:=by rw [List.getD_eq_getElem?_getD,List.getElem?_eq_getElem hd];rfl
    rw [e];exact ha _ (List.getElem_mem hd)
   refine ⟨fun t ht=>?_,.inr ?_⟩
   ·rcases List.mem_or_eq_of_mem_set ht with h | h
    ·exact ha t h
    ·exact .inr (by omega)
   ·have:=mu_set (f:=farA ready lim) (x:=a+l.mins) hd
    unfold muA
    have e1:farA ready lim (a+l.mins)<farA ready lim (aft.getD (pos l.dst) (-1)):=by
     unfold farA
     rw [if_neg (by omega)]
     split<;>omega
    omega
theorem foldA_mu {pos:Int→Nat} {ready lim:Int} {bef:List Int} (hb:Within ready lim bef) (hr:0≤ready):∀{L:List Leg} {aft:List Int},(∀l∈L,Fine l∧pos l.dst<aft.length)→Within ready lim aft→
  Within ready lim (L.foldl (useA pos lim bef) aft)∧(L.foldl (useA pos lim bef) aft=aft∨muA ready lim (L.foldl (useA pos lim bef) aft)<muA ready lim aft)
 | [],aft,hL,ha=>⟨ha,.inl rfl⟩
 | l::L,aft,hL,ha=>by
   obtain ⟨h1,h2⟩:=hL l (List.mem_cons_self ..)
   obtain ⟨g1,g2⟩:=useA_mu (l:=l) hb ha h1 h2 hr
   obtain ⟨k1,k2⟩:=foldA_mu hb hr (L:=L) (aft:=useA pos lim bef aft l) (fun x hx=>by rw [useA_len];exact hL x (List.mem_cons_of_mem _ hx)) g1
   rw [List.foldl_cons]
   refine ⟨k1, ?_⟩
   rcases k2 with k2 | k2
   ·rw [k2];exact g2
   ·rcases g2 with g2 | g2
    ·rw [g2] at k2⊢;exact .inr k2
    ·exact .inr (by omega)
theorem stepA_mu {pos:Int→Nat} {ready lim:Int} {bef:List Int} {L:List Leg} (hb:Within ready lim bef) (hr:0≤ready) (hL:∀l∈L,Fine l∧pos l.dst<bef.length) :
  Within ready lim (stepA pos lim L bef)∧(stepA pos lim L bef=bef∨muA ready lim (stepA pos lim L bef)<muA ready lim bef):=foldA_mu hb hr hL hb
def IsArr (L:List Leg) (p ready q v:Int):Prop:=IsMin (fun u=>(∃j,Way L j p ready q u)∧u≤ready+86400) v
theorem IsArr.start {L:List Leg} {p ready v:Int} (h:IsArr L p ready p v) (hL:∀l∈L,Fine l):v=ready:=
 IsMin.uniq h (.inr ⟨⟨⟨0,.nil _ _⟩,by omega⟩,fun u ⟨⟨j,hw⟩,_⟩=>hw.later hL⟩)
theorem IsArr.ge {L:List Leg} {p ready q v:Int} (h:IsArr L p ready q v) (hL:∀l∈L,Fine l) (hv:0≤v):ready≤v∧v≤ready+86400:=by
 obtain ⟨⟨j,hw⟩,hl⟩:=h.mem hv
 exact ⟨hw.later hL,hl⟩
theorem IsArr.later {L:List Leg} {p a b q x y:Int} (hx:IsArr L p a q x) (hy:IsArr L p b q y) (hab:a≤b) (hy0:0≤y):x≤y:=by
 obtain ⟨⟨j,hw⟩,hl⟩:=hy.mem hy0
 by_cases hlim:y≤a+86400
 ·rcases hw.early hab with ⟨rfl,rfl,rfl⟩ | hw'
  ·have:=hx.le (u:=a) ⟨⟨0,.nil _ _⟩,by omega⟩;omega
  ·exact hx.le ⟨⟨j,hw'⟩,hlim⟩
 ·rcases hx with ⟨h1,_⟩ | ⟨⟨_,h1⟩,_⟩<;>omega
theorem IsArr.same {L M:List Leg} {p t q x y:Int} (hx:IsArr L p t q x) (hy:IsArr M p t q y) (hs:∀l,l∈M↔l∈L):x=y:=
 hx.uniq (hy.congr fun u=>⟨fun ⟨⟨j,hw⟩,hl⟩=>⟨⟨j,hw.mono fun l h=>(hs l).1 h⟩,hl⟩,fun ⟨⟨j,hw⟩,hl⟩=>⟨⟨j,hw.mono fun l h=>(hs l).2 h⟩,hl⟩⟩)
def IsMax (S:Int→Prop) (v:Int):Prop:=(v=-1∧∀u,¬S u)∨(S v∧∀u,S u→u≤v)
theorem IsMax.uniq {S:Int→Prop} {v w:Int} (h:IsMax S v) (h':IsMax S w):v=w:=by
 rcases h with ⟨h1,h2⟩ | ⟨h1,h2⟩<;>rcases h' with ⟨g1,g2⟩ | ⟨g1,g2⟩
 ·omega
 ·exact absurd g1 (h2 _)
 ·exact absurd h1 (g2 _)
 ·have:=h2 _ g1;have:=g2 _ h1;omega
theorem IsMax.congr {S T:Int→Prop} {v:Int} (h:IsMax S v) (e:∀u,S u↔T u):IsMax T v:=by
 rcases h with ⟨h1,h2⟩ | ⟨h1,h2⟩
 ·exact .inl ⟨h1,fun u hu=>h2 u ((e u).2 hu)⟩
 ·exact .inr ⟨(e v).1 h1,fun u hu=>h2 u ((e u).2 hu)⟩
theorem IsMax.mem {S:Int→Prop} {v:Int} (h:IsMax S v) (hv:0≤v):S v:=by
 rcases h with ⟨h1,h2⟩ | ⟨h1,h2⟩
 ·omega
 ·exact h1
theorem IsMax.none {S:Int→Prop} {v:Int} (h:IsMax S v) (h0:∀u,S u→0≤u) (hv:v<0):∀u,¬S u:=by
 rcases h with ⟨h1,h2⟩ | ⟨h1,h2⟩
 ·exact h2
 ·have:=h0 _ h1;omega
theorem IsMax.ge {S:Int→Prop} {v u:Int} (h:IsMax S v) (hu:S u):u≤v:=by
 rcases h with ⟨h1,h2⟩ | ⟨h1,h2⟩
 ·exact absurd hu (h2 _)
 ·exact h2 _ hu
theorem IsMax.one {S:Int→Prop} {v x:Int} (h:IsMax S v) (h0:∀u,S u→0≤u) (hx:0≤x):IsMax (fun u=>S u∨u=x) (if v<x then x else v):=by
 by_cases hc:v<x
 ·rw [if_pos hc]
  refine .inr ⟨.inr rfl,fun u hu=>?_⟩
  rcases hu with hu | hu
  ·have:=h.ge hu;omega
  ·omega
 ·rw [if_neg hc]
  have:=h.mem (by omega)
  refine .inr ⟨.inl this,fun u hu=>?_⟩
  rcases hu with hu | hu
  ·exact h.ge hu
  ·omega
theorem IsMax.dom {S T:Int→Prop} {v:Int} (h:IsMax S v) (h1:∀u,S u→T u) (h2:∀u,T u→∃w,u≤w∧S w):IsMax T v:=by
 rcases h with ⟨g1,g2⟩ | ⟨g1,g2⟩
 ·exact .inl ⟨g1,fun u hu=>by obtain ⟨w,_,hw⟩:=h2 u hu;exact g2 w hw⟩
 ·exact .inr ⟨h1 _ g1,fun u hu=>by obtain ⟨w,hle,hw⟩:=h2 u hu;have:=g2 w hw;omega⟩
def Gives (pos:Int→Nat) (low:Int) (bef:List Int) (l:Leg) (q:Nat) (u:Int):Prop:=
 pos l.frm=q∧0≤bef.getD (pos l.dst) (-1)∧∃a,lastD l (bef.getD (pos l.dst) (-1))=some a∧u=a-l.cut∧low≤u
theorem Dep.ready {l:Leg} {a:Int} (h:Dep l a):0≤a-l.cut:=by
 obtain ⟨d,_,hg,rfl⟩:=h
 unfold goes at hg
 simp only [Bool.and_eq_true,decide_eq_true_eq] at hg
 omega
theorem Gives.nonneg {pos:Int→Nat} {low:Int} {bef:List Int} {l:Leg} {q:Nat} {u:Int} (h:Gives pos low bef l q u):0≤u:=by
 obtain ⟨_,_,a,h1,h2,_⟩:=h
 have:=(lastD_some h1).1.ready
 omega
def IsLat (L:List Leg) (q dl p v:Int):Prop:=IsMax (fun u=>0≤u∧dl-86400≤u∧∃j v,v≤dl∧Way L j p u q v) v
theorem IsLat.start {L:List Leg} {q dl v:Int} (h:IsLat L q dl q v) (hL:∀l∈L,Fine l) (h0:0≤dl):v=dl:=
 h.uniq (.inr ⟨⟨h0,by omega,0,dl,Int.le_refl _,.nil _ _⟩,fun u ⟨_,_,j,v,hv,hw⟩=>by have:=hw.later hL;omega⟩)
theorem IsLat.range {L:List Leg} {q dl p v:Int} (h:IsLat L q dl p v) (hL:∀l∈L,Fine l) (hv:0≤v):dl-86400≤v∧v≤dl:=by
 obtain ⟨_,h1,j,u,hu,hw⟩:=h.mem hv
 have:=hw.later hL
 exact ⟨h1,by omega⟩
theorem IsLat.later {L:List Leg} {p q a b x y:Int} (hx:IsLat L q a p x) (hy:IsLat L q b p y) (hL:∀l∈L,Fine l) (hab:a≤b) (hx0:0≤x) (hy0:0≤y):x≤y:=by
 obtain ⟨h1,h2,j,v,hv,hw⟩:=hx.mem hx0
 by_cases h:b-86400≤x
 ·exact hy.ge ⟨h1,h,j,v,by omega,hw⟩
 ·have:=(hy.range hL hy0).1;omega
theorem IsLat.same {L M:List Leg} {p q dl x y:Int} (hx:IsLat L q dl p x) (hy:IsLat M q dl p y) (hs:∀l,l∈M↔l∈L):x=y:=
 hx.uniq (hy.congr fun u=>⟨fun ⟨a,b,j,v,hv,hw⟩=>⟨a,b,j,v,hv,hw.mono fun l h=>(hs l).1 h⟩,fun ⟨a,b,j,v,hv,hw⟩=>⟨a,b,j,v,hv,hw.mono fun l h=>(hs l).2 h⟩⟩)
def useX (pos:Int→Nat) (bef aft:List Int) (l:Leg):List Int:=
 if bef.getD (pos l.dst) (-1)<0 then aft else
 match lastD l (bef.getD (pos l.dst) (-1)) with
 | some a=>aft.set (pos l.frm) (if aft.getD (pos l.frm) (-1)<a-l.cut then a-l.cut else aft.getD (pos l.frm) (-1))
 | none=>aft
def stepX (N:Nat) (pos:Int→Nat) (L:List Leg) (bef:List Int):List Int:=L.foldl (useX pos bef) (List.replicate N (-1))
def IsWay (L:List Leg):Int→Int→List (Leg×Int)→Int→Int→Prop
 | p,t,[],q,u=>p=q∧t=u
 | p,t,(l,a)::w,q,u=>l∈L∧l.frm=p∧Dep l a∧t≤a-l.cut∧IsWay L l.dst (a+l.mins) w q u
theorem IsWay.way {L:List Leg}:∀{w:List (Leg×Int)} {p t q u:Int},IsWay L p t w q u→Way L w.length p t q u
 | [],p,t,q,u,h=>by obtain ⟨rfl,rfl⟩:=h;exact .nil _ _
 | (l,a)::w,p,t,q,u,h=>by
   obtain ⟨h1,h2,h3,h4,h5⟩:=h
   exact .cons h1 h2 h3 h4 h5.way
theorem Way.isWay {L:List Leg}:∀{k:Nat} {p t q u:Int},Way L k p t q u→∃w,w.length=k∧IsWay L p t w q u
 | 0,p,t,q,u,h=>by cases h;exact ⟨[],rfl,rfl,rfl⟩
 | k+1,p,t,q,u,h=>by
   obtain ⟨l,hl,a,hf,hd,ha,hw⟩:=h.head
   obtain ⟨w,e,hw⟩:=hw.isWay
   exact ⟨(l,a)::w,by simp [e],hl,hf,hd,ha,hw⟩
theorem IsWay.later {L:List Leg} {w:List (Leg×Int)} {p t q u:Int} (h:IsWay L p t w q u) (hL:∀l∈L,Fine l):t≤u:=h.way.later hL
theorem IsWay.from {L:List Leg} (hL:∀l∈L,Fine l):∀{w:List (Leg×Int)} {p t q u m:Int},IsWay L p t w q u→m∈w.map (fun x=>x.1.dst)→∃k s,k<w.length∧t≤s∧Way L k m s q u
 | [],_,_,_,_,_,_,h=>by simp at h
 | (l,a)::w,p,t,q,u,m,h,hm=>by
   obtain ⟨h1,h2,h3,h4,h5⟩:=h
   have hfl:=hL l h1
   unfold Fine at hfl
   rw [List.map_cons,List.mem_cons] at hm
   rcases hm with rfl | hm
   ·exact ⟨w.length,a+l.mins,by simp,by omega,h5.way⟩
   ·obtain ⟨k,s,g1,g2,g3⟩:=IsWay.from hL h5 hm
    exact ⟨k,s,by simp;omega,by omega,g3⟩
theorem IsWay.nodup {L:List Leg} (hL:∀l∈L,Fine l):∀{w:List (Leg×Int)} {p t q v:Int},IsWay L p t w q v→(∀j v',Way L j p t q v'→v'≤v→w.length≤j)→(p::w.map (fun x=>x.1.dst)).Nodup
 | [],_,_,_,_,_,_=>by simp
 | (l,a)::w,p,t,q,v,h,hmin=>by
   rw [List.nodup_cons]
   constructor
   ·intro hm
    obtain ⟨k,s,g1,g2,g3⟩:=IsWay.from hL h hm
    rcases g3.early g2 with ⟨rfl,rfl,e⟩ | hw
    ·have:=hmin 0 t (.nil _ _) (by omega);simp at this
    ·have:=hmin k v hw (Int.le_refl _);omega
   ·obtain ⟨h1,h2,h3,h4,h5⟩:=h
    rw [List.map_cons]
    exact h5.nodup hL fun j v' hw hv=>by
     have:=hmin (j+1) v' (.cons h1 h2 h3 h4 hw) hv
     simpa using this
theorem IsWay.uniq {L:List Leg}:∀{w:List (Leg×Int)} {p t q u q' u':Int},IsWay L p t w q u→IsWay L p t w q' u'→q=q'∧u=u'
 | [],_,_,_,_,_,_,h,h'=>⟨h.1.symm.trans h'.1,h.2.symm.trans h'.2⟩
 | (l,a)::w,_,_,_,_,_,_,h,h'=>h.2.2.2.2.uniq h'.2.2.2.2
end Go.Net

