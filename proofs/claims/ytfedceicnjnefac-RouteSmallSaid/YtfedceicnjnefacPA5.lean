/-
  Joined texts, 5 of 10. A part of the claim that the last text states.
-/
import Derived.Test.YtfedceicnjnefacPA4
namespace Go.Net
set_option maxRecDepth 100000
set_option linter.unusedVariables false
set_option linter.unusedSimpArgs false
def IsMin (S:Int→Prop) (v:Int):Prop:=(v=-1∧∀u,¬S u)∨(S v∧∀u,S u→v≤u)
theorem IsMin.uniq {S:Int→Prop} {v w:Int} (h:IsMin S v) (h':IsMin S w):v=w:=by
 rcases h with ⟨h1,h2⟩ | ⟨h1,h2⟩<;>rcases h' with ⟨g1,g2⟩ | ⟨g1,g2⟩
 ·omega
 ·exact absurd g1 (h2 _)
 ·exact absurd h1 (g2 _)
 ·have:=h2 _ g1;have:=g2 _ h1;omega
theorem IsMin.congr {S T:Int→Prop} {v:Int} (h:IsMin S v) (e:∀u,S u↔T u):IsMin T v:=by
 rcases h with ⟨h1,h2⟩ | ⟨h1,h2⟩
 ·exact .inl ⟨h1,fun u hu=>h2 u ((e u).2 hu)⟩
 ·exact .inr ⟨(e v).1 h1,fun u hu=>h2 u ((e u).2 hu)⟩
theorem IsMin.mem {S:Int→Prop} {v:Int} (h:IsMin S v) (hv:0≤v):S v:=by
 rcases h with ⟨h1,h2⟩ | ⟨h1,h2⟩
 ·omega
 ·exact h1
theorem IsMin.none {S:Int→Prop} {v:Int} (h:IsMin S v) (h0:∀u,S u→0≤u) (hv:v<0):∀u,¬S u:=by
 rcases h with ⟨h1,h2⟩ | ⟨h1,h2⟩
 ·exact h2
 ·have:=h0 _ h1;omega
theorem IsMin.le {S:Int→Prop} {v u:Int} (h:IsMin S v) (hu:S u):v≤u:=by
 rcases h with ⟨h1,h2⟩ | ⟨h1,h2⟩
 ·exact absurd hu (h2 _)
 ·exact h2 _ hu
theorem IsMin.one {S:Int→Prop} {v x:Int} (h:IsMin S v) (h0:∀u,S u→0≤u) (hx:0≤x):IsMin (fun u=>S u∨u=x) (if v<0∨x<v then x else v):=by
 by_cases hc:v<0∨x<v
 ·rw [if_pos hc]
  refine .inr ⟨.inr rfl,fun u hu=>?_⟩
  rcases hu with hu | hu
  ·rcases hc with hc | hc
   ·exact absurd hu (h.none h0 hc u)
   ·have:=h.le hu;omega
  ·omega
 ·rw [if_neg hc]
  have:=h.mem (by omega)
  refine .inr ⟨.inl this,fun u hu=>?_⟩
  rcases hu with hu | hu
  ·exact h.le hu
  ·omega
def useA (pos:Int→Nat) (lim:Int) (bef aft:List Int) (l:Leg):List Int:=
 if bef.getD (pos l.frm) (-1)<0 then aft else
 match nextD l (bef.getD (pos l.frm) (-1)) with
 | some a=>if a+l.mins≤lim∧(aft.getD (pos l.dst) (-1)<0∨a+l.mins<aft.getD (pos l.dst) (-1)) then aft.set (pos l.dst) (a+l.mins) else aft
 | none=>aft
def stepA (pos:Int→Nat) (lim:Int) (L:List Leg) (bef:List Int):List Int:=L.foldl (useA pos lim bef) bef
theorem useA_len {pos:Int→Nat} {lim:Int} {bef aft:List Int} {l:Leg}:(useA pos lim bef aft l).length=aft.length:=by
 unfold useA
 split
 ·rfl
 ·split
  ·split
   ·simp
   ·rfl
  ·rfl
theorem foldA_len {pos:Int→Nat} {lim:Int} {bef:List Int}:∀{L:List Leg} {aft:List Int},(L.foldl (useA pos lim bef) aft).length=aft.length
 | [],_=>rfl
 | l::L,aft=>by rw [List.foldl_cons,foldA_len,useA_len]
theorem stepA_len {pos:Int→Nat} {lim:Int} {L:List Leg} {bef:List Int}:(stepA pos lim L bef).length=bef.length:=foldA_len
def Brings (pos:Int→Nat) (lim:Int) (bef:List Int) (l:Leg) (q:Nat) (u:Int):Prop:=
 pos l.dst=q∧0≤bef.getD (pos l.frm) (-1)∧∃a,nextD l (bef.getD (pos l.frm) (-1))=some a∧u=a+l.mins∧u≤lim
theorem Dep.nonneg {l:Leg} {a:Int} (h:Dep l a) (hl:Fine l):0≤a:=by
 obtain ⟨d,_,_,rfl⟩:=h
 unfold Fine at hl;omega
theorem Brings.nonneg {pos:Int→Nat} {lim:Int} {bef:List Int} {l:Leg} {q:Nat} {u:Int} (h:Brings pos lim bef l q u) (hl:Fine l):0≤u:=by
 obtain ⟨_,_,a,h1,h2,_⟩:=h
 have:=(nextD_some h1).1.nonneg hl
 unfold Fine at hl;omega
theorem getD_set {L:List Int} {i j:Nat} {x d:Int} (hi:i<L.length):(L.set i x).getD j d=if i=j then x else L.getD j d:=by
 rw [List.getD_eq_getElem?_getD,List.getElem?_set]
 by_cases h:i=j
 ·simp [h,show j<L.length by omega]
 ·simp [h,List.getD_eq_getElem?_getD]
theorem useA_min {pos:Int→Nat} {lim:Int} {bef aft:List Int} {l:Leg} {q:Nat} {S:Int→Prop} (hl:Fine l) (hp:pos l.dst<aft.length) (h0:∀u,S u→0≤u) (h:IsMin S (aft.getD q (-1))) :
  IsMin (fun u=>S u∨Brings pos lim bef l q u) ((useA pos lim bef aft l).getD q (-1)):=by
 unfold useA
 by_cases hs:bef.getD (pos l.frm) (-1)<0
 ·rw [if_pos hs]
  exact h.congr fun u=>⟨.inl,fun hu=>hu.elim id fun hb=>absurd hb.2.1 (by omega)⟩
 rw [if_neg hs]
 cases hn:nextD l (bef.getD (pos l.frm) (-1)) with
 | none=>
   simp only []
   exact h.congr fun u=>⟨.inl,fun hu=>hu.elim id fun ⟨_,_,a,ha,_⟩=>by rw [hn] at ha;cases ha⟩
 | some a=>
   simp only []
   have ha0:0≤a+l.mins:=by have:=(nextD_some hn).1.nonneg hl;unfold Fine at hl;omega
   by_cases hlim:a+l.mins≤lim
   ·by_cases hq:pos l.dst=q
    ·have e:((if a+l.mins≤lim∧(aft.getD (pos l.dst) (-1)<0∨a+l.mins<aft.getD (pos l.dst) (-1)) then aft.set (pos l.dst) (a+l.mins) else aft).getD q (-1))=if aft.getD q (-1)<0∨a+l.mins<aft.getD q (-1) then a+l.mins else aft.getD q (-1):=by
      subst hq
      by_cases hc:aft.getD (pos l.dst) (-1)<0∨a+l.mins<aft.getD (pos l.dst) (-1)
      ·rw [if_pos ⟨hlim,hc⟩,if_pos hc,getD_set hp,if_pos rfl]
      ·rw [if_neg (fun h=>hc h.2),if_neg hc]
     rw [e]
     refine (h.one h0 ha0).congr fun u=>⟨fun hu=>hu.elim .inl fun hu=>.inr ⟨hq,by omega,a,hn,hu,by omega⟩,fun hu=>hu.elim .inl fun ⟨_,_,b,hb,hu,_⟩=>?_⟩
     rw [hn] at hb;cases hb;exact .inr hu
    ·have e:((if a+l.mins≤lim∧(aft.getD (pos l.dst) (-1)<0∨a+l.mins<aft.getD (pos l.dst) (-1)) then aft.set (pos l.dst) (a+l.mins) else aft).getD q (-1))=aft.getD q (-1):=by
      split
      ·rw [getD_set hp,if_neg hq]
      ·rfl
     rw [e]
     exact h.congr fun u=>⟨.inl,fun hu=>hu.elim id fun hb=>absurd hb.1 hq⟩
   ·rw [if_neg (fun h=>hlim h.1)]
    refine h.congr fun u=>⟨.inl,fun hu=>hu.elim id fun ⟨_,_,b,hb,hu,hl⟩=>?_⟩
    rw [hn] at hb;cases hb;omega
theorem foldA_min {pos:Int→Nat} {lim:Int} {bef:List Int} {q:Nat}:∀{L:List Leg} {aft:List Int} {S:Int→Prop},(∀l∈L,Fine l∧pos l.dst<aft.length)→(∀u,S u→0≤u)→IsMin S (aft.getD q (-1))→
  IsMin (fun u=>S u∨∃l∈L,Brings pos lim bef l q u) ((L.foldl (useA pos lim bef) aft).getD q (-1))
 | [],aft,S,hL,h0,h=>h.congr fun u=>⟨.inl,fun hu=>hu.elim id fun ⟨l,hl,_⟩=>by cases hl⟩
 | l::L,aft,S,hL,h0,h=>by
   obtain ⟨h1,h2⟩:=hL l (List.mem_cons_self ..)
   rw [List.foldl_cons]
   refine (foldA_min (L:=L) (fun x hx=>?_) (fun u hu=>?_) (useA_min (lim:=lim) (bef:=bef) h1 h2 h0 h)).congr fun u=>?_
   ·rw [useA_len];exact hL x (List.mem_cons_of_mem _ hx)
   ·rcases hu with hu | hu
    ·exact h0 u hu
    ·exact hu.nonneg h1
   ·constructor
    ·rintro ((h | h) | ⟨x,hx,h⟩)
     ·exact .inl h
     ·exact .inr ⟨l,List.mem_cons_self ..,h⟩
     ·exact .inr ⟨x,List.mem_cons_of_mem _ hx,h⟩
    ·rintro (h | ⟨x,hx,h⟩)
     ·exact .inl (.inl h)
     ·rcases List.mem_cons.1 hx with rfl | hx
      ·exact .inl (.inr h)
      ·exact .inr ⟨x,hx,h⟩
theorem IsMin.dom {S T:Int→Prop} {v:Int} (h:IsMin S v) (h1:∀u,S u→T u) (h2:∀u,T u→∃w,w≤u∧S w):IsMin T v:=by
 rcases h with ⟨g1,g2⟩ | ⟨g1,g2⟩
 ·exact .inl ⟨g1,fun u hu=>by obtain ⟨w,_,hw⟩:=h2 u hu;exact g2 w hw⟩
 ·exact .inr ⟨h1 _ g1,fun u hu=>by obtain ⟨w,hle,hw⟩:=h2 u hu;have:=g2 w hw;omega⟩
structure NetOk (N:Nat) (P:List Int) (L:List Leg) (pos:Int→Nat):Prop where
 fine:∀l∈L,Fine l
 frm:∀l∈L,l.frm∈P
 dst:∀l∈L,l.dst∈P
 inj:∀a∈P,∀b∈P,pos a=pos b→a=b
 lt:∀a∈P,pos a<N
def oneT (N i:Nat) (t:Int):List Int:=(List.replicate N (-1)).set i t
theorem oneT_len {N i:Nat} {t:Int}:(oneT N i t).length=N:=by simp [oneT]
theorem oneT_get {N i j:Nat} {t:Int} (hi:i<N):(oneT N i t).getD j (-1)=if i=j then t else -1:=by
 unfold oneT
 rw [getD_set (by simpa using hi)]
 split
 ·rfl
 ·rw [List.getD_eq_getElem?_getD,List.getElem?_replicate];split<;>rfl
def arrK (N:Nat) (pos:Int→Nat) (lim:Int) (L:List Leg) (p ready:Int):Nat→List Int
 | 0=>oneT N (pos p) ready
 | k+1=>stepA pos lim L (arrK N pos lim L p ready k)
theorem arrK_len {N:Nat} {pos:Int→Nat} {lim:Int} {L:List Leg} {p ready:Int}:∀{k:Nat},(arrK N pos lim L p ready k).length=N
 | 0=>oneT_len
 | k+1=>by rw [arrK,stepA_len,arrK_len]
theorem arrK_min {N:Nat} {P:List Int} {L:List Leg} {pos:Int→Nat} {lim p ready:Int} (hn:NetOk N P L pos) (hp:p∈P) (hr:0≤ready) (hlim:ready≤lim):∀(k:Nat) (q:Int),q∈P→
  IsMin (fun u=>(∃j,j≤k∧Way L j p ready q u)∧u≤lim) ((arrK N pos lim L p ready k).getD (pos q) (-1))
 | 0,q,hq=>by
   rw [arrK,oneT_get (hn.lt p hp)]
   by_cases h:pos p=pos q
   ·rw [if_pos h]
    have:=hn.inj p hp q hq h
    subst this
    refine .inr ⟨⟨⟨0,Nat.le_refl _,.nil _ _⟩,hlim⟩,fun u ⟨⟨j,hj,hw⟩,_⟩=>hw.later hn.fine⟩
   ·rw [if_neg h]
    refine .inl ⟨rfl,fun u ⟨⟨j,hj,hw⟩,_⟩=>?_⟩
    obtain rfl:j=0:=by omega
    cases hw
    exact h rfl
 | k+1,q,hq=>by
   have ih:=arrK_min hn hp hr hlim k
   have h0:∀q u,((∃j,j≤k∧Way L j p ready q u)∧u≤lim)→0≤u:=fun q u ⟨⟨j,_,hw⟩,_⟩=>by have:=hw.later hn.fine;omega
   rw [arrK,stepA]
   refine (foldA_min (L:=L) (fun l hl=>⟨hn.fine l hl,by rw [arrK_len];exact hn.lt _ (hn.dst l hl)⟩) (h0 q) (ih q hq)).dom (fun u hu=>?_) (fun u hu=>?_)
   ·rcases hu with ⟨⟨j,hj,hw⟩,hl⟩ | ⟨l,hl,hd,hs,a,ha,rfl,hlim'⟩
    ·exact ⟨⟨j,by omega,hw⟩,hl⟩
    ·obtain ⟨⟨j,hj,hw⟩,hsl⟩:=(ih l.frm (hn.frm l hl)).mem hs
     obtain ⟨g1,g2,g3⟩:=nextD_some ha
     have:=hn.inj _ (hn.dst l hl) q hq hd
     subst this
     exact ⟨⟨j+1,by omega,.snoc hw hl rfl g1 g2⟩,hlim'⟩
   ·obtain ⟨⟨j,hj,hw⟩,hul⟩:=hu
    by_cases hjk:j≤k
    ·exact ⟨u,Int.le_refl _,.inl ⟨⟨j,hjk,hw⟩,hul⟩⟩
    ·cases hw with
     | nil=>exact absurd (Nat.zero_le _) hjk
     | @snoc j' p t m s a l hw hl hf hd hs=>
       subst hf
       have hfl:=hn.fine l hl
       have hsl:s≤lim:=by unfold Fine at hfl;omega
       have hS:(∃j,j≤k∧Way L j p ready l.frm s)∧s≤lim:=⟨⟨j',by omega,hw⟩,hsl⟩
       have hle:=(ih l.frm (hn.frm l hl)).le hS
       have hpos:0≤(arrK N pos lim L p ready k).getD (pos l.frm) (-1):=by
        apply Decidable.byContradiction;intro hc
        exact (ih l.frm (hn.frm l hl)).none (h0 _) (by omega) s hS
       cases hnx:nextD l ((arrK N pos lim L p ready k).getD (pos l.frm) (-1)) with
       | none=>have:=nextD_none hnx a hd;omega
       | some b=>
         obtain ⟨g1,g2,g3⟩:=nextD_some hnx
         have:=g3 a hd (by omega)
         exact ⟨b+l.mins,by omega,.inr ⟨l,hl,rfl,hpos,b,hnx,rfl,by omega⟩⟩
theorem arrK_fix {N:Nat} {pos:Int→Nat} {lim:Int} {L:List Leg} {p ready:Int} {k:Nat} (h:arrK N pos lim L p ready (k+1)=arrK N pos lim L p ready k):∀j,arrK N pos lim L p ready (k+j)=arrK N pos lim L p ready k
 | 0=>rfl
 | j+1=>by rw [←Nat.add_assoc,arrK,arrK_fix h j];exact h
theorem arrK_all {N:Nat} {P:List Int} {L:List Leg} {pos:Int→Nat} {lim p ready:Int} (hn:NetOk N P L pos) (hp:p∈P) (hr:0≤ready) (hlim:ready≤lim) {k:Nat} (h:arrK N pos lim L p ready (k+1)=arrK N pos lim L p ready k) (q:Int) (hq:q∈P) :
  IsMin (fun u=>(∃j,Way L j p ready q u)∧u≤lim) ((arrK N pos lim L p ready k).getD (pos q) (-1)):=by
 refine (arrK_min hn hp hr hlim k q hq).dom (fun u ⟨⟨j,_,hw⟩,hl⟩=>⟨⟨j,hw⟩,hl⟩) (fun u ⟨⟨j,hw⟩,hl⟩=>?_)
 have hm:=arrK_min hn hp hr hlim (k+j) q hq
 rw [arrK_fix h] at hm
 have hle:=hm.le ⟨⟨j,by omega,hw⟩,hl⟩
 have hk:=arrK_min hn hp hr hlim k q hq
 have h0:∀u,((∃j',j'≤k+j∧Way L j' p ready q u)∧u≤lim)→0≤u:=fun u ⟨⟨j,_,hw⟩,_⟩=>by have:=hw.later hn.fine;omega
 have hpos:0≤(arrK N pos lim L p ready k).getD (pos q) (-1):=by
  apply Decidable.byContradiction;intro hc
  exact hm.none h0 (by omega) u ⟨⟨j,by omega,hw⟩,hl⟩
 exact ⟨_,hle,hk.mem hpos⟩
def farA (ready lim t:Int):Nat:=if t<0 then (lim-ready).toNat+1 else (t-ready).toNat
def muA (ready lim:Int) (T:List Int):Nat:=(T.map (farA ready lim)).sum
def Within (ready lim:Int) (T:List Int):Prop:=∀t∈T,t=-1∨ready≤t∧t≤lim
theorem muA_le {ready lim:Int}:∀{T:List Int},Within ready lim T→muA ready lim T≤T.length*((lim-ready).toNat+1)
 | [],_=>by simp [muA]
 | t::T,h=>by
   have ih:=muA_le (T:=T) fun x hx=>h x (List.mem_cons_of_mem _ hx)
   have h1:=h t (List.mem_cons_self ..)
   unfold muA at ih⊢
   simp only [List.map_cons,List.sum_cons,List.length_cons,Nat.succ_mul]
   have:farA ready lim t≤(lim-ready).toNat+1:=by unfold farA;split<;>omega
   omega
theorem mu_set {f:Int→Nat}:∀{T:List Int} {i:Nat} {x:Int} (hi:i<T.length),((T.set i x).map f).sum+f (T.getD i (-1))=(T.map f).sum+f x
 | t::T,0,x,_=>by simp;omega
 | t::T,i+1,x,hi=>by
   have:=mu_set (f:=f) (T:=T) (i:=i) (x:=x) (by simpa using hi)
   simp only [List.set_cons_succ,List.map_cons,List.sum_cons,List.getD_cons_succ]
   omega
theorem useA_mu {pos:Int→Nat} {ready lim:Int} {bef aft:List Int} {l:Leg} (hb:Within ready lim bef) (ha:Within ready lim aft) (hl:Fine l) (hd:pos l.dst<aft.length) (hr:0≤ready) :
  Within ready lim (useA pos lim bef aft l)∧(useA pos lim bef aft l=aft∨muA ready lim (useA pos lim bef aft l)<muA ready lim aft):=by
 unfold useA
 by_cases hs:bef.getD (pos l.frm) (-1)<0
 ·rw [if_pos hs];exact ⟨ha,.inl rfl⟩
 rw [if_neg hs]
 cases hn:nextD l (bef.getD (pos l.frm) (-1)) with
 | none=>exact ⟨ha,.inl rfl⟩
 | some a=>
   simp only []
   split
   case isFalse=>exact ⟨ha,.inl rfl⟩
   rename_i hc
   obtain ⟨g1,g2,g3⟩:=nextD_some hn
   have hbr:ready≤bef.getD (pos l.frm) (-1):=by
    by_cases h:pos l.frm<bef.length
    ·have e:bef.getD (pos l.frm) (-1)=bef[pos l.frm]:=by rw [List.getD_eq_getElem?_getD,List.getElem?_eq_getElem h];rfl
     have:=hb _ (List.getElem_mem h)
     rw [e] at hs⊢;omega
    ·rw [List.getD_eq_getElem?_getD,List.getElem?_eq_none (by omega)] at hs;exact absurd (by decide) hs
   have hfl:=hl
   unfold Fine at hfl
   have hin:ready≤a+l.mins∧a+l.mins≤lim:=⟨by omega,hc.1⟩
   have hold:aft.getD (pos l.dst) (-1)=-1∨ready≤aft.getD (pos l.dst) (-1)∧aft.getD (pos l.dst) (-1)≤lim:=by
    have e:aft.getD (pos l.dst) (-1)=aft[pos l.dst]:=by rw [List.getD_eq_getElem?_getD,List.getElem?_eq_getElem hd];rfl
    rw [e];exact ha _ (List.getElem_mem hd)
   refine ⟨fun t ht=>?_,.inr ?_⟩
   ·rcases List.mem_or_eq_of_mem_set ht with h | h
    ·exact ha t h
    ·exact .inr (by omega)
   ·have:=mu_set (f:=farA ready lim) (x:=a+l.mins) hd
    unfold muA
    have e1:farA ready lim (a+l.mins)<farA ready lim (aft.getD (pos l.dst) (-1)):=by
     unfold farA
     rw [if_neg (by omega)]
     split<;>omega
    omega
theorem foldA_mu {pos:Int→Nat} {ready lim:Int} {bef:List Int} (hb:Within ready lim bef) (hr:0≤ready):∀{L:List Leg} {aft:List Int},(∀l∈L,Fine l∧pos l.dst<aft.length)→Within ready lim aft→
  Within ready lim (L.foldl (useA pos lim bef) aft)∧(L.foldl (useA pos lim bef) aft=aft∨muA ready lim (L.foldl (useA pos lim bef) aft)<muA ready lim aft)
 | [],aft,hL,ha=>⟨ha,.inl rfl⟩
 | l::L,aft,hL,ha=>by
   obtain ⟨h1,h2⟩:=hL l (List.mem_cons_self ..)
   obtain ⟨g1,g2⟩:=useA_mu (l:=l) hb ha h1 h2 hr
   obtain ⟨k1,k2⟩:=foldA_mu hb hr (L:=L) (aft:=useA pos lim bef aft l) (fun x hx=>by rw [useA_len];exact hL x (List.mem_cons_of_mem _ hx)) g1
   rw [List.foldl_cons]
   refine ⟨k1, ?_⟩
   rcases k2 with k2 | k2
   ·rw [k2];exact g2
   ·rcases g2 with g2 | g2
    ·rw [g2] at k2⊢;exact .inr k2
    ·exact .inr (by omega)
theorem stepA_mu {pos:Int→Nat} {ready lim:Int} {bef:List Int} {L:List Leg} (hb:Within ready lim bef) (hr:0≤ready) (hL:∀l∈L,Fine l∧pos l.dst<bef.length) :
  Within ready lim (stepA pos lim L bef)∧(stepA pos lim L bef=bef∨muA ready lim (stepA pos lim L bef)<muA ready lim bef):=foldA_mu hb hr hL hb
def IsArr (L:List Leg) (p ready q v:Int):Prop:=IsMin (fun u=>(∃j,Way L j p ready q u)∧u≤ready+86400) v
theorem IsArr.start {L:List Leg} {p ready v:Int} (h:IsArr L p ready p v) (hL:∀l∈L,Fine l):v=ready:=
 IsMin.uniq h (.inr ⟨⟨⟨0,.nil _ _⟩,by omega⟩,fun u ⟨⟨j,hw⟩,_⟩=>hw.later hL⟩)
theorem IsArr.ge {L:List Leg} {p ready q v:Int} (h:IsArr L p ready q v) (hL:∀l∈L,Fine l) (hv:0≤v):ready≤v∧v≤ready+86400:=by
 obtain ⟨⟨j,hw⟩,hl⟩:=h.mem hv
 exact ⟨hw.later hL,hl⟩
theorem IsArr.later {L:List Leg} {p a b q x y:Int} (hx:IsArr L p a q x) (hy:IsArr L p b q y) (hab:a≤b) (hy0:0≤y):x≤y:=by
 obtain ⟨⟨j,hw⟩,hl⟩:=hy.mem hy0
 by_cases hlim:y≤a+86400
 ·rcases hw.early hab with ⟨rfl,rfl,rfl⟩ | hw'
  ·have:=hx.le (u:=a) ⟨⟨0,.nil _ _⟩,by omega⟩;omega
  ·exact hx.le ⟨⟨j,hw'⟩,hlim⟩
 ·rcases hx with ⟨h1,_⟩ | ⟨⟨_,h1⟩,_⟩<;>omega
theorem IsArr.same {L M:List Leg} {p t q x y:Int} (hx:IsArr L p t q x) (hy:IsArr M p t q y) (hs:∀l,l∈M↔l∈L):x=y:=
 hx.uniq (hy.congr fun u=>⟨fun ⟨⟨j,hw⟩,hl⟩=>⟨⟨j,hw.mono fun l h=>(hs l).1 h⟩,hl⟩,fun ⟨⟨j,hw⟩,hl⟩=>⟨⟨j,hw.mono fun l h=>(hs l).2 h⟩,hl⟩⟩)
def IsMax (S:Int→Prop) (v:Int):Prop:=(v=-1∧∀u,¬S u)∨(S v∧∀u,S u→u≤v)
theorem IsMax.uniq {S:Int→Prop} {v w:Int} (h:IsMax S v) (h':IsMax S w):v=w:=by
 rcases h with ⟨h1,h2⟩ | ⟨h1,h2⟩<;>rcases h' with ⟨g1,g2⟩ | ⟨g1,g2⟩
 ·omega
 ·exact absurd g1 (h2 _)
 ·exact absurd h1 (g2 _)
 ·have:=h2 _ g1;have:=g2 _ h1;omega
theorem IsMax.congr {S T:Int→Prop} {v:Int} (h:IsMax S v) (e:∀u,S u↔T u):IsMax T v:=by
 rcases h with ⟨h1,h2⟩ | ⟨h1,h2⟩
 ·exact .inl ⟨h1,fun u hu=>h2 u ((e u).2 hu)⟩
 ·exact .inr ⟨(e v).1 h1,fun u hu=>h2 u ((e u).2 hu)⟩
theorem IsMax.mem {S:Int→Prop} {v:Int} (h:IsMax S v) (hv:0≤v):S v:=by
 rcases h with ⟨h1,h2⟩ | ⟨h1,h2⟩
 ·omega
 ·exact h1
theorem IsMax.none {S:Int→Prop} {v:Int} (h:IsMax S v) (h0:∀u,S u→0≤u) (hv:v<0):∀u,¬S u:=by
 rcases h with ⟨h1,h2⟩ | ⟨h1,h2⟩
 ·exact h2
 ·have:=h0 _ h1;omega
theorem IsMax.ge {S:Int→Prop} {v u:Int} (h:IsMax S v) (hu:S u):u≤v:=by
 rcases h with ⟨h1,h2⟩ | ⟨h1,h2⟩
 ·exact absurd hu (h2 _)
 ·exact h2 _ hu
theorem IsMax.one {S:Int→Prop} {v x:Int} (h:IsMax S v) (h0:∀u,S u→0≤u) (hx:0≤x):IsMax (fun u=>S u∨u=x) (if v<x then x else v):=by
 by_cases hc:v<x
 ·rw [if_pos hc]
  refine .inr ⟨.inr rfl,fun u hu=>?_⟩
  rcases hu with hu | hu
  ·have:=h.ge hu;omega
  ·omega
 ·rw [if_neg hc]
  have:=h.mem (by omega)
  refine .inr ⟨.inl this,fun u hu=>?_⟩
  rcases hu with hu | hu
  ·exact h.ge hu
  ·omega
theorem IsMax.dom {S T:Int→Prop} {v:Int} (h:IsMax S v) (h1:∀u,S u→T u) (h2:∀u,T u→∃w,u≤w∧S w):IsMax T v:=by
 rcases h with ⟨g1,g2⟩ | ⟨g1,g2⟩
 ·exact .inl ⟨g1,fun u hu=>by obtain ⟨w,_,hw⟩:=h2 u hu;exact g2 w hw⟩
 ·exact .inr ⟨h1 _ g1,fun u hu=>by obtain ⟨w,hle,hw⟩:=h2 u hu;have:=g2 w hw;omega⟩
def useB (pos:Int→Nat) (low:Int) (bef aft:List Int) (l:Leg):List Int:=
 if bef.getD (pos l.dst) (-1)<0 then aft else
 match lastD l (bef.getD (pos l.dst) (-1)) with
 | some a=>if low≤a-l.cut∧aft.getD (pos l.frm) (-1)<a-l.cut then aft.set (pos l.frm) (a-l.cut) else aft
 | none=>aft
def stepB (pos:Int→Nat) (low:Int) (L:List Leg) (bef:List Int):List Int:=L.foldl (useB pos low bef) bef
theorem useB_len {pos:Int→Nat} {low:Int} {bef aft:List Int} {l:Leg}:(useB pos low bef aft l).length=aft.length:=by
 unfold useB
 split
 ·rfl
 ·split
  ·split
   ·simp
   ·rfl
  ·rfl
theorem foldB_len {pos:Int→Nat} {low:Int} {bef:List Int}:∀{L:List Leg} {aft:List Int},(L.foldl (useB pos low bef) aft).length=aft.length
 | [],_=>rfl
 | l::L,aft=>by rw [List.foldl_cons,foldB_len,useB_len]
theorem stepB_len {pos:Int→Nat} {low:Int} {L:List Leg} {bef:List Int}:(stepB pos low L bef).length=bef.length:=foldB_len
def Gives (pos:Int→Nat) (low:Int) (bef:List Int) (l:Leg) (q:Nat) (u:Int):Prop:=
 pos l.frm=q∧0≤bef.getD (pos l.dst) (-1)∧∃a,lastD l (bef.getD (pos l.dst) (-1))=some a∧u=a-l.cut∧low≤u
theorem Dep.ready {l:Leg} {a:Int} (h:Dep l a):0≤a-l.cut:=by
 obtain ⟨d,_,hg,rfl⟩:=h
 unfold goes at hg
 simp only [Bool.and_eq_true,decide_eq_true_eq] at hg
 omega
theorem Gives.nonneg {pos:Int→Nat} {low:Int} {bef:List Int} {l:Leg} {q:Nat} {u:Int} (h:Gives pos low bef l q u):0≤u:=by
 obtain ⟨_,_,a,h1,h2,_⟩:=h
 have:=(lastD_some h1).1.ready
 omega
theorem useB_max {pos:Int→Nat} {low:Int} {bef aft:List Int} {l:Leg} {q:Nat} {S:Int→Prop} (hp:pos l.frm<aft.length) (h0:∀u,S u→0≤u) (h:IsMax S (aft.getD q (-1))) :
  IsMax (fun u=>S u∨Gives pos low bef l q u) ((useB pos low bef aft l).getD q (-1)):=by
 unfold useB
 by_cases hs:bef.getD (pos l.dst) (-1)<0
 ·rw [if_pos hs]
  exact h.congr fun u=>⟨.inl,fun hu=>hu.elim id fun hb=>absurd hb.2.1 (by omega)⟩
 rw [if_neg hs]
 cases hn:lastD l (bef.getD (pos l.dst) (-1)) with
 | none=>
   simp only []
   exact h.congr fun u=>⟨.inl,fun hu=>hu.elim id fun ⟨_,_,a,ha,_⟩=>by rw [hn] at ha;cases ha⟩
 | some a=>
   simp only []
   have ha0:0≤a-l.cut:=(lastD_some hn).1.ready
   by_cases hlim:low≤a-l.cut
   ·by_cases hq:pos l.frm=q
    ·have e:((if low≤a-l.cut∧aft.getD (pos l.frm) (-1)<a-l.cut then aft.set (pos l.frm) (a-l.cut) else aft).getD q (-1))=if aft.getD q (-1)<a-l.cut then a-l.cut else aft.getD q (-1):=by
      subst hq
      by_cases hc:aft.getD (pos l.frm) (-1)<a-l.cut
      ·rw [if_pos ⟨hlim,hc⟩,if_pos hc,getD_set hp,if_pos rfl]
      ·rw [if_neg (fun h=>hc h.2),if_neg hc]
     rw [e]
     refine (h.one h0 ha0).congr fun u=>⟨fun hu=>hu.elim .inl fun hu=>.inr ⟨hq,by omega,a,hn,hu,by omega⟩,fun hu=>hu.elim .inl fun ⟨_,_,b,hb,hu,_⟩=>?_⟩
     rw [hn] at hb;cases hb;exact .inr hu
    ·have e:((if low≤a-l.cut∧aft.getD (pos l.frm) (-1)<a-l.cut then aft.set (pos l.frm) (a-l.cut) else aft).getD q (-1))=aft.getD q (-1):=by
      split
      ·rw [getD_set hp,if_neg hq]
      ·rfl
     rw [e]
     exact h.congr fun u=>⟨.inl,fun hu=>hu.elim id fun hb=>absurd hb.1 hq⟩
   ·rw [if_neg (fun h=>hlim h.1)]
    refine h.congr fun u=>⟨.inl,fun hu=>hu.elim id fun ⟨_,_,b,hb,hu,hl⟩=>?_⟩
    rw [hn] at hb;cases hb;omega
theorem foldB_max {pos:Int→Nat} {low:Int} {bef:List Int} {q:Nat}:∀{L:List Leg} {aft:List Int} {S:Int→Prop},(∀l∈L,pos l.frm<aft.length)→(∀u,S u→0≤u)→IsMax S (aft.getD q (-1))→
  IsMax (fun u=>S u∨∃l∈L,Gives pos low bef l q u) ((L.foldl (useB pos low bef) aft).getD q (-1))
 | [],aft,S,hL,h0,h=>h.congr fun u=>⟨.inl,fun hu=>hu.elim id fun ⟨l,hl,_⟩=>by cases hl⟩
 | l::L,aft,S,hL,h0,h=>by
   rw [List.foldl_cons]
   refine (foldB_max (L:=L) (fun x hx=>?_) (fun u hu=>?_) (useB_max (low:=low) (bef:=bef) (hL l (List.mem_cons_self ..)) h0 h)).congr fun u=>?_
   ·rw [useB_len];exact hL x (List.mem_cons_of_mem _ hx)
   ·rcases hu with hu | hu
    ·exact h0 u hu
    ·exact hu.nonneg
   ·constructor
    ·rintro ((h | h) | ⟨x,hx,h⟩)
     ·exact .inl h
     ·exact .inr ⟨l,List.mem_cons_self ..,h⟩
     ·exact .inr ⟨x,List.mem_cons_of_mem _ hx,h⟩
    ·rintro (h | ⟨x,hx,h⟩)
     ·exact .inl (.inl h)
     ·rcases List.mem_cons.1 hx with rfl | hx
      ·exact .inl (.inr h)
      ·exact .inr ⟨x,hx,h⟩
def latK (N:Nat) (pos:Int→Nat) (low:Int) (L:List Leg) (q dl:Int):Nat→List Int
 | 0=>oneT N (pos q) dl
 | k+1=>stepB pos low L (latK N pos low L q dl k)
theorem latK_len {N:Nat} {pos:Int→Nat} {low:Int} {L:List Leg} {q dl:Int}:∀{k:Nat},(latK N pos low L q dl k).length=N
 | 0=>oneT_len
 | k+1=>by rw [latK,stepB_len,latK_len]
def InTime (L:List Leg) (q dl low:Int) (k:Nat) (p u:Int):Prop:=0≤u∧low≤u∧∃j,j≤k∧∃v,v≤dl∧Way L j p u q v
theorem latK_max {N:Nat} {P:List Int} {L:List Leg} {pos:Int→Nat} {low q dl:Int} (hn:NetOk N P L pos) (hq:q∈P) (hr:0≤dl) (hlow:low≤dl):∀(k:Nat) (p:Int),p∈P→
  IsMax (InTime L q dl low k p) ((latK N pos low L q dl k).getD (pos p) (-1))
 | 0,p,hp=>by
   rw [latK,oneT_get (hn.lt q hq)]
   by_cases h:pos q=pos p
   ·rw [if_pos h]
    have:=hn.inj q hq p hp h
    subst this
    exact .inr ⟨⟨hr,hlow,0,Nat.le_refl _,dl,Int.le_refl _,.nil _ _⟩,fun u ⟨_,_,j,hj,v,hv,hw⟩=>by have:=hw.later hn.fine;omega⟩
   ·rw [if_neg h]
    refine .inl ⟨rfl,fun u ⟨_,_,j,hj,v,hv,hw⟩=>?_⟩
    obtain rfl:j=0:=by omega
    cases hw
    exact h rfl
 | k+1,p,hp=>by
   have ih:=latK_max hn hq hr hlow k
   have h0:∀p u,InTime L q dl low k p u→0≤u:=fun p u h=>h.1
   rw [latK,stepB]
   refine (foldB_max (L:=L) (fun l hl=>by rw [latK_len];exact hn.lt _ (hn.frm l hl)) (h0 p) (ih p hp)).dom (fun u hu=>?_) (fun u hu=>?_)
   ·rcases hu with ⟨g0,g1,j,hj,v,hv,hw⟩ | ⟨l,hl,hd,hs,a,ha,rfl,hlim'⟩
    ·exact ⟨g0,g1,j,by omega,v,hv,hw⟩
    ·obtain ⟨_,_,j,hj,v,hv,hw⟩:=(ih l.dst (hn.dst l hl)).mem hs
     obtain ⟨g1,g2,g3⟩:=lastD_some ha
     have:=hn.inj _ (hn.frm l hl) p hp hd
     subst this
     have hb:∃v',v'≤dl∧Way L j l.dst (a+l.mins) q v':=by
      rcases hw.early g2 with ⟨rfl,e1,e2⟩ | hw'
      ·rw [e1];exact ⟨a+l.mins,by omega,.nil _ _⟩
      ·exact ⟨v,hv,hw'⟩
     obtain ⟨v',hv',hw'⟩:=hb
     exact ⟨g1.ready,hlim',j+1,by omega,v',hv',.cons hl rfl g1 (Int.le_refl _) hw'⟩
   ·obtain ⟨g0,g1,j,hj,v,hv,hw⟩:=hu
    by_cases hjk:j≤k
    ·exact ⟨u,Int.le_refl _,.inl ⟨g0,g1,j,hjk,v,hv,hw⟩⟩
    ·obtain rfl:j=k+1:=by omega
     obtain ⟨l,hl,a,hf,hd,ha,hw'⟩:=hw.head
     subst hf
     have hfl:=hn.fine l hl
     have hr0:=hd.ready
     have hS:InTime L q dl low k l.dst (a+l.mins):=⟨by unfold Fine at hfl;omega,by unfold Fine at hfl;omega,k,Nat.le_refl _,v,hv,hw'⟩
     have hge:=(ih l.dst (hn.dst l hl)).ge hS
     have hpos:0≤(latK N pos low L q dl k).getD (pos l.dst) (-1):=by have:=hS.1;omega
     cases hnx:lastD l ((latK N pos low L q dl k).getD (pos l.dst) (-1)) with
     | none=>have:=lastD_none hnx a hd;omega
     | some b=>
       obtain ⟨q1,q2,q3⟩:=lastD_some hnx
       have:=q3 a hd (by omega)
       exact ⟨b-l.cut,by omega,.inr ⟨l,hl,rfl,hpos,b,hnx,rfl,by omega⟩⟩
theorem latK_fix {N:Nat} {pos:Int→Nat} {low:Int} {L:List Leg} {q dl:Int} {k:Nat} (h:latK N pos low L q dl (k+1)=latK N pos low L q dl k):∀j,latK N pos low L q dl (k+j)=latK N pos low L q dl k
 | 0=>rfl
 | j+1=>by rw [←Nat.add_assoc,latK,latK_fix h j];exact h
theorem latK_all {N:Nat} {P:List Int} {L:List Leg} {pos:Int→Nat} {low q dl:Int} (hn:NetOk N P L pos) (hq:q∈P) (hr:0≤dl) (hlow:low≤dl) {k:Nat} (h:latK N pos low L q dl (k+1)=latK N pos low L q dl k) (p:Int) (hp:p∈P) :
  IsMax (fun u=>0≤u∧low≤u∧∃j v,v≤dl∧Way L j p u q v) ((latK N pos low L q dl k).getD (pos p) (-1)):=by
 refine (latK_max hn hq hr hlow k p hp).dom (fun u ⟨a,b,j,_,v,c,d⟩=>⟨a,b,j,v,c,d⟩) (fun u ⟨a,b,j,v,c,d⟩=>?_)
 have hm:=latK_max hn hq hr hlow (k+j) p hp
 rw [latK_fix h] at hm
 have hge:=hm.ge ⟨a,b,j,by omega,v,c,d⟩
 exact ⟨_,hge,(latK_max hn hq hr hlow k p hp).mem (by omega)⟩
def farB (low dl t:Int):Nat:=if t<0 then (dl-low).toNat+(dl).toNat+1 else (dl-t).toNat
def muB (low dl:Int) (T:List Int):Nat:=(T.map (farB low dl)).sum
def Upto (low dl:Int) (T:List Int):Prop:=∀t∈T,t=-1∨0≤t∧low≤t∧t≤dl
theorem useB_mu {pos:Int→Nat} {low dl:Int} {bef aft:List Int} {l:Leg} (hb:Upto low dl bef) (ha:Upto low dl aft) (hl:Fine l) (hd:pos l.frm<aft.length) :
  Upto low dl (useB pos low bef aft l)∧(useB pos low bef aft l=aft∨muB low dl (useB pos low bef aft l)<muB low dl aft):=by
 unfold useB
 by_cases hs:bef.getD (pos l.dst) (-1)<0
 ·rw [if_pos hs];exact ⟨ha,.inl rfl⟩
 rw [if_neg hs]
 cases hn:lastD l (bef.getD (pos l.dst) (-1)) with
 | none=>exact ⟨ha,.inl rfl⟩
 | some a=>
   simp only []
   split
   case isFalse=>exact ⟨ha,.inl rfl⟩
   rename_i hc
   obtain ⟨g1,g2,g3⟩:=lastD_some hn
   have hbr:bef.getD (pos l.dst) (-1)≤dl:=by
    by_cases h:pos l.dst<bef.length
    ·have e:bef.getD (pos l.dst) (-1)=bef[pos l.dst]:=by rw [List.getD_eq_getElem?_getD,List.getElem?_eq_getElem h];rfl
     have:=hb _ (List.getElem_mem h)
     rw [e] at hs⊢;omega
    ·rw [List.getD_eq_getElem?_getD,List.getElem?_eq_none (by omega)] at hs;exact absurd (by decide) hs
   have hr0:=g1.ready
   unfold Fine at hl
   have hold:aft.getD (pos l.frm) (-1)=-1∨0≤aft.getD (pos l.frm) (-1)∧low≤aft.getD (pos l.frm) (-1)∧aft.getD (pos l.frm) (-1)≤dl:=by
    have e:aft.getD (pos l.frm) (-1)=aft[pos l.frm]:=by rw [List.getD_eq_getElem?_getD,List.getElem?_eq_getElem hd];rfl
    rw [e];exact ha _ (List.getElem_mem hd)
   refine ⟨fun t ht=>?_,.inr ?_⟩
   ·rcases List.mem_or_eq_of_mem_set ht with h | h
    ·exact ha t h
    ·exact .inr (by omega)
   ·have:=mu_set (f:=farB low dl) (x:=a-l.cut) hd
    unfold muB
    have e1:farB low dl (a-l.cut)<farB low dl (aft.getD (pos l.frm) (-1)):=by
     unfold farB
     rw [if_neg (by omega)]
     split<;>omega
    omega
theorem foldB_mu {pos:Int→Nat} {low dl:Int} {bef:List Int} (hb:Upto low dl bef):∀{L:List Leg} {aft:List Int},(∀l∈L,Fine l∧pos l.frm<aft.length)→Upto low dl aft→
  Upto low dl (L.foldl (useB pos low bef) aft)∧(L.foldl (useB pos low bef) aft=aft∨muB low dl (L.foldl (useB pos low bef) aft)<muB low dl aft)
 | [],aft,hL,ha=>⟨ha,.inl rfl⟩
 | l::L,aft,hL,ha=>by
   obtain ⟨h1,h2⟩:=hL l (List.mem_cons_self ..)
   obtain ⟨g1,g2⟩:=useB_mu (l:=l) hb ha h1 h2
   obtain ⟨k1,k2⟩:=foldB_mu hb (L:=L) (aft:=useB pos low bef aft l) (fun x hx=>by rw [useB_len];exact hL x (List.mem_cons_of_mem _ hx)) g1
   rw [List.foldl_cons]
   refine ⟨k1, ?_⟩
   rcases k2 with k2 | k2
   ·rw [k2];exact g2
   ·rcases g2 with g2 | g2
    ·rw [g2] at k2⊢;exact .inr k2
    ·exact .inr (by omega)
def IsLat (L:List Leg) (q dl p v:Int):Prop:=IsMax (fun u=>0≤u∧dl-86400≤u∧∃j v,v≤dl∧Way L j p u q v) v
theorem IsLat.start {L:List Leg} {q dl v:Int} (h:IsLat L q dl q v) (hL:∀l∈L,Fine l) (h0:0≤dl):v=dl:=
 h.uniq (.inr ⟨⟨h0,by omega,0,dl,Int.le_refl _,.nil _ _⟩,fun u ⟨_,_,j,v,hv,hw⟩=>by have:=hw.later hL;omega⟩)
theorem IsLat.range {L:List Leg} {q dl p v:Int} (h:IsLat L q dl p v) (hL:∀l∈L,Fine l) (hv:0≤v):dl-86400≤v∧v≤dl:=by
 obtain ⟨_,h1,j,u,hu,hw⟩:=h.mem hv
 have:=hw.later hL
 exact ⟨h1,by omega⟩
theorem IsLat.later {L:List Leg} {p q a b x y:Int} (hx:IsLat L q a p x) (hy:IsLat L q b p y) (hL:∀l∈L,Fine l) (hab:a≤b) (hx0:0≤x) (hy0:0≤y):x≤y:=by
 obtain ⟨h1,h2,j,v,hv,hw⟩:=hx.mem hx0
 by_cases h:b-86400≤x
 ·exact hy.ge ⟨h1,h,j,v,by omega,hw⟩
 ·have:=(hy.range hL hy0).1;omega
theorem IsLat.same {L M:List Leg} {p q dl x y:Int} (hx:IsLat L q dl p x) (hy:IsLat M q dl p y) (hs:∀l,l∈M↔l∈L):x=y:=
 hx.uniq (hy.congr fun u=>⟨fun ⟨a,b,j,v,hv,hw⟩=>⟨a,b,j,v,hv,hw.mono fun l h=>(hs l).1 h⟩,fun ⟨a,b,j,v,hv,hw⟩=>⟨a,b,j,v,hv,hw.mono fun l h=>(hs l).2 h⟩⟩)
def useX (pos:Int→Nat) (bef aft:List Int) (l:Leg):List Int:=
 if bef.getD (pos l.dst) (-1)<0 then aft else
 match lastD l (bef.getD (pos l.dst) (-1)) with
 | some a=>aft.set (pos l.frm) (if aft.getD (pos l.frm) (-1)<a-l.cut then a-l.cut else aft.getD (pos l.frm) (-1))
 | none=>aft
def stepX (N:Nat) (pos:Int→Nat) (L:List Leg) (bef:List Int):List Int:=L.foldl (useX pos bef) (List.replicate N (-1))
theorem useX_useB {pos:Int→Nat} {bef aft:List Int} {l:Leg}:useX pos bef aft l=useB pos 0 bef aft l:=by
 unfold useX useB
 split
 ·rfl
 cases ha:lastD l (bef.getD (pos l.dst) (-1)) with
 | none=>rfl
 | some a=>
   have:=(lastD_some ha).1.ready
   by_cases h:aft.getD (pos l.frm) (-1)<a-l.cut
   ·simp only [h,this,and_self,if_true]
   ·simp only [h,and_false,if_false]
    apply List.ext_getElem?
    intro i
    rw [List.getElem?_set]
    split
    ·rename_i e;subst e
     split
     ·rename_i hl;rw [List.getD_eq_getElem?_getD,List.getElem?_eq_getElem hl];rfl
     ·rename_i hl;rw [List.getElem?_eq_none (by omega)]
    ·rfl
def exaK (N:Nat) (pos:Int→Nat) (L:List Leg) (q dl:Int):Nat→List Int
 | 0=>oneT N (pos q) dl
 | k+1=>stepX N pos L (exaK N pos L q dl k)
theorem foldX {pos:Int→Nat} {bef:List Int}:∀{L:List Leg} {aft:List Int},L.foldl (useX pos bef) aft=L.foldl (useB pos 0 bef) aft
 | [],_=>rfl
 | l::L,aft=>by rw [List.foldl_cons,List.foldl_cons,useX_useB,foldX]
theorem exaK_max {N:Nat} {P:List Int} {L:List Leg} {pos:Int→Nat} {q dl:Int} (hn:NetOk N P L pos) (hq:q∈P) (hr:0≤dl):∀(k:Nat) (p:Int),p∈P→
  IsMax (fun u=>0≤u∧∃v,v≤dl∧Way L k p u q v) ((exaK N pos L q dl k).getD (pos p) (-1))
 | 0,p,hp=>by
   rw [exaK,oneT_get (hn.lt q hq)]
   by_cases h:pos q=pos p
   ·rw [if_pos h]
    have:=hn.inj q hq p hp h
    subst this
    exact .inr ⟨⟨hr,dl,Int.le_refl _,.nil _ _⟩,fun u ⟨_,v,hv,hw⟩=>by have:=hw.later hn.fine;omega⟩
   ·rw [if_neg h]
    refine .inl ⟨rfl,fun u ⟨_,v,hv,hw⟩=>?_⟩
    cases hw
    exact h rfl
 | k+1,p,hp=>by
   have ih:=exaK_max hn hq hr k
   rw [exaK,stepX,foldX]
   have hrep:(List.replicate N (-1:Int)).getD (pos p) (-1)=-1:=by
    rw [List.getD_eq_getElem?_getD,List.getElem?_replicate];split<;>rfl
   refine (foldB_max (L:=L) (S:=fun _=>False) (fun l hl=>by rw [List.length_replicate];exact hn.lt _ (hn.frm l hl)) (fun _ h=>h.elim) (.inl ⟨hrep,fun _ h=>h⟩)).dom (fun u hu=>?_) (fun u hu=>?_)
   ·rcases hu with hu | ⟨l,hl,hd,hs,a,ha,rfl,hlim'⟩
    ·exact hu.elim
    ·obtain ⟨_,v,hv,hw⟩:=(ih l.dst (hn.dst l hl)).mem hs
     obtain ⟨g1,g2,g3⟩:=lastD_some ha
     have:=hn.inj _ (hn.frm l hl) p hp hd
     subst this
     have hb:∃v',v'≤dl∧Way L k l.dst (a+l.mins) q v':=by
      rcases hw.early g2 with ⟨rfl,e1,e2⟩ | hw'
      ·rw [e1];exact ⟨a+l.mins,by omega,.nil _ _⟩
      ·exact ⟨v,hv,hw'⟩
     obtain ⟨v',hv',hw'⟩:=hb
     exact ⟨g1.ready,v',hv',.cons hl rfl g1 (Int.le_refl _) hw'⟩
   ·obtain ⟨g0,v,hv,hw⟩:=hu
    obtain ⟨l,hl,a,hf,hd,ha,hw'⟩:=hw.head
    subst hf
    have hfl:=hn.fine l hl
    have hr0:=hd.ready
    have hge:=(ih l.dst (hn.dst l hl)).ge (u:=a+l.mins) ⟨by unfold Fine at hfl;omega,v,hv,hw'⟩
    have hpos:0≤(exaK N pos L q dl k).getD (pos l.dst) (-1):=by unfold Fine at hfl;omega
    cases hnx:lastD l ((exaK N pos L q dl k).getD (pos l.dst) (-1)) with
    | none=>have:=lastD_none hnx a hd;omega
    | some b=>
      obtain ⟨q1,q2,q3⟩:=lastD_some hnx
      have:=q3 a hd (by omega)
      exact ⟨b-l.cut,by omega,.inr ⟨l,hl,rfl,hpos,b,hnx,rfl,by omega⟩⟩
def IsWay (L:List Leg):Int→Int→List (Leg×Int)→Int→Int→Prop
 | p,t,[],q,u=>p=q∧t=u
 | p,t,(l,a)::w,q,u=>l∈L∧l.frm=p∧Dep l a∧t≤a-l.cut∧IsWay L l.dst (a+l.mins) w q u
theorem IsWay.way {L:List Leg}:∀{w:List (Leg×Int)} {p t q u:Int},IsWay L p t w q u→Way L w.length p t q u
 | [],p,t,q,u,h=>by obtain ⟨rfl,rfl⟩:=h;exact .nil _ _
 | (l,a)::w,p,t,q,u,h=>by
   obtain ⟨h1,h2,h3,h4,h5⟩:=h
   exact .cons h1 h2 h3 h4 h5.way
theorem Way.isWay {L:List Leg}:∀{k:Nat} {p t q u:Int},Way L k p t q u→∃w,w.length=k∧IsWay L p t w q u
 | 0,p,t,q,u,h=>by cases h;exact ⟨[],rfl,rfl,rfl⟩
 | k+1,p,t,q,u,h=>by
   obtain ⟨l,hl,a,hf,hd,ha,hw⟩:=h.head
   obtain ⟨w,e,hw⟩:=hw.isWay
   exact ⟨(l,a)::w,by simp [e],hl,hf,hd,ha,hw⟩
def pickOk (pos:Int→Nat) (late:List Int) (plant there:Int) (l:Leg):Option (Leg×Int):=
 if l.frm=plant then match nextD l there with
  | some a=>if a+l.mins≤late.getD (pos l.dst) (-1) then some (l,a) else none
  | none=>none
 else none
def pickW (pos:Int→Nat) (S:List Leg) (late:List Int) (plant there:Int):Option (Leg×Int):=S.findSome? (pickOk pos late plant there)
def goW (pos:Int→Nat) (S:List Leg) (late:Nat→List Int):Nat→Int→Int→List (Leg×Int)
 | 0,_,_=>[]
 | k+1,p,t=>match pickW pos S (late k) p t with
   | some (l,a)=>(l,a)::goW pos S late k l.dst (a+l.mins)
   | none=>goW pos S late k p t
def lexL:List Int→List Int→Prop
 | x::a,y::b=>x<y∨x=y∧lexL a b
 | _,_=>False
def idsW (w:List (Leg×Int)):List Int:=w.map fun x=>x.1.id
theorem pickOk_some {pos:Int→Nat} {late:List Int} {p t:Int} {l:Leg} {r:Leg×Int} (h:pickOk pos late p t l=some r):l.frm=p∧r.1=l∧nextD l t=some r.2∧r.2+l.mins≤late.getD (pos l.dst) (-1):=by
 unfold pickOk at h
 split at h
 case isFalse=>cases h
 rename_i hf
 split at h
 case h_2=>cases h
 rename_i a ha
 split at h
 case isFalse=>cases h
 rename_i hl
 cases h
 exact ⟨hf,rfl,ha,hl⟩
theorem goW_spec {N:Nat} {P:List Int} {L S:List Leg} {pos:Int→Nat} {q dl:Int} {late:Nat→List Int} (hn:NetOk N P L pos) (hq:q∈P) (hr:0≤dl)
  (hS:∀l,l∈S↔l∈L) (hs:S.Pairwise fun a b=>a.id<b.id) (hlate:∀k,late k=exaK N pos L q dl k):∀(k:Nat) (p t:Int),p∈P→0≤t→(∃v,v≤dl∧Way L k p t q v)→
  (goW pos S late k p t).length=k∧(∃v,v≤dl∧IsWay L p t (goW pos S late k p t) q v)∧
   ∀w' t' v',t≤t'→IsWay L p t' w' q v'→v'≤dl→w'.length=k→¬lexL (idsW w') (idsW (goW pos S late k p t))
 | 0,p,t,hp,ht,⟨v,hv,hw⟩=>by
   cases hw
   exact ⟨rfl,⟨_,hv,rfl,rfl⟩,fun w' t' v' _ _ _ hl=>by cases w' with | nil=>exact fun h=>h | cons=>simp at hl⟩
 | k+1,p,t,hp,ht,⟨v,hv,hw⟩=>by
   have can:∀l∈L,∀a t' v:Int,l.frm=p→Dep l a→t≤t'→t'≤a-l.cut→Way L k l.dst (a+l.mins) q v→v≤dl→∃b,pickOk pos (late k) p t l=some (l,b)∧b≤a:=by
    intro l hl a t' v hf hd htt ha hw hv
    have hfl:=hn.fine l hl
    have hr0:=hd.ready
    have hge:=(exaK_max hn hq hr k l.dst (hn.dst l hl)).ge (u:=a+l.mins) ⟨by unfold Fine at hfl;omega,v,hv,hw⟩
    cases hx:nextD l t with
    | none=>have:=nextD_none hx a hd;omega
    | some b=>
      obtain ⟨q1,q2,q3⟩:=nextD_some hx
      have:=q3 a hd (by omega)
      refine ⟨b, ?_,this⟩
      simp only [pickOk,hf,if_true,hx,hlate]
      rw [if_pos (by omega)]
   obtain ⟨l0,hl0,a0,hf0,hd0,ha0,hw0⟩:=hw.head
   obtain ⟨b0,hb0,_⟩:=can l0 hl0 a0 t v hf0 hd0 (Int.le_refl _) ha0 hw0 hv
   have hne:pickW pos S (late k) p t≠none:=by
    intro e
    unfold pickW at e
    rw [List.findSome?_eq_none_iff] at e
    rw [e l0 ((hS l0).2 hl0)] at hb0;cases hb0
   cases hp1:pickW pos S (late k) p t with
   | none=>exact absurd hp1 hne
   | some r=>
     obtain ⟨l,a⟩:=r
     have hp2:=hp1
     unfold pickW at hp2
     obtain ⟨S1,x,S2,hSe,hx,hnone⟩:=List.findSome?_eq_some_iff.1 hp2
     obtain ⟨g1,g2,g3,g4⟩:=pickOk_some hx
     simp only at g2 g3 g4
     subst g2
     have hlL:l∈L:=(hS l).1 (by rw [hSe];simp)
     have hfl:=hn.fine l hlL
     obtain ⟨q1,q2,q3⟩:=nextD_some g3
     rw [hlate] at g4
     have hr1:=q1.ready
     obtain ⟨_,v1,hv1,hw1⟩:=(exaK_max hn hq hr k l.dst (hn.dst l hlL)).mem (by unfold Fine at hfl;omega)
     have hrest:∃v,v≤dl∧Way L k l.dst (a+l.mins) q v:=by
      rcases hw1.early g4 with ⟨rfl,e1,e2⟩ | hw'
      ·rw [e1];exact ⟨a+l.mins,by omega,.nil _ _⟩
      ·exact ⟨v1,hv1,hw'⟩
     obtain ⟨i1,⟨v2,hv2,i2⟩,i3⟩:=goW_spec hn hq hr hS hs hlate k l.dst (a+l.mins) (hn.dst l hlL) (by unfold Fine at hfl;omega) hrest
     have hgo:goW pos S late (k+1) p t=(l,a)::goW pos S late k l.dst (a+l.mins):=by simp only [goW,hp1]
     rw [hgo]
     refine ⟨by simp [i1],⟨v2,hv2,hlL,g1,q1,q2,i2⟩,fun w' t' v' htt hw' hv' hlen=>?_⟩
     cases w' with
     | nil=>simp at hlen
     | cons y w'=>
       obtain ⟨l',a'⟩:=y
       obtain ⟨h1,h2,h3,h4,h5⟩:=hw'
       have hlen':w'.length=k:=by simpa using hlen
       obtain ⟨b',hb',hba⟩:=can l' h1 a' t' v' h2 h3 htt h4 (hlen'▸h5.way) hv'
       intro hlex
       simp only [idsW,List.map_cons,lexL] at hlex
       have hin:l'∈S:=(hS l').2 h1
       rw [hSe] at hin hs
       rcases hlex with hlt | ⟨heq,hlt⟩
       ·
        rcases List.mem_append.1 hin with hin | hin
        ·rw [hnone l' hin] at hb';cases hb'
        ·rcases List.mem_cons.1 hin with rfl | hin
         ·omega
         ·have:=(List.pairwise_cons.1 (List.pairwise_append.1 hs).2.1).1 l' hin;omega
       ·have hll:l'=l:=by
         rcases List.mem_append.1 hin with hin | hin
         ·have:=(List.pairwise_append.1 hs).2.2 l' hin l (by simp);omega
         ·rcases List.mem_cons.1 hin with h | hin
          ·exact h
          ·have:=(List.pairwise_cons.1 (List.pairwise_append.1 hs).2.1).1 l' hin;omega
        subst hll
        have:=q3 a' h3 (by omega)
        exact i3 w' (a'+l'.mins) v' (by omega) h5 hv' hlen' hlt
theorem IsWay.later {L:List Leg} {w:List (Leg×Int)} {p t q u:Int} (h:IsWay L p t w q u) (hL:∀l∈L,Fine l):t≤u:=h.way.later hL
theorem IsWay.from {L:List Leg} (hL:∀l∈L,Fine l):∀{w:List (Leg×Int)} {p t q u m:Int},IsWay L p t w q u→m∈w.map (fun x=>x.1.dst)→∃k s,k<w.length∧t≤s∧Way L k m s q u
 | [],_,_,_,_,_,_,h=>by simp at h
 | (l,a)::w,p,t,q,u,m,h,hm=>by
   obtain ⟨h1,h2,h3,h4,h5⟩:=h
   have hfl:=hL l h1
   unfold Fine at hfl
   rw [List.map_cons,List.mem_cons] at hm
   rcases hm with rfl | hm
   ·exact ⟨w.length,a+l.mins,by simp,by omega,h5.way⟩
   ·obtain ⟨k,s,g1,g2,g3⟩:=IsWay.from hL h5 hm
    exact ⟨k,s,by simp;omega,by omega,g3⟩
theorem IsWay.nodup {L:List Leg} (hL:∀l∈L,Fine l):∀{w:List (Leg×Int)} {p t q v:Int},IsWay L p t w q v→(∀j v',Way L j p t q v'→v'≤v→w.length≤j)→(p::w.map (fun x=>x.1.dst)).Nodup
 | [],_,_,_,_,_,_=>by simp
 | (l,a)::w,p,t,q,v,h,hmin=>by
   rw [List.nodup_cons]
   constructor
   ·intro hm
    obtain ⟨k,s,g1,g2,g3⟩:=IsWay.from hL h hm
    rcases g3.early g2 with ⟨rfl,rfl,e⟩ | hw
    ·have:=hmin 0 t (.nil _ _) (by omega);simp at this
    ·have:=hmin k v hw (Int.le_refl _);omega
   ·obtain ⟨h1,h2,h3,h4,h5⟩:=h
    rw [List.map_cons]
    exact h5.nodup hL fun j v' hw hv=>by
     have:=hmin (j+1) v' (.cons h1 h2 h3 h4 hw) hv
     simpa using this
theorem IsWay.uniq {L:List Leg}:∀{w:List (Leg×Int)} {p t q u q' u':Int},IsWay L p t w q u→IsWay L p t w q' u'→q=q'∧u=u'
 | [],_,_,_,_,_,_,h,h'=>⟨h.1.symm.trans h'.1,h.2.symm.trans h'.2⟩
 | (l,a)::w,_,_,_,_,_,_,h,h'=>h.2.2.2.2.uniq h'.2.2.2.2
def Nexts:Int→List (Leg×Int)→Prop
 | _,[]=>True
 | t,(l,a)::w=>nextD l t=some a∧Nexts (a+l.mins) w
structure BestW (L:List Leg) (p ready q v:Int) (w:List (Leg×Int)):Prop where
 way:IsWay L p ready w q v
 few:∀j v',Way L j p ready q v'→v'≤v→w.length≤j
 least:∀w' v',IsWay L p ready w' q v'→v'≤v→w'.length=w.length→¬lexL (idsW w') (idsW w)
 next:Nexts ready w
theorem goW_nexts {pos:Int→Nat} {S:List Leg} {late:Nat→List Int}:∀(k:Nat) (p t:Int),Nexts t (goW pos S late k p t)
 | 0,_,_=>trivial
 | k+1,p,t=>by
   simp only [goW]
   cases hp:pickW pos S (late k) p t with
   | none=>exact goW_nexts k p t
   | some r=>
     obtain ⟨l,a⟩:=r
     unfold pickW at hp
     obtain ⟨S1,x,S2,hSe,hx,hnone⟩:=List.findSome?_eq_some_iff.1 hp
     obtain ⟨g1,g2,g3,g4⟩:=pickOk_some hx
     simp only at g2 g3
     subst g2
     exact ⟨g3,goW_nexts k l.dst (a+l.mins)⟩
theorem first_at {f:Nat→Int} {v:Int}:∀{n:Nat},f n=v→∃k,k≤n∧f k=v∧∀j,j<k→f j≠v
 | 0,h=>⟨0,Nat.le_refl _,h,fun j hj=>by omega⟩
 | n+1,h=>by
   by_cases h1:∃m,m≤n∧f m=v
   ·obtain ⟨m,hm,h2⟩:=h1
    obtain ⟨k,k1,k2,k3⟩:=first_at (n:=m) h2
    exact ⟨k,by omega,k2,k3⟩
   ·exact ⟨n+1,Nat.le_refl _,h,fun j hj e=>h1 ⟨j,by omega,e⟩⟩
termination_by n=>n
theorem lexL_total:∀{a b:List Int},a.length=b.length→¬lexL a b→¬lexL b a→a=b
 | [],[],_,_,_=>rfl
 | [],_::_,h,_,_=>by simp at h
 | _::_,[],h,_,_=>by simp at h
 | x::a,y::b,h,h1,h2=>by
   simp only [lexL,not_or,not_and] at h1 h2
   have e:x=y:=by omega
   subst e
   rw [lexL_total (by simpa using h) (h1.2 rfl) (h2.2 rfl)]
theorem same_ids {L:List Leg} (hid:∀a∈L,∀b∈L,a.id=b.id→a=b):∀{w w':List (Leg×Int)} {p q u p' t t' q' u':Int},IsWay L p t w q u→IsWay L p' t' w' q' u'→t=t'→Nexts t w→Nexts t' w'→idsW w=idsW w'→w=w'
 | [],[],_,_,_,_,_,_,_,_,_,_,_,_,_,_=>rfl
 | [],_::_,_,_,_,_,_,_,_,_,_,_,_,_,_,h=>by simp [idsW] at h
 | _::_,[],_,_,_,_,_,_,_,_,_,_,_,_,_,h=>by simp [idsW] at h
 | (l,a)::w,(l',a')::w',p,q,u,p',t,t',q',u',h,h',e,n,n',hi=>by
   subst e
   simp only [idsW,List.map_cons,List.cons.injEq] at hi
   have:=hid l h.1 l' h'.1 hi.1
   subst this
   have ha:=n.1.symm.trans n'.1
   cases ha
   rw [same_ids hid h.2.2.2.2 h'.2.2.2.2 rfl n.2 n'.2 hi.2]
theorem BestW.uniq {L M:List Leg} {p t q v:Int} {w w':List (Leg×Int)} (hs:∀l,l∈M↔l∈L) (hid:∀a∈L,∀b∈L,a.id=b.id→a=b) (h:BestW L p t q v w) (h':BestW M p t q v w'):w=w':=by
 have mono:∀{A B:List Leg},(∀l∈A,l∈B)→∀{w:List (Leg×Int)} {p t q u:Int},IsWay A p t w q u→IsWay B p t w q u:=by
  intro A B hAB w
  induction w with
  | nil=>intro p t q u h;exact h
  | cons x w ih=>intro p t q u h;exact ⟨hAB _ h.1,h.2.1,h.2.2.1,h.2.2.2.1,ih h.2.2.2.2⟩
 have hw':IsWay L p t w' q v:=mono (fun l hl=>(hs l).1 hl) h'.way
 have hw:IsWay M p t w q v:=mono (fun l hl=>(hs l).2 hl) h.way
 have l1:=h.few _ _ hw'.way (Int.le_refl _)
 have l2:=h'.few _ _ hw.way (Int.le_refl _)
 have hl:w.length=w'.length:=by omega
 have e:idsW w=idsW w':=lexL_total (by simp [idsW,hl]) (h'.least _ _ hw (Int.le_refl _) hl) (h.least _ _ hw' (Int.le_refl _) hl.symm)
 exact same_ids hid h.way hw' rfl h.next h'.next e
theorem goW_best {N:Nat} {P:List Int} {L S:List Leg} {pos:Int→Nat} {p q ready v:Int} {late:Nat→List Int} {k:Nat} (hn:NetOk N P L pos) (hp:p∈P) (hq:q∈P) (hr:0≤ready) (hv0:0≤v)
  (hS:∀l,l∈S↔l∈L) (hs:S.Pairwise fun a b=>a.id<b.id) (hlate:∀k,late k=exaK N pos L q v k) (hv:IsArr L p ready q v)
  (hk:(arrK N pos (ready+86400) L p ready k).getD (pos q) (-1)=v) (hno:∀j,j<k→(arrK N pos (ready+86400) L p ready j).getD (pos q) (-1)≠v) :
  BestW L p ready q v (goW pos S late k p ready)∧(goW pos S late k p ready).length=k:=by
 obtain ⟨_,hvl⟩:=hv.mem hv0
 have few:∀j v',Way L j p ready q v'→v'≤v→k≤j:=by
  intro j v' hw hv'
  apply Decidable.byContradiction;intro hc
  have hm:=arrK_min hn hp hr (by omega:ready≤ready+86400) j q hq
  have h1:=hm.le (u:=v') ⟨⟨j,Nat.le_refl _,hw⟩,by omega⟩
  have h2:0≤(arrK N pos (ready+86400) L p ready j).getD (pos q) (-1):=by
   apply Decidable.byContradiction;intro hc2
   exact hm.none (fun u ⟨⟨i,_,hw⟩,_⟩=>by have:=hw.later hn.fine;omega) (by omega) v' ⟨⟨j,Nat.le_refl _,hw⟩,by omega⟩
  obtain ⟨⟨i,hi,hw2⟩,hl2⟩:=hm.mem h2
  have h3:=hv.le (u:=(arrK N pos (ready+86400) L p ready j).getD (pos q) (-1)) ⟨⟨i,hw2⟩,hl2⟩
  exact hno j (by omega) (by omega)
 have hm:=arrK_min hn hp hr (by omega:ready≤ready+86400) k q hq
 rw [hk] at hm
 obtain ⟨⟨i,hi,hw⟩,_⟩:=hm.mem hv0
 have hik:i=k:=by have:=few i v hw (Int.le_refl _);omega
 subst hik
 obtain ⟨g1,⟨v',g2,g3⟩,g4⟩:=goW_spec hn hq hv0 hS hs hlate i p ready hp hr ⟨v,Int.le_refl _,hw⟩
 have e:v'=v:=by
  have:=hv.le (u:=v') ⟨⟨_,g3.way⟩,by omega⟩
  omega
 subst e
 exact ⟨⟨g3,fun j v' hw hv'=>by rw [g1];exact few j v' hw hv',fun w' v' hw' hv' hl=>g4 w' ready v' (Int.le_refl _) hw' hv' (by omega),goW_nexts _ _ _⟩,g1⟩
end Go.Net

