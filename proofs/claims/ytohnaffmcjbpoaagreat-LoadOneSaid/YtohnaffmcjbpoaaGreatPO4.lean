/-
  Joined texts, 4 of 9. A part of the claim that the last text states.
-/
import Derived.Test.YtohnaffmcjbpoaaGreatPO3
set_option linter.unusedVariables false
set_option linter.unusedSimpArgs false
set_option linter.defProp false
set_option linter.unusedSectionVars false
set_option maxRecDepth 100000
set_option maxHeartbeats 4000000
namespace Go.AM
section
variable {G G' K:zH} {R:Nat} {b:Blk}
structure Mut (G G':zH) (R:Nat):Prop where
 len:G'.length=G.length
 other:∀j,j≠R→zG G' j=zG G j
theorem Mut.ext {H:zH} (h:Mut G G' R) (hE:Ext H G) (hR:H.length≤R):Ext H G':=by
 obtain ⟨Y,rfl⟩:=hE
 refine ⟨G'.drop H.length, ?_⟩
 apply List.ext_getElem
 ·have:=h.len;simp at this⊢;omega
 intro i h1 h2
 have hl:=h.len
 simp at hl
 by_cases hi:i<H.length
 ·rw [List.getElem_append_left hi]
  have:=h.other i (by omega)
  unfold zG at this
  rw [List.getD_eq_getElem?_getD,List.getD_eq_getElem?_getD,List.getElem?_eq_getElem h1,List.getElem?_eq_getElem (by simp;omega)] at this
  simp only [Option.getD_some] at this
  rw [this,List.getElem_append_left hi]
 ·rw [List.getElem_append_right (by omega),List.getElem_drop]
  congr 1
  omega
theorem Mut.cells (h:Mut G G' R) {j:Nat} {ro:Bool} {c:List Value} (hj:zG G j=.cells ro c) (hne:j≠R):zG G' j=.cells ro c:=by rw [h.other j hne];exact hj
theorem Mut.alive (h:Mut G G' R) {j:Nat} {B:Blk} (hj:zG G j=B) (hne:j≠R):zG G' j=B:=by rw [h.other j hne];exact hj
theorem Mut.sl {α:Type} {enc:α→List Value} {e:Nat} {p:Option Addr} {l:List α} (h:Mut G G' R) (hs:Sl G enc e p l) (hp:∀a,p=some a→l≠[]→a.block≠R):Sl G' enc e p l:=by
 cases p with
 | none=>exact hs
 | some a=>
   refine ⟨hs.1,fun hn=>?_⟩
   obtain ⟨ro,c,h2,h3⟩:=hs.2 hn
   exact ⟨ro,c,h.cells h2 (hp a rfl hn),h3⟩
theorem len_rules (h:G'.length=G.length):(G'.length=G.length)∧(∀(X:zH) (j:Nat),zG (G'++X) (G.length+j)=X.getD j .dead)∧(∀X:zH,zG (G'++X) G.length=X.getD 0 .dead)∧
  (∀(X:zH) (j:Nat) b,(G'++X).set (G.length+j) b=G'++X.set j b)∧(∀(X:zH) b,(G'++X).set G.length b=G'++X.set 0 b):=by
 refine ⟨h,fun X j=>by rw [←h];exact zHw,fun X=>by rw [←h];exact zHn,fun X j b=>?_,fun X b=>?_⟩
 ·rw [←h,List.set_append_right _ _ (by omega)];simp
 ·rw [←h,List.set_append_right _ _ (by omega)];simp
theorem za4 (hR:R<G.length) (b:Blk):∃G',(∀X:zH,(G++X).set R b=G'++X)∧zG G' R=b∧Mut G G' R:=
 ⟨G.set R b,fun X=>List.set_append_left _ _ hR,zbi hR,by simp,fun j hj=>zHs hj⟩
end
def Own {α:Type} (lim:Nat) (G:zH) (enc:α→List Value) (e:Nat) (p:Option Addr) (cap:Nat) (l:List α):Prop:=
 (l=[]∧p=none∧cap=0)∨∃R,p=some ⟨R,0,none⟩∧cap=loose e∧zG G R=.cells false (l.flatMap enc)∧lim≤R
section
variable {α:Type} {lim e bytes cap:Nat} {G:zH} {enc:α→List Value} {p:Option Addr} {l m:List α}
theorem Own.nil:Own lim G enc e none 0 []:=.inl ⟨rfl,rfl,rfl⟩
theorem Own.app (h:Own lim G enc e p cap l) (X:zH):Own lim (G++X) enc e p cap l:=by
 rcases h with h | ⟨R,h1,h2,h3,h4⟩
 ·exact .inl h
 ·exact .inr ⟨R,h1,h2,by rw [zHo (zHa h3)];exact h3,h4⟩
theorem Own.mut {G':zH} {R:Nat} (h:Own lim G enc e p cap l) (hm:Mut G G' R) (hp:∀a,p=some a→a.block≠R):Own lim G' enc e p cap l:=by
 rcases h with h | ⟨R',h1,h2,h3,h4⟩
 ·exact .inl h
 ·exact .inr ⟨R',h1,h2,hm.cells h3 (hp _ h1),h4⟩
theorem Own.new {R:Nat} (hR:zG G R=.cells false (l.flatMap enc)) (hl:lim≤R):Own lim G enc e (some ⟨R,0,none⟩) (loose e) l:=.inr ⟨R,rfl,rfl,hR,hl⟩
theorem Own.sl (h:Own lim G enc e p cap l) (he:∀x,(enc x).length=e):Sl G enc e p l:=by
 rcases h with ⟨h1,h2,_⟩ | ⟨R,h1,h2,h3,h4⟩
 ·subst h1 h2;rfl
 ·subst h1;exact Sl.lit he (by rw [h3];rfl) (by rw [h3];rfl)
theorem Own.le (h:Own lim G enc e p cap l) {lim':Nat} (hl:lim'≤lim):Own lim' G enc e p cap l:=by
 rcases h with h | ⟨R,h1,h2,h3,h4⟩
 ·exact .inl h
 ·exact .inr ⟨R,h1,h2,h3,by omega⟩
theorem Own.block (h:Own lim G enc e p cap l) {a:Addr} (ha:p=some a):lim≤a.block∧a.block<G.length:=by
 rcases h with ⟨h1,h2,h3⟩ | ⟨R,h1,h2,h3,h4⟩
 ·rw [h2] at ha;cases ha
 ·rw [h1] at ha;cases ha;exact ⟨h4,zHa h3⟩
theorem Sl.cells (hs:Sl G enc e p m) (hm:m≠[]):∃a,p=some a∧AM.loadCells G a (m.length*e)=some (m.flatMap enc):=by
 cases p with
 | none=>exact absurd hs hm
 | some a=>
   obtain ⟨k1,k2⟩:=hs
   obtain ⟨ro,cs,k3,k4,k5⟩:=k2 hm
   refine ⟨a,rfl, ?_⟩
   obtain ⟨ab,ao,as'⟩:=a
   simp only [za2]
   simp only at k3 k4 k5
   simp only [k3]
   rw [if_pos k4,k5]
theorem Own.push {lim':Nat} (h:Own lim G enc e p cap l) (hll:lim'≤lim) (he:∀x,(enc x).length=e) (he0:e≠0) (m:List α) (hm:m≠[]) (hb:(l.length+m.length)*bytes≤za3) (hn:l.length+m.length<2 ^ 61) :
  ∃(G':zH) (R:Nat),(p=none→R=G.length)∧(∀a,p=some a→R=a.block)∧Mut G G' R∧(∀j,j≠R→zG G' j=zG G j)∧(∀H0:zH,Ext H0 G→H0.length≤lim→Ext H0 G')∧
   (∀(X:zH) (px:Option Addr) (k:Nat),Sl (G++X) enc e px m→zAa lim' none e bytes false (.slice p l.length cap) (.slice px m.length k) (G++X)=some (.slice (some ⟨G.length+X.length,0,none⟩) (l.length+m.length) (loose e),G'++(X++[.cells false ((l++m).flatMap enc)]))):=by
 have hm0:¬m.length=0:=by intro q;exact hm (List.length_eq_zero_iff.1 q)
 rcases h with ⟨h1,h2,h3⟩ | ⟨R,h1,h2,h3,h4⟩
 ·subst h1 h2 h3
  refine ⟨G,G.length,fun _=>rfl,fun a h=>(by cases h),⟨rfl,fun j _=>rfl⟩,fun j _=>rfl,fun H0 h _=>h,fun X px k hx=>?_⟩
  obtain ⟨a,rfl,hl⟩:=hx.cells hm
  simp only [List.length_nil,Nat.zero_add] at hb hn
  simp only [zAa,firstCells,lenOf,hl,hm0,if_false,Bool.false_eq_true,List.length_nil,Nat.zero_add]
  rw [if_neg (by omega)]
  simp [place]
 ·subst h1 h2
  have hRl:=zHa h3
  refine ⟨G.set R .dead,R,fun h=>(by cases h),fun a h=>(by cases h;rfl),⟨by simp,fun j hj=>zHs hj⟩,fun j hj=>zHs hj,fun H0 h hl=>Mut.ext (R:=R) ⟨by simp,fun j hj=>zHs hj⟩ h (by omega),fun X px k hx=>?_⟩
  obtain ⟨a,rfl,hl⟩:=hx.cells hm
  have hR':zG (G++X) R=.cells false (l.flatMap enc):=by rw [zHo hRl];exact h3
  have hold:AM.loadCells (G++X) ⟨R,0,none⟩ (l.length*e)=some (l.flatMap enc):=by
   simp only [za2,hR',Nat.zero_add,zaa he,Nat.le_refl,if_true,List.drop_zero]
   rw [List.take_of_length_le (by rw [zaa he];exact Nat.le_refl _)]
  simp only [zAa,firstCells,lenOf,hl,hold,hR',hm0,if_false,Bool.false_eq_true,if_true]
  rw [if_neg (by unfold loose;omega)]
  simp [show lim'≤R by omega,place,List.set_append_left _ _ hRl,List.append_assoc]
theorem Own.push1 {lim':Nat} (h:Own lim G enc e p cap l) (hll:lim'≤lim) (he:∀x,(enc x).length=e) (he0:e≠0) (x:α) (hb:(l.length+1)*bytes≤za3) (hn:l.length+1<2 ^ 61) :
  ∃(G':zH) (R:Nat),(p=none→R=G.length)∧(∀a,p=some a→R=a.block)∧Mut G G' R∧(∀H0:zH,Ext H0 G→H0.length≤lim→Ext H0 G')∧
   (∀(X:zH) (b k:Nat),zG (G++X) b=.cells false (enc x)→zAa lim' none e bytes false (.slice p l.length cap) (.slice (some ⟨b,0,none⟩) 1 k) (G++X)=some (.slice (some ⟨G.length+X.length,0,none⟩) (l.length+1) (loose e),G'++(X++[.cells false ((l++[x]).flatMap enc)]))):=by
 obtain ⟨G',R,h1,h2,h3,_,h4,h5⟩:=h.push hll he he0 [x] (by simp) (by simpa using hb) (by simpa using hn)
 refine ⟨G',R,h1,h2,h3,h4,fun X b k hx=>?_⟩
 exact h5 X (some ⟨b,0,none⟩) k (Sl.lit he (by rw [hx];rfl) (by rw [hx];simp [cellsOf]))
def zde (len cap:Nat) (lo hi mx:Option Value):Option (Nat×Nat×Nat):=zbp (fun o=>match o with | .const v=>v | _=>undef) len cap (lo.map .const) (hi.map .const) (mx.map .const)
theorem bounds_V {ρ:Operand→Value} {len cap:Nat} {lo hi mx:Option Operand}:zbp ρ len cap lo hi mx=zde len cap (lo.map ρ) (hi.map ρ) (mx.map ρ):=by
 unfold zde
 cases lo<;>cases hi<;>cases mx<;>rfl
theorem bound_int {n:Int} {m:Nat} {kk:IntKind} (h0:0≤n) (h:n≤(m:Int)):bound (.int kk n) m=some n.toNat:=by
 simp only [bound];rw [if_pos ⟨h0,h⟩]
section
variable {len:Nat} {k1 k2 k3:IntKind} {l h x:Int}
theorem bv_010 (h0:0≤h) (h1:h≤(cap:Int)):zde len cap none (some (.int k1 h)) none=some (0,h.toNat,cap):=by
 delta zde zbp;simp only [Option.map_some,Option.map_none,bound_int h0 h1]
theorem bv_100 (l0:0≤l) (l1:l≤(len:Int)):zde len cap (some (.int k1 l)) none none=some (l.toNat,len,cap):=by
 delta zde zbp;simp only [Option.map_some,Option.map_none,bound_int l0 l1]
end
end
end Go.AM

namespace Go.Net
structure Leg where
 (id frm dst dep mins cut grams days:Int)
 deriving DecidableEq,Inhabited
def za1:Int:=1051898399
def Fine (l:Leg):Prop:=1≤l.id∧l.id≤999999∧1≤l.frm∧l.frm≤999999∧1≤l.dst∧l.dst≤999999∧0≤l.dep∧l.dep≤1439∧1≤l.mins∧l.mins≤20160∧0≤l.cut∧l.cut≤10080∧0≤l.grams∧l.grams≤1000000000∧1≤l.days∧l.days≤127∧l.frm≠l.dst
instance (l:Leg):Decidable (Fine l):=by unfold Fine;infer_instance
def runs (days:Int) (d:Nat):Bool:=days.toNat / 2 ^ (d % 7) % 2 == 1
def goes (l:Leg) (d:Nat):Bool:=runs l.days d&&decide (0≤1440*(d:Int)+l.dep-l.cut)&&decide (1440*(d:Int)+l.dep+l.mins≤za1)
def dayN:Nat:=730485
theorem dayN_eq:dayN=730485:=rfl
attribute [irreducible] dayN
def Dep (l:Leg) (a:Int):Prop:=∃d:Nat,d<dayN∧goes l d=true∧a=1440*(d:Int)+l.dep
def nextDay (l:Leg) (r:Int):Option Nat:=(List.range dayN).find? fun (d:Nat)=>goes l d&&decide (r≤1440*(d:Int)+l.dep-l.cut)
def zct (l:Leg) (r:Int):Option Int:=(nextDay l r).map fun (d:Nat)=>1440*(d:Int)+l.dep
def lastDay (l:Leg) (b:Int):Option Nat:=((List.range dayN).find? fun (d:Nat)=>goes l (dayN-1-d)&&decide (1440*((dayN-1-d:Nat):Int)+l.dep+l.mins≤b)).map fun (d:Nat)=>dayN-1-d
def lastD (l:Leg) (b:Int):Option Int:=(lastDay l b).map fun (d:Nat)=>1440*(d:Int)+l.dep
theorem find_range {n:Nat} {p:Nat→Bool} {i:Nat}:(List.range n).find? p=some i↔p i=true∧i<n∧∀j,j<i→p j=false:=by
 rw [List.find?_range_eq_some];simp
theorem find_range_none {n:Nat} {p:Nat→Bool}:(List.range n).find? p=none↔∀j,j<n→p j=false:=by
 rw [List.find?_range_eq_none];simp
theorem zca {l:Leg} {r a:Int} (h:zct l r=some a):Dep l a∧r≤a-l.cut∧∀b,Dep l b→r≤b-l.cut→a≤b:=by
 unfold zct nextDay at h
 obtain ⟨d,hd,rfl⟩:=Option.map_eq_some_iff.1 h
 obtain ⟨h1,h2,h3⟩:=find_range.1 hd
 simp only [Bool.and_eq_true,decide_eq_true_eq] at h1
 refine ⟨⟨d,h2,h1.1,rfl⟩,h1.2,fun b ⟨e,he,hg,hb⟩ hr=>?_⟩
 subst hb
 by_cases hlt:e<d
 ·have:=h3 e hlt
  simp only [hg,Bool.true_and,decide_eq_false_iff_not] at this
  omega
 ·omega
theorem nextD_none {l:Leg} {r:Int} (h:zct l r=none):∀b,Dep l b→b-l.cut<r:=by
 unfold zct nextDay at h
 rw [Option.map_eq_none_iff,find_range_none] at h
 intro b ⟨e,he,hg,hb⟩
 have:=h e he
 simp only [hg,Bool.true_and,decide_eq_false_iff_not] at this
 omega
theorem lastD_some {l:Leg} {b a:Int} (h:lastD l b=some a):Dep l a∧a+l.mins≤b∧∀c,Dep l c→c+l.mins≤b→c≤a:=by
 unfold lastD lastDay at h
 obtain ⟨d,hd,rfl⟩:=Option.map_eq_some_iff.1 h
 obtain ⟨d',hd',rfl⟩:=Option.map_eq_some_iff.1 hd
 obtain ⟨h1,h2,h3⟩:=find_range.1 hd'
 simp only [Bool.and_eq_true,decide_eq_true_eq] at h1
 refine ⟨⟨dayN-1-d',by omega,h1.1,rfl⟩,h1.2,fun c ⟨e,he,hg,hc⟩ hr=>?_⟩
 subst hc
 by_cases hlt:dayN-1-d'<e
 ·have:=h3 (dayN-1-e) (by omega)
  rw [show dayN-1-(dayN-1-e)=e by omega] at this
  simp only [hg,Bool.true_and,decide_eq_false_iff_not] at this
  omega
 ·omega
inductive Way (L:List Leg):Nat→Int→Int→Int→Int→Prop where
 | nil (p t:Int):Way L 0 p t p t
 | snoc {k:Nat} {p t m s a:Int} {l:Leg}:Way L k p t m s→l∈L→l.frm=m→Dep l a→s≤a-l.cut→Way L (k+1) p t l.dst (a+l.mins)
theorem Way.later {L:List Leg} {k:Nat} {p t q u:Int} (h:Way L k p t q u) (hL:∀l∈L,Fine l):t≤u:=by
 induction h with
 | nil=>omega
 | snoc h hl hf hd hs ih=>have:=hL _ hl;unfold Fine at this;omega
theorem Way.early {L:List Leg} {k:Nat} {p t t' q u:Int} (h:Way L k p t q u) (ht:t'≤t):(k=0∧p=q∧u=t)∨Way L k p t' q u:=by
 induction h with
 | nil=>exact .inl ⟨rfl,rfl,rfl⟩
 | snoc h hl hf hd hs ih=>
   rcases ih ht with ⟨rfl,rfl,rfl⟩ | ih
   ·exact .inr (.snoc (.nil _ _) hl hf hd (by omega))
   ·exact .inr (.snoc ih hl hf hd hs)
theorem Way.mono {L M:List Leg} {k:Nat} {p t q u:Int} (h:Way L k p t q u) (hs:∀l∈L,l∈M):Way M k p t q u:=by
 induction h with
 | nil=>exact .nil _ _
 | snoc h hl hf hd hr ih=>exact .snoc ih (hs _ hl) hf hd hr
theorem Way.trans {L:List Leg} {k j:Nat} {p t m s q u:Int} (h:Way L k p t m s) (h2:Way L j m s q u):Way L (k+j) p t q u:=by
 induction h2 with
 | nil=>exact h
 | snoc h2 hl hf hd hr ih=>exact .snoc (ih h) hl hf hd hr
theorem Way.cons {L:List Leg} {k:Nat} {p t a q u:Int} {l:Leg} (hl:l∈L) (hf:l.frm=p) (hd:Dep l a) (hr:t≤a-l.cut) (h:Way L k l.dst (a+l.mins) q u):Way L (k+1) p t q u:=by
 have:=(Way.snoc (.nil p t) hl hf hd hr).trans h
 rwa [Nat.zero_add,Nat.add_comm] at this
theorem Way.head {L:List Leg} {k:Nat} {p t q u:Int} (h:Way L (k+1) p t q u):∃l∈L,∃a,l.frm=p∧Dep l a∧t≤a-l.cut∧Way L k l.dst (a+l.mins) q u:=by
 generalize hk:k+1=n at h
 induction h generalizing k with
 | nil=>omega
 | @snoc j p t m s a l h hl hf hd hr ih=>
   cases j with
   | zero=>
     cases h
     obtain rfl:k=0:=by omega
     exact ⟨l,hl,a,hf,hd,hr,.nil _ _⟩
   | succ i=>
     obtain ⟨l',hl',a',h1,h2,h3,h4⟩:=ih rfl
     obtain rfl:k=i+1:=by omega
     exact ⟨l',hl',a',h1,h2,h3,.snoc h4 hl hf hd hr⟩
def zc5 (S:Int→Prop) (v:Int):Prop:=(v=-1∧∀u,¬S u)∨(S v∧∀u,S u→v≤u)
theorem zc5.uniq {S:Int→Prop} {v w:Int} (h:zc5 S v) (h':zc5 S w):v=w:=by
 rcases h with ⟨h1,h2⟩ | ⟨h1,h2⟩<;>rcases h' with ⟨g1,g2⟩ | ⟨g1,g2⟩
 ·omega
 ·exact absurd g1 (h2 _)
 ·exact absurd h1 (g2 _)
 ·have:=h2 _ g1;have:=g2 _ h1;omega
theorem zc5.congr {S T:Int→Prop} {v:Int} (h:zc5 S v) (e:∀u,S u↔T u):zc5 T v:=by
 rcases h with ⟨h1,h2⟩ | ⟨h1,h2⟩
 ·exact .inl ⟨h1,fun u hu=>h2 u ((e u).2 hu)⟩
 ·exact .inr ⟨(e v).1 h1,fun u hu=>h2 u ((e u).2 hu)⟩
theorem zc5.mem {S:Int→Prop} {v:Int} (h:zc5 S v) (hv:0≤v):S v:=by
 rcases h with ⟨h1,h2⟩ | ⟨h1,h2⟩
 ·omega
 ·exact h1
theorem zc5.none {S:Int→Prop} {v:Int} (h:zc5 S v) (h0:∀u,S u→0≤u) (hv:v<0):∀u,¬S u:=by
 rcases h with ⟨h1,h2⟩ | ⟨h1,h2⟩
 ·exact h2
 ·have:=h0 _ h1;omega
theorem zc5.le {S:Int→Prop} {v u:Int} (h:zc5 S v) (hu:S u):v≤u:=by
 rcases h with ⟨h1,h2⟩ | ⟨h1,h2⟩
 ·exact absurd hu (h2 _)
 ·exact h2 _ hu
theorem zc5.one {S:Int→Prop} {v x:Int} (h:zc5 S v) (h0:∀u,S u→0≤u) (hx:0≤x):zc5 (fun u=>S u∨u=x) (if v<0∨x<v then x else v):=by
 by_cases hc:v<0∨x<v
 ·rw [if_pos hc]
  refine .inr ⟨.inr rfl,fun u hu=>?_⟩
  rcases hu with hu | hu
  ·rcases hc with hc | hc
   ·exact absurd hu (h.none h0 hc u)
   ·have:=h.le hu;omega
  ·omega
 ·rw [if_neg hc]
  have:=h.mem (by omega)
  refine .inr ⟨.inl this,fun u hu=>?_⟩
  rcases hu with hu | hu
  ·exact h.le hu
  ·omega
def useA (pos:Int→Nat) (lim:Int) (bef aft:List Int) (l:Leg):List Int:=
 if bef.getD (pos l.frm) (-1)<0 then aft else
 match zct l (bef.getD (pos l.frm) (-1)) with
 | some a=>if a+l.mins≤lim∧(aft.getD (pos l.dst) (-1)<0∨a+l.mins<aft.getD (pos l.dst) (-1)) then aft.set (pos l.dst) (a+l.mins) else aft
 | none=>aft
def stepA (pos:Int→Nat) (lim:Int) (L:List Leg) (bef:List Int):List Int:=L.foldl (useA pos lim bef) bef
theorem useA_len {pos:Int→Nat} {lim:Int} {bef aft:List Int} {l:Leg}:(useA pos lim bef aft l).length=aft.length:=by
 unfold useA
 split
 ·rfl
 ·split
  ·split
   ·simp
   ·rfl
  ·rfl
theorem foldA_len {pos:Int→Nat} {lim:Int} {bef:List Int}:∀{L:List Leg} {aft:List Int},(L.foldl (useA pos lim bef) aft).length=aft.length
 | [],_=>rfl
 | l::L,aft=>by rw [List.foldl_cons,foldA_len,useA_len]
theorem stepA_len {pos:Int→Nat} {lim:Int} {L:List Leg} {bef:List Int}:(stepA pos lim L bef).length=bef.length:=foldA_len
def Brings (pos:Int→Nat) (lim:Int) (bef:List Int) (l:Leg) (q:Nat) (u:Int):Prop:=
 pos l.dst=q∧0≤bef.getD (pos l.frm) (-1)∧∃a,zct l (bef.getD (pos l.frm) (-1))=some a∧u=a+l.mins∧u≤lim
theorem Dep.nonneg {l:Leg} {a:Int} (h:Dep l a) (hl:Fine l):0≤a:=by
 obtain ⟨d,_,_,rfl⟩:=h
 unfold Fine at hl;omega
theorem Brings.nonneg {pos:Int→Nat} {lim:Int} {bef:List Int} {l:Leg} {q:Nat} {u:Int} (h:Brings pos lim bef l q u) (hl:Fine l):0≤u:=by
 obtain ⟨_,_,a,h1,h2,_⟩:=h
 have:=(zca h1).1.nonneg hl
 unfold Fine at hl;omega
theorem getD_set {L:List Int} {i j:Nat} {x d:Int} (hi:i<L.length):(L.set i x).getD j d=if i=j then x else L.getD j d:=by
 rw [List.getD_eq_getElem?_getD,List.getElem?_set]
 by_cases h:i=j
 ·simp [h,show j<L.length by omega]
 ·simp [h,List.getD_eq_getElem?_getD]
theorem useA_min {pos:Int→Nat} {lim:Int} {bef aft:List Int} {l:Leg} {q:Nat} {S:Int→Prop} (hl:Fine l) (hp:pos l.dst<aft.length) (h0:∀u,S u→0≤u) (h:zc5 S (aft.getD q (-1))) :
  zc5 (fun u=>S u∨Brings pos lim bef l q u) ((useA pos lim bef aft l).getD q (-1)):=by
 unfold useA
 by_cases hs:bef.getD (pos l.frm) (-1)<0
 ·rw [if_pos hs]
  exact h.congr fun u=>⟨.inl,fun hu=>hu.elim id fun hb=>absurd hb.2.1 (by omega)⟩
 rw [if_neg hs]
 cases hn:zct l (bef.getD (pos l.frm) (-1)) with
 | none=>
   simp only []
   exact h.congr fun u=>⟨.inl,fun hu=>hu.elim id fun ⟨_,_,a,ha,_⟩=>by rw [hn] at ha;cases ha⟩
 | some a=>
   simp only []
   have ha0:0≤a+l.mins:=by have:=(zca hn).1.nonneg hl;unfold Fine at hl;omega
   by_cases hlim:a+l.mins≤lim
   ·by_cases hq:pos l.dst=q
    ·have e:((if a+l.mins≤lim∧(aft.getD (pos l.dst) (-1)<0∨a+l.mins<aft.getD (pos l.dst) (-1)) then aft.set (pos l.dst) (a+l.mins) else aft).getD q (-1))=if aft.getD q (-1)<0∨a+l.mins<aft.getD q (-1) then a+l.mins else aft.getD q (-1):=by
      subst hq
      by_cases hc:aft.getD (pos l.dst) (-1)<0∨a+l.mins<aft.getD (pos l.dst) (-1)
      ·rw [if_pos ⟨hlim,hc⟩,if_pos hc,getD_set hp,if_pos rfl]
      ·rw [if_neg (fun h=>hc h.2),if_neg hc]
     rw [e]
     refine (h.one h0 ha0).congr fun u=>⟨fun hu=>hu.elim .inl fun hu=>.inr ⟨hq,by omega,a,hn,hu,by omega⟩,fun hu=>hu.elim .inl fun ⟨_,_,b,hb,hu,_⟩=>?_⟩
     rw [hn] at hb;cases hb;exact .inr hu
    ·have e:((if a+l.mins≤lim∧(aft.getD (pos l.dst) (-1)<0∨a+l.mins<aft.getD (pos l.dst) (-1)) then aft.set (pos l.dst) (a+l.mins) else aft).getD q (-1))=aft.getD q (-1):=by
      split
      ·rw [getD_set hp,if_neg hq]
      ·rfl
     rw [e]
     exact h.congr fun u=>⟨.inl,fun hu=>hu.elim id fun hb=>absurd hb.1 hq⟩
   ·rw [if_neg (fun h=>hlim h.1)]
    refine h.congr fun u=>⟨.inl,fun hu=>hu.elim id fun ⟨_,_,b,hb,hu,hl⟩=>?_⟩
    rw [hn] at hb;cases hb;omega
theorem foldA_min {pos:Int→Nat} {lim:Int} {bef:List Int} {q:Nat}:∀{L:List Leg} {aft:List Int} {S:Int→Prop},(∀l∈L,Fine l∧pos l.dst<aft.length)→(∀u,S u→0≤u)→zc5 S (aft.getD q (-1))→
  zc5 (fun u=>S u∨∃l∈L,Brings pos lim bef l q u) ((L.foldl (useA pos lim bef) aft).getD q (-1))
 | [],aft,S,hL,h0,h=>h.congr fun u=>⟨.inl,fun hu=>hu.elim id fun ⟨l,hl,_⟩=>by cases hl⟩
 | l::L,aft,S,hL,h0,h=>by
   obtain ⟨h1,h2⟩:=hL l (List.mem_cons_self ..)
   rw [List.foldl_cons]
   refine (foldA_min (L:=L) (fun x hx=>?_) (fun u hu=>?_) (useA_min (lim:=lim) (bef:=bef) h1 h2 h0 h)).congr fun u=>?_
   ·rw [useA_len];exact hL x (List.mem_cons_of_mem _ hx)
   ·rcases hu with hu | hu
    ·exact h0 u hu
    ·exact hu.nonneg h1
   ·constructor
    ·rintro ((h | h) | ⟨x,hx,h⟩)
     ·exact .inl h
     ·exact .inr ⟨l,List.mem_cons_self ..,h⟩
     ·exact .inr ⟨x,List.mem_cons_of_mem _ hx,h⟩
    ·rintro (h | ⟨x,hx,h⟩)
     ·exact .inl (.inl h)
     ·rcases List.mem_cons.1 hx with rfl | hx
      ·exact .inl (.inr h)
      ·exact .inr ⟨x,hx,h⟩
theorem zc5.dom {S T:Int→Prop} {v:Int} (h:zc5 S v) (h1:∀u,S u→T u) (h2:∀u,T u→∃w,w≤u∧S w):zc5 T v:=by
 rcases h with ⟨g1,g2⟩ | ⟨g1,g2⟩
 ·exact .inl ⟨g1,fun u hu=>by obtain ⟨w,_,hw⟩:=h2 u hu;exact g2 w hw⟩
 ·exact .inr ⟨h1 _ g1,fun u hu=>by obtain ⟨w,hle,hw⟩:=h2 u hu;have:=g2 w hw;omega⟩
structure NetOk (N:Nat) (P:List Int) (L:List Leg) (pos:Int→Nat):Prop where
 fine:∀l∈L,Fine l
 frm:∀l∈L,l.frm∈P
 dst:∀l∈L,l.dst∈P
 inj:∀a∈P,∀b∈P,pos a=pos b→a=b
 lt:∀a∈P,pos a<N
def oneT (N i:Nat) (t:Int):List Int:=(List.replicate N (-1)).set i t
theorem oneT_len {N i:Nat} {t:Int}:(oneT N i t).length=N:=by simp [oneT]
theorem oneT_get {N i j:Nat} {t:Int} (hi:i<N):(oneT N i t).getD j (-1)=if i=j then t else -1:=by
 unfold oneT
 rw [getD_set (by simpa using hi)]
 split
 ·rfl
 ·rw [List.getD_eq_getElem?_getD,List.getElem?_replicate];split<;>rfl
def arrK (N:Nat) (pos:Int→Nat) (lim:Int) (L:List Leg) (p ready:Int):Nat→List Int
 | 0=>oneT N (pos p) ready
 | k+1=>stepA pos lim L (arrK N pos lim L p ready k)
theorem arrK_len {N:Nat} {pos:Int→Nat} {lim:Int} {L:List Leg} {p ready:Int}:∀{k:Nat},(arrK N pos lim L p ready k).length=N
 | 0=>oneT_len
 | k+1=>by rw [arrK,stepA_len,arrK_len]
theorem arrK_min {N:Nat} {P:List Int} {L:List Leg} {pos:Int→Nat} {lim p ready:Int} (hn:NetOk N P L pos) (hp:p∈P) (hr:0≤ready) (hlim:ready≤lim):∀(k:Nat) (q:Int),q∈P→
  zc5 (fun u=>(∃j,j≤k∧Way L j p ready q u)∧u≤lim) ((arrK N pos lim L p ready k).getD (pos q) (-1))
 | 0,q,hq=>by
   rw [arrK,oneT_get (hn.lt p hp)]
   by_cases h:pos p=pos q
   ·rw [if_pos h]
    have:=hn.inj p hp q hq h
    subst this
    refine .inr ⟨⟨⟨0,Nat.le_refl _,.nil _ _⟩,hlim⟩,fun u ⟨⟨j,hj,hw⟩,_⟩=>hw.later hn.fine⟩
   ·rw [if_neg h]
    refine .inl ⟨rfl,fun u ⟨⟨j,hj,hw⟩,_⟩=>?_⟩
    obtain rfl:j=0:=by omega
    cases hw
    exact h rfl
 | k+1,q,hq=>by
   have ih:=arrK_min hn hp hr hlim k
   have h0:∀q u,((∃j,j≤k∧Way L j p ready q u)∧u≤lim)→0≤u:=fun q u ⟨⟨j,_,hw⟩,_⟩=>by have:=hw.later hn.fine;omega
   rw [arrK,stepA]
   refine (foldA_min (L:=L) (fun l hl=>⟨hn.fine l hl,by rw [arrK_len];exact hn.lt _ (hn.dst l hl)⟩) (h0 q) (ih q hq)).dom (fun u hu=>?_) (fun u hu=>?_)
   ·rcases hu with ⟨⟨j,hj,hw⟩,hl⟩ | ⟨l,hl,hd,hs,a,ha,rfl,hlim'⟩
    ·exact ⟨⟨j,by omega,hw⟩,hl⟩
    ·obtain ⟨⟨j,hj,hw⟩,hsl⟩:=(ih l.frm (hn.frm l hl)).mem hs
     obtain ⟨g1,g2,g3⟩:=zca ha
     have:=hn.inj _ (hn.dst l hl) q hq hd
     subst this
     exact ⟨⟨j+1,by omega,.snoc hw hl rfl g1 g2⟩,hlim'⟩
   ·obtain ⟨⟨j,hj,hw⟩,hul⟩:=hu
    by_cases hjk:j≤k
    ·exact ⟨u,Int.le_refl _,.inl ⟨⟨j,hjk,hw⟩,hul⟩⟩
    ·cases hw with
     | nil=>exact absurd (Nat.zero_le _) hjk
     | @snoc j' p t m s a l hw hl hf hd hs=>
       subst hf
       have hfl:=hn.fine l hl
       have hsl:s≤lim:=by unfold Fine at hfl;omega
       have hS:(∃j,j≤k∧Way L j p ready l.frm s)∧s≤lim:=⟨⟨j',by omega,hw⟩,hsl⟩
       have hle:=(ih l.frm (hn.frm l hl)).le hS
       have hpos:0≤(arrK N pos lim L p ready k).getD (pos l.frm) (-1):=by
        apply Decidable.byContradiction;intro hc
        exact (ih l.frm (hn.frm l hl)).none (h0 _) (by omega) s hS
       cases hnx:zct l ((arrK N pos lim L p ready k).getD (pos l.frm) (-1)) with
       | none=>have:=nextD_none hnx a hd;omega
       | some b=>
         obtain ⟨g1,g2,g3⟩:=zca hnx
         have:=g3 a hd (by omega)
         exact ⟨b+l.mins,by omega,.inr ⟨l,hl,rfl,hpos,b,hnx,rfl,by omega⟩⟩
theorem arrK_fix {N:Nat} {pos:Int→Nat} {lim:Int} {L:List Leg} {p ready:Int} {k:Nat} (h:arrK N pos lim L p ready (k+1)=arrK N pos lim L p ready k):∀j,arrK N pos lim L p ready (k+j)=arrK N pos lim L p ready k
 | 0=>rfl
 | j+1=>by rw [←Nat.add_assoc,arrK,arrK_fix h j];exact h
theorem arrK_all {N:Nat} {P:List Int} {L:List Leg} {pos:Int→Nat} {lim p ready:Int} (hn:NetOk N P L pos) (hp:p∈P) (hr:0≤ready) (hlim:ready≤lim) {k:Nat} (h:arrK N pos lim L p ready (k+1)=arrK N pos lim L p ready k) (q:Int) (hq:q∈P) :
  zc5 (fun u=>(∃j,Way L j p ready q u)∧u≤lim) ((arrK N pos lim L p ready k).getD (pos q) (-1)):=by
 refine (arrK_min hn hp hr hlim k q hq).dom (fun u ⟨⟨j,_,hw⟩,hl⟩=>⟨⟨j,hw⟩,hl⟩) (fun u ⟨⟨j,hw⟩,hl⟩=>?_)
 have hm:=arrK_min hn hp hr hlim (k+j) q hq
 rw [arrK_fix h] at hm
 have hle:=hm.le ⟨⟨j,by omega,hw⟩,hl⟩
 have hk:=arrK_min hn hp hr hlim k q hq
 have h0:∀u,((∃j',j'≤k+j∧Way L j' p ready q u)∧u≤lim)→0≤u:=fun u ⟨⟨j,_,hw⟩,_⟩=>by have:=hw.later hn.fine;omega
 have hpos:0≤(arrK N pos lim L p ready k).getD (pos q) (-1):=by
  apply Decidable.byContradiction;intro hc
  exact hm.none h0 (by omega) u ⟨⟨j,by omega,hw⟩,hl⟩
 exact ⟨_,hle,hk.mem hpos⟩
def farA (ready lim t:Int):Nat:=if t<0 then (lim-ready).toNat+1 else (t-ready).toNat
def muA (ready lim:Int) (T:List Int):Nat:=(T.map (farA ready lim)).sum
def Within (ready lim:Int) (T:List Int):Prop:=∀t∈T,t=-1∨ready≤t∧t≤lim
theorem muA_le {ready lim:Int}:∀{T:List Int},Within ready lim T→muA ready lim T≤T.length*((lim-ready).toNat+1)
 | [],_=>by simp [muA]
 | t::T,h=>by
   have ih:=muA_le (T:=T) fun x hx=>h x (List.mem_cons_of_mem _ hx)
   have h1:=h t (List.mem_cons_self ..)
   unfold muA at ih⊢
   simp only [List.map_cons,List.sum_cons,List.length_cons,Nat.succ_mul]
   have:farA ready lim t≤(lim-ready).toNat+1:=by unfold farA;split<;>omega
   omega
theorem mu_set {f:Int→Nat}:∀{T:List Int} {i:Nat} {x:Int} (hi:i<T.length),((T.set i x).map f).sum+f (T.getD i (-1))=(T.map f).sum+f x
 | t::T,0,x,_=>by simp;omega
 | t::T,i+1,x,hi=>by
   have:=mu_set (f:=f) (T:=T) (i:=i) (x:=x) (by simpa using hi)
   simp only [List.set_cons_succ,List.map_cons,List.sum_cons,List.getD_cons_succ]
   omega
theorem useA_mu {pos:Int→Nat} {ready lim:Int} {bef aft:List Int} {l:Leg} (hb:Within ready lim bef) (ha:Within ready lim aft) (hl:Fine l) (hd:pos l.dst<aft.length) (hr:0≤ready) :
  Within ready lim (useA pos lim bef aft l)∧(useA pos lim bef aft l=aft∨muA ready lim (useA pos lim bef aft l)<muA ready lim aft):=by
 unfold useA
 by_cases hs:bef.getD (pos l.frm) (-1)<0
 ·rw [if_pos hs];exact ⟨ha,.inl rfl⟩
 rw [if_neg hs]
 cases hn:zct l (bef.getD (pos l.frm) (-1)) with
 | none=>exact ⟨ha,.inl rfl⟩
 | some a=>
   simp only []
   split
   case isFalse=>exact ⟨ha,.inl rfl⟩
   rename_i hc
   obtain ⟨g1,g2,g3⟩:=zca hn
   have hbr:ready≤bef.getD (pos l.frm) (-1):=by
    by_cases h:pos l.frm<bef.length
    ·have e:bef.getD (pos l.frm) (-1)=bef[pos l.frm]:=by rw [List.getD_eq_getElem?_getD,List.getElem?_eq_getElem h];rfl
     have:=hb _ (List.getElem_mem h)
     rw [e] at hs⊢;omega
    ·rw [List.getD_eq_getElem?_getD,List.getElem?_eq_none (by omega)] at hs;exact absurd (by decide) hs
   have hfl:=hl
   unfold Fine at hfl
   have hin:ready≤a+l.mins∧a+l.mins≤lim:=⟨by omega,hc.1⟩
   have hold:aft.getD (pos l.dst) (-1)=-1∨ready≤aft.getD (pos l.dst) (-1)∧aft.getD (pos l.dst) (-1)≤lim:=by
    have e:aft.getD (pos l.dst) (-1)=aft[pos l.dst]:=by rw [List.getD_eq_getElem?_getD,List.getElem?_eq_getElem hd];rfl
    rw [e];exact ha _ (List.getElem_mem hd)
   refine ⟨fun t ht=>?_,.inr ?_⟩
   ·rcases List.mem_or_eq_of_mem_set ht with h | h
    ·exact ha t h
    ·exact .inr (by omega)
   ·have:=mu_set (f:=farA ready lim) (x:=a+l.mins) hd
    unfold muA
    have e1:farA ready lim (a+l.mins)<farA ready lim (aft.getD (pos l.dst) (-1)):=by
     unfold farA
     rw [if_neg (by omega)]
     split<;>omega
    omega
theorem foldA_mu {pos:Int→Nat} {ready lim:Int} {bef:List Int} (hb:Within ready lim bef) (hr:0≤ready):∀{L:List Leg} {aft:List Int},(∀l∈L,Fine l∧pos l.dst<aft.length)→Within ready lim aft→
  Within ready lim (L.foldl (useA pos lim bef) aft)∧(L.foldl (useA pos lim bef) aft=aft∨muA ready lim (L.foldl (useA pos lim bef) aft)<muA ready lim aft)
 | [],aft,hL,ha=>⟨ha,.inl rfl⟩
 | l::L,aft,hL,ha=>by
   obtain ⟨h1,h2⟩:=hL l (List.mem_cons_self ..)
   obtain ⟨g1,g2⟩:=useA_mu (l:=l) hb ha h1 h2 hr
   obtain ⟨k1,k2⟩:=foldA_mu hb hr (L:=L) (aft:=useA pos lim bef aft l) (fun x hx=>by rw [useA_len];exact hL x (List.mem_cons_of_mem _ hx)) g1
   rw [List.foldl_cons]
   refine ⟨k1, ?_⟩
   rcases k2 with k2 | k2
   ·rw [k2];exact g2
   ·rcases g2 with g2 | g2
    ·rw [g2] at k2⊢;exact .inr k2
    ·exact .inr (by omega)
theorem stepA_mu {pos:Int→Nat} {ready lim:Int} {bef:List Int} {L:List Leg} (hb:Within ready lim bef) (hr:0≤ready) (hL:∀l∈L,Fine l∧pos l.dst<bef.length) :
  Within ready lim (stepA pos lim L bef)∧(stepA pos lim L bef=bef∨muA ready lim (stepA pos lim L bef)<muA ready lim bef):=foldA_mu hb hr hL hb
def IsArr (L:List Leg) (p ready q v:Int):Prop:=zc5 (fun u=>(∃j,Way L j p ready q u)∧u≤ready+86400) v
theorem IsArr.start {L:List Leg} {p ready v:Int} (h:IsArr L p ready p v) (hL:∀l∈L,Fine l):v=ready:=
 zc5.uniq h (.inr ⟨⟨⟨0,.nil _ _⟩,by omega⟩,fun u ⟨⟨j,hw⟩,_⟩=>hw.later hL⟩)
theorem IsArr.ge {L:List Leg} {p ready q v:Int} (h:IsArr L p ready q v) (hL:∀l∈L,Fine l) (hv:0≤v):ready≤v∧v≤ready+86400:=by
 obtain ⟨⟨j,hw⟩,hl⟩:=h.mem hv
 exact ⟨hw.later hL,hl⟩
theorem IsArr.later {L:List Leg} {p a b q x y:Int} (hx:IsArr L p a q x) (hy:IsArr L p b q y) (hab:a≤b) (hy0:0≤y):x≤y:=by
 obtain ⟨⟨j,hw⟩,hl⟩:=hy.mem hy0
 by_cases hlim:y≤a+86400
 ·rcases hw.early hab with ⟨rfl,rfl,rfl⟩ | hw'
  ·have:=hx.le (u:=a) ⟨⟨0,.nil _ _⟩,by omega⟩;omega
  ·exact hx.le ⟨⟨j,hw'⟩,hlim⟩
 ·rcases hx with ⟨h1,_⟩ | ⟨⟨_,h1⟩,_⟩<;>omega
theorem IsArr.less {L M:List Leg} {p t q x y:Int} (hx:IsArr L p t q x) (hy:IsArr M p t q y) (hs:∀l∈M,l∈L) (hL:∀l∈L,Fine l) (ht:0≤t) (hy0:0≤y):0≤x∧x≤y:=by
 obtain ⟨⟨j,hw⟩,hl⟩:=hy.mem hy0
 have hS:(∃j,Way L j p t q y)∧y≤t+86400:=⟨⟨j,hw.mono hs⟩,hl⟩
 refine ⟨?_,hx.le hS⟩
 apply Decidable.byContradiction;intro hc
 exact hx.none (fun u ⟨⟨j,hw⟩,_⟩=>by have:=hw.later hL;omega) (by omega) y hS
theorem IsArr.same {L M:List Leg} {p t q x y:Int} (hx:IsArr L p t q x) (hy:IsArr M p t q y) (hs:∀l,l∈M↔l∈L):x=y:=
 hx.uniq (hy.congr fun u=>⟨fun ⟨⟨j,hw⟩,hl⟩=>⟨⟨j,hw.mono fun l h=>(hs l).1 h⟩,hl⟩,fun ⟨⟨j,hw⟩,hl⟩=>⟨⟨j,hw.mono fun l h=>(hs l).2 h⟩,hl⟩⟩)
def IsMax (S:Int→Prop) (v:Int):Prop:=(v=-1∧∀u,¬S u)∨(S v∧∀u,S u→u≤v)
theorem IsMax.uniq {S:Int→Prop} {v w:Int} (h:IsMax S v) (h':IsMax S w):v=w:=by
 rcases h with ⟨h1,h2⟩ | ⟨h1,h2⟩<;>rcases h' with ⟨g1,g2⟩ | ⟨g1,g2⟩
 ·omega
 ·exact absurd g1 (h2 _)
 ·exact absurd h1 (g2 _)
 ·have:=h2 _ g1;have:=g2 _ h1;omega
theorem IsMax.congr {S T:Int→Prop} {v:Int} (h:IsMax S v) (e:∀u,S u↔T u):IsMax T v:=by
 rcases h with ⟨h1,h2⟩ | ⟨h1,h2⟩
 ·exact .inl ⟨h1,fun u hu=>h2 u ((e u).2 hu)⟩
 ·exact .inr ⟨(e v).1 h1,fun u hu=>h2 u ((e u).2 hu)⟩
theorem IsMax.mem {S:Int→Prop} {v:Int} (h:IsMax S v) (hv:0≤v):S v:=by
 rcases h with ⟨h1,h2⟩ | ⟨h1,h2⟩
 ·omega
 ·exact h1
theorem IsMax.none {S:Int→Prop} {v:Int} (h:IsMax S v) (h0:∀u,S u→0≤u) (hv:v<0):∀u,¬S u:=by
 rcases h with ⟨h1,h2⟩ | ⟨h1,h2⟩
 ·exact h2
 ·have:=h0 _ h1;omega
theorem IsMax.ge {S:Int→Prop} {v u:Int} (h:IsMax S v) (hu:S u):u≤v:=by
 rcases h with ⟨h1,h2⟩ | ⟨h1,h2⟩
 ·exact absurd hu (h2 _)
 ·exact h2 _ hu
theorem IsMax.one {S:Int→Prop} {v x:Int} (h:IsMax S v) (h0:∀u,S u→0≤u) (hx:0≤x):IsMax (fun u=>S u∨u=x) (if v<x then x else v):=by
 by_cases hc:v<x
 ·rw [if_pos hc]
  refine .inr ⟨.inr rfl,fun u hu=>?_⟩
  rcases hu with hu | hu
  ·have:=h.ge hu;omega
  ·omega
 ·rw [if_neg hc]
  have:=h.mem (by omega)
  refine .inr ⟨.inl this,fun u hu=>?_⟩
  rcases hu with hu | hu
  ·exact h.ge hu
  ·omega
theorem IsMax.dom {S T:Int→Prop} {v:Int} (h:IsMax S v) (h1:∀u,S u→T u) (h2:∀u,T u→∃w,u≤w∧S w):IsMax T v:=by
 rcases h with ⟨g1,g2⟩ | ⟨g1,g2⟩
 ·exact .inl ⟨g1,fun u hu=>by obtain ⟨w,_,hw⟩:=h2 u hu;exact g2 w hw⟩
 ·exact .inr ⟨h1 _ g1,fun u hu=>by obtain ⟨w,hle,hw⟩:=h2 u hu;have:=g2 w hw;omega⟩
def Gives (pos:Int→Nat) (low:Int) (bef:List Int) (l:Leg) (q:Nat) (u:Int):Prop:=
 pos l.frm=q∧0≤bef.getD (pos l.dst) (-1)∧∃a,lastD l (bef.getD (pos l.dst) (-1))=some a∧u=a-l.cut∧low≤u
theorem Dep.ready {l:Leg} {a:Int} (h:Dep l a):0≤a-l.cut:=by
 obtain ⟨d,_,hg,rfl⟩:=h
 unfold goes at hg
 simp only [Bool.and_eq_true,decide_eq_true_eq] at hg
 omega
theorem Gives.nonneg {pos:Int→Nat} {low:Int} {bef:List Int} {l:Leg} {q:Nat} {u:Int} (h:Gives pos low bef l q u):0≤u:=by
 obtain ⟨_,_,a,h1,h2,_⟩:=h
 have:=(lastD_some h1).1.ready
 omega
def IsLat (L:List Leg) (q dl p v:Int):Prop:=IsMax (fun u=>0≤u∧dl-86400≤u∧∃j v,v≤dl∧Way L j p u q v) v
theorem IsLat.start {L:List Leg} {q dl v:Int} (h:IsLat L q dl q v) (hL:∀l∈L,Fine l) (h0:0≤dl):v=dl:=
 h.uniq (.inr ⟨⟨h0,by omega,0,dl,Int.le_refl _,.nil _ _⟩,fun u ⟨_,_,j,v,hv,hw⟩=>by have:=hw.later hL;omega⟩)
theorem IsLat.range {L:List Leg} {q dl p v:Int} (h:IsLat L q dl p v) (hL:∀l∈L,Fine l) (hv:0≤v):dl-86400≤v∧v≤dl:=by
 obtain ⟨_,h1,j,u,hu,hw⟩:=h.mem hv
 have:=hw.later hL
 exact ⟨h1,by omega⟩
theorem IsLat.later {L:List Leg} {p q a b x y:Int} (hx:IsLat L q a p x) (hy:IsLat L q b p y) (hL:∀l∈L,Fine l) (hab:a≤b) (hx0:0≤x) (hy0:0≤y):x≤y:=by
 obtain ⟨h1,h2,j,v,hv,hw⟩:=hx.mem hx0
 by_cases h:b-86400≤x
 ·exact hy.ge ⟨h1,h,j,v,by omega,hw⟩
 ·have:=(hy.range hL hy0).1;omega
theorem IsLat.same {L M:List Leg} {p q dl x y:Int} (hx:IsLat L q dl p x) (hy:IsLat M q dl p y) (hs:∀l,l∈M↔l∈L):x=y:=
 hx.uniq (hy.congr fun u=>⟨fun ⟨a,b,j,v,hv,hw⟩=>⟨a,b,j,v,hv,hw.mono fun l h=>(hs l).1 h⟩,fun ⟨a,b,j,v,hv,hw⟩=>⟨a,b,j,v,hv,hw.mono fun l h=>(hs l).2 h⟩⟩)
def useX (pos:Int→Nat) (bef aft:List Int) (l:Leg):List Int:=
 if bef.getD (pos l.dst) (-1)<0 then aft else
 match lastD l (bef.getD (pos l.dst) (-1)) with
 | some a=>aft.set (pos l.frm) (if aft.getD (pos l.frm) (-1)<a-l.cut then a-l.cut else aft.getD (pos l.frm) (-1))
 | none=>aft
def ze2 (N:Nat) (pos:Int→Nat) (L:List Leg) (bef:List Int):List Int:=L.foldl (useX pos bef) (List.replicate N (-1))
def IsWay (L:List Leg):Int→Int→List (Leg×Int)→Int→Int→Prop
 | p,t,[],q,u=>p=q∧t=u
 | p,t,(l,a)::w,q,u=>l∈L∧l.frm=p∧Dep l a∧t≤a-l.cut∧IsWay L l.dst (a+l.mins) w q u
theorem IsWay.way {L:List Leg}:∀{w:List (Leg×Int)} {p t q u:Int},IsWay L p t w q u→Way L w.length p t q u
 | [],p,t,q,u,h=>by obtain ⟨rfl,rfl⟩:=h;exact .nil _ _
 | (l,a)::w,p,t,q,u,h=>by
   obtain ⟨h1,h2,h3,h4,h5⟩:=h
   exact .cons h1 h2 h3 h4 h5.way
theorem IsWay.later {L:List Leg} {w:List (Leg×Int)} {p t q u:Int} (h:IsWay L p t w q u) (hL:∀l∈L,Fine l):t≤u:=h.way.later hL
theorem IsWay.from {L:List Leg} (hL:∀l∈L,Fine l):∀{w:List (Leg×Int)} {p t q u m:Int},IsWay L p t w q u→m∈w.map (fun x=>x.1.dst)→∃k s,k<w.length∧t≤s∧Way L k m s q u
 | [],_,_,_,_,_,_,h=>by simp at h
 | (l,a)::w,p,t,q,u,m,h,hm=>by
   obtain ⟨h1,h2,h3,h4,h5⟩:=h
   have hfl:=hL l h1
   unfold Fine at hfl
   rw [List.map_cons,List.mem_cons] at hm
   rcases hm with rfl | hm
   ·exact ⟨w.length,a+l.mins,by simp,by omega,h5.way⟩
   ·obtain ⟨k,s,g1,g2,g3⟩:=IsWay.from hL h5 hm
    exact ⟨k,s,by simp;omega,by omega,g3⟩
theorem IsWay.nodup {L:List Leg} (hL:∀l∈L,Fine l):∀{w:List (Leg×Int)} {p t q v:Int},IsWay L p t w q v→(∀j v',Way L j p t q v'→v'≤v→w.length≤j)→(p::w.map (fun x=>x.1.dst)).Nodup
 | [],_,_,_,_,_,_=>by simp
 | (l,a)::w,p,t,q,v,h,hmin=>by
   rw [List.nodup_cons]
   constructor
   ·intro hm
    obtain ⟨k,s,g1,g2,g3⟩:=IsWay.from hL h hm
    rcases g3.early g2 with ⟨rfl,rfl,e⟩ | hw
    ·have:=hmin 0 t (.nil _ _) (by omega);simp at this
    ·have:=hmin k v hw (Int.le_refl _);omega
   ·obtain ⟨h1,h2,h3,h4,h5⟩:=h
    rw [List.map_cons]
    exact h5.nodup hL fun j v' hw hv=>by
     have:=hmin (j+1) v' (.cons h1 h2 h3 h4 hw) hv
     simpa using this
theorem IsWay.uniq {L:List Leg}:∀{w:List (Leg×Int)} {p t q u q' u':Int},IsWay L p t w q u→IsWay L p t w q' u'→q=q'∧u=u'
 | [],_,_,_,_,_,_,h,h'=>⟨h.1.symm.trans h'.1,h.2.symm.trans h'.2⟩
 | (l,a)::w,_,_,_,_,_,_,h,h'=>h.2.2.2.2.uniq h'.2.2.2.2
end Go.Net

namespace Go.Flow
structure Pr where
 head:Nat
 tail:Nat
 room:Int
 flow:Int
 deriving DecidableEq,Inhabited
def isum:List Int→Int
 | []=>0
 | x::l=>x+isum l
def exc (v:Nat):List Pr→Int
 | []=>0
 | p::l=>(if p.head=v then p.flow else 0)-(if p.tail=v then p.flow else 0)+exc v l
def net (S:Nat→Bool):List Pr→Int
 | []=>0
 | p::l=>(if S p.tail then p.flow else 0)-(if S p.head then p.flow else 0)+net S l
def cut (S:Nat→Bool):List Pr→Int
 | []=>0
 | p::l=>(if S p.tail&&!S p.head then p.room+p.flow else 0)+cut S l
def sumS (S:Nat→Bool) (l:List Pr):Nat→Int
 | 0=>0
 | n+1=>sumS S l n+(if S n then exc n l else 0)
theorem sumS_nil (S:Nat→Bool):∀n,sumS S [] n=0
 | 0=>rfl
 | n+1=>by simp [sumS,sumS_nil S n,exc]
theorem sumS_cons (S:Nat→Bool) (p:Pr) (l:List Pr):∀n,sumS S (p::l) n=(if p.head<n∧S p.head=true then p.flow else 0)-(if p.tail<n∧S p.tail=true then p.flow else 0)+sumS S l n
 | 0=>by simp [sumS]
 | n+1=>by
   simp only [sumS,sumS_cons S p l n,exc]
   by_cases hS:S n=true
   ·rw [if_pos hS,if_pos hS]
    have key:∀x:Nat,(if x<n+1∧S x=true then p.flow else 0)=(if x<n∧S x=true then p.flow else 0)+(if x=n then p.flow else 0):=fun x=>by
     by_cases h:x=n
     ·subst h
      rw [if_pos ⟨by omega,hS⟩,if_neg (by omega),if_pos rfl];omega
     ·rw [if_neg h]
      by_cases h2:x<n∧S x=true
      ·rw [if_pos ⟨by omega,h2.2⟩,if_pos h2];omega
      ·rw [if_neg (fun h3=>h2 ⟨by omega,h3.2⟩),if_neg h2];omega
    rw [key p.head,key p.tail];omega
   ·rw [if_neg hS,if_neg hS]
    have key:∀x:Nat,(if x<n+1∧S x=true then p.flow else 0)=(if x<n∧S x=true then p.flow else 0):=fun x=>by
     by_cases h2:x<n∧S x=true
     ·rw [if_pos ⟨by omega,h2.2⟩,if_pos h2]
     ·rw [if_neg (fun h3=>h2 ⟨by
       have:x≠n:=fun e=>hS (by rw [←e];exact h3.2)
       omega,h3.2⟩),if_neg h2]
    rw [key p.head,key p.tail];omega
theorem sumS_net {S:Nat→Bool} {n:Nat}:∀{l:List Pr},(∀p∈l,p.head<n∧p.tail<n)→sumS S l n=- net S l
 | [],_=>by rw [sumS_nil];rfl
 | p::l,h=>by
   have ih:=sumS_net (S:=S) (n:=n) (l:=l) fun q hq=>h q (List.mem_cons_of_mem _ hq)
   obtain ⟨h1,h2⟩:=h p List.mem_cons_self
   rw [sumS_cons,ih]
   simp only [net,h1,h2,true_and]
   omega
structure IsFlow (n:Nat) (l:List Pr):Prop where
 two:2≤n
 lt:∀p∈l,p.head<n∧p.tail<n
 nn:∀p∈l,0≤p.room∧0≤p.flow
 bal:∀v,2≤v→exc v l=0
theorem sumS_two {S:Nat→Bool} {l:List Pr} (hb:∀v,2≤v→exc v l=0):∀n,2≤n→sumS S l n=(if S 0 then exc 0 l else 0)+(if S 1 then exc 1 l else 0)
 | 0,h=>by omega
 | 1,h=>by omega
 | 2,_=>by simp [sumS]
 | n+3,_=>by
   rw [sumS,sumS_two hb (n+2) (by omega),hb (n+2) (by omega)]
   simp
theorem IsFlow.ends {n:Nat} {l:List Pr} (h:IsFlow n l):exc 0 l=- exc 1 l:=by
 have h1:=sumS_net (S:=fun _=>true) h.lt
 rw [sumS_two h.bal n h.two] at h1
 have h2:net (fun _=>true) l=0:=by
  clear h h1
  induction l with
  | nil=>rfl
  | cons p l ih=>simp only [net,ih];omega
 rw [h2] at h1
 simp at h1
 omega
theorem IsFlow.value {n:Nat} {l:List Pr} (h:IsFlow n l) {S:Nat→Bool} (h0:S 0=true) (h1:S 1=false):net S l=exc 1 l:=by
 have h2:=sumS_net (S:=S) h.lt
 rw [sumS_two h.bal n h.two,h0,h1] at h2
 have:=h.ends
 simp at h2
 omega
theorem net_le {S:Nat→Bool}:∀{l:List Pr},(∀p∈l,0≤p.room∧0≤p.flow)→net S l≤cut S l∧((∃p,p∈l∧S p.tail=true∧S p.head=false∧0<p.room∨p∈l∧S p.tail=false∧S p.head=true∧0<p.flow)→net S l<cut S l)
 | [],_=>⟨Int.le_refl _,fun ⟨p,h⟩=>by rcases h with ⟨h,_⟩ | ⟨h,_⟩<;>cases h⟩
 | p::l,h=>by
   obtain ⟨i1,i2⟩:=net_le (S:=S) (l:=l) fun q hq=>h q (List.mem_cons_of_mem _ hq)
   obtain ⟨h1,h2⟩:=h p List.mem_cons_self
   simp only [net,cut]
   refine ⟨?_,fun hx=>?_⟩
   ·cases S p.tail<;>cases S p.head<;>simp<;>omega
   ·have hcase:(S p.tail=true∧S p.head=false∧0<p.room∨S p.tail=false∧S p.head=true∧0<p.flow)∨net S l<cut S l:=by
     obtain ⟨q,hq⟩:=hx
     rcases hq with ⟨hm,hq⟩ | ⟨hm,hq⟩
     ·rcases List.mem_cons.mp hm with rfl | hm
      ·exact .inl (.inl hq)
      ·exact .inr (i2 ⟨q,.inl ⟨hm,hq⟩⟩)
     ·rcases List.mem_cons.mp hm with rfl | hm
      ·exact .inl (.inr hq)
      ·exact .inr (i2 ⟨q,.inr ⟨hm,hq⟩⟩)
    rcases hcase with (⟨a,b,c⟩ | ⟨a,b,c⟩) | hl
    ·rw [a,b];simp;omega
    ·rw [a,b];simp;omega
    ·cases S p.tail<;>cases S p.head<;>simp<;>omega
theorem net_eq {S:Nat→Bool}:∀{l:List Pr},(∀p∈l,(S p.tail=true→S p.head=false→p.room=0)∧(S p.tail=false→S p.head=true→p.flow=0))→net S l=cut S l
 | [],_=>rfl
 | p::l,h=>by
   have ih:=net_eq (S:=S) (l:=l) fun q hq=>h q (List.mem_cons_of_mem _ hq)
   obtain ⟨h1,h2⟩:=h p List.mem_cons_self
   simp only [net,cut,ih]
   cases ht:S p.tail<;>cases hh:S p.head
   ·simp
   ·rw [h2 ht hh];simp
   ·rw [h1 ht hh];simp
   ·simp
theorem IsFlow.le_cut {n:Nat} {l:List Pr} (h:IsFlow n l) {S:Nat→Bool} (h0:S 0=true) (h1:S 1=false):exc 1 l≤cut S l:=by
 rw [←h.value h0 h1];exact (net_le h.nn).1
def Closed (S:Nat→Bool) (l:List Pr):Prop:=∀p∈l,(S p.tail=true→S p.head=false→p.room=0)∧(S p.tail=false→S p.head=true→p.flow=0)
theorem IsFlow.eq_cut {n:Nat} {l:List Pr} (h:IsFlow n l) {S:Nat→Bool} (h0:S 0=true) (h1:S 1=false) (hc:Closed S l):exc 1 l=cut S l:=by
 rw [←h.value h0 h1];exact net_eq hc
theorem IsFlow.closed {n:Nat} {l:List Pr} (h:IsFlow n l) {S:Nat→Bool} (h0:S 0=true) (h1:S 1=false) (he:exc 1 l=cut S l):Closed S l:=fun p hp=>by
 have hv:=h.value h0 h1
 have hlt:=(net_le (S:=S) h.nn).2
 obtain ⟨n1,n2⟩:=h.nn p hp
 refine ⟨fun a b=>?_,fun a b=>?_⟩
 ·apply Classical.byContradiction
  intro hne
  have:=hlt ⟨p,.inl ⟨hp,a,b,by omega⟩⟩
  omega
 ·apply Classical.byContradiction
  intro hne
  have:=hlt ⟨p,.inr ⟨hp,a,b,by omega⟩⟩
  omega
theorem exc_app (v:Nat):∀(l m:List Pr),exc v (l++m)=exc v l+exc v m
 | [],m=>by simp [exc]
 | p::l,m=>by simp only [List.cons_append,exc,exc_app v l m];omega
theorem cut_app (S:Nat→Bool):∀(l m:List Pr),cut S (l++m)=cut S l+cut S m
 | [],m=>by simp [cut]
 | p::l,m=>by simp only [List.cons_append,cut,cut_app S l m];omega
def push (p:Pr) (d:Int):Pr:={ p with room:=p.room-d,flow:=p.flow+d }
theorem exc_set {v:Nat} {d:Int}:∀{l:List Pr} {k:Nat},k<l.length→exc v (l.set k (push (l.getD k default) d))=exc v l+(if (l.getD k default).head=v then d else 0)-(if (l.getD k default).tail=v then d else 0)
 | [],k,h=>by simp at h
 | p::l,0,_=>by
   simp only [List.set_cons_zero,exc,List.getD_cons_zero,push]
   by_cases h1:p.head=v
   ·by_cases h2:p.tail=v
    ·simp only [h1,h2,if_true];omega
    ·simp only [h1,if_true,if_neg h2];omega
   ·by_cases h2:p.tail=v
    ·simp only [if_neg h1,h2,if_true];omega
    ·simp only [if_neg h1,if_neg h2];omega
 | p::l,k+1,h=>by
   simp only [List.set_cons_succ,exc,List.getD_cons_succ]
   rw [exc_set (by simpa using h)];omega
theorem cut_set {S:Nat→Bool} {d:Int}:∀{l:List Pr} {k:Nat},k<l.length→cut S (l.set k (push (l.getD k default) d))=cut S l
 | [],k,h=>by simp at h
 | p::l,0,_=>by
   simp only [List.set_cons_zero,cut,List.getD_cons_zero,push]
   cases S p.tail<;>cases S p.head<;>simp<;>omega
 | p::l,k+1,h=>by
   simp only [List.set_cons_succ,cut,List.getD_cons_succ]
   rw [cut_set (by simpa using h)]
end Go.Flow

namespace Go.Flow
open Go.AM
def tw (i:Nat):Nat:=if i % 2=0 then i+1 else i-1
theorem tw_tw (i:Nat):tw (tw i)=i:=by unfold tw;split<;>(split<;>omega)
theorem tw_half (i:Nat):tw i / 2=i / 2:=by unfold tw;split<;>omega
theorem tw_ne (i:Nat):tw i≠i:=by unfold tw;split<;>omega
theorem tw_odd (i:Nat):(tw i % 2=0)↔¬(i % 2=0):=by unfold tw;split<;>omega
def hd (l:List Pr) (i:Nat):Nat:=if i % 2=0 then (gt l (i / 2)).head else (gt l (i / 2)).tail
def tl (l:List Pr) (i:Nat):Nat:=if i % 2=0 then (gt l (i / 2)).tail else (gt l (i / 2)).head
def rm (l:List Pr) (i:Nat):Int:=if i % 2=0 then (gt l (i / 2)).room else (gt l (i / 2)).flow
theorem tl_tw (l:List Pr) (i:Nat):tl l (tw i)=hd l i:=by
 unfold tl hd
 rw [tw_half]
 by_cases h:i % 2=0
 ·rw [if_neg (by rw [tw_odd];exact fun h2=>h2 h),if_pos h]
 ·rw [if_pos ((tw_odd i).mpr h),if_neg h]
theorem hd_tw (l:List Pr) (i:Nat):hd l (tw i)=tl l i:=by rw [←tl_tw,tw_tw]
def zbu (l:List Pr) (i:Nat) (d:Int):List Pr:=l.set (i / 2) (push (gt l (i / 2)) (if i % 2=0 then d else -d))
theorem pushA_len (l:List Pr) (i:Nat) (d:Int):(zbu l i d).length=l.length:=by simp [zbu]
theorem gt_set {α:Type} [Inhabited α] {l:List α} {k j:Nat} {x:α} (hk:k<l.length):gt (l.set k x) j=if j=k then x else gt l j:=by
 unfold gt
 rw [List.getD_eq_getElem?_getD,List.getD_eq_getElem?_getD]
 by_cases h:j=k
 ·subst h;rw [if_pos rfl,List.getElem?_set_self hk];rfl
 ·rw [if_neg h,List.getElem?_set_ne (Ne.symm h)]
section
variable {l:List Pr} {i:Nat} {d:Int}
theorem hd_push (hi:i / 2<l.length) (j:Nat):hd (zbu l i d) j=hd l j:=by
 unfold hd zbu
 rw [gt_set hi]
 by_cases h:j / 2=i / 2
 ·rw [if_pos h,h];rfl
 ·rw [if_neg h]
theorem tl_push (hi:i / 2<l.length) (j:Nat):tl (zbu l i d) j=tl l j:=by rw [←hd_tw,hd_push hi,hd_tw]
theorem rm_push (hi:i / 2<l.length) (j:Nat):rm (zbu l i d) j=if j=i then rm l i-d else if j=tw i then rm l j+d else rm l j:=by
 unfold rm zbu
 rw [gt_set hi]
 by_cases h:j / 2=i / 2
 ·rw [if_pos h]
  by_cases hj:j=i
  ·subst hj
   rw [if_pos rfl]
   by_cases h2:j % 2=0
   ·simp only [h2,if_true,push]
   ·simp only [h2,if_false,push];omega
  ·have hjt:j=tw i:=by unfold tw;split<;>omega
   rw [if_neg hj,if_pos hjt,h]
   by_cases h2:i % 2=0
   ·have h3:¬j % 2=0:=by rw [hjt,tw_odd];exact fun h4=>h4 h2
    simp only [h2,h3,if_true,if_false,push]
   ·have h3:j % 2=0:=by rw [hjt,tw_odd];exact h2
    simp only [h2,h3,if_true,if_false,push];omega
 ·have hj:j≠i:=fun e=>h (by rw [e])
  have hjt:j≠tw i:=fun e=>h (by rw [e,tw_half])
  rw [if_neg h,if_neg hj,if_neg hjt]
theorem exc_push (hi:i / 2<l.length) (v:Nat):exc v (zbu l i d)=exc v l+(if hd l i=v then d else 0)-(if tl l i=v then d else 0):=by
 have:=exc_set (v:=v) (d:=if i % 2=0 then d else -d) hi
 unfold zbu hd tl gt
 rw [this]
 by_cases h2:i % 2=0
 ·simp only [h2,if_true]
 ·simp only [h2,if_false]
  by_cases h3:(l.getD (i / 2) default).head=v<;>by_cases h4:(l.getD (i / 2) default).tail=v<;>simp only [h3,h4,if_true,if_false]<;>omega
theorem cut_push {S:Nat→Bool} (hi:i / 2<l.length):cut S (zbu l i d)=cut S l:=cut_set hi
theorem push_zero (hi:i / 2<l.length):zbu l i 0=l:=by
 unfold zbu
 have:push (gt l (i / 2)) (if i % 2=0 then (0:Int) else -0)=gt l (i / 2):=by simp [push]
 rw [this,zGl hi,List.set_getElem_self]
end
def outs (out:List (List Nat)) (v:Nat):List Nat:=gt out v
structure OutOk (l:List Pr) (out:List (List Nat)):Prop where
 ok:∀v i,i∈outs out v→i / 2<l.length∧tl l i=v∧hd l i<out.length
 all:∀i,i / 2<l.length→i∈outs out (tl l i)
structure Alike (l l':List Pr):Prop where
 len:l'.length=l.length
 hd:∀i,hd l' i=hd l i
 tl:∀i,tl l' i=tl l i
 cut:∀S,cut S l'=cut S l
 cap:∀i,i / 2<l.length→rm l' i+rm l' (tw i)=rm l i+rm l (tw i)
theorem Alike.refl {l:List Pr}:Alike l l:=⟨rfl,fun _=>rfl,fun _=>rfl,fun _=>rfl,fun _ _=>rfl⟩
theorem Alike.trans {l l' l'':List Pr} (h:Alike l l') (k:Alike l' l''):Alike l l'':=⟨k.len.trans h.len,fun i=>(k.hd i).trans (h.hd i),fun i=>(k.tl i).trans (h.tl i),fun S=>(k.cut S).trans (h.cut S),fun i hi=>(k.cap i (by rw [h.len];exact hi)).trans (h.cap i hi)⟩
theorem Alike.push {l:List Pr} {i:Nat} {d:Int} (hi:i / 2<l.length):Alike l (zbu l i d):=⟨pushA_len ..,hd_push hi,tl_push hi,fun S=>cut_push hi,fun j hj=>by
 rw [rm_push hi,rm_push hi]
 by_cases e1:j=i
 ·subst e1
  rw [if_pos rfl,if_neg (tw_ne j),if_pos rfl];omega
 ·rw [if_neg e1]
  by_cases e2:j=tw i
  ·subst e2
   rw [if_pos rfl,tw_tw,if_pos rfl];omega
  ·have e3:tw j≠i:=fun e=>e2 (by rw [←e,tw_tw])
   have e4:tw j≠tw i:=fun e=>e1 (by rw [←tw_tw j,e,tw_tw])
   rw [if_neg e2,if_neg e3,if_neg e4]⟩
theorem OutOk.alike {l l':List Pr} {out:List (List Nat)} (h:OutOk l out) (k:Alike l l'):OutOk l' out:=
 ⟨fun v i hi=>by rw [k.len,k.tl,k.hd];exact h.ok v i hi,fun i hi=>by rw [k.tl];rw [k.len] at hi;exact h.all i hi⟩
section
variable (out:List (List Nat)) (lv:Nat→Int)
inductive Alive (l:List Pr):Nat→Prop
 | fin:Alive l 1
 | arc {v i:Nat} (hi:i∈outs out v) (hr:0<rm l i) (hl:lv v<lv (hd l i)) (h:Alive l (hd l i)):Alive l v
def Less (l l':List Pr):Prop:=∀v i,i∈outs out v→lv v<lv (hd l i)→rm l' i≤rm l i
theorem Alive.less {l l':List Pr} (ha:Alike l l') (hl:Less out lv l l') {v:Nat} (h:Alive out lv l' v):Alive out lv l v:=by
 induction h with
 | fin=>exact .fin
 | arc hi hr hlt _ ih=>
   rw [ha.hd] at hlt ih
   exact .arc hi (by have:=hl _ _ hi hlt;omega) hlt ih
def Useless (l:List Pr) (v i:Nat):Prop:=¬(0<rm l i∧lv v<lv (hd l i)∧Alive out lv l (hd l i))
theorem Useless.less {l l':List Pr} (ha:Alike l l') (hl:Less out lv l l') {v i:Nat} (hi:i∈outs out v) (h:Useless out lv l v i):Useless out lv l' v i:=fun ⟨h1,h2,h3⟩=>by
 rw [ha.hd] at h2 h3
 exact h ⟨by have:=hl _ _ hi h2;omega,h2,h3.less out lv ha hl⟩
def Done (l:List Pr) (nx:List Nat):Prop:=∀v k,k<gt nx v→k<(outs out v).length→Useless out lv l v (gt (outs out v) k)
theorem Done.less {l l':List Pr} {nx:List Nat} (ha:Alike l l') (hl:Less out lv l l') (h:Done out lv l nx):Done out lv l' nx:=fun v k h1 h2=>(h v k h1 h2).less out lv ha hl (zag h2)
theorem Less.refl {l:List Pr}:Less out lv l l:=fun _ _ _ _=>Int.le_refl _
theorem Less.trans {l l' l'':List Pr} (ha:Alike l l') (h:Less out lv l l') (k:Less out lv l' l''):Less out lv l l'':=fun v i hi hl=>Int.le_trans (k v i hi (by rw [ha.hd];exact hl)) (h v i hi hl)
structure Mid (v:Nat) (g:Int) (l:List Pr) (nx:List Nat) (s:Int) (l':List Pr) (nx':List Nat):Prop where
 lo:0≤s
 lt:s<g
 same:Alike l l'
 nn:∀i,i / 2<l.length→0≤rm l' i
 exc:∀u,exc u l'=Flow.exc u l-(if u=v then s else 0)+(if u=1 then s else 0)
 less:Less out lv l l'
 zero:s=0→l'=l
 done:Done out lv l' nx'
 nxlen:nx'.length=nx.length
 keep:∀u,lv u<lv v→gt nx' u=gt nx u
 keepR:∀u i,lv u<lv v→i∈outs out u→rm l' i=rm l i
 bnd:∀u,gt nx' u≤gt nx u∨gt nx' u≤(outs out u).length
structure Sent (v:Nat) (g:Int) (l:List Pr) (nx:List Nat) (s:Int) (l':List Pr) (nx':List Nat):Prop where
 lo:0≤s
 hi:s≤g
 same:Alike l l'
 nn:∀i,i / 2<l.length→0≤rm l' i
 exc:∀u,exc u l'=Flow.exc u l-(if u=v then s else 0)+(if u=1 then s else 0)
 less:Less out lv l l'
 zero:s=0→l'=l
 dead:s<g→¬Alive out lv l' v
 done:Done out lv l' nx'
 nxlen:nx'.length=nx.length
 keep:∀u,lv u<lv v→gt nx' u=gt nx u
 keepR:∀u i,lv u<lv v→i∈outs out u→rm l' i=rm l i
 bnd:∀u,gt nx' u≤gt nx u∨gt nx' u≤(outs out u).length
theorem Mid.start {v:Nat} {g:Int} {l:List Pr} {nx:List Nat} (hg:0<g) (hn:∀i,i / 2<l.length→0≤rm l i) (hd:Done out lv l nx):Mid out lv v g l nx 0 l nx:=
 ⟨Int.le_refl _,hg,.refl,hn,fun u=>by simp,Less.refl out lv,fun _=>rfl,hd,rfl,fun _ _=>rfl,fun _ _ _ _=>rfl,fun _=>.inl (Nat.le_refl _)⟩
theorem Sent.fin {g:Int} {l:List Pr} {nx:List Nat} (hg:0≤g) (hn:∀i,i / 2<l.length→0≤rm l i) (hd:Done out lv l nx):Sent out lv 1 g l nx g l nx:=
 ⟨hg,Int.le_refl _,.refl,hn,fun u=>by omega,Less.refl out lv,fun _=>rfl,fun h=>absurd h (by omega),hd,rfl,fun _ _=>rfl,fun _ _ _ _=>rfl,fun _=>.inl (Nat.le_refl _)⟩
variable {out lv} {v:Nat} {g s:Int} {l l1:List Pr} {nx nx1:List Nat}
theorem done_next {l:List Pr} {nx:List Nat} {v k:Nat} (hv:v<nx.length) (h:Done out lv l nx) (hk:gt nx v=k) (hu:Useless out lv l v (gt (outs out v) k)):Done out lv l (nx.set v (k+1)):=fun u j h1 h2=>by
 rw [gt_set hv] at h1
 by_cases hu':u=v
 ·subst hu'
  rw [if_pos rfl] at h1
  rcases (by omega:j<k∨j=k) with h3 | rfl
  ·exact h u j (by omega) h2
  ·exact hu
 ·rw [if_neg hu'] at h1
  exact h u j h1 h2
theorem Mid.skip (h:Mid out lv v g l nx s l1 nx1) {k:Nat} (hv:v<nx.length) (hk:gt nx1 v=k) (hkl:k<(outs out v).length) (hu:¬(0<rm l1 (gt (outs out v) k)∧lv v<lv (hd l1 (gt (outs out v) k)))):Mid out lv v g l nx s l1 (nx1.set v (k+1)):=
 { h with
   done:=done_next (by rw [h.nxlen];exact hv) h.done hk fun ⟨a,b,_⟩=>hu ⟨a,b⟩
   nxlen:=by rw [List.length_set];exact h.nxlen
   keep:=fun u hu=>by
    rw [gt_set (by rw [h.nxlen];exact hv),if_neg (fun e=>by subst e;omega)];exact h.keep u hu
   bnd:=fun u=>by
    rw [gt_set (by rw [h.nxlen];exact hv)]
    by_cases e:u=v
    ·subst e;rw [if_pos rfl];right;omega
    ·rw [if_neg e];exact h.bnd u }
theorem Mid.stop (h:Mid out lv v g l nx s l1 nx1) (hv:v≠1) (hk:(outs out v).length≤gt nx1 v):Sent out lv v g l nx s l1 nx1:=
 ⟨h.lo,Int.le_of_lt h.lt,h.same,h.nn,h.exc,h.less,h.zero,fun _ ha=>by
  cases ha with
  | fin=>exact hv rfl
  | arc hi hr hl hh=>
    obtain ⟨k,hk2,e⟩:=List.mem_iff_getElem.mp hi
    have:=h.done v k (by omega) hk2
    rw [zGl hk2,e] at this
    exact this ⟨hr,hl,hh⟩,h.done,h.nxlen,h.keep,h.keepR,h.bnd⟩
theorem Mid.take (h:Mid out lv v g l nx s l1 nx1) (ho:OutOk l out) {k i:Nat} (hv:v<nx.length) (hk:gt nx1 v=k) (hkl:k<(outs out v).length) (hi:gt (outs out v) k=i) (hr:0<rm l1 i) (hlv:lv v<lv (hd l1 i)) {got:Int} {l2:List Pr} {nx2:List Nat}
  (hS:Sent out lv (hd l1 i) (min (g-s) (rm l1 i)) l1 nx1 got l2 nx2) :
  (s+got=g→Sent out lv v g l nx g (zbu l2 i got) nx2)∧(s+got≠g→Mid out lv v g l nx (s+got) (zbu l2 i got) (nx2.set v (k+1)))∧got≤g-s∧0≤got∧rm l2 i=rm l1 i:=by
 have him:i∈outs out v:=by rw [←hi];exact zag hkl
 have ho1:=ho.alike h.same
 obtain ⟨q1,q2,q3⟩:=ho1.ok v i him
 have hi2:i / 2<l2.length:=by rw [hS.same.len];exact q1
 have hl1:l1.length=l.length:=h.same.len
 have hl2:l2.length=l.length:=hS.same.len.trans hl1
 have hrm:rm l2 i=rm l1 i:=hS.keepR v i hlv him
 have hhi:=hS.hi
 have hlo:=hS.lo
 have hlo1:=h.lo
 have hlt1:=h.lt
 have hg:got≤g-s∧got≤rm l1 i:=by omega
 have same2:=(h.same.trans hS.same)
 have same3:Alike l (zbu l2 i got):=same2.trans (.push hi2)
 have tl2:tl l2 i=v:=by rw [hS.same.tl];exact q2
 have hd2:hd l2 i=hd l1 i:=hS.same.hd i
 have nn3:∀j,j / 2<l.length→0≤rm (zbu l2 i got) j:=fun j hj=>by
  have hj2:=hS.nn j (by rw [hl1];exact hj)
  rw [rm_push hi2]
  split
  ·rw [hrm];omega
  ·split<;>omega
 have ho2:OutOk l2 out:=ho1.alike hS.same
 have less23:Less out lv l2 (zbu l2 i got):=fun u a ha hl=>by
  rw [rm_push hi2]
  by_cases e1:a=i
  ·subst e1;rw [if_pos rfl];omega
  ·rw [if_neg e1]
   by_cases e2:a=tw i
   ·exfalso
    subst e2
    have h3:=(ho2.ok u _ ha).2.1
    rw [tl_tw] at h3
    rw [hd_tw,tl2,←h3,hd2] at hl
    omega
   ·rw [if_neg e2];exact Int.le_refl _
 have less13:Less out lv l1 (zbu l2 i got):=Less.trans out lv hS.same hS.less less23
 have less3:Less out lv l (zbu l2 i got):=Less.trans out lv h.same h.less less13
 have done3:Done out lv (zbu l2 i got) nx2:=hS.done.less out lv (.push hi2) less23
 have exc3:∀u,Flow.exc u (zbu l2 i got)=Flow.exc u l-(if u=v then s+got else 0)+(if u=1 then s+got else 0):=fun u=>by
  rw [exc_push hi2,hS.exc u,h.exc u,hd2,tl2]
  by_cases a1:u=v<;>by_cases a2:u=1<;>by_cases a3:u=hd l1 i
  all_goals
   have b1:(v=u)=(u=v):=propext ⟨Eq.symm,Eq.symm⟩
   have b3:(hd l1 i=u)=(u=hd l1 i):=propext ⟨Eq.symm,Eq.symm⟩
   simp only [b1,b3,a1,a2,a3,if_true,if_false]
  all_goals (try simp only [a1,a2,a3,if_true,if_false])
  all_goals (first | omega | skip)
 have zero3:s+got=0→zbu l2 i got=l:=fun e=>by
  have e1:s=0:=by omega
  have e2:got=0:=by omega
  subst e2
  rw [push_zero hi2,hS.zero rfl,h.zero e1]
 have keep3:∀u,lv u<lv v→gt nx2 u=gt nx u:=fun u hu=>(hS.keep u (by omega)).trans (h.keep u hu)
 have keepR3:∀u a,lv u<lv v→a∈outs out u→rm (zbu l2 i got) a=rm l a:=fun u a hu ha=>by
  have e0:=(ho2.ok u a ha).2.1
  rw [rm_push hi2,if_neg (fun e=>by subst e;rw [tl2] at e0;subst e0;omega),if_neg (fun e=>by subst e;rw [tl_tw,hd2] at e0;rw [←e0] at hu;omega),hS.keepR u a (by omega) ha,h.keepR u a hu ha]
 have nxl:nx2.length=nx.length:=hS.nxlen.trans h.nxlen
 have bnd2:∀u,gt nx2 u≤gt nx u∨gt nx2 u≤(outs out u).length:=fun u=>by
  have:=hS.bnd u
  have:=h.bnd u
  omega
 have hk2:gt nx2 v=k:=(hS.keep v hlv).trans hk
 refine ⟨fun e=>?_,fun e=>?_,hg.1,hlo,hrm⟩
 ·rw [e] at exc3 zero3
  exact ⟨by omega,Int.le_refl _,same3,nn3,exc3,less3,zero3,fun hh=>absurd hh (by omega),done3,nxl,keep3,keepR3,bnd2⟩
 ·refine ⟨by omega,by omega,same3,nn3,exc3,less3,zero3,done_next (by rw [nxl];exact hv) done3 hk2 ?_,by rw [List.length_set];exact nxl,fun u hu=>?_,keepR3,fun u=>?_⟩
  ·rw [hi]
   intro ⟨a,b,c⟩
   rw [rm_push hi2,if_pos rfl,hrm] at a
   have:¬Alive out lv l2 (hd l1 i):=hS.dead (by omega)
   rw [hd_push hi2,hd2] at c
   exact this (c.less out lv (.push hi2) less23)
  ·rw [gt_set (by rw [nxl];exact hv),if_neg (fun e=>by subst e;omega)];exact keep3 u hu
  ·rw [gt_set (by rw [nxl];exact hv)]
   by_cases e:u=v
   ·subst e;rw [if_pos rfl];right;omega
   ·rw [if_neg e];exact bnd2 u
theorem Sent.pos {s':Int} {l':List Pr} {nx':List Nat} (h:Sent out lv v g l nx s' l' nx') (hg:0<g) (ha:Alive out lv l v):0<s':=by
 have:=h.lo
 apply Classical.byContradiction
 intro hn
 have h0:s'=0:=by omega
 have:=h.dead (by omega)
 rw [h.zero h0] at this
 exact this ha
theorem alive_of_levels (h0:∀v,v≠0→0≤lv v→∃u i,i∈outs out u∧hd l i=v∧0<rm l i∧0≤lv u∧lv v=lv u+1):∀(m:Nat) (v:Nat),lv v=m→Alive out lv l v→Alive out lv l 0
 | 0,v,hv,ha=>by
   by_cases h:v=0
   ·subst h;exact ha
   ·obtain ⟨u,i,_,_,_,h4,h5⟩:=h0 v h (by omega)
    omega
 | m+1,v,hv,ha=>by
   by_cases h:v=0
   ·subst h;exact ha
   ·obtain ⟨u,i,h1,h2,h3,h4,h5⟩:=h0 v h (by omega)
    exact alive_of_levels h0 m u (by omega) (.arc h1 h3 (by rw [h2];omega) (by rw [h2];exact ha))
end
end Go.Flow

namespace Go.Flow
open Go.AM Go.Net
structure Src where
 pl:Int
 rd:Int
 gr:Int
 deriving DecidableEq,Inhabited
def late (T:Int→Option Int) (p t:Int):Bool:=match T p with
 | some u=>decide (t<u)
 | none=>true
def wS (T:Int→Option Int) (dl:Int):List Src→Int
 | []=>0
 | x::s=>(if x.rd≤dl∧late T x.pl x.rd=true then x.gr else 0)+wS T dl s
def wC (T:Int→Option Int):List (Leg×Int)→Int
 | []=>0
 | c::C=>(if late T c.1.frm (c.2-c.1.cut)=false∧late T c.1.dst (c.2+c.1.mins)=true then c.1.grams else 0)+wC T C
def wt (T:Int→Option Int) (s:List Src) (C:List (Leg×Int)) (dl:Int):Int:=wS T dl s+wC T C
structure BestC (s:List Src) (C:List (Leg×Int)) (to dl:Int) (T:Int→Option Int) (v:Int):Prop where
 no:T to=none
 le:∀U,U to=none→v≤wt U s C dl
 eq:wt T s C dl=v
 first:∀U,U to=none→wt U s C dl=v→∀p t,T p=some t→∃u,U p=some u∧u≤t
theorem BestC.uniq {s:List Src} {C:List (Leg×Int)} {to dl:Int} {T U:Int→Option Int} {v w:Int} (h:BestC s C to dl T v) (k:BestC s C to dl U w):v=w∧∀p,T p=U p:=by
 have e:v=w:=by
  have h1:=h.le U k.no
  have h2:=k.le T h.no
  rw [k.eq] at h1
  rw [h.eq] at h2
  omega
 subst e
 refine ⟨rfl,fun p=>?_⟩
 cases hT:T p with
 | none=>
   cases hU:U p with
   | none=>rfl
   | some t=>
     obtain ⟨u,hu,_⟩:=k.first T h.no h.eq p t hU
     rw [hT] at hu;cases hu
 | some t=>
   obtain ⟨u,hu,h1⟩:=h.first U k.no k.eq p t hT
   obtain ⟨t',ht',h2⟩:=k.first T h.no h.eq p u hu
   rw [hT] at ht';cases ht'
   rw [hu,show t=u by omega]
def big:Int:=1152921504606846976
def zNo (PL:List (Int×Int)) (to p t:Int):Nat:=if p=to then 1 else PL.idxOf (p,t)+2
def zCp:List (Int×Int)→Nat→List Pr
 | a::b::l,i=>(if a.1=b.1 then [⟨i+1,i,big,0⟩] else [])++zCp (b::l) (i+1)
 | _,_=>[]
def srcP (PL:List (Int×Int)) (to dl:Int):List Src→List Pr
 | []=>[]
 | x::s=>if x.rd≤dl then ⟨zNo PL to x.pl x.rd,0,x.gr,0⟩::srcP PL to dl s else srcP PL to dl s
def wayP (PL:List (Int×Int)) (to:Int) (C:List (Leg×Int)):List Pr:=C.map fun c=>⟨zNo PL to c.1.dst (c.2+c.1.mins),zNo PL to c.1.frm (c.2-c.1.cut),c.1.grams,0⟩
def zap (PL:List (Int×Int)) (to dl:Int) (s:List Src) (C:List (Leg×Int)):List Pr:=zCp PL 2++srcP PL to dl s++wayP PL to C
def plLt (a b:Int×Int):Prop:=a.1<b.1∨a.1=b.1∧a.2<b.2
structure PlOk (PL:List (Int×Int)) (to dl:Int) (s:List Src) (C:List (Leg×Int)):Prop where
 lt:PL.Pairwise plLt
 no:∀x∈PL,x.1≠to
 src:∀x∈s,x.rd≤dl→x.pl≠to→(x.pl,x.rd)∈PL
 from':∀c∈C,c.1.frm≠to∧(c.1.frm,c.2-c.1.cut)∈PL
 dest:∀c∈C,c.1.dst≠to→(c.1.dst,c.2+c.1.mins)∈PL
def setT (PL:List (Int×Int)) (T:Int→Option Int) (v:Nat):Bool:=match v with
 | 0=>true
 | 1=>false
 | i+2=>decide (i<PL.length)&&!late T (gt PL i).1 (gt PL i).2
theorem ze5 {PL:List (Int×Int)} {to p t:Int} (h:p≠to) (hm:(p,t)∈PL):zNo PL to p t=PL.idxOf (p,t)+2∧PL.idxOf (p,t)<PL.length∧gt PL (PL.idxOf (p,t))=(p,t):=by
 have hi:=List.idxOf_lt_length_iff.mpr hm
 exact ⟨if_neg h,hi,by rw [zGl hi,List.getElem_idxOf]⟩
theorem setT_node {PL:List (Int×Int)} {to p t:Int} {T:Int→Option Int} (hT:T to=none) (hm:p≠to→(p,t)∈PL):setT PL T (zNo PL to p t)=!late T p t:=by
 by_cases h:p=to
 ·subst h
  unfold zNo late
  rw [if_pos rfl,hT];rfl
 ·obtain ⟨h1,h2,h3⟩:=ze5 h (hm h)
  rw [h1]
  show (decide (PL.idxOf (p,t)<PL.length)&&!late T (gt PL (PL.idxOf (p,t))).1 (gt PL (PL.idxOf (p,t))).2)=_
  rw [h3,decide_eq_true h2];rfl
theorem chain_cut {T:Int→Option Int} {PL0:List (Int×Int)}:∀(PL:List (Int×Int)) (i:Nat),PL.Pairwise plLt→(∀j,j<PL.length→i+j<PL0.length∧gt PL0 (i+j)=gt PL j)→cut (setT PL0 T) (zCp PL (i+2))=0
 | [],i,_,_=>rfl
 | [a],i,_,_=>rfl
 | a::b::PL,i,h,hg=>by
   obtain ⟨h1,h2⟩:=List.pairwise_cons.mp h
   unfold zCp
   rw [cut_app]
   have ih:=chain_cut (T:=T) (PL0:=PL0) (b::PL) (i+1) h2 fun j hj=>by
    have:=hg (j+1) (by simpa using hj)
    rw [zGc,show i+(j+1)=i+1+j by omega] at this
    exact this
   rw [show i+1+2=i+2+1 by omega] at ih
   rw [ih]
   by_cases hab:a.1=b.1
   ·rw [if_pos hab]
    have ha:=hg 0 (by simp)
    have hb:=hg 1 (by simp)
    have hlt:plLt a b:=h1 b List.mem_cons_self
    rw [Nat.add_zero] at ha
    have ga:gt PL0 i=a:=ha.2
    have gb:gt PL0 (i+1)=b:=hb.2
    have sa:setT PL0 T (i+2)=!late T a.1 a.2:=by
     show (decide (i<PL0.length)&&!late T (gt PL0 i).1 (gt PL0 i).2)=_
     rw [ga,decide_eq_true ha.1];rfl
    have sb:setT PL0 T (i+2+1)=!late T b.1 b.2:=by
     show (decide (i+1<PL0.length)&&!late T (gt PL0 (i+1)).1 (gt PL0 (i+1)).2)=_
     rw [gb,decide_eq_true hb.1];rfl
    simp only [cut,sa,sb]
    have:late T a.1 a.2=false→late T b.1 b.2=false:=fun hl=>by
     unfold late at hl⊢
     rw [←hab]
     split at hl
     ·rename_i u hu
      simp only [decide_eq_false_iff_not] at hl⊢
      unfold plLt at hlt;omega
     ·cases hl
    cases hl:late T a.1 a.2
    ·rw [this hl];simp
    ·simp
   ·rw [if_neg hab];simp [cut]
theorem src_cut {PL:List (Int×Int)} {to dl:Int} {T:Int→Option Int} (hT:T to=none):∀{s:List Src},(∀x∈s,x.rd≤dl→x.pl≠to→(x.pl,x.rd)∈PL)→cut (setT PL T) (srcP PL to dl s)=wS T dl s
 | [],_=>rfl
 | x::s,h=>by
   have ih:=src_cut hT (s:=s) fun y hy=>h y (List.mem_cons_of_mem _ hy)
   unfold srcP wS
   by_cases hr:x.rd≤dl
   ·rw [if_pos hr]
    simp only [cut,ih,setT_node hT (h x List.mem_cons_self hr),hr,true_and]
    cases hl:late T x.pl x.rd
    ·simp
    ·simp [setT]
   ·rw [if_neg hr,if_neg fun h=>hr h.1,ih];omega
theorem way_cut {PL:List (Int×Int)} {to:Int} {T:Int→Option Int} (hT:T to=none):∀{C:List (Leg×Int)},(∀c∈C,(c.1.frm≠to∧(c.1.frm,c.2-c.1.cut)∈PL)∧(c.1.dst≠to→(c.1.dst,c.2+c.1.mins)∈PL))→cut (setT PL T) (wayP PL to C)=wC T C
 | [],_=>rfl
 | c::C,h=>by
   have ih:=way_cut hT (C:=C) fun y hy=>h y (List.mem_cons_of_mem _ hy)
   obtain ⟨h1,h2⟩:=h c List.mem_cons_self
   unfold wayP at ih⊢
   unfold wC
   simp only [List.map_cons,cut,ih,setT_node hT (fun _=>h1.2),setT_node hT h2]
   cases late T c.1.frm (c.2-c.1.cut)<;>cases late T c.1.dst (c.2+c.1.mins)<;>simp
theorem graph_cut {PL:List (Int×Int)} {to dl:Int} {s:List Src} {C:List (Leg×Int)} {T:Int→Option Int} (hT:T to=none) (h:PlOk PL to dl s C):cut (setT PL T) (zap PL to dl s C)=wt T s C dl:=by
 unfold zap wt
 rw [cut_app,cut_app,chain_cut PL 0 h.lt (fun j hj=>by rw [Nat.zero_add];exact ⟨hj,rfl⟩),src_cut hT h.src,way_cut hT fun c hc=>⟨h.from' c hc,h.dest c hc⟩]
 omega
def zb6 (lv:Nat→Int):List (Int×Int)→Nat→Int→Option Int
 | [],_,_=>none
 | x::PL,i,p=>if x.1=p∧0≤lv i then some x.2 else zb6 lv PL (i+1) p
theorem zdc {lv:Nat→Int} {p t:Int}:∀{PL:List (Int×Int)} {i:Nat},zb6 lv PL i p=some t→∃j,j<PL.length∧gt PL j=(p,t)∧0≤lv (i+j)
 | [],i,h=>by cases h
 | x::PL,i,h=>by
   unfold zb6 at h
   split at h
   ·rename_i hc
    cases h
    exact ⟨0,by simp,by show x=(p,x.2);rw [←hc.1],by rw [Nat.add_zero];exact hc.2⟩
   ·obtain ⟨j,h1,h2,h3⟩:=zdc h
    exact ⟨j+1,by simp;omega,by rw [zGc];exact h2,by rw [show i+(j+1)=i+1+j by omega];exact h3⟩
theorem firstT_le {lv:Nat→Int} {p:Int}:∀{PL:List (Int×Int)} {i j:Nat},PL.Pairwise plLt→j<PL.length→(gt PL j).1=p→0≤lv (i+j)→∃t,zb6 lv PL i p=some t∧t≤(gt PL j).2
 | [],i,j,_,h,_,_=>by simp at h
 | x::PL,i,0,_,_,h1,h2=>by
   refine ⟨x.2, ?_,Int.le_refl _⟩
   unfold zb6
   rw [if_pos ⟨h1,h2⟩]
 | x::PL,i,j+1,hp,hj,h1,h2=>by
   obtain ⟨q1,q2⟩:=List.pairwise_cons.mp hp
   rw [zGc] at h1⊢
   have hj':j<PL.length:=by simpa using hj
   unfold zb6
   split
   ·rename_i hc
    refine ⟨x.2,rfl, ?_⟩
    have:=q1 _ (zag hj')
    unfold plLt at this
    have:=hc.1
    omega
   ·exact firstT_le q2 hj' h1 (by rw [show i+1+j=i+(j+1) by omega];exact h2)
theorem best_of {PL:List (Int×Int)} {to dl:Int} {s:List Src} {C:List (Leg×Int)} {l:List Pr} {lv:Nat→Int} (h:PlOk PL to dl s C) (hA:Alike (zap PL to dl s C) l) (hF:IsFlow (PL.length+2) l)
  (h0:0≤lv 0) (h1:lv 1<0) (hc:∀p∈l,(0≤lv p.tail→lv p.head<0→p.room=0)∧(lv p.tail<0→0≤lv p.head→p.flow=0))
  (hreach:∀S:Nat→Bool,S 0=true→Closed S l→∀v,v<PL.length+2→0≤lv v→S v=true)
  (hup:∀i,i+1<PL.length→(gt PL i).1=(gt PL (i+1)).1→0≤lv (i+2)→0≤lv (i+3)) :
  BestC s C to dl (zb6 lv PL 2) (exc 1 l):=by
 have hto:zb6 lv PL 2 to=none:=by
  cases hf:zb6 lv PL 2 to with
  | none=>rfl
  | some t=>
    obtain ⟨j,hj,hg,_⟩:=zdc hf
    have:=h.no _ (zag hj)
    rw [hg] at this
    exact absurd rfl this
 have cutU:∀U,U to=none→cut (setT PL U) l=wt U s C dl:=fun U hU=>by rw [hA.cut,graph_cut hU h]
 have up:∀(k i:Nat),i+k<PL.length→(gt PL i).1=(gt PL (i+k)).1→0≤lv (i+2)→0≤lv (i+k+2):=by
  intro k
  induction k with
  | zero=>intro i _ _ h2;exact h2
  | succ k ih=>
    intro i hi he hl
    have hpw:=List.pairwise_iff_getElem.mp h.lt
    have e1:=hpw i (i+k+1) (by omega) (by omega) (by omega)
    by_cases hk0:k=0
    ·subst hk0
     exact hup i (by omega) he hl
    have e2:=hpw i (i+k) (by omega) (by omega) (by omega)
    have e3:=hpw (i+k) (i+k+1) (by omega) (by omega) (by omega)
    rw [zGl (by omega),zGl (by omega)] at he
    have hm:(PL[i]'(by omega)).1=(PL[i+k]'(by omega)).1:=by
     have he':(PL[i]'(by omega)).1=(PL[i+k+1]'(by omega)).1:=he
     unfold plLt at e1 e2 e3;omega
    have:=ih i (by omega) (by rw [zGl (by omega),zGl (by omega)];exact hm) hl
    refine hup (i+k) (by omega) ?_ this
    rw [zGl (by omega),zGl (by omega)]
    exact hm.symm.trans he
 have hset:∀v,v<PL.length+2→setT PL (zb6 lv PL 2) v=decide (0≤lv v):=fun v hv=>by
  match v,hv with
  | 0,_=>simp [setT,h0]
  | 1,_=>simp [setT];omega
  | i+2,hv=>
    have hi:i<PL.length:=by omega
    show (decide (i<PL.length)&&!late (zb6 lv PL 2) (gt PL i).1 (gt PL i).2)=_
    rw [decide_eq_true hi,Bool.true_and]
    by_cases hl:0≤lv (i+2)
    ·obtain ⟨t,ht,hle⟩:=firstT_le (p:=(gt PL i).1) h.lt hi rfl (by rw [Nat.add_comm];exact hl)
     rw [decide_eq_true hl]
     unfold late
     rw [ht]
     simp;omega
    ·rw [decide_eq_false hl]
     cases hf:zb6 lv PL 2 (gt PL i).1 with
     | none=>unfold late;rw [hf];rfl
     | some t=>
       obtain ⟨j,hj,hg,hlj⟩:=zdc hf
       unfold late
       rw [hf]
       simp only [Bool.not_eq_false',decide_eq_true_eq]
       apply Classical.byContradiction
       intro hn
       have hjt:(gt PL j).2=t:=by rw [hg]
       have hjp:(gt PL j).1=(gt PL i).1:=by rw [hg]
       have hpw:=List.pairwise_iff_getElem.mp h.lt
       have hji:j≤i:=by
        apply Classical.byContradiction
        intro hlt
        have:=hpw i j hi hj (by omega)
        rw [←zGl hi,←zGl hj] at this
        unfold plLt at this
        omega
       have:=up (i-j) j (by omega) (by rw [show j+(i-j)=i by omega];exact hjp) (by rw [Nat.add_comm];exact hlj)
       rw [show j+(i-j)+2=i+2 by omega] at this
       exact hl this
 refine ⟨hto,fun U hU=>?_, ?_,fun U hU he p t ht=>?_⟩
 ·rw [←cutU U hU]
  exact hF.le_cut rfl rfl
 ·rw [←cutU _ hto]
  refine (hF.eq_cut rfl rfl fun p hp=>?_).symm
  obtain ⟨b1,b2⟩:=hF.lt p hp
  obtain ⟨c1,c2⟩:=hc p hp
  rw [hset _ b1,hset _ b2]
  exact ⟨fun a b=>c1 (by simpa using a) (by simpa using b),fun a b=>c2 (by simpa using a) (by simpa using b)⟩
 ·have hcl:=hF.closed (S:=setT PL U) rfl rfl ((cutU U hU).trans he).symm
  obtain ⟨j,hj,hg,hlj⟩:=zdc ht
  have:=hreach _ rfl hcl (j+2) (by omega) (by rw [Nat.add_comm];exact hlj)
  have h3:(decide (j<PL.length)&&!late U (gt PL j).1 (gt PL j).2)=true:=this
  rw [hg] at h3
  simp only [Bool.and_eq_true,Bool.not_eq_true'] at h3
  have h4:=h3.2
  unfold late at h4
  split at h4
  ·rename_i u hu
   exact ⟨u,hu,by simpa using h4⟩
  ·cases h4
def cntD (l:Leg) (dl:Int) (d:Nat):List (Leg×Int):=if goes l d=true∧max 0 (dl-20160)≤1440*(d:Int)+l.dep∧1440*(d:Int)+l.dep+l.mins≤dl then [(l,1440*(d:Int)+l.dep)] else []
def legC (l:Leg) (dl:Int):List (Leg×Int):=(List.range (dl / 1440+1).toNat).flatMap (cntD l dl)
def oneC (to dl:Int) (l:Leg):List (Leg×Int):=if l.frm=to then [] else legC l dl
def zCc (L:List Leg) (to dl:Int):List (Leg×Int):=L.flatMap (oneC to dl)
theorem cntD_mem {l:Leg} {dl:Int} {d:Nat} {c:Leg×Int} (h:c∈cntD l dl d):c=(l,1440*(d:Int)+l.dep)∧goes l d=true∧max 0 (dl-20160)≤1440*(d:Int)+l.dep∧1440*(d:Int)+l.dep+l.mins≤dl:=by
 unfold cntD at h
 split at h
 ·rename_i hc
  rw [List.mem_singleton] at h
  exact ⟨h,hc⟩
 ·cases h
theorem legC_mem {l:Leg} {dl:Int} {c:Leg×Int} (h:c∈legC l dl):c.1=l∧∃d:Nat,goes l d=true∧c.2=1440*(d:Int)+l.dep∧max 0 (dl-20160)≤c.2∧c.2+l.mins≤dl:=by
 obtain ⟨d,hd,hc⟩:=List.mem_flatMap.1 h
 obtain ⟨rfl,h1,h2,h3⟩:=cntD_mem hc
 exact ⟨rfl,d,h1,rfl,h2,h3⟩
theorem zaf {L:List Leg} {to dl:Int} {c:Leg×Int} (h:c∈zCc L to dl):c.1∈L∧c.1.frm≠to∧∃d:Nat,goes c.1 d=true∧c.2=1440*(d:Int)+c.1.dep∧max 0 (dl-20160)≤c.2∧c.2+c.1.mins≤dl:=by
 obtain ⟨l,hl,hc⟩:=List.mem_flatMap.1 h
 unfold oneC at hc
 split at hc
 ·cases hc
 ·rename_i hf
  obtain ⟨rfl,h1⟩:=legC_mem hc
  exact ⟨hl,hf,h1⟩
theorem cntD_early {l:Leg} {dl:Int} {d:Nat} (hl:Fine l) (h:(d:Int)<max 0 (dl-20160) / 1440):cntD l dl d=[]:=by
 unfold cntD
 refine if_neg fun ⟨_,h1,_⟩=>?_
 unfold Fine at hl;omega
theorem window {f:Nat→List (Leg×Int)} {d0:Nat} (h1:∀d,(f d).length≤1) (h2:∀d,f d≠[]→d0≤d∧d<d0+14):∀n,((List.range n).flatMap f).length≤14∧((List.range n).flatMap f).length≤n-d0
 | 0=>by simp
 | n+1=>by
   obtain ⟨i1,i2⟩:=window h1 h2 n
   rw [List.range_succ,List.flatMap_append,List.length_append,List.flatMap_cons,List.flatMap_nil,List.append_nil]
   have:=h1 n
   by_cases he:f n=[]
   ·rw [he,List.length_nil];omega
   ·have:=h2 n he;omega
theorem legC_len {l:Leg} {dl:Int} (hl:Fine l):(legC l dl).length≤14:=by
 refine (window (d0:=((dl-20160-l.dep+1439) / 1440).toNat) (fun d=>?_) (fun d hd=>?_) _).1
 ·unfold cntD;split<;>simp
 ·unfold cntD at hd
  split at hd
  case isFalse=>exact absurd rfl hd
  rename_i hc
  unfold Fine at hl
  omega
def tS (T:Int→Option Int) (dl:Int) (x:Src):Int:=if x.rd≤dl∧late T x.pl x.rd=true then x.gr else 0
def tC (T:Int→Option Int) (c:Leg×Int):Int:=if late T c.1.frm (c.2-c.1.cut)=false∧late T c.1.dst (c.2+c.1.mins)=true then c.1.grams else 0
theorem wS_cons {T:Int→Option Int} {dl:Int} {x:Src} {s:List Src}:wS T dl (x::s)=tS T dl x+wS T dl s:=rfl
theorem wC_cons {T:Int→Option Int} {c:Leg×Int} {C:List (Leg×Int)}:wC T (c::C)=tC T c+wC T C:=rfl
def noT:Int→Option Int:=fun _=>none
theorem wC_noT:∀{C:List (Leg×Int)},wC noT C=0
 | []=>rfl
 | x::s=>by rw [wC_cons,wC_noT];simp [tC,late,noT]
def allS (s:List Src):Int:=isum (s.map (·.gr))
theorem wS_all {T:Int→Option Int} {dl:Int}:∀{s:List Src},(∀x∈s,0≤x.gr)→wS T dl s≤allS s
 | [],_=>Int.le_refl _
 | x::s,h=>by
   have:=wS_all (T:=T) (dl:=dl) (s:=s) fun y hy=>h y (List.mem_cons_of_mem _ hy)
   have:=h x List.mem_cons_self
   unfold allS at this⊢
   unfold allS at *
   rw [wS_cons,List.map_cons,isum]
   unfold tS;split<;>omega
section
variable {s t:List Src} {C D:List (Leg×Int)} {to dl v w:Int} {T U:Int→Option Int}
end
def lvF (L:List Int) (v:Nat):Int:=L.getD v (-1)
theorem lvF_set {L:List Int} {v u:Nat} {x:Int} (hv:v<L.length):lvF (L.set v x) u=if u=v then x else lvF L u:=by
 unfold lvF
 rw [List.getD_eq_getElem?_getD,List.getD_eq_getElem?_getD]
 by_cases h:u=v
 ·subst h;rw [if_pos rfl,List.getElem?_set_self hv];rfl
 ·rw [if_neg h,List.getElem?_set_ne (Ne.symm h)]
structure Bfs (l:List Pr) (out:List (List Nat)) (L:List Int) (q:List Nat) (u:Option Nat) (k:Nat):Prop where
 len:L.length=out.length
 zero:lvF L 0=0
 lo:∀v,-1≤lvF L v
 hi:∀v,lvF L v<out.length
 pre:∀v,v≠0→0≤lvF L v→∃u i,i∈outs out u∧hd l i=v∧0<rm l i∧0≤lvF L u∧lvF L v=lvF L u+1
 qin:∀v∈q,v<out.length∧0≤lvF L v
 cur:∀v,u=some v→v<out.length∧0≤lvF L v∧∀j,j<k→0<rm l (gt (outs out v) j)→0≤lvF L (hd l (gt (outs out v) j))
 closed:∀v i,0≤lvF L v→v∉q→u≠some v→i∈outs out v→0<rm l i→0≤lvF L (hd l i)
def zc4 (L:List Int):Nat:=(L.filter fun x=>decide (x<0)).length
theorem unmet_set:∀{L:List Int} {v:Nat} {x:Int},v<L.length→lvF L v<0→0≤x→zc4 (L.set v x)+1=zc4 L
 | a::L,0,x,_,h,hx=>by
   have ha:a<0:=h
   unfold zc4
   rw [List.set_cons_zero,List.filter_cons_of_neg (by simpa using hx),List.filter_cons_of_pos (by simpa using ha),List.length_cons]
 | a::L,v+1,x,hv,h,hx=>by
   have:=unmet_set (L:=L) (v:=v) (x:=x) (by simpa using hv) h hx
   unfold zc4 at this⊢
   rw [List.set_cons_succ]
   by_cases ha:a<0
   ·rw [List.filter_cons_of_pos (by simpa using ha),List.filter_cons_of_pos (by simpa using ha),List.length_cons,List.length_cons];omega
   ·rw [List.filter_cons_of_neg (by simpa using ha),List.filter_cons_of_neg (by simpa using ha)];exact this
theorem lv_depth {l:List Pr} {out:List (List Nat)} {L:List Int} (zero:lvF L 0=0) (lo:∀v,-1≤lvF L v)
  (pre:∀v,v≠0→0≤lvF L v→∃u i,i∈outs out u∧hd l i=v∧0<rm l i∧0≤lvF L u∧lvF L v=lvF L u+1):∀(m:Nat) (v:Nat),lvF L v=m→∀j:Nat,j≤m→∃u,u<L.length∧lvF L u=j
 | m,v,hv,j,hj=>by
   have inr:∀u,0≤lvF L u→u<L.length:=fun u hu=>by
    apply Classical.byContradiction;intro hn
    unfold lvF at hu
    rw [List.getD_eq_getElem?_getD,List.getElem?_eq_none (by omega)] at hu
    simp at hu
   by_cases e:j=m
   ·subst e;exact ⟨v,inr v (by omega),hv⟩
   ·have h0:v≠0:=fun h=>by subst h;omega
    obtain ⟨u,i,_,_,_,h4,h5⟩:=pre v h0 (by omega)
    exact lv_depth zero lo pre (m-1) u (by omega) j (by omega)
termination_by m=>m
decreasing_by omega
theorem nodup_le {m:List Nat}:∀{l:List Nat},l.Nodup→(∀x∈l,x∈m)→l.length≤m.length:=by
 intro l
 induction l generalizing m with
 | nil=>intro _ _;exact Nat.zero_le _
 | cons a l ih=>
   intro hn hs
   rw [List.nodup_cons] at hn
   have h1:=hs a (by simp)
   have h2:=ih (m:=m.erase a) hn.2 fun x hx=>(List.mem_erase_of_ne (fun e=>hn.1 (by rw [←e];exact hx))).2 (hs x (by simp [hx]))
   rw [List.length_erase_of_mem h1] at h2
   have:=List.length_pos_of_mem h1
   simp only [List.length_cons]
   omega
theorem lv_small {l:List Pr} {out:List (List Nat)} {L:List Int} (zero:lvF L 0=0) (lo:∀v,-1≤lvF L v)
  (pre:∀v,v≠0→0≤lvF L v→∃u i,i∈outs out u∧hd l i=v∧0<rm l i∧0≤lvF L u∧lvF L v=lvF L u+1) (v:Nat):lvF L v<L.length:=by
 apply Classical.byContradiction
 intro hn
 obtain ⟨m,hm⟩:∃m:Nat,lvF L v=m:=⟨(lvF L v).toNat,by omega⟩
 have hd:=lv_depth zero lo pre m v hm
 have key:∀k,k≤m+1→∃us:List Nat,us.length=k∧us.Nodup∧∀u∈us,u<L.length∧lvF L u<k:=by
  intro k
  induction k with
  | zero=>intro _;exact ⟨[],rfl,List.nodup_nil,fun u hu=>by cases hu⟩
  | succ k ih=>
    intro hk
    obtain ⟨us,h1,h2,h3⟩:=ih (by omega)
    obtain ⟨u,h4,h5⟩:=hd k (by omega)
    refine ⟨u::us,by simp [h1],List.nodup_cons.2 ⟨fun hu=>by have:=(h3 u hu).2;omega,h2⟩,fun x hx=>?_⟩
    rcases List.mem_cons.1 hx with rfl | hx
    ·exact ⟨h4,by omega⟩
    ·have:=h3 x hx;exact ⟨this.1,by omega⟩
 obtain ⟨us,h1,h2,h3⟩:=key (m+1) (Nat.le_refl _)
 have:=nodup_le h2 (m:=List.range L.length) fun u hu=>List.mem_range.2 (h3 u hu).1
 rw [List.length_range] at this
 omega
theorem Bfs.start {l:List Pr} {out:List (List Nat)} (hn:2≤out.length):Bfs l out ((List.replicate out.length (-1)).set 0 0) [0] none 0:=by
 have e:∀v,lvF ((List.replicate out.length (-1)).set 0 0) v=if v=0 then 0 else -1:=fun v=>by
  rw [lvF_set (by simp;omega)]
  split
  ·rfl
  ·unfold lvF
   rw [List.getD_eq_getElem?_getD,List.getElem?_replicate];split<;>rfl
 refine ⟨by simp,by rw [e,if_pos rfl],fun v=>by rw [e];split<;>omega,fun v=>by rw [e];split<;>omega,fun v h0 h1=>?_,fun v hv=>?_,(fun v hv=>by cases hv),fun v i h1 h2 _ _ _=>?_⟩
 ·rw [e,if_neg h0] at h1;omega
 ·rw [List.mem_singleton] at hv
  subst hv
  exact ⟨by omega,by rw [e,if_pos rfl];omega⟩
 ·rw [e] at h1
  split at h1
  ·rename_i h3;exact absurd (by rw [h3];exact List.mem_singleton_self 0) h2
  ·omega
theorem Bfs.pop {l:List Pr} {out:List (List Nat)} {L:List Int} {v:Nat} {q:List Nat} (h:Bfs l out L (v::q) none 0):Bfs l out L q (some v) 0:=
 { h with
   qin:=fun u hu=>h.qin u (List.mem_cons_of_mem _ hu)
   cur:=fun u hu=>by cases hu;exact ⟨(h.qin v List.mem_cons_self).1,(h.qin v List.mem_cons_self).2,fun j hj=>by omega⟩
   closed:=fun u i h1 h2 h3 h4 h5=>h.closed u i h1 (fun hm=>by
    rcases List.mem_cons.1 hm with rfl | hm
    ·exact h3 rfl
    ·exact h2 hm) (by simp) h4 h5 }
theorem Bfs.next {l:List Pr} {out:List (List Nat)} {L:List Int} {v:Nat} {q:List Nat} {k:Nat} (h:Bfs l out L q (some v) k) (hk:¬(0<rm l (gt (outs out v) k)∧lvF L (hd l (gt (outs out v) k))<0)):Bfs l out L q (some v) (k+1):=
 { h with
   cur:=fun u hu=>by
    cases hu
    obtain ⟨h1,h2,h3⟩:=h.cur v rfl
    refine ⟨h1,h2,fun j hj hr=>?_⟩
    rcases Nat.lt_or_ge j k with hjk | hjk
    ·exact h3 j hjk hr
    ·obtain rfl:j=k:=by omega
     omega }
theorem Bfs.met {l:List Pr} {out:List (List Nat)} {L:List Int} {v:Nat} {q:List Nat} {k i:Nat} (ho:OutOk l out) (h:Bfs l out L q (some v) k) (hkl:k<(outs out v).length) (hi:gt (outs out v) k=i) (hr:0<rm l i) (hn:lvF L (hd l i)<0):Bfs l out (L.set (hd l i) (lvF L v+1)) (q++[hd l i]) (some v) (k+1):=by
 obtain ⟨c1,c2,c3⟩:=h.cur v rfl
 have him:i∈outs out v:=by rw [←hi];exact zag hkl
 obtain ⟨_,o2,o3⟩:=ho.ok v i him
 have hlen:hd l i<L.length:=by rw [h.len];exact o3
 have e:∀u,lvF (L.set (hd l i) (lvF L v+1)) u=if u=hd l i then lvF L v+1 else lvF L u:=fun u=>lvF_set hlen
 have hge:∀u,0≤lvF L u→0≤lvF (L.set (hd l i) (lvF L v+1)) u:=fun u hu=>by rw [e];split<;>omega
 have hvi:v≠hd l i:=fun hh=>by rw [←hh] at hn;omega
 have h0i:0≠hd l i:=fun hh=>by have:=h.zero;rw [←hh] at hn;omega
 have zero':lvF (L.set (hd l i) (lvF L v+1)) 0=0:=by rw [e,if_neg h0i];exact h.zero
 have lo':∀u,-1≤lvF (L.set (hd l i) (lvF L v+1)) u:=fun u=>by rw [e];have:=h.lo u;split<;>omega
 have pre':∀u,u≠0→0≤lvF (L.set (hd l i) (lvF L v+1)) u→∃w j,j∈outs out w∧hd l j=u∧0<rm l j∧0≤lvF (L.set (hd l i) (lvF L v+1)) w∧lvF (L.set (hd l i) (lvF L v+1)) u=lvF (L.set (hd l i) (lvF L v+1)) w+1:=fun u hu0 hu=>by
  by_cases hui:u=hd l i
  ·subst hui
   exact ⟨v,i,him,rfl,hr,hge v c2,by rw [e,if_pos rfl,e,if_neg hvi]⟩
  ·rw [e,if_neg hui] at hu
   obtain ⟨w,j,p1,p2,p3,p4,p5⟩:=h.pre u hu0 hu
   have hwi:w≠hd l i:=fun hh=>by rw [hh] at p4;omega
   exact ⟨w,j,p1,p2,p3,hge w p4,by rw [e,if_neg hui,e,if_neg hwi];exact p5⟩
 refine ⟨by rw [List.length_set];exact h.len,zero',lo',fun u=>?_,pre',fun u hu=>?_,fun u hu=>?_,fun u j h1 h2 h3 h4 h5=>?_⟩
 ·have:=lv_small zero' lo' pre' u
  rw [List.length_set,h.len] at this
  exact this
 ·rcases List.mem_append.1 hu with hu | hu
  ·exact ⟨(h.qin u hu).1,hge u (h.qin u hu).2⟩
  ·rw [List.mem_singleton] at hu
   subst hu
   exact ⟨o3,by rw [e,if_pos rfl];omega⟩
 ·cases hu
  refine ⟨c1,hge v c2,fun j hj hrj=>?_⟩
  rcases Nat.lt_or_ge j k with hjk | hjk
  ·exact hge _ (c3 j hjk hrj)
  ·obtain rfl:j=k:=by omega
   rw [hi,e,if_pos rfl];omega
 ·have hq:u∉q:=fun hm=>h2 (List.mem_append_left _ hm)
  have hui:u≠hd l i:=fun hm=>h2 (by rw [hm];exact List.mem_append_right _ (List.mem_singleton_self _))
  rw [e,if_neg hui] at h1
  exact hge _ (h.closed u j h1 hq h3 h4 h5)
theorem Bfs.done {l:List Pr} {out:List (List Nat)} {L:List Int} {v:Nat} {q:List Nat} {k:Nat} (h:Bfs l out L q (some v) k) (hk:(outs out v).length≤k):Bfs l out L q none 0:=
 { h with
   cur:=fun u hu=>by cases hu
   closed:=fun u i h1 h2 _ h4 h5=>by
    by_cases hu:u=v
    ·subst hu
     obtain ⟨j,hj,e⟩:=List.mem_iff_getElem.1 h4
     have:=(h.cur u rfl).2.2 j (by omega)
     rw [zGl hj,e] at this
     exact this h5
    ·exact h.closed u i h1 h2 (fun e=>hu (by cases e;rfl)) h4 h5 }
structure LevOk (l:List Pr) (out:List (List Nat)) (lv:Nat→Int):Prop where
 zero:lv 0=0
 pre:∀v,v≠0→0≤lv v→∃u i,i∈outs out u∧hd l i=v∧0<rm l i∧0≤lv u∧lv v=lv u+1
 closed:∀u i,0≤lv u→i∈outs out u→0<rm l i→0≤lv (hd l i)
theorem Bfs.end {l:List Pr} {out:List (List Nat)} {L:List Int} (h:Bfs l out L [] none 0):LevOk l out (lvF L):=
 ⟨h.zero,h.pre,fun u i h1 h2 h3=>h.closed u i h1 (fun hm=>by cases hm) (fun e=>by cases e) h2 h3⟩
theorem LevOk.alive {l:List Pr} {out:List (List Nat)} {lv:Nat→Int} (h:LevOk l out lv) (h1:0≤lv 1):Alive out lv l 0:=
 alive_of_levels h.pre (lv 1).toNat 1 (by omega) .fin
theorem LevOk.reach {l:List Pr} {out:List (List Nat)} {lv:Nat→Int} (h:LevOk l out lv) (ho:OutOk l out) {S:Nat→Bool} (h0:S 0=true) (hc:Closed S l):∀(m v:Nat),lv v=m→S v=true
 | m,v,hv=>by
   by_cases e:v=0
   ·rw [e];exact h0
   ·obtain ⟨u,i,p1,p2,p3,p4,p5⟩:=h.pre v e (by omega)
    match m,hv with
    | 0,hv=>omega
    | m+1,hv=>
      have hu:=LevOk.reach h ho h0 hc m u (by omega)
      obtain ⟨o1,o2,o3⟩:=ho.ok u i p1
      obtain ⟨c1,c2⟩:=hc (gt l (i / 2)) (zag o1)
      apply Classical.byContradiction
      intro hf
      rw [Bool.not_eq_true] at hf
      unfold tl hd rm at *
      by_cases hev:i % 2=0
      ·rw [if_pos hev] at p2 p3 o2
       rw [p2,o2] at c1
       have:=c1 hu hf
       omega
      ·rw [if_neg hev] at p2 p3 o2
       rw [p2,o2] at c2
       have:=c2 hf hu
       omega
theorem LevOk.pairs {l:List Pr} {out:List (List Nat)} {lv:Nat→Int} (h:LevOk l out lv) (ho:OutOk l out) (hnn:∀p∈l,0≤p.room∧0≤p.flow):∀p∈l,(0≤lv p.tail→lv p.head<0→p.room=0)∧(lv p.tail<0→0≤lv p.head→p.flow=0):=fun p hp=>by
 obtain ⟨k,hk,rfl⟩:=List.mem_iff_getElem.1 hp
 obtain ⟨n1,n2⟩:=hnn _ hp
 have a1:(2*k) / 2=k:=by omega
 have a2:(2*k+1) / 2=k:=by omega
 have m1:(2*k) % 2=0:=by omega
 have m2:¬(2*k+1) % 2=0:=by omega
 have g:gt l k=l[k]:=zGl hk
 have e1:=ho.all (2*k) (by omega)
 have e2:=ho.all (2*k+1) (by omega)
 have c1:=h.closed (tl l (2*k)) (2*k)
 have c2:=h.closed (tl l (2*k+1)) (2*k+1)
 unfold tl hd rm at *
 rw [a1,if_pos m1,g] at e1 c1
 rw [a2,if_neg m2,g] at e2 c2
 simp only [a1,m1,if_true,g] at c1
 simp only [a2,m2,if_false,g] at c2
 refine ⟨fun q1 q2=>?_,fun q1 q2=>?_⟩
 ·apply Classical.byContradiction;intro hne
  have:=c1 q1 e1 (by omega)
  omega
 ·apply Classical.byContradiction;intro hne
  have:=c2 q2 e2 (by omega)
  omega
theorem flow_le_net {S:Nat→Bool}:∀{l:List Pr},(∀q∈l,0≤q.flow∧(S q.head=true→S q.tail=true))→0≤net S l∧∀p∈l,S p.tail=true→S p.head=false→p.flow≤net S l
 | [],_=>⟨Int.le_refl _,fun p hp=>by cases hp⟩
 | q::l,h=>by
   obtain ⟨i1,i2⟩:=flow_le_net (S:=S) (l:=l) fun x hx=>h x (List.mem_cons_of_mem _ hx)
   obtain ⟨h1,h2⟩:=h q List.mem_cons_self
   have h0:0≤(if S q.tail then q.flow else 0)-(if S q.head then q.flow else 0):=by
    cases ht:S q.tail<;>cases hh:S q.head<;>simp
    ·rw [hh,ht] at h2;exact absurd (h2 rfl) (by decide)
    ·exact h1
   refine ⟨by simp only [net];omega,fun p hp q1 q2=>?_⟩
   rcases List.mem_cons.1 hp with rfl | hp
   ·simp only [net,q1,q2];simp;omega
   ·have:=i2 p hp q1 q2
    simp only [net];omega
def joinO (out:List (List Nat)) (f t i:Nat):List (List Nat):=(out.set f (gt out f++[i])).set t (gt (out.set f (gt out f++[i])) t++[i+1])
theorem joinO_len {out:List (List Nat)} {f t i:Nat}:(joinO out f t i).length=out.length:=by simp [joinO]
theorem joinO_mem {out:List (List Nat)} {f t i v j:Nat} (hf:f<out.length) (ht:t<out.length):j∈outs (joinO out f t i) v↔j∈outs out v∨(v=f∧j=i)∨(v=t∧j=i+1):=by
 unfold outs joinO
 rw [gt_set (by simpa using ht)]
 by_cases h1:v=t
 ·subst h1
  rw [if_pos rfl,gt_set hf]
  by_cases h2:v=f
  ·subst h2
   rw [if_pos rfl];simp
  ·rw [if_neg h2];simp [h2]
 ·rw [if_neg h1,gt_set hf]
  by_cases h2:v=f
  ·subst h2
   rw [if_pos rfl];simp [h1]
  ·rw [if_neg h2];simp [h1,h2]
theorem gt_app_l {l m:List Pr} {k:Nat} (h:k<l.length):gt (l++m) k=gt l k:=gt_append_left h
theorem OutOk.join {l:List Pr} {out:List (List Nat)} {f t:Nat} {r:Int} (h:OutOk l out) (hf:f<out.length) (ht:t<out.length):OutOk (l++[⟨t,f,r,0⟩]) (joinO out f t (2*l.length)):=by
 have e0:∀i,i / 2<l.length→tl (l++[⟨t,f,r,0⟩]) i=tl l i∧hd (l++[⟨t,f,r,0⟩]) i=hd l i:=fun i hi=>by
  unfold tl hd
  rw [gt_app_l hi];exact ⟨rfl,rfl⟩
 have gl:gt (l++[⟨t,f,r,0⟩]) l.length=⟨t,f,r,0⟩:=by
  have:=gt_append_len (l:=l) (r:=[(⟨t,f,r,0⟩:Pr)]) (i:=0)
  rw [Nat.add_zero] at this
  exact this
 have e1:tl (l++[⟨t,f,r,0⟩]) (2*l.length)=f∧hd (l++[⟨t,f,r,0⟩]) (2*l.length)=t:=by
  unfold tl hd
  rw [show 2*l.length / 2=l.length by omega,gl,if_pos (by omega),if_pos (by omega)];exact ⟨rfl,rfl⟩
 have e2:tl (l++[⟨t,f,r,0⟩]) (2*l.length+1)=t∧hd (l++[⟨t,f,r,0⟩]) (2*l.length+1)=f:=by
  unfold tl hd
  rw [show (2*l.length+1) / 2=l.length by omega,gl,if_neg (by omega),if_neg (by omega)];exact ⟨rfl,rfl⟩
 refine ⟨fun v i hi=>?_,fun i hi=>?_⟩
 ·rw [joinO_len,List.length_append,List.length_singleton]
  rcases (joinO_mem hf ht).1 hi with hi | ⟨rfl,rfl⟩ | ⟨rfl,rfl⟩
  ·obtain ⟨h1,h2,h3⟩:=h.ok v i hi
   rw [(e0 i h1).1,(e0 i h1).2]
   exact ⟨by omega,h2,h3⟩
  ·rw [e1.1,e1.2];exact ⟨by omega,rfl,ht⟩
  ·rw [e2.1,e2.2];exact ⟨by omega,rfl,hf⟩
 ·rw [List.length_append,List.length_singleton] at hi
  refine (joinO_mem hf ht).2 ?_
  rcases Nat.lt_or_ge (i / 2) l.length with h1 | h1
  ·rw [(e0 i h1).1];exact .inl (h.all i h1)
  ·rcases (by omega:i=2*l.length∨i=2*l.length+1) with rfl | rfl
   ·rw [e1.1];exact .inr (.inl ⟨rfl,rfl⟩)
   ·rw [e2.1];exact .inr (.inr ⟨rfl,rfl⟩)
theorem OutOk.none {n:Nat}:OutOk [] (List.replicate n []):=by
 refine ⟨fun v i hi=>?_,fun i hi=>by simp at hi⟩
 unfold outs gt at hi
 rw [List.getD_eq_getElem?_getD,List.getElem?_replicate] at hi
 split at hi<;>cases hi
theorem exc_zero {v:Nat}:∀{l:List Pr},(∀p∈l,p.flow=0)→exc v l=0
 | [],_=>rfl
 | p::l,h=>by
   have:=exc_zero (v:=v) (l:=l) fun q hq=>h q (List.mem_cons_of_mem _ hq)
   have:=h p List.mem_cons_self
   unfold exc;split<;>split<;>omega
theorem zcc {p:Pr}:∀{PL:List (Int×Int)} {i:Nat},p∈zCp PL i↔∃j,j+1<PL.length∧(gt PL j).1=(gt PL (j+1)).1∧p=⟨i+j+1,i+j,big,0⟩
 | [],i=>by simp [zCp]
 | [a],i=>by simp [zCp]
 | a::b::l,i=>by
   unfold zCp
   rw [List.mem_append,zcc (PL:=b::l) (i:=i+1)]
   constructor
   ·rintro (h | ⟨j,h1,h2,h3⟩)
    ·split at h
     ·rename_i hab
      rw [List.mem_singleton] at h
      exact ⟨0,by simp,hab,h⟩
     ·cases h
    ·exact ⟨j+1,by simp at h1⊢;omega,by rw [zGc,zGc];exact h2,by rw [h3];congr 1<;>omega⟩
   ·rintro ⟨j,h1,h2,h3⟩
    cases j with
    | zero=>
      have hab:a.1=b.1:=h2
      exact .inl (by rw [if_pos hab,List.mem_singleton];exact h3)
    | succ j=>
      rw [zGc,zGc] at h2
      exact .inr ⟨j,by simp at h1⊢;omega,h2,by rw [h3];congr 1<;>omega⟩
theorem srcP_mem {PL:List (Int×Int)} {to dl:Int} {p:Pr}:∀{s:List Src},p∈srcP PL to dl s↔∃x∈s,x.rd≤dl∧p=⟨zNo PL to x.pl x.rd,0,x.gr,0⟩
 | []=>by simp [srcP]
 | x::s=>by
   unfold srcP
   by_cases hr:x.rd≤dl
   ·rw [if_pos hr,List.mem_cons,srcP_mem (s:=s)]
    constructor
    ·rintro (h | ⟨y,h1,h2⟩)
     ·exact ⟨x,List.mem_cons_self,hr,h⟩
     ·exact ⟨y,List.mem_cons_of_mem _ h1,h2⟩
    ·rintro ⟨y,h1,h2,h3⟩
     rcases List.mem_cons.1 h1 with rfl | h1
     ·exact .inl h3
     ·exact .inr ⟨y,h1,h2,h3⟩
   ·rw [if_neg hr,srcP_mem (s:=s)]
    constructor
    ·rintro ⟨y,h1,h2⟩
     exact ⟨y,List.mem_cons_of_mem _ h1,h2⟩
    ·rintro ⟨y,h1,h2,h3⟩
     rcases List.mem_cons.1 h1 with rfl | h1
     ·exact absurd h2 hr
     ·exact ⟨y,h1,h2,h3⟩
theorem wayP_mem {PL:List (Int×Int)} {to:Int} {C:List (Leg×Int)} {p:Pr}:p∈wayP PL to C↔∃c∈C,p=⟨zNo PL to c.1.dst (c.2+c.1.mins),zNo PL to c.1.frm (c.2-c.1.cut),c.1.grams,0⟩:=by
 unfold wayP
 rw [List.mem_map]
 exact ⟨fun ⟨c,h1,h2⟩=>⟨c,h1,h2.symm⟩,fun ⟨c,h1,h2⟩=>⟨c,h1,h2.symm⟩⟩
theorem graphP_mem {PL:List (Int×Int)} {to dl:Int} {s:List Src} {C:List (Leg×Int)} {p:Pr} (h:p∈zap PL to dl s C):p∈zCp PL 2∨p∈srcP PL to dl s∨p∈wayP PL to C:=by
 unfold zap at h
 rcases List.mem_append.1 h with h | h
 ·rcases List.mem_append.1 h with h | h
  ·exact .inl h
  ·exact .inr (.inl h)
 ·exact .inr (.inr h)
section
variable {PL:List (Int×Int)} {to dl:Int} {s:List Src} {C:List (Leg×Int)}
theorem node_lt {p t:Int} (h:p≠to→(p,t)∈PL):zNo PL to p t<PL.length+2∧1≤zNo PL to p t:=by
 by_cases hp:p=to
 ·unfold zNo;rw [if_pos hp];omega
 ·obtain ⟨h1,h2,_⟩:=ze5 hp (h hp)
  omega
theorem zby (h:PlOk PL to dl s C) (hs:∀x∈s,0≤x.gr) (hC:∀c∈C,0≤c.1.grams) {p:Pr} (hp:p∈zap PL to dl s C):p.head<PL.length+2∧p.tail<PL.length+2∧0≤p.room∧p.flow=0:=by
 rcases graphP_mem hp with hp | hp | hp
 ·obtain ⟨j,h1,_,rfl⟩:=zcc.1 hp
  exact ⟨by show 2+j+1<_;omega,by show 2+j<_;omega,by show 0≤big;decide,rfl⟩
 ·obtain ⟨x,h1,h2,rfl⟩:=srcP_mem.1 hp
  exact ⟨(node_lt (h.src x h1 h2)).1,by show 0<_;omega,hs x h1,rfl⟩
 ·obtain ⟨c,h1,rfl⟩:=wayP_mem.1 hp
  exact ⟨(node_lt (h.dest c h1)).1,(node_lt fun _=>(h.from' c h1).2).1,hC c h1,rfl⟩
theorem graphP_flow (h:PlOk PL to dl s C) (hs:∀x∈s,0≤x.gr) (hC:∀c∈C,0≤c.1.grams):IsFlow (PL.length+2) (zap PL to dl s C):=
 ⟨by omega,fun p hp=>⟨(zby h hs hC hp).1,(zby h hs hC hp).2.1⟩,fun p hp=>⟨(zby h hs hC hp).2.2.1,by rw [(zby h hs hC hp).2.2.2];exact Int.le_refl _⟩,fun v _=>exc_zero fun p hp=>(zby h hs hC hp).2.2.2⟩
def upto (PL:List (Int×Int)) (t:Int) (v:Nat):Bool:=match v with
 | 0=>true
 | 1=>false
 | i+2=>decide (i<PL.length)&&decide ((gt PL i).2≤t)
theorem upto_node {p t u:Int} (h:p≠to→(p,t)∈PL):upto PL u (zNo PL to p t)=(decide (p≠to)&&decide (t≤u)):=by
 by_cases hp:p=to
 ·unfold zNo;rw [if_pos hp];simp [upto,hp]
 ·obtain ⟨h1,h2,h3⟩:=ze5 hp (h hp)
  rw [h1]
  show (decide (PL.idxOf (p,t)<PL.length)&&decide ((gt PL (PL.idxOf (p,t))).2≤u))=_
  rw [h3,decide_eq_true h2];simp [hp]
theorem graphP_fwd (h:PlOk PL to dl s C) (hF:∀c∈C,Fine c.1) {t:Int} {p:Pr} (hp:p∈zap PL to dl s C) (hh:upto PL t p.head=true):upto PL t p.tail=true:=by
 rcases graphP_mem hp with hp | hp | hp
 ·obtain ⟨j,h1,h2,rfl⟩:=zcc.1 hp
  have e1:upto PL t (2+j+1)=(decide (j+1<PL.length)&&decide ((gt PL (j+1)).2≤t)):=by rw [show 2+j+1=j+1+2 by omega];rfl
  have e2:upto PL t (2+j)=(decide (j<PL.length)&&decide ((gt PL j).2≤t)):=by rw [show 2+j=j+2 by omega];rfl
  change upto PL t (2+j+1)=true at hh
  show upto PL t (2+j)=true
  rw [e1] at hh
  rw [e2]
  simp only [Bool.and_eq_true,decide_eq_true_eq] at hh⊢
  have hpw:=(List.pairwise_iff_getElem.mp h.lt) j (j+1) (by omega) h1 (by omega)
  rw [←zGl (by omega),←zGl h1] at hpw
  unfold plLt at hpw
  omega
 ·obtain ⟨x,h1,h2,rfl⟩:=srcP_mem.1 hp
  rfl
 ·obtain ⟨c,h1,rfl⟩:=wayP_mem.1 hp
  change upto PL t (zNo PL to c.1.dst (c.2+c.1.mins))=true at hh
  show upto PL t (zNo PL to c.1.frm (c.2-c.1.cut))=true
  rw [upto_node (h.dest c h1)] at hh
  rw [upto_node fun _=>(h.from' c h1).2]
  have hf:=hF c h1
  unfold Fine at hf
  simp only [Bool.and_eq_true,decide_eq_true_eq] at hh⊢
  exact ⟨(h.from' c h1).1,by omega⟩
theorem run_best {l:List Pr} {lv:Nat→Int} {out:List (List Nat)} (h:PlOk PL to dl s C) (hA:Alike (zap PL to dl s C) l) (hf:IsFlow (PL.length+2) l) (ho:OutOk l out) (hl:LevOk l out lv) (h1:lv 1<0) (hs:∀x∈s,0≤x.gr) (hF:∀c∈C,Fine c.1) (hall:allS s<big):BestC s C to dl (zb6 lv PL 2) (exc 1 l):=by
 refine best_of h hA hf (by rw [hl.zero];exact Int.le_refl _) h1 (hl.pairs ho hf.nn) (fun S h0 hc v _ hv=>hl.reach ho h0 hc (lv v).toNat v (by omega)) fun i hi he hv=>?_
 have hm:(⟨i+3,i+2,big,0⟩:Pr)∈zap PL to dl s C:=by
  unfold zap
  refine List.mem_append_left _ (List.mem_append_left _ (zcc.2 ⟨i,hi,he, ?_⟩))
  congr 1<;>omega
 obtain ⟨k,hk,ek⟩:=List.mem_iff_getElem.1 hm
 have gk:gt (zap PL to dl s C) k=⟨i+3,i+2,big,0⟩:=by rw [zGl hk,ek]
 have a1:(2*k) / 2=k:=by omega
 have a2:(2*k+1) / 2=k:=by omega
 have m1:(2*k) % 2=0:=by omega
 have m2:¬(2*k+1) % 2=0:=by omega
 have t1:hd l (2*k)=i+3:=by rw [hA.hd];unfold hd;rw [a1,if_pos m1,gk]
 have t2:tl l (2*k)=i+2:=by rw [hA.tl];unfold tl;rw [a1,if_pos m1,gk]
 have t3:rm l (2*k)+rm l (2*k+1)=big:=by
  have:=hA.cap (2*k) (by omega)
  rw [show tw (2*k)=2*k+1 by unfold tw;rw [if_pos m1]] at this
  rw [this]
  unfold rm
  rw [a1,a2,if_pos m1,if_neg m2,gk];simp
 have hkl:k<l.length:=by rw [hA.len];exact hk
 have gl1:(gt l k).head=i+3∧(gt l k).tail=i+2∧rm l (2*k+1)=(gt l k).flow:=by
  unfold hd at t1;unfold tl at t2
  rw [a1,if_pos m1] at t1 t2
  exact ⟨t1,t2,by unfold rm;rw [a2,if_neg m2]⟩
 have hfl:(gt l k).flow≤net (upto PL (gt PL i).2) l:=by
  refine (flow_le_net fun q hq=>?_).2 _ (zag hkl) ?_ ?_
  ·refine ⟨(hf.nn q hq).2,fun hh=>?_⟩
   obtain ⟨j,hj,ej⟩:=List.mem_iff_getElem.1 hq
   have hj':j<(zap PL to dl s C).length:=by rw [←hA.len];exact hj
   have b1:(2*j) / 2=j:=by omega
   have n1:(2*j) % 2=0:=by omega
   have q1:=hA.hd (2*j)
   have q2:=hA.tl (2*j)
   unfold hd at q1;unfold tl at q2
   rw [b1,if_pos n1,if_pos n1,zGl hj,ej] at q1 q2
   rw [q2]
   refine graphP_fwd h hF (zag hj') ?_
   rw [←q1];exact hh
  ·rw [gl1.2.1]
   show (decide (i<PL.length)&&decide ((gt PL i).2≤(gt PL i).2))=true
   simp;omega
  ·rw [gl1.1]
   show (decide (i+1<PL.length)&&decide ((gt PL (i+1)).2≤(gt PL i).2))=false
   have hpw:=(List.pairwise_iff_getElem.mp h.lt) i (i+1) (by omega) hi (by omega)
   rw [←zGl (by omega),←zGl hi] at hpw
   unfold plLt at hpw
   simp;omega
 rw [hf.value (by rfl) (by rfl)] at hfl
 have hle:=hf.le_cut (S:=setT PL noT) rfl rfl
 rw [hA.cut,graph_cut rfl h] at hle
 have hws:=wS_all (T:=noT) (dl:=dl) hs
 unfold wt at hle
 rw [wC_noT] at hle
 have hr:0<rm l (2*k):=by rw [gl1.2.2] at t3;omega
 have:=hl.closed (i+2) (2*k) hv (by have:=ho.all (2*k) (by omega);rw [t2] at this;exact this) hr
 rw [t1] at this
 exact this
end
theorem hd_even {l:List Pr} {j:Nat}:hd l (2*j)=(gt l j).head:=by
 unfold hd
 rw [show 2*j / 2=j by omega,if_pos (by omega)]
theorem tl_even {l:List Pr} {j:Nat}:tl l (2*j)=(gt l j).tail:=by
 unfold tl
 rw [show 2*j / 2=j by omega,if_pos (by omega)]
theorem rm_even {l:List Pr} {j:Nat}:rm l (2*j)=(gt l j).room:=by
 unfold rm
 rw [show 2*j / 2=j by omega,if_pos (by omega)]
theorem rm_odd {l:List Pr} {j:Nat}:rm l (2*j+1)=(gt l j).flow:=by
 unfold rm
 rw [show (2*j+1) / 2=j by omega,if_neg (by omega)]
theorem Alike.gts {l l':List Pr} (h:Alike l l') (j:Nat):(gt l' j).head=(gt l j).head∧(gt l' j).tail=(gt l j).tail:=by
 have h1:=h.hd (2*j)
 have h2:=h.tl (2*j)
 rw [hd_even,hd_even] at h1
 rw [tl_even,tl_even] at h2
 exact ⟨h1,h2⟩
theorem Sent.flow {out:List (List Nat)} {lv:Nat→Int} {g s:Int} {l l':List Pr} {nx nx':List Nat} {n:Nat} (h:Sent out lv 0 g l nx s l' nx') (hf:IsFlow n l):IsFlow n l'∧Flow.exc 1 l'=Flow.exc 1 l+s:=by
 refine ⟨⟨hf.two,fun p hp=>?_,fun p hp=>?_,fun v hv=>?_⟩, ?_⟩
 ·obtain ⟨j,hj,rfl⟩:=List.mem_iff_getElem.1 hp
  have hj':j<l.length:=by have:=h.same.len;omega
  obtain ⟨e1,e2⟩:=h.same.gts j
  have:=hf.lt _ (zag (l:=l) hj')
  rw [zGl hj] at e1 e2
  rw [e1,e2];exact this
 ·obtain ⟨j,hj,rfl⟩:=List.mem_iff_getElem.1 hp
  have hj':j<l.length:=by have:=h.same.len;omega
  have h1:=h.nn (2*j) (by omega)
  have h2:=h.nn (2*j+1) (by omega)
  rw [rm_even,zGl hj] at h1
  rw [rm_odd,zGl hj] at h2
  exact ⟨h1,h2⟩
 ·rw [h.exc,if_neg (by omega),if_neg (by omega),hf.bal v hv];rfl
 ·rw [h.exc,if_neg (by omega),if_pos rfl];omega
theorem Alike.bound {l0 l:List Pr} {n:Nat} (h:Alike l0 l) (hf:IsFlow n l):Flow.exc 1 l≤Flow.cut (fun v=>v != 1) l0:=by
 rw [←h.cut]
 exact hf.le_cut (by rfl) (by rfl)
theorem zcb {U:Int→Option Int} {p t:Int}:late U p t=false↔∃w,U p=some w∧w≤t:=by
 unfold late
 cases U p with
 | none=>simp
 | some w=>simp
theorem wC_nn {U:Int→Option Int}:∀{C:List (Leg×Int)},(∀c∈C,0≤c.1.grams)→0≤wC U C
 | [],_=>Int.le_refl _
 | c::C,h=>by
   have:=wC_nn (U:=U) (C:=C) fun x hx=>h x (List.mem_cons_of_mem _ hx)
   have h1:=h c List.mem_cons_self
   rw [wC]
   split<;>omega
theorem wC_zero {U:Int→Option Int}:∀{C:List (Leg×Int)},(∀c∈C,1≤c.1.grams)→wC U C≤0→∀c∈C,late U c.1.frm (c.2-c.1.cut)=false→late U c.1.dst (c.2+c.1.mins)=false
 | [],_,_,c,hc,_=>by cases hc
 | x::C,h,h0,c,hc,hl=>by
   have hn:=wC_nn (U:=U) (C:=C) fun y hy=>by have:=h y (List.mem_cons_of_mem _ hy);omega
   have hx:=h x List.mem_cons_self
   rw [wC] at h0
   rcases List.mem_cons.1 hc with e | hc
   ·subst e
    cases hd:late U c.1.dst (c.2+c.1.mins) with
    | false=>rfl
    | true=>rw [if_pos ⟨hl,hd⟩] at h0;omega
   ·refine wC_zero (fun y hy=>h y (List.mem_cons_of_mem _ hy)) ?_ c hc hl
    split at h0<;>omega
theorem wC_zero' {U:Int→Option Int}:∀{C:List (Leg×Int)},(∀c∈C,late U c.1.frm (c.2-c.1.cut)=false→late U c.1.dst (c.2+c.1.mins)=false)→wC U C=0
 | [],_=>rfl
 | x::C,h=>by
   rw [wC,wC_zero' fun y hy=>h y (List.mem_cons_of_mem _ hy),if_neg fun q=>by
    have:=h x List.mem_cons_self q.1
    rw [this] at q;cases q.2]
   rfl
section
variable {L:List Leg} {frm to dl ready:Int} (hF:∀l∈L,Fine l∧1≤l.grams) (h0:0≤ready) (h1:ready≤dl) (h2:dl-20160≤ready) (h3:dl≤za1)
theorem one_wS {U:Int→Option Int} (h1:ready≤dl):wS U dl [⟨frm,ready,1⟩]=if late U frm ready=true then 1 else 0:=by
 show (if ready≤dl∧late U frm ready=true then (1:Int) else 0)+0=_
 by_cases h:late U frm ready=true
 ·rw [if_pos ⟨h1,h⟩,if_pos h];rfl
 ·rw [if_neg fun q=>h q.2,if_neg h];rfl
include hF h0 h2 in
theorem one_counts {l:Leg} {a:Int} (hl:l∈L) (hd:Dep l a) (hm:l.frm≠to) (hr:ready≤a-l.cut) (he:a+l.mins≤dl):(l,a)∈zCc L to dl:=by
 obtain ⟨d,hd1,hg,rfl⟩:=hd
 have hf:=(hF l hl).1
 unfold Fine at hf
 refine List.mem_flatMap.2 ⟨l,hl, ?_⟩
 unfold oneC
 rw [if_neg hm]
 refine List.mem_flatMap.2 ⟨d,List.mem_range.2 (by omega), ?_⟩
 unfold cntD
 rw [if_pos ⟨hg,by omega,by omega⟩]
 exact List.mem_singleton.2 rfl
include hF h0 h1 h2 in
theorem one_way {U:Int→Option Int} (hU:U to=none) (hw:wt U [⟨frm,ready,1⟩] (zCc L to dl) dl≤0) {k:Nat} {q u:Int} (h:Net.Way L k frm ready q u):u≤dl→late U q u=false:=by
 have hg:∀c∈zCc L to dl,1≤c.1.grams:=fun c hc=>(hF _ (zaf hc).1).2
 have hn:=wC_nn (U:=U) (C:=zCc L to dl) fun c hc=>by have:=hg c hc;omega
 unfold wt at hw
 rw [one_wS h1] at hw
 have hs:late U frm ready=false:=by
  cases hl:late U frm ready with
  | false=>rfl
  | true=>rw [if_pos hl] at hw;omega
 rw [if_neg (by rw [hs];simp)] at hw
 generalize hfr:frm=f at h
 generalize hrd:ready=r at h
 induction h with
 | nil=>intro _;rw [←hfr,←hrd];exact hs
 | @snoc k p t m s' a l h hl hf hd hs' ih=>
   subst hfr hrd
   intro hu
   have hFl:=(hF l hl).1
   unfold Fine at hFl
   have hlat:=h.later fun x hx=>(hF x hx).1
   obtain ⟨w,e1,e2⟩:=zcb.1 (ih rfl rfl (by omega))
   have hm:l.frm≠to:=fun e=>by rw [hf] at e;rw [e,hU] at e1;cases e1
   have hcn:(l,a)∈zCc L to dl:=one_counts hF h0 h2 hl hd hm (by omega) hu
   exact wC_zero hg (by omega) (l,a) hcn (zcb.2 ⟨w,by rw [hf];exact e1,by show w≤a-l.cut;omega⟩)
include hF h0 h1 h2 in
theorem one_yes {k:Nat} {u:Int} (h:Net.Way L k frm ready to u) (hu:u≤dl):BestC [⟨frm,ready,1⟩] (zCc L to dl) to dl noT 1:=by
 have hg:∀c∈zCc L to dl,1≤c.1.grams:=fun c hc=>(hF _ (zaf hc).1).2
 refine ⟨rfl,fun U hU=>?_, ?_,fun U hU hw p t hp=>by cases hp⟩
 ·apply Decidable.byContradiction
  intro hc
  obtain ⟨w,e,_⟩:=zcb.1 (one_way hF h0 h1 h2 hU (by omega) h hu)
  rw [hU] at e;cases e
 ·unfold wt
  rw [one_wS h1,if_pos (by rfl),wC_zero' fun c _ hl=>by cases hl]
  rfl
include hF h0 h1 h2 in
theorem one_no {T:Int→Option Int} (hno:T to=none) (hT:∀p t,T p=some t→t≤dl∧∃k,Net.Way L k frm ready p t) (hall:∀k p u,Net.Way L k frm ready p u→u≤dl→∃t,T p=some t∧t≤u):BestC [⟨frm,ready,1⟩] (zCc L to dl) to dl T 0:=by
 have hg:∀c∈zCc L to dl,1≤c.1.grams:=fun c hc=>(hF _ (zaf hc).1).2
 refine ⟨hno,fun U hU=>?_, ?_,fun U hU hw p t hp=>?_⟩
 ·have hn:=wC_nn (U:=U) (C:=zCc L to dl) fun c hc=>by have:=hg c hc;omega
  unfold wt
  rw [one_wS h1]
  split<;>omega
 ·unfold wt
  rw [one_wS h1,if_neg (by rw [zcb.2 (hall 0 _ _ (.nil _ _) h1)];simp),wC_zero' fun c hc hl=>?_]
  ·rfl
  obtain ⟨m1,m2,d,m3,m4,m5,m6⟩:=zaf hc
  obtain ⟨w,e1,e2⟩:=zcb.1 hl
  obtain ⟨_,k,hw⟩:=hT _ _ e1
  have hFl:=(hF _ m1).1
  unfold Fine at hFl
  refine zcb.2 (hall (k+1) _ _ (.snoc hw m1 rfl ⟨d, ?_,m3,m4⟩ e2) m6)
  unfold goes at m3
  simp only [Bool.and_eq_true,decide_eq_true_eq] at m3
  have mt:za1=1051898399:=rfl
  rw [dayN_eq]
  omega
 ·obtain ⟨ht,k,hw'⟩:=hT p t hp
  exact zcb.1 (one_way hF h0 h1 h2 hU (by omega) hw' ht)
def earT (P:List Int) (E:Int→Int) (dl:Int) (p:Int):Option Int:=if p∈P∧0≤E p∧E p≤dl then some (E p) else none
theorem way_in {P:List Int} {p t q u:Int} {k:Nat} (hD:∀l∈L,l.dst∈P) (h:Net.Way L k p t q u) (hp:p∈P):q∈P:=by
 cases h with
 | nil=>exact hp
 | snoc _ hl _ _ _=>exact hD _ hl
include hF h0 h1 h2 in
theorem one_best {P:List Int} {E:Int→Int} (hD:∀l∈L,l.dst∈P) (hp:frm∈P) (ht:to∈P) (hE:∀q∈P,IsArr L frm ready q (E q)) :
  BestC [⟨frm,ready,1⟩] (zCc L to dl) to dl (if 0≤E to∧E to≤dl then noT else earT P E dl) (if 0≤E to∧E to≤dl then 1 else 0):=by
 by_cases hin:0≤E to∧E to≤dl
 ·rw [if_pos hin,if_pos hin]
  obtain ⟨⟨k,hw⟩,_⟩:=zc5.mem (hE to ht) hin.1
  exact one_yes hF h0 h1 h2 hw hin.2
 ·rw [if_neg hin,if_neg hin]
  refine one_no hF h0 h1 h2 (if_neg fun h=>hin h.2) (fun p t hpt=>?_) (fun k p u hw hu=>?_)
  ·unfold earT at hpt
   split at hpt
   ·rename_i hc
    cases hpt
    obtain ⟨⟨k,hw⟩,_⟩:=zc5.mem (hE p hc.1) hc.2.1
    exact ⟨hc.2.2,k,hw⟩
   ·cases hpt
  ·have hq:=way_in hD hw hp
   have hl:=hw.later fun x hx=>(hF x hx).1
   rcases hE p hq with ⟨_,hn⟩ | ⟨⟨⟨k',hw'⟩,_⟩,hm⟩
   ·exact absurd ⟨⟨k,hw⟩,by omega⟩ (hn u)
   ·have hle:=hm u ⟨⟨k,hw⟩,by omega⟩
    have hl':=hw'.later fun x hx=>(hF x hx).1
    exact ⟨E p,if_pos ⟨hq,by omega,by omega⟩,hle⟩
end
end Go.Flow

