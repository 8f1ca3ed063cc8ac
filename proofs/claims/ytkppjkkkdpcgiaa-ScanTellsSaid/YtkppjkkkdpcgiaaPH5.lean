/-
  Joined texts, 5 of 10. A part of the claim that the last text states.
-/
import Derived.Test.YtkppjkkkdpcgiaaPH4
set_option linter.unusedVariables false
set_option linter.unusedSimpArgs false
namespace Go.AM
section
variable {G G' K:Heap} {R:Nat} {b:Blk}
structure Mut (G G':Heap) (R:Nat):Prop where
 len:G'.length=G.length
 other:∀j,j≠R→hget G' j=hget G j
theorem Mut.ext {H:Heap} (h:Mut G G' R) (hE:Ext H G) (hR:H.length≤R):Ext H G':=by
 obtain ⟨Y,rfl⟩:=hE
 refine ⟨G'.drop H.length, ?_⟩
 apply List.ext_getElem
 ·have:=h.len;simp at this⊢;omega
 intro i h1 h2
 have hl:=h.len
 simp at hl
 by_cases hi:i<H.length
 ·rw [List.getElem_append_left hi]
  have:=h.other i (by omega)
  unfold hget at this
  rw [List.getD_eq_getElem?_getD,List.getD_eq_getElem?_getD,List.getElem?_eq_getElem h1,List.getElem?_eq_getElem (by simp;omega)] at this
  simp only [Option.getD_some] at this
  rw [this,List.getElem_append_left hi]
 ·rw [List.getElem_append_right (by omega),List.getElem_drop]
  congr 1
  omega
theorem Mut.cells (h:Mut G G' R) {j:Nat} {ro:Bool} {c:List Value} (hj:hget G j=.cells ro c) (hne:j≠R):hget G' j=.cells ro c:=by rw [h.other j hne];exact hj
theorem Mut.alive (h:Mut G G' R) {j:Nat} {B:Blk} (hj:hget G j=B) (hne:j≠R):hget G' j=B:=by rw [h.other j hne];exact hj
theorem Mut.sl {α:Type} {enc:α→List Value} {e:Nat} {p:Option Addr} {l:List α} (h:Mut G G' R) (hs:Sl G enc e p l) (hp:∀a,p=some a→l≠[]→a.block≠R):Sl G' enc e p l:=by
 cases p with
 | none=>exact hs
 | some a=>
   refine ⟨hs.1,fun hn=>?_⟩
   obtain ⟨ro,c,h2,h3⟩:=hs.2 hn
   exact ⟨ro,c,h.cells h2 (hp a rfl hn),h3⟩
theorem mut_set (hR:R<G.length) (b:Blk):∃G',(∀X:Heap,(G++X).set R b=G'++X)∧hget G' R=b∧Mut G G' R:=
 ⟨G.set R b,fun X=>List.set_append_left _ _ hR,hget_set_eq hR,by simp,fun j hj=>hget_set_ne hj⟩
end
def Own {α:Type} (lim:Nat) (G:Heap) (enc:α→List Value) (e:Nat) (p:Option Addr) (cap:Nat) (l:List α):Prop:=
 (l=[]∧p=none∧cap=0)∨∃R,p=some ⟨R,0,none⟩∧cap=loose e∧hget G R=.cells false (l.flatMap enc)∧lim≤R
section
variable {α:Type} {lim e bytes cap:Nat} {G:Heap} {enc:α→List Value} {p:Option Addr} {l m:List α}
theorem Own.nil:Own lim G enc e none 0 []:=.inl ⟨rfl,rfl,rfl⟩
theorem Own.app (h:Own lim G enc e p cap l) (X:Heap):Own lim (G++X) enc e p cap l:=by
 rcases h with h | ⟨R,h1,h2,h3,h4⟩
 ·exact .inl h
 ·exact .inr ⟨R,h1,h2,by rw [hget_old (hget_alive h3)];exact h3,h4⟩
theorem Own.mut {G':Heap} {R:Nat} (h:Own lim G enc e p cap l) (hm:Mut G G' R) (hp:∀a,p=some a→a.block≠R):Own lim G' enc e p cap l:=by
 rcases h with h | ⟨R',h1,h2,h3,h4⟩
 ·exact .inl h
 ·exact .inr ⟨R',h1,h2,hm.cells h3 (hp _ h1),h4⟩
theorem Own.new {R:Nat} (hR:hget G R=.cells false (l.flatMap enc)) (hl:lim≤R):Own lim G enc e (some ⟨R,0,none⟩) (loose e) l:=.inr ⟨R,rfl,rfl,hR,hl⟩
theorem Own.sl (h:Own lim G enc e p cap l) (he:∀x,(enc x).length=e):Sl G enc e p l:=by
 rcases h with ⟨h1,h2,_⟩ | ⟨R,h1,h2,h3,h4⟩
 ·subst h1 h2;rfl
 ·subst h1;exact Sl.lit he (by rw [h3];rfl) (by rw [h3];rfl)
theorem Own.le (h:Own lim G enc e p cap l) {lim':Nat} (hl:lim'≤lim):Own lim' G enc e p cap l:=by
 rcases h with h | ⟨R,h1,h2,h3,h4⟩
 ·exact .inl h
 ·exact .inr ⟨R,h1,h2,h3,by omega⟩
theorem Own.block (h:Own lim G enc e p cap l) {a:Addr} (ha:p=some a):lim≤a.block∧a.block<G.length:=by
 rcases h with ⟨h1,h2,h3⟩ | ⟨R,h1,h2,h3,h4⟩
 ·rw [h2] at ha;cases ha
 ·rw [h1] at ha;cases ha;exact ⟨h4,hget_alive h3⟩
theorem Sl.cells (hs:Sl G enc e p m) (hm:m≠[]):∃a,p=some a∧AM.loadCells G a (m.length*e)=some (m.flatMap enc):=by
 cases p with
 | none=>exact absurd hs hm
 | some a=>
   obtain ⟨k1,k2⟩:=hs
   obtain ⟨ro,cs,k3,k4,k5⟩:=k2 hm
   refine ⟨a,rfl, ?_⟩
   obtain ⟨ab,ao,as'⟩:=a
   simp only [loadCells_lit]
   simp only at k3 k4 k5
   simp only [k3]
   rw [if_pos k4,k5]
theorem Own.push {lim':Nat} (h:Own lim G enc e p cap l) (hll:lim'≤lim) (he:∀x,(enc x).length=e) (he0:e≠0) (m:List α) (hm:m≠[]) (hb:(l.length+m.length)*bytes≤maxBytes) (hn:l.length+m.length<2 ^ 61) :
  ∃(G':Heap) (R:Nat),(p=none→R=G.length)∧(∀a,p=some a→R=a.block)∧Mut G G' R∧(∀j,j≠R→hget G' j=hget G j)∧(∀H0:Heap,Ext H0 G→H0.length≤lim→Ext H0 G')∧
   (∀(X:Heap) (px:Option Addr) (k:Nat),Sl (G++X) enc e px m→aAppend lim' none e bytes false (.slice p l.length cap) (.slice px m.length k) (G++X)=some (.slice (some ⟨G.length+X.length,0,none⟩) (l.length+m.length) (loose e),G'++(X++[.cells false ((l++m).flatMap enc)]))):=by
 have hm0:¬m.length=0:=by intro q;exact hm (List.length_eq_zero_iff.1 q)
 rcases h with ⟨h1,h2,h3⟩ | ⟨R,h1,h2,h3,h4⟩
 ·subst h1 h2 h3
  refine ⟨G,G.length,fun _=>rfl,fun a h=>(by cases h),⟨rfl,fun j _=>rfl⟩,fun j _=>rfl,fun H0 h _=>h,fun X px k hx=>?_⟩
  obtain ⟨a,rfl,hl⟩:=hx.cells hm
  simp only [List.length_nil,Nat.zero_add] at hb hn
  simp only [aAppend,firstCells,lenOf,hl,hm0,if_false,Bool.false_eq_true,List.length_nil,Nat.zero_add]
  rw [if_neg (by omega)]
  simp [place]
 ·subst h1 h2
  have hRl:=hget_alive h3
  refine ⟨G.set R .dead,R,fun h=>(by cases h),fun a h=>(by cases h;rfl),⟨by simp,fun j hj=>hget_set_ne hj⟩,fun j hj=>hget_set_ne hj,fun H0 h hl=>Mut.ext (R:=R) ⟨by simp,fun j hj=>hget_set_ne hj⟩ h (by omega),fun X px k hx=>?_⟩
  obtain ⟨a,rfl,hl⟩:=hx.cells hm
  have hR':hget (G++X) R=.cells false (l.flatMap enc):=by rw [hget_old hRl];exact h3
  have hold:AM.loadCells (G++X) ⟨R,0,none⟩ (l.length*e)=some (l.flatMap enc):=by
   simp only [loadCells_lit,hR',Nat.zero_add,flat_len he,Nat.le_refl,if_true,List.drop_zero]
   rw [List.take_of_length_le (by rw [flat_len he];exact Nat.le_refl _)]
  simp only [aAppend,firstCells,lenOf,hl,hold,hR',hm0,if_false,Bool.false_eq_true,if_true]
  rw [if_neg (by unfold loose;omega)]
  simp [show lim'≤R by omega,place,List.set_append_left _ _ hRl,List.append_assoc]
theorem Own.push1 {lim':Nat} (h:Own lim G enc e p cap l) (hll:lim'≤lim) (he:∀x,(enc x).length=e) (he0:e≠0) (x:α) (hb:(l.length+1)*bytes≤maxBytes) (hn:l.length+1<2 ^ 61) :
  ∃(G':Heap) (R:Nat),(p=none→R=G.length)∧(∀a,p=some a→R=a.block)∧Mut G G' R∧(∀H0:Heap,Ext H0 G→H0.length≤lim→Ext H0 G')∧
   (∀(X:Heap) (b k:Nat),hget (G++X) b=.cells false (enc x)→aAppend lim' none e bytes false (.slice p l.length cap) (.slice (some ⟨b,0,none⟩) 1 k) (G++X)=some (.slice (some ⟨G.length+X.length,0,none⟩) (l.length+1) (loose e),G'++(X++[.cells false ((l++[x]).flatMap enc)]))):=by
 obtain ⟨G',R,h1,h2,h3,_,h4,h5⟩:=h.push hll he he0 [x] (by simp) (by simpa using hb) (by simpa using hn)
 refine ⟨G',R,h1,h2,h3,h4,fun X b k hx=>?_⟩
 exact h5 X (some ⟨b,0,none⟩) k (Sl.lit he (by rw [hx];rfl) (by rw [hx];simp [cellsOf]))
def boundsV (len cap:Nat) (lo hi mx:Option Value):Option (Nat×Nat×Nat):=bounds (fun o=>match o with | .const v=>v | _=>undef) len cap (lo.map .const) (hi.map .const) (mx.map .const)
theorem bounds_V {ρ:Operand→Value} {len cap:Nat} {lo hi mx:Option Operand}:bounds ρ len cap lo hi mx=boundsV len cap (lo.map ρ) (hi.map ρ) (mx.map ρ):=by
 unfold boundsV
 cases lo<;>cases hi<;>cases mx<;>rfl
theorem bound_int {n:Int} {m:Nat} {kk:IntKind} (h0:0≤n) (h:n≤(m:Int)):bound (.int kk n) m=some n.toNat:=by
 simp only [bound];rw [if_pos ⟨h0,h⟩]
section
variable {len:Nat} {k1 k2 k3:IntKind} {l h x:Int}
theorem bv_010 (h0:0≤h) (h1:h≤(cap:Int)):boundsV len cap none (some (.int k1 h)) none=some (0,h.toNat,cap):=by
 delta boundsV bounds;simp only [Option.map_some,Option.map_none,bound_int h0 h1]
theorem bv_100 (l0:0≤l) (l1:l≤(len:Int)):boundsV len cap (some (.int k1 l)) none none=some (l.toNat,len,cap):=by
 delta boundsV bounds;simp only [Option.map_some,Option.map_none,bound_int l0 l1]
end
end
def hdC:ACode→ACode
 | .seq a _=>a
 | c=>c
def tlC:ACode→ACode
 | .seq _ b=>b
 | _=>.skip
end Go.AM

namespace Go.Scan
set_option maxRecDepth 100000
set_option linter.unusedVariables false
set_option linter.unusedSimpArgs false
structure Ev where
 (item place scanner kind at' seen time:Int)
 deriving DecidableEq,Inhabited
structure Mk where
 (scanner at' off:Int)
 deriving DecidableEq,Inhabited
def maxT:Int:=1051898399
def FineE (e:Ev):Prop:=(1≤e.item∧e.item≤999999)∧(1≤e.place∧e.place≤999999)∧(1≤e.scanner∧e.scanner≤999999)∧(1≤e.kind∧e.kind≤4)∧(0≤e.at'∧e.at'≤maxT)∧(0≤e.seen∧e.seen≤maxT)
instance (e:Ev):Decidable (FineE e):=by unfold FineE;infer_instance
def RightL (S:List Ev):Prop:=S.length≤2000∧∀s∈S,FineE s
instance (S:List Ev):Decidable (RightL S):=by unfold RightL;infer_instance
def lexC:List Int→List Int→Int
 | a::x,b::y=>if a<b then -1 else if b<a then 1 else lexC x y
 | _,_=>0
theorem lexC_self:∀x,lexC x x=0
 | []=>rfl
 | a::x=>by unfold lexC;rw [if_neg (by omega),if_neg (by omega)];exact lexC_self x
theorem lexC_val:∀x y,lexC x y=-1∨lexC x y=0∨lexC x y=1
 | [],_=>by unfold lexC;simp
 | _::_,[]=>by unfold lexC;simp
 | a::x,b::y=>by
   unfold lexC
   split
   ·simp
   split
   ·simp
   exact lexC_val x y
theorem lexC_neg:∀x y,lexC y x=- lexC x y
 | [],y=>by cases y<;>rfl
 | a::x,[]=>rfl
 | a::x,b::y=>by
   have h:=lexC_neg x y
   unfold lexC
   by_cases h1:a<b
   ·rw [if_neg (by omega),if_pos h1,if_pos h1];rfl
   ·by_cases h2:b<a
    ·rw [if_pos h2,if_neg h1,if_pos h2]
    ·rw [if_neg h2,if_neg h1,if_neg h1,if_neg h2];exact h
theorem lexC_eq:∀x y,x.length=y.length→lexC x y=0→x=y
 | [],[],_,_=>rfl
 | [],b::y,h,_=>by simp at h
 | a::x,[],h,_=>by simp at h
 | a::x,b::y,hl,h=>by
   unfold lexC at h
   by_cases h1:a<b
   ·rw [if_pos h1] at h;omega
   rw [if_neg h1] at h
   by_cases h2:b<a
   ·rw [if_pos h2] at h;omega
   rw [if_neg h2] at h
   rw [lexC_eq x y (by simpa using hl) h,show a=b by omega]
theorem lexC_trans:∀x y z,x.length=y.length→y.length=z.length→lexC x y≤0→lexC y z≤0→lexC x z≤0
 | [],_,_,_,_,_,_=>by unfold lexC;simp
 | a::x,[],_,h,_,_,_=>by simp at h
 | a::x,b::y,[],_,h,_,_=>by simp at h
 | a::x,b::y,c::z,h1,h2,h3,h4=>by
   unfold lexC at h3 h4⊢
   by_cases q1:a<c
   ·rw [if_pos q1];omega
   rw [if_neg q1]
   by_cases q2:a<b
   ·rw [if_neg (show ¬b<c by omega),if_pos (show c<b by omega)] at h4;omega
   rw [if_neg q2] at h3
   by_cases q3:b<a
   ·rw [if_pos q3] at h3;omega
   rw [if_neg q3] at h3
   rw [if_neg (show ¬b<c by omega)] at h4
   by_cases q4:c<b
   ·rw [if_pos q4] at h4;omega
   rw [if_neg q4] at h4
   rw [if_neg (show ¬c<a by omega)]
   exact lexC_trans x y z (by simpa using h1) (by simpa using h2) h3 h4
section
variable {α:Type}
def insB (k:α→List Int) (x:α):List α→List α
 | []=>[x]
 | y::l=>if lexC (k y) (k x)<0 then y::insB k x l else x::y::l
def sortB (k:α→List Int):List α→List α
 | []=>[]
 | x::l=>insB k x (sortB k l)
theorem insB_perm (k:α→List Int) (x:α):∀l,(insB k x l).Perm (x::l)
 | []=>.refl _
 | y::l=>by
   unfold insB
   split
   ·exact ((insB_perm k x l).cons y).trans (.swap x y l)
   ·exact .refl _
theorem sortB_perm (k:α→List Int):∀l,(sortB k l).Perm l
 | []=>.refl _
 | x::l=>(insB_perm k x _).trans ((sortB_perm k l).cons x)
def Ordered (k:α→List Int) (l:List α):Prop:=l.Pairwise fun a b=>lexC (k a) (k b)≤0
theorem insB_sorted {k:α→List Int} {n:Nat} (hn:∀x,(k x).length=n) (x:α):∀l,Ordered k l→Ordered k (insB k x l)
 | [],_=>by unfold insB;exact List.pairwise_singleton _ _
 | y::l,h=>by
   obtain ⟨h1,h2⟩:=List.pairwise_cons.mp h
   unfold insB
   split
   ·rename_i hc
    refine List.pairwise_cons.mpr ⟨fun b hb=>?_,insB_sorted hn x l h2⟩
    rcases List.mem_cons.mp ((insB_perm k x l).mem_iff.mp hb) with rfl | hb
    ·omega
    ·exact h1 b hb
   ·rename_i hc
    have hxy:lexC (k x) (k y)≤0:=by rw [lexC_neg (k y) (k x)];omega
    refine List.pairwise_cons.mpr ⟨fun b hb=>?_,h⟩
    rcases List.mem_cons.mp hb with rfl | hb
    ·exact hxy
    ·exact lexC_trans _ (k y) _ (by rw [hn,hn]) (by rw [hn,hn]) hxy (h1 b hb)
theorem sortB_sorted {k:α→List Int} {n:Nat} (hn:∀x,(k x).length=n):∀l,Ordered k (sortB k l)
 | []=>List.Pairwise.nil
 | x::l=>insB_sorted hn x _ (sortB_sorted hn l)
theorem ordered_uniq {k:α→List Int} {n:Nat} (hn:∀x,(k x).length=n) (hi:∀x y,k x=k y→x=y) {l l':List α} (h:Ordered k l) (h':Ordered k l') (hp:l.Perm l'):l=l':=
 List.Perm.eq_of_pairwise (le:=fun a b=>lexC (k a) (k b)≤0) (fun a b _ _ h1 h2=>hi a b (lexC_eq _ _ (by rw [hn,hn]) (by rw [lexC_neg (k a) (k b)] at h2;omega))) h h' hp
theorem sortB_uniq {k:α→List Int} {n:Nat} (hn:∀x,(k x).length=n) (hi:∀x y,k x=k y→x=y) {l l':List α} (h:Ordered k l') (hp:l'.Perm l):l'=sortB k l:=
 ordered_uniq hn hi h (sortB_sorted hn l) (hp.trans (sortB_perm k l).symm)
theorem sortB_congr {k:α→List Int} {n:Nat} (hn:∀x,(k x).length=n) (hi:∀x y,k x=k y→x=y) {l l':List α} (hp:l'.Perm l):sortB k l'=sortB k l:=
 sortB_uniq hn hi (sortB_sorted hn l') ((sortB_perm k l').trans hp)
end
def keyM (s:Ev):Int×Int:=(s.scanner,s.seen / 1440)
def mkM (s:Ev):Mk:=⟨s.scanner,s.at',s.seen-s.at'⟩
def better (m old:Mk):Prop:=m.off<old.off∨m.off=old.off∧m.at'<old.at'
instance (m old:Mk):Decidable (better m old):=by unfold better;infer_instance
def putM (k:Int×Int) (m:Mk):List ((Int×Int)×Mk)→List ((Int×Int)×Mk)
 | []=>[(k,m)]
 | (k',old)::l=>if k'=k then (k',m)::l else (k',old)::putM k m l
def getM (k:Int×Int):List ((Int×Int)×Mk)→Option Mk
 | []=>none
 | (k',old)::l=>if k'=k then some old else getM k l
def leastAdd (l:List ((Int×Int)×Mk)) (s:Ev):List ((Int×Int)×Mk):=
 match getM (keyM s) l with
 | none=>putM (keyM s) (mkM s) l
 | some old=>if better (mkM s) old then putM (keyM s) (mkM s) l else l
def leastN (S:List Ev):List ((Int×Int)×Mk):=S.foldl leastAdd []
def keysM (m:Mk):List Int:=[m.scanner,m.at',m.off]
theorem keysM_len (m:Mk):(keysM m).length=3:=id rfl
theorem keysM_inj (m n:Mk) (h:keysM m=keysM n):m=n:=by
 obtain ⟨a,b,c⟩:=m;obtain ⟨d,e,f⟩:=n
 simp only [keysM,List.cons.injEq] at h
 obtain ⟨rfl,rfl,rfl,_⟩:=h
 rfl
def sameM (m p:Mk):Prop:=m.scanner=p.scanner∧m.at'=p.at'
instance (m p:Mk):Decidable (sameM m p):=by unfold sameM;infer_instance
def cptGo (p:Mk):List Mk→List Mk
 | []=>[]
 | m::l=>if sameM m p then cptGo m l else m::cptGo m l
def compactN:List Mk→List Mk
 | []=>[]
 | m::l=>m::cptGo m l
def gatherN (S:List Ev):List Mk:=compactN (sortB keysM ((leastN S).map (·.2)))
def fineM (m:Mk):Prop:=1≤m.scanner∧m.scanner≤999999∧0≤m.at'∧m.at'≤maxT∧-maxT≤m.off∧m.off≤maxT
instance (m:Mk):Decidable (fineM m):=by unfold fineM;infer_instance
def ltM (a b:Mk):Prop:=a.scanner<b.scanner∨a.scanner=b.scanner∧a.at'<b.at'
instance (a b:Mk):Decidable (ltM a b):=by unfold ltM;infer_instance
def MarksOk (l:List Mk):Prop:=(∀m∈l,fineM m)∧l.Pairwise ltM
def zeroM:Mk:=⟨0,0,0⟩
def offGo (t:Int):Mk→List Mk→Int
 | last,[]=>last.off
 | last,m::l=>if t > m.at' then offGo t m l else if last=zeroM then m.off else last.off+(m.off-last.off)*(t-last.at') / (m.at'-last.at')
def ofN (M:List Mk) (sc:Int):List Mk:=M.filter fun m=>m.scanner == sc
def offN (M:List Mk) (sc t:Int):Int:=offGo t zeroM (ofN M sc)
def timeN (M:List Mk) (s:Ev):Int:=min (max (s.at'+offN M s.scanner s.at') 0) s.seen
def keysE (e:Ev):List Int:=[e.time,e.kind,e.place,e.scanner,e.item,e.at',e.seen]
theorem keysE_len (e:Ev):(keysE e).length=7:=id rfl
theorem keysE_inj (x y:Ev) (h:keysE x=keysE y):x=y:=by
 obtain ⟨a,b,c,d,e,f,g⟩:=x;obtain ⟨a',b',c',d',e',f',g'⟩:=y
 simp only [keysE,List.cons.injEq] at h
 obtain ⟨rfl,rfl,rfl,rfl,rfl,rfl,rfl,_⟩:=h
 rfl
def eventsN (M:List Mk) (S:List Ev):List Ev:=sortB keysE (S.map fun s=>{ s with time:=timeN M s })
def sight (e:Ev):Int×Int×Int:=(e.item,e.place,e.kind)
def lastK (e:Ev) (kept:List Ev):Option Ev:=kept.find? fun x=>sight x == sight e
def twiceB (e:Ev) (kept:List Ev):Bool:=match lastK e kept with
 | none=>false
 | some x=>decide (e.time-x.time≤10)
def siftGo:List Ev→List Ev→List Ev→List Ev×List Ev
 | kept,twice,[]=>(kept.reverse,twice.reverse)
 | kept,twice,e::l=>if twiceB e kept then siftGo kept (e::twice) l else siftGo (e::kept) twice l
def siftN (S:List Ev):List Ev×List Ev:=siftGo [] [] (eventsN (gatherN S) S)
def ofE (l:List Ev) (item:Int):List Ev:=l.filter fun e=>item == 0||e.item == item
def oneS (scanner at' seen:Int):Ev:=⟨7,3,scanner,1,at',seen,0⟩
theorem ex_1:gatherN [oneS 1 60 400,oneS 1 50 150,oneS 1 2000 2140]=[⟨1,50,100⟩,⟨1,2000,140⟩]:=by decide
theorem ex_2:timeN [⟨1,50,100⟩,⟨1,2000,140⟩] (oneS 1 60 400)=160:=by decide
theorem ex_3:timeN [⟨1,50,100⟩,⟨1,2000,140⟩] (oneS 1 1025 5000)=1145:=by decide
theorem ex_4:timeN [⟨1,50,100⟩,⟨1,2000,140⟩] (oneS 2 60 400)=60:=by decide
abbrev Es:=List ((Int×Int)×Mk)
theorem getM_mem {k:Int×Int} {m:Mk}:∀{l:Es},getM k l=some m→(k,m)∈l
 | [],h=>by cases h
 | (k',m')::l,h=>by
   unfold getM at h
   by_cases hk:k'=k
   ·rw [if_pos hk] at h;cases h;rw [hk];exact List.mem_cons_self
   ·rw [if_neg hk] at h;exact List.mem_cons_of_mem _ (getM_mem h)
def NodupK (l:Es):Prop:=(l.map (·.1)).Nodup
theorem getM_of {k:Int×Int} {m:Mk}:∀{l:Es},NodupK l→(k,m)∈l→getM k l=some m
 | [],_,h=>by cases h
 | (k',m')::l,hn,h=>by
   have hn2:=List.nodup_cons.mp hn
   unfold getM
   rcases List.mem_cons.mp h with h | h
   ·cases h;rw [if_pos rfl]
   ·rw [if_neg fun hk=>hn2.1 (by rw [hk];exact List.mem_map.mpr ⟨_,h,rfl⟩)]
    exact getM_of hn2.2 h
theorem putM_keys {k:Int×Int} {m:Mk}:∀{l:Es} {x},x∈(putM k m l).map (·.1)↔x=k∨x∈l.map (·.1)
 | [],x=>by simp [putM]
 | (k',m')::l,x=>by
   unfold putM
   by_cases hk:k'=k
   ·rw [if_pos hk];subst hk;simp
   ·rw [if_neg hk,List.map_cons,List.mem_cons,putM_keys,List.map_cons,List.mem_cons]
    exact or_left_comm
theorem putM_nodup {k:Int×Int} {m:Mk}:∀{l:Es},NodupK l→NodupK (putM k m l)
 | [],_=>by simp [putM,NodupK]
 | (k',m')::l,h=>by
   have h2:=List.nodup_cons.mp h
   unfold putM
   by_cases hk:k'=k
   ·rw [if_pos hk];exact h
   ·rw [if_neg hk]
    refine List.nodup_cons.mpr ⟨fun hc=>?_,putM_nodup h2.2⟩
    rcases putM_keys.mp hc with hc | hc
    ·exact hk hc
    ·exact h2.1 hc
theorem getM_put {k k':Int×Int} {m:Mk}:∀{l:Es},getM k' (putM k m l)=if k'=k then some m else getM k' l
 | []=>by
   unfold putM getM
   by_cases h:k'=k
   ·rw [if_pos h.symm,if_pos h]
   ·rw [if_neg fun q=>h q.symm,if_neg h];rfl
 | (k2,m2)::l=>by
   unfold putM
   by_cases h2:k2=k
   ·rw [if_pos h2]
    subst h2
    by_cases h:k'=k2
    ·rw [if_pos h];unfold getM;rw [if_pos h.symm]
    ·rw [if_neg h];unfold getM;rw [if_neg fun q=>h q.symm,if_neg fun q=>h q.symm]
   ·rw [if_neg h2]
    by_cases h:k2=k'
    ·have:¬k'=k:=fun q=>h2 (h.trans q)
     rw [if_neg this];unfold getM;rw [if_pos h,if_pos h]
    ·unfold getM;rw [if_neg h,if_neg h];exact getM_put
structure LeastOf (S:List Ev) (l:Es):Prop where
 nd:NodupK l
 from':∀k m,getM k l=some m→∃s∈S,keyM s=k∧mkM s=m
 all:∀s∈S,∃m,getM (keyM s) l=some m∧¬better (mkM s) m
theorem better_trans {a b c:Mk} (h:¬better a b) (h2:better c b):¬better a c:=by
 unfold better at *;omega
theorem better_self {a:Mk}:¬better a a:=by unfold better;omega
theorem LeastOf.add {S:List Ev} {l:Es} (h:LeastOf S l) (s:Ev):LeastOf (S++[s]) (leastAdd l s):=by
 have put:(∀m,getM (keyM s) l=some m→better (mkM s) m)→LeastOf (S++[s]) (putM (keyM s) (mkM s) l):=by
  intro hb
  refine ⟨putM_nodup h.nd,fun k m hk=>?_,fun x hx=>?_⟩
  ·rw [getM_put] at hk
   by_cases q:k=keyM s
   ·rw [if_pos q] at hk;cases hk;exact ⟨s,by simp,q.symm,rfl⟩
   ·rw [if_neg q] at hk
    obtain ⟨y,hy,h1,h2⟩:=h.from' k m hk
    exact ⟨y,List.mem_append_left _ hy,h1,h2⟩
  ·rw [getM_put]
   rcases List.mem_append.mp hx with hx | hx
   ·obtain ⟨m,h1,h2⟩:=h.all x hx
    by_cases q:keyM x=keyM s
    ·rw [if_pos q]
     rw [q] at h1
     exact ⟨_,rfl,better_trans h2 (hb m h1)⟩
    ·rw [if_neg q];exact ⟨m,h1,h2⟩
   ·rw [List.mem_singleton] at hx;subst hx
    rw [if_pos rfl];exact ⟨_,rfl,better_self⟩
 unfold leastAdd
 cases hg:getM (keyM s) l with
 | none=>exact put (by rw [hg];intro m h;cases h)
 | some old=>
   dsimp only
   by_cases hb:better (mkM s) old
   ·rw [if_pos hb];exact put (by rw [hg];intro m h;cases h;exact hb)
   ·rw [if_neg hb]
    refine ⟨h.nd,fun k m hk=>?_,fun x hx=>?_⟩
    ·obtain ⟨y,hy,h1,h2⟩:=h.from' k m hk
     exact ⟨y,List.mem_append_left _ hy,h1,h2⟩
    ·rcases List.mem_append.mp hx with hx | hx
     ·exact h.all x hx
     ·rw [List.mem_singleton] at hx;subst hx
      exact ⟨old,hg,hb⟩
theorem least_of:∀(T S:List Ev) (l:Es),LeastOf S l→LeastOf (S++T) (T.foldl leastAdd l)
 | [],S,l,h=>by rw [List.append_nil];exact h
 | s::T,S,l,h=>by
   have:=least_of T (S++[s]) _ (h.add s)
   rw [List.append_assoc] at this
   exact this
theorem leastN_of (S:List Ev):LeastOf S (leastN S):=by
 have:=least_of S [] [] ⟨by simp [NodupK],fun k m h=>(by cases h),fun s h=>(List.not_mem_nil h).elim⟩
 exact this
theorem mk_eq {a b:Mk} (hs:a.scanner=b.scanner) (h1:¬better a b) (h2:¬better b a):a=b:=by
 obtain ⟨a1,a2,a3⟩:=a;obtain ⟨b1,b2,b3⟩:=b
 unfold better at h1 h2
 simp only at hs h1 h2
 have e1:a2=b2:=by omega
 have e2:a3=b3:=by omega
 rw [hs,e1,e2]
theorem LeastOf.get {S:List Ev} {l:Es} (h:LeastOf S l) {k:Int×Int} {m:Mk}:getM k l=some m↔(∃s∈S,keyM s=k∧mkM s=m)∧∀x∈S,keyM x=k→¬better (mkM x) m:=by
 constructor
 ·intro hk
  refine ⟨h.from' k m hk,fun x hx hq=>?_⟩
  obtain ⟨m',h1,h2⟩:=h.all x hx
  rw [hq,hk] at h1;cases h1;exact h2
 ·rintro ⟨⟨s,hs,rfl,rfl⟩,hb⟩
  obtain ⟨m',h1,h2⟩:=h.all s hs
  obtain ⟨y,hy,hk,rfl⟩:=h.from' _ _ h1
  rw [h1,mk_eq (a:=mkM s) (b:=mkM y) (congrArg (·.1) hk.symm) h2 (hb y hy hk)]
theorem LeastOf.perm {S S':List Ev} {l l':Es} (h:LeastOf S l) (h':LeastOf S' l') (hm:∀s,s∈S↔s∈S'):l.Perm l':=by
 have nd:∀{l:Es},NodupK l→l.Nodup:=fun h=>(List.pairwise_map.mp h).imp fun {a b} q e=>q (congrArg _ e)
 refine (List.perm_ext_iff_of_nodup (nd h.nd) (nd h'.nd)).mpr fun ⟨k,m⟩=>?_
 have e:∀{S:List Ev} {l:Es},LeastOf S l→((k,m)∈l↔getM k l=some m):=fun h=>⟨getM_of h.nd,getM_mem⟩
 rw [e h,e h',h.get,h'.get]
 simp only [hm]
theorem cptGo_sub (p:Mk):∀l,(cptGo p l).Sublist l
 | []=>.refl _
 | m::l=>by
   unfold cptGo
   split
   ·exact (cptGo_sub m l).trans (List.sublist_cons_self _ _)
   ·exact (cptGo_sub m l).cons_cons m
theorem le_split {a b:Mk} (h:lexC (keysM a) (keysM b)≤0):ltM a b∨sameM b a∧a.off≤b.off:=by
 unfold keysM lexC at h
 by_cases h1:a.scanner<b.scanner
 ·exact .inl (.inl h1)
 rw [if_neg h1] at h
 by_cases h2:b.scanner<a.scanner
 ·rw [if_pos h2] at h;omega
 rw [if_neg h2] at h
 have e1:a.scanner=b.scanner:=by omega
 unfold lexC at h
 by_cases h3:a.at'<b.at'
 ·exact .inl (.inr ⟨e1,h3⟩)
 rw [if_neg h3] at h
 by_cases h4:b.at'<a.at'
 ·rw [if_pos h4] at h;omega
 rw [if_neg h4] at h
 unfold lexC at h
 by_cases h5:a.off<b.off
 ·exact .inr ⟨⟨e1.symm,by omega⟩,by omega⟩
 rw [if_neg h5] at h
 by_cases h6:b.off<a.off
 ·rw [if_pos h6] at h;omega
 exact .inr ⟨⟨e1.symm,by omega⟩,by omega⟩
theorem ltM_trans {a b c:Mk} (h:ltM a b) (h2:ltM b c):ltM a c:=by unfold ltM at *;omega
theorem ltM_same {a b c:Mk} (h:ltM a b) (h2:sameM c b):ltM a c:=by unfold ltM sameM at *;omega
theorem cptGo_ok:∀(l:List Mk) (p:Mk),Ordered keysM (p::l)→(cptGo p l).Pairwise ltM∧(∀x∈cptGo p l,ltM p x)∧∀x∈l,sameM x p∧p.off≤x.off∨∃y∈cptGo p l,sameM x y∧y.off≤x.off
 | [],p,_=>by simp [cptGo]
 | m::l,p,h=>by
   obtain ⟨h1,h2⟩:=List.pairwise_cons.mp h
   obtain ⟨i1,i2,i3⟩:=cptGo_ok l m h2
   have hpm:=le_split (h1 m List.mem_cons_self)
   unfold cptGo
   by_cases hs:sameM m p
   ·rw [if_pos hs]
    have hq:p.off≤m.off:=by
     rcases hpm with q | q
     ·unfold ltM at q;unfold sameM at hs;omega
     ·exact q.2
    refine ⟨i1,fun x hx=>?_,fun x hx=>?_⟩
    ·have:=i2 x hx;unfold ltM at *;unfold sameM at hs;omega
    ·rcases List.mem_cons.mp hx with rfl | hx
     ·exact .inl ⟨hs,hq⟩
     ·rcases i3 x hx with q | q
      ·refine .inl ⟨?_,by omega⟩
       have:=q.1;unfold sameM at *;omega
      ·exact .inr q
   ·rw [if_neg hs]
    have hlt:ltM p m:=by
     rcases hpm with q | q
     ·exact q
     ·exact absurd q.1 hs
    refine ⟨List.pairwise_cons.mpr ⟨i2,i1⟩,fun x hx=>?_,fun x hx=>?_⟩
    ·rcases List.mem_cons.mp hx with rfl | hx
     ·exact hlt
     ·exact ltM_trans hlt (i2 x hx)
    ·rcases List.mem_cons.mp hx with rfl | hx
     ·exact .inr ⟨x,List.mem_cons_self,⟨rfl,rfl⟩,Int.le_refl _⟩
     ·rcases i3 x hx with q | ⟨y,hy,q⟩
      ·exact .inr ⟨m,List.mem_cons_self,q⟩
      ·exact .inr ⟨y,List.mem_cons_of_mem _ hy,q⟩
theorem compactN_ok {l:List Mk} (h:Ordered keysM l):(compactN l).Pairwise ltM∧(compactN l).Sublist l∧∀x∈l,∃y∈compactN l,sameM x y∧y.off≤x.off:=by
 cases l with
 | nil=>exact ⟨List.Pairwise.nil,.refl _,fun x h=>by cases h⟩
 | cons m l=>
   obtain ⟨i1,i2,i3⟩:=cptGo_ok l m h
   refine ⟨List.pairwise_cons.mpr ⟨i2,i1⟩,(cptGo_sub m l).cons_cons m,fun x hx=>?_⟩
   rcases List.mem_cons.mp hx with rfl | hx
   ·exact ⟨x,List.mem_cons_self,⟨rfl,rfl⟩,Int.le_refl _⟩
   ·rcases i3 x hx with q | ⟨y,hy,q⟩
    ·exact ⟨m,List.mem_cons_self,q⟩
    ·exact ⟨y,List.mem_cons_of_mem _ hy,q⟩
def valsN (S:List Ev):List Mk:=(leastN S).map (·.2)
theorem vals_mem {S:List Ev} {m:Mk}:m∈valsN S↔∃s∈S,mkM s=m∧∀x∈S,keyM x=keyM s→¬better (mkM x) m:=by
 unfold valsN
 rw [List.mem_map]
 constructor
 ·rintro ⟨⟨k,m'⟩,h,rfl⟩
  obtain ⟨⟨s,hs,rfl,rfl⟩,hb⟩:=(leastN_of S).get.mp (getM_of (leastN_of S).nd h)
  exact ⟨s,hs,rfl,hb⟩
 ·rintro ⟨s,hs,rfl,hb⟩
  exact ⟨(keyM s,mkM s),getM_mem ((leastN_of S).get.mpr ⟨⟨s,hs,rfl,rfl⟩,hb⟩),rfl⟩
theorem vals_len (S:List Ev):(valsN S).length≤S.length:=by
 have put:∀(k:Int×Int) (m:Mk) (l:Es),(putM k m l).length≤l.length+1:=by
  intro k m l
  induction l with
  | nil=>simp [putM]
  | cons a l ih=>
    unfold putM
    split
    ·simp
    ·simp only [List.length_cons];omega
 have key:∀(T:List Ev) (l:Es),(T.foldl leastAdd l).length≤l.length+T.length:=by
  intro T
  induction T with
  | nil=>intro l;simp
  | cons s T ih=>
    intro l
    have h1:=ih (leastAdd l s)
    have h2:(leastAdd l s).length≤l.length+1:=by
     unfold leastAdd
     split
     ·exact put _ _ _
     split
     ·exact put _ _ _
     ·omega
    simp only [List.foldl_cons,List.length_cons];omega
 have:=key S []
 unfold valsN leastN
 rw [List.length_map];simpa using this
theorem gather_sorted (S:List Ev):Ordered keysM (sortB keysM (valsN S)):=sortB_sorted keysM_len _
theorem gather_lt (S:List Ev):(gatherN S).Pairwise ltM:=(compactN_ok (gather_sorted S)).1
theorem gather_vals {S:List Ev} {m:Mk} (h:m∈gatherN S):m∈valsN S:=(sortB_perm keysM _).mem_iff.mp ((compactN_ok (gather_sorted S)).2.1.mem h)
theorem gather_some {S:List Ev} {m:Mk} (h:m∈valsN S):∃y∈gatherN S,sameM m y∧y.off≤m.off:=(compactN_ok (gather_sorted S)).2.2 m ((sortB_perm keysM _).mem_iff.mpr h)
theorem gather_fine {S:List Ev} (hS:∀s∈S,FineE s) {m:Mk} (h:m∈gatherN S):fineM m:=by
 obtain ⟨s,hs,rfl,_⟩:=vals_mem.mp (gather_vals h)
 have:=hS s hs
 unfold FineE at this;unfold fineM mkM;simp only;omega
theorem gather_ok {S:List Ev} (hS:∀s∈S,FineE s):MarksOk (gatherN S):=⟨fun m h=>gather_fine hS h,gather_lt S⟩
theorem gather_len (S:List Ev):(gatherN S).length≤S.length:=by
 have h1:=(compactN_ok (gather_sorted S)).2.1.length_le
 rw [(sortB_perm keysM _).length_eq] at h1
 have:=vals_len S
 unfold gatherN valsN at *
 omega
theorem lt_uniq {l l':List Mk} (h:l.Pairwise ltM) (h':l'.Pairwise ltM) (hm:∀m,m∈l↔m∈l'):l=l':=by
 have nd:∀{l:List Mk},l.Pairwise ltM→l.Nodup:=fun h=>h.imp fun {a b} q e=>by subst e;unfold ltM at q;omega
 have hp:l.Perm l':=(List.perm_ext_iff_of_nodup (nd h) (nd h')).mpr hm
 exact List.Perm.eq_of_pairwise (le:=ltM) (fun a b _ _ h1 h2=>by unfold ltM at h1 h2;omega) h h' hp
theorem lastK_some {e x:Ev} {kept:List Ev} (h:lastK e kept=some x):x∈kept∧sight x=sight e:=by
 unfold lastK at h
 exact ⟨List.mem_of_find?_eq_some h,by simpa using List.find?_some h⟩
theorem twiceB_true {e:Ev} {kept:List Ev}:twiceB e kept=true↔∃x,lastK e kept=some x∧e.time-x.time≤10:=by
 unfold twiceB
 cases h:lastK e kept with
 | none=>simp
 | some x=>simp
theorem siftGo_perm:∀(l kept twice:List Ev),((siftGo kept twice l).1++(siftGo kept twice l).2).Perm (kept++twice++l)
 | [],kept,twice=>by
   unfold siftGo
   rw [List.append_nil]
   exact (List.reverse_perm _).append (List.reverse_perm _)
 | e::l,kept,twice=>by
   unfold siftGo
   split
   ·refine (siftGo_perm l _ _).trans ?_
    rw [List.append_assoc,List.append_assoc,List.cons_append]
    exact (List.perm_middle).symm.append_left kept
   ·refine (siftGo_perm l _ _).trans ?_
    rw [List.cons_append,List.cons_append]
    exact List.perm_middle.symm
theorem events_mem {M:List Mk} {S:List Ev} {x:Ev}:x∈eventsN M S↔∃s∈S,{ s with time:=timeN M s }=x:=by
 unfold eventsN
 rw [(sortB_perm keysE _).mem_iff,List.mem_map]
theorem drift_in {D w k:Int} (hw:0<w) (h1:0≤k) (h2:k≤w):min 0 D≤D*k / w∧D*k / w≤max 0 D:=by
 rcases (by omega:D<0∨0≤D) with h | h
 ·rw [Int.min_eq_right (by omega),Int.max_eq_left (by omega)]
  constructor
  ·exact Int.le_ediv_of_mul_le hw (Int.mul_le_mul_of_nonpos_left (by omega) h2)
  ·refine Int.ediv_le_of_le_mul hw ?_
   rw [Int.zero_mul]
   exact Int.mul_nonpos_of_nonpos_of_nonneg (by omega) h1
 ·rw [Int.min_eq_left (by omega),Int.max_eq_right (by omega)]
  exact ⟨Int.ediv_nonneg (Int.mul_nonneg h h1) (by omega),Int.ediv_le_of_le_mul hw (Int.mul_le_mul_of_nonneg_left h2 h)⟩
def aheadN (t:Int) (l:List Mk):List Mk:=l.filter fun m=>decide (m.at'≤t)
def behindN (t:Int) (l:List Mk):List Mk:=l.filter fun m=>decide (t<m.at')
def refV (t:Int) (last:Mk) (a b:Option Mk):Int:=match a,b with
 | none,none=>last.off
 | none,some b=>if last=zeroM then b.off else last.off+(b.off-last.off)*(t-last.at') / (b.at'-last.at')
 | some a,none=>a.off
 | some a,some b=>a.off+(b.off-a.off)*(t-a.at') / (b.at'-a.at')
def AtLt (l:List Mk):Prop:=l.Pairwise fun a b=>a.at'<b.at'
theorem offGo_ref {t:Int}:∀(l:List Mk) (last:Mk),AtLt l→(∀m∈l,m≠zeroM)→(last=zeroM∨last.at'<t)→offGo t last l=refV t last (aheadN t l).getLast? (behindN t l).head?
 | [],last,_,_,_=>rfl
 | m::l,last,hl,hz,h=>by
   obtain ⟨l1,l2⟩:=List.pairwise_cons.mp hl
   have hz':=fun x hx=>hz x (List.mem_cons_of_mem _ hx)
   unfold offGo
   by_cases h1:t > m.at'
   ·rw [if_pos h1,offGo_ref l m l2 hz' (.inr h1)]
    have e1:aheadN t (m::l)=m::aheadN t l:=by unfold aheadN;rw [List.filter_cons_of_pos (by simp;omega)]
    have e2:behindN t (m::l)=behindN t l:=by unfold behindN;rw [List.filter_cons_of_neg (by simp;omega)]
    rw [e1,e2,List.getLast?_cons]
    cases (aheadN t l).getLast? with
    | none=>cases (behindN t l).head?<;>simp [refV,hz m List.mem_cons_self]
    | some a=>cases (behindN t l).head?<;>simp [refV]
   ·rw [if_neg h1]
    by_cases h2:m.at'=t
    ·have e0:aheadN t l=[]:=by
      unfold aheadN
      rw [List.filter_eq_nil_iff]
      intro x hx
      have:=l1 x hx
      simp;omega
     have e1:aheadN t (m::l)=[m]:=by
      have:aheadN t (m::l)=m::aheadN t l:=by unfold aheadN;rw [List.filter_cons_of_pos (by simp;omega)]
      rw [this,e0]
     have e2:behindN t (m::l)=behindN t l:=by unfold behindN;rw [List.filter_cons_of_neg (by simp;omega)]
     have ev:refV t last [m].getLast? (behindN t l).head? = m.off:=by
      cases (behindN t l).head? with
      | none=>rfl
      | some b=>simp only [List.getLast?_singleton,refV];rw [h2,Int.sub_self,Int.mul_zero,Int.zero_ediv,Int.add_zero]
     rw [e1,e2,ev]
     split
     ·rfl
     ·rename_i hn
      have hlt:last.at'<t:=h.resolve_left hn
      rw [h2,Int.mul_ediv_cancel _ (by omega)]
      omega
    ·have e1:aheadN t (m::l)=[]:=by
      unfold aheadN
      rw [List.filter_eq_nil_iff]
      intro x hx
      rcases List.mem_cons.mp hx with rfl | hx
      ·simp;omega
      ·have:=l1 x hx
       simp;omega
     have e2:behindN t (m::l)=m::behindN t l:=by unfold behindN;rw [List.filter_cons_of_pos (by simp;omega)]
     rw [e1,e2]
     rfl
theorem ofN_lt {M:List Mk} {sc:Int} (h:M.Pairwise ltM):AtLt (ofN M sc):=by
 unfold AtLt ofN
 have h2:=h.filter (fun m=>m.scanner == sc)
 refine List.Pairwise.imp_of_mem ?_ h2
 intro a b ha hb q
 have e1:a.scanner=sc:=by simpa using (List.mem_filter.mp ha).2
 have e2:b.scanner=sc:=by simpa using (List.mem_filter.mp hb).2
 unfold ltM at q;omega
theorem offN_ref {M:List Mk} (h:MarksOk M) (sc t:Int):offN M sc t=refV t zeroM (aheadN t (ofN M sc)).getLast? (behindN t (ofN M sc)).head?:=by
 refine offGo_ref _ _ (ofN_lt h.2) (fun m hm hc=>?_) (.inl rfl)
 have:=h.1 m (List.mem_filter.mp hm).1
 subst hc
 have h0:zeroM.scanner=0:=rfl
 unfold fineM at this;omega
theorem offGo_bound {t B:Int}:∀(l:List Mk) (last:Mk),AtLt l→(∀m∈l,-B≤m.off∧m.off≤B)→-B≤last.off→last.off≤B→(∀m∈l,last=zeroM∨last.at'<m.at')→(last=zeroM∨last.at'<t)→-B≤offGo t last l∧offGo t last l≤B
 | [],last,_,_,h1,h2,_,_=>⟨h1,h2⟩
 | m::l,last,hl,hb,h1,h2,h3,h4=>by
   obtain ⟨l1,l2⟩:=List.pairwise_cons.mp hl
   have hm:=hb m List.mem_cons_self
   unfold offGo
   split
   ·rename_i ht
    exact offGo_bound l m l2 (fun x hx=>hb x (List.mem_cons_of_mem _ hx)) hm.1 hm.2 (fun x hx=>.inr (l1 x hx)) (.inr ht)
   split
   ·exact hm
   ·rename_i g1 g2
    have e1:=h4.resolve_left g2
    have:=drift_in (D:=m.off-last.off) (w:=m.at'-last.at') (k:=t-last.at') (by omega) (by omega) (by omega)
    omega
structure AtOnce (S:List Ev) (c:Int→Int) (t:Ev→Int):Prop where
 at_:∀s∈S,s.at'=t s-c s.scanner
 late:∀s∈S,t s≤s.seen
 once:∀s∈S,∃x∈S,keyM x=keyM s∧x.seen=t x
def makesB (S:List Ev) (s:Ev):Bool:=S.all fun x=>!(decide (keyM x=keyM s)&&decide (better (mkM x) (mkM s)))
def insR (m:Mk):List Mk→List Mk
 | []=>[m]
 | y::l=>if ltM y m then y::insR m l else if sameM y m then (if m.off<y.off then { y with off:=m.off } else y)::l else m::y::l
def refMarks (S:List Ev):List Mk:=(S.filter (makesB S)).foldl (fun out s=>insR (mkM s) out) []
theorem insR_lt {m:Mk}:∀{l:List Mk},l.Pairwise ltM→(insR m l).Pairwise ltM∧∀x∈insR m l,sameM x m∨∃y∈l,sameM x y
 | [],_=>by
   unfold insR
   exact ⟨List.pairwise_singleton _ _,fun x hx=>by rw [List.mem_singleton] at hx;subst hx;exact .inl ⟨rfl,rfl⟩⟩
 | y::l,h=>by
   obtain ⟨h1,h2⟩:=List.pairwise_cons.mp h
   obtain ⟨i1,i2⟩:=insR_lt (m:=m) h2
   unfold insR
   split
   ·rename_i hlt
    refine ⟨List.pairwise_cons.mpr ⟨fun x hx=>?_,i1⟩,fun x hx=>?_⟩
    ·rcases i2 x hx with q | ⟨z,hz,q⟩
     ·exact ltM_same hlt q
     ·exact ltM_same (h1 z hz) q
    ·rcases List.mem_cons.mp hx with rfl | hx
     ·exact .inr ⟨x,List.mem_cons_self,rfl,rfl⟩
     ·rcases i2 x hx with q | ⟨z,hz,q⟩
      ·exact .inl q
      ·exact .inr ⟨z,List.mem_cons_of_mem _ hz,q⟩
   ·split
    ·rename_i hn hs
     have hy:∀z,ltM y z→ltM (if m.off<y.off then { y with off:=m.off } else y) z:=by
      intro z hz;split
      ·exact hz
      ·exact hz
     have hy2:sameM (if m.off<y.off then { y with off:=m.off } else y) y:=by split<;>exact ⟨rfl,rfl⟩
     refine ⟨List.pairwise_cons.mpr ⟨fun x hx=>hy x (h1 x hx),h2⟩,fun x hx=>?_⟩
     rcases List.mem_cons.mp hx with rfl | hx
     ·exact .inr ⟨y,List.mem_cons_self,hy2⟩
     ·exact .inr ⟨x,List.mem_cons_of_mem _ hx,rfl,rfl⟩
    ·rename_i hn hs
     have hmy:ltM m y:=by unfold ltM sameM at *;omega
     refine ⟨List.pairwise_cons.mpr ⟨fun x hx=>?_,h⟩,fun x hx=>?_⟩
     ·rcases List.mem_cons.mp hx with rfl | hx
      ·exact hmy
      ·exact ltM_trans hmy (h1 x hx)
     ·rcases List.mem_cons.mp hx with rfl | hx
      ·exact .inl ⟨rfl,rfl⟩
      ·exact .inr ⟨x,hx,rfl,rfl⟩
structure RefOf (V:List Mk) (out:List Mk):Prop where
 lt:out.Pairwise ltM
 from':∀m∈out,m∈V
 all:∀m∈V,∃y∈out,sameM m y∧y.off≤m.off
theorem insR_of {m:Mk}:∀{l:List Mk},(∀x∈insR m l,x=m∨x∈l)∧∀x,x=m∨x∈l→∃y∈insR m l,sameM x y∧y.off≤x.off
 | []=>by
   unfold insR
   refine ⟨fun x hx=>.inl (by simpa using hx),fun x hx=>?_⟩
   rcases hx with rfl | hx
   ·exact ⟨x,by simp,⟨rfl,rfl⟩,Int.le_refl _⟩
   ·cases hx
 | y::l=>by
   obtain ⟨i1,i2⟩:=insR_of (m:=m) (l:=l)
   unfold insR
   split
   ·refine ⟨fun x hx=>?_,fun x hx=>?_⟩
    ·rcases List.mem_cons.mp hx with rfl | hx
     ·exact .inr List.mem_cons_self
     ·rcases i1 x hx with q | q
      ·exact .inl q
      ·exact .inr (List.mem_cons_of_mem _ q)
    ·have out:x=m∨x∈l→∃z∈y::insR m l,sameM x z∧z.off≤x.off:=fun q=>by
      obtain ⟨z,hz,w⟩:=i2 x q
      exact ⟨z,List.mem_cons_of_mem _ hz,w⟩
     rcases hx with rfl | hx
     ·exact out (.inl rfl)
     ·rcases List.mem_cons.mp hx with rfl | hx
      ·exact ⟨x,List.mem_cons_self,⟨rfl,rfl⟩,Int.le_refl _⟩
      ·exact out (.inr hx)
   ·split
    ·rename_i hn hs
     refine ⟨fun x hx=>?_,fun x hx=>?_⟩
     ·rcases List.mem_cons.mp hx with h | hx
      ·split at h
       ·left
        subst h
        obtain ⟨a,b,c⟩:=m
        unfold sameM at hs
        simp only at hs⊢
        rw [hs.1,hs.2]
       ·right;rw [h];exact List.mem_cons_self
      ·exact .inr (List.mem_cons_of_mem _ hx)
     ·have hd:sameM m (if m.off<y.off then { y with off:=m.off } else y)∧(if m.off<y.off then { y with off:=m.off } else y).off≤m.off∧sameM y (if m.off<y.off then { y with off:=m.off } else y)∧(if m.off<y.off then { y with off:=m.off } else y).off≤y.off:=by
       unfold sameM at hs⊢
       split
       ·rename_i hq;exact ⟨⟨hs.1.symm,hs.2.symm⟩,Int.le_refl _,⟨rfl,rfl⟩,Int.le_of_lt hq⟩
       ·exact ⟨⟨hs.1.symm,hs.2.symm⟩,by omega,⟨rfl,rfl⟩,Int.le_refl _⟩
      rcases hx with rfl | hx
      ·exact ⟨_,List.mem_cons_self,hd.1,hd.2.1⟩
      ·rcases List.mem_cons.mp hx with rfl | hx
       ·exact ⟨_,List.mem_cons_self,hd.2.2.1,hd.2.2.2⟩
       ·exact ⟨x,List.mem_cons_of_mem _ hx,⟨rfl,rfl⟩,Int.le_refl _⟩
    ·refine ⟨fun x hx=>?_,fun x hx=>?_⟩
     ·rcases List.mem_cons.mp hx with rfl | hx
      ·exact .inl rfl
      ·exact .inr hx
     ·rcases hx with rfl | hx
      ·exact ⟨x,List.mem_cons_self,⟨rfl,rfl⟩,Int.le_refl _⟩
      ·exact ⟨x,List.mem_cons_of_mem _ hx,⟨rfl,rfl⟩,Int.le_refl _⟩
theorem RefOf.add {V out:List Mk} (h:RefOf V out) (m:Mk):RefOf (V++[m]) (insR m out):=by
 obtain ⟨i1,i2⟩:=insR_of (m:=m) (l:=out)
 refine ⟨(insR_lt h.lt).1,fun x hx=>?_,fun x hx=>?_⟩
 ·rcases i1 x hx with rfl | q
  ·simp
  ·exact List.mem_append_left _ (h.from' x q)
 ·rcases List.mem_append.mp hx with hx | hx
  ·obtain ⟨y,hy,q1,q2⟩:=h.all x hx
   obtain ⟨z,hz,q3,q4⟩:=i2 y (.inr hy)
   exact ⟨z,hz,by unfold sameM at *;omega,by omega⟩
  ·rw [List.mem_singleton] at hx;subst hx
   exact i2 x (.inl rfl)
theorem foldl_refOf:∀(L:List Ev) (V out:List Mk),RefOf V out→RefOf (V++L.map mkM) (L.foldl (fun out s=>insR (mkM s) out) out)
 | [],V,out,h=>by simpa using h
 | s::L,V,out,h=>by
   have:=foldl_refOf L _ _ (h.add (mkM s))
   rw [List.append_assoc] at this
   exact this
theorem refOf_uniq {V V' out out':List Mk} (h:RefOf V out) (h':RefOf V' out') (hm:∀m,m∈V↔m∈V'):out=out':=by
 have half:∀{V V' out out':List Mk},RefOf V out→RefOf V' out'→(∀m,m∈V↔m∈V')→∀m∈out,m∈out':=by
  intro V V' out out' h h' hm m hmem
  obtain ⟨y,hy,q1,q2⟩:=h'.all m ((hm m).mp (h.from' m hmem))
  obtain ⟨z,hz,q3,q4⟩:=h.all y ((hm y).mpr (h'.from' y hy))
  have hmz:sameM m z:=by unfold sameM at *;omega
  have heq:m=z:=by
   rcases List.mem_iff_getElem.mp hmem with ⟨i,hi,rfl⟩
   rcases List.mem_iff_getElem.mp hz with ⟨j,hj,rfl⟩
   rcases Nat.lt_trichotomy i j with hij | hij | hij
   ·have:=List.pairwise_iff_getElem.mp h.lt i j hi hj hij
    unfold ltM sameM at *;omega
   ·subst hij;rfl
   ·have:=List.pairwise_iff_getElem.mp h.lt j i hj hi hij
    unfold ltM sameM at *;omega
  have hoff:m.off=y.off:=by rw [←heq] at q4;omega
  have:m=y:=by
   obtain ⟨a,b,c⟩:=m;obtain ⟨d,e,f⟩:=y
   unfold sameM at q1
   simp only at q1 hoff
   rw [q1.1,q1.2,hoff]
  rw [this];exact hy
 exact lt_uniq h.lt h'.lt fun m=>⟨half h h' hm m,half h' h (fun m=>(hm m).symm) m⟩
theorem gather_refOf (S:List Ev):RefOf (valsN S) (gatherN S):=⟨gather_lt S,fun m h=>gather_vals h,fun m h=>gather_some h⟩
theorem makesB_iff {S:List Ev} {s:Ev}:makesB S s=true↔∀x∈S,keyM x=keyM s→¬better (mkM x) (mkM s):=by
 unfold makesB
 rw [List.all_eq_true]
 refine forall_congr' fun x=>forall_congr' fun hx=>?_
 by_cases h1:keyM x=keyM s
 ·by_cases h2:better (mkM x) (mkM s)
  ·simp [h1,h2]
  ·simp [h1,h2]
 ·simp [h1]
theorem refMarks_eq (S:List Ev):refMarks S=gatherN S:=by
 have h:=foldl_refOf (S.filter (makesB S)) [] [] ⟨List.Pairwise.nil,fun m h=>(List.not_mem_nil h).elim,fun m h=>(List.not_mem_nil h).elim⟩
 rw [List.nil_append] at h
 refine refOf_uniq h (gather_refOf S) fun m=>?_
 rw [vals_mem,List.mem_map]
 constructor
 ·rintro ⟨s,hs,rfl⟩
  obtain ⟨h1,h2⟩:=List.mem_filter.mp hs
  exact ⟨s,h1,rfl,makesB_iff.mp h2⟩
 ·rintro ⟨s,hs,rfl,hb⟩
  exact ⟨s,List.mem_filter.mpr ⟨hs,makesB_iff.mpr hb⟩,rfl⟩
def befE (a b:Ev):Prop:=lexC (keysE a) (keysE b)<0
instance (a b:Ev):Decidable (befE a b):=by unfold befE;infer_instance
def insE (x:Ev):List Ev→List Ev
 | []=>[x]
 | y::l=>if befE x y then y::insE x l else x::y::l
theorem insE_perm (x:Ev):∀l,(insE x l).Perm (x::l)
 | []=>.refl _
 | y::l=>by
   unfold insE
   split
   ·exact ((insE_perm x l).cons y).trans (.swap x y l)
   ·exact .refl _
def Falling (l:List Ev):Prop:=l.Pairwise fun a b=>lexC (keysE b) (keysE a)≤0
theorem insE_falling (x:Ev):∀l,Falling l→Falling (insE x l)
 | [],_=>by unfold insE;exact List.pairwise_singleton _ _
 | y::l,h=>by
   obtain ⟨h1,h2⟩:=List.pairwise_cons.mp h
   unfold insE
   split
   ·rename_i hc
    unfold befE at hc
    refine List.pairwise_cons.mpr ⟨fun b hb=>?_,insE_falling x l h2⟩
    rcases List.mem_cons.mp ((insE_perm x l).mem_iff.mp hb) with rfl | hb
    ·omega
    ·exact h1 b hb
   ·rename_i hc
    unfold befE at hc
    have hxy:lexC (keysE y) (keysE x)≤0:=by rw [lexC_neg (keysE x) (keysE y)];omega
    refine List.pairwise_cons.mpr ⟨fun b hb=>?_,h⟩
    rcases List.mem_cons.mp hb with rfl | hb
    ·exact hxy
    ·exact lexC_trans _ (keysE y) _ rfl rfl (h1 b hb) hxy
def insAll:List Ev→List Ev→List Ev
 | acc,[]=>acc
 | acc,x::l=>insAll (insE x acc) l
theorem insAll_ok:∀(l acc:List Ev),Falling acc→Falling (insAll acc l)∧(insAll acc l).Perm (acc++l)
 | [],acc,h=>⟨h,by rw [List.append_nil];exact .refl _⟩
 | x::l,acc,h=>by
   obtain ⟨h1,h2⟩:=insAll_ok l _ (insE_falling x acc h)
   refine ⟨h1,h2.trans ?_⟩
   exact ((insE_perm x acc).append_right l).trans List.perm_middle.symm
theorem insAll_sort (l:List Ev):(insAll [] l).reverse=sortB keysE l:=by
 obtain ⟨h1,h2⟩:=insAll_ok l [] List.Pairwise.nil
 refine sortB_uniq keysE_len keysE_inj ?_ ((List.reverse_perm _).trans (by simpa using h2))
 unfold Ordered
 rw [List.pairwise_reverse]
 exact h1
def bare (e:Ev):Ev:={ e with time:=0 }
theorem time_in {M:List Mk} {s:Ev} (h:FineE s):0≤timeN M s∧timeN M s≤s.seen:=by
 unfold FineE at h;unfold timeN;omega
theorem events_perm (M:List Mk) (S:List Ev):((eventsN M S).map bare).Perm (S.map bare):=by
 have h:=(sortB_perm keysE (S.map fun s=>{ s with time:=timeN M s })).map bare
 rw [List.map_map] at h
 exact h
theorem sift_perm (S:List Ev):(((siftN S).1++(siftN S).2).map bare).Perm (S.map bare):=by
 unfold siftN
 have h:=siftGo_perm (eventsN (gatherN S) S) [] []
 rw [List.append_nil,List.nil_append] at h
 exact (h.map bare).trans (events_perm _ S)
theorem sift_len (S:List Ev):(siftN S).1.length+(siftN S).2.length=S.length:=by
 have:=(sift_perm S).length_eq
 simpa using this
theorem events_len (M:List Mk) (S:List Ev):(eventsN M S).length=S.length:=by
 have:=(events_perm M S).length_eq
 simpa using this
structure Two (at' w f o:Int):Prop where
 a1:40000≤at'
 a2:at'≤105535
 w1:1≤w
 w2:w≤65536
 f1:-32768≤f
 f2:f≤32767
 o1:-32768≤o
 o2:o≤32767
 dr:-w≤o-f
end Go.Scan

namespace Go.Scan
open Go.AM
set_option maxRecDepth 100000
set_option linter.unusedVariables false
set_option linter.unusedSimpArgs false
theorem insR_at {m:Mk}:∀{O:List Mk} {k:Nat},k≤O.length→(∀j,j<k→ltM (gt O j) m)→(k=O.length∨¬ltM (gt O k) m)→
  insR m O=if k<O.length∧sameM (gt O k) m then (if m.off<(gt O k).off then O.set k { gt O k with off:=m.off } else O) else O.take k++m::O.drop k
 | [],k,hk,_,_=>by
   have h0:k=0:=by simpa using hk
   subst h0
   unfold insR
   rw [if_neg (by simp)];rfl
 | y::O,0,hk,_,h2=>by
   have hn:¬ltM y m:=by
    rcases h2 with h | h
    ·simp at h
    ·exact h
   unfold insR
   rw [if_neg hn]
   show _=if 0<(y::O).length∧sameM y m then (if m.off<y.off then { y with off:=m.off }::O else y::O) else m::y::O
   by_cases hs:sameM y m
   ·have hc:0<(y::O).length∧sameM y m:=⟨by simp,hs⟩
    rw [if_pos hs,if_pos hc]
    by_cases hq:m.off<y.off
    ·simp only [if_pos hq]
    ·simp only [if_neg hq]
   ·have hc:¬(0<(y::O).length∧sameM y m):=fun h=>hs h.2
    rw [if_neg hs,if_neg hc]
 | y::O,k+1,hk,h1,h2=>by
   have hy:ltM y m:=h1 0 (Nat.succ_pos k)
   have ih:=insR_at (m:=m) (O:=O) (k:=k) (by simpa using hk) (fun j hj=>by have:=h1 (j+1) (by omega);rwa [gt_cons_succ] at this) (by
    rcases h2 with h | h
    ·left;simpa using h
    ·right;rwa [gt_cons_succ] at h)
   unfold insR
   rw [if_pos hy,ih,gt_cons_succ]
   simp only [List.length_cons,Nat.add_lt_add_iff_right,List.set_cons_succ,List.take_succ_cons,List.drop_succ_cons,List.cons_append]
   by_cases c:k<O.length∧sameM (gt O k) m
   ·rw [if_pos c,if_pos c]
    by_cases d:m.off<(gt O k).off
    ·rw [if_pos d,if_pos d]
    ·rw [if_neg d,if_neg d]
   ·rw [if_neg c,if_neg c]
theorem insR_len (m:Mk):∀O:List Mk,(insR m O).length≤O.length+1
 | []=>Nat.le_refl _
 | y::O=>by
   unfold insR
   have:=insR_len m O
   split
   ·simp;omega
   ·split<;>simp
def refTo (S:List Ev) (i:Nat):List Mk:=((S.take i).filter (makesB S)).foldl (fun out s=>insR (mkM s) out) []
theorem refTo_zero (S:List Ev):refTo S 0=[]:=rfl
theorem refTo_end (S:List Ev):refTo S S.length=refMarks S:=by unfold refTo refMarks;rw [List.take_length]
theorem refTo_succ {S:List Ev} {i:Nat} (h:i<S.length):refTo S (i+1)=if makesB S (gt S i) then insR (mkM (gt S i)) (refTo S i) else refTo S i:=by
 unfold refTo
 rw [List.take_succ_eq_append_getElem h,List.filter_append,List.foldl_append,gt_lt h]
 by_cases hm:makesB S S[i]=true
 ·rw [if_pos hm,List.filter_cons_of_pos hm];rfl
 ·rw [if_neg hm,List.filter_cons_of_neg hm];rfl
theorem refTo_len (S:List Ev):∀i,i≤S.length→(refTo S i).length≤i
 | 0,_=>Nat.le_refl _
 | i+1,h=>by
   rw [refTo_succ (by omega)]
   have:=refTo_len S i (by omega)
   split
   ·have:=insR_len (mkM (gt S i)) (refTo S i);omega
   ·omega
theorem insE_at {x:Ev}:∀{l:List Ev} {k:Nat},k≤l.length→(∀j,j<k→befE x (gt l j))→(k=l.length∨¬befE x (gt l k))→insE x l=l.take k++x::l.drop k
 | [],k,hk,_,_=>by
   have h0:k=0:=by simpa using hk
   subst h0
   rfl
 | y::l,0,hk,_,h2=>by
   have hn:¬befE x y:=by
    rcases h2 with h | h
    ·simp at h
    ·exact h
   unfold insE
   rw [if_neg hn];rfl
 | y::l,k+1,hk,h1,h2=>by
   have hy:befE x y:=h1 0 (Nat.succ_pos k)
   unfold insE
   rw [if_pos hy,insE_at (k:=k) (by simpa using hk) (fun j hj=>by have:=h1 (j+1) (by omega);rwa [gt_cons_succ] at this) (by
    rcases h2 with h | h
    ·left;simpa using h
    ·right;rwa [gt_cons_succ] at h)]
   rfl
theorem insAll_snoc:∀(l acc:List Ev) (x:Ev),insAll acc (l++[x])=insE x (insAll acc l)
 | [],acc,x=>rfl
 | y::l,acc,x=>insAll_snoc l (insE y acc) x
theorem insAll_len:∀(l acc:List Ev),(insAll acc l).length=acc.length+l.length
 | [],acc=>rfl
 | y::l,acc=>by
   show (insAll (insE y acc) l).length=_
   rw [insAll_len l,(insE_perm y acc).length_eq];simp;omega
def upTo (M:List Mk) (S:List Ev) (i:Nat):List Ev:=(insAll [] ((S.take i).map fun s=>{ s with time:=timeN M s })).reverse
theorem upTo_len {M:List Mk} {S:List Ev} {i:Nat} (h:i≤S.length):(upTo M S i).length=i:=by
 unfold upTo
 rw [List.length_reverse,insAll_len,List.length_map,List.length_take];simp;omega
theorem upTo_end (M:List Mk) (S:List Ev):upTo M S S.length=eventsN M S:=by
 unfold upTo eventsN
 rw [List.take_length,insAll_sort]
theorem upTo_succ {M:List Mk} {S:List Ev} {i:Nat} (h:i<S.length):upTo M S (i+1)=(insE { gt S i with time:=timeN M (gt S i) } (upTo M S i).reverse).reverse:=by
 unfold upTo
 rw [List.take_succ_eq_append_getElem h,List.map_append,List.map_cons,List.map_nil,insAll_snoc,gt_lt h,List.reverse_reverse]
theorem gt_rev {α:Type} [Inhabited α] {l:List α} {j:Nat} (h:j<l.length):gt l.reverse j=gt l (l.length-1-j):=by
 rw [gt_lt (by simpa using h),gt_lt (by omega),List.getElem_reverse]
theorem insE_rev {x:Ev} {l:List Ev} {a:Nat} (ha:a≤l.length) (h1:∀j,a≤j→j<l.length→befE x (gt l j)) (h2:a=0∨¬befE x (gt l (a-1))):(insE x l.reverse).reverse=l.take a++x::l.drop a:=by
 rw [insE_at (k:=l.length-a) (by simp) (fun j hj=>by rw [gt_rev (by omega)];exact h1 _ (by omega) (by omega)) (by
  rcases h2 with h | h
  ·left;simp;omega
  ·by_cases h0:a=0
   ·left;simp;omega
   ·right;rw [gt_rev (by omega),show l.length-1-(l.length-a)=a-1 by omega];exact h)]
 rw [List.reverse_append,List.reverse_cons,List.append_assoc]
 congr 1
 ·rw [List.drop_reverse,List.reverse_reverse,show l.length-(l.length-a)=a by omega]
 ·rw [List.take_reverse,List.reverse_reverse,show l.length-(l.length-a)=a by omega];rfl
theorem lexC_at:∀{X Y:List Int} {i:Nat},X.length=Y.length→i<X.length→(∀j,j<i→gt X j=gt Y j)→gt X i≠gt Y i→(lexC X Y<0↔gt X i<gt Y i)
 | [],_,i,_,hi,_,_=>by simp at hi
 | a::X,[],i,h,_,_,_=>by simp at h
 | a::X,b::Y,0,_,_,_,hne=>by
   have hne':a≠b:=hne
   unfold lexC
   show _↔a<b
   by_cases h1:a<b
   ·rw [if_pos h1];simp [h1]
   ·rw [if_neg h1,if_pos (by omega)];omega
 | a::X,b::Y,i+1,h,hi,hj,hne=>by
   have h0:a=b:=hj 0 (Nat.succ_pos i)
   subst h0
   unfold lexC
   rw [if_neg (by omega),if_neg (by omega)]
   exact lexC_at (by simpa using h) (by simpa using hi) (fun j hjj=>by have:=hj (j+1) (by omega);rwa [gt_cons_succ,gt_cons_succ] at this) (by rwa [gt_cons_succ,gt_cons_succ] at hne)
theorem lexC_all:∀{X Y:List Int},X.length=Y.length→(∀j,j<X.length→gt X j=gt Y j)→lexC X Y=0
 | [],[],_,_=>rfl
 | [],b::Y,h,_=>by simp at h
 | a::X,[],h,_=>by simp at h
 | a::X,b::Y,h,hj=>by
   have h0:a=b:=hj 0 (by simp)
   subst h0
   unfold lexC
   rw [if_neg (by omega),if_neg (by omega)]
   exact lexC_all (by simpa using h) fun j hjj=>by have:=hj (j+1) (by simpa using hjj);rwa [gt_cons_succ,gt_cons_succ] at this
def sepTo:List Ev→List Ev→List Ev→List Ev×List Ev
 | kept,twice,[]=>(kept,twice)
 | kept,twice,e::l=>if twiceB e kept then sepTo kept (e::twice) l else sepTo (e::kept) twice l
theorem sepTo_sift:∀(l k t:List Ev),siftGo k t l=((sepTo k t l).1.reverse,(sepTo k t l).2.reverse)
 | [],k,t=>rfl
 | e::l,k,t=>by
   unfold siftGo sepTo
   split
   ·exact sepTo_sift l _ _
   ·exact sepTo_sift l _ _
theorem sepTo_snoc (e:Ev):∀(l k t:List Ev),sepTo k t (l++[e])=if twiceB e (sepTo k t l).1 then ((sepTo k t l).1,e::(sepTo k t l).2) else (e::(sepTo k t l).1,(sepTo k t l).2)
 | [],k,t=>by
   show sepTo k t [e]=_
   unfold sepTo
   split<;>rfl
 | y::l,k,t=>by
   show sepTo k t (y::(l++[e]))=_
   unfold sepTo
   split
   ·exact sepTo_snoc e l _ _
   ·exact sepTo_snoc e l _ _
theorem sepTo_len:∀(l k t:List Ev),(sepTo k t l).1.length+(sepTo k t l).2.length=k.length+t.length+l.length
 | [],k,t=>by simp [sepTo]
 | y::l,k,t=>by
   unfold sepTo
   split
   ·rw [sepTo_len l];simp;omega
   ·rw [sepTo_len l];simp;omega
theorem sepTo_mem:∀(l k t:List Ev) {y:Ev},(y∈(sepTo k t l).1→y∈k∨y∈l)∧(y∈(sepTo k t l).2→y∈t∨y∈l)
 | [],k,t,y=>⟨fun h=>.inl h,fun h=>.inl h⟩
 | x::l,k,t,y=>by
   unfold sepTo
   split
   ·obtain ⟨h1,h2⟩:=sepTo_mem l k (x::t) (y:=y)
    refine ⟨fun h=>(h1 h).imp id (List.mem_cons_of_mem _),fun h=>?_⟩
    rcases h2 h with h | h
    ·rcases List.mem_cons.mp h with rfl | h
     ·exact .inr List.mem_cons_self
     ·exact .inl h
    ·exact .inr (List.mem_cons_of_mem _ h)
   ·obtain ⟨h1,h2⟩:=sepTo_mem l (x::k) t (y:=y)
    refine ⟨fun h=>?_,fun h=>(h2 h).imp id (List.mem_cons_of_mem _)⟩
    rcases h1 h with h | h
    ·rcases List.mem_cons.mp h with rfl | h
     ·exact .inr List.mem_cons_self
     ·exact .inl h
    ·exact .inr (List.mem_cons_of_mem _ h)
theorem upTo_mem {M:List Mk} {S:List Ev} {i:Nat} {y:Ev} (h:y∈upTo M S i):∃s∈S,y={ s with time:=timeN M s }:=by
 unfold upTo at h
 rw [List.mem_reverse,(insAll_ok _ _ List.Pairwise.nil).2.mem_iff,List.nil_append,List.mem_map] at h
 obtain ⟨s,hs,rfl⟩:=h
 exact ⟨s,List.mem_of_mem_take hs,rfl⟩
theorem twice_at {e:Ev} {K:List Ev} {a:Nat} (ha:a<K.length) (h1:∀j,a<j→j<K.length→sight (gt K j)≠sight e) (h2:sight (gt K a)=sight e):twiceB e K.reverse=decide (e.time-(gt K a).time≤10):=by
 have:lastK e K.reverse=some (gt K a):=by
  unfold lastK
  rw [List.find?_eq_some_iff_getElem]
  refine ⟨by simpa using h2,K.length-1-a,by simp;omega, ?_,fun j hj=>?_⟩
  ·rw [List.getElem_reverse,gt_lt ha];congr 1;omega
  ·have:=h1 (K.length-1-j) (by omega) (by omega)
   rw [List.getElem_reverse]
   rw [gt_lt (by omega)] at this
   simpa using this
 unfold twiceB
 rw [this]
theorem twice_no {e:Ev} {K:List Ev} (h1:∀j,j<K.length→sight (gt K j)≠sight e):twiceB e K.reverse=false:=by
 have:lastK e K.reverse=none:=by
  unfold lastK
  rw [List.find?_eq_none]
  intro x hx
  obtain ⟨j,hj,rfl⟩:=List.mem_iff_getElem.mp (List.mem_reverse.mp hx)
  have:=h1 j hj
  rw [gt_lt hj] at this
  simpa using this
 unfold twiceB
 rw [this]
end Go.Scan

