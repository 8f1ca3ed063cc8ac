/-
  Joined texts, 4 of 9. A part of the claim that the last text states.
-/
import Derived.Test.YtkppjkkkdpcgiaaGreatPE3
set_option linter.unusedVariables false
set_option linter.unusedSimpArgs false
set_option linter.defProp false
set_option linter.unusedSectionVars false
set_option maxRecDepth 100000
set_option maxHeartbeats 4000000
namespace Go.AM
section
variable {G G' K:NE} {R:Nat} {b:Blk}
structure Mut (G G':NE) (R:Nat):Prop where
 len:G'.length=G.length
 other:∀j,j≠R->NF G' j=NF G j
theorem Mut.ext {H:NE} (h:Mut G G' R) (a:OM H G) (b:H.length<=R):OM H G':=by
 obtain ⟨Y,rfl⟩:=a
 refine ⟨G'.drop H.length, ?_⟩
 apply Pn
 ·have:=h.len;simp at this⊢;omega
 intro i h1 h2
 have hl:=h.len
 simp at hl
 by_cases hi:i<H.length
 ·rw [P5 hi]
  have:=h.other i (by omega)
  unfold NF at this
  rw [Na,Na,Nf h1,Nf (by simp;omega)] at this
  simp only [Pa] at this
  rw [this,P5 hi]
 ·rw [Qp (by omega),List.getElem_drop]
  congr 1
  omega
theorem Mut.cells (h:Mut G G' R) {j:Nat} {ro:Bool} {c:List Value} (b:NF G j=.cells ro c) (a:j≠R):NF G' j=.cells ro c:=by rw [h.other j a];exact b
theorem Mut.alive (h:Mut G G' R) {j:Nat} {B:Blk} (b:NF G j=B) (a:j≠R):NF G' j=B:=by rw [h.other j a];exact b
theorem Mut.sl {α:Type} {enc:α->List Value} {e:Nat} {p:Option Addr} {l:List α} (h:Mut G G' R) (hs:Sl G enc e p l) (hp:∀a,p=some a->l≠[]->a.block≠R):Sl G' enc e p l:=by
 cases p with
 | none=>exact hs
 | some a=>
   refine ⟨hs.1,fun hn=>?_⟩
   obtain ⟨ro,c,h2,b⟩:=hs.2 hn
   exact ⟨ro,c,h.cells h2 (hp a rfl hn),b⟩
theorem Ur (h:G'.length=G.length):(G'.length=G.length)/\(∀(X:NE) (j:Nat),NF (G'++X) (G.length+j)=X.getD j .dead)/\(∀X:NE,NF (G'++X) G.length=X.getD 0 .dead)/\
  (∀(X:NE) (j:Nat) b,(G'++X).set (G.length+j) b=G'++X.set j b)/\(∀(X:NE) b,(G'++X).set G.length b=G'++X.set 0 b):=by
 refine ⟨h,fun X j=>by rw [<-h];exact NW,fun X=>by rw [<-h];exact NV,fun X j b=>?_,fun X b=>?_⟩
 ·rw [<-h,Qd _ _ (by omega)];simp
 ·rw [<-h,Qd _ _ (by omega)];simp
theorem OP (a:R<G.length) (b:Blk):∃G',(∀X:NE,(G++X).set R b=G'++X)/\NF G' R=b/\Mut G G' R:=
 ⟨G.set R b,fun X=>P4 _ _ a,Vj a,by simp,fun j c=>QK c⟩
end
def Own {α:Type} (lim:Nat) (G:NE) (enc:α->List Value) (e:Nat) (p:Option Addr) (cap:Nat) (l:List α):Prop:=
 (l=[]/\p=none/\cap=0)\/∃R,p=some ⟨R,0,none⟩/\cap=loose e/\NF G R=.cells false (l.flatMap enc)/\lim<=R
section
variable {α:Type} {lim e bytes cap:Nat} {G:NE} {enc:α->List Value} {p:Option Addr} {l m:List α}
theorem Own.nil:Own lim G enc e none 0 []:=.inl ⟨rfl,rfl,rfl⟩
theorem Own.app (h:Own lim G enc e p cap l) (X:NE):Own lim (G++X) enc e p cap l:=by
 rcases h with h | ⟨R,h1,h2,a,b⟩
 ·exact .inl h
 ·exact .inr ⟨R,h1,h2,by rw [NN (NK a)];exact a,b⟩
theorem Own.mut {G':NE} {R:Nat} (h:Own lim G enc e p cap l) (hm:Mut G G' R) (hp:∀a,p=some a->a.block≠R):Own lim G' enc e p cap l:=by
 rcases h with h | ⟨b,h1,h2,c,d⟩
 ·exact .inl h
 ·exact .inr ⟨b,h1,h2,hm.cells c (hp _ h1),d⟩
theorem Own.new {R:Nat} (a:NF G R=.cells false (l.flatMap enc)) (hl:lim<=R):Own lim G enc e (some ⟨R,0,none⟩) (loose e) l:=.inr ⟨R,rfl,rfl,a,hl⟩
theorem Own.sl (h:Own lim G enc e p cap l) (he:∀x,(enc x).length=e):Sl G enc e p l:=by
 rcases h with ⟨h1,h2,_⟩ | ⟨R,h1,h2,a,b⟩
 ·subst h1 h2;rfl
 ·subst h1;exact Sl.lit he (by rw [a];rfl) (by rw [a];rfl)
theorem Own.le (h:Own lim G enc e p cap l) {lim':Nat} (hl:lim'<=lim):Own lim' G enc e p cap l:=by
 rcases h with h | ⟨R,h1,h2,a,b⟩
 ·exact .inl h
 ·exact .inr ⟨R,h1,h2,a,by omega⟩
theorem Own.block (h:Own lim G enc e p cap l) {a:Addr} (b:p=some a):lim<=a.block/\a.block<G.length:=by
 rcases h with ⟨h1,h2,c⟩ | ⟨R,h1,h2,c,d⟩
 ·rw [h2] at b;cases b
 ·rw [h1] at b;cases b;exact ⟨d,NK c⟩
theorem Sl.cells (hs:Sl G enc e p m) (hm:m≠[]):∃a,p=some a/\AM.loadCells G a (m.length*e)=some (m.flatMap enc):=by
 cases p with
 | none=>exact absurd hs hm
 | some a=>
   obtain ⟨k1,k2⟩:=hs
   obtain ⟨ro,cs,k3,b,c⟩:=k2 hm
   refine ⟨a,rfl, ?_⟩
   obtain ⟨d,f,as'⟩:=a
   simp only [PU]
   simp only at k3 b c
   simp only [k3]
   rw [Ni b,c]
theorem Own.push {lim':Nat} (h:Own lim G enc e p cap l) (t:lim'<=lim) (he:∀x,(enc x).length=e) (s:e≠0) (m:List α) (hm:m≠[]) (r:(l.length+m.length)*bytes<=PN) (hn:l.length+m.length<2 ^ 61) :
  ∃(G':NE) (R:Nat),(p=none->R=G.length)/\(∀a,p=some a->R=a.block)/\Mut G G' R/\(∀j,j≠R->NF G' j=NF G j)/\(∀H0:NE,OM H0 G->H0.length<=lim->OM H0 G')/\
   (∀(X:NE) (n:Option Addr) (k:Nat),Sl (G++X) enc e n m->OT lim' none e bytes false (.slice p l.length cap) (.slice n m.length k) (G++X)=some (.slice (some ⟨G.length+X.length,0,none⟩) (l.length+m.length) (loose e),G'++(X++[.cells false ((l++m).flatMap enc)]))):=by
 have f:¬m.length=0:=by intro q;exact hm (List.length_eq_zero_iff.1 q)
 rcases h with ⟨h1,h2,i⟩ | ⟨R,h1,h2,i,u⟩
 ·subst h1 h2 i
  refine ⟨G,G.length,fun _=>rfl,fun a h=>(by cases h),⟨rfl,fun j _=>rfl⟩,fun j _=>rfl,fun H0 h _=>h,fun X n k o=>?_⟩
  obtain ⟨a,rfl,hl⟩:=o.cells hm
  simp only [Ns,N0] at r hn
  simp only [OT,firstCells,lenOf,hl,f,if_false,Nx,Ns,N0]
  rw [Nh (by omega)]
  simp [place]
 ·subst h1 h2
  have c:=NK i
  refine ⟨G.set R .dead,R,fun h=>(by cases h),fun a h=>(by cases h;rfl),⟨by simp,fun j d=>QK d⟩,fun j d=>QK d,fun H0 h hl=>Mut.ext (R:=R) ⟨by simp,fun j d=>QK d⟩ h (by omega),fun X n k o=>?_⟩
  obtain ⟨a,rfl,hl⟩:=o.cells hm
  have b:NF (G++X) R=.cells false (l.flatMap enc):=by rw [NN c];exact i
  have g:AM.loadCells (G++X) ⟨R,0,none⟩ (l.length*e)=some (l.flatMap enc):=by
   simp only [PU,b,N0,PS he,Nd,if_true,Ov]
   rw [Og (by rw [PS he];exact Nd _)]
  simp only [OT,firstCells,lenOf,hl,g,b,f,if_false,Nx,if_true]
  rw [Nh (by unfold loose;omega)]
  simp [show lim'<=R by omega,place,P4 _ _ c,Nn]
theorem Own.push1 {lim':Nat} (h:Own lim G enc e p cap l) (d:lim'<=lim) (he:∀x,(enc x).length=e) (c:e≠0) (x:α) (j:(l.length+1)*bytes<=PN) (hn:l.length+1<2 ^ 61) :
  ∃(G':NE) (R:Nat),(p=none->R=G.length)/\(∀a,p=some a->R=a.block)/\Mut G G' R/\(∀H0:NE,OM H0 G->H0.length<=lim->OM H0 G')/\
   (∀(X:NE) (b k:Nat),NF (G++X) b=.cells false (enc x)->OT lim' none e bytes false (.slice p l.length cap) (.slice (some ⟨b,0,none⟩) 1 k) (G++X)=some (.slice (some ⟨G.length+X.length,0,none⟩) (l.length+1) (loose e),G'++(X++[.cells false ((l++[x]).flatMap enc)]))):=by
 obtain ⟨G',R,h1,h2,g,_,i,h5⟩:=h.push d he c [x] (by simp) (by simpa using j) (by simpa using hn)
 refine ⟨G',R,h1,h2,g,i,fun X b k f=>?_⟩
 exact h5 X (some ⟨b,0,none⟩) k (Sl.lit he (by rw [f];rfl) (by rw [f];simp [cellsOf]))
def WI (len cap:Nat) (lo hi mx:Option Value):Option (Nat×Nat×Nat):=bounds (fun o=>match o with | .const v=>v | _=>undef) len cap (lo.map .const) (hi.map .const) (mx.map .const)
theorem Nab {ρ:Operand->Value} {len cap:Nat} {lo hi mx:Option Operand}:bounds ρ len cap lo hi mx=WI len cap (lo.map ρ) (hi.map ρ) (mx.map ρ):=by
 unfold WI
 cases lo<;>cases hi<;>cases mx<;>rfl
theorem Nhk {n:Int} {m:Nat} {kk:IntKind} (a:0<=n) (h:n<=(m:Int)):bound (.int kk n) m=some n.toNat:=by
 simp only [bound];rw [Ni ⟨a,h⟩]
section
variable {len:Nat} {k1 k2 k3:IntKind} {l h x:Int}
theorem Nbf (a:0<=h) (h1:h<=(cap:Int)):WI len cap none (some (.int k1 h)) none=some (0,h.toNat,cap):=by
 delta WI bounds;simp only [Nv,On,Nhk a h1]
theorem Nqd (a:0<=l) (b:l<=(len:Int)):WI len cap (some (.int k1 l)) none none=some (l.toNat,len,cap):=by
 delta WI bounds;simp only [Nv,On,Nhk a b]
end
end
def UC:ACode->ACode
 | .seq a _=>a
 | c=>c
def Sy:ACode->ACode
 | .seq _ b=>b
 | _=>.skip
end Go.AM


namespace Go.Scan
structure Ev where
 (item place scanner kind at' seen time:Int)
 deriving DecidableEq,Inhabited
structure Mk where
 (scanner at' off:Int)
 deriving DecidableEq,Inhabited
def VE:Int:=1051898399
def Sb (e:Ev):Prop:=(1<=e.item/\e.item<=999999)/\(1<=e.place/\e.place<=999999)/\(1<=e.scanner/\e.scanner<=999999)/\(1<=e.kind/\e.kind<=4)/\(0<=e.at'/\e.at'<=VE)/\(0<=e.seen/\e.seen<=VE)
instance (e:Ev):Decidable (Sb e):=by unfold Sb;infer_instance
def QW (S:List Ev):Prop:=S.length<=2000/\∀s∈S,Sb s
instance (S:List Ev):Decidable (QW S):=by unfold QW;infer_instance
def S9:List Int->List Int->Int
 | a::x,b::y=>if a<b then -1 else if b<a then 1 else S9 x y
 | _,_=>0
theorem Ngy:∀x,S9 x x=0
 | []=>rfl
 | a::x=>by unfold S9;rw [Nh (by omega),Nh (by omega)];exact Ngy x
theorem Nlq:∀x y,S9 x y=-1\/S9 x y=0\/S9 x y=1
 | [],_=>by unfold S9;simp
 | _::_,[]=>by unfold S9;simp
 | a::x,b::y=>by
   unfold S9
   split
   ·simp
   split
   ·simp
   exact Nlq x y
theorem Vg:∀x y,S9 y x=- S9 x y
 | [],y=>by cases y<;>rfl
 | a::x,[]=>rfl
 | a::x,b::y=>by
   have h:=Vg x y
   unfold S9
   by_cases h1:a<b
   ·rw [Nh (by omega),Ni h1,Ni h1];rfl
   ·by_cases h2:b<a
    ·rw [Ni h2,Nh h1,Ni h2]
    ·rw [Nh h2,Nh h1,Nh h1,Nh h2];exact h
theorem Nis:∀x y,x.length=y.length->S9 x y=0->x=y
 | [],[],_,_=>rfl
 | [],b::y,h,_=>by simp at h
 | a::x,[],h,_=>by simp at h
 | a::x,b::y,hl,h=>by
   unfold S9 at h
   by_cases h1:a<b
   ·rw [Ni h1] at h;omega
   rw [Nh h1] at h
   by_cases h2:b<a
   ·rw [Ni h2] at h;omega
   rw [Nh h2] at h
   rw [Nis x y (by simpa using hl) h,show a=b by omega]
theorem XI:∀x y z,x.length=y.length->y.length=z.length->S9 x y<=0->S9 y z<=0->S9 x z<=0
 | [],_,_,_,_,_,_=>by unfold S9;simp
 | a::x,[],_,h,_,_,_=>by simp at h
 | a::x,b::y,[],_,h,_,_=>by simp at h
 | a::x,b::y,c::z,h1,h2,h3,h4=>by
   unfold S9 at h3 h4⊢
   by_cases q1:a<c
   ·rw [Ni q1];omega
   rw [Nh q1]
   by_cases q2:a<b
   ·rw [Nh (show ¬b<c by omega),Ni (show c<b by omega)] at h4;omega
   rw [Nh q2] at h3
   by_cases q3:b<a
   ·rw [Ni q3] at h3;omega
   rw [Nh q3] at h3
   rw [Nh (show ¬b<c by omega)] at h4
   by_cases d:c<b
   ·rw [Ni d] at h4;omega
   rw [Nh d] at h4
   rw [Nh (show ¬c<a by omega)]
   exact XI x y z (by simpa using h1) (by simpa using h2) h3 h4
section
variable {α:Type}
def Npm (k:α->List Int) (x:α):List α->List α
 | []=>[x]
 | y::l=>if S9 (k y) (k x)<0 then y::Npm k x l else x::y::l
def UE (k:α->List Int):List α->List α
 | []=>[]
 | x::l=>Npm k x (UE k l)
theorem Na7 (k:α->List Int) (x:α):∀l,(Npm k x l).Perm (x::l)
 | []=>.refl _
 | y::l=>by
   unfold Npm
   split
   ·exact ((Na7 k x l).cons y).trans (.swap x y l)
   ·exact .refl _
theorem Tu (k:α->List Int):∀l,(UE k l).Perm l
 | []=>.refl _
 | x::l=>(Na7 k x _).trans ((Tu k l).cons x)
def TJ (k:α->List Int) (l:List α):Prop:=l.Pairwise fun a b=>S9 (k a) (k b)<=0
theorem Nb4 {k:α->List Int} {n:Nat} (hn:∀x,(k x).length=n) (x:α):∀l,TJ k l->TJ k (Npm k x l)
 | [],_=>by unfold Npm;exact List.pairwise_singleton _ _
 | y::l,h=>by
   obtain ⟨h1,h2⟩:=List.pairwise_cons.mp h
   unfold Npm
   split
   ·rename_i hc
    refine List.pairwise_cons.mpr ⟨fun b hb=>?_,Nb4 hn x l h2⟩
    rcases Np.mp ((Na7 k x l).mem_iff.mp hb) with rfl | hb
    ·omega
    ·exact h1 b hb
   ·rename_i hc
    have a:S9 (k x) (k y)<=0:=by rw [Vg (k y) (k x)];omega
    refine List.pairwise_cons.mpr ⟨fun b hb=>?_,h⟩
    rcases Np.mp hb with rfl | hb
    ·exact a
    ·exact XI _ (k y) _ (by rw [hn,hn]) (by rw [hn,hn]) a (h1 b hb)
theorem U0 {k:α->List Int} {n:Nat} (hn:∀x,(k x).length=n):∀l,TJ k (UE k l)
 | []=>List.Pairwise.nil
 | x::l=>Nb4 hn x _ (U0 hn l)
theorem Nh9 {k:α->List Int} {n:Nat} (hn:∀x,(k x).length=n) (hi:∀x y,k x=k y->x=y) {l l':List α} (h:TJ k l) (h':TJ k l') (hp:l.Perm l'):l=l':=
 List.Perm.eq_of_pairwise (le:=fun a b=>S9 (k a) (k b)<=0) (fun a b _ _ h1 h2=>hi a b (Nis _ _ (by rw [hn,hn]) (by rw [Vg (k a) (k b)] at h2;omega))) h h' hp
theorem XA {k:α->List Int} {n:Nat} (hn:∀x,(k x).length=n) (hi:∀x y,k x=k y->x=y) {l a:List α} (h:TJ k a) (hp:a.Perm l):a=UE k l:=
 Nh9 hn hi h (U0 hn l) (hp.trans (Tu k l).symm)
theorem Nj7 {k:α->List Int} {n:Nat} (hn:∀x,(k x).length=n) (hi:∀x y,k x=k y->x=y) {l a:List α} (hp:a.Perm l):UE k a=UE k l:=
 XA hn hi (U0 hn a) ((Tu k a).trans hp)
end
def U2 (s:Ev):Int×Int:=(s.scanner,s.seen / 1440)
def mkM (s:Ev):Mk:=⟨s.scanner,s.at',s.seen-s.at'⟩
def SI (m old:Mk):Prop:=m.off<old.off\/m.off=old.off/\m.at'<old.at'
instance (m old:Mk):Decidable (SI m old):=by unfold SI;infer_instance
def Xj (k:Int×Int) (m:Mk):List ((Int×Int)×Mk)->List ((Int×Int)×Mk)
 | []=>[(k,m)]
 | (k',old)::l=>if k'=k then (k',m)::l else (k',old)::Xj k m l
def WR (k:Int×Int):List ((Int×Int)×Mk)->Option Mk
 | []=>none
 | (k',old)::l=>if k'=k then some old else WR k l
def SC (l:List ((Int×Int)×Mk)) (s:Ev):List ((Int×Int)×Mk):=
 match WR (U2 s) l with
 | none=>Xj (U2 s) (mkM s) l
 | some old=>if SI (mkM s) old then Xj (U2 s) (mkM s) l else l
def UL (S:List Ev):List ((Int×Int)×Mk):=S.foldl SC []
def SS (m:Mk):List Int:=[m.scanner,m.at',m.off]
theorem Zj (m:Mk):(SS m).length=3:=id rfl
theorem Ng1 (m n:Mk) (h:SS m=SS n):m=n:=by
 obtain ⟨a,b,c⟩:=m;obtain ⟨d,e,f⟩:=n
 simp only [SS,List.cons.injEq] at h
 obtain ⟨rfl,rfl,rfl,_⟩:=h
 rfl
def RS (m p:Mk):Prop:=m.scanner=p.scanner/\m.at'=p.at'
instance (m p:Mk):Decidable (RS m p):=by unfold RS;infer_instance
def UF (p:Mk):List Mk->List Mk
 | []=>[]
 | m::l=>if RS m p then UF m l else m::UF m l
def Si:List Mk->List Mk
 | []=>[]
 | m::l=>m::UF m l
def Ro (S:List Ev):List Mk:=Si (UE SS ((UL S).map (·.2)))
def MQ (m:Mk):Prop:=1<=m.scanner/\m.scanner<=999999/\0<=m.at'/\m.at'<=VE/\-VE<=m.off/\m.off<=VE
instance (m:Mk):Decidable (MQ m):=by unfold MQ;infer_instance
def Mo (a b:Mk):Prop:=a.scanner<b.scanner\/a.scanner=b.scanner/\a.at'<b.at'
instance (a b:Mk):Decidable (Mo a b):=by unfold Mo;infer_instance
def Zt (l:List Mk):Prop:=(∀m∈l,MQ m)/\l.Pairwise Mo
def TT:Mk:=⟨0,0,0⟩
def Xk (t:Int):Mk->List Mk->Int
 | last,[]=>last.off
 | last,m::l=>if t > m.at' then Xk t m l else if last=TT then m.off else last.off+(m.off-last.off)*(t-last.at') / (m.at'-last.at')
def ofN (M:List Mk) (sc:Int):List Mk:=M.filter fun m=>m.scanner == sc
def ME (M:List Mk) (sc t:Int):Int:=Xk t TT (ofN M sc)
def V4 (M:List Mk) (s:Ev):Int:=min (max (s.at'+ME M s.scanner s.at') 0) s.seen
def Tx (e:Ev):List Int:=[e.time,e.kind,e.place,e.scanner,e.item,e.at',e.seen]
theorem Zk (e:Ev):(Tx e).length=7:=id rfl
theorem Ng2 (x y:Ev) (h:Tx x=Tx y):x=y:=by
 obtain ⟨a,b,c,d,e,f,g⟩:=x;obtain ⟨a',b',i,j,k,l,m⟩:=y
 simp only [Tx,List.cons.injEq] at h
 obtain ⟨rfl,rfl,rfl,rfl,rfl,rfl,rfl,_⟩:=h
 rfl
def Sj (M:List Mk) (S:List Ev):List Ev:=UE Tx (S.map fun s=>{ s with time:=V4 M s })
def RX (e:Ev):Int×Int×Int:=(e.item,e.place,e.kind)
def Xn (e:Ev) (kept:List Ev):Option Ev:=kept.find? fun x=>RX x == RX e
def WM (e:Ev) (kept:List Ev):Bool:=match Xn e kept with
 | none=>false
 | some x=>decide (e.time-x.time<=10)
def Tg:List Ev->List Ev->List Ev->List Ev×List Ev
 | kept,twice,[]=>(kept.reverse,twice.reverse)
 | kept,twice,e::l=>if WM e kept then Tg kept (e::twice) l else Tg (e::kept) twice l
def OO (S:List Ev):List Ev×List Ev:=Tg [] [] (Sj (Ro S) S)
def Vf (l:List Ev) (item:Int):List Ev:=l.filter fun e=>item == 0||e.item == item
abbrev Es:=List ((Int×Int)×Mk)
theorem Nen {k:Int×Int} {m:Mk}:∀{l:Es},WR k l=some m->(k,m)∈l
 | [],h=>by cases h
 | (k',m')::l,h=>by
   unfold WR at h
   by_cases hk:k'=k
   ·rw [Ni hk] at h;cases h;rw [hk];exact No
   ·rw [Nh hk] at h;exact Nk _ (Nen h)
def Ml (l:Es):Prop:=(l.map (·.1)).Nodup
theorem Ni0 {k:Int×Int} {m:Mk}:∀{l:Es},Ml l->(k,m)∈l->WR k l=some m
 | [],_,h=>by cases h
 | (k',m')::l,hn,h=>by
   have a:=List.nodup_cons.mp hn
   unfold WR
   rcases Np.mp h with h | h
   ·cases h;rw [Ni rfl]
   ·rw [Nh fun hk=>a.1 (by rw [hk];exact List.mem_map.mpr ⟨_,h,rfl⟩)]
    exact Ni0 a.2 h
theorem Ngq {k:Int×Int} {m:Mk}:∀{l:Es} {x},x∈(Xj k m l).map (·.1)↔x=k\/x∈l.map (·.1)
 | [],x=>by simp [Xj]
 | (k',m')::l,x=>by
   unfold Xj
   by_cases hk:k'=k
   ·rw [Ni hk];subst hk;simp
   ·rw [Nh hk,Oc,Np,Ngq,Oc,Np]
    exact or_left_comm
theorem Ndx {k:Int×Int} {m:Mk}:∀{l:Es},Ml l->Ml (Xj k m l)
 | [],_=>by simp [Xj,Ml]
 | (k',m')::l,h=>by
   have h2:=List.nodup_cons.mp h
   unfold Xj
   by_cases hk:k'=k
   ·rw [Ni hk];exact h
   ·rw [Nh hk]
    refine List.nodup_cons.mpr ⟨fun hc=>?_,Ndx h2.2⟩
    rcases Ngq.mp hc with hc | hc
    ·exact hk hc
    ·exact h2.1 hc
theorem Nem {k k':Int×Int} {m:Mk}:∀{l:Es},WR k' (Xj k m l)=if k'=k then some m else WR k' l
 | []=>by
   unfold Xj WR
   by_cases h:k'=k
   ·rw [Ni h.symm,Ni h]
   ·rw [Nh fun q=>h q.symm,Nh h];rfl
 | (k2,m2)::l=>by
   unfold Xj
   by_cases h2:k2=k
   ·rw [Ni h2]
    subst h2
    by_cases h:k'=k2
    ·rw [Ni h];unfold WR;rw [Ni h.symm]
    ·rw [Nh h];unfold WR;rw [Nh fun q=>h q.symm,Nh fun q=>h q.symm]
   ·rw [Nh h2]
    by_cases h:k2=k'
    ·have:¬k'=k:=fun q=>h2 (h.trans q)
     rw [Nh this];unfold WR;rw [Ni h,Ni h]
    ·unfold WR;rw [Nh h,Nh h];exact Nem
structure LeastOf (S:List Ev) (l:Es):Prop where
 nd:Ml l
 from':∀k m,WR k l=some m->∃s∈S,U2 s=k/\mkM s=m
 all:∀s∈S,∃m,WR (U2 s) l=some m/\¬SI (mkM s) m
theorem Njb {a b c:Mk} (h:¬SI a b) (h2:SI c b):¬SI a c:=by
 unfold SI at *;omega
theorem Nmt {a:Mk}:¬SI a a:=by unfold SI;omega
theorem LeastOf.add {S:List Ev} {l:Es} (h:LeastOf S l) (s:Ev):LeastOf (S++[s]) (SC l s):=by
 have put:(∀m,WR (U2 s) l=some m->SI (mkM s) m)->LeastOf (S++[s]) (Xj (U2 s) (mkM s) l):=by
  intro a
  refine ⟨Ndx h.nd,fun k m hk=>?_,fun x hx=>?_⟩
  ·rw [Nem] at hk
   by_cases q:k=U2 s
   ·rw [Ni q] at hk;cases hk;exact ⟨s,by simp,q.symm,rfl⟩
   ·rw [Nh q] at hk
    obtain ⟨y,b,h1,h2⟩:=h.from' k m hk
    exact ⟨y,Oq _ b,h1,h2⟩
  ·rw [Nem]
   rcases Ol.mp hx with hx | hx
   ·obtain ⟨m,h1,h2⟩:=h.all x hx
    by_cases q:U2 x=U2 s
    ·rw [Ni q]
     rw [q] at h1
     exact ⟨_,rfl,Njb h2 (a m h1)⟩
    ·rw [Nh q];exact ⟨m,h1,h2⟩
   ·rw [Nj] at hx;subst hx
    rw [Ni rfl];exact ⟨_,rfl,Nmt⟩
 unfold SC
 cases hg:WR (U2 s) l with
 | none=>exact put (by rw [hg];intro m h;cases h)
 | some old=>
   dsimp only
   by_cases a:SI (mkM s) old
   ·rw [Ni a];exact put (by rw [hg];intro m h;cases h;exact a)
   ·rw [Nh a]
    refine ⟨h.nd,fun k m hk=>?_,fun x hx=>?_⟩
    ·obtain ⟨y,b,h1,h2⟩:=h.from' k m hk
     exact ⟨y,Oq _ b,h1,h2⟩
    ·rcases Ol.mp hx with hx | hx
     ·exact h.all x hx
     ·rw [Nj] at hx;subst hx
      exact ⟨old,hg,a⟩
theorem Nlt:∀(T S:List Ev) (l:Es),LeastOf S l->LeastOf (S++T) (T.foldl SC l)
 | [],S,l,h=>by rw [Nb];exact h
 | s::T,S,l,h=>by
   have:=Nlt T (S++[s]) _ (h.add s)
   rw [Nn] at this
   exact this
theorem Na2 (S:List Ev):LeastOf S (UL S):=by
 have:=Nlt S [] [] ⟨by simp [Ml],fun k m h=>(by cases h),fun s h=>(O8 h).elim⟩
 exact this
theorem N9r {a b:Mk} (hs:a.scanner=b.scanner) (h1:¬SI a b) (h2:¬SI b a):a=b:=by
 obtain ⟨e,c,d⟩:=a;obtain ⟨b1,b2,b3⟩:=b
 unfold SI at h1 h2
 simp only at hs h1 h2
 have e1:c=b2:=by omega
 have e2:d=b3:=by omega
 rw [hs,e1,e2]
theorem LeastOf.get {S:List Ev} {l:Es} (h:LeastOf S l) {k:Int×Int} {m:Mk}:WR k l=some m↔(∃s∈S,U2 s=k/\mkM s=m)/\∀x∈S,U2 x=k->¬SI (mkM x) m:=by
 constructor
 ·intro hk
  refine ⟨h.from' k m hk,fun x e d=>?_⟩
  obtain ⟨g,h1,h2⟩:=h.all x e
  rw [d,hk] at h1;cases h1;exact h2
 ·rintro ⟨⟨s,hs,rfl,rfl⟩,c⟩
  obtain ⟨g,h1,h2⟩:=h.all s hs
  obtain ⟨y,f,hk,rfl⟩:=h.from' _ _ h1
  rw [h1,N9r (a:=mkM s) (b:=mkM y) (Qg (·.1) hk.symm) h2 (c y f hk)]
theorem LeastOf.perm {S S':List Ev} {l l':Es} (h:LeastOf S l) (h':LeastOf S' l') (hm:∀s,s∈S↔s∈S'):l.Perm l':=by
 have nd:∀{l:Es},Ml l->l.Nodup:=fun h=>(List.pairwise_map.mp h).imp fun {a b} q e=>q (Qg _ e)
 refine (List.perm_ext_iff_of_nodup (nd h.nd) (nd h'.nd)).mpr fun ⟨k,m⟩=>?_
 have e:∀{S:List Ev} {l:Es},LeastOf S l->((k,m)∈l↔WR k l=some m):=fun h=>⟨Ni0 h.nd,Nen⟩
 rw [e h,e h',h.get,h'.get]
 simp only [hm]
theorem Nbe (p:Mk):∀l,(UF p l).Sublist l
 | []=>.refl _
 | m::l=>by
   unfold UF
   split
   ·exact (Nbe m l).trans (List.sublist_cons_self _ _)
   ·exact (Nbe m l).cons_cons m
theorem Nzb {a b:Mk} (h:S9 (SS a) (SS b)<=0):Mo a b\/RS b a/\a.off<=b.off:=by
 unfold SS S9 at h
 by_cases h1:a.scanner<b.scanner
 ·exact .inl (.inl h1)
 rw [Nh h1] at h
 by_cases h2:b.scanner<a.scanner
 ·rw [Ni h2] at h;omega
 rw [Nh h2] at h
 have e1:a.scanner=b.scanner:=by omega
 unfold S9 at h
 by_cases c:a.at'<b.at'
 ·exact .inl (.inr ⟨e1,c⟩)
 rw [Nh c] at h
 by_cases d:b.at'<a.at'
 ·rw [Ni d] at h;omega
 rw [Nh d] at h
 unfold S9 at h
 by_cases h5:a.off<b.off
 ·exact .inr ⟨⟨e1.symm,by omega⟩,by omega⟩
 rw [Nh h5] at h
 by_cases e:b.off<a.off
 ·rw [Ni e] at h;omega
 exact .inr ⟨⟨e1.symm,by omega⟩,by omega⟩
theorem Ngw {a b c:Mk} (h:Mo a b) (h2:Mo b c):Mo a c:=by unfold Mo at *;omega
theorem Nln {a b c:Mk} (h:Mo a b) (h2:RS c b):Mo a c:=by unfold Mo RS at *;omega
theorem Nmj:∀(l:List Mk) (p:Mk),TJ SS (p::l)->(UF p l).Pairwise Mo/\(∀x∈UF p l,Mo p x)/\∀x∈l,RS x p/\p.off<=x.off\/∃y∈UF p l,RS x y/\y.off<=x.off
 | [],p,_=>by simp [UF]
 | m::l,p,h=>by
   obtain ⟨h1,h2⟩:=List.pairwise_cons.mp h
   obtain ⟨d,c,e⟩:=Nmj l m h2
   have b:=Nzb (h1 m No)
   unfold UF
   by_cases hs:RS m p
   ·rw [Ni hs]
    have f:p.off<=m.off:=by
     rcases b with q | q
     ·unfold Mo at q;unfold RS at hs;omega
     ·exact q.2
    refine ⟨d,fun x hx=>?_,fun x hx=>?_⟩
    ·have:=c x hx;unfold Mo at *;unfold RS at hs;omega
    ·rcases Np.mp hx with rfl | hx
     ·exact .inl ⟨hs,f⟩
     ·rcases e x hx with q | q
      ·refine .inl ⟨?_,by omega⟩
       have:=q.1;unfold RS at *;omega
      ·exact .inr q
   ·rw [Nh hs]
    have a:Mo p m:=by
     rcases b with q | q
     ·exact q
     ·exact absurd q.1 hs
    refine ⟨List.pairwise_cons.mpr ⟨c,d⟩,fun x hx=>?_,fun x hx=>?_⟩
    ·rcases Np.mp hx with rfl | hx
     ·exact a
     ·exact Ngw a (c x hx)
    ·rcases Np.mp hx with rfl | hx
     ·exact .inr ⟨x,No,⟨rfl,rfl⟩,Oj _⟩
     ·rcases e x hx with q | ⟨y,g,q⟩
      ·exact .inr ⟨m,No,q⟩
      ·exact .inr ⟨y,Nk _ g,q⟩
theorem YK {l:List Mk} (h:TJ SS l):(Si l).Pairwise Mo/\(Si l).Sublist l/\∀x∈l,∃y∈Si l,RS x y/\y.off<=x.off:=by
 cases l with
 | nil=>exact ⟨List.Pairwise.nil,.refl _,fun x h=>by cases h⟩
 | cons m l=>
   obtain ⟨b,c,d⟩:=Nmj l m h
   refine ⟨List.pairwise_cons.mpr ⟨c,b⟩,(Nbe m l).cons_cons m,fun x hx=>?_⟩
   rcases Np.mp hx with rfl | hx
   ·exact ⟨x,No,⟨rfl,rfl⟩,Oj _⟩
   ·rcases d x hx with q | ⟨y,a,q⟩
    ·exact ⟨m,No,q⟩
    ·exact ⟨y,Nk _ a,q⟩
def Nc6 (S:List Ev):List Mk:=(UL S).map (·.2)
theorem Njr {S:List Ev} {m:Mk}:m∈Nc6 S↔∃s∈S,mkM s=m/\∀x∈S,U2 x=U2 s->¬SI (mkM x) m:=by
 unfold Nc6
 rw [List.mem_map]
 constructor
 ·rintro ⟨⟨k,b⟩,h,rfl⟩
  obtain ⟨⟨s,hs,rfl,rfl⟩,a⟩:=(Na2 S).get.mp (Ni0 (Na2 S).nd h)
  exact ⟨s,hs,rfl,a⟩
 ·rintro ⟨s,hs,rfl,a⟩
  exact ⟨(U2 s,mkM s),Nen ((Na2 S).get.mpr ⟨⟨s,hs,rfl,rfl⟩,a⟩),rfl⟩
theorem Nw2 (S:List Ev):(Nc6 S).length<=S.length:=by
 have put:∀(k:Int×Int) (m:Mk) (l:Es),(Xj k m l).length<=l.length+1:=by
  intro k m l
  induction l with
  | nil=>simp [Xj]
  | cons a l ih=>
    unfold Xj
    split
    ·simp
    ·simp only [Nl];omega
 have key:∀(T:List Ev) (l:Es),(T.foldl SC l).length<=l.length+T.length:=by
  intro T
  induction T with
  | nil=>intro l;simp
  | cons s T ih=>
    intro l
    have h1:=ih (SC l s)
    have h2:(SC l s).length<=l.length+1:=by
     unfold SC
     split
     ·exact put _ _ _
     split
     ·exact put _ _ _
     ·omega
    simp only [Oi,Nl];omega
 have:=key S []
 unfold Nc6 UL
 rw [Nu];simpa using this
theorem WS (S:List Ev):TJ SS (UE SS (Nc6 S)):=U0 Zj _
theorem Nun (S:List Ev):(Ro S).Pairwise Mo:=(YK (WS S)).1
theorem Nb6 {S:List Ev} {m:Mk} (h:m∈Ro S):m∈Nc6 S:=(Tu SS _).mem_iff.mp ((YK (WS S)).2.1.mem h)
theorem Nl6 {S:List Ev} (hS:∀s∈S,Sb s) {m:Mk} (h:m∈Ro S):MQ m:=by
 obtain ⟨s,hs,rfl,_⟩:=Njr.mp (Nb6 h)
 have:=hS s hs
 unfold Sb at this;unfold MQ mkM;simp only;omega
theorem gather_ok {S:List Ev} (hS:∀s∈S,Sb s):Zt (Ro S):=⟨fun m h=>Nl6 hS h,Nun S⟩
theorem Npp (S:List Ev):(Ro S).length<=S.length:=by
 have h1:=(YK (WS S)).2.1.length_le
 rw [(Tu SS _).length_eq] at h1
 have:=Nw2 S
 unfold Ro Nc6 at *
 omega
theorem Npc {e x:Ev} {kept:List Ev} (h:Xn e kept=some x):x∈kept/\RX x=RX e:=by
 unfold Xn at h
 exact ⟨Rm h,by simpa using List.find?_some h⟩
theorem Njx {e:Ev} {kept:List Ev}:WM e kept=true↔∃x,Xn e kept=some x/\e.time-x.time<=10:=by
 unfold WM
 cases h:Xn e kept with
 | none=>simp
 | some x=>simp
theorem Yv:∀(l kept twice:List Ev),((Tg kept twice l).1++(Tg kept twice l).2).Perm (kept++twice++l)
 | [],kept,twice=>by
   unfold Tg
   rw [Nb]
   exact (List.reverse_perm _).append (List.reverse_perm _)
 | e::l,kept,twice=>by
   unfold Tg
   split
   ·refine (Yv l _ _).trans ?_
    rw [Nn,Nn,Ox]
    exact (List.perm_middle).symm.append_left kept
   ·refine (Yv l _ _).trans ?_
    rw [Ox,Ox]
    exact List.perm_middle.symm
theorem ZQ:∀(l kept twice:List Ev),∃K T,Tg kept twice l=(kept.reverse++K,twice.reverse++T)/\K.Sublist l/\T.Sublist l
 | [],kept,twice=>⟨[],[],by unfold Tg;simp,.refl _,.refl _⟩
 | e::l,kept,twice=>by
   unfold Tg
   split
   ·obtain ⟨K,T,h1,h2,a⟩:=ZQ l kept (e::twice)
    exact ⟨K,e::T,by rw [h1];simp,h2.trans (List.sublist_cons_self _ _),a.cons_cons e⟩
   ·obtain ⟨K,T,h1,h2,a⟩:=ZQ l (e::kept) twice
    exact ⟨e::K,T,by rw [h1];simp,h2.cons_cons e,a.trans (List.sublist_cons_self _ _)⟩
def Njf (l:List Ev):Prop:=l.Pairwise fun x y=>x.time<=y.time
theorem Nd2 {l:List Ev} (h:TJ Tx l):Njf l:=h.imp fun {a b} q=>by
 unfold Tx S9 at q
 by_cases h1:a.time<b.time
 ·omega
 rw [Nh h1] at q
 by_cases h2:b.time<a.time
 ·rw [Ni h2] at q;omega
 ·omega
theorem Nf6 (M:List Mk) (S:List Ev):TJ Tx (Sj M S):=U0 Zk _
theorem Mc {M:List Mk} {S:List Ev} {x:Ev}:x∈Sj M S↔∃s∈S,{ s with time:=V4 M s }=x:=by
 unfold Sj
 rw [(Tu Tx _).mem_iff,List.mem_map]
theorem N04 {D w k:Int} (a:0<w) (h1:0<=k) (h2:k<=w):min 0 D<=D*k / w/\D*k / w<=max 0 D:=by
 rcases (by omega:D<0\/0<=D) with h | h
 ·rw [Int.min_eq_right (by omega),Int.max_eq_left (by omega)]
  constructor
  ·exact Int.le_ediv_of_mul_le a (Int.mul_le_mul_of_nonpos_left (by omega) h2)
  ·refine Int.ediv_le_of_le_mul a ?_
   rw [Int.zero_mul]
   exact Int.mul_nonpos_of_nonpos_of_nonneg (by omega) h1
 ·rw [Int.min_eq_left (by omega),Int.max_eq_right (by omega)]
  exact ⟨Int.ediv_nonneg (Int.mul_nonneg h h1) (by omega),Int.ediv_le_of_le_mul a (Int.mul_le_mul_of_nonneg_left h2 h)⟩
def N5b (l:List Mk):Prop:=l.Pairwise fun a b=>a.at'<b.at'
theorem Nya {M:List Mk} {sc:Int} (h:M.Pairwise Mo):N5b (ofN M sc):=by
 unfold N5b ofN
 have h2:=h.filter (fun m=>m.scanner == sc)
 refine List.Pairwise.imp_of_mem ?_ h2
 intro a b c d q
 have e1:a.scanner=sc:=by simpa using (O0.mp c).2
 have e2:b.scanner=sc:=by simpa using (O0.mp d).2
 unfold Mo at q;omega
theorem Nbt {t B:Int}:∀(l:List Mk) (last:Mk),N5b l->(∀m∈l,-B<=m.off/\m.off<=B)->-B<=last.off->last.off<=B->(∀m∈l,last=TT\/last.at'<m.at')->(last=TT\/last.at'<t)->-B<=Xk t last l/\Xk t last l<=B
 | [],last,_,_,h1,h2,_,_=>⟨h1,h2⟩
 | m::l,last,hl,hb,h1,h2,h3,h4=>by
   obtain ⟨d,e⟩:=List.pairwise_cons.mp hl
   have hm:=hb m No
   unfold Xk
   split
   ·rename_i c
    exact Nbt l m e (fun x a=>hb x (Nk _ a)) hm.1 hm.2 (fun x a=>.inr (d x a)) (.inr c)
   split
   ·exact hm
   ·rename_i f b
    have e1:=h4.resolve_left b
    have:=N04 (D:=m.off-last.off) (w:=m.at'-last.at') (k:=t-last.at') (by omega) (by omega) (by omega)
    omega
structure AtOnce (S:List Ev) (c:Int->Int) (t:Ev->Int):Prop where
 at_:∀s∈S,s.at'=t s-c s.scanner
 late:∀s∈S,t s<=s.seen
 once:∀s∈S,∃x∈S,U2 x=U2 s/\x.seen=t x
def Nek (m:Mk):List Mk->List Mk
 | []=>[m]
 | y::l=>if Mo y m then y::Nek m l else if RS y m then (if m.off<y.off then { y with off:=m.off } else y)::l else m::y::l
theorem Nrv {m:Mk}:∀{l:List Mk},l.Pairwise Mo->(Nek m l).Pairwise Mo/\∀x∈Nek m l,RS x m\/∃y∈l,RS x y
 | [],_=>by
   unfold Nek
   exact ⟨List.pairwise_singleton _ _,fun x hx=>by rw [Nj] at hx;subst hx;exact .inl ⟨rfl,rfl⟩⟩
 | y::l,h=>by
   obtain ⟨h1,h2⟩:=List.pairwise_cons.mp h
   obtain ⟨g,e⟩:=Nrv (m:=m) h2
   unfold Nek
   split
   ·rename_i c
    refine ⟨List.pairwise_cons.mpr ⟨fun x hx=>?_,g⟩,fun x hx=>?_⟩
    ·rcases e x hx with q | ⟨z,a,q⟩
     ·exact Nln c q
     ·exact Nln (h1 z a) q
    ·rcases Np.mp hx with rfl | hx
     ·exact .inr ⟨x,No,rfl,rfl⟩
     ·rcases e x hx with q | ⟨z,a,q⟩
      ·exact .inl q
      ·exact .inr ⟨z,Nk _ a,q⟩
   ·split
    ·rename_i hn hs
     have f:∀z,Mo y z->Mo (if m.off<y.off then { y with off:=m.off } else y) z:=by
      intro z a;split
      ·exact a
      ·exact a
     have d:RS (if m.off<y.off then { y with off:=m.off } else y) y:=by split<;>exact ⟨rfl,rfl⟩
     refine ⟨List.pairwise_cons.mpr ⟨fun x hx=>f x (h1 x hx),h2⟩,fun x hx=>?_⟩
     rcases Np.mp hx with rfl | hx
     ·exact .inr ⟨y,No,d⟩
     ·exact .inr ⟨x,Nk _ hx,rfl,rfl⟩
    ·rename_i hn hs
     have b:Mo m y:=by unfold Mo RS at *;omega
     refine ⟨List.pairwise_cons.mpr ⟨fun x hx=>?_,h⟩,fun x hx=>?_⟩
     ·rcases Np.mp hx with rfl | hx
      ·exact b
      ·exact Ngw b (h1 x hx)
     ·rcases Np.mp hx with rfl | hx
      ·exact .inl ⟨rfl,rfl⟩
      ·exact .inr ⟨x,hx,rfl,rfl⟩
structure RefOf (V:List Mk) (out:List Mk):Prop where
 lt:out.Pairwise Mo
 from':∀m∈out,m∈V
 all:∀m∈V,∃y∈out,RS m y/\y.off<=m.off
theorem Nru {m:Mk}:∀{l:List Mk},(∀x∈Nek m l,x=m\/x∈l)/\∀x,x=m\/x∈l->∃y∈Nek m l,RS x y/\y.off<=x.off
 | []=>by
   unfold Nek
   refine ⟨fun x hx=>.inl (by simpa using hx),fun x hx=>?_⟩
   rcases hx with rfl | hx
   ·exact ⟨x,by simp,⟨rfl,rfl⟩,Oj _⟩
   ·cases hx
 | y::l=>by
   obtain ⟨f,g⟩:=Nru (m:=m) (l:=l)
   unfold Nek
   split
   ·refine ⟨fun x hx=>?_,fun x hx=>?_⟩
    ·rcases Np.mp hx with rfl | hx
     ·exact .inr No
     ·rcases f x hx with q | q
      ·exact .inl q
      ·exact .inr (Nk _ q)
    ·have out:x=m\/x∈l->∃z∈y::Nek m l,RS x z/\z.off<=x.off:=fun q=>by
      obtain ⟨z,e,w⟩:=g x q
      exact ⟨z,Nk _ e,w⟩
     rcases hx with rfl | hx
     ·exact out (.inl rfl)
     ·rcases Np.mp hx with rfl | hx
      ·exact ⟨x,No,⟨rfl,rfl⟩,Oj _⟩
      ·exact out (.inr hx)
   ·split
    ·rename_i hn hs
     refine ⟨fun x hx=>?_,fun x hx=>?_⟩
     ·rcases Np.mp hx with h | hx
      ·split at h
       ·left
        subst h
        obtain ⟨a,b,c⟩:=m
        unfold RS at hs
        simp only at hs⊢
        rw [hs.1,hs.2]
       ·right;rw [h];exact No
      ·exact .inr (Nk _ hx)
     ·have hd:RS m (if m.off<y.off then { y with off:=m.off } else y)/\(if m.off<y.off then { y with off:=m.off } else y).off<=m.off/\RS y (if m.off<y.off then { y with off:=m.off } else y)/\(if m.off<y.off then { y with off:=m.off } else y).off<=y.off:=by
       unfold RS at hs⊢
       split
       ·rename_i d;exact ⟨⟨hs.1.symm,hs.2.symm⟩,Oj _,⟨rfl,rfl⟩,Int.le_of_lt d⟩
       ·exact ⟨⟨hs.1.symm,hs.2.symm⟩,by omega,⟨rfl,rfl⟩,Oj _⟩
      rcases hx with rfl | hx
      ·exact ⟨_,No,hd.1,hd.2.1⟩
      ·rcases Np.mp hx with rfl | hx
       ·exact ⟨_,No,hd.2.2.1,hd.2.2.2⟩
       ·exact ⟨x,Nk _ hx,⟨rfl,rfl⟩,Oj _⟩
    ·refine ⟨fun x hx=>?_,fun x hx=>?_⟩
     ·rcases Np.mp hx with rfl | hx
      ·exact .inl rfl
      ·exact .inr hx
     ·rcases hx with rfl | hx
      ·exact ⟨x,No,⟨rfl,rfl⟩,Oj _⟩
      ·exact ⟨x,Nk _ hx,⟨rfl,rfl⟩,Oj _⟩
theorem RefOf.add {V out:List Mk} (h:RefOf V out) (m:Mk):RefOf (V++[m]) (Nek m out):=by
 obtain ⟨d,a⟩:=Nru (m:=m) (l:=out)
 refine ⟨(Nrv h.lt).1,fun x hx=>?_,fun x hx=>?_⟩
 ·rcases d x hx with rfl | q
  ·simp
  ·exact Oq _ (h.from' x q)
 ·rcases Ol.mp hx with hx | hx
  ·obtain ⟨y,b,q1,q2⟩:=h.all x hx
   obtain ⟨z,c,q3,e⟩:=a y (.inr b)
   exact ⟨z,c,by unfold RS at *;omega,by omega⟩
  ·rw [Nj] at hx;subst hx
   exact a x (.inl rfl)
end Go.Scan


namespace Go.Net
structure Leg where
 (id frm dst dep mins cut grams days:Int)
 deriving DecidableEq,Inhabited
def OA:Int:=1051898399
def Fine (l:Leg):Prop:=1<=l.id/\l.id<=999999/\1<=l.frm/\l.frm<=999999/\1<=l.dst/\l.dst<=999999/\0<=l.dep/\l.dep<=1439/\1<=l.mins/\l.mins<=20160/\0<=l.cut/\l.cut<=10080/\0<=l.grams/\l.grams<=1000000000/\1<=l.days/\l.days<=127/\l.frm≠l.dst
instance (l:Leg):Decidable (Fine l):=by unfold Fine;infer_instance
def runs (days:Int) (d:Nat):Bool:=days.toNat / 2 ^ (d % 7) % 2 == 1
def goes (l:Leg) (d:Nat):Bool:=runs l.days d&&decide (0<=1440*(d:Int)+l.dep-l.cut)&&decide (1440*(d:Int)+l.dep+l.mins<=OA)
def VI:Nat:=730485
theorem Zo:VI=730485:=rfl
attribute [irreducible] VI
def Dep (l:Leg) (a:Int):Prop:=∃d:Nat,d<VI/\goes l d=true/\a=1440*(d:Int)+l.dep
def Ze (l:Leg) (r:Int):Option Nat:=(List.range VI).find? fun (d:Nat)=>goes l d&&decide (r<=1440*(d:Int)+l.dep-l.cut)
def RY (l:Leg) (r:Int):Option Int:=(Ze l r).map fun (d:Nat)=>1440*(d:Int)+l.dep
def Ncw (l:Leg) (b:Int):Option Nat:=((List.range VI).find? fun (d:Nat)=>goes l (VI-1-d)&&decide (1440*((VI-1-d:Nat):Int)+l.dep+l.mins<=b)).map fun (d:Nat)=>VI-1-d
def SQ (l:Leg) (b:Int):Option Int:=(Ncw l b).map fun (d:Nat)=>1440*(d:Int)+l.dep
theorem find_range {n:Nat} {p:Nat->Bool} {i:Nat}:(List.range n).find? p=some i↔p i=true/\i<n/\∀j,j<i->p j=false:=by
 rw [List.find?_range_eq_some];simp
theorem Vr {n:Nat} {p:Nat->Bool}:(List.range n).find? p=none↔∀j,j<n->p j=false:=by
 rw [List.find?_range_eq_none];simp
theorem RO {l:Leg} {r a:Int} (h:RY l r=some a):Dep l a/\r<=a-l.cut/\∀b,Dep l b->r<=b-l.cut->a<=b:=by
 unfold RY Ze at h
 obtain ⟨d,hd,rfl⟩:=Nc.1 h
 obtain ⟨h1,h2,f⟩:=find_range.1 hd
 simp only [Ny,Oa] at h1
 refine ⟨⟨d,h2,h1.1,rfl⟩,h1.2,fun b ⟨e,he,i,g⟩ hr=>?_⟩
 subst g
 by_cases c:e<d
 ·have:=f e c
  simp only [i,Bool.true_and,decide_eq_false_iff_not] at this
  omega
 ·omega
theorem Nd9 {l:Leg} {r:Int} (h:RY l r=none):∀b,Dep l b->b-l.cut<r:=by
 unfold RY Ze at h
 rw [Option.map_eq_none_iff,Vr] at h
 intro b ⟨e,he,a,c⟩
 have:=h e he
 simp only [a,Bool.true_and,decide_eq_false_iff_not] at this
 omega
theorem Tw {l:Leg} {b a:Int} (h:SQ l b=some a):Dep l a/\a+l.mins<=b/\∀c,Dep l c->c+l.mins<=b->c<=a:=by
 unfold SQ Ncw at h
 obtain ⟨d,hd,rfl⟩:=Nc.1 h
 obtain ⟨g,f,rfl⟩:=Nc.1 hd
 obtain ⟨h1,h2,i⟩:=find_range.1 f
 simp only [Ny,Oa] at h1
 refine ⟨⟨VI-1-g,by omega,h1.1,rfl⟩,h1.2,fun c ⟨e,he,j,hc⟩ hr=>?_⟩
 subst hc
 by_cases k:VI-1-g<e
 ·have:=i (VI-1-e) (by omega)
  rw [show VI-1-(VI-1-e)=e by omega] at this
  simp only [j,Bool.true_and,decide_eq_false_iff_not] at this
  omega
 ·omega
theorem Nef {l:Leg} {b:Int} (h:SQ l b=none):∀c,Dep l c->b<c+l.mins:=by
 unfold SQ Ncw at h
 rw [Option.map_eq_none_iff,Option.map_eq_none_iff,Vr] at h
 intro c ⟨e,he,a,hc⟩
 have:=h (VI-1-e) (by omega)
 rw [show VI-1-(VI-1-e)=e by omega] at this
 simp only [a,Bool.true_and,decide_eq_false_iff_not] at this
 omega
inductive Way (L:List Leg):Nat->Int->Int->Int->Int->Prop where
 | nil (p t:Int):Way L 0 p t p t
 | snoc {k:Nat} {p t m s a:Int} {l:Leg}:Way L k p t m s->l∈L->l.frm=m->Dep l a->s<=a-l.cut->Way L (k+1) p t l.dst (a+l.mins)
theorem Way.later {L:List Leg} {k:Nat} {p t q u:Int} (h:Way L k p t q u) (hL:∀l∈L,Fine l):t<=u:=by
 induction h with
 | nil=>omega
 | snoc h hl a hd hs ih=>have:=hL _ hl;unfold Fine at this;omega
theorem Way.early {L:List Leg} {k:Nat} {p t b q u:Int} (h:Way L k p t q u) (c:b<=t):(k=0/\p=q/\u=t)\/Way L k p b q u:=by
 induction h with
 | nil=>exact .inl ⟨rfl,rfl,rfl⟩
 | snoc h hl a hd hs ih=>
   rcases ih c with ⟨rfl,rfl,rfl⟩ | ih
   ·exact .inr (.snoc (.nil _ _) hl a hd (by omega))
   ·exact .inr (.snoc ih hl a hd hs)
theorem Way.mono {L M:List Leg} {k:Nat} {p t q u:Int} (h:Way L k p t q u) (hs:∀l∈L,l∈M):Way M k p t q u:=by
 induction h with
 | nil=>exact .nil _ _
 | snoc h hl a hd hr ih=>exact .snoc ih (hs _ hl) a hd hr
theorem Way.trans {L:List Leg} {k j:Nat} {p t m s q u:Int} (h:Way L k p t m s) (h2:Way L j m s q u):Way L (k+j) p t q u:=by
 induction h2 with
 | nil=>exact h
 | snoc h2 hl a hd hr ih=>exact .snoc (ih h) hl a hd hr
theorem Way.cons {L:List Leg} {k:Nat} {p t a q u:Int} {l:Leg} (hl:l∈L) (b:l.frm=p) (hd:Dep l a) (hr:t<=a-l.cut) (h:Way L k l.dst (a+l.mins) q u):Way L (k+1) p t q u:=by
 have:=(Way.snoc (.nil p t) hl b hd hr).trans h
 rwa [N0,Rj] at this
theorem Way.head {L:List Leg} {k:Nat} {p t q u:Int} (h:Way L (k+1) p t q u):∃l∈L,∃a,l.frm=p/\Dep l a/\t<=a-l.cut/\Way L k l.dst (a+l.mins) q u:=by
 generalize hk:k+1=n at h
 induction h generalizing k with
 | nil=>omega
 | @snoc j p t m s a l h hl hf hd hr ih=>
   cases j with
   | zero=>
     cases h
     obtain rfl:k=0:=by omega
     exact ⟨l,hl,a,hf,hd,hr,.nil _ _⟩
   | succ i=>
     obtain ⟨e,b,a',h1,h2,c,d⟩:=ih rfl
     obtain rfl:k=i+1:=by omega
     exact ⟨e,b,a',h1,h2,c,.snoc d hl hf hd hr⟩
def Sv (S:Int->Prop) (v:Int):Prop:=(v=-1/\∀u,¬S u)\/(S v/\∀u,S u->v<=u)
theorem Sv.uniq {S:Int->Prop} {v w:Int} (h:Sv S v) (h':Sv S w):v=w:=by
 rcases h with ⟨h1,h2⟩ | ⟨h1,h2⟩<;>rcases h' with ⟨a,b⟩ | ⟨a,b⟩
 ·omega
 ·exact absurd a (h2 _)
 ·exact absurd h1 (b _)
 ·have:=h2 _ a;have:=b _ h1;omega
theorem Sv.congr {S T:Int->Prop} {v:Int} (h:Sv S v) (e:∀u,S u↔T u):Sv T v:=by
 rcases h with ⟨h1,h2⟩ | ⟨h1,h2⟩
 ·exact .inl ⟨h1,fun u a=>h2 u ((e u).2 a)⟩
 ·exact .inr ⟨(e v).1 h1,fun u a=>h2 u ((e u).2 a)⟩
theorem Sv.mem {S:Int->Prop} {v:Int} (h:Sv S v) (a:0<=v):S v:=by
 rcases h with ⟨h1,h2⟩ | ⟨h1,h2⟩
 ·omega
 ·exact h1
theorem Sv.none {S:Int->Prop} {v:Int} (h:Sv S v) (a:∀u,S u->0<=u) (b:v<0):∀u,¬S u:=by
 rcases h with ⟨h1,h2⟩ | ⟨h1,h2⟩
 ·exact h2
 ·have:=a _ h1;omega
theorem Sv.le {S:Int->Prop} {v u:Int} (h:Sv S v) (a:S u):v<=u:=by
 rcases h with ⟨h1,h2⟩ | ⟨h1,h2⟩
 ·exact absurd a (h2 _)
 ·exact h2 _ a
theorem Sv.one {S:Int->Prop} {v x:Int} (h:Sv S v) (a:∀u,S u->0<=u) (b:0<=x):Sv (fun u=>S u\/u=x) (if v<0\/x<v then x else v):=by
 by_cases hc:v<0\/x<v
 ·rw [Ni hc]
  refine .inr ⟨.inr rfl,fun u hu=>?_⟩
  rcases hu with hu | hu
  ·rcases hc with hc | hc
   ·exact absurd hu (h.none a hc u)
   ·have:=h.le hu;omega
  ·omega
 ·rw [Nh hc]
  have:=h.mem (by omega)
  refine .inr ⟨.inl this,fun u hu=>?_⟩
  rcases hu with hu | hu
  ·exact h.le hu
  ·omega
def X7 (pos:Int->Nat) (lim:Int) (bef aft:List Int) (l:Leg):List Int:=
 if bef.getD (pos l.frm) (-1)<0 then aft else
 match RY l (bef.getD (pos l.frm) (-1)) with
 | some a=>if a+l.mins<=lim/\(aft.getD (pos l.dst) (-1)<0\/a+l.mins<aft.getD (pos l.dst) (-1)) then aft.set (pos l.dst) (a+l.mins) else aft
 | none=>aft
def V5 (pos:Int->Nat) (lim:Int) (L:List Leg) (bef:List Int):List Int:=L.foldl (X7 pos lim bef) bef
theorem Nc9 {pos:Int->Nat} {lim:Int} {bef aft:List Int} {l:Leg}:(X7 pos lim bef aft l).length=aft.length:=by
 unfold X7
 split
 ·rfl
 ·split
  ·split
   ·simp
   ·rfl
  ·rfl
theorem Nhb {pos:Int->Nat} {lim:Int} {bef:List Int}:∀{L:List Leg} {aft:List Int},(L.foldl (X7 pos lim bef) aft).length=aft.length
 | [],_=>rfl
 | l::L,aft=>by rw [Oi,Nhb,Nc9]
theorem YY {pos:Int->Nat} {lim:Int} {L:List Leg} {bef:List Int}:(V5 pos lim L bef).length=bef.length:=Nhb
def Njk (pos:Int->Nat) (lim:Int) (bef:List Int) (l:Leg) (q:Nat) (u:Int):Prop:=
 pos l.dst=q/\0<=bef.getD (pos l.frm) (-1)/\∃a,RY l (bef.getD (pos l.frm) (-1))=some a/\u=a+l.mins/\u<=lim
theorem Dep.nonneg {l:Leg} {a:Int} (h:Dep l a) (hl:Fine l):0<=a:=by
 obtain ⟨d,_,_,rfl⟩:=h
 unfold Fine at hl;omega
theorem Njk.nonneg {pos:Int->Nat} {lim:Int} {bef:List Int} {l:Leg} {q:Nat} {u:Int} (h:Njk pos lim bef l q u) (hl:Fine l):0<=u:=by
 obtain ⟨_,_,a,h1,h2,_⟩:=h
 have:=(RO h1).1.nonneg hl
 unfold Fine at hl;omega
theorem Xq {L:List Int} {i j:Nat} {x d:Int} (hi:i<L.length):(L.set i x).getD j d=if i=j then x else L.getD j d:=by
 rw [Na,N3]
 by_cases h:i=j
 ·simp [h,show j<L.length by omega]
 ·simp [h,Na]
theorem Nw5 {pos:Int->Nat} {lim:Int} {bef aft:List Int} {l:Leg} {q:Nat} {S:Int->Prop} (hl:Fine l) (hp:pos l.dst<aft.length) (k:∀u,S u->0<=u) (h:Sv S (aft.getD q (-1))) :
  Sv (fun u=>S u\/Njk pos lim bef l q u) ((X7 pos lim bef aft l).getD q (-1)):=by
 unfold X7
 by_cases hs:bef.getD (pos l.frm) (-1)<0
 ·rw [Ni hs]
  exact h.congr fun u=>⟨.inl,fun c=>c.elim id fun d=>absurd d.2.1 (by omega)⟩
 rw [Nh hs]
 cases hn:RY l (bef.getD (pos l.frm) (-1)) with
 | none=>
   simp only []
   exact h.congr fun u=>⟨.inl,fun c=>c.elim id fun ⟨_,_,a,j,_⟩=>by rw [hn] at j;cases j⟩
 | some a=>
   simp only []
   have i:0<=a+l.mins:=by have:=(RO hn).1.nonneg hl;unfold Fine at hl;omega
   by_cases f:a+l.mins<=lim
   ·by_cases g:pos l.dst=q
    ·have e:((if a+l.mins<=lim/\(aft.getD (pos l.dst) (-1)<0\/a+l.mins<aft.getD (pos l.dst) (-1)) then aft.set (pos l.dst) (a+l.mins) else aft).getD q (-1))=if aft.getD q (-1)<0\/a+l.mins<aft.getD q (-1) then a+l.mins else aft.getD q (-1):=by
      subst g
      by_cases hc:aft.getD (pos l.dst) (-1)<0\/a+l.mins<aft.getD (pos l.dst) (-1)
      ·rw [Ni ⟨f,hc⟩,Ni hc,Xq hp,Ni rfl]
      ·rw [Nh (fun h=>hc h.2),Nh hc]
     rw [e]
     refine (h.one k i).congr fun u=>⟨fun c=>c.elim .inl fun c=>.inr ⟨g,by omega,a,hn,c,by omega⟩,fun c=>c.elim .inl fun ⟨_,_,b,d,c,_⟩=>?_⟩
     rw [hn] at d;cases d;exact .inr c
    ·have e:((if a+l.mins<=lim/\(aft.getD (pos l.dst) (-1)<0\/a+l.mins<aft.getD (pos l.dst) (-1)) then aft.set (pos l.dst) (a+l.mins) else aft).getD q (-1))=aft.getD q (-1):=by
      split
      ·rw [Xq hp,Nh g]
      ·rfl
     rw [e]
     exact h.congr fun u=>⟨.inl,fun c=>c.elim id fun d=>absurd d.1 g⟩
   ·rw [Nh (fun h=>f h.1)]
    refine h.congr fun u=>⟨.inl,fun c=>c.elim id fun ⟨_,_,b,d,c,hl⟩=>?_⟩
    rw [hn] at d;cases d;omega
theorem Nha {pos:Int->Nat} {lim:Int} {bef:List Int} {q:Nat}:∀{L:List Leg} {aft:List Int} {S:Int->Prop},(∀l∈L,Fine l/\pos l.dst<aft.length)->(∀u,S u->0<=u)->Sv S (aft.getD q (-1))->
  Sv (fun u=>S u\/∃l∈L,Njk pos lim bef l q u) ((L.foldl (X7 pos lim bef) aft).getD q (-1))
 | [],aft,S,hL,h0,h=>h.congr fun u=>⟨.inl,fun hu=>hu.elim id fun ⟨l,hl,_⟩=>by cases hl⟩
 | l::L,aft,S,hL,h0,h=>by
   obtain ⟨h1,h2⟩:=hL l (No ..)
   rw [Oi]
   refine (Nha (L:=L) (fun x hx=>?_) (fun u hu=>?_) (Nw5 (lim:=lim) (bef:=bef) h1 h2 h0 h)).congr fun u=>?_
   ·rw [Nc9];exact hL x (Nk _ hx)
   ·rcases hu with hu | hu
    ·exact h0 u hu
    ·exact hu.nonneg h1
   ·constructor
    ·rintro ((h | h) | ⟨x,hx,h⟩)
     ·exact .inl h
     ·exact .inr ⟨l,No ..,h⟩
     ·exact .inr ⟨x,Nk _ hx,h⟩
    ·rintro (h | ⟨x,hx,h⟩)
     ·exact .inl (.inl h)
     ·rcases Np.1 hx with rfl | hx
      ·exact .inl (.inr h)
      ·exact .inr ⟨x,hx,h⟩
theorem Sv.dom {S T:Int->Prop} {v:Int} (h:Sv S v) (h1:∀u,S u->T u) (h2:∀u,T u->∃w,w<=u/\S w):Sv T v:=by
 rcases h with ⟨a,b⟩ | ⟨a,b⟩
 ·exact .inl ⟨a,fun u c=>by obtain ⟨w,_,d⟩:=h2 u c;exact b w d⟩
 ·exact .inr ⟨h1 _ a,fun u c=>by obtain ⟨w,e,d⟩:=h2 u c;have:=b w d;omega⟩
structure NetOk (N:Nat) (P:List Int) (L:List Leg) (pos:Int->Nat):Prop where
 fine:∀l∈L,Fine l
 frm:∀l∈L,l.frm∈P
 dst:∀l∈L,l.dst∈P
 inj:∀a∈P,∀b∈P,pos a=pos b->a=b
 lt:∀a∈P,pos a<N
def Zu (N i:Nat) (t:Int):List Int:=(List.replicate N (-1)).set i t
theorem Nd6 {N i:Nat} {t:Int}:(Zu N i t).length=N:=by simp [Zu]
theorem Nd7 {N i j:Nat} {t:Int} (hi:i<N):(Zu N i t).getD j (-1)=if i=j then t else -1:=by
 unfold Zu
 rw [Xq (by simpa using hi)]
 split
 ·rfl
 ·rw [Na,Pv];split<;>rfl
def RQ (N:Nat) (pos:Int->Nat) (lim:Int) (L:List Leg) (p ready:Int):Nat->List Int
 | 0=>Zu N (pos p) ready
 | k+1=>V5 pos lim L (RQ N pos lim L p ready k)
theorem U8 {N:Nat} {pos:Int->Nat} {lim:Int} {L:List Leg} {p ready:Int}:∀{k:Nat},(RQ N pos lim L p ready k).length=N
 | 0=>Nd6
 | k+1=>by rw [RQ,YY,U8]
theorem Xx {N:Nat} {P:List Int} {L:List Leg} {pos:Int->Nat} {lim p ready:Int} (hn:NetOk N P L pos) (hp:p∈P) (hr:0<=ready) (d:ready<=lim):∀(k:Nat) (q:Int),q∈P->
  Sv (fun u=>(∃j,j<=k/\Way L j p ready q u)/\u<=lim) ((RQ N pos lim L p ready k).getD (pos q) (-1))
 | 0,q,hq=>by
   rw [RQ,Nd7 (hn.lt p hp)]
   by_cases h:pos p=pos q
   ·rw [Ni h]
    have:=hn.inj p hp q hq h
    subst this
    refine .inr ⟨⟨⟨0,Nd _,.nil _ _⟩,d⟩,fun u ⟨⟨j,n,c⟩,_⟩=>c.later hn.fine⟩
   ·rw [Nh h]
    refine .inl ⟨rfl,fun u ⟨⟨j,n,c⟩,_⟩=>?_⟩
    obtain rfl:j=0:=by omega
    cases c
    exact h rfl
 | k+1,q,hq=>by
   have ih:=Xx hn hp hr d k
   have z:∀q u,((∃j,j<=k/\Way L j p ready q u)/\u<=lim)->0<=u:=fun q u ⟨⟨j,_,c⟩,_⟩=>by have:=c.later hn.fine;omega
   rw [RQ,V5]
   refine (Nha (L:=L) (fun l hl=>⟨hn.fine l hl,by rw [U8];exact hn.lt _ (hn.dst l hl)⟩) (z q) (ih q hq)).dom (fun u r=>?_) (fun u r=>?_)
   ·rcases r with ⟨⟨j,n,c⟩,hl⟩ | ⟨l,hl,hd,hs,a,A,rfl,e⟩
    ·exact ⟨⟨j,by omega,c⟩,hl⟩
    ·obtain ⟨⟨j,n,c⟩,i⟩:=(ih l.frm (hn.frm l hl)).mem hs
     obtain ⟨w,x,y⟩:=RO A
     have:=hn.inj _ (hn.dst l hl) q hq hd
     subst this
     exact ⟨⟨j+1,by omega,.snoc c hl rfl w x⟩,e⟩
   ·obtain ⟨⟨j,n,c⟩,v⟩:=r
    by_cases f:j<=k
    ·exact ⟨u,Oj _,.inl ⟨⟨j,f,c⟩,v⟩⟩
    ·cases c with
     | nil=>exact absurd (Nz _) f
     | @snoc j' p t m s a l c hl hf hd hs=>
       subst hf
       have o:=hn.fine l hl
       have i:s<=lim:=by unfold Fine at o;omega
       have hS:(∃j,j<=k/\Way L j p ready l.frm s)/\s<=lim:=⟨⟨j',by omega,c⟩,i⟩
       have B:=(ih l.frm (hn.frm l hl)).le hS
       have g:0<=(RQ N pos lim L p ready k).getD (pos l.frm) (-1):=by
        apply Oe;intro hc
        exact (ih l.frm (hn.frm l hl)).none (z _) (by omega) s hS
       cases hnx:RY l ((RQ N pos lim L p ready k).getD (pos l.frm) (-1)) with
       | none=>have:=Nd9 hnx a hd;omega
       | some b=>
         obtain ⟨w,x,y⟩:=RO hnx
         have:=y a hd (by omega)
         exact ⟨b+l.mins,by omega,.inr ⟨l,hl,rfl,g,b,hnx,rfl,by omega⟩⟩
theorem Nfg {N:Nat} {pos:Int->Nat} {lim:Int} {L:List Leg} {p ready:Int} {k:Nat} (h:RQ N pos lim L p ready (k+1)=RQ N pos lim L p ready k):∀j,RQ N pos lim L p ready (k+j)=RQ N pos lim L p ready k
 | 0=>rfl
 | j+1=>by rw [<-O9,RQ,Nfg h j];exact h
theorem Nfh {N:Nat} {P:List Int} {L:List Leg} {pos:Int->Nat} {lim p ready:Int} (hn:NetOk N P L pos) (hp:p∈P) (hr:0<=ready) (a:ready<=lim) {k:Nat} (h:RQ N pos lim L p ready (k+1)=RQ N pos lim L p ready k) (q:Int) (e:q∈P) :
  Sv (fun u=>(∃j,Way L j p ready q u)/\u<=lim) ((RQ N pos lim L p ready k).getD (pos q) (-1)):=by
 refine (Xx hn hp hr a k q e).dom (fun u ⟨⟨j,_,b⟩,hl⟩=>⟨⟨j,b⟩,hl⟩) (fun u ⟨⟨j,b⟩,hl⟩=>?_)
 have hm:=Xx hn hp hr a (k+j) q e
 rw [Nfg h] at hm
 have d:=hm.le ⟨⟨j,by omega,b⟩,hl⟩
 have hk:=Xx hn hp hr a k q e
 have g:∀u,((∃f,f<=k+j/\Way L f p ready q u)/\u<=lim)->0<=u:=fun u ⟨⟨j,_,b⟩,_⟩=>by have:=b.later hn.fine;omega
 have c:0<=(RQ N pos lim L p ready k).getD (pos q) (-1):=by
  apply Oe;intro hc
  exact hm.none g (by omega) u ⟨⟨j,by omega,b⟩,hl⟩
 exact ⟨_,d,hk.mem c⟩
def Npw (ready lim t:Int):Nat:=if t<0 then (lim-ready).toNat+1 else (t-ready).toNat
def muA (ready lim:Int) (T:List Int):Nat:=(T.map (Npw ready lim)).sum
def WW (ready lim:Int) (T:List Int):Prop:=∀t∈T,t=-1\/ready<=t/\t<=lim
theorem Nyx {ready lim:Int}:∀{T:List Int},WW ready lim T->muA ready lim T<=T.length*((lim-ready).toNat+1)
 | [],_=>by simp [muA]
 | t::T,h=>by
   have ih:=Nyx (T:=T) fun x a=>h x (Nk _ a)
   have h1:=h t (No ..)
   unfold muA at ih⊢
   simp only [Oc,List.sum_cons,Nl,Po]
   have:Npw ready lim t<=(lim-ready).toNat+1:=by unfold Npw;split<;>omega
   omega
theorem Nyw {f:Int->Nat}:∀{T:List Int} {i:Nat} {x:Int} (hi:i<T.length),((T.set i x).map f).sum+f (T.getD i (-1))=(T.map f).sum+f x
 | t::T,0,x,_=>by simp;omega
 | t::T,i+1,x,hi=>by
   have:=Nyw (f:=f) (T:=T) (i:=i) (x:=x) (by simpa using hi)
   simp only [Q1,Oc,List.sum_cons,List.getD_cons_succ]
   omega
theorem N2d {pos:Int->Nat} {ready lim:Int} {bef aft:List Int} {l:Leg} (g:WW ready lim bef) (b:WW ready lim aft) (hl:Fine l) (hd:pos l.dst<aft.length) (hr:0<=ready) :
  WW ready lim (X7 pos lim bef aft l)/\(X7 pos lim bef aft l=aft\/muA ready lim (X7 pos lim bef aft l)<muA ready lim aft):=by
 unfold X7
 by_cases hs:bef.getD (pos l.frm) (-1)<0
 ·rw [Ni hs];exact ⟨b,.inl rfl⟩
 rw [Nh hs]
 cases hn:RY l (bef.getD (pos l.frm) (-1)) with
 | none=>exact ⟨b,.inl rfl⟩
 | some a=>
   simp only []
   split
   case isFalse=>exact ⟨b,.inl rfl⟩
   rename_i hc
   obtain ⟨m,n,o⟩:=RO hn
   have i:ready<=bef.getD (pos l.frm) (-1):=by
    by_cases h:pos l.frm<bef.length
    ·have e:bef.getD (pos l.frm) (-1)=bef[pos l.frm]:=by rw [Na,Nf h];rfl
     have:=g _ (Qn h)
     rw [e] at hs⊢;omega
    ·rw [Na,Nw (by omega)] at hs;exact absurd (by decide) hs
   have c:=hl
   unfold Fine at c
   have j:ready<=a+l.mins/\a+l.mins<=lim:=⟨by omega,hc.1⟩
   have d:aft.getD (pos l.dst) (-1)=-1\/ready<=aft.getD (pos l.dst) (-1)/\aft.getD (pos l.dst) (-1)<=lim:=by
    have e:aft.getD (pos l.dst) (-1)=aft[pos l.dst]:=by rw [Na,Nf hd];rfl
    rw [e];exact b _ (Qn hd)
   refine ⟨fun t k=>?_,.inr ?_⟩
   ·rcases Q4 k with h | h
    ·exact b t h
    ·exact .inr (by omega)
   ·have:=Nyw (f:=Npw ready lim) (x:=a+l.mins) hd
    unfold muA
    have e1:Npw ready lim (a+l.mins)<Npw ready lim (aft.getD (pos l.dst) (-1)):=by
     unfold Npw
     rw [Nh (by omega)]
     split<;>omega
    omega
theorem Nl7 {pos:Int->Nat} {ready lim:Int} {bef:List Int} (a:WW ready lim bef) (hr:0<=ready):∀{L:List Leg} {aft:List Int},(∀l∈L,Fine l/\pos l.dst<aft.length)->WW ready lim aft->
  WW ready lim (L.foldl (X7 pos lim bef) aft)/\(L.foldl (X7 pos lim bef) aft=aft\/muA ready lim (L.foldl (X7 pos lim bef) aft)<muA ready lim aft)
 | [],aft,hL,ha=>⟨ha,.inl rfl⟩
 | l::L,aft,hL,ha=>by
   obtain ⟨h1,h2⟩:=hL l (No ..)
   obtain ⟨b,g2⟩:=N2d (l:=l) a ha h1 h2 hr
   obtain ⟨k1,k2⟩:=Nl7 a hr (L:=L) (aft:=X7 pos lim bef aft l) (fun x c=>by rw [Nc9];exact hL x (Nk _ c)) b
   rw [Oi]
   refine ⟨k1, ?_⟩
   rcases k2 with k2 | k2
   ·rw [k2];exact g2
   ·rcases g2 with g2 | g2
    ·rw [g2] at k2⊢;exact .inr k2
    ·exact .inr (by omega)
theorem Nj6 {pos:Int->Nat} {ready lim:Int} {bef:List Int} {L:List Leg} (a:WW ready lim bef) (hr:0<=ready) (hL:∀l∈L,Fine l/\pos l.dst<bef.length) :
  WW ready lim (V5 pos lim L bef)/\(V5 pos lim L bef=bef\/muA ready lim (V5 pos lim L bef)<muA ready lim bef):=Nl7 a hr hL a
def TN (L:List Leg) (p ready q v:Int):Prop:=Sv (fun u=>(∃j,Way L j p ready q u)/\u<=ready+86400) v
theorem TN.start {L:List Leg} {p ready v:Int} (h:TN L p ready p v) (hL:∀l∈L,Fine l):v=ready:=
 Sv.uniq h (.inr ⟨⟨⟨0,.nil _ _⟩,by omega⟩,fun u ⟨⟨j,a⟩,_⟩=>a.later hL⟩)
theorem TN.ge {L:List Leg} {p ready q v:Int} (h:TN L p ready q v) (hL:∀l∈L,Fine l) (a:0<=v):ready<=v/\v<=ready+86400:=by
 obtain ⟨⟨j,b⟩,hl⟩:=h.mem a
 exact ⟨b.later hL,hl⟩
theorem TN.later {L:List Leg} {p a b q x y:Int} (e:TN L p a q x) (h:TN L p b q y) (d:a<=b) (f:0<=y):x<=y:=by
 obtain ⟨⟨j,g⟩,hl⟩:=h.mem f
 by_cases c:y<=a+86400
 ·rcases g.early d with ⟨rfl,rfl,rfl⟩ | hw'
  ·have:=e.le (u:=a) ⟨⟨0,.nil _ _⟩,by omega⟩;omega
  ·exact e.le ⟨⟨j,hw'⟩,c⟩
 ·rcases e with ⟨h1,_⟩ | ⟨⟨_,h1⟩,_⟩<;>omega
theorem TN.same {L M:List Leg} {p t q x y:Int} (b:TN L p t q x) (c:TN M p t q y) (hs:∀l,l∈M↔l∈L):x=y:=
 b.uniq (c.congr fun u=>⟨fun ⟨⟨j,a⟩,hl⟩=>⟨⟨j,a.mono fun l h=>(hs l).1 h⟩,hl⟩,fun ⟨⟨j,a⟩,hl⟩=>⟨⟨j,a.mono fun l h=>(hs l).2 h⟩,hl⟩⟩)
def Tq (S:Int->Prop) (v:Int):Prop:=(v=-1/\∀u,¬S u)\/(S v/\∀u,S u->u<=v)
theorem Tq.uniq {S:Int->Prop} {v w:Int} (h:Tq S v) (h':Tq S w):v=w:=by
 rcases h with ⟨h1,h2⟩ | ⟨h1,h2⟩<;>rcases h' with ⟨a,b⟩ | ⟨a,b⟩
 ·omega
 ·exact absurd a (h2 _)
 ·exact absurd h1 (b _)
 ·have:=h2 _ a;have:=b _ h1;omega
theorem Tq.congr {S T:Int->Prop} {v:Int} (h:Tq S v) (e:∀u,S u↔T u):Tq T v:=by
 rcases h with ⟨h1,h2⟩ | ⟨h1,h2⟩
 ·exact .inl ⟨h1,fun u a=>h2 u ((e u).2 a)⟩
 ·exact .inr ⟨(e v).1 h1,fun u a=>h2 u ((e u).2 a)⟩
theorem Tq.mem {S:Int->Prop} {v:Int} (h:Tq S v) (a:0<=v):S v:=by
 rcases h with ⟨h1,h2⟩ | ⟨h1,h2⟩
 ·omega
 ·exact h1
theorem Tq.none {S:Int->Prop} {v:Int} (h:Tq S v) (a:∀u,S u->0<=u) (b:v<0):∀u,¬S u:=by
 rcases h with ⟨h1,h2⟩ | ⟨h1,h2⟩
 ·exact h2
 ·have:=a _ h1;omega
theorem Tq.ge {S:Int->Prop} {v u:Int} (h:Tq S v) (a:S u):u<=v:=by
 rcases h with ⟨h1,h2⟩ | ⟨h1,h2⟩
 ·exact absurd a (h2 _)
 ·exact h2 _ a
theorem Tq.one {S:Int->Prop} {v x:Int} (h:Tq S v) (a:∀u,S u->0<=u) (b:0<=x):Tq (fun u=>S u\/u=x) (if v<x then x else v):=by
 by_cases hc:v<x
 ·rw [Ni hc]
  refine .inr ⟨.inr rfl,fun u hu=>?_⟩
  rcases hu with hu | hu
  ·have:=h.ge hu;omega
  ·omega
 ·rw [Nh hc]
  have:=h.mem (by omega)
  refine .inr ⟨.inl this,fun u hu=>?_⟩
  rcases hu with hu | hu
  ·exact h.ge hu
  ·omega
theorem Tq.dom {S T:Int->Prop} {v:Int} (h:Tq S v) (h1:∀u,S u->T u) (h2:∀u,T u->∃w,u<=w/\S w):Tq T v:=by
 rcases h with ⟨a,b⟩ | ⟨a,b⟩
 ·exact .inl ⟨a,fun u c=>by obtain ⟨w,_,d⟩:=h2 u c;exact b w d⟩
 ·exact .inr ⟨h1 _ a,fun u c=>by obtain ⟨w,e,d⟩:=h2 u c;have:=b w d;omega⟩
def Njt (pos:Int->Nat) (low:Int) (bef aft:List Int) (l:Leg):List Int:=
 if bef.getD (pos l.dst) (-1)<0 then aft else
 match SQ l (bef.getD (pos l.dst) (-1)) with
 | some a=>if low<=a-l.cut/\aft.getD (pos l.frm) (-1)<a-l.cut then aft.set (pos l.frm) (a-l.cut) else aft
 | none=>aft
theorem Nw4 {pos:Int->Nat} {low:Int} {bef aft:List Int} {l:Leg}:(Njt pos low bef aft l).length=aft.length:=by
 unfold Njt
 split
 ·rfl
 ·split
  ·split
   ·simp
   ·rfl
  ·rfl
def Nr6 (pos:Int->Nat) (low:Int) (bef:List Int) (l:Leg) (q:Nat) (u:Int):Prop:=
 pos l.frm=q/\0<=bef.getD (pos l.dst) (-1)/\∃a,SQ l (bef.getD (pos l.dst) (-1))=some a/\u=a-l.cut/\low<=u
theorem Dep.ready {l:Leg} {a:Int} (h:Dep l a):0<=a-l.cut:=by
 obtain ⟨d,_,b,rfl⟩:=h
 unfold goes at b
 simp only [Ny,Oa] at b
 omega
theorem Nr6.nonneg {pos:Int->Nat} {low:Int} {bef:List Int} {l:Leg} {q:Nat} {u:Int} (h:Nr6 pos low bef l q u):0<=u:=by
 obtain ⟨_,_,a,h1,h2,_⟩:=h
 have:=(Tw h1).1.ready
 omega
theorem Nw3 {pos:Int->Nat} {low:Int} {bef aft:List Int} {l:Leg} {q:Nat} {S:Int->Prop} (hp:pos l.frm<aft.length) (k:∀u,S u->0<=u) (h:Tq S (aft.getD q (-1))) :
  Tq (fun u=>S u\/Nr6 pos low bef l q u) ((Njt pos low bef aft l).getD q (-1)):=by
 unfold Njt
 by_cases hs:bef.getD (pos l.dst) (-1)<0
 ·rw [Ni hs]
  exact h.congr fun u=>⟨.inl,fun c=>c.elim id fun d=>absurd d.2.1 (by omega)⟩
 rw [Nh hs]
 cases hn:SQ l (bef.getD (pos l.dst) (-1)) with
 | none=>
   simp only []
   exact h.congr fun u=>⟨.inl,fun c=>c.elim id fun ⟨_,_,a,j,_⟩=>by rw [hn] at j;cases j⟩
 | some a=>
   simp only []
   have i:0<=a-l.cut:=(Tw hn).1.ready
   by_cases f:low<=a-l.cut
   ·by_cases g:pos l.frm=q
    ·have e:((if low<=a-l.cut/\aft.getD (pos l.frm) (-1)<a-l.cut then aft.set (pos l.frm) (a-l.cut) else aft).getD q (-1))=if aft.getD q (-1)<a-l.cut then a-l.cut else aft.getD q (-1):=by
      subst g
      by_cases hc:aft.getD (pos l.frm) (-1)<a-l.cut
      ·rw [Ni ⟨f,hc⟩,Ni hc,Xq hp,Ni rfl]
      ·rw [Nh (fun h=>hc h.2),Nh hc]
     rw [e]
     refine (h.one k i).congr fun u=>⟨fun c=>c.elim .inl fun c=>.inr ⟨g,by omega,a,hn,c,by omega⟩,fun c=>c.elim .inl fun ⟨_,_,b,d,c,_⟩=>?_⟩
     rw [hn] at d;cases d;exact .inr c
    ·have e:((if low<=a-l.cut/\aft.getD (pos l.frm) (-1)<a-l.cut then aft.set (pos l.frm) (a-l.cut) else aft).getD q (-1))=aft.getD q (-1):=by
      split
      ·rw [Xq hp,Nh g]
      ·rfl
     rw [e]
     exact h.congr fun u=>⟨.inl,fun c=>c.elim id fun d=>absurd d.1 g⟩
   ·rw [Nh (fun h=>f h.1)]
    refine h.congr fun u=>⟨.inl,fun c=>c.elim id fun ⟨_,_,b,d,c,hl⟩=>?_⟩
    rw [hn] at d;cases d;omega
theorem Ng9 {pos:Int->Nat} {low:Int} {bef:List Int} {q:Nat}:∀{L:List Leg} {aft:List Int} {S:Int->Prop},(∀l∈L,pos l.frm<aft.length)->(∀u,S u->0<=u)->Tq S (aft.getD q (-1))->
  Tq (fun u=>S u\/∃l∈L,Nr6 pos low bef l q u) ((L.foldl (Njt pos low bef) aft).getD q (-1))
 | [],aft,S,hL,h0,h=>h.congr fun u=>⟨.inl,fun hu=>hu.elim id fun ⟨l,hl,_⟩=>by cases hl⟩
 | l::L,aft,S,hL,h0,h=>by
   rw [Oi]
   refine (Ng9 (L:=L) (fun x hx=>?_) (fun u hu=>?_) (Nw3 (low:=low) (bef:=bef) (hL l (No ..)) h0 h)).congr fun u=>?_
   ·rw [Nw4];exact hL x (Nk _ hx)
   ·rcases hu with hu | hu
    ·exact h0 u hu
    ·exact hu.nonneg
   ·constructor
    ·rintro ((h | h) | ⟨x,hx,h⟩)
     ·exact .inl h
     ·exact .inr ⟨l,No ..,h⟩
     ·exact .inr ⟨x,Nk _ hx,h⟩
    ·rintro (h | ⟨x,hx,h⟩)
     ·exact .inl (.inl h)
     ·rcases Np.1 hx with rfl | hx
      ·exact .inl (.inr h)
      ·exact .inr ⟨x,hx,h⟩
def ZL (L:List Leg) (q dl p v:Int):Prop:=Tq (fun u=>0<=u/\dl-86400<=u/\∃j v,v<=dl/\Way L j p u q v) v
theorem ZL.start {L:List Leg} {q dl v:Int} (h:ZL L q dl q v) (hL:∀l∈L,Fine l) (a:0<=dl):v=dl:=
 h.uniq (.inr ⟨⟨a,by omega,0,dl,Oj _,.nil _ _⟩,fun u ⟨_,_,j,v,c,b⟩=>by have:=b.later hL;omega⟩)
theorem ZL.range {L:List Leg} {q dl p v:Int} (h:ZL L q dl p v) (hL:∀l∈L,Fine l) (a:0<=v):dl-86400<=v/\v<=dl:=by
 obtain ⟨_,h1,j,u,c,b⟩:=h.mem a
 have:=b.later hL
 exact ⟨h1,by omega⟩
theorem ZL.later {L:List Leg} {p q a b x y:Int} (i:ZL L q a p x) (e:ZL L q b p y) (hL:∀l∈L,Fine l) (f:a<=b) (c:0<=x) (d:0<=y):x<=y:=by
 obtain ⟨h1,h2,j,v,k,g⟩:=i.mem c
 by_cases h:b-86400<=x
 ·exact e.ge ⟨h1,h,j,v,by omega,g⟩
 ·have:=(e.range hL d).1;omega
theorem ZL.same {L M:List Leg} {p q dl x y:Int} (e:ZL L q dl p x) (f:ZL M q dl p y) (hs:∀l,l∈M↔l∈L):x=y:=
 e.uniq (f.congr fun u=>⟨fun ⟨a,b,j,v,c,d⟩=>⟨a,b,j,v,c,d.mono fun l h=>(hs l).1 h⟩,fun ⟨a,b,j,v,c,d⟩=>⟨a,b,j,v,c,d.mono fun l h=>(hs l).2 h⟩⟩)
def Yn (pos:Int->Nat) (bef aft:List Int) (l:Leg):List Int:=
 if bef.getD (pos l.dst) (-1)<0 then aft else
 match SQ l (bef.getD (pos l.dst) (-1)) with
 | some a=>aft.set (pos l.frm) (if aft.getD (pos l.frm) (-1)<a-l.cut then a-l.cut else aft.getD (pos l.frm) (-1))
 | none=>aft
def stepX (N:Nat) (pos:Int->Nat) (L:List Leg) (bef:List Int):List Int:=L.foldl (Yn pos bef) (List.replicate N (-1))
theorem Nse {pos:Int->Nat} {bef aft:List Int} {l:Leg}:Yn pos bef aft l=Njt pos 0 bef aft l:=by
 unfold Yn Njt
 split
 ·rfl
 cases ha:SQ l (bef.getD (pos l.dst) (-1)) with
 | none=>rfl
 | some a=>
   have:=(Tw ha).1.ready
   by_cases h:aft.getD (pos l.frm) (-1)<a-l.cut
   ·simp only [h,this,and_self,if_true]
   ·simp only [h,and_false,if_false]
    apply List.ext_getElem?
    intro i
    rw [N3]
    split
    ·rename_i e;subst e
     split
     ·rename_i hl;rw [Na,Nf hl];rfl
     ·rename_i hl;rw [Nw (by omega)]
    ·rfl
def MS (N:Nat) (pos:Int->Nat) (L:List Leg) (q dl:Int):Nat->List Int
 | 0=>Zu N (pos q) dl
 | k+1=>stepX N pos L (MS N pos L q dl k)
theorem N56 {pos:Int->Nat} {bef:List Int}:∀{L:List Leg} {aft:List Int},L.foldl (Yn pos bef) aft=L.foldl (Njt pos 0 bef) aft
 | [],_=>rfl
 | l::L,aft=>by rw [Oi,Oi,Nse,N56]
theorem Neu {N:Nat} {P:List Int} {L:List Leg} {pos:Int->Nat} {q dl:Int} (hn:NetOk N P L pos) (m:q∈P) (hr:0<=dl):∀(k:Nat) (p:Int),p∈P->
  Tq (fun u=>0<=u/\∃v,v<=dl/\Way L k p u q v) ((MS N pos L q dl k).getD (pos p) (-1))
 | 0,p,hp=>by
   rw [MS,Nd7 (hn.lt q m)]
   by_cases h:pos q=pos p
   ·rw [Ni h]
    have:=hn.inj q m p hp h
    subst this
    exact .inr ⟨⟨hr,dl,Oj _,.nil _ _⟩,fun u ⟨_,v,i,c⟩=>by have:=c.later hn.fine;omega⟩
   ·rw [Nh h]
    refine .inl ⟨rfl,fun u ⟨_,v,i,c⟩=>?_⟩
    cases c
    exact h rfl
 | k+1,p,hp=>by
   have ih:=Neu hn m hr k
   rw [MS,stepX,N56]
   have f:(List.replicate N (-1:Int)).getD (pos p) (-1)=-1:=by
    rw [Na,Pv];split<;>rfl
   refine (Ng9 (L:=L) (S:=fun _=>False) (fun l hl=>by rw [Om];exact hn.lt _ (hn.frm l hl)) (fun _ h=>h.elim) (.inl ⟨f,fun _ h=>h⟩)).dom (fun u g=>?_) (fun u g=>?_)
   ·rcases g with g | ⟨l,hl,hd,hs,a,r,rfl,j⟩
    ·exact g.elim
    ·obtain ⟨_,v,i,c⟩:=(ih l.dst (hn.dst l hl)).mem hs
     obtain ⟨o,s,A⟩:=Tw r
     have:=hn.inj _ (hn.frm l hl) p hp hd
     subst this
     have t:∃v',v'<=dl/\Way L k l.dst (a+l.mins) q v':=by
      rcases c.early s with ⟨rfl,e1,e2⟩ | hw'
      ·rw [e1];exact ⟨a+l.mins,by omega,.nil _ _⟩
      ·exact ⟨v,i,hw'⟩
     obtain ⟨v',n,hw'⟩:=t
     exact ⟨o.ready,v',n,.cons hl rfl o (Oj _) hw'⟩
   ·obtain ⟨z,v,i,c⟩:=g
    obtain ⟨l,hl,a,w,hd,r,hw'⟩:=c.head
    subst w
    have d:=hn.fine l hl
    have y:=hd.ready
    have x:=(ih l.dst (hn.dst l hl)).ge (u:=a+l.mins) ⟨by unfold Fine at d;omega,v,i,hw'⟩
    have e:0<=(MS N pos L q dl k).getD (pos l.dst) (-1):=by unfold Fine at d;omega
    cases hnx:SQ l ((MS N pos L q dl k).getD (pos l.dst) (-1)) with
    | none=>have:=Nef hnx a hd;omega
    | some b=>
      obtain ⟨q1,q2,q3⟩:=Tw hnx
      have:=q3 a hd (by omega)
      exact ⟨b-l.cut,by omega,.inr ⟨l,hl,rfl,e,b,hnx,rfl,by omega⟩⟩
def RF (L:List Leg):Int->Int->List (Leg×Int)->Int->Int->Prop
 | p,t,[],q,u=>p=q/\t=u
 | p,t,(l,a)::w,q,u=>l∈L/\l.frm=p/\Dep l a/\t<=a-l.cut/\RF L l.dst (a+l.mins) w q u
theorem RF.way {L:List Leg}:∀{w:List (Leg×Int)} {p t q u:Int},RF L p t w q u->Way L w.length p t q u
 | [],p,t,q,u,h=>by obtain ⟨rfl,rfl⟩:=h;exact .nil _ _
 | (l,a)::w,p,t,q,u,h=>by
   obtain ⟨h1,h2,b,c,h5⟩:=h
   exact .cons h1 h2 b c h5.way
theorem Way.isWay {L:List Leg}:∀{k:Nat} {p t q u:Int},Way L k p t q u->∃w,w.length=k/\RF L p t w q u
 | 0,p,t,q,u,h=>by cases h;exact ⟨[],rfl,rfl,rfl⟩
 | k+1,p,t,q,u,h=>by
   obtain ⟨l,hl,a,d,hd,c,b⟩:=h.head
   obtain ⟨w,e,b⟩:=b.isWay
   exact ⟨(l,a)::w,by simp [e],hl,d,hd,c,b⟩
def Ti (pos:Int->Nat) (late:List Int) (plant there:Int) (l:Leg):Option (Leg×Int):=
 if l.frm=plant then match RY l there with
  | some a=>if a+l.mins<=late.getD (pos l.dst) (-1) then some (l,a) else none
  | none=>none
 else none
def Yf (pos:Int->Nat) (S:List Leg) (late:List Int) (plant there:Int):Option (Leg×Int):=S.findSome? (Ti pos late plant there)
def goW (pos:Int->Nat) (S:List Leg) (late:Nat->List Int):Nat->Int->Int->List (Leg×Int)
 | 0,_,_=>[]
 | k+1,p,t=>match Yf pos S (late k) p t with
   | some (l,a)=>(l,a)::goW pos S late k l.dst (a+l.mins)
   | none=>goW pos S late k p t
def Nlp:List Int->List Int->Prop
 | x::a,y::b=>x<y\/x=y/\Nlp a b
 | _,_=>False
def Zw (w:List (Leg×Int)):List Int:=w.map fun x=>x.1.id
theorem Y1 {pos:Int->Nat} {late:List Int} {p t:Int} {l:Leg} {r:Leg×Int} (h:Ti pos late p t l=some r):l.frm=p/\r.1=l/\RY l t=some r.2/\r.2+l.mins<=late.getD (pos l.dst) (-1):=by
 unfold Ti at h
 split at h
 case isFalse=>cases h
 rename_i c
 split at h
 case h_2=>cases h
 rename_i a b
 split at h
 case isFalse=>cases h
 rename_i hl
 cases h
 exact ⟨c,rfl,b,hl⟩
theorem Nl4 {N:Nat} {P:List Int} {L S:List Leg} {pos:Int->Nat} {q dl:Int} {late:Nat->List Int} (hn:NetOk N P L pos) (U:q∈P) (hr:0<=dl)
  (hS:∀l,l∈S↔l∈L) (hs:S.Pairwise fun a b=>a.id<b.id) (c:∀k,late k=MS N pos L q dl k):∀(k:Nat) (p t:Int),p∈P->0<=t->(∃v,v<=dl/\Way L k p t q v)->
  (goW pos S late k p t).length=k/\(∃v,v<=dl/\RF L p t (goW pos S late k p t) q v)/\
   ∀w' j v',t<=j->RF L p j w' q v'->v'<=dl->w'.length=k->¬Nlp (Zw w') (Zw (goW pos S late k p t))
 | 0,p,t,hp,ht,⟨v,F,H⟩=>by
   cases H
   exact ⟨rfl,⟨_,F,rfl,rfl⟩,fun w' j v' _ _ _ hl=>by cases w' with | nil=>exact fun h=>h | cons=>simp at hl⟩
 | k+1,p,t,hp,ht,⟨v,F,H⟩=>by
   have can:∀l∈L,∀a j v:Int,l.frm=p->Dep l a->t<=j->j<=a-l.cut->Way L k l.dst (a+l.mins) q v->v<=dl->∃b,Ti pos (late k) p t l=some (l,b)/\b<=a:=by
    intro l hl a j v hf hd E ha H F
    have f:=hn.fine l hl
    have ad:=hd.ready
    have ac:=(Neu hn U hr k l.dst (hn.dst l hl)).ge (u:=a+l.mins) ⟨by unfold Fine at f;omega,v,F,H⟩
    cases I:RY l t with
    | none=>have:=Nd9 I a hd;omega
    | some b=>
      obtain ⟨q1,q2,q3⟩:=RO I
      have:=q3 a hd (by omega)
      refine ⟨b, ?_,this⟩
      simp only [Ti,hf,if_true,I,c]
      rw [Ni (by omega)]
   obtain ⟨Z,B,a0,O,M,K,X⟩:=H.head
   obtain ⟨b0,A,_⟩:=can Z B a0 t v O M (Oj _) K X F
   have T:Yf pos S (late k) p t≠none:=by
    intro e
    unfold Yf at e
    rw [List.findSome?_eq_none_iff] at e
    rw [e Z ((hS Z).2 B)] at A;cases A
   cases hp1:Yf pos S (late k) p t with
   | none=>exact absurd hp1 T
   | some r=>
     obtain ⟨l,a⟩:=r
     have D:=hp1
     unfold Yf at D
     obtain ⟨S1,x,S2,w,I,o⟩:=List.findSome?_eq_some_iff.1 D
     obtain ⟨g1,g2,g3,J⟩:=Y1 I
     simp only at g2 g3 J
     subst g2
     have g:l∈L:=(hS l).1 (by rw [w];simp)
     have f:=hn.fine l g
     obtain ⟨q1,q2,q3⟩:=RO g3
     rw [c] at J
     have ae:=q1.ready
     obtain ⟨_,v1,V,Y⟩:=(Neu hn U hr k l.dst (hn.dst l g)).mem (by unfold Fine at f;omega)
     have s:∃v,v<=dl/\Way L k l.dst (a+l.mins) q v:=by
      rcases Y.early J with ⟨rfl,e1,e2⟩ | hw'
      ·rw [e1];exact ⟨a+l.mins,by omega,.nil _ _⟩
      ·exact ⟨v1,V,hw'⟩
     obtain ⟨i1,⟨v2,W,i2⟩,i3⟩:=Nl4 hn U hr hS hs c k l.dst (a+l.mins) (hn.dst l g) (by unfold Fine at f;omega) s
     have Q:goW pos S late (k+1) p t=(l,a)::goW pos S late k l.dst (a+l.mins):=by simp only [goW,hp1]
     rw [Q]
     refine ⟨by simp [i1],⟨v2,W,g,g1,q1,q2,i2⟩,fun w' j v' E hw' G m=>?_⟩
     cases w' with
     | nil=>simp at m
     | cons y w'=>
       obtain ⟨i,a'⟩:=y
       obtain ⟨h1,h2,h3,h4,h5⟩:=hw'
       have d:w'.length=k:=by simpa using m
       obtain ⟨b',z,aa⟩:=can i h1 a' j v' h2 h3 E h4 (d▸h5.way) G
       intro n
       simp only [Zw,Oc,Nlp] at n
       have hin:i∈S:=(hS i).2 h1
       rw [w] at hin hs
       rcases n with C | ⟨ab,C⟩
       ·
        rcases Ol.1 hin with hin | hin
        ·rw [o i hin] at z;cases z
        ·rcases Np.1 hin with rfl | hin
         ·omega
         ·have:=(List.pairwise_cons.1 (Qj.1 hs).2.1).1 i hin;omega
       ·have R:i=l:=by
         rcases Ol.1 hin with hin | hin
         ·have:=(Qj.1 hs).2.2 i hin l (by simp);omega
         ·rcases Np.1 hin with h | hin
          ·exact h
          ·have:=(List.pairwise_cons.1 (Qj.1 hs).2.1).1 i hin;omega
        subst R
        have:=q3 a' h3 (by omega)
        exact i3 w' (a'+i.mins) v' (by omega) h5 G d C
theorem RF.later {L:List Leg} {w:List (Leg×Int)} {p t q u:Int} (h:RF L p t w q u) (hL:∀l∈L,Fine l):t<=u:=h.way.later hL
theorem RF.from {L:List Leg} (hL:∀l∈L,Fine l):∀{w:List (Leg×Int)} {p t q u m:Int},RF L p t w q u->m∈w.map (fun x=>x.1.dst)->∃k s,k<w.length/\t<=s/\Way L k m s q u
 | [],_,_,_,_,_,_,h=>by simp at h
 | (l,a)::w,p,t,q,u,m,h,hm=>by
   obtain ⟨h1,h2,f,g,h5⟩:=h
   have b:=hL l h1
   unfold Fine at b
   rw [Oc,Np] at hm
   rcases hm with rfl | hm
   ·exact ⟨w.length,a+l.mins,by simp,by omega,h5.way⟩
   ·obtain ⟨k,s,d,e,c⟩:=RF.from hL h5 hm
    exact ⟨k,s,by simp;omega,by omega,c⟩
theorem RF.nodup {L:List Leg} (hL:∀l∈L,Fine l):∀{w:List (Leg×Int)} {p t q v:Int},RF L p t w q v->(∀j v',Way L j p t q v'->v'<=v->w.length<=j)->(p::w.map (fun x=>x.1.dst)).Nodup
 | [],_,_,_,_,_,_=>by simp
 | (l,a)::w,p,t,q,v,h,hmin=>by
   rw [List.nodup_cons]
   constructor
   ·intro hm
    obtain ⟨k,s,i,b,c⟩:=RF.from hL h hm
    rcases c.early b with ⟨rfl,rfl,e⟩ | hw
    ·have:=hmin 0 t (.nil _ _) (by omega);simp at this
    ·have:=hmin k v hw (Oj _);omega
   ·obtain ⟨h1,h2,d,f,h5⟩:=h
    rw [Oc]
    exact h5.nodup hL fun j v' hw g=>by
     have:=hmin (j+1) v' (.cons h1 h2 d f hw) g
     simpa using this
theorem RF.uniq {L:List Leg}:∀{w:List (Leg×Int)} {p t q u b c:Int},RF L p t w q u->RF L p t w b c->q=b/\u=c
 | [],_,_,_,_,_,_,h,h'=>⟨h.1.symm.trans h'.1,h.2.symm.trans h'.2⟩
 | (l,a)::w,_,_,_,_,_,_,h,h'=>h.2.2.2.2.uniq h'.2.2.2.2
end Go.Net


namespace Go.Scan
def N97 (a b:Ev):Prop:=S9 (Tx a) (Tx b)<0
instance (a b:Ev):Decidable (N97 a b):=by unfold N97;infer_instance
def bare (e:Ev):Ev:={ e with time:=0 }
theorem Nq4 {M:List Mk} {s:Ev} (h:Sb s):0<=V4 M s/\V4 M s<=s.seen:=by
 unfold Sb at h;unfold V4;omega
theorem Nb7 (M:List Mk) (S:List Ev):((Sj M S).map bare).Perm (S.map bare):=by
 have h:=(Tu Tx (S.map fun s=>{ s with time:=V4 M s })).map bare
 rw [List.map_map] at h
 exact h
theorem Nsr (S:List Ev):(((OO S).1++(OO S).2).map bare).Perm (S.map bare):=by
 unfold OO
 have h:=Yv (Sj (Ro S) S) [] []
 rw [Nb,Ok] at h
 exact (h.map bare).trans (Nb7 _ S)
theorem Nkb (S:List Ev):(OO S).1.length+(OO S).2.length=S.length:=by
 have:=(Nsr S).length_eq
 simpa using this
theorem Mw (S:List Ev):(OO S).1.Sublist (Sj (Ro S) S)/\(OO S).2.Sublist (Sj (Ro S) S):=by
 obtain ⟨K,T,h1,h2,a⟩:=ZQ (Sj (Ro S) S) [] []
 unfold OO
 rw [h1]
 exact ⟨by simpa using h2,by simpa using a⟩
theorem Nka (S:List Ev):Njf (OO S).1/\Njf (OO S).2:=by
 have h:=Nd2 (Nf6 (Ro S) S)
 exact ⟨h.sublist (Mw S).1,h.sublist (Mw S).2⟩
theorem Ndl {S:List Ev} {x:Ev} (h:x∈(OO S).1\/x∈(OO S).2):∃s∈S,{ s with time:=V4 (Ro S) s }=x:=by
 rcases h with h | h
 ·exact Mc.mp ((Mw S).1.mem h)
 ·exact Mc.mp ((Mw S).2.mem h)
theorem Ngk {S:List Ev} (hS:∀s∈S,Sb s) {x:Ev} (h:x∈(OO S).1\/x∈(OO S).2):0<=x.time/\x.time<=x.seen:=by
 obtain ⟨s,hs,rfl⟩:=Ndl h
 exact Nq4 (hS s hs)
theorem Ny4 {S:List Ev} {m:Mk} (h:m∈Ro S):∃s∈S,s.scanner=m.scanner/\s.at'=m.at'/\s.seen-s.at'=m.off:=by
 obtain ⟨s,hs,rfl,_⟩:=Njr.mp (Nb6 h)
 exact ⟨s,hs,rfl,rfl,rfl⟩
theorem Npx (M:List Mk) (S:List Ev):(Sj M S).length=S.length:=by
 have:=(Nb7 M S).length_eq
 simpa using this
end Go.Scan


namespace Go.Net
def YT:Int->List (Leg×Int)->Prop
 | _,[]=>True
 | t,(l,a)::w=>RY l t=some a/\YT (a+l.mins) w
structure BestW (L:List Leg) (p ready q v:Int) (w:List (Leg×Int)):Prop where
 way:RF L p ready w q v
 few:∀j v',Way L j p ready q v'->v'<=v->w.length<=j
 least:∀w' v',RF L p ready w' q v'->v'<=v->w'.length=w.length->¬Nlp (Zw w') (Zw w)
 next:YT ready w
theorem Na8 {pos:Int->Nat} {S:List Leg} {late:Nat->List Int}:∀(k:Nat) (p t:Int),YT t (goW pos S late k p t)
 | 0,_,_=>trivial
 | k+1,p,t=>by
   simp only [goW]
   cases hp:Yf pos S (late k) p t with
   | none=>exact Na8 k p t
   | some r=>
     obtain ⟨l,a⟩:=r
     unfold Yf at hp
     obtain ⟨g,x,h,e,f,b⟩:=List.findSome?_eq_some_iff.1 hp
     obtain ⟨i,c,d,j⟩:=Y1 f
     simp only at c d
     subst c
     exact ⟨d,Na8 k l.dst (a+l.mins)⟩
theorem Nl9 {f:Nat->Int} {v:Int}:∀{n:Nat},f n=v->∃k,k<=n/\f k=v/\∀j,j<k->f j≠v
 | 0,h=>⟨0,Nd _,h,fun j a=>by omega⟩
 | n+1,h=>by
   by_cases h1:∃m,m<=n/\f m=v
   ·obtain ⟨m,hm,h2⟩:=h1
    obtain ⟨k,k1,k2,k3⟩:=Nl9 (n:=m) h2
    exact ⟨k,by omega,k2,k3⟩
   ·exact ⟨n+1,Nd _,h,fun j a e=>h1 ⟨j,by omega,e⟩⟩
termination_by n=>n
theorem Nec:∀{a b:List Int},a.length=b.length->¬Nlp a b->¬Nlp b a->a=b
 | [],[],_,_,_=>rfl
 | [],_::_,h,_,_=>by simp at h
 | _::_,[],h,_,_=>by simp at h
 | x::a,y::b,h,h1,h2=>by
   simp only [Nlp,not_or,not_and] at h1 h2
   have e:x=y:=by omega
   subst e
   rw [Nec (by simpa using h) (h1.2 rfl) (h2.2 rfl)]
theorem Nkf {L:List Leg} (c:∀a∈L,∀b∈L,a.id=b.id->a=b):∀{w w':List (Leg×Int)} {p q u f t d g i:Int},RF L p t w q u->RF L f d w' g i->t=d->YT t w->YT d w'->Zw w=Zw w'->w=w'
 | [],[],_,_,_,_,_,_,_,_,_,_,_,_,_,_=>rfl
 | [],_::_,_,_,_,_,_,_,_,_,_,_,_,_,_,h=>by simp [Zw] at h
 | _::_,[],_,_,_,_,_,_,_,_,_,_,_,_,_,h=>by simp [Zw] at h
 | (l,a)::w,(l',a')::w',p,q,u,f,t,d,g,i,h,h',e,n,n',hi=>by
   subst e
   simp only [Zw,Oc,List.cons.injEq] at hi
   have:=c l h.1 l' h'.1 hi.1
   subst this
   have j:=n.1.symm.trans n'.1
   cases j
   rw [Nkf c h.2.2.2.2 h'.2.2.2.2 rfl n.2 n'.2 hi.2]
theorem BestW.uniq {L M:List Leg} {p t q v:Int} {w w':List (Leg×Int)} (hs:∀l,l∈M↔l∈L) (f:∀a∈L,∀b∈L,a.id=b.id->a=b) (h:BestW L p t q v w) (h':BestW M p t q v w'):w=w':=by
 have mono:∀{A B:List Leg},(∀l∈A,l∈B)->∀{w:List (Leg×Int)} {p t q u:Int},RF A p t w q u->RF B p t w q u:=by
  intro A B d w
  induction w with
  | nil=>intro p t q u h;exact h
  | cons x w ih=>intro p t q u h;exact ⟨d _ h.1,h.2.1,h.2.2.1,h.2.2.2.1,ih h.2.2.2.2⟩
 have c:RF L p t w' q v:=mono (fun l hl=>(hs l).1 hl) h'.way
 have g:RF M p t w q v:=mono (fun l hl=>(hs l).2 hl) h.way
 have i:=h.few _ _ c.way (Oj _)
 have j:=h'.few _ _ g.way (Oj _)
 have hl:w.length=w'.length:=by omega
 have e:Zw w=Zw w':=Nec (by simp [Zw,hl]) (h'.least _ _ g (Oj _) hl) (h.least _ _ c (Oj _) hl.symm)
 exact Nkf f h.way c rfl h.next h'.next e
theorem N0f {N:Nat} {P:List Int} {L S:List Leg} {pos:Int->Nat} {p q ready v:Int} {late:Nat->List Int} {k:Nat} (hn:NetOk N P L pos) (hp:p∈P) (o:q∈P) (hr:0<=ready) (g:0<=v)
  (hS:∀l,l∈S↔l∈L) (hs:S.Pairwise fun a b=>a.id<b.id) (f:∀k,late k=MS N pos L q v k) (r:TN L p ready q v)
  (hk:(RQ N pos (ready+86400) L p ready k).getD (pos q) (-1)=v) (n:∀j,j<k->(RQ N pos (ready+86400) L p ready j).getD (pos q) (-1)≠v) :
  BestW L p ready q v (goW pos S late k p ready)/\(goW pos S late k p ready).length=k:=by
 obtain ⟨_,A⟩:=r.mem g
 have few:∀j v',Way L j p ready q v'->v'<=v->k<=j:=by
  intro j v' d c
  apply Oe;intro hc
  have hm:=Xx hn hp hr (by omega:ready<=ready+86400) j q o
  have h1:=hm.le (u:=v') ⟨⟨j,Nd _,d⟩,by omega⟩
  have h2:0<=(RQ N pos (ready+86400) L p ready j).getD (pos q) (-1):=by
   apply Oe;intro z
   exact hm.none (fun u ⟨⟨i,_,d⟩,_⟩=>by have:=d.later hn.fine;omega) (by omega) v' ⟨⟨j,Nd _,d⟩,by omega⟩
  obtain ⟨⟨i,hi,t⟩,m⟩:=hm.mem h2
  have C:=r.le (u:=(RQ N pos (ready+86400) L p ready j).getD (pos q) (-1)) ⟨⟨i,t⟩,m⟩
  exact n j (by omega) (by omega)
 have hm:=Xx hn hp hr (by omega:ready<=ready+86400) k q o
 rw [hk] at hm
 obtain ⟨⟨i,hi,d⟩,_⟩:=hm.mem g
 have h:i=k:=by have:=few i v d (Oj _);omega
 subst h
 obtain ⟨w,⟨v',B,x⟩,y⟩:=Nl4 hn o g hS hs f i p ready hp hr ⟨v,Oj _,d⟩
 have e:v'=v:=by
  have:=r.le (u:=v') ⟨⟨_,x.way⟩,by omega⟩
  omega
 subst e
 exact ⟨⟨x,fun j v' d c=>by rw [w];exact few j v' d c,fun w' v' s c hl=>y w' ready v' (Oj _) s c (by omega),Na8 _ _ _⟩,w⟩
theorem RF.sub {L M:List Leg}:∀{w:List (Leg×Int)} {p t q u:Int},RF L p t w q u->(∀x∈w,x.1∈M)->RF M p t w q u
 | [],_,_,_,_,h,_=>h
 | (l,a)::w,_,_,_,_,h,hm=>⟨hm (l,a) (No ..),h.2.1,h.2.2.1,h.2.2.2.1,h.2.2.2.2.sub fun x b=>hm x (Nk _ b)⟩
theorem RF.mem {L:List Leg}:∀{w:List (Leg×Int)} {p t q u:Int},RF L p t w q u->∀x∈w,x.1∈L
 | (l,a)::w,_,_,_,_,h,x,hx=>by
   rcases Np.1 hx with rfl | hx
   ·exact h.1
   ·exact h.2.2.2.2.mem x hx
theorem TN.nonneg {L:List Leg} {p t q u v:Int} {j:Nat} (h:TN L p t q v) (hL:∀l∈L,Fine l) (c:0<=t) (a:Way L j p t q u) (b:u<=t+86400):0<=v:=by
 apply Oe;intro hc
 exact h.none (fun u ⟨⟨j,a⟩,_⟩=>by have:=a.later hL;omega) (by omega) u ⟨⟨j,a⟩,b⟩
end Go.Net


