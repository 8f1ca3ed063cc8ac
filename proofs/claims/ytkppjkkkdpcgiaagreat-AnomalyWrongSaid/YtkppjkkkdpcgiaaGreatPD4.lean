/-
  Joined texts, 4 of 9. A part of the claim that the last text states.
-/
import Derived.Test.YtkppjkkkdpcgiaaGreatPD3
set_option linter.unusedVariables false
set_option linter.unusedSimpArgs false
set_option linter.defProp false
set_option linter.unusedSectionVars false
set_option maxRecDepth 100000
set_option maxHeartbeats 4000000
namespace Go.AM
section
variable {G G' K:NE} {R:Nat} {b:Blk}
structure Mut (G G':NE) (R:Nat):Prop where
 len:G'.length=G.length
 other:∀j,j≠R->NH G' j=NH G j
theorem Mut.ext {H:NE} (h:Mut G G' R) (a:OI H G) (b:H.length<=R):OI H G':=by
 obtain ⟨Y,rfl⟩:=a
 refine ⟨G'.drop H.length, ?_⟩
 apply Pj
 ·have:=h.len;simp at this⊢;omega
 intro i h1 h2
 have hl:=h.len
 simp at hl
 by_cases hi:i<H.length
 ·rw [Qq hi]
  have:=h.other i (by omega)
  unfold NH at this
  rw [Na,Na,Nf h1,Nf (by simp;omega)] at this
  simp only [O6] at this
  rw [this,Qq hi]
 ·rw [Q6 (by omega),List.getElem_drop]
  congr 1
  omega
theorem Mut.cells (h:Mut G G' R) {j:Nat} {ro:Bool} {c:List Value} (b:NH G j=.cells ro c) (a:j≠R):NH G' j=.cells ro c:=by rw [h.other j a];exact b
theorem Mut.alive (h:Mut G G' R) {j:Nat} {B:Blk} (b:NH G j=B) (a:j≠R):NH G' j=B:=by rw [h.other j a];exact b
theorem Mut.sl {α:Type} {enc:α->List Value} {e:Nat} {p:Option Addr} {l:List α} (h:Mut G G' R) (hs:Sl G enc e p l) (hp:∀a,p=some a->l≠[]->a.block≠R):Sl G' enc e p l:=by
 cases p with
 | none=>exact hs
 | some a=>
   refine ⟨hs.1,fun hn=>?_⟩
   obtain ⟨ro,c,h2,b⟩:=hs.2 hn
   exact ⟨ro,c,h.cells h2 (hp a rfl hn),b⟩
theorem Nha (h:G'.length=G.length):(G'.length=G.length)/\(∀(X:NE) (j:Nat),NH (G'++X) (G.length+j)=X.getD j .dead)/\(∀X:NE,NH (G'++X) G.length=X.getD 0 .dead)/\
  (∀(X:NE) (j:Nat) b,(G'++X).set (G.length+j) b=G'++X.set j b)/\(∀(X:NE) b,(G'++X).set G.length b=G'++X.set 0 b):=by
 refine ⟨h,fun X j=>by rw [<-h];exact NW,fun X=>by rw [<-h];exact NS,fun X j b=>?_,fun X b=>?_⟩
 ·rw [<-h,Qd _ _ (by omega)];simp
 ·rw [<-h,Qd _ _ (by omega)];simp
theorem OP (a:R<G.length) (b:Blk):∃G',(∀X:NE,(G++X).set R b=G'++X)/\NH G' R=b/\Mut G G' R:=
 ⟨G.set R b,fun X=>Qh _ _ a,Vu a,by simp,fun j c=>QL c⟩
end
def Own {α:Type} (lim:Nat) (G:NE) (enc:α->List Value) (e:Nat) (p:Option Addr) (cap:Nat) (l:List α):Prop:=
 (l=[]/\p=none/\cap=0)\/∃R,p=some ⟨R,0,none⟩/\cap=loose e/\NH G R=.cells false (l.flatMap enc)/\lim<=R
section
variable {α:Type} {lim e bytes cap:Nat} {G:NE} {enc:α->List Value} {p:Option Addr} {l m:List α}
theorem Own.nil:Own lim G enc e none 0 []:=.inl ⟨rfl,rfl,rfl⟩
theorem Own.app (h:Own lim G enc e p cap l) (X:NE):Own lim (G++X) enc e p cap l:=by
 rcases h with h | ⟨R,h1,h2,a,b⟩
 ·exact .inl h
 ·exact .inr ⟨R,h1,h2,by rw [NN (NM a)];exact a,b⟩
theorem Own.mut {G':NE} {R:Nat} (h:Own lim G enc e p cap l) (hm:Mut G G' R) (hp:∀a,p=some a->a.block≠R):Own lim G' enc e p cap l:=by
 rcases h with h | ⟨b,h1,h2,c,d⟩
 ·exact .inl h
 ·exact .inr ⟨b,h1,h2,hm.cells c (hp _ h1),d⟩
theorem Own.new {R:Nat} (a:NH G R=.cells false (l.flatMap enc)) (hl:lim<=R):Own lim G enc e (some ⟨R,0,none⟩) (loose e) l:=.inr ⟨R,rfl,rfl,a,hl⟩
theorem Own.sl (h:Own lim G enc e p cap l) (he:∀x,(enc x).length=e):Sl G enc e p l:=by
 rcases h with ⟨h1,h2,_⟩ | ⟨R,h1,h2,a,b⟩
 ·subst h1 h2;rfl
 ·subst h1;exact Sl.lit he (by rw [a];rfl) (by rw [a];rfl)
theorem Own.le (h:Own lim G enc e p cap l) {lim':Nat} (hl:lim'<=lim):Own lim' G enc e p cap l:=by
 rcases h with h | ⟨R,h1,h2,a,b⟩
 ·exact .inl h
 ·exact .inr ⟨R,h1,h2,a,by omega⟩
theorem Own.block (h:Own lim G enc e p cap l) {a:Addr} (b:p=some a):lim<=a.block/\a.block<G.length:=by
 rcases h with ⟨h1,h2,c⟩ | ⟨R,h1,h2,c,d⟩
 ·rw [h2] at b;cases b
 ·rw [h1] at b;cases b;exact ⟨d,NM c⟩
theorem Sl.cells (hs:Sl G enc e p m) (hm:m≠[]):∃a,p=some a/\AM.loadCells G a (m.length*e)=some (m.flatMap enc):=by
 cases p with
 | none=>exact absurd hs hm
 | some a=>
   obtain ⟨k1,k2⟩:=hs
   obtain ⟨ro,cs,k3,b,c⟩:=k2 hm
   refine ⟨a,rfl, ?_⟩
   obtain ⟨d,f,as'⟩:=a
   simp only [Rs]
   simp only at k3 b c
   simp only [k3]
   rw [Ni b,c]
theorem Own.push {lim':Nat} (h:Own lim G enc e p cap l) (t:lim'<=lim) (he:∀x,(enc x).length=e) (s:e≠0) (m:List α) (hm:m≠[]) (r:(l.length+m.length)*bytes<=PS) (hn:l.length+m.length<2 ^ 61) :
  ∃(G':NE) (R:Nat),(p=none->R=G.length)/\(∀a,p=some a->R=a.block)/\Mut G G' R/\(∀j,j≠R->NH G' j=NH G j)/\(∀H0:NE,OI H0 G->H0.length<=lim->OI H0 G')/\
   (∀(X:NE) (n:Option Addr) (k:Nat),Sl (G++X) enc e n m->PE lim' none e bytes false (.slice p l.length cap) (.slice n m.length k) (G++X)=some (.slice (some ⟨G.length+X.length,0,none⟩) (l.length+m.length) (loose e),G'++(X++[.cells false ((l++m).flatMap enc)]))):=by
 have f:¬m.length=0:=by intro q;exact hm (List.length_eq_zero_iff.1 q)
 rcases h with ⟨h1,h2,i⟩ | ⟨R,h1,h2,i,u⟩
 ·subst h1 h2 i
  refine ⟨G,G.length,fun _=>rfl,fun a h=>(by cases h),⟨rfl,fun j _=>rfl⟩,fun j _=>rfl,fun H0 h _=>h,fun X n k o=>?_⟩
  obtain ⟨a,rfl,hl⟩:=o.cells hm
  simp only [Nr,N6] at r hn
  simp only [PE,firstCells,lenOf,hl,f,if_false,Ny,Nr,N6]
  rw [Nh (by omega)]
  simp [place]
 ·subst h1 h2
  have c:=NM i
  refine ⟨G.set R .dead,R,fun h=>(by cases h),fun a h=>(by cases h;rfl),⟨by simp,fun j d=>QL d⟩,fun j d=>QL d,fun H0 h hl=>Mut.ext (R:=R) ⟨by simp,fun j d=>QL d⟩ h (by omega),fun X n k o=>?_⟩
  obtain ⟨a,rfl,hl⟩:=o.cells hm
  have b:NH (G++X) R=.cells false (l.flatMap enc):=by rw [NN c];exact i
  have g:AM.loadCells (G++X) ⟨R,0,none⟩ (l.length*e)=some (l.flatMap enc):=by
   simp only [Rs,b,N6,QI he,Nd,if_true,Oy]
   rw [Oc (by rw [QI he];exact Nd _)]
  simp only [PE,firstCells,lenOf,hl,g,b,f,if_false,Ny,if_true]
  rw [Nh (by unfold loose;omega)]
  simp [show lim'<=R by omega,place,Qh _ _ c,Nn]
theorem Own.push1 {lim':Nat} (h:Own lim G enc e p cap l) (d:lim'<=lim) (he:∀x,(enc x).length=e) (c:e≠0) (x:α) (m:(l.length+1)*bytes<=PS) (hn:l.length+1<2 ^ 61) :
  ∃(G':NE) (R:Nat),(p=none->R=G.length)/\(∀a,p=some a->R=a.block)/\Mut G G' R/\(∀H0:NE,OI H0 G->H0.length<=lim->OI H0 G')/\
   (∀(X:NE) (b k:Nat),NH (G++X) b=.cells false (enc x)->PE lim' none e bytes false (.slice p l.length cap) (.slice (some ⟨b,0,none⟩) 1 k) (G++X)=some (.slice (some ⟨G.length+X.length,0,none⟩) (l.length+1) (loose e),G'++(X++[.cells false ((l++[x]).flatMap enc)]))):=by
 obtain ⟨G',R,h1,h2,g,_,i,j⟩:=h.push d he c [x] (by simp) (by simpa using m) (by simpa using hn)
 refine ⟨G',R,h1,h2,g,i,fun X b k f=>?_⟩
 exact j X (some ⟨b,0,none⟩) k (Sl.lit he (by rw [f];rfl) (by rw [f];simp [cellsOf]))
def WI (len cap:Nat) (lo hi mx:Option Value):Option (Nat×Nat×Nat):=bounds (fun o=>match o with | .const v=>v | _=>undef) len cap (lo.map .const) (hi.map .const) (mx.map .const)
theorem Nai {ρ:Operand->Value} {len cap:Nat} {lo hi mx:Option Operand}:bounds ρ len cap lo hi mx=WI len cap (lo.map ρ) (hi.map ρ) (mx.map ρ):=by
 unfold WI
 cases lo<;>cases hi<;>cases mx<;>rfl
theorem Nhu {n:Int} {m:Nat} {kk:IntKind} (a:0<=n) (h:n<=(m:Int)):bound (.int kk n) m=some n.toNat:=by
 simp only [bound];rw [Ni ⟨a,h⟩]
section
variable {len:Nat} {k1 k2 k3:IntKind} {l h x:Int}
theorem Mq (a:0<=h) (h1:h<=(cap:Int)):WI len cap none (some (.int k1 h)) none=some (0,h.toNat,cap):=by
 delta WI bounds;simp only [Nu,Oo,Nhu a h1]
theorem Njk (a:0<=l) (b:l<=(len:Int)):WI len cap (some (.int k1 l)) none none=some (l.toNat,len,cap):=by
 delta WI bounds;simp only [Nu,Oo,Nhu a b]
end
end
def TC:ACode->ACode
 | .seq a _=>a
 | c=>c
def Sb:ACode->ACode
 | .seq _ b=>b
 | _=>.skip
end Go.AM


namespace Go.Scan
structure Ev where
 (item place scanner kind at' seen time:Int)
 deriving DecidableEq,Inhabited
structure Mk where
 (scanner at' off:Int)
 deriving DecidableEq,Inhabited
def VZ:Int:=1051898399
def Sm (e:Ev):Prop:=(1<=e.item/\e.item<=999999)/\(1<=e.place/\e.place<=999999)/\(1<=e.scanner/\e.scanner<=999999)/\(1<=e.kind/\e.kind<=4)/\(0<=e.at'/\e.at'<=VZ)/\(0<=e.seen/\e.seen<=VZ)
instance (e:Ev):Decidable (Sm e):=by unfold Sm;infer_instance
def QN (S:List Ev):Prop:=S.length<=2000/\∀s∈S,Sm s
instance (S:List Ev):Decidable (QN S):=by unfold QN;infer_instance
def SX:List Int->List Int->Int
 | a::x,b::y=>if a<b then -1 else if b<a then 1 else SX x y
 | _,_=>0
theorem Ng8:∀x,SX x x=0
 | []=>rfl
 | a::x=>by unfold SX;rw [Nh (by omega),Nh (by omega)];exact Ng8 x
theorem Nlu:∀x y,SX x y=-1\/SX x y=0\/SX x y=1
 | [],_=>by unfold SX;simp
 | _::_,[]=>by unfold SX;simp
 | a::x,b::y=>by
   unfold SX
   split
   ·simp
   split
   ·simp
   exact Nlu x y
theorem Vs:∀x y,SX y x=- SX x y
 | [],y=>by cases y<;>rfl
 | a::x,[]=>rfl
 | a::x,b::y=>by
   have h:=Vs x y
   unfold SX
   by_cases h1:a<b
   ·rw [Nh (by omega),Ni h1,Ni h1];rfl
   ·by_cases h2:b<a
    ·rw [Ni h2,Nh h1,Ni h2]
    ·rw [Nh h2,Nh h1,Nh h1,Nh h2];exact h
theorem Ni2:∀x y,x.length=y.length->SX x y=0->x=y
 | [],[],_,_=>rfl
 | [],b::y,h,_=>by simp at h
 | a::x,[],h,_=>by simp at h
 | a::x,b::y,hl,h=>by
   unfold SX at h
   by_cases h1:a<b
   ·rw [Ni h1] at h;omega
   rw [Nh h1] at h
   by_cases h2:b<a
   ·rw [Ni h2] at h;omega
   rw [Nh h2] at h
   rw [Ni2 x y (by simpa using hl) h,show a=b by omega]
theorem XI:∀x y z,x.length=y.length->y.length=z.length->SX x y<=0->SX y z<=0->SX x z<=0
 | [],_,_,_,_,_,_=>by unfold SX;simp
 | a::x,[],_,h,_,_,_=>by simp at h
 | a::x,b::y,[],_,h,_,_=>by simp at h
 | a::x,b::y,c::z,h1,h2,h3,h4=>by
   unfold SX at h3 h4⊢
   by_cases q1:a<c
   ·rw [Ni q1];omega
   rw [Nh q1]
   by_cases q2:a<b
   ·rw [Nh (show ¬b<c by omega),Ni (show c<b by omega)] at h4;omega
   rw [Nh q2] at h3
   by_cases q3:b<a
   ·rw [Ni q3] at h3;omega
   rw [Nh q3] at h3
   rw [Nh (show ¬b<c by omega)] at h4
   by_cases d:c<b
   ·rw [Ni d] at h4;omega
   rw [Nh d] at h4
   rw [Nh (show ¬c<a by omega)]
   exact XI x y z (by simpa using h1) (by simpa using h2) h3 h4
section
variable {α:Type}
def Npk (k:α->List Int) (x:α):List α->List α
 | []=>[x]
 | y::l=>if SX (k y) (k x)<0 then y::Npk k x l else x::y::l
def UF (k:α->List Int):List α->List α
 | []=>[]
 | x::l=>Npk k x (UF k l)
theorem Nbj (k:α->List Int) (x:α):∀l,(Npk k x l).Perm (x::l)
 | []=>.refl _
 | y::l=>by
   unfold Npk
   split
   ·exact ((Nbj k x l).cons y).trans (.swap x y l)
   ·exact .refl _
theorem Tu (k:α->List Int):∀l,(UF k l).Perm l
 | []=>.refl _
 | x::l=>(Nbj k x _).trans ((Tu k l).cons x)
def TH (k:α->List Int) (l:List α):Prop:=l.Pairwise fun a b=>SX (k a) (k b)<=0
theorem Ncf {k:α->List Int} {n:Nat} (hn:∀x,(k x).length=n) (x:α):∀l,TH k l->TH k (Npk k x l)
 | [],_=>by unfold Npk;exact List.pairwise_singleton _ _
 | y::l,h=>by
   obtain ⟨h1,h2⟩:=List.pairwise_cons.mp h
   unfold Npk
   split
   ·rename_i hc
    refine List.pairwise_cons.mpr ⟨fun b hb=>?_,Ncf hn x l h2⟩
    rcases Np.mp ((Nbj k x l).mem_iff.mp hb) with rfl | hb
    ·omega
    ·exact h1 b hb
   ·rename_i hc
    have a:SX (k x) (k y)<=0:=by rw [Vs (k y) (k x)];omega
    refine List.pairwise_cons.mpr ⟨fun b hb=>?_,h⟩
    rcases Np.mp hb with rfl | hb
    ·exact a
    ·exact XI _ (k y) _ (by rw [hn,hn]) (by rw [hn,hn]) a (h1 b hb)
theorem Us {k:α->List Int} {n:Nat} (hn:∀x,(k x).length=n):∀l,TH k (UF k l)
 | []=>List.Pairwise.nil
 | x::l=>Ncf hn x _ (Us hn l)
theorem Nij {k:α->List Int} {n:Nat} (hn:∀x,(k x).length=n) (hi:∀x y,k x=k y->x=y) {l l':List α} (h:TH k l) (h':TH k l') (hp:l.Perm l'):l=l':=
 List.Perm.eq_of_pairwise (le:=fun a b=>SX (k a) (k b)<=0) (fun a b _ _ h1 h2=>hi a b (Ni2 _ _ (by rw [hn,hn]) (by rw [Vs (k a) (k b)] at h2;omega))) h h' hp
theorem ZW {k:α->List Int} {n:Nat} (hn:∀x,(k x).length=n) (hi:∀x y,k x=k y->x=y) {l a:List α} (h:TH k a) (hp:a.Perm l):a=UF k l:=
 Nij hn hi h (Us hn l) (hp.trans (Tu k l).symm)
theorem Nkb {k:α->List Int} {n:Nat} (hn:∀x,(k x).length=n) (hi:∀x y,k x=k y->x=y) {l a:List α} (hp:a.Perm l):UF k a=UF k l:=
 ZW hn hi (Us hn a) ((Tu k a).trans hp)
end
def Uw (s:Ev):Int×Int:=(s.scanner,s.seen / 1440)
def mkM (s:Ev):Mk:=⟨s.scanner,s.at',s.seen-s.at'⟩
def SL (m old:Mk):Prop:=m.off<old.off\/m.off=old.off/\m.at'<old.at'
instance (m old:Mk):Decidable (SL m old):=by unfold SL;infer_instance
def Xj (k:Int×Int) (m:Mk):List ((Int×Int)×Mk)->List ((Int×Int)×Mk)
 | []=>[(k,m)]
 | (k',old)::l=>if k'=k then (k',m)::l else (k',old)::Xj k m l
def WQ (k:Int×Int):List ((Int×Int)×Mk)->Option Mk
 | []=>none
 | (k',old)::l=>if k'=k then some old else WQ k l
def SG (l:List ((Int×Int)×Mk)) (s:Ev):List ((Int×Int)×Mk):=
 match WQ (Uw s) l with
 | none=>Xj (Uw s) (mkM s) l
 | some old=>if SL (mkM s) old then Xj (Uw s) (mkM s) l else l
def UQ (S:List Ev):List ((Int×Int)×Mk):=S.foldl SG []
def SV (m:Mk):List Int:=[m.scanner,m.at',m.off]
theorem Zp (m:Mk):(SV m).length=3:=id rfl
theorem Nhd (m n:Mk) (h:SV m=SV n):m=n:=by
 obtain ⟨a,b,c⟩:=m;obtain ⟨d,e,f⟩:=n
 simp only [SV,List.cons.injEq] at h
 obtain ⟨rfl,rfl,rfl,_⟩:=h
 rfl
def RO (m p:Mk):Prop:=m.scanner=p.scanner/\m.at'=p.at'
instance (m p:Mk):Decidable (RO m p):=by unfold RO;infer_instance
def UG (p:Mk):List Mk->List Mk
 | []=>[]
 | m::l=>if RO m p then UG m l else m::UG m l
def Sk:List Mk->List Mk
 | []=>[]
 | m::l=>m::UG m l
def R6 (S:List Ev):List Mk:=Sk (UF SV ((UQ S).map (·.2)))
def MZ (m:Mk):Prop:=1<=m.scanner/\m.scanner<=999999/\0<=m.at'/\m.at'<=VZ/\-VZ<=m.off/\m.off<=VZ
instance (m:Mk):Decidable (MZ m):=by unfold MZ;infer_instance
def Mx (a b:Mk):Prop:=a.scanner<b.scanner\/a.scanner=b.scanner/\a.at'<b.at'
instance (a b:Mk):Decidable (Mx a b):=by unfold Mx;infer_instance
def Zy (l:List Mk):Prop:=(∀m∈l,MZ m)/\l.Pairwise Mx
def TN:Mk:=⟨0,0,0⟩
def Y3 (t:Int):Mk->List Mk->Int
 | last,[]=>last.off
 | last,m::l=>if t > m.at' then Y3 t m l else if last=TN then m.off else last.off+(m.off-last.off)*(t-last.at') / (m.at'-last.at')
def ofN (M:List Mk) (sc:Int):List Mk:=M.filter fun m=>m.scanner == sc
def Na9 (M:List Mk) (sc t:Int):Int:=Y3 t TN (ofN M sc)
def Xc (M:List Mk) (s:Ev):Int:=min (max (s.at'+Na9 M s.scanner s.at') 0) s.seen
def Uh (e:Ev):List Int:=[e.time,e.kind,e.place,e.scanner,e.item,e.at',e.seen]
theorem Nbe (e:Ev):(Uh e).length=7:=id rfl
theorem Nt2 (x y:Ev) (h:Uh x=Uh y):x=y:=by
 obtain ⟨a,b,c,d,e,f,g⟩:=x;obtain ⟨a',b',i,j,k,l,m⟩:=y
 simp only [Uh,List.cons.injEq] at h
 obtain ⟨rfl,rfl,rfl,rfl,rfl,rfl,rfl,_⟩:=h
 rfl
def Sw (M:List Mk) (S:List Ev):List Ev:=UF Uh (S.map fun s=>{ s with time:=Xc M s })
def R7 (e:Ev):Int×Int×Int:=(e.item,e.place,e.kind)
def VE (e:Ev) (kept:List Ev):Option Ev:=kept.find? fun x=>R7 x == R7 e
def Yn (e:Ev) (kept:List Ev):Bool:=match VE e kept with
 | none=>false
 | some x=>decide (e.time-x.time<=10)
def SF:List Ev->List Ev->List Ev->List Ev×List Ev
 | kept,twice,[]=>(kept.reverse,twice.reverse)
 | kept,twice,e::l=>if Yn e kept then SF kept (e::twice) l else SF (e::kept) twice l
def OM (S:List Ev):List Ev×List Ev:=SF [] [] (Sw (R6 S) S)
def VC (l:List Ev) (item:Int):List Ev:=l.filter fun e=>item == 0||e.item == item
abbrev Es:=List ((Int×Int)×Mk)
theorem Nev {k:Int×Int} {m:Mk}:∀{l:Es},WQ k l=some m->(k,m)∈l
 | [],h=>by cases h
 | (k',m')::l,h=>by
   unfold WQ at h
   by_cases hk:k'=k
   ·rw [Ni hk] at h;cases h;rw [hk];exact No
   ·rw [Nh hk] at h;exact Nj _ (Nev h)
def Mv (l:Es):Prop:=(l.map (·.1)).Nodup
theorem Nja {k:Int×Int} {m:Mk}:∀{l:Es},Mv l->(k,m)∈l->WQ k l=some m
 | [],_,h=>by cases h
 | (k',m')::l,hn,h=>by
   have a:=List.nodup_cons.mp hn
   unfold WQ
   rcases Np.mp h with h | h
   ·cases h;rw [Ni rfl]
   ·rw [Nh fun hk=>a.1 (by rw [hk];exact List.mem_map.mpr ⟨_,h,rfl⟩)]
    exact Nja a.2 h
theorem Ng1 {k:Int×Int} {m:Mk}:∀{l:Es} {x},x∈(Xj k m l).map (·.1)↔x=k\/x∈l.map (·.1)
 | [],x=>by simp [Xj]
 | (k',m')::l,x=>by
   unfold Xj
   by_cases hk:k'=k
   ·rw [Ni hk];subst hk;simp
   ·rw [Nh hk,Of,Np,Ng1,Of,Np]
    exact or_left_comm
theorem Nd6 {k:Int×Int} {m:Mk}:∀{l:Es},Mv l->Mv (Xj k m l)
 | [],_=>by simp [Xj,Mv]
 | (k',m')::l,h=>by
   have h2:=List.nodup_cons.mp h
   unfold Xj
   by_cases hk:k'=k
   ·rw [Ni hk];exact h
   ·rw [Nh hk]
    refine List.nodup_cons.mpr ⟨fun hc=>?_,Nd6 h2.2⟩
    rcases Ng1.mp hc with hc | hc
    ·exact hk hc
    ·exact h2.1 hc
theorem Neu {k k':Int×Int} {m:Mk}:∀{l:Es},WQ k' (Xj k m l)=if k'=k then some m else WQ k' l
 | []=>by
   unfold Xj WQ
   by_cases h:k'=k
   ·rw [Ni h.symm,Ni h]
   ·rw [Nh fun q=>h q.symm,Nh h];rfl
 | (k2,m2)::l=>by
   unfold Xj
   by_cases h2:k2=k
   ·rw [Ni h2]
    subst h2
    by_cases h:k'=k2
    ·rw [Ni h];unfold WQ;rw [Ni h.symm]
    ·rw [Nh h];unfold WQ;rw [Nh fun q=>h q.symm,Nh fun q=>h q.symm]
   ·rw [Nh h2]
    by_cases h:k2=k'
    ·have:¬k'=k:=fun q=>h2 (h.trans q)
     rw [Nh this];unfold WQ;rw [Ni h,Ni h]
    ·unfold WQ;rw [Nh h,Nh h];exact Neu
structure LeastOf (S:List Ev) (l:Es):Prop where
 nd:Mv l
 from':∀k m,WQ k l=some m->∃s∈S,Uw s=k/\mkM s=m
 all:∀s∈S,∃m,WQ (Uw s) l=some m/\¬SL (mkM s) m
theorem Njm {a b c:Mk} (h:¬SL a b) (h2:SL c b):¬SL a c:=by
 unfold SL at *;omega
theorem Nmw {a:Mk}:¬SL a a:=by unfold SL;omega
theorem LeastOf.add {S:List Ev} {l:Es} (h:LeastOf S l) (s:Ev):LeastOf (S++[s]) (SG l s):=by
 have put:(∀m,WQ (Uw s) l=some m->SL (mkM s) m)->LeastOf (S++[s]) (Xj (Uw s) (mkM s) l):=by
  intro a
  refine ⟨Nd6 h.nd,fun k m hk=>?_,fun x hx=>?_⟩
  ·rw [Neu] at hk
   by_cases q:k=Uw s
   ·rw [Ni q] at hk;cases hk;exact ⟨s,by simp,q.symm,rfl⟩
   ·rw [Nh q] at hk
    obtain ⟨y,b,h1,h2⟩:=h.from' k m hk
    exact ⟨y,Ou _ b,h1,h2⟩
  ·rw [Neu]
   rcases Oh.mp hx with hx | hx
   ·obtain ⟨m,h1,h2⟩:=h.all x hx
    by_cases q:Uw x=Uw s
    ·rw [Ni q]
     rw [q] at h1
     exact ⟨_,rfl,Njm h2 (a m h1)⟩
    ·rw [Nh q];exact ⟨m,h1,h2⟩
   ·rw [Nk] at hx;subst hx
    rw [Ni rfl];exact ⟨_,rfl,Nmw⟩
 unfold SG
 cases hg:WQ (Uw s) l with
 | none=>exact put (by rw [hg];intro m h;cases h)
 | some old=>
   dsimp only
   by_cases a:SL (mkM s) old
   ·rw [Ni a];exact put (by rw [hg];intro m h;cases h;exact a)
   ·rw [Nh a]
    refine ⟨h.nd,fun k m hk=>?_,fun x hx=>?_⟩
    ·obtain ⟨y,b,h1,h2⟩:=h.from' k m hk
     exact ⟨y,Ou _ b,h1,h2⟩
    ·rcases Oh.mp hx with hx | hx
     ·exact h.all x hx
     ·rw [Nk] at hx;subst hx
      exact ⟨old,hg,a⟩
theorem Nlw:∀(T S:List Ev) (l:Es),LeastOf S l->LeastOf (S++T) (T.foldl SG l)
 | [],S,l,h=>by rw [Nb];exact h
 | s::T,S,l,h=>by
   have:=Nlw T (S++[s]) _ (h.add s)
   rw [Nn] at this
   exact this
theorem Nbd (S:List Ev):LeastOf S (UQ S):=by
 have:=Nlw S [] [] ⟨by simp [Mv],fun k m h=>(by cases h),fun s h=>(Pa h).elim⟩
 exact this
theorem N9p {a b:Mk} (hs:a.scanner=b.scanner) (h1:¬SL a b) (h2:¬SL b a):a=b:=by
 obtain ⟨e,c,d⟩:=a;obtain ⟨b1,b2,b3⟩:=b
 unfold SL at h1 h2
 simp only at hs h1 h2
 have e1:c=b2:=by omega
 have e2:d=b3:=by omega
 rw [hs,e1,e2]
theorem LeastOf.get {S:List Ev} {l:Es} (h:LeastOf S l) {k:Int×Int} {m:Mk}:WQ k l=some m↔(∃s∈S,Uw s=k/\mkM s=m)/\∀x∈S,Uw x=k->¬SL (mkM x) m:=by
 constructor
 ·intro hk
  refine ⟨h.from' k m hk,fun x e d=>?_⟩
  obtain ⟨g,h1,h2⟩:=h.all x e
  rw [d,hk] at h1;cases h1;exact h2
 ·rintro ⟨⟨s,hs,rfl,rfl⟩,c⟩
  obtain ⟨g,h1,h2⟩:=h.all s hs
  obtain ⟨y,f,hk,rfl⟩:=h.from' _ _ h1
  rw [h1,N9p (a:=mkM s) (b:=mkM y) (Qn (·.1) hk.symm) h2 (c y f hk)]
theorem LeastOf.perm {S S':List Ev} {l l':Es} (h:LeastOf S l) (h':LeastOf S' l') (hm:∀s,s∈S↔s∈S'):l.Perm l':=by
 have nd:∀{l:Es},Mv l->l.Nodup:=fun h=>(List.pairwise_map.mp h).imp fun {a b} q e=>q (Qn _ e)
 refine (List.perm_ext_iff_of_nodup (nd h.nd) (nd h'.nd)).mpr fun ⟨k,m⟩=>?_
 have e:∀{S:List Ev} {l:Es},LeastOf S l->((k,m)∈l↔WQ k l=some m):=fun h=>⟨Nja h.nd,Nev⟩
 rw [e h,e h',h.get,h'.get]
 simp only [hm]
theorem Nbq (p:Mk):∀l,(UG p l).Sublist l
 | []=>.refl _
 | m::l=>by
   unfold UG
   split
   ·exact (Nbq m l).trans (List.sublist_cons_self _ _)
   ·exact (Nbq m l).cons_cons m
theorem Nyx {a b:Mk} (h:SX (SV a) (SV b)<=0):Mx a b\/RO b a/\a.off<=b.off:=by
 unfold SV SX at h
 by_cases h1:a.scanner<b.scanner
 ·exact .inl (.inl h1)
 rw [Nh h1] at h
 by_cases h2:b.scanner<a.scanner
 ·rw [Ni h2] at h;omega
 rw [Nh h2] at h
 have e1:a.scanner=b.scanner:=by omega
 unfold SX at h
 by_cases c:a.at'<b.at'
 ·exact .inl (.inr ⟨e1,c⟩)
 rw [Nh c] at h
 by_cases d:b.at'<a.at'
 ·rw [Ni d] at h;omega
 rw [Nh d] at h
 unfold SX at h
 by_cases e:a.off<b.off
 ·exact .inr ⟨⟨e1.symm,by omega⟩,by omega⟩
 rw [Nh e] at h
 by_cases f:b.off<a.off
 ·rw [Ni f] at h;omega
 exact .inr ⟨⟨e1.symm,by omega⟩,by omega⟩
theorem Ng6 {a b c:Mk} (h:Mx a b) (h2:Mx b c):Mx a c:=by unfold Mx at *;omega
theorem Nlr {a b c:Mk} (h:Mx a b) (h2:RO c b):Mx a c:=by unfold Mx RO at *;omega
theorem Nmm:∀(l:List Mk) (p:Mk),TH SV (p::l)->(UG p l).Pairwise Mx/\(∀x∈UG p l,Mx p x)/\∀x∈l,RO x p/\p.off<=x.off\/∃y∈UG p l,RO x y/\y.off<=x.off
 | [],p,_=>by simp [UG]
 | m::l,p,h=>by
   obtain ⟨h1,h2⟩:=List.pairwise_cons.mp h
   obtain ⟨d,c,e⟩:=Nmm l m h2
   have b:=Nyx (h1 m No)
   unfold UG
   by_cases hs:RO m p
   ·rw [Ni hs]
    have f:p.off<=m.off:=by
     rcases b with q | q
     ·unfold Mx at q;unfold RO at hs;omega
     ·exact q.2
    refine ⟨d,fun x hx=>?_,fun x hx=>?_⟩
    ·have:=c x hx;unfold Mx at *;unfold RO at hs;omega
    ·rcases Np.mp hx with rfl | hx
     ·exact .inl ⟨hs,f⟩
     ·rcases e x hx with q | q
      ·refine .inl ⟨?_,by omega⟩
       have:=q.1;unfold RO at *;omega
      ·exact .inr q
   ·rw [Nh hs]
    have a:Mx p m:=by
     rcases b with q | q
     ·exact q
     ·exact absurd q.1 hs
    refine ⟨List.pairwise_cons.mpr ⟨c,d⟩,fun x hx=>?_,fun x hx=>?_⟩
    ·rcases Np.mp hx with rfl | hx
     ·exact a
     ·exact Ng6 a (c x hx)
    ·rcases Np.mp hx with rfl | hx
     ·exact .inr ⟨x,No,⟨rfl,rfl⟩,Oq _⟩
     ·rcases e x hx with q | ⟨y,g,q⟩
      ·exact .inr ⟨m,No,q⟩
      ·exact .inr ⟨y,Nj _ g,q⟩
theorem YP {l:List Mk} (h:TH SV l):(Sk l).Pairwise Mx/\(Sk l).Sublist l/\∀x∈l,∃y∈Sk l,RO x y/\y.off<=x.off:=by
 cases l with
 | nil=>exact ⟨List.Pairwise.nil,.refl _,fun x h=>by cases h⟩
 | cons m l=>
   obtain ⟨b,c,d⟩:=Nmm l m h
   refine ⟨List.pairwise_cons.mpr ⟨c,b⟩,(Nbq m l).cons_cons m,fun x hx=>?_⟩
   rcases Np.mp hx with rfl | hx
   ·exact ⟨x,No,⟨rfl,rfl⟩,Oq _⟩
   ·rcases d x hx with q | ⟨y,a,q⟩
    ·exact ⟨m,No,q⟩
    ·exact ⟨y,Nj _ a,q⟩
def Ndg (S:List Ev):List Mk:=(UQ S).map (·.2)
theorem Nwu {S:List Ev} {m:Mk}:m∈Ndg S↔∃s∈S,mkM s=m/\∀x∈S,Uw x=Uw s->¬SL (mkM x) m:=by
 unfold Ndg
 rw [List.mem_map]
 constructor
 ·rintro ⟨⟨k,b⟩,h,rfl⟩
  obtain ⟨⟨s,hs,rfl,rfl⟩,a⟩:=(Nbd S).get.mp (Nja (Nbd S).nd h)
  exact ⟨s,hs,rfl,a⟩
 ·rintro ⟨s,hs,rfl,a⟩
  exact ⟨(Uw s,mkM s),Nev ((Nbd S).get.mpr ⟨⟨s,hs,rfl,rfl⟩,a⟩),rfl⟩
theorem Nwv (S:List Ev):(Ndg S).length<=S.length:=by
 have put:∀(k:Int×Int) (m:Mk) (l:Es),(Xj k m l).length<=l.length+1:=by
  intro k m l
  induction l with
  | nil=>simp [Xj]
  | cons a l ih=>
    unfold Xj
    split
    ·simp
    ·simp only [Nl];omega
 have key:∀(T:List Ev) (l:Es),(T.foldl SG l).length<=l.length+T.length:=by
  intro T
  induction T with
  | nil=>intro l;simp
  | cons s T ih=>
    intro l
    have h1:=ih (SG l s)
    have h2:(SG l s).length<=l.length+1:=by
     unfold SG
     split
     ·exact put _ _ _
     split
     ·exact put _ _ _
     ·omega
    simp only [Oi,Nl];omega
 have:=key S []
 unfold Ndg UQ
 rw [Nv];simpa using this
theorem WR (S:List Ev):TH SV (UF SV (Ndg S)):=Us Zp _
theorem Nuc (S:List Ev):(R6 S).Pairwise Mx:=(YP (WR S)).1
theorem Nl8 {S:List Ev} {m:Mk} (h:m∈R6 S):m∈Ndg S:=(Tu SV _).mem_iff.mp ((YP (WR S)).2.1.mem h)
theorem Nl9 {S:List Ev} (hS:∀s∈S,Sm s) {m:Mk} (h:m∈R6 S):MZ m:=by
 obtain ⟨s,hs,rfl,_⟩:=Nwu.mp (Nl8 h)
 have:=hS s hs
 unfold Sm at this;unfold MZ mkM;simp only;omega
theorem gather_ok {S:List Ev} (hS:∀s∈S,Sm s):Zy (R6 S):=⟨fun m h=>Nl9 hS h,Nuc S⟩
theorem Npn (S:List Ev):(R6 S).length<=S.length:=by
 have h1:=(YP (WR S)).2.1.length_le
 rw [(Tu SV _).length_eq] at h1
 have:=Nwv S
 unfold R6 Ndg at *
 omega
theorem Nel {e x:Ev} {kept:List Ev} (h:VE e kept=some x):x∈kept/\R7 x=R7 e:=by
 unfold VE at h
 exact ⟨Rn h,by simpa using List.find?_some h⟩
theorem Npb {e:Ev} {kept:List Ev} (h:VE e kept=none):∀x∈kept,R7 x≠R7 e:=by
 unfold VE at h
 rw [List.find?_eq_none] at h
 intro x a;simpa using h x a
def ApartL (kept:List Ev):Prop:=kept.Pairwise fun x y=>R7 x=R7 y->x.time-y.time > 10
theorem Nhb {e x:Ev}:∀{kept:List Ev},ApartL kept->VE e kept=some x->∀y∈kept,R7 y=R7 e->y.time<=x.time
 | [],_,h=>by cases h
 | k::l,ha,h=>by
   obtain ⟨h1,h2⟩:=List.pairwise_cons.mp ha
   unfold VE at h
   intro y hy hs
   by_cases hk:R7 k=R7 e
   ·rw [List.find?_cons_of_pos (by simpa using hk)] at h
    cases h
    rcases Np.mp hy with rfl | hy
    ·exact Oq _
    ·have:=h1 y hy (hk.trans hs.symm);omega
   ·rw [List.find?_cons_of_neg (by simpa using hk)] at h
    rcases Np.mp hy with rfl | hy
    ·exact absurd hs hk
    ·exact Nhb h2 h y hy hs
theorem Ym {e:Ev} {kept:List Ev}:Yn e kept=true↔∃x,VE e kept=some x/\e.time-x.time<=10:=by
 unfold Yn
 cases h:VE e kept with
 | none=>simp
 | some x=>simp
theorem Yu:∀(l kept twice:List Ev),((SF kept twice l).1++(SF kept twice l).2).Perm (kept++twice++l)
 | [],kept,twice=>by
   unfold SF
   rw [Nb]
   exact (List.reverse_perm _).append (List.reverse_perm _)
 | e::l,kept,twice=>by
   unfold SF
   split
   ·refine (Yu l _ _).trans ?_
    rw [Nn,Nn,Ow]
    exact (List.perm_middle).symm.append_left kept
   ·refine (Yu l _ _).trans ?_
    rw [Ow,Ow]
    exact List.perm_middle.symm
theorem ZY:∀(l kept twice:List Ev),∃K T,SF kept twice l=(kept.reverse++K,twice.reverse++T)/\K.Sublist l/\T.Sublist l
 | [],kept,twice=>⟨[],[],by unfold SF;simp,.refl _,.refl _⟩
 | e::l,kept,twice=>by
   unfold SF
   split
   ·obtain ⟨K,T,h1,h2,a⟩:=ZY l kept (e::twice)
    exact ⟨K,e::T,by rw [h1];simp,h2.trans (List.sublist_cons_self _ _),a.cons_cons e⟩
   ·obtain ⟨K,T,h1,h2,a⟩:=ZY l (e::kept) twice
    exact ⟨e::K,T,by rw [h1];simp,h2.cons_cons e,a.trans (List.sublist_cons_self _ _)⟩
def Nfw (l:List Ev):Prop:=l.Pairwise fun x y=>x.time<=y.time
theorem Y2 {l:List Ev} (h:TH Uh l):Nfw l:=h.imp fun {a b} q=>by
 unfold Uh SX at q
 by_cases h1:a.time<b.time
 ·omega
 rw [Nh h1] at q
 by_cases h2:b.time<a.time
 ·rw [Ni h2] at q;omega
 ·omega
theorem Naz:∀(l kept twice:List Ev),ApartL kept->(∀e∈l,∀x∈kept,x.time<=e.time)->Nfw l->(∀x∈twice,∃y∈kept,R7 x=R7 y/\x.time>=y.time/\x.time-y.time<=10)->
  (ApartL (SF kept twice l).1.reverse)/\∀x∈(SF kept twice l).2,∃y∈(SF kept twice l).1,R7 x=R7 y/\x.time>=y.time/\x.time-y.time<=10
 | [],kept,twice,h1,_,_,h4=>by
   unfold SF
   refine ⟨by simpa using h1,fun x hx=>?_⟩
   obtain ⟨y,hy,q⟩:=h4 x (by simpa using hx)
   exact ⟨y,by simpa using hy,q⟩
 | e::l,kept,twice,h1,h2,h3,h4=>by
   obtain ⟨h,r2⟩:=List.pairwise_cons.mp h3
   unfold SF
   split
   ·rename_i c
    obtain ⟨x,hx,hd⟩:=Ym.mp c
    obtain ⟨d,g⟩:=Nel hx
    refine Naz l kept (e::twice) h1 (fun a b=>h2 a (Nj _ b)) r2 fun y hy=>?_
    rcases Np.mp hy with rfl | hy
    ·exact ⟨x,d,g.symm,h2 y No x d,hd⟩
    ·exact h4 y hy
   ·rename_i c
    refine Naz l (e::kept) twice (List.pairwise_cons.mpr ⟨fun y hy hs=>?_,h1⟩) (fun a b x hx=>?_) r2 fun y hy=>?_
    ·cases hk:VE e kept with
     | none=>exact absurd hs.symm (Npb hk y hy)
     | some x=>
       have hn:¬e.time-x.time<=10:=fun hc=>c (Ym.mpr ⟨x,hk,hc⟩)
       have:=Nhb h1 hk y hy hs.symm
       omega
    ·rcases Np.mp hx with rfl | hx
     ·exact h a b
     ·exact h2 a (Nj _ b) x hx
    ·obtain ⟨z,f,q⟩:=h4 y hy
     exact ⟨z,Nj _ f,q⟩
theorem ZH (M:List Mk) (S:List Ev):TH Uh (Sw M S):=Us Nbe _
theorem Ml {M:List Mk} {S:List Ev} {x:Ev}:x∈Sw M S↔∃s∈S,{ s with time:=Xc M s }=x:=by
 unfold Sw
 rw [(Tu Uh _).mem_iff,List.mem_map]
theorem N0p {D w k:Int} (a:0<w) (h1:0<=k) (h2:k<=w):min 0 D<=D*k / w/\D*k / w<=max 0 D:=by
 rcases (by omega:D<0\/0<=D) with h | h
 ·rw [Int.min_eq_right (by omega),Int.max_eq_left (by omega)]
  constructor
  ·exact Int.le_ediv_of_mul_le a (Int.mul_le_mul_of_nonpos_left (by omega) h2)
  ·refine Int.ediv_le_of_le_mul a ?_
   rw [Int.zero_mul]
   exact Int.mul_nonpos_of_nonpos_of_nonneg (by omega) h1
 ·rw [Int.min_eq_left (by omega),Int.max_eq_right (by omega)]
  exact ⟨Int.ediv_nonneg (Int.mul_nonneg h h1) (by omega),Int.ediv_le_of_le_mul a (Int.mul_le_mul_of_nonneg_left h2 h)⟩
def N4x (l:List Mk):Prop:=l.Pairwise fun a b=>a.at'<b.at'
theorem Nxz {M:List Mk} {sc:Int} (h:M.Pairwise Mx):N4x (ofN M sc):=by
 unfold N4x ofN
 have h2:=h.filter (fun m=>m.scanner == sc)
 refine List.Pairwise.imp_of_mem ?_ h2
 intro a b c d q
 have e1:a.scanner=sc:=by simpa using (O5.mp c).2
 have e2:b.scanner=sc:=by simpa using (O5.mp d).2
 unfold Mx at q;omega
theorem Nb4 {t B:Int}:∀(l:List Mk) (last:Mk),N4x l->(∀m∈l,-B<=m.off/\m.off<=B)->-B<=last.off->last.off<=B->(∀m∈l,last=TN\/last.at'<m.at')->(last=TN\/last.at'<t)->-B<=Y3 t last l/\Y3 t last l<=B
 | [],last,_,_,h1,h2,_,_=>⟨h1,h2⟩
 | m::l,last,hl,hb,h1,h2,h3,h4=>by
   obtain ⟨d,e⟩:=List.pairwise_cons.mp hl
   have hm:=hb m No
   unfold Y3
   split
   ·rename_i c
    exact Nb4 l m e (fun x a=>hb x (Nj _ a)) hm.1 hm.2 (fun x a=>.inr (d x a)) (.inr c)
   split
   ·exact hm
   ·rename_i f b
    have e1:=h4.resolve_left b
    have:=N0p (D:=m.off-last.off) (w:=m.at'-last.at') (k:=t-last.at') (by omega) (by omega) (by omega)
    omega
structure AtOnce (S:List Ev) (c:Int->Int) (t:Ev->Int):Prop where
 at_:∀s∈S,s.at'=t s-c s.scanner
 late:∀s∈S,t s<=s.seen
 once:∀s∈S,∃x∈S,Uw x=Uw s/\x.seen=t x
def Ner (m:Mk):List Mk->List Mk
 | []=>[m]
 | y::l=>if Mx y m then y::Ner m l else if RO y m then (if m.off<y.off then { y with off:=m.off } else y)::l else m::y::l
theorem Nrp {m:Mk}:∀{l:List Mk},l.Pairwise Mx->(Ner m l).Pairwise Mx/\∀x∈Ner m l,RO x m\/∃y∈l,RO x y
 | [],_=>by
   unfold Ner
   exact ⟨List.pairwise_singleton _ _,fun x hx=>by rw [Nk] at hx;subst hx;exact .inl ⟨rfl,rfl⟩⟩
 | y::l,h=>by
   obtain ⟨h1,h2⟩:=List.pairwise_cons.mp h
   obtain ⟨g,e⟩:=Nrp (m:=m) h2
   unfold Ner
   split
   ·rename_i c
    refine ⟨List.pairwise_cons.mpr ⟨fun x hx=>?_,g⟩,fun x hx=>?_⟩
    ·rcases e x hx with q | ⟨z,a,q⟩
     ·exact Nlr c q
     ·exact Nlr (h1 z a) q
    ·rcases Np.mp hx with rfl | hx
     ·exact .inr ⟨x,No,rfl,rfl⟩
     ·rcases e x hx with q | ⟨z,a,q⟩
      ·exact .inl q
      ·exact .inr ⟨z,Nj _ a,q⟩
   ·split
    ·rename_i hn hs
     have f:∀z,Mx y z->Mx (if m.off<y.off then { y with off:=m.off } else y) z:=by
      intro z a;split
      ·exact a
      ·exact a
     have d:RO (if m.off<y.off then { y with off:=m.off } else y) y:=by split<;>exact ⟨rfl,rfl⟩
     refine ⟨List.pairwise_cons.mpr ⟨fun x hx=>f x (h1 x hx),h2⟩,fun x hx=>?_⟩
     rcases Np.mp hx with rfl | hx
     ·exact .inr ⟨y,No,d⟩
     ·exact .inr ⟨x,Nj _ hx,rfl,rfl⟩
    ·rename_i hn hs
     have b:Mx m y:=by unfold Mx RO at *;omega
     refine ⟨List.pairwise_cons.mpr ⟨fun x hx=>?_,h⟩,fun x hx=>?_⟩
     ·rcases Np.mp hx with rfl | hx
      ·exact b
      ·exact Ng6 b (h1 x hx)
     ·rcases Np.mp hx with rfl | hx
      ·exact .inl ⟨rfl,rfl⟩
      ·exact .inr ⟨x,hx,rfl,rfl⟩
structure RefOf (V:List Mk) (out:List Mk):Prop where
 lt:out.Pairwise Mx
 from':∀m∈out,m∈V
 all:∀m∈V,∃y∈out,RO m y/\y.off<=m.off
theorem Nro {m:Mk}:∀{l:List Mk},(∀x∈Ner m l,x=m\/x∈l)/\∀x,x=m\/x∈l->∃y∈Ner m l,RO x y/\y.off<=x.off
 | []=>by
   unfold Ner
   refine ⟨fun x hx=>.inl (by simpa using hx),fun x hx=>?_⟩
   rcases hx with rfl | hx
   ·exact ⟨x,by simp,⟨rfl,rfl⟩,Oq _⟩
   ·cases hx
 | y::l=>by
   obtain ⟨f,g⟩:=Nro (m:=m) (l:=l)
   unfold Ner
   split
   ·refine ⟨fun x hx=>?_,fun x hx=>?_⟩
    ·rcases Np.mp hx with rfl | hx
     ·exact .inr No
     ·rcases f x hx with q | q
      ·exact .inl q
      ·exact .inr (Nj _ q)
    ·have out:x=m\/x∈l->∃z∈y::Ner m l,RO x z/\z.off<=x.off:=fun q=>by
      obtain ⟨z,e,w⟩:=g x q
      exact ⟨z,Nj _ e,w⟩
     rcases hx with rfl | hx
     ·exact out (.inl rfl)
     ·rcases Np.mp hx with rfl | hx
      ·exact ⟨x,No,⟨rfl,rfl⟩,Oq _⟩
      ·exact out (.inr hx)
   ·split
    ·rename_i hn hs
     refine ⟨fun x hx=>?_,fun x hx=>?_⟩
     ·rcases Np.mp hx with h | hx
      ·split at h
       ·left
        subst h
        obtain ⟨a,b,c⟩:=m
        unfold RO at hs
        simp only at hs⊢
        rw [hs.1,hs.2]
       ·right;rw [h];exact No
      ·exact .inr (Nj _ hx)
     ·have hd:RO m (if m.off<y.off then { y with off:=m.off } else y)/\(if m.off<y.off then { y with off:=m.off } else y).off<=m.off/\RO y (if m.off<y.off then { y with off:=m.off } else y)/\(if m.off<y.off then { y with off:=m.off } else y).off<=y.off:=by
       unfold RO at hs⊢
       split
       ·rename_i d;exact ⟨⟨hs.1.symm,hs.2.symm⟩,Oq _,⟨rfl,rfl⟩,Int.le_of_lt d⟩
       ·exact ⟨⟨hs.1.symm,hs.2.symm⟩,by omega,⟨rfl,rfl⟩,Oq _⟩
      rcases hx with rfl | hx
      ·exact ⟨_,No,hd.1,hd.2.1⟩
      ·rcases Np.mp hx with rfl | hx
       ·exact ⟨_,No,hd.2.2.1,hd.2.2.2⟩
       ·exact ⟨x,Nj _ hx,⟨rfl,rfl⟩,Oq _⟩
    ·refine ⟨fun x hx=>?_,fun x hx=>?_⟩
     ·rcases Np.mp hx with rfl | hx
      ·exact .inl rfl
      ·exact .inr hx
     ·rcases hx with rfl | hx
      ·exact ⟨x,No,⟨rfl,rfl⟩,Oq _⟩
      ·exact ⟨x,Nj _ hx,⟨rfl,rfl⟩,Oq _⟩
theorem RefOf.add {V out:List Mk} (h:RefOf V out) (m:Mk):RefOf (V++[m]) (Ner m out):=by
 obtain ⟨d,a⟩:=Nro (m:=m) (l:=out)
 refine ⟨(Nrp h.lt).1,fun x hx=>?_,fun x hx=>?_⟩
 ·rcases d x hx with rfl | q
  ·simp
  ·exact Ou _ (h.from' x q)
 ·rcases Oh.mp hx with hx | hx
  ·obtain ⟨y,b,q1,q2⟩:=h.all x hx
   obtain ⟨z,c,q3,e⟩:=a y (.inr b)
   exact ⟨z,c,by unfold RO at *;omega,by omega⟩
  ·rw [Nk] at hx;subst hx
   exact a x (.inl rfl)
end Go.Scan


namespace Go.Net
structure Leg where
 (id frm dst dep mins cut grams days:Int)
 deriving DecidableEq,Inhabited
def OC:Int:=1051898399
def Fine (l:Leg):Prop:=1<=l.id/\l.id<=999999/\1<=l.frm/\l.frm<=999999/\1<=l.dst/\l.dst<=999999/\0<=l.dep/\l.dep<=1439/\1<=l.mins/\l.mins<=20160/\0<=l.cut/\l.cut<=10080/\0<=l.grams/\l.grams<=1000000000/\1<=l.days/\l.days<=127/\l.frm≠l.dst
instance (l:Leg):Decidable (Fine l):=by unfold Fine;infer_instance
def runs (days:Int) (d:Nat):Bool:=days.toNat / 2 ^ (d % 7) % 2 == 1
def goes (l:Leg) (d:Nat):Bool:=runs l.days d&&decide (0<=1440*(d:Int)+l.dep-l.cut)&&decide (1440*(d:Int)+l.dep+l.mins<=OC)
def VN:Nat:=730485
theorem Zu:VN=730485:=rfl
attribute [irreducible] VN
def Dep (l:Leg) (a:Int):Prop:=∃d:Nat,d<VN/\goes l d=true/\a=1440*(d:Int)+l.dep
def Zi (l:Leg) (r:Int):Option Nat:=(List.range VN).find? fun (d:Nat)=>goes l d&&decide (r<=1440*(d:Int)+l.dep-l.cut)
def RY (l:Leg) (r:Int):Option Int:=(Zi l r).map fun (d:Nat)=>1440*(d:Int)+l.dep
def Nc6 (l:Leg) (b:Int):Option Nat:=((List.range VN).find? fun (d:Nat)=>goes l (VN-1-d)&&decide (1440*((VN-1-d:Nat):Int)+l.dep+l.mins<=b)).map fun (d:Nat)=>VN-1-d
def SS (l:Leg) (b:Int):Option Int:=(Nc6 l b).map fun (d:Nat)=>1440*(d:Int)+l.dep
theorem find_range {n:Nat} {p:Nat->Bool} {i:Nat}:(List.range n).find? p=some i↔p i=true/\i<n/\∀j,j<i->p j=false:=by
 rw [List.find?_range_eq_some];simp
theorem V7 {n:Nat} {p:Nat->Bool}:(List.range n).find? p=none↔∀j,j<n->p j=false:=by
 rw [List.find?_range_eq_none];simp
theorem RX {l:Leg} {r a:Int} (h:RY l r=some a):Dep l a/\r<=a-l.cut/\∀b,Dep l b->r<=b-l.cut->a<=b:=by
 unfold RY Zi at h
 obtain ⟨d,hd,rfl⟩:=Nc.1 h
 obtain ⟨h1,h2,f⟩:=find_range.1 hd
 simp only [Nz,Oa] at h1
 refine ⟨⟨d,h2,h1.1,rfl⟩,h1.2,fun b ⟨e,he,i,g⟩ hr=>?_⟩
 subst g
 by_cases c:e<d
 ·have:=f e c
  simp only [i,Bool.true_and,decide_eq_false_iff_not] at this
  omega
 ·omega
theorem Neg {l:Leg} {r:Int} (h:RY l r=none):∀b,Dep l b->b-l.cut<r:=by
 unfold RY Zi at h
 rw [Option.map_eq_none_iff,V7] at h
 intro b ⟨e,he,a,c⟩
 have:=h e he
 simp only [a,Bool.true_and,decide_eq_false_iff_not] at this
 omega
theorem Tw {l:Leg} {b a:Int} (h:SS l b=some a):Dep l a/\a+l.mins<=b/\∀c,Dep l c->c+l.mins<=b->c<=a:=by
 unfold SS Nc6 at h
 obtain ⟨d,hd,rfl⟩:=Nc.1 h
 obtain ⟨g,f,rfl⟩:=Nc.1 hd
 obtain ⟨h1,h2,i⟩:=find_range.1 f
 simp only [Nz,Oa] at h1
 refine ⟨⟨VN-1-g,by omega,h1.1,rfl⟩,h1.2,fun c ⟨e,he,j,hc⟩ hr=>?_⟩
 subst hc
 by_cases k:VN-1-g<e
 ·have:=i (VN-1-e) (by omega)
  rw [show VN-1-(VN-1-e)=e by omega] at this
  simp only [j,Bool.true_and,decide_eq_false_iff_not] at this
  omega
 ·omega
theorem Nem {l:Leg} {b:Int} (h:SS l b=none):∀c,Dep l c->b<c+l.mins:=by
 unfold SS Nc6 at h
 rw [Option.map_eq_none_iff,Option.map_eq_none_iff,V7] at h
 intro c ⟨e,he,a,hc⟩
 have:=h (VN-1-e) (by omega)
 rw [show VN-1-(VN-1-e)=e by omega] at this
 simp only [a,Bool.true_and,decide_eq_false_iff_not] at this
 omega
inductive Way (L:List Leg):Nat->Int->Int->Int->Int->Prop where
 | nil (p t:Int):Way L 0 p t p t
 | snoc {k:Nat} {p t m s a:Int} {l:Leg}:Way L k p t m s->l∈L->l.frm=m->Dep l a->s<=a-l.cut->Way L (k+1) p t l.dst (a+l.mins)
theorem Way.later {L:List Leg} {k:Nat} {p t q u:Int} (h:Way L k p t q u) (hL:∀l∈L,Fine l):t<=u:=by
 induction h with
 | nil=>omega
 | snoc h hl a hd hs ih=>have:=hL _ hl;unfold Fine at this;omega
theorem Way.early {L:List Leg} {k:Nat} {p t b q u:Int} (h:Way L k p t q u) (c:b<=t):(k=0/\p=q/\u=t)\/Way L k p b q u:=by
 induction h with
 | nil=>exact .inl ⟨rfl,rfl,rfl⟩
 | snoc h hl a hd hs ih=>
   rcases ih c with ⟨rfl,rfl,rfl⟩ | ih
   ·exact .inr (.snoc (.nil _ _) hl a hd (by omega))
   ·exact .inr (.snoc ih hl a hd hs)
theorem Way.mono {L M:List Leg} {k:Nat} {p t q u:Int} (h:Way L k p t q u) (hs:∀l∈L,l∈M):Way M k p t q u:=by
 induction h with
 | nil=>exact .nil _ _
 | snoc h hl a hd hr ih=>exact .snoc ih (hs _ hl) a hd hr
theorem Way.trans {L:List Leg} {k j:Nat} {p t m s q u:Int} (h:Way L k p t m s) (h2:Way L j m s q u):Way L (k+j) p t q u:=by
 induction h2 with
 | nil=>exact h
 | snoc h2 hl a hd hr ih=>exact .snoc (ih h) hl a hd hr
theorem Way.cons {L:List Leg} {k:Nat} {p t a q u:Int} {l:Leg} (hl:l∈L) (b:l.frm=p) (hd:Dep l a) (hr:t<=a-l.cut) (h:Way L k l.dst (a+l.mins) q u):Way L (k+1) p t q u:=by
 have:=(Way.snoc (.nil p t) hl b hd hr).trans h
 rwa [N6,Rk] at this
theorem Way.head {L:List Leg} {k:Nat} {p t q u:Int} (h:Way L (k+1) p t q u):∃l∈L,∃a,l.frm=p/\Dep l a/\t<=a-l.cut/\Way L k l.dst (a+l.mins) q u:=by
 generalize hk:k+1=n at h
 induction h generalizing k with
 | nil=>omega
 | @snoc j p t m s a l h hl hf hd hr ih=>
   cases j with
   | zero=>
     cases h
     obtain rfl:k=0:=by omega
     exact ⟨l,hl,a,hf,hd,hr,.nil _ _⟩
   | succ i=>
     obtain ⟨e,b,a',h1,h2,c,d⟩:=ih rfl
     obtain rfl:k=i+1:=by omega
     exact ⟨e,b,a',h1,h2,c,.snoc d hl hf hd hr⟩
def Sz (S:Int->Prop) (v:Int):Prop:=(v=-1/\∀u,¬S u)\/(S v/\∀u,S u->v<=u)
theorem Sz.uniq {S:Int->Prop} {v w:Int} (h:Sz S v) (h':Sz S w):v=w:=by
 rcases h with ⟨h1,h2⟩ | ⟨h1,h2⟩<;>rcases h' with ⟨a,b⟩ | ⟨a,b⟩
 ·omega
 ·exact absurd a (h2 _)
 ·exact absurd h1 (b _)
 ·have:=h2 _ a;have:=b _ h1;omega
theorem Sz.congr {S T:Int->Prop} {v:Int} (h:Sz S v) (e:∀u,S u↔T u):Sz T v:=by
 rcases h with ⟨h1,h2⟩ | ⟨h1,h2⟩
 ·exact .inl ⟨h1,fun u a=>h2 u ((e u).2 a)⟩
 ·exact .inr ⟨(e v).1 h1,fun u a=>h2 u ((e u).2 a)⟩
theorem Sz.mem {S:Int->Prop} {v:Int} (h:Sz S v) (hv:0<=v):S v:=by
 rcases h with ⟨h1,h2⟩ | ⟨h1,h2⟩
 ·omega
 ·exact h1
theorem Sz.none {S:Int->Prop} {v:Int} (h:Sz S v) (a:∀u,S u->0<=u) (hv:v<0):∀u,¬S u:=by
 rcases h with ⟨h1,h2⟩ | ⟨h1,h2⟩
 ·exact h2
 ·have:=a _ h1;omega
theorem Sz.le {S:Int->Prop} {v u:Int} (h:Sz S v) (a:S u):v<=u:=by
 rcases h with ⟨h1,h2⟩ | ⟨h1,h2⟩
 ·exact absurd a (h2 _)
 ·exact h2 _ a
theorem Sz.one {S:Int->Prop} {v x:Int} (h:Sz S v) (a:∀u,S u->0<=u) (b:0<=x):Sz (fun u=>S u\/u=x) (if v<0\/x<v then x else v):=by
 by_cases hc:v<0\/x<v
 ·rw [Ni hc]
  refine .inr ⟨.inr rfl,fun u hu=>?_⟩
  rcases hu with hu | hu
  ·rcases hc with hc | hc
   ·exact absurd hu (h.none a hc u)
   ·have:=h.le hu;omega
  ·omega
 ·rw [Nh hc]
  have:=h.mem (by omega)
  refine .inr ⟨.inl this,fun u hu=>?_⟩
  rcases hu with hu | hu
  ·exact h.le hu
  ·omega
def X7 (pos:Int->Nat) (lim:Int) (bef aft:List Int) (l:Leg):List Int:=
 if bef.getD (pos l.frm) (-1)<0 then aft else
 match RY l (bef.getD (pos l.frm) (-1)) with
 | some a=>if a+l.mins<=lim/\(aft.getD (pos l.dst) (-1)<0\/a+l.mins<aft.getD (pos l.dst) (-1)) then aft.set (pos l.dst) (a+l.mins) else aft
 | none=>aft
def VA (pos:Int->Nat) (lim:Int) (L:List Leg) (bef:List Int):List Int:=L.foldl (X7 pos lim bef) bef
theorem Ndj {pos:Int->Nat} {lim:Int} {bef aft:List Int} {l:Leg}:(X7 pos lim bef aft l).length=aft.length:=by
 unfold X7
 split
 ·rfl
 ·split
  ·split
   ·simp
   ·rfl
  ·rfl
theorem Nhl {pos:Int->Nat} {lim:Int} {bef:List Int}:∀{L:List Leg} {aft:List Int},(L.foldl (X7 pos lim bef) aft).length=aft.length
 | [],_=>rfl
 | l::L,aft=>by rw [Oi,Nhl,Ndj]
theorem Zc {pos:Int->Nat} {lim:Int} {L:List Leg} {bef:List Int}:(VA pos lim L bef).length=bef.length:=Nhl
def Nju (pos:Int->Nat) (lim:Int) (bef:List Int) (l:Leg) (q:Nat) (u:Int):Prop:=
 pos l.dst=q/\0<=bef.getD (pos l.frm) (-1)/\∃a,RY l (bef.getD (pos l.frm) (-1))=some a/\u=a+l.mins/\u<=lim
theorem Dep.nonneg {l:Leg} {a:Int} (h:Dep l a) (hl:Fine l):0<=a:=by
 obtain ⟨d,_,_,rfl⟩:=h
 unfold Fine at hl;omega
theorem Nju.nonneg {pos:Int->Nat} {lim:Int} {bef:List Int} {l:Leg} {q:Nat} {u:Int} (h:Nju pos lim bef l q u) (hl:Fine l):0<=u:=by
 obtain ⟨_,_,a,h1,h2,_⟩:=h
 have:=(RX h1).1.nonneg hl
 unfold Fine at hl;omega
theorem Xp {L:List Int} {i j:Nat} {x d:Int} (hi:i<L.length):(L.set i x).getD j d=if i=j then x else L.getD j d:=by
 rw [Na,N1]
 by_cases h:i=j
 ·simp [h,show j<L.length by omega]
 ·simp [h,Na]
theorem Nwy {pos:Int->Nat} {lim:Int} {bef aft:List Int} {l:Leg} {q:Nat} {S:Int->Prop} (hl:Fine l) (hp:pos l.dst<aft.length) (k:∀u,S u->0<=u) (h:Sz S (aft.getD q (-1))) :
  Sz (fun u=>S u\/Nju pos lim bef l q u) ((X7 pos lim bef aft l).getD q (-1)):=by
 unfold X7
 by_cases hs:bef.getD (pos l.frm) (-1)<0
 ·rw [Ni hs]
  exact h.congr fun u=>⟨.inl,fun c=>c.elim id fun d=>absurd d.2.1 (by omega)⟩
 rw [Nh hs]
 cases hn:RY l (bef.getD (pos l.frm) (-1)) with
 | none=>
   simp only []
   exact h.congr fun u=>⟨.inl,fun c=>c.elim id fun ⟨_,_,a,j,_⟩=>by rw [hn] at j;cases j⟩
 | some a=>
   simp only []
   have i:0<=a+l.mins:=by have:=(RX hn).1.nonneg hl;unfold Fine at hl;omega
   by_cases f:a+l.mins<=lim
   ·by_cases g:pos l.dst=q
    ·have e:((if a+l.mins<=lim/\(aft.getD (pos l.dst) (-1)<0\/a+l.mins<aft.getD (pos l.dst) (-1)) then aft.set (pos l.dst) (a+l.mins) else aft).getD q (-1))=if aft.getD q (-1)<0\/a+l.mins<aft.getD q (-1) then a+l.mins else aft.getD q (-1):=by
      subst g
      by_cases hc:aft.getD (pos l.dst) (-1)<0\/a+l.mins<aft.getD (pos l.dst) (-1)
      ·rw [Ni ⟨f,hc⟩,Ni hc,Xp hp,Ni rfl]
      ·rw [Nh (fun h=>hc h.2),Nh hc]
     rw [e]
     refine (h.one k i).congr fun u=>⟨fun c=>c.elim .inl fun c=>.inr ⟨g,by omega,a,hn,c,by omega⟩,fun c=>c.elim .inl fun ⟨_,_,b,d,c,_⟩=>?_⟩
     rw [hn] at d;cases d;exact .inr c
    ·have e:((if a+l.mins<=lim/\(aft.getD (pos l.dst) (-1)<0\/a+l.mins<aft.getD (pos l.dst) (-1)) then aft.set (pos l.dst) (a+l.mins) else aft).getD q (-1))=aft.getD q (-1):=by
      split
      ·rw [Xp hp,Nh g]
      ·rfl
     rw [e]
     exact h.congr fun u=>⟨.inl,fun c=>c.elim id fun d=>absurd d.1 g⟩
   ·rw [Nh (fun h=>f h.1)]
    refine h.congr fun u=>⟨.inl,fun c=>c.elim id fun ⟨_,_,b,d,c,hl⟩=>?_⟩
    rw [hn] at d;cases d;omega
theorem Nhk {pos:Int->Nat} {lim:Int} {bef:List Int} {q:Nat}:∀{L:List Leg} {aft:List Int} {S:Int->Prop},(∀l∈L,Fine l/\pos l.dst<aft.length)->(∀u,S u->0<=u)->Sz S (aft.getD q (-1))->
  Sz (fun u=>S u\/∃l∈L,Nju pos lim bef l q u) ((L.foldl (X7 pos lim bef) aft).getD q (-1))
 | [],aft,S,hL,h0,h=>h.congr fun u=>⟨.inl,fun hu=>hu.elim id fun ⟨l,hl,_⟩=>by cases hl⟩
 | l::L,aft,S,hL,h0,h=>by
   obtain ⟨h1,h2⟩:=hL l (No ..)
   rw [Oi]
   refine (Nhk (L:=L) (fun x hx=>?_) (fun u hu=>?_) (Nwy (lim:=lim) (bef:=bef) h1 h2 h0 h)).congr fun u=>?_
   ·rw [Ndj];exact hL x (Nj _ hx)
   ·rcases hu with hu | hu
    ·exact h0 u hu
    ·exact hu.nonneg h1
   ·constructor
    ·rintro ((h | h) | ⟨x,hx,h⟩)
     ·exact .inl h
     ·exact .inr ⟨l,No ..,h⟩
     ·exact .inr ⟨x,Nj _ hx,h⟩
    ·rintro (h | ⟨x,hx,h⟩)
     ·exact .inl (.inl h)
     ·rcases Np.1 hx with rfl | hx
      ·exact .inl (.inr h)
      ·exact .inr ⟨x,hx,h⟩
theorem Sz.dom {S T:Int->Prop} {v:Int} (h:Sz S v) (h1:∀u,S u->T u) (h2:∀u,T u->∃w,w<=u/\S w):Sz T v:=by
 rcases h with ⟨a,b⟩ | ⟨a,b⟩
 ·exact .inl ⟨a,fun u c=>by obtain ⟨w,_,d⟩:=h2 u c;exact b w d⟩
 ·exact .inr ⟨h1 _ a,fun u c=>by obtain ⟨w,e,d⟩:=h2 u c;have:=b w d;omega⟩
structure NetOk (N:Nat) (P:List Int) (L:List Leg) (pos:Int->Nat):Prop where
 fine:∀l∈L,Fine l
 frm:∀l∈L,l.frm∈P
 dst:∀l∈L,l.dst∈P
 inj:∀a∈P,∀b∈P,pos a=pos b->a=b
 lt:∀a∈P,pos a<N
def Zz (N i:Nat) (t:Int):List Int:=(List.replicate N (-1)).set i t
theorem Ned {N i:Nat} {t:Int}:(Zz N i t).length=N:=by simp [Zz]
theorem Nee {N i j:Nat} {t:Int} (hi:i<N):(Zz N i t).getD j (-1)=if i=j then t else -1:=by
 unfold Zz
 rw [Xp (by simpa using hi)]
 split
 ·rfl
 ·rw [Na,Pt];split<;>rfl
def RN (N:Nat) (pos:Int->Nat) (lim:Int) (L:List Leg) (p ready:Int):Nat->List Int
 | 0=>Zz N (pos p) ready
 | k+1=>VA pos lim L (RN N pos lim L p ready k)
theorem U8 {N:Nat} {pos:Int->Nat} {lim:Int} {L:List Leg} {p ready:Int}:∀{k:Nat},(RN N pos lim L p ready k).length=N
 | 0=>Ned
 | k+1=>by rw [RN,Zc,U8]
theorem Xw {N:Nat} {P:List Int} {L:List Leg} {pos:Int->Nat} {lim p ready:Int} (hn:NetOk N P L pos) (hp:p∈P) (hr:0<=ready) (d:ready<=lim):∀(k:Nat) (q:Int),q∈P->
  Sz (fun u=>(∃j,j<=k/\Way L j p ready q u)/\u<=lim) ((RN N pos lim L p ready k).getD (pos q) (-1))
 | 0,q,hq=>by
   rw [RN,Nee (hn.lt p hp)]
   by_cases h:pos p=pos q
   ·rw [Ni h]
    have:=hn.inj p hp q hq h
    subst this
    refine .inr ⟨⟨⟨0,Nd _,.nil _ _⟩,d⟩,fun u ⟨⟨j,n,c⟩,_⟩=>c.later hn.fine⟩
   ·rw [Nh h]
    refine .inl ⟨rfl,fun u ⟨⟨j,n,c⟩,_⟩=>?_⟩
    obtain rfl:j=0:=by omega
    cases c
    exact h rfl
 | k+1,q,hq=>by
   have ih:=Xw hn hp hr d k
   have z:∀q u,((∃j,j<=k/\Way L j p ready q u)/\u<=lim)->0<=u:=fun q u ⟨⟨j,_,c⟩,_⟩=>by have:=c.later hn.fine;omega
   rw [RN,VA]
   refine (Nhk (L:=L) (fun l hl=>⟨hn.fine l hl,by rw [U8];exact hn.lt _ (hn.dst l hl)⟩) (z q) (ih q hq)).dom (fun u r=>?_) (fun u r=>?_)
   ·rcases r with ⟨⟨j,n,c⟩,hl⟩ | ⟨l,hl,hd,hs,a,A,rfl,e⟩
    ·exact ⟨⟨j,by omega,c⟩,hl⟩
    ·obtain ⟨⟨j,n,c⟩,i⟩:=(ih l.frm (hn.frm l hl)).mem hs
     obtain ⟨w,x,y⟩:=RX A
     have:=hn.inj _ (hn.dst l hl) q hq hd
     subst this
     exact ⟨⟨j+1,by omega,.snoc c hl rfl w x⟩,e⟩
   ·obtain ⟨⟨j,n,c⟩,v⟩:=r
    by_cases f:j<=k
    ·exact ⟨u,Oq _,.inl ⟨⟨j,f,c⟩,v⟩⟩
    ·cases c with
     | nil=>exact absurd (Nx _) f
     | @snoc j' p t m s a l c hl hf hd hs=>
       subst hf
       have o:=hn.fine l hl
       have i:s<=lim:=by unfold Fine at o;omega
       have hS:(∃j,j<=k/\Way L j p ready l.frm s)/\s<=lim:=⟨⟨j',by omega,c⟩,i⟩
       have B:=(ih l.frm (hn.frm l hl)).le hS
       have g:0<=(RN N pos lim L p ready k).getD (pos l.frm) (-1):=by
        apply Og;intro hc
        exact (ih l.frm (hn.frm l hl)).none (z _) (by omega) s hS
       cases hnx:RY l ((RN N pos lim L p ready k).getD (pos l.frm) (-1)) with
       | none=>have:=Neg hnx a hd;omega
       | some b=>
         obtain ⟨w,x,y⟩:=RX hnx
         have:=y a hd (by omega)
         exact ⟨b+l.mins,by omega,.inr ⟨l,hl,rfl,g,b,hnx,rfl,by omega⟩⟩
theorem Nfp {N:Nat} {pos:Int->Nat} {lim:Int} {L:List Leg} {p ready:Int} {k:Nat} (h:RN N pos lim L p ready (k+1)=RN N pos lim L p ready k):∀j,RN N pos lim L p ready (k+j)=RN N pos lim L p ready k
 | 0=>rfl
 | j+1=>by rw [<-O7,RN,Nfp h j];exact h
theorem Nfq {N:Nat} {P:List Int} {L:List Leg} {pos:Int->Nat} {lim p ready:Int} (hn:NetOk N P L pos) (hp:p∈P) (hr:0<=ready) (a:ready<=lim) {k:Nat} (h:RN N pos lim L p ready (k+1)=RN N pos lim L p ready k) (q:Int) (e:q∈P) :
  Sz (fun u=>(∃j,Way L j p ready q u)/\u<=lim) ((RN N pos lim L p ready k).getD (pos q) (-1)):=by
 refine (Xw hn hp hr a k q e).dom (fun u ⟨⟨j,_,b⟩,hl⟩=>⟨⟨j,b⟩,hl⟩) (fun u ⟨⟨j,b⟩,hl⟩=>?_)
 have hm:=Xw hn hp hr a (k+j) q e
 rw [Nfp h] at hm
 have d:=hm.le ⟨⟨j,by omega,b⟩,hl⟩
 have hk:=Xw hn hp hr a k q e
 have g:∀u,((∃f,f<=k+j/\Way L f p ready q u)/\u<=lim)->0<=u:=fun u ⟨⟨j,_,b⟩,_⟩=>by have:=b.later hn.fine;omega
 have c:0<=(RN N pos lim L p ready k).getD (pos q) (-1):=by
  apply Og;intro hc
  exact hm.none g (by omega) u ⟨⟨j,by omega,b⟩,hl⟩
 exact ⟨_,d,hk.mem c⟩
def Npt (ready lim t:Int):Nat:=if t<0 then (lim-ready).toNat+1 else (t-ready).toNat
def muA (ready lim:Int) (T:List Int):Nat:=(T.map (Npt ready lim)).sum
def WV (ready lim:Int) (T:List Int):Prop:=∀t∈T,t=-1\/ready<=t/\t<=lim
theorem Nym {ready lim:Int}:∀{T:List Int},WV ready lim T->muA ready lim T<=T.length*((lim-ready).toNat+1)
 | [],_=>by simp [muA]
 | t::T,h=>by
   have ih:=Nym (T:=T) fun x a=>h x (Nj _ a)
   have h1:=h t (No ..)
   unfold muA at ih⊢
   simp only [Of,List.sum_cons,Nl,Pk]
   have:Npt ready lim t<=(lim-ready).toNat+1:=by unfold Npt;split<;>omega
   omega
theorem Nyl {f:Int->Nat}:∀{T:List Int} {i:Nat} {x:Int} (hi:i<T.length),((T.set i x).map f).sum+f (T.getD i (-1))=(T.map f).sum+f x
 | t::T,0,x,_=>by simp;omega
 | t::T,i+1,x,hi=>by
   have:=Nyl (f:=f) (T:=T) (i:=i) (x:=x) (by simpa using hi)
   simp only [Q2,Of,List.sum_cons,List.getD_cons_succ]
   omega
theorem N1v {pos:Int->Nat} {ready lim:Int} {bef aft:List Int} {l:Leg} (g:WV ready lim bef) (b:WV ready lim aft) (hl:Fine l) (hd:pos l.dst<aft.length) (hr:0<=ready) :
  WV ready lim (X7 pos lim bef aft l)/\(X7 pos lim bef aft l=aft\/muA ready lim (X7 pos lim bef aft l)<muA ready lim aft):=by
 unfold X7
 by_cases hs:bef.getD (pos l.frm) (-1)<0
 ·rw [Ni hs];exact ⟨b,.inl rfl⟩
 rw [Nh hs]
 cases hn:RY l (bef.getD (pos l.frm) (-1)) with
 | none=>exact ⟨b,.inl rfl⟩
 | some a=>
   simp only []
   split
   case isFalse=>exact ⟨b,.inl rfl⟩
   rename_i hc
   obtain ⟨m,n,o⟩:=RX hn
   have i:ready<=bef.getD (pos l.frm) (-1):=by
    by_cases h:pos l.frm<bef.length
    ·have e:bef.getD (pos l.frm) (-1)=bef[pos l.frm]:=by rw [Na,Nf h];rfl
     have:=g _ (Qj h)
     rw [e] at hs⊢;omega
    ·rw [Na,Nw (by omega)] at hs;exact absurd (by decide) hs
   have c:=hl
   unfold Fine at c
   have j:ready<=a+l.mins/\a+l.mins<=lim:=⟨by omega,hc.1⟩
   have d:aft.getD (pos l.dst) (-1)=-1\/ready<=aft.getD (pos l.dst) (-1)/\aft.getD (pos l.dst) (-1)<=lim:=by
    have e:aft.getD (pos l.dst) (-1)=aft[pos l.dst]:=by rw [Na,Nf hd];rfl
    rw [e];exact b _ (Qj hd)
   refine ⟨fun t k=>?_,.inr ?_⟩
   ·rcases Q5 k with h | h
    ·exact b t h
    ·exact .inr (by omega)
   ·have:=Nyl (f:=Npt ready lim) (x:=a+l.mins) hd
    unfold muA
    have e1:Npt ready lim (a+l.mins)<Npt ready lim (aft.getD (pos l.dst) (-1)):=by
     unfold Npt
     rw [Nh (by omega)]
     split<;>omega
    omega
theorem Nma {pos:Int->Nat} {ready lim:Int} {bef:List Int} (a:WV ready lim bef) (hr:0<=ready):∀{L:List Leg} {aft:List Int},(∀l∈L,Fine l/\pos l.dst<aft.length)->WV ready lim aft->
  WV ready lim (L.foldl (X7 pos lim bef) aft)/\(L.foldl (X7 pos lim bef) aft=aft\/muA ready lim (L.foldl (X7 pos lim bef) aft)<muA ready lim aft)
 | [],aft,hL,ha=>⟨ha,.inl rfl⟩
 | l::L,aft,hL,ha=>by
   obtain ⟨h1,h2⟩:=hL l (No ..)
   obtain ⟨b,g2⟩:=N1v (l:=l) a ha h1 h2 hr
   obtain ⟨k1,k2⟩:=Nma a hr (L:=L) (aft:=X7 pos lim bef aft l) (fun x c=>by rw [Ndj];exact hL x (Nj _ c)) b
   rw [Oi]
   refine ⟨k1, ?_⟩
   rcases k2 with k2 | k2
   ·rw [k2];exact g2
   ·rcases g2 with g2 | g2
    ·rw [g2] at k2⊢;exact .inr k2
    ·exact .inr (by omega)
theorem Nka {pos:Int->Nat} {ready lim:Int} {bef:List Int} {L:List Leg} (a:WV ready lim bef) (hr:0<=ready) (hL:∀l∈L,Fine l/\pos l.dst<bef.length) :
  WV ready lim (VA pos lim L bef)/\(VA pos lim L bef=bef\/muA ready lim (VA pos lim L bef)<muA ready lim bef):=Nma a hr hL a
def TK (L:List Leg) (p ready q v:Int):Prop:=Sz (fun u=>(∃j,Way L j p ready q u)/\u<=ready+86400) v
theorem TK.start {L:List Leg} {p ready v:Int} (h:TK L p ready p v) (hL:∀l∈L,Fine l):v=ready:=
 Sz.uniq h (.inr ⟨⟨⟨0,.nil _ _⟩,by omega⟩,fun u ⟨⟨j,a⟩,_⟩=>a.later hL⟩)
theorem TK.ge {L:List Leg} {p ready q v:Int} (h:TK L p ready q v) (hL:∀l∈L,Fine l) (hv:0<=v):ready<=v/\v<=ready+86400:=by
 obtain ⟨⟨j,a⟩,hl⟩:=h.mem hv
 exact ⟨a.later hL,hl⟩
theorem TK.later {L:List Leg} {p a b q x y:Int} (e:TK L p a q x) (h:TK L p b q y) (d:a<=b) (f:0<=y):x<=y:=by
 obtain ⟨⟨j,g⟩,hl⟩:=h.mem f
 by_cases c:y<=a+86400
 ·rcases g.early d with ⟨rfl,rfl,rfl⟩ | hw'
  ·have:=e.le (u:=a) ⟨⟨0,.nil _ _⟩,by omega⟩;omega
  ·exact e.le ⟨⟨j,hw'⟩,c⟩
 ·rcases e with ⟨h1,_⟩ | ⟨⟨_,h1⟩,_⟩<;>omega
theorem TK.same {L M:List Leg} {p t q x y:Int} (b:TK L p t q x) (c:TK M p t q y) (hs:∀l,l∈M↔l∈L):x=y:=
 b.uniq (c.congr fun u=>⟨fun ⟨⟨j,a⟩,hl⟩=>⟨⟨j,a.mono fun l h=>(hs l).1 h⟩,hl⟩,fun ⟨⟨j,a⟩,hl⟩=>⟨⟨j,a.mono fun l h=>(hs l).2 h⟩,hl⟩⟩)
def Tq (S:Int->Prop) (v:Int):Prop:=(v=-1/\∀u,¬S u)\/(S v/\∀u,S u->u<=v)
theorem Tq.uniq {S:Int->Prop} {v w:Int} (h:Tq S v) (h':Tq S w):v=w:=by
 rcases h with ⟨h1,h2⟩ | ⟨h1,h2⟩<;>rcases h' with ⟨a,b⟩ | ⟨a,b⟩
 ·omega
 ·exact absurd a (h2 _)
 ·exact absurd h1 (b _)
 ·have:=h2 _ a;have:=b _ h1;omega
theorem Tq.congr {S T:Int->Prop} {v:Int} (h:Tq S v) (e:∀u,S u↔T u):Tq T v:=by
 rcases h with ⟨h1,h2⟩ | ⟨h1,h2⟩
 ·exact .inl ⟨h1,fun u a=>h2 u ((e u).2 a)⟩
 ·exact .inr ⟨(e v).1 h1,fun u a=>h2 u ((e u).2 a)⟩
theorem Tq.mem {S:Int->Prop} {v:Int} (h:Tq S v) (hv:0<=v):S v:=by
 rcases h with ⟨h1,h2⟩ | ⟨h1,h2⟩
 ·omega
 ·exact h1
theorem Tq.none {S:Int->Prop} {v:Int} (h:Tq S v) (a:∀u,S u->0<=u) (hv:v<0):∀u,¬S u:=by
 rcases h with ⟨h1,h2⟩ | ⟨h1,h2⟩
 ·exact h2
 ·have:=a _ h1;omega
theorem Tq.ge {S:Int->Prop} {v u:Int} (h:Tq S v) (a:S u):u<=v:=by
 rcases h with ⟨h1,h2⟩ | ⟨h1,h2⟩
 ·exact absurd a (h2 _)
 ·exact h2 _ a
theorem Tq.one {S:Int->Prop} {v x:Int} (h:Tq S v) (a:∀u,S u->0<=u) (b:0<=x):Tq (fun u=>S u\/u=x) (if v<x then x else v):=by
 by_cases hc:v<x
 ·rw [Ni hc]
  refine .inr ⟨.inr rfl,fun u hu=>?_⟩
  rcases hu with hu | hu
  ·have:=h.ge hu;omega
  ·omega
 ·rw [Nh hc]
  have:=h.mem (by omega)
  refine .inr ⟨.inl this,fun u hu=>?_⟩
  rcases hu with hu | hu
  ·exact h.ge hu
  ·omega
theorem Tq.dom {S T:Int->Prop} {v:Int} (h:Tq S v) (h1:∀u,S u->T u) (h2:∀u,T u->∃w,u<=w/\S w):Tq T v:=by
 rcases h with ⟨a,b⟩ | ⟨a,b⟩
 ·exact .inl ⟨a,fun u c=>by obtain ⟨w,_,d⟩:=h2 u c;exact b w d⟩
 ·exact .inr ⟨h1 _ a,fun u c=>by obtain ⟨w,e,d⟩:=h2 u c;have:=b w d;omega⟩
def Nj0 (pos:Int->Nat) (low:Int) (bef aft:List Int) (l:Leg):List Int:=
 if bef.getD (pos l.dst) (-1)<0 then aft else
 match SS l (bef.getD (pos l.dst) (-1)) with
 | some a=>if low<=a-l.cut/\aft.getD (pos l.frm) (-1)<a-l.cut then aft.set (pos l.frm) (a-l.cut) else aft
 | none=>aft
theorem Nwx {pos:Int->Nat} {low:Int} {bef aft:List Int} {l:Leg}:(Nj0 pos low bef aft l).length=aft.length:=by
 unfold Nj0
 split
 ·rfl
 ·split
  ·split
   ·simp
   ·rfl
  ·rfl
def Nr0 (pos:Int->Nat) (low:Int) (bef:List Int) (l:Leg) (q:Nat) (u:Int):Prop:=
 pos l.frm=q/\0<=bef.getD (pos l.dst) (-1)/\∃a,SS l (bef.getD (pos l.dst) (-1))=some a/\u=a-l.cut/\low<=u
theorem Dep.ready {l:Leg} {a:Int} (h:Dep l a):0<=a-l.cut:=by
 obtain ⟨d,_,b,rfl⟩:=h
 unfold goes at b
 simp only [Nz,Oa] at b
 omega
theorem Nr0.nonneg {pos:Int->Nat} {low:Int} {bef:List Int} {l:Leg} {q:Nat} {u:Int} (h:Nr0 pos low bef l q u):0<=u:=by
 obtain ⟨_,_,a,h1,h2,_⟩:=h
 have:=(Tw h1).1.ready
 omega
theorem Nww {pos:Int->Nat} {low:Int} {bef aft:List Int} {l:Leg} {q:Nat} {S:Int->Prop} (hp:pos l.frm<aft.length) (k:∀u,S u->0<=u) (h:Tq S (aft.getD q (-1))) :
  Tq (fun u=>S u\/Nr0 pos low bef l q u) ((Nj0 pos low bef aft l).getD q (-1)):=by
 unfold Nj0
 by_cases hs:bef.getD (pos l.dst) (-1)<0
 ·rw [Ni hs]
  exact h.congr fun u=>⟨.inl,fun c=>c.elim id fun d=>absurd d.2.1 (by omega)⟩
 rw [Nh hs]
 cases hn:SS l (bef.getD (pos l.dst) (-1)) with
 | none=>
   simp only []
   exact h.congr fun u=>⟨.inl,fun c=>c.elim id fun ⟨_,_,a,j,_⟩=>by rw [hn] at j;cases j⟩
 | some a=>
   simp only []
   have i:0<=a-l.cut:=(Tw hn).1.ready
   by_cases f:low<=a-l.cut
   ·by_cases g:pos l.frm=q
    ·have e:((if low<=a-l.cut/\aft.getD (pos l.frm) (-1)<a-l.cut then aft.set (pos l.frm) (a-l.cut) else aft).getD q (-1))=if aft.getD q (-1)<a-l.cut then a-l.cut else aft.getD q (-1):=by
      subst g
      by_cases hc:aft.getD (pos l.frm) (-1)<a-l.cut
      ·rw [Ni ⟨f,hc⟩,Ni hc,Xp hp,Ni rfl]
      ·rw [Nh (fun h=>hc h.2),Nh hc]
     rw [e]
     refine (h.one k i).congr fun u=>⟨fun c=>c.elim .inl fun c=>.inr ⟨g,by omega,a,hn,c,by omega⟩,fun c=>c.elim .inl fun ⟨_,_,b,d,c,_⟩=>?_⟩
     rw [hn] at d;cases d;exact .inr c
    ·have e:((if low<=a-l.cut/\aft.getD (pos l.frm) (-1)<a-l.cut then aft.set (pos l.frm) (a-l.cut) else aft).getD q (-1))=aft.getD q (-1):=by
      split
      ·rw [Xp hp,Nh g]
      ·rfl
     rw [e]
     exact h.congr fun u=>⟨.inl,fun c=>c.elim id fun d=>absurd d.1 g⟩
   ·rw [Nh (fun h=>f h.1)]
    refine h.congr fun u=>⟨.inl,fun c=>c.elim id fun ⟨_,_,b,d,c,hl⟩=>?_⟩
    rw [hn] at d;cases d;omega
theorem Nhj {pos:Int->Nat} {low:Int} {bef:List Int} {q:Nat}:∀{L:List Leg} {aft:List Int} {S:Int->Prop},(∀l∈L,pos l.frm<aft.length)->(∀u,S u->0<=u)->Tq S (aft.getD q (-1))->
  Tq (fun u=>S u\/∃l∈L,Nr0 pos low bef l q u) ((L.foldl (Nj0 pos low bef) aft).getD q (-1))
 | [],aft,S,hL,h0,h=>h.congr fun u=>⟨.inl,fun hu=>hu.elim id fun ⟨l,hl,_⟩=>by cases hl⟩
 | l::L,aft,S,hL,h0,h=>by
   rw [Oi]
   refine (Nhj (L:=L) (fun x hx=>?_) (fun u hu=>?_) (Nww (low:=low) (bef:=bef) (hL l (No ..)) h0 h)).congr fun u=>?_
   ·rw [Nwx];exact hL x (Nj _ hx)
   ·rcases hu with hu | hu
    ·exact h0 u hu
    ·exact hu.nonneg
   ·constructor
    ·rintro ((h | h) | ⟨x,hx,h⟩)
     ·exact .inl h
     ·exact .inr ⟨l,No ..,h⟩
     ·exact .inr ⟨x,Nj _ hx,h⟩
    ·rintro (h | ⟨x,hx,h⟩)
     ·exact .inl (.inl h)
     ·rcases Np.1 hx with rfl | hx
      ·exact .inl (.inr h)
      ·exact .inr ⟨x,hx,h⟩
def ZR (L:List Leg) (q a p v:Int):Prop:=Tq (fun u=>0<=u/\a-86400<=u/\∃j v,v<=a/\Way L j p u q v) v
theorem ZR.start {L:List Leg} {q dl v:Int} (h:ZR L q dl q v) (hL:∀l∈L,Fine l) (a:0<=dl):v=dl:=
 h.uniq (.inr ⟨⟨a,by omega,0,dl,Oq _,.nil _ _⟩,fun u ⟨_,_,j,v,hv,b⟩=>by have:=b.later hL;omega⟩)
theorem ZR.range {L:List Leg} {q dl p v:Int} (h:ZR L q dl p v) (hL:∀l∈L,Fine l) (hv:0<=v):dl-86400<=v/\v<=dl:=by
 obtain ⟨_,h1,j,u,b,a⟩:=h.mem hv
 have:=a.later hL
 exact ⟨h1,by omega⟩
theorem ZR.later {L:List Leg} {p q a b x y:Int} (i:ZR L q a p x) (e:ZR L q b p y) (hL:∀l∈L,Fine l) (f:a<=b) (c:0<=x) (d:0<=y):x<=y:=by
 obtain ⟨h1,h2,j,v,hv,g⟩:=i.mem c
 by_cases h:b-86400<=x
 ·exact e.ge ⟨h1,h,j,v,by omega,g⟩
 ·have:=(e.range hL d).1;omega
theorem ZR.same {L M:List Leg} {p q d x y:Int} (e:ZR L q d p x) (f:ZR M q d p y) (hs:∀l,l∈M↔l∈L):x=y:=
 e.uniq (f.congr fun u=>⟨fun ⟨a,b,j,v,hv,c⟩=>⟨a,b,j,v,hv,c.mono fun l h=>(hs l).1 h⟩,fun ⟨a,b,j,v,hv,c⟩=>⟨a,b,j,v,hv,c.mono fun l h=>(hs l).2 h⟩⟩)
def Yl (pos:Int->Nat) (bef aft:List Int) (l:Leg):List Int:=
 if bef.getD (pos l.dst) (-1)<0 then aft else
 match SS l (bef.getD (pos l.dst) (-1)) with
 | some a=>aft.set (pos l.frm) (if aft.getD (pos l.frm) (-1)<a-l.cut then a-l.cut else aft.getD (pos l.frm) (-1))
 | none=>aft
def stepX (N:Nat) (pos:Int->Nat) (L:List Leg) (bef:List Int):List Int:=L.foldl (Yl pos bef) (List.replicate N (-1))
theorem Nr8 {pos:Int->Nat} {bef aft:List Int} {l:Leg}:Yl pos bef aft l=Nj0 pos 0 bef aft l:=by
 unfold Yl Nj0
 split
 ·rfl
 cases ha:SS l (bef.getD (pos l.dst) (-1)) with
 | none=>rfl
 | some a=>
   have:=(Tw ha).1.ready
   by_cases h:aft.getD (pos l.frm) (-1)<a-l.cut
   ·simp only [h,this,and_self,if_true]
   ·simp only [h,and_false,if_false]
    apply List.ext_getElem?
    intro i
    rw [N1]
    split
    ·rename_i e;subst e
     split
     ·rename_i hl;rw [Na,Nf hl];rfl
     ·rename_i hl;rw [Nw (by omega)]
    ·rfl
def Nab (N:Nat) (pos:Int->Nat) (L:List Leg) (q a:Int):Nat->List Int
 | 0=>Zz N (pos q) a
 | k+1=>stepX N pos L (Nab N pos L q a k)
theorem N5u {pos:Int->Nat} {bef:List Int}:∀{L:List Leg} {aft:List Int},L.foldl (Yl pos bef) aft=L.foldl (Nj0 pos 0 bef) aft
 | [],_=>rfl
 | l::L,aft=>by rw [Oi,Oi,Nr8,N5u]
theorem Ne2 {N:Nat} {P:List Int} {L:List Leg} {pos:Int->Nat} {q c:Int} (hn:NetOk N P L pos) (m:q∈P) (hr:0<=c):∀(k:Nat) (p:Int),p∈P->
  Tq (fun u=>0<=u/\∃v,v<=c/\Way L k p u q v) ((Nab N pos L q c k).getD (pos p) (-1))
 | 0,p,hp=>by
   rw [Nab,Nee (hn.lt q m)]
   by_cases h:pos q=pos p
   ·rw [Ni h]
    have:=hn.inj q m p hp h
    subst this
    exact .inr ⟨⟨hr,c,Oq _,.nil _ _⟩,fun u ⟨_,v,hv,d⟩=>by have:=d.later hn.fine;omega⟩
   ·rw [Nh h]
    refine .inl ⟨rfl,fun u ⟨_,v,hv,d⟩=>?_⟩
    cases d
    exact h rfl
 | k+1,p,hp=>by
   have ih:=Ne2 hn m hr k
   rw [Nab,stepX,N5u]
   have g:(List.replicate N (-1:Int)).getD (pos p) (-1)=-1:=by
    rw [Na,Pt];split<;>rfl
   refine (Nhj (L:=L) (S:=fun _=>False) (fun l hl=>by rw [Om];exact hn.lt _ (hn.frm l hl)) (fun _ h=>h.elim) (.inl ⟨g,fun _ h=>h⟩)).dom (fun u i=>?_) (fun u i=>?_)
   ·rcases i with i | ⟨l,hl,hd,hs,a,r,rfl,j⟩
    ·exact i.elim
    ·obtain ⟨_,v,hv,d⟩:=(ih l.dst (hn.dst l hl)).mem hs
     obtain ⟨o,s,A⟩:=Tw r
     have:=hn.inj _ (hn.frm l hl) p hp hd
     subst this
     have t:∃v',v'<=c/\Way L k l.dst (a+l.mins) q v':=by
      rcases d.early s with ⟨rfl,e1,e2⟩ | hw'
      ·rw [e1];exact ⟨a+l.mins,by omega,.nil _ _⟩
      ·exact ⟨v,hv,hw'⟩
     obtain ⟨v',n,hw'⟩:=t
     exact ⟨o.ready,v',n,.cons hl rfl o (Oq _) hw'⟩
   ·obtain ⟨z,v,hv,d⟩:=i
    obtain ⟨l,hl,a,w,hd,r,hw'⟩:=d.head
    subst w
    have e:=hn.fine l hl
    have y:=hd.ready
    have x:=(ih l.dst (hn.dst l hl)).ge (u:=a+l.mins) ⟨by unfold Fine at e;omega,v,hv,hw'⟩
    have f:0<=(Nab N pos L q c k).getD (pos l.dst) (-1):=by unfold Fine at e;omega
    cases hnx:SS l ((Nab N pos L q c k).getD (pos l.dst) (-1)) with
    | none=>have:=Nem hnx a hd;omega
    | some b=>
      obtain ⟨q1,q2,q3⟩:=Tw hnx
      have:=q3 a hd (by omega)
      exact ⟨b-l.cut,by omega,.inr ⟨l,hl,rfl,f,b,hnx,rfl,by omega⟩⟩
def RI (L:List Leg):Int->Int->List (Leg×Int)->Int->Int->Prop
 | p,t,[],q,u=>p=q/\t=u
 | p,t,(l,a)::w,q,u=>l∈L/\l.frm=p/\Dep l a/\t<=a-l.cut/\RI L l.dst (a+l.mins) w q u
theorem RI.way {L:List Leg}:∀{w:List (Leg×Int)} {p t q u:Int},RI L p t w q u->Way L w.length p t q u
 | [],p,t,q,u,h=>by obtain ⟨rfl,rfl⟩:=h;exact .nil _ _
 | (l,a)::w,p,t,q,u,h=>by
   obtain ⟨h1,h2,b,c,d⟩:=h
   exact .cons h1 h2 b c d.way
theorem Way.isWay {L:List Leg}:∀{k:Nat} {p t q u:Int},Way L k p t q u->∃w,w.length=k/\RI L p t w q u
 | 0,p,t,q,u,h=>by cases h;exact ⟨[],rfl,rfl,rfl⟩
 | k+1,p,t,q,u,h=>by
   obtain ⟨l,hl,a,d,hd,c,b⟩:=h.head
   obtain ⟨w,e,b⟩:=b.isWay
   exact ⟨(l,a)::w,by simp [e],hl,d,hd,c,b⟩
def Tj (pos:Int->Nat) (late:List Int) (plant there:Int) (l:Leg):Option (Leg×Int):=
 if l.frm=plant then match RY l there with
  | some a=>if a+l.mins<=late.getD (pos l.dst) (-1) then some (l,a) else none
  | none=>none
 else none
def Yd (pos:Int->Nat) (S:List Leg) (late:List Int) (plant there:Int):Option (Leg×Int):=S.findSome? (Tj pos late plant there)
def goW (pos:Int->Nat) (S:List Leg) (late:Nat->List Int):Nat->Int->Int->List (Leg×Int)
 | 0,_,_=>[]
 | k+1,p,t=>match Yd pos S (late k) p t with
   | some (l,a)=>(l,a)::goW pos S late k l.dst (a+l.mins)
   | none=>goW pos S late k p t
def Nlt:List Int->List Int->Prop
 | x::a,y::b=>x<y\/x=y/\Nlt a b
 | _,_=>False
def Z4 (w:List (Leg×Int)):List Int:=w.map fun x=>x.1.id
theorem Y0 {pos:Int->Nat} {late:List Int} {p t:Int} {l:Leg} {r:Leg×Int} (h:Tj pos late p t l=some r):l.frm=p/\r.1=l/\RY l t=some r.2/\r.2+l.mins<=late.getD (pos l.dst) (-1):=by
 unfold Tj at h
 split at h
 case isFalse=>cases h
 rename_i c
 split at h
 case h_2=>cases h
 rename_i a b
 split at h
 case isFalse=>cases h
 rename_i hl
 cases h
 exact ⟨c,rfl,b,hl⟩
theorem Nl6 {N:Nat} {P:List Int} {L S:List Leg} {pos:Int->Nat} {q o:Int} {late:Nat->List Int} (hn:NetOk N P L pos) (U:q∈P) (hr:0<=o)
  (hS:∀l,l∈S↔l∈L) (hs:S.Pairwise fun a b=>a.id<b.id) (c:∀k,late k=Nab N pos L q o k):∀(k:Nat) (p t:Int),p∈P->0<=t->(∃v,v<=o/\Way L k p t q v)->
  (goW pos S late k p t).length=k/\(∃v,v<=o/\RI L p t (goW pos S late k p t) q v)/\
   ∀w' j v',t<=j->RI L p j w' q v'->v'<=o->w'.length=k->¬Nlt (Z4 w') (Z4 (goW pos S late k p t))
 | 0,p,t,hp,ht,⟨v,hv,H⟩=>by
   cases H
   exact ⟨rfl,⟨_,hv,rfl,rfl⟩,fun w' j v' _ _ _ hl=>by cases w' with | nil=>exact fun h=>h | cons=>simp at hl⟩
 | k+1,p,t,hp,ht,⟨v,hv,H⟩=>by
   have can:∀l∈L,∀a j v:Int,l.frm=p->Dep l a->t<=j->j<=a-l.cut->Way L k l.dst (a+l.mins) q v->v<=o->∃b,Tj pos (late k) p t l=some (l,b)/\b<=a:=by
    intro l hl a j v hf hd F ha H hv
    have f:=hn.fine l hl
    have ad:=hd.ready
    have ac:=(Ne2 hn U hr k l.dst (hn.dst l hl)).ge (u:=a+l.mins) ⟨by unfold Fine at f;omega,v,hv,H⟩
    cases I:RY l t with
    | none=>have:=Neg I a hd;omega
    | some b=>
      obtain ⟨q1,q2,q3⟩:=RX I
      have:=q3 a hd (by omega)
      refine ⟨b, ?_,this⟩
      simp only [Tj,hf,if_true,I,c]
      rw [Ni (by omega)]
   obtain ⟨Z,C,a0,O,M,K,X⟩:=H.head
   obtain ⟨b0,B,_⟩:=can Z C a0 t v O M (Oq _) K X hv
   have T:Yd pos S (late k) p t≠none:=by
    intro e
    unfold Yd at e
    rw [List.findSome?_eq_none_iff] at e
    rw [e Z ((hS Z).2 C)] at B;cases B
   cases hp1:Yd pos S (late k) p t with
   | none=>exact absurd hp1 T
   | some r=>
     obtain ⟨l,a⟩:=r
     have E:=hp1
     unfold Yd at E
     obtain ⟨S1,x,S2,z,I,s⟩:=List.findSome?_eq_some_iff.1 E
     obtain ⟨g1,g2,g3,J⟩:=Y0 I
     simp only at g2 g3 J
     subst g2
     have g:l∈L:=(hS l).1 (by rw [z];simp)
     have f:=hn.fine l g
     obtain ⟨q1,q2,q3⟩:=RX g3
     rw [c] at J
     have ae:=q1.ready
     obtain ⟨_,v1,V,Y⟩:=(Ne2 hn U hr k l.dst (hn.dst l g)).mem (by unfold Fine at f;omega)
     have w:∃v,v<=o/\Way L k l.dst (a+l.mins) q v:=by
      rcases Y.early J with ⟨rfl,e1,e2⟩ | hw'
      ·rw [e1];exact ⟨a+l.mins,by omega,.nil _ _⟩
      ·exact ⟨v1,V,hw'⟩
     obtain ⟨i1,⟨v2,W,i2⟩,i3⟩:=Nl6 hn U hr hS hs c k l.dst (a+l.mins) (hn.dst l g) (by unfold Fine at f;omega) w
     have Q:goW pos S late (k+1) p t=(l,a)::goW pos S late k l.dst (a+l.mins):=by simp only [goW,hp1]
     rw [Q]
     refine ⟨by simp [i1],⟨v2,W,g,g1,q1,q2,i2⟩,fun w' j v' F hw' G m=>?_⟩
     cases w' with
     | nil=>simp at m
     | cons y w'=>
       obtain ⟨i,a'⟩:=y
       obtain ⟨h1,h2,h3,h4,h5⟩:=hw'
       have d:w'.length=k:=by simpa using m
       obtain ⟨b',A,aa⟩:=can i h1 a' j v' h2 h3 F h4 (d▸h5.way) G
       intro n
       simp only [Z4,Of,Nlt] at n
       have hin:i∈S:=(hS i).2 h1
       rw [z] at hin hs
       rcases n with D | ⟨ab,D⟩
       ·
        rcases Oh.1 hin with hin | hin
        ·rw [s i hin] at A;cases A
        ·rcases Np.1 hin with rfl | hin
         ·omega
         ·have:=(List.pairwise_cons.1 (Rc.1 hs).2.1).1 i hin;omega
       ·have R:i=l:=by
         rcases Oh.1 hin with hin | hin
         ·have:=(Rc.1 hs).2.2 i hin l (by simp);omega
         ·rcases Np.1 hin with h | hin
          ·exact h
          ·have:=(List.pairwise_cons.1 (Rc.1 hs).2.1).1 i hin;omega
        subst R
        have:=q3 a' h3 (by omega)
        exact i3 w' (a'+i.mins) v' (by omega) h5 G d D
theorem RI.later {L:List Leg} {w:List (Leg×Int)} {p t q u:Int} (h:RI L p t w q u) (hL:∀l∈L,Fine l):t<=u:=h.way.later hL
theorem RI.from {L:List Leg} (hL:∀l∈L,Fine l):∀{w:List (Leg×Int)} {p t q u m:Int},RI L p t w q u->m∈w.map (fun x=>x.1.dst)->∃k s,k<w.length/\t<=s/\Way L k m s q u
 | [],_,_,_,_,_,_,h=>by simp at h
 | (l,a)::w,p,t,q,u,m,h,hm=>by
   obtain ⟨h1,h2,g,i,c⟩:=h
   have b:=hL l h1
   unfold Fine at b
   rw [Of,Np] at hm
   rcases hm with rfl | hm
   ·exact ⟨w.length,a+l.mins,by simp,by omega,c.way⟩
   ·obtain ⟨k,s,e,f,d⟩:=RI.from hL c hm
    exact ⟨k,s,by simp;omega,by omega,d⟩
theorem RI.nodup {L:List Leg} (hL:∀l∈L,Fine l):∀{w:List (Leg×Int)} {p t q v:Int},RI L p t w q v->(∀j v',Way L j p t q v'->v'<=v->w.length<=j)->(p::w.map (fun x=>x.1.dst)).Nodup
 | [],_,_,_,_,_,_=>by simp
 | (l,a)::w,p,t,q,v,h,hmin=>by
   rw [List.nodup_cons]
   constructor
   ·intro hm
    obtain ⟨k,s,i,b,c⟩:=RI.from hL h hm
    rcases c.early b with ⟨rfl,rfl,e⟩ | hw
    ·have:=hmin 0 t (.nil _ _) (by omega);simp at this
    ·have:=hmin k v hw (Oq _);omega
   ·obtain ⟨h1,h2,d,f,g⟩:=h
    rw [Of]
    exact g.nodup hL fun j v' hw hv=>by
     have:=hmin (j+1) v' (.cons h1 h2 d f hw) hv
     simpa using this
theorem RI.uniq {L:List Leg}:∀{w:List (Leg×Int)} {p t q u b c:Int},RI L p t w q u->RI L p t w b c->q=b/\u=c
 | [],_,_,_,_,_,_,h,h'=>⟨h.1.symm.trans h'.1,h.2.symm.trans h'.2⟩
 | (l,a)::w,_,_,_,_,_,_,h,h'=>h.2.2.2.2.uniq h'.2.2.2.2
end Go.Net


namespace Go.Scan
def N95 (a b:Ev):Prop:=SX (Uh a) (Uh b)<0
instance (a b:Ev):Decidable (N95 a b):=by unfold N95;infer_instance
def bare (e:Ev):Ev:={ e with time:=0 }
theorem Nq0 {M:List Mk} {s:Ev} (h:Sm s):0<=Xc M s/\Xc M s<=s.seen:=by
 unfold Sm at h;unfold Xc;omega
theorem Nch (M:List Mk) (S:List Ev):((Sw M S).map bare).Perm (S.map bare):=by
 have h:=(Tu Uh (S.map fun s=>{ s with time:=Xc M s })).map bare
 rw [List.map_map] at h
 exact h
theorem Ngv (S:List Ev):(((OM S).1++(OM S).2).map bare).Perm (S.map bare):=by
 unfold OM
 have h:=Yu (Sw (R6 S) S) [] []
 rw [Nb,Ol] at h
 exact (h.map bare).trans (Nch _ S)
theorem Nkf (S:List Ev):(OM S).1.length+(OM S).2.length=S.length:=by
 have:=(Ngv S).length_eq
 simpa using this
theorem M8 (S:List Ev):(OM S).1.Sublist (Sw (R6 S) S)/\(OM S).2.Sublist (Sw (R6 S) S):=by
 obtain ⟨K,T,h1,h2,a⟩:=ZY (Sw (R6 S) S) [] []
 unfold OM
 rw [h1]
 exact ⟨by simpa using h2,by simpa using a⟩
theorem Nke (S:List Ev):Nfw (OM S).1/\Nfw (OM S).2:=by
 have h:=Y2 (ZH (R6 S) S)
 exact ⟨h.sublist (M8 S).1,h.sublist (M8 S).2⟩
theorem M9 {S:List Ev} {x:Ev} (h:x∈(OM S).1\/x∈(OM S).2):∃s∈S,{ s with time:=Xc (R6 S) s }=x:=by
 rcases h with h | h
 ·exact Ml.mp ((M8 S).1.mem h)
 ·exact Ml.mp ((M8 S).2.mem h)
theorem Ngu {S:List Ev} (hS:∀s∈S,Sm s) {x:Ev} (h:x∈(OM S).1\/x∈(OM S).2):0<=x.time/\x.time<=x.seen:=by
 obtain ⟨s,hs,rfl⟩:=M9 h
 exact Nq0 (hS s hs)
theorem Nnt (S:List Ev):((OM S).1.Pairwise fun x y=>R7 y=R7 x->y.time-x.time > 10)/\∀x∈(OM S).2,∃y∈(OM S).1,R7 x=R7 y/\x.time>=y.time/\x.time-y.time<=10:=by
 obtain ⟨h1,h2⟩:=Naz (Sw (R6 S) S) [] [] List.Pairwise.nil (fun e _ x a=>(Pa a).elim) (Y2 (ZH _ S)) (fun x a=>(Pa a).elim)
 unfold OM
 refine ⟨?_,h2⟩
 unfold ApartL at h1
 rw [List.pairwise_reverse] at h1
 exact h1
theorem Npu (M:List Mk) (S:List Ev):(Sw M S).length=S.length:=by
 have:=(Nch M S).length_eq
 simpa using this
end Go.Scan


namespace Go.Net
def ZO:Int->List (Leg×Int)->Prop
 | _,[]=>True
 | t,(l,a)::w=>RY l t=some a/\ZO (a+l.mins) w
structure BestW (L:List Leg) (p ready q v:Int) (w:List (Leg×Int)):Prop where
 way:RI L p ready w q v
 few:∀j v',Way L j p ready q v'->v'<=v->w.length<=j
 least:∀w' v',RI L p ready w' q v'->v'<=v->w'.length=w.length->¬Nlt (Z4 w') (Z4 w)
 next:ZO ready w
theorem Nbk {pos:Int->Nat} {S:List Leg} {late:Nat->List Int}:∀(k:Nat) (p t:Int),ZO t (goW pos S late k p t)
 | 0,_,_=>trivial
 | k+1,p,t=>by
   simp only [goW]
   cases hp:Yd pos S (late k) p t with
   | none=>exact Nbk k p t
   | some r=>
     obtain ⟨l,a⟩:=r
     unfold Yd at hp
     obtain ⟨g,x,h,e,f,b⟩:=List.findSome?_eq_some_iff.1 hp
     obtain ⟨i,c,d,j⟩:=Y0 f
     simp only at c d
     subst c
     exact ⟨d,Nbk k l.dst (a+l.mins)⟩
theorem Nmc {f:Nat->Int} {v:Int}:∀{n:Nat},f n=v->∃k,k<=n/\f k=v/\∀j,j<k->f j≠v
 | 0,h=>⟨0,Nd _,h,fun j a=>by omega⟩
 | n+1,h=>by
   by_cases h1:∃m,m<=n/\f m=v
   ·obtain ⟨m,hm,h2⟩:=h1
    obtain ⟨k,k1,k2,k3⟩:=Nmc (n:=m) h2
    exact ⟨k,by omega,k2,k3⟩
   ·exact ⟨n+1,Nd _,h,fun j a e=>h1 ⟨j,by omega,e⟩⟩
termination_by n=>n
theorem Nej:∀{a b:List Int},a.length=b.length->¬Nlt a b->¬Nlt b a->a=b
 | [],[],_,_,_=>rfl
 | [],_::_,h,_,_=>by simp at h
 | _::_,[],h,_,_=>by simp at h
 | x::a,y::b,h,h1,h2=>by
   simp only [Nlt,not_or,not_and] at h1 h2
   have e:x=y:=by omega
   subst e
   rw [Nej (by simpa using h) (h1.2 rfl) (h2.2 rfl)]
theorem Nki {L:List Leg} (c:∀a∈L,∀b∈L,a.id=b.id->a=b):∀{w w':List (Leg×Int)} {p q u f t d g i:Int},RI L p t w q u->RI L f d w' g i->t=d->ZO t w->ZO d w'->Z4 w=Z4 w'->w=w'
 | [],[],_,_,_,_,_,_,_,_,_,_,_,_,_,_=>rfl
 | [],_::_,_,_,_,_,_,_,_,_,_,_,_,_,_,h=>by simp [Z4] at h
 | _::_,[],_,_,_,_,_,_,_,_,_,_,_,_,_,h=>by simp [Z4] at h
 | (l,a)::w,(l',a')::w',p,q,u,f,t,d,g,i,h,h',e,n,n',hi=>by
   subst e
   simp only [Z4,Of,List.cons.injEq] at hi
   have:=c l h.1 l' h'.1 hi.1
   subst this
   have j:=n.1.symm.trans n'.1
   cases j
   rw [Nki c h.2.2.2.2 h'.2.2.2.2 rfl n.2 n'.2 hi.2]
theorem BestW.uniq {L M:List Leg} {p t q v:Int} {w w':List (Leg×Int)} (hs:∀l,l∈M↔l∈L) (f:∀a∈L,∀b∈L,a.id=b.id->a=b) (h:BestW L p t q v w) (h':BestW M p t q v w'):w=w':=by
 have mono:∀{A B:List Leg},(∀l∈A,l∈B)->∀{w:List (Leg×Int)} {p t q u:Int},RI A p t w q u->RI B p t w q u:=by
  intro A B d w
  induction w with
  | nil=>intro p t q u h;exact h
  | cons x w ih=>intro p t q u h;exact ⟨d _ h.1,h.2.1,h.2.2.1,h.2.2.2.1,ih h.2.2.2.2⟩
 have c:RI L p t w' q v:=mono (fun l hl=>(hs l).1 hl) h'.way
 have g:RI M p t w q v:=mono (fun l hl=>(hs l).2 hl) h.way
 have i:=h.few _ _ c.way (Oq _)
 have j:=h'.few _ _ g.way (Oq _)
 have hl:w.length=w'.length:=by omega
 have e:Z4 w=Z4 w':=Nej (by simp [Z4,hl]) (h'.least _ _ g (Oq _) hl) (h.least _ _ c (Oq _) hl.symm)
 exact Nki f h.way c rfl h.next h'.next e
theorem Nz0 {N:Nat} {P:List Int} {L S:List Leg} {pos:Int->Nat} {p q ready v:Int} {late:Nat->List Int} {k:Nat} (hn:NetOk N P L pos) (hp:p∈P) (o:q∈P) (hr:0<=ready) (g:0<=v)
  (hS:∀l,l∈S↔l∈L) (hs:S.Pairwise fun a b=>a.id<b.id) (f:∀k,late k=Nab N pos L q v k) (hv:TK L p ready q v)
  (hk:(RN N pos (ready+86400) L p ready k).getD (pos q) (-1)=v) (n:∀j,j<k->(RN N pos (ready+86400) L p ready j).getD (pos q) (-1)≠v) :
  BestW L p ready q v (goW pos S late k p ready)/\(goW pos S late k p ready).length=k:=by
 obtain ⟨_,z⟩:=hv.mem g
 have few:∀j v',Way L j p ready q v'->v'<=v->k<=j:=by
  intro j v' d c
  apply Og;intro hc
  have hm:=Xw hn hp hr (by omega:ready<=ready+86400) j q o
  have h1:=hm.le (u:=v') ⟨⟨j,Nd _,d⟩,by omega⟩
  have h2:0<=(RN N pos (ready+86400) L p ready j).getD (pos q) (-1):=by
   apply Og;intro y
   exact hm.none (fun u ⟨⟨i,_,d⟩,_⟩=>by have:=d.later hn.fine;omega) (by omega) v' ⟨⟨j,Nd _,d⟩,by omega⟩
  obtain ⟨⟨i,hi,s⟩,m⟩:=hm.mem h2
  have B:=hv.le (u:=(RN N pos (ready+86400) L p ready j).getD (pos q) (-1)) ⟨⟨i,s⟩,m⟩
  exact n j (by omega) (by omega)
 have hm:=Xw hn hp hr (by omega:ready<=ready+86400) k q o
 rw [hk] at hm
 obtain ⟨⟨i,hi,d⟩,_⟩:=hm.mem g
 have h:i=k:=by have:=few i v d (Oq _);omega
 subst h
 obtain ⟨t,⟨v',A,w⟩,x⟩:=Nl6 hn o g hS hs f i p ready hp hr ⟨v,Oq _,d⟩
 have e:v'=v:=by
  have:=hv.le (u:=v') ⟨⟨_,w.way⟩,by omega⟩
  omega
 subst e
 exact ⟨⟨w,fun j v' d c=>by rw [t];exact few j v' d c,fun w' v' r c hl=>x w' ready v' (Oq _) r c (by omega),Nbk _ _ _⟩,t⟩
theorem RI.sub {L M:List Leg}:∀{w:List (Leg×Int)} {p t q u:Int},RI L p t w q u->(∀x∈w,x.1∈M)->RI M p t w q u
 | [],_,_,_,_,h,_=>h
 | (l,a)::w,_,_,_,_,h,hm=>⟨hm (l,a) (No ..),h.2.1,h.2.2.1,h.2.2.2.1,h.2.2.2.2.sub fun x b=>hm x (Nj _ b)⟩
theorem RI.mem {L:List Leg}:∀{w:List (Leg×Int)} {p t q u:Int},RI L p t w q u->∀x∈w,x.1∈L
 | (l,a)::w,_,_,_,_,h,x,hx=>by
   rcases Np.1 hx with rfl | hx
   ·exact h.1
   ·exact h.2.2.2.2.mem x hx
theorem TK.nonneg {L:List Leg} {p t q u v:Int} {j:Nat} (h:TK L p t q v) (hL:∀l∈L,Fine l) (c:0<=t) (a:Way L j p t q u) (b:u<=t+86400):0<=v:=by
 apply Og;intro hc
 exact h.none (fun u ⟨⟨j,a⟩,_⟩=>by have:=a.later hL;omega) (by omega) u ⟨⟨j,a⟩,b⟩
end Go.Net


