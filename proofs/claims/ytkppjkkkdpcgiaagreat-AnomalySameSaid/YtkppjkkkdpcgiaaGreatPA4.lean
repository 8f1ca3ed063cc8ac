/-
  Joined texts, 4 of 10. A part of the claim that the last text states.
-/
import Derived.Test.YtkppjkkkdpcgiaaGreatPA3
set_option linter.unusedVariables false
set_option linter.unusedSimpArgs false
set_option linter.defProp false
set_option linter.unusedSectionVars false
set_option maxRecDepth 100000
set_option maxHeartbeats 4000000
namespace Go.AM
section
variable {G G' K:NE} {R:Nat} {b:Blk}
structure Mut (G G':NE) (R:Nat):Prop where
 len:G'.length=G.length
 other:∀j,j≠R->NH G' j=NH G j
theorem Mut.ext {H:NE} (h:Mut G G' R) (a:OJ H G) (b:H.length<=R):OJ H G':=by
 obtain ⟨Y,rfl⟩:=a
 refine ⟨G'.drop H.length, ?_⟩
 apply Ph
 ·have:=h.len;simp at this⊢;omega
 intro i h1 h2
 have hl:=h.len
 simp at hl
 by_cases hi:i<H.length
 ·rw [Qt hi]
  have:=h.other i (by omega)
  unfold NH at this
  rw [Na,Na,Nf h1,Nf (by simp;omega)] at this
  simp only [O9] at this
  rw [this,Qt hi]
 ·rw [Q9 (by omega),List.getElem_drop]
  congr 1
  omega
theorem Mut.cells (h:Mut G G' R) {j:Nat} {ro:Bool} {c:List Value} (b:NH G j=.cells ro c) (a:j≠R):NH G' j=.cells ro c:=by rw [h.other j a];exact b
theorem Mut.alive (h:Mut G G' R) {j:Nat} {B:Blk} (b:NH G j=B) (a:j≠R):NH G' j=B:=by rw [h.other j a];exact b
theorem Mut.sl {α:Type} {enc:α->List Value} {e:Nat} {p:Option Addr} {l:List α} (h:Mut G G' R) (hs:Sl G enc e p l) (hp:∀a,p=some a->l≠[]->a.block≠R):Sl G' enc e p l:=by
 cases p with
 | none=>exact hs
 | some a=>
   refine ⟨hs.1,fun hn=>?_⟩
   obtain ⟨ro,c,h2,b⟩:=hs.2 hn
   exact ⟨ro,c,h.cells h2 (hp a rfl hn),b⟩
theorem Nhu (h:G'.length=G.length):(G'.length=G.length)/\(∀(X:NE) (j:Nat),NH (G'++X) (G.length+j)=X.getD j .dead)/\(∀X:NE,NH (G'++X) G.length=X.getD 0 .dead)/\
  (∀(X:NE) (j:Nat) b,(G'++X).set (G.length+j) b=G'++X.set j b)/\(∀(X:NE) b,(G'++X).set G.length b=G'++X.set 0 b):=by
 refine ⟨h,fun X j=>by rw [<-h];exact OC,fun X=>by rw [<-h];exact NV,fun X j b=>?_,fun X b=>?_⟩
 ·rw [<-h,Qi _ _ (by omega)];simp
 ·rw [<-h,Qi _ _ (by omega)];simp
theorem OQ (a:R<G.length) (b:Blk):∃G',(∀X:NE,(G++X).set R b=G'++X)/\NH G' R=b/\Mut G G' R:=
 ⟨G.set R b,fun X=>Qn _ _ a,V3 a,by simp,fun j c=>QP c⟩
end
def Own {α:Type} (lim:Nat) (G:NE) (enc:α->List Value) (e:Nat) (p:Option Addr) (cap:Nat) (l:List α):Prop:=
 (l=[]/\p=none/\cap=0)\/∃R,p=some ⟨R,0,none⟩/\cap=loose e/\NH G R=.cells false (l.flatMap enc)/\lim<=R
section
variable {α:Type} {lim e bytes cap:Nat} {G:NE} {enc:α->List Value} {p:Option Addr} {l m:List α}
theorem Own.nil:Own lim G enc e none 0 []:=.inl ⟨rfl,rfl,rfl⟩
theorem Own.app (h:Own lim G enc e p cap l) (X:NE):Own lim (G++X) enc e p cap l:=by
 rcases h with h | ⟨R,h1,h2,a,b⟩
 ·exact .inl h
 ·exact .inr ⟨R,h1,h2,by rw [NQ (NM a)];exact a,b⟩
theorem Own.mut {G':NE} {R:Nat} (h:Own lim G enc e p cap l) (f:Mut G G' R) (hp:∀a,p=some a->a.block≠R):Own lim G' enc e p cap l:=by
 rcases h with h | ⟨b,h1,h2,c,d⟩
 ·exact .inl h
 ·exact .inr ⟨b,h1,h2,f.cells c (hp _ h1),d⟩
theorem Own.new {R:Nat} (a:NH G R=.cells false (l.flatMap enc)) (hl:lim<=R):Own lim G enc e (some ⟨R,0,none⟩) (loose e) l:=.inr ⟨R,rfl,rfl,a,hl⟩
theorem Own.sl (h:Own lim G enc e p cap l) (he:∀x,(enc x).length=e):Sl G enc e p l:=by
 rcases h with ⟨h1,h2,_⟩ | ⟨R,h1,h2,a,b⟩
 ·subst h1 h2;rfl
 ·subst h1;exact Sl.lit he (by rw [a];rfl) (by rw [a];rfl)
theorem Own.le (h:Own lim G enc e p cap l) {lim':Nat} (hl:lim'<=lim):Own lim' G enc e p cap l:=by
 rcases h with h | ⟨R,h1,h2,a,b⟩
 ·exact .inl h
 ·exact .inr ⟨R,h1,h2,a,by omega⟩
theorem Own.block (h:Own lim G enc e p cap l) {a:Addr} (b:p=some a):lim<=a.block/\a.block<G.length:=by
 rcases h with ⟨h1,h2,c⟩ | ⟨R,h1,h2,c,d⟩
 ·rw [h2] at b;cases b
 ·rw [h1] at b;cases b;exact ⟨d,NM c⟩
theorem Sl.cells (hs:Sl G enc e p m) (b:m≠[]):∃a,p=some a/\AM.loadCells G a (m.length*e)=some (m.flatMap enc):=by
 cases p with
 | none=>exact absurd hs b
 | some a=>
   obtain ⟨k1,k2⟩:=hs
   obtain ⟨ro,cs,k3,c,d⟩:=k2 b
   refine ⟨a,rfl, ?_⟩
   obtain ⟨f,g,as'⟩:=a
   simp only [R3]
   simp only at k3 c d
   simp only [k3]
   rw [Ni c,d]
theorem Own.push {lim':Nat} (h:Own lim G enc e p cap l) (t:lim'<=lim) (he:∀x,(enc x).length=e) (s:e≠0) (m:List α) (n:m≠[]) (r:(l.length+m.length)*bytes<=PU) (hn:l.length+m.length<2 ^ 61) :
  ∃(G':NE) (R:Nat),(p=none->R=G.length)/\(∀a,p=some a->R=a.block)/\Mut G G' R/\(∀j,j≠R->NH G' j=NH G j)/\(∀H0:NE,OJ H0 G->H0.length<=lim->OJ H0 G')/\
   (∀(X:NE) (px:Option Addr) (k:Nat),Sl (G++X) enc e px m->PQ lim' none e bytes false (.slice p l.length cap) (.slice px m.length k) (G++X)=some (.slice (some ⟨G.length+X.length,0,none⟩) (l.length+m.length) (loose e),G'++(X++[.cells false ((l++m).flatMap enc)]))):=by
 have f:¬m.length=0:=by intro q;exact n (List.length_eq_zero_iff.1 q)
 rcases h with ⟨h1,h2,i⟩ | ⟨R,h1,h2,i,u⟩
 ·subst h1 h2 i
  refine ⟨G,G.length,fun _=>rfl,fun a h=>(by cases h),⟨rfl,fun j _=>rfl⟩,fun j _=>rfl,fun H0 h _=>h,fun X px k o=>?_⟩
  obtain ⟨a,rfl,hl⟩:=o.cells n
  simp only [Ns,Oc] at r hn
  simp only [PQ,firstCells,lenOf,hl,f,if_false,Nz,Ns,Oc]
  rw [Ng (by omega)]
  simp [place]
 ·subst h1 h2
  have c:=NM i
  refine ⟨G.set R .dead,R,fun h=>(by cases h),fun a h=>(by cases h;rfl),⟨by simp,fun j d=>QP d⟩,fun j d=>QP d,fun H0 h hl=>Mut.ext (R:=R) ⟨by simp,fun j d=>QP d⟩ h (by omega),fun X px k o=>?_⟩
  obtain ⟨a,rfl,hl⟩:=o.cells n
  have b:NH (G++X) R=.cells false (l.flatMap enc):=by rw [NQ c];exact i
  have g:AM.loadCells (G++X) ⟨R,0,none⟩ (l.length*e)=some (l.flatMap enc):=by
   simp only [R3,b,Oc,QM he,Nd,if_true,O1]
   rw [Oe (by rw [QM he];exact Nd _)]
  simp only [PQ,firstCells,lenOf,hl,g,b,f,if_false,Nz,if_true]
  rw [Ng (by unfold loose;omega)]
  simp [show lim'<=R by omega,place,Qn _ _ c,No]
theorem Own.push1 {lim':Nat} (h:Own lim G enc e p cap l) (d:lim'<=lim) (he:∀x,(enc x).length=e) (c:e≠0) (x:α) (m:(l.length+1)*bytes<=PU) (hn:l.length+1<2 ^ 61) :
  ∃(G':NE) (R:Nat),(p=none->R=G.length)/\(∀a,p=some a->R=a.block)/\Mut G G' R/\(∀H0:NE,OJ H0 G->H0.length<=lim->OJ H0 G')/\
   (∀(X:NE) (b k:Nat),NH (G++X) b=.cells false (enc x)->PQ lim' none e bytes false (.slice p l.length cap) (.slice (some ⟨b,0,none⟩) 1 k) (G++X)=some (.slice (some ⟨G.length+X.length,0,none⟩) (l.length+1) (loose e),G'++(X++[.cells false ((l++[x]).flatMap enc)]))):=by
 obtain ⟨G',R,h1,h2,g,_,i,j⟩:=h.push d he c [x] (by simp) (by simpa using m) (by simpa using hn)
 refine ⟨G',R,h1,h2,g,i,fun X b k f=>?_⟩
 exact j X (some ⟨b,0,none⟩) k (Sl.lit he (by rw [f];rfl) (by rw [f];simp [cellsOf]))
def WN (len cap:Nat) (lo hi mx:Option Value):Option (Nat×Nat×Nat):=bounds (fun o=>match o with | .const v=>v | _=>undef) len cap (lo.map .const) (hi.map .const) (mx.map .const)
theorem Naq {ρ:Operand->Value} {len cap:Nat} {lo hi mx:Option Operand}:bounds ρ len cap lo hi mx=WN len cap (lo.map ρ) (hi.map ρ) (mx.map ρ):=by
 unfold WN
 cases lo<;>cases hi<;>cases mx<;>rfl
theorem Nih {n:Int} {m:Nat} {kk:IntKind} (a:0<=n) (h:n<=(m:Int)):bound (.int kk n) m=some n.toNat:=by
 simp only [bound];rw [Ni ⟨a,h⟩]
section
variable {len:Nat} {k1 k2 k3:IntKind} {l h x:Int}
theorem Ms (a:0<=h) (h1:h<=(cap:Int)):WN len cap none (some (.int k1 h)) none=some (0,h.toNat,cap):=by
 delta WN bounds;simp only [Nv,Ou,Nih a h1]
theorem Nq2 (a:0<=l) (b:l<=(len:Int)):WN len cap (some (.int k1 l)) none none=some (l.toNat,len,cap):=by
 delta WN bounds;simp only [Nv,Ou,Nih a b]
end
end
def Ur:ACode->ACode
 | .seq a _=>a
 | c=>c
def Sm:ACode->ACode
 | .seq _ b=>b
 | _=>.skip
end Go.AM


namespace Go.Scan
structure Ev where
 (item place scanner kind at' seen time:Int)
 deriving DecidableEq,Inhabited
structure Mk where
 (scanner at' off:Int)
 deriving DecidableEq,Inhabited
def Wi:Int:=1051898399
def Sy (e:Ev):Prop:=(1<=e.item/\e.item<=999999)/\(1<=e.place/\e.place<=999999)/\(1<=e.scanner/\e.scanner<=999999)/\(1<=e.kind/\e.kind<=4)/\(0<=e.at'/\e.at'<=Wi)/\(0<=e.seen/\e.seen<=Wi)
instance (e:Ev):Decidable (Sy e):=by unfold Sy;infer_instance
def QV (S:List Ev):Prop:=S.length<=2000/\∀s∈S,Sy s
instance (S:List Ev):Decidable (QV S):=by unfold QV;infer_instance
def Tm:List Int->List Int->Int
 | a::x,b::y=>if a<b then -1 else if b<a then 1 else Tm x y
 | _,_=>0
theorem Nhs:∀x,Tm x x=0
 | []=>rfl
 | a::x=>by unfold Tm;rw [Ng (by omega),Ng (by omega)];exact Nhs x
theorem Nmd:∀x y,Tm x y=-1\/Tm x y=0\/Tm x y=1
 | [],_=>by unfold Tm;simp
 | _::_,[]=>by unfold Tm;simp
 | a::x,b::y=>by
   unfold Tm
   split
   ·simp
   split
   ·simp
   exact Nmd x y
theorem Vx:∀x y,Tm y x=- Tm x y
 | [],y=>by cases y<;>rfl
 | a::x,[]=>rfl
 | a::x,b::y=>by
   have h:=Vx x y
   unfold Tm
   by_cases h1:a<b
   ·rw [Ng (by omega),Ni h1,Ni h1];rfl
   ·by_cases h2:b<a
    ·rw [Ni h2,Ng h1,Ni h2]
    ·rw [Ng h2,Ng h1,Ng h1,Ng h2];exact h
theorem Njq:∀x y,x.length=y.length->Tm x y=0->x=y
 | [],[],_,_=>rfl
 | [],b::y,h,_=>by simp at h
 | a::x,[],h,_=>by simp at h
 | a::x,b::y,hl,h=>by
   unfold Tm at h
   by_cases h1:a<b
   ·rw [Ni h1] at h;omega
   rw [Ng h1] at h
   by_cases h2:b<a
   ·rw [Ni h2] at h;omega
   rw [Ng h2] at h
   rw [Njq x y (by simpa using hl) h,show a=b by omega]
theorem XO:∀x y z,x.length=y.length->y.length=z.length->Tm x y<=0->Tm y z<=0->Tm x z<=0
 | [],_,_,_,_,_,_=>by unfold Tm;simp
 | a::x,[],_,h,_,_,_=>by simp at h
 | a::x,b::y,[],_,h,_,_=>by simp at h
 | a::x,b::y,c::z,h1,h2,h3,h4=>by
   unfold Tm at h3 h4⊢
   by_cases q1:a<c
   ·rw [Ni q1];omega
   rw [Ng q1]
   by_cases q2:a<b
   ·rw [Ng (show ¬b<c by omega),Ni (show c<b by omega)] at h4;omega
   rw [Ng q2] at h3
   by_cases q3:b<a
   ·rw [Ni q3] at h3;omega
   rw [Ng q3] at h3
   rw [Ng (show ¬b<c by omega)] at h4
   by_cases d:c<b
   ·rw [Ni d] at h4;omega
   rw [Ng d] at h4
   rw [Ng (show ¬c<a by omega)]
   exact XO x y z (by simpa using h1) (by simpa using h2) h3 h4
section
variable {α:Type}
def Nqa (k:α->List Int) (x:α):List α->List α
 | []=>[x]
 | y::l=>if Tm (k y) (k x)<0 then y::Nqa k x l else x::y::l
def UM (k:α->List Int):List α->List α
 | []=>[]
 | x::l=>Nqa k x (UM k l)
theorem Nbq (k:α->List Int) (x:α):∀l,(Nqa k x l).Perm (x::l)
 | []=>.refl _
 | y::l=>by
   unfold Nqa
   split
   ·exact ((Nbq k x l).cons y).trans (.swap x y l)
   ·exact .refl _
theorem Sn (k:α->List Int):∀l,(UM k l).Perm l
 | []=>.refl _
 | x::l=>(Nbq k x _).trans ((Sn k l).cons x)
def TS (k:α->List Int) (l:List α):Prop:=l.Pairwise fun a b=>Tm (k a) (k b)<=0
theorem Ncn {k:α->List Int} {n:Nat} (hn:∀x,(k x).length=n) (x:α):∀l,TS k l->TS k (Nqa k x l)
 | [],_=>by unfold Nqa;exact List.pairwise_singleton _ _
 | y::l,h=>by
   obtain ⟨h1,h2⟩:=List.pairwise_cons.mp h
   unfold Nqa
   split
   ·rename_i hc
    refine List.pairwise_cons.mpr ⟨fun b hb=>?_,Ncn hn x l h2⟩
    rcases Nr.mp ((Nbq k x l).mem_iff.mp hb) with rfl | hb
    ·omega
    ·exact h1 b hb
   ·rename_i hc
    have a:Tm (k x) (k y)<=0:=by rw [Vx (k y) (k x)];omega
    refine List.pairwise_cons.mpr ⟨fun b hb=>?_,h⟩
    rcases Nr.mp hb with rfl | hb
    ·exact a
    ·exact XO _ (k y) _ (by rw [hn,hn]) (by rw [hn,hn]) a (h1 b hb)
theorem U8 {k:α->List Int} {n:Nat} (hn:∀x,(k x).length=n):∀l,TS k (UM k l)
 | []=>List.Pairwise.nil
 | x::l=>Ncn hn x _ (U8 hn l)
theorem MM {k:α->List Int} {n:Nat} (hn:∀x,(k x).length=n) (hi:∀x y,k x=k y->x=y) {l l':List α} (h:TS k l) (h':TS k l') (hp:l.Perm l'):l=l':=
 List.Perm.eq_of_pairwise (le:=fun a b=>Tm (k a) (k b)<=0) (fun a b _ _ h1 h2=>hi a b (Njq _ _ (by rw [hn,hn]) (by rw [Vx (k a) (k b)] at h2;omega))) h h' hp
theorem ZZ {k:α->List Int} {n:Nat} (hn:∀x,(k x).length=n) (hi:∀x y,k x=k y->x=y) {l a:List α} (h:TS k a) (hp:a.Perm l):a=UM k l:=
 MM hn hi h (U8 hn l) (hp.trans (Sn k l).symm)
theorem Nb6 {k:α->List Int} {n:Nat} (hn:∀x,(k x).length=n) (hi:∀x y,k x=k y->x=y) {l a:List α} (hp:a.Perm l):UM k a=UM k l:=
 ZZ hn hi (U8 hn a) ((Sn k a).trans hp)
end
def UC (s:Ev):Int×Int:=(s.scanner,s.seen / 1440)
def mkM (s:Ev):Mk:=⟨s.scanner,s.at',s.seen-s.at'⟩
def Te (m old:Mk):Prop:=m.off<old.off\/m.off=old.off/\m.at'<old.at'
instance (m old:Mk):Decidable (Te m old):=by unfold Te;infer_instance
def Xn (k:Int×Int) (m:Mk):List ((Int×Int)×Mk)->List ((Int×Int)×Mk)
 | []=>[(k,m)]
 | (k',old)::l=>if k'=k then (k',m)::l else (k',old)::Xn k m l
def WU (k:Int×Int):List ((Int×Int)×Mk)->Option Mk
 | []=>none
 | (k',old)::l=>if k'=k then some old else WU k l
def SV (l:List ((Int×Int)×Mk)) (s:Ev):List ((Int×Int)×Mk):=
 match WU (UC s) l with
 | none=>Xn (UC s) (mkM s) l
 | some old=>if Te (mkM s) old then Xn (UC s) (mkM s) l else l
def UW (S:List Ev):List ((Int×Int)×Mk):=S.foldl SV []
def SX (m:Mk):List Int:=[m.scanner,m.at',m.off]
theorem Xt (m:Mk):(SX m).length=3:=id rfl
theorem Nbl (m n:Mk) (h:SX m=SX n):m=n:=by
 obtain ⟨a,b,c⟩:=m;obtain ⟨d,e,f⟩:=n
 simp only [SX,List.cons.injEq] at h
 obtain ⟨rfl,rfl,rfl,_⟩:=h
 rfl
def RF (m p:Mk):Prop:=m.scanner=p.scanner/\m.at'=p.at'
instance (m p:Mk):Decidable (RF m p):=by unfold RF;infer_instance
def UN (p:Mk):List Mk->List Mk
 | []=>[]
 | m::l=>if RF m p then UN m l else m::UN m l
def Sw:List Mk->List Mk
 | []=>[]
 | m::l=>m::UN m l
def PL (S:List Ev):List Mk:=Sw (UM SX ((UW S).map (·.2)))
def Nag (m:Mk):Prop:=1<=m.scanner/\m.scanner<=999999/\0<=m.at'/\m.at'<=Wi/\-Wi<=m.off/\m.off<=Wi
instance (m:Mk):Decidable (Nag m):=by unfold Nag;infer_instance
def Yl (a b:Mk):Prop:=a.scanner<b.scanner\/a.scanner=b.scanner/\a.at'<b.at'
instance (a b:Mk):Decidable (Yl a b):=by unfold Yl;infer_instance
def Z0 (l:List Mk):Prop:=(∀m∈l,Nag m)/\l.Pairwise Yl
def Uf:Mk:=⟨0,0,0⟩
def YA (t:Int):Mk->List Mk->Int
 | last,[]=>last.off
 | last,m::l=>if t > m.at' then YA t m l else if last=Uf then m.off else last.off+(m.off-last.off)*(t-last.at') / (m.at'-last.at')
def ofN (M:List Mk) (sc:Int):List Mk:=M.filter fun m=>m.scanner == sc
def MP (M:List Mk) (sc t:Int):Int:=YA t Uf (ofN M sc)
def Uh (M:List Mk) (s:Ev):Int:=min (max (s.at'+MP M s.scanner s.at') 0) s.seen
def TV (e:Ev):List Int:=[e.time,e.kind,e.place,e.scanner,e.item,e.at',e.seen]
theorem Zr (e:Ev):(TV e).length=7:=id rfl
theorem Nhy (x y:Ev) (h:TV x=TV y):x=y:=by
 obtain ⟨a,b,c,d,e,f,g⟩:=x;obtain ⟨a',b',i,j,k,l,m⟩:=y
 simp only [TV,List.cons.injEq] at h
 obtain ⟨rfl,rfl,rfl,rfl,rfl,rfl,rfl,_⟩:=h
 rfl
def RY (M:List Mk) (S:List Ev):List Ev:=UM TV (S.map fun s=>{ s with time:=Uh M s })
def RD (e:Ev):Int×Int×Int:=(e.item,e.place,e.kind)
def UB (e:Ev) (kept:List Ev):Option Ev:=kept.find? fun x=>RD x == RD e
def UQ (e:Ev) (kept:List Ev):Bool:=match UB e kept with
 | none=>false
 | some x=>decide (e.time-x.time<=10)
def RI:List Ev->List Ev->List Ev->List Ev×List Ev
 | kept,twice,[]=>(kept.reverse,twice.reverse)
 | kept,twice,e::l=>if UQ e kept then RI kept (e::twice) l else RI (e::kept) twice l
def OH (S:List Ev):List Ev×List Ev:=RI [] [] (RY (PL S) S)
def Ue (l:List Ev) (item:Int):List Ev:=l.filter fun e=>item == 0||e.item == item
abbrev Es:=List ((Int×Int)×Mk)
theorem Nfe {k:Int×Int} {m:Mk}:∀{l:Es},WU k l=some m->(k,m)∈l
 | [],h=>by cases h
 | (k',m')::l,h=>by
   unfold WU at h
   by_cases hk:k'=k
   ·rw [Ni hk] at h;cases h;rw [hk];exact Nn
   ·rw [Ng hk] at h;exact Nj _ (Nfe h)
def Mx (l:Es):Prop:=(l.map (·.1)).Nodup
theorem Njw {k:Int×Int} {m:Mk}:∀{l:Es},Mx l->(k,m)∈l->WU k l=some m
 | [],_,h=>by cases h
 | (k',m')::l,hn,h=>by
   have a:=List.nodup_cons.mp hn
   unfold WU
   rcases Nr.mp h with h | h
   ·cases h;rw [Ni rfl]
   ·rw [Ng fun hk=>a.1 (by rw [hk];exact List.mem_map.mpr ⟨_,h,rfl⟩)]
    exact Njw a.2 h
theorem Nhk {k:Int×Int} {m:Mk}:∀{l:Es} {x},x∈(Xn k m l).map (·.1)↔x=k\/x∈l.map (·.1)
 | [],x=>by simp [Xn]
 | (k',m')::l,x=>by
   unfold Xn
   by_cases hk:k'=k
   ·rw [Ni hk];subst hk;simp
   ·rw [Ng hk,N3,Nr,Nhk,N3,Nr]
    exact or_left_comm
theorem Nen {k:Int×Int} {m:Mk}:∀{l:Es},Mx l->Mx (Xn k m l)
 | [],_=>by simp [Xn,Mx]
 | (k',m')::l,h=>by
   have h2:=List.nodup_cons.mp h
   unfold Xn
   by_cases hk:k'=k
   ·rw [Ni hk];exact h
   ·rw [Ng hk]
    refine List.nodup_cons.mpr ⟨fun hc=>?_,Nen h2.2⟩
    rcases Nhk.mp hc with hc | hc
    ·exact hk hc
    ·exact h2.1 hc
theorem Nfd {k k':Int×Int} {m:Mk}:∀{l:Es},WU k' (Xn k m l)=if k'=k then some m else WU k' l
 | []=>by
   unfold Xn WU
   by_cases h:k'=k
   ·rw [Ni h.symm,Ni h]
   ·rw [Ng fun q=>h q.symm,Ng h];rfl
 | (k2,m2)::l=>by
   unfold Xn
   by_cases h2:k2=k
   ·rw [Ni h2]
    subst h2
    by_cases h:k'=k2
    ·rw [Ni h];unfold WU;rw [Ni h.symm]
    ·rw [Ng h];unfold WU;rw [Ng fun q=>h q.symm,Ng fun q=>h q.symm]
   ·rw [Ng h2]
    by_cases h:k2=k'
    ·have:¬k'=k:=fun q=>h2 (h.trans q)
     rw [Ng this];unfold WU;rw [Ni h,Ni h]
    ·unfold WU;rw [Ng h,Ng h];exact Nfd
structure LeastOf (S:List Ev) (l:Es):Prop where
 nd:Mx l
 from':∀k m,WU k l=some m->∃s∈S,UC s=k/\mkM s=m
 all:∀s∈S,∃m,WU (UC s) l=some m/\¬Te (mkM s) m
theorem Nj8 {a b c:Mk} (h:¬Te a b) (h2:Te c b):¬Te a c:=by
 unfold Te at *;omega
theorem Nnl {a:Mk}:¬Te a a:=by unfold Te;omega
theorem LeastOf.add {S:List Ev} {l:Es} (h:LeastOf S l) (s:Ev):LeastOf (S++[s]) (SV l s):=by
 have put:(∀m,WU (UC s) l=some m->Te (mkM s) m)->LeastOf (S++[s]) (Xn (UC s) (mkM s) l):=by
  intro a
  refine ⟨Nen h.nd,fun k m hk=>?_,fun x hx=>?_⟩
  ·rw [Nfd] at hk
   by_cases q:k=UC s
   ·rw [Ni q] at hk;cases hk;exact ⟨s,by simp,q.symm,rfl⟩
   ·rw [Ng q] at hk
    obtain ⟨y,b,h1,h2⟩:=h.from' k m hk
    exact ⟨y,Ol _ b,h1,h2⟩
  ·rw [Nfd]
   rcases Ob.mp hx with hx | hx
   ·obtain ⟨m,h1,h2⟩:=h.all x hx
    by_cases q:UC x=UC s
    ·rw [Ni q]
     rw [q] at h1
     exact ⟨_,rfl,Nj8 h2 (a m h1)⟩
    ·rw [Ng q];exact ⟨m,h1,h2⟩
   ·rw [Nk] at hx;subst hx
    rw [Ni rfl];exact ⟨_,rfl,Nnl⟩
 unfold SV
 cases hg:WU (UC s) l with
 | none=>exact put (by rw [hg];intro m h;cases h)
 | some old=>
   dsimp only
   by_cases a:Te (mkM s) old
   ·rw [Ni a];exact put (by rw [hg];intro m h;cases h;exact a)
   ·rw [Ng a]
    refine ⟨h.nd,fun k m hk=>?_,fun x hx=>?_⟩
    ·obtain ⟨y,b,h1,h2⟩:=h.from' k m hk
     exact ⟨y,Ol _ b,h1,h2⟩
    ·rcases Ob.mp hx with hx | hx
     ·exact h.all x hx
     ·rw [Nk] at hx;subst hx
      exact ⟨old,hg,a⟩
theorem Nmf:∀(T S:List Ev) (l:Es),LeastOf S l->LeastOf (S++T) (T.foldl SV l)
 | [],S,l,h=>by rw [Nb];exact h
 | s::T,S,l,h=>by
   have:=Nmf T (S++[s]) _ (h.add s)
   rw [No] at this
   exact this
theorem Xr (S:List Ev):LeastOf S (UW S):=by
 have:=Nmf S [] [] ⟨by simp [Mx],fun k m h=>(by cases h),fun s h=>(Ox h).elim⟩
 exact this
theorem Oax {a b:Mk} (hs:a.scanner=b.scanner) (h1:¬Te a b) (h2:¬Te b a):a=b:=by
 obtain ⟨e,c,d⟩:=a;obtain ⟨b1,b2,b3⟩:=b
 unfold Te at h1 h2
 simp only at hs h1 h2
 have e1:c=b2:=by omega
 have e2:d=b3:=by omega
 rw [hs,e1,e2]
theorem LeastOf.get {S:List Ev} {l:Es} (h:LeastOf S l) {k:Int×Int} {m:Mk}:WU k l=some m↔(∃s∈S,UC s=k/\mkM s=m)/\∀x∈S,UC x=k->¬Te (mkM x) m:=by
 constructor
 ·intro hk
  refine ⟨h.from' k m hk,fun x e d=>?_⟩
  obtain ⟨g,h1,h2⟩:=h.all x e
  rw [d,hk] at h1;cases h1;exact h2
 ·rintro ⟨⟨s,hs,rfl,rfl⟩,c⟩
  obtain ⟨g,h1,h2⟩:=h.all s hs
  obtain ⟨y,f,hk,rfl⟩:=h.from' _ _ h1
  rw [h1,Oax (a:=mkM s) (b:=mkM y) (P9 (·.1) hk.symm) h2 (c y f hk)]
theorem LeastOf.perm {S S':List Ev} {l l':Es} (h:LeastOf S l) (h':LeastOf S' l') (c:∀s,s∈S↔s∈S'):l.Perm l':=by
 have nd:∀{l:Es},Mx l->l.Nodup:=fun h=>(List.pairwise_map.mp h).imp fun {a b} q e=>q (P9 _ e)
 refine (List.perm_ext_iff_of_nodup (nd h.nd) (nd h'.nd)).mpr fun ⟨k,m⟩=>?_
 have e:∀{S:List Ev} {l:Es},LeastOf S l->((k,m)∈l↔WU k l=some m):=fun h=>⟨Njw h.nd,Nfe⟩
 rw [e h,e h',h.get,h'.get]
 simp only [c]
theorem Nbx (p:Mk):∀l,(UN p l).Sublist l
 | []=>.refl _
 | m::l=>by
   unfold UN
   split
   ·exact (Nbx m l).trans (List.sublist_cons_self _ _)
   ·exact (Nbx m l).cons_cons m
theorem Nz0 {a b:Mk} (h:Tm (SX a) (SX b)<=0):Yl a b\/RF b a/\a.off<=b.off:=by
 unfold SX Tm at h
 by_cases h1:a.scanner<b.scanner
 ·exact .inl (.inl h1)
 rw [Ng h1] at h
 by_cases h2:b.scanner<a.scanner
 ·rw [Ni h2] at h;omega
 rw [Ng h2] at h
 have e1:a.scanner=b.scanner:=by omega
 unfold Tm at h
 by_cases c:a.at'<b.at'
 ·exact .inl (.inr ⟨e1,c⟩)
 rw [Ng c] at h
 by_cases d:b.at'<a.at'
 ·rw [Ni d] at h;omega
 rw [Ng d] at h
 unfold Tm at h
 by_cases e:a.off<b.off
 ·exact .inr ⟨⟨e1.symm,by omega⟩,by omega⟩
 rw [Ng e] at h
 by_cases f:b.off<a.off
 ·rw [Ni f] at h;omega
 exact .inr ⟨⟨e1.symm,by omega⟩,by omega⟩
theorem Nhp {a b c:Mk} (h:Yl a b) (h2:Yl b c):Yl a c:=by unfold Yl at *;omega
theorem Nma {a b c:Mk} (h:Yl a b) (h2:RF c b):Yl a c:=by unfold Yl RF at *;omega
theorem Nnb:∀(l:List Mk) (p:Mk),TS SX (p::l)->(UN p l).Pairwise Yl/\(∀x∈UN p l,Yl p x)/\∀x∈l,RF x p/\p.off<=x.off\/∃y∈UN p l,RF x y/\y.off<=x.off
 | [],p,_=>by simp [UN]
 | m::l,p,h=>by
   obtain ⟨h1,h2⟩:=List.pairwise_cons.mp h
   obtain ⟨d,c,e⟩:=Nnb l m h2
   have b:=Nz0 (h1 m Nn)
   unfold UN
   by_cases hs:RF m p
   ·rw [Ni hs]
    have f:p.off<=m.off:=by
     rcases b with q | q
     ·unfold Yl at q;unfold RF at hs;omega
     ·exact q.2
    refine ⟨d,fun x hx=>?_,fun x hx=>?_⟩
    ·have:=c x hx;unfold Yl at *;unfold RF at hs;omega
    ·rcases Nr.mp hx with rfl | hx
     ·exact .inl ⟨hs,f⟩
     ·rcases e x hx with q | q
      ·refine .inl ⟨?_,by omega⟩
       have:=q.1;unfold RF at *;omega
      ·exact .inr q
   ·rw [Ng hs]
    have a:Yl p m:=by
     rcases b with q | q
     ·exact q
     ·exact absurd q.1 hs
    refine ⟨List.pairwise_cons.mpr ⟨c,d⟩,fun x hx=>?_,fun x hx=>?_⟩
    ·rcases Nr.mp hx with rfl | hx
     ·exact a
     ·exact Nhp a (c x hx)
    ·rcases Nr.mp hx with rfl | hx
     ·exact .inr ⟨x,Nn,⟨rfl,rfl⟩,Oq _⟩
     ·rcases e x hx with q | ⟨y,g,q⟩
      ·exact .inr ⟨m,Nn,q⟩
      ·exact .inr ⟨y,Nj _ g,q⟩
theorem WM {l:List Mk} (h:TS SX l):(Sw l).Pairwise Yl/\(Sw l).Sublist l/\∀x∈l,∃y∈Sw l,RF x y/\y.off<=x.off:=by
 cases l with
 | nil=>exact ⟨List.Pairwise.nil,.refl _,fun x h=>by cases h⟩
 | cons m l=>
   obtain ⟨b,c,d⟩:=Nnb l m h
   refine ⟨List.pairwise_cons.mpr ⟨c,b⟩,(Nbx m l).cons_cons m,fun x hx=>?_⟩
   rcases Nr.mp hx with rfl | hx
   ·exact ⟨x,Nn,⟨rfl,rfl⟩,Oq _⟩
   ·rcases d x hx with q | ⟨y,a,q⟩
    ·exact ⟨m,Nn,q⟩
    ·exact ⟨y,Nj _ a,q⟩
def Yu (S:List Ev):List Mk:=(UW S).map (·.2)
theorem Ndt {S:List Ev} {m:Mk}:m∈Yu S↔∃s∈S,mkM s=m/\∀x∈S,UC x=UC s->¬Te (mkM x) m:=by
 unfold Yu
 rw [List.mem_map]
 constructor
 ·rintro ⟨⟨k,b⟩,h,rfl⟩
  obtain ⟨⟨s,hs,rfl,rfl⟩,a⟩:=(Xr S).get.mp (Njw (Xr S).nd h)
  exact ⟨s,hs,rfl,a⟩
 ·rintro ⟨s,hs,rfl,a⟩
  exact ⟨(UC s,mkM s),Nfe ((Xr S).get.mpr ⟨⟨s,hs,rfl,rfl⟩,a⟩),rfl⟩
theorem Nxt (S:List Ev):(Yu S).length<=S.length:=by
 have put:∀(k:Int×Int) (m:Mk) (l:Es),(Xn k m l).length<=l.length+1:=by
  intro k m l
  induction l with
  | nil=>simp [Xn]
  | cons a l ih=>
    unfold Xn
    split
    ·simp
    ·simp only [Nm];omega
 have key:∀(T:List Ev) (l:Es),(T.foldl SV l).length<=l.length+T.length:=by
  intro T
  induction T with
  | nil=>intro l;simp
  | cons s T ih=>
    intro l
    have h1:=ih (SV l s)
    have h2:(SV l s).length<=l.length+1:=by
     unfold SV
     split
     ·exact put _ _ _
     split
     ·exact put _ _ _
     ·omega
    simp only [Oi,Nm];omega
 have:=key S []
 unfold Yu UW
 rw [Nu];simpa using this
theorem Vo (S:List Ev):TS SX (UM SX (Yu S)):=U8 Xt _
theorem Nh4 (S:List Ev):(PL S).Pairwise Yl:=(WM (Vo S)).1
theorem Ncp {S:List Ev} {m:Mk} (h:m∈PL S):m∈Yu S:=(Sn SX _).mem_iff.mp ((WM (Vo S)).2.1.mem h)
theorem Nmt {S:List Ev} {m:Mk} (h:m∈Yu S):∃y∈PL S,RF m y/\y.off<=m.off:=(WM (Vo S)).2.2 m ((Sn SX _).mem_iff.mpr h)
theorem Nmv {S:List Ev} (hS:∀s∈S,Sy s) {m:Mk} (h:m∈PL S):Nag m:=by
 obtain ⟨s,hs,rfl,_⟩:=Ndt.mp (Ncp h)
 have:=hS s hs
 unfold Sy at this;unfold Nag mkM;simp only;omega
theorem gather_ok {S:List Ev} (hS:∀s∈S,Sy s):Z0 (PL S):=⟨fun m h=>Nmv hS h,Nh4 S⟩
theorem Njx {S S':List Ev} (a:∀s,s∈S↔s∈S'):PL S=PL S':=by
 unfold PL
 rw [Nb6 Xt Nbl (((Xr S).perm (Xr S') a).map (·.2))]
theorem Nqd (S:List Ev):(PL S).length<=S.length:=by
 have h1:=(WM (Vo S)).2.1.length_le
 rw [(Sn SX _).length_eq] at h1
 have:=Nxt S
 unfold PL Yu at *
 omega
theorem N37 {l l':List Mk} (h:l.Pairwise Yl) (h':l'.Pairwise Yl) (c:∀m,m∈l↔m∈l'):l=l':=by
 have nd:∀{l:List Mk},l.Pairwise Yl->l.Nodup:=fun h=>h.imp fun {a b} q e=>by subst e;unfold Yl at q;omega
 have hp:l.Perm l':=(List.perm_ext_iff_of_nodup (nd h) (nd h')).mpr c
 exact List.Perm.eq_of_pairwise (le:=Yl) (fun a b _ _ h1 h2=>by unfold Yl at h1 h2;omega) h h' hp
theorem Ne5 {e x:Ev} {kept:List Ev} (h:UB e kept=some x):x∈kept/\RD x=RD e:=by
 unfold UB at h
 exact ⟨Rq h,by simpa using List.find?_some h⟩
theorem Np1 {e:Ev} {kept:List Ev} (h:UB e kept=none):∀x∈kept,RD x≠RD e:=by
 unfold UB at h
 rw [List.find?_eq_none] at h
 intro x a;simpa using h x a
def ApartL (kept:List Ev):Prop:=kept.Pairwise fun x y=>RD x=RD y->x.time-y.time > 10
theorem Nhv {e x:Ev}:∀{kept:List Ev},ApartL kept->UB e kept=some x->∀y∈kept,RD y=RD e->y.time<=x.time
 | [],_,h=>by cases h
 | k::l,ha,h=>by
   obtain ⟨h1,h2⟩:=List.pairwise_cons.mp ha
   unfold UB at h
   intro y hy hs
   by_cases hk:RD k=RD e
   ·rw [List.find?_cons_of_pos (by simpa using hk)] at h
    cases h
    rcases Nr.mp hy with rfl | hy
    ·exact Oq _
    ·have:=h1 y hy (hk.trans hs.symm);omega
   ·rw [List.find?_cons_of_neg (by simpa using hk)] at h
    rcases Nr.mp hy with rfl | hy
    ·exact absurd hs hk
    ·exact Nhv h2 h y hy hs
theorem Yw {e:Ev} {kept:List Ev}:UQ e kept=true↔∃x,UB e kept=some x/\e.time-x.time<=10:=by
 unfold UQ
 cases h:UB e kept with
 | none=>simp
 | some x=>simp
theorem Y1:∀(l kept twice:List Ev),((RI kept twice l).1++(RI kept twice l).2).Perm (kept++twice++l)
 | [],kept,twice=>by
   unfold RI
   rw [Nb]
   exact (List.reverse_perm _).append (List.reverse_perm _)
 | e::l,kept,twice=>by
   unfold RI
   split
   ·refine (Y1 l _ _).trans ?_
    rw [No,No,O5]
    exact (List.perm_middle).symm.append_left kept
   ·refine (Y1 l _ _).trans ?_
    rw [O5,O5]
    exact List.perm_middle.symm
theorem Ma:∀(l kept twice:List Ev),∃K T,RI kept twice l=(kept.reverse++K,twice.reverse++T)/\K.Sublist l/\T.Sublist l
 | [],kept,twice=>⟨[],[],by unfold RI;simp,.refl _,.refl _⟩
 | e::l,kept,twice=>by
   unfold RI
   split
   ·obtain ⟨K,T,h1,h2,a⟩:=Ma l kept (e::twice)
    exact ⟨K,e::T,by rw [h1];simp,h2.trans (List.sublist_cons_self _ _),a.cons_cons e⟩
   ·obtain ⟨K,T,h1,h2,a⟩:=Ma l (e::kept) twice
    exact ⟨e::K,T,by rw [h1];simp,h2.cons_cons e,a.trans (List.sublist_cons_self _ _)⟩
def Nge (l:List Ev):Prop:=l.Pairwise fun x y=>x.time<=y.time
theorem Y9 {l:List Ev} (h:TS TV l):Nge l:=h.imp fun {a b} q=>by
 unfold TV Tm at q
 by_cases h1:a.time<b.time
 ·omega
 rw [Ng h1] at q
 by_cases h2:b.time<a.time
 ·rw [Ni h2] at q;omega
 ·omega
theorem Na7:∀(l kept twice:List Ev),ApartL kept->(∀e∈l,∀x∈kept,x.time<=e.time)->Nge l->(∀x∈twice,∃y∈kept,RD x=RD y/\x.time>=y.time/\x.time-y.time<=10)->
  (ApartL (RI kept twice l).1.reverse)/\∀x∈(RI kept twice l).2,∃y∈(RI kept twice l).1,RD x=RD y/\x.time>=y.time/\x.time-y.time<=10
 | [],kept,twice,h1,_,_,h4=>by
   unfold RI
   refine ⟨by simpa using h1,fun x hx=>?_⟩
   obtain ⟨y,hy,q⟩:=h4 x (by simpa using hx)
   exact ⟨y,by simpa using hy,q⟩
 | e::l,kept,twice,h1,h2,h3,h4=>by
   obtain ⟨h,r2⟩:=List.pairwise_cons.mp h3
   unfold RI
   split
   ·rename_i c
    obtain ⟨x,hx,hd⟩:=Yw.mp c
    obtain ⟨d,g⟩:=Ne5 hx
    refine Na7 l kept (e::twice) h1 (fun a b=>h2 a (Nj _ b)) r2 fun y hy=>?_
    rcases Nr.mp hy with rfl | hy
    ·exact ⟨x,d,g.symm,h2 y Nn x d,hd⟩
    ·exact h4 y hy
   ·rename_i c
    refine Na7 l (e::kept) twice (List.pairwise_cons.mpr ⟨fun y hy hs=>?_,h1⟩) (fun a b x hx=>?_) r2 fun y hy=>?_
    ·cases hk:UB e kept with
     | none=>exact absurd hs.symm (Np1 hk y hy)
     | some x=>
       have hn:¬e.time-x.time<=10:=fun hc=>c (Yw.mpr ⟨x,hk,hc⟩)
       have:=Nhv h1 hk y hy hs.symm
       omega
    ·rcases Nr.mp hx with rfl | hx
     ·exact h a b
     ·exact h2 a (Nj _ b) x hx
    ·obtain ⟨z,f,q⟩:=h4 y hy
     exact ⟨z,Nj _ f,q⟩
theorem Vr (M:List Mk) (S:List Ev):TS TV (RY M S):=U8 Zr _
theorem Mo {M:List Mk} {S:List Ev} {x:Ev}:x∈RY M S↔∃s∈S,{ s with time:=Uh M s }=x:=by
 unfold RY
 rw [(Sn TV _).mem_iff,List.mem_map]
theorem N1u {D w k:Int} (a:0<w) (h1:0<=k) (h2:k<=w):min 0 D<=D*k / w/\D*k / w<=max 0 D:=by
 rcases (by omega:D<0\/0<=D) with h | h
 ·rw [Int.min_eq_right (by omega),Int.max_eq_left (by omega)]
  constructor
  ·exact Int.le_ediv_of_mul_le a (Int.mul_le_mul_of_nonpos_left (by omega) h2)
  ·refine Int.ediv_le_of_le_mul a ?_
   rw [Int.zero_mul]
   exact Int.mul_nonpos_of_nonpos_of_nonneg (by omega) h1
 ·rw [Int.min_eq_left (by omega),Int.max_eq_right (by omega)]
  exact ⟨Int.ediv_nonneg (Int.mul_nonneg h h1) (by omega),Int.ediv_le_of_le_mul a (Int.mul_le_mul_of_nonneg_left h2 h)⟩
def N5z (l:List Mk):Prop:=l.Pairwise fun a b=>a.at'<b.at'
theorem Ny1 {M:List Mk} {sc:Int} (h:M.Pairwise Yl):N5z (ofN M sc):=by
 unfold N5z ofN
 have h2:=h.filter (fun m=>m.scanner == sc)
 refine List.Pairwise.imp_of_mem ?_ h2
 intro a b c d q
 have e1:a.scanner=sc:=by simpa using (Om.mp c).2
 have e2:b.scanner=sc:=by simpa using (Om.mp d).2
 unfold Yl at q;omega
theorem Ncc {t B:Int}:∀(l:List Mk) (last:Mk),N5z l->(∀m∈l,-B<=m.off/\m.off<=B)->-B<=last.off->last.off<=B->(∀m∈l,last=Uf\/last.at'<m.at')->(last=Uf\/last.at'<t)->-B<=YA t last l/\YA t last l<=B
 | [],last,_,_,h1,h2,_,_=>⟨h1,h2⟩
 | m::l,last,hl,hb,h1,h2,h3,h4=>by
   obtain ⟨e,f⟩:=List.pairwise_cons.mp hl
   have a:=hb m Nn
   unfold YA
   split
   ·rename_i d
    exact Ncc l m f (fun x b=>hb x (Nj _ b)) a.1 a.2 (fun x b=>.inr (e x b)) (.inr d)
   split
   ·exact a
   ·rename_i g c
    have e1:=h4.resolve_left c
    have:=N1u (D:=m.off-last.off) (w:=m.at'-last.at') (k:=t-last.at') (by omega) (by omega) (by omega)
    omega
structure AtOnce (S:List Ev) (c:Int->Int) (t:Ev->Int):Prop where
 at_:∀s∈S,s.at'=t s-c s.scanner
 late:∀s∈S,t s<=s.seen
 once:∀s∈S,∃x∈S,UC x=UC s/\x.seen=t x
def Nfb (m:Mk):List Mk->List Mk
 | []=>[m]
 | y::l=>if Yl y m then y::Nfb m l else if RF y m then (if m.off<y.off then { y with off:=m.off } else y)::l else m::y::l
theorem Nsk {m:Mk}:∀{l:List Mk},l.Pairwise Yl->(Nfb m l).Pairwise Yl/\∀x∈Nfb m l,RF x m\/∃y∈l,RF x y
 | [],_=>by
   unfold Nfb
   exact ⟨List.pairwise_singleton _ _,fun x hx=>by rw [Nk] at hx;subst hx;exact .inl ⟨rfl,rfl⟩⟩
 | y::l,h=>by
   obtain ⟨h1,h2⟩:=List.pairwise_cons.mp h
   obtain ⟨g,e⟩:=Nsk (m:=m) h2
   unfold Nfb
   split
   ·rename_i c
    refine ⟨List.pairwise_cons.mpr ⟨fun x hx=>?_,g⟩,fun x hx=>?_⟩
    ·rcases e x hx with q | ⟨z,a,q⟩
     ·exact Nma c q
     ·exact Nma (h1 z a) q
    ·rcases Nr.mp hx with rfl | hx
     ·exact .inr ⟨x,Nn,rfl,rfl⟩
     ·rcases e x hx with q | ⟨z,a,q⟩
      ·exact .inl q
      ·exact .inr ⟨z,Nj _ a,q⟩
   ·split
    ·rename_i hn hs
     have f:∀z,Yl y z->Yl (if m.off<y.off then { y with off:=m.off } else y) z:=by
      intro z a;split
      ·exact a
      ·exact a
     have d:RF (if m.off<y.off then { y with off:=m.off } else y) y:=by split<;>exact ⟨rfl,rfl⟩
     refine ⟨List.pairwise_cons.mpr ⟨fun x hx=>f x (h1 x hx),h2⟩,fun x hx=>?_⟩
     rcases Nr.mp hx with rfl | hx
     ·exact .inr ⟨y,Nn,d⟩
     ·exact .inr ⟨x,Nj _ hx,rfl,rfl⟩
    ·rename_i hn hs
     have b:Yl m y:=by unfold Yl RF at *;omega
     refine ⟨List.pairwise_cons.mpr ⟨fun x hx=>?_,h⟩,fun x hx=>?_⟩
     ·rcases Nr.mp hx with rfl | hx
      ·exact b
      ·exact Nhp b (h1 x hx)
     ·rcases Nr.mp hx with rfl | hx
      ·exact .inl ⟨rfl,rfl⟩
      ·exact .inr ⟨x,hx,rfl,rfl⟩
structure RefOf (V:List Mk) (out:List Mk):Prop where
 lt:out.Pairwise Yl
 from':∀m∈out,m∈V
 all:∀m∈V,∃y∈out,RF m y/\y.off<=m.off
theorem Nsj {m:Mk}:∀{l:List Mk},(∀x∈Nfb m l,x=m\/x∈l)/\∀x,x=m\/x∈l->∃y∈Nfb m l,RF x y/\y.off<=x.off
 | []=>by
   unfold Nfb
   refine ⟨fun x hx=>.inl (by simpa using hx),fun x hx=>?_⟩
   rcases hx with rfl | hx
   ·exact ⟨x,by simp,⟨rfl,rfl⟩,Oq _⟩
   ·cases hx
 | y::l=>by
   obtain ⟨f,g⟩:=Nsj (m:=m) (l:=l)
   unfold Nfb
   split
   ·refine ⟨fun x hx=>?_,fun x hx=>?_⟩
    ·rcases Nr.mp hx with rfl | hx
     ·exact .inr Nn
     ·rcases f x hx with q | q
      ·exact .inl q
      ·exact .inr (Nj _ q)
    ·have out:x=m\/x∈l->∃z∈y::Nfb m l,RF x z/\z.off<=x.off:=fun q=>by
      obtain ⟨z,e,w⟩:=g x q
      exact ⟨z,Nj _ e,w⟩
     rcases hx with rfl | hx
     ·exact out (.inl rfl)
     ·rcases Nr.mp hx with rfl | hx
      ·exact ⟨x,Nn,⟨rfl,rfl⟩,Oq _⟩
      ·exact out (.inr hx)
   ·split
    ·rename_i hn hs
     refine ⟨fun x hx=>?_,fun x hx=>?_⟩
     ·rcases Nr.mp hx with h | hx
      ·split at h
       ·left
        subst h
        obtain ⟨a,b,c⟩:=m
        unfold RF at hs
        simp only at hs⊢
        rw [hs.1,hs.2]
       ·right;rw [h];exact Nn
      ·exact .inr (Nj _ hx)
     ·have hd:RF m (if m.off<y.off then { y with off:=m.off } else y)/\(if m.off<y.off then { y with off:=m.off } else y).off<=m.off/\RF y (if m.off<y.off then { y with off:=m.off } else y)/\(if m.off<y.off then { y with off:=m.off } else y).off<=y.off:=by
       unfold RF at hs⊢
       split
       ·rename_i d;exact ⟨⟨hs.1.symm,hs.2.symm⟩,Oq _,⟨rfl,rfl⟩,Int.le_of_lt d⟩
       ·exact ⟨⟨hs.1.symm,hs.2.symm⟩,by omega,⟨rfl,rfl⟩,Oq _⟩
      rcases hx with rfl | hx
      ·exact ⟨_,Nn,hd.1,hd.2.1⟩
      ·rcases Nr.mp hx with rfl | hx
       ·exact ⟨_,Nn,hd.2.2.1,hd.2.2.2⟩
       ·exact ⟨x,Nj _ hx,⟨rfl,rfl⟩,Oq _⟩
    ·refine ⟨fun x hx=>?_,fun x hx=>?_⟩
     ·rcases Nr.mp hx with rfl | hx
      ·exact .inl rfl
      ·exact .inr hx
     ·rcases hx with rfl | hx
      ·exact ⟨x,Nn,⟨rfl,rfl⟩,Oq _⟩
      ·exact ⟨x,Nj _ hx,⟨rfl,rfl⟩,Oq _⟩
theorem RefOf.add {V out:List Mk} (h:RefOf V out) (m:Mk):RefOf (V++[m]) (Nfb m out):=by
 obtain ⟨d,a⟩:=Nsj (m:=m) (l:=out)
 refine ⟨(Nsk h.lt).1,fun x hx=>?_,fun x hx=>?_⟩
 ·rcases d x hx with rfl | q
  ·simp
  ·exact Ol _ (h.from' x q)
 ·rcases Ob.mp hx with hx | hx
  ·obtain ⟨y,b,q1,q2⟩:=h.all x hx
   obtain ⟨z,c,q3,e⟩:=a y (.inr b)
   exact ⟨z,c,by unfold RF at *;omega,by omega⟩
  ·rw [Nk] at hx;subst hx
   exact a x (.inl rfl)
theorem Noq {V n out out':List Mk} (h:RefOf V out) (h':RefOf n out') (o:∀m,m∈V↔m∈n):out=out':=by
 have g:∀{V n out out':List Mk},RefOf V out->RefOf n out'->(∀m,m∈V↔m∈n)->∀m∈out,m∈out':=by
  intro V n out out' h h' o m k
  obtain ⟨y,r,q1,q2⟩:=h'.all m ((o m).mp (h.from' m k))
  obtain ⟨z,t,q3,u⟩:=h.all y ((o y).mpr (h'.from' y r))
  have s:RF m z:=by unfold RF at *;omega
  have p:m=z:=by
   rcases List.mem_iff_getElem.mp k with ⟨i,hi,rfl⟩
   rcases List.mem_iff_getElem.mp t with ⟨j,q,rfl⟩
   rcases Nat.lt_trichotomy i j with hij | hij | hij
   ·have:=O8.mp h.lt i j hi q hij
    unfold Yl RF at *;omega
   ·subst hij;rfl
   ·have:=O8.mp h.lt j i q hi hij
    unfold Yl RF at *;omega
  have l:m.off=y.off:=by rw [<-p] at u;omega
  have:m=y:=by
   obtain ⟨a,b,c⟩:=m;obtain ⟨d,e,f⟩:=y
   unfold RF at q1
   simp only at q1 l
   rw [q1.1,q1.2,l]
  rw [this];exact r
 exact N37 h.lt h'.lt fun m=>⟨g h h' o m,g h' h (fun m=>(o m).symm) m⟩
theorem Nad (S:List Ev):RefOf (Yu S) (PL S):=⟨Nh4 S,fun m h=>Ncp h,fun m h=>Nmt h⟩
end Go.Scan


namespace Go.Net
structure Leg where
 (id frm dst dep mins cut grams days:Int)
 deriving DecidableEq,Inhabited
def OA:Int:=1051898399
def Fine (l:Leg):Prop:=1<=l.id/\l.id<=999999/\1<=l.frm/\l.frm<=999999/\1<=l.dst/\l.dst<=999999/\0<=l.dep/\l.dep<=1439/\1<=l.mins/\l.mins<=20160/\0<=l.cut/\l.cut<=10080/\0<=l.grams/\l.grams<=1000000000/\1<=l.days/\l.days<=127/\l.frm≠l.dst
instance (l:Leg):Decidable (Fine l):=by unfold Fine;infer_instance
def runs (days:Int) (d:Nat):Bool:=days.toNat / 2 ^ (d % 7) % 2 == 1
def goes (l:Leg) (d:Nat):Bool:=runs l.days d&&decide (0<=1440*(d:Int)+l.dep-l.cut)&&decide (1440*(d:Int)+l.dep+l.mins<=OA)
def VO:Nat:=730485
theorem Zw:VO=730485:=rfl
attribute [irreducible] VO
def Dep (l:Leg) (a:Int):Prop:=∃d:Nat,d<VO/\goes l d=true/\a=1440*(d:Int)+l.dep
def Zl (l:Leg) (r:Int):Option Nat:=(List.range VO).find? fun (d:Nat)=>goes l d&&decide (r<=1440*(d:Int)+l.dep-l.cut)
def Si (l:Leg) (r:Int):Option Int:=(Zl l r).map fun (d:Nat)=>1440*(d:Int)+l.dep
def Ndh (l:Leg) (b:Int):Option Nat:=((List.range VO).find? fun (d:Nat)=>goes l (VO-1-d)&&decide (1440*((VO-1-d:Nat):Int)+l.dep+l.mins<=b)).map fun (d:Nat)=>VO-1-d
def Tj (l:Leg) (b:Int):Option Int:=(Ndh l b).map fun (d:Nat)=>1440*(d:Int)+l.dep
theorem find_range {n:Nat} {p:Nat->Bool} {i:Nat}:(List.range n).find? p=some i↔p i=true/\i<n/\∀j,j<i->p j=false:=by
 rw [List.find?_range_eq_some];simp
theorem VB {n:Nat} {p:Nat->Bool}:(List.range n).find? p=none↔∀j,j<n->p j=false:=by
 rw [List.find?_range_eq_none];simp
theorem Sg {l:Leg} {r a:Int} (h:Si l r=some a):Dep l a/\r<=a-l.cut/\∀b,Dep l b->r<=b-l.cut->a<=b:=by
 unfold Si Zl at h
 obtain ⟨d,hd,rfl⟩:=Nc.1 h
 obtain ⟨h1,h2,f⟩:=find_range.1 hd
 simp only [N0,N1] at h1
 refine ⟨⟨d,h2,h1.1,rfl⟩,h1.2,fun b ⟨e,he,i,g⟩ hr=>?_⟩
 subst g
 by_cases c:e<d
 ·have:=f e c
  simp only [i,Bool.true_and,decide_eq_false_iff_not] at this
  omega
 ·omega
theorem Ney {l:Leg} {r:Int} (h:Si l r=none):∀b,Dep l b->b-l.cut<r:=by
 unfold Si Zl at h
 rw [Option.map_eq_none_iff,VB] at h
 intro b ⟨e,he,a,c⟩
 have:=h e he
 simp only [a,Bool.true_and,decide_eq_false_iff_not] at this
 omega
theorem TH {l:Leg} {b a:Int} (h:Tj l b=some a):Dep l a/\a+l.mins<=b/\∀c,Dep l c->c+l.mins<=b->c<=a:=by
 unfold Tj Ndh at h
 obtain ⟨d,hd,rfl⟩:=Nc.1 h
 obtain ⟨g,f,rfl⟩:=Nc.1 hd
 obtain ⟨h1,h2,i⟩:=find_range.1 f
 simp only [N0,N1] at h1
 refine ⟨⟨VO-1-g,by omega,h1.1,rfl⟩,h1.2,fun c ⟨e,he,j,hc⟩ hr=>?_⟩
 subst hc
 by_cases k:VO-1-g<e
 ·have:=i (VO-1-e) (by omega)
  rw [show VO-1-(VO-1-e)=e by omega] at this
  simp only [j,Bool.true_and,decide_eq_false_iff_not] at this
  omega
 ·omega
theorem Ne6 {l:Leg} {b:Int} (h:Tj l b=none):∀c,Dep l c->b<c+l.mins:=by
 unfold Tj Ndh at h
 rw [Option.map_eq_none_iff,Option.map_eq_none_iff,VB] at h
 intro c ⟨e,he,a,hc⟩
 have:=h (VO-1-e) (by omega)
 rw [show VO-1-(VO-1-e)=e by omega] at this
 simp only [a,Bool.true_and,decide_eq_false_iff_not] at this
 omega
inductive Way (L:List Leg):Nat->Int->Int->Int->Int->Prop where
 | nil (p t:Int):Way L 0 p t p t
 | snoc {k:Nat} {p t m s a:Int} {l:Leg}:Way L k p t m s->l∈L->l.frm=m->Dep l a->s<=a-l.cut->Way L (k+1) p t l.dst (a+l.mins)
theorem Way.later {L:List Leg} {k:Nat} {p t q u:Int} (h:Way L k p t q u) (hL:∀l∈L,Fine l):t<=u:=by
 induction h with
 | nil=>omega
 | snoc h hl a hd hs ih=>have:=hL _ hl;unfold Fine at this;omega
theorem Way.early {L:List Leg} {k:Nat} {p t b q u:Int} (h:Way L k p t q u) (c:b<=t):(k=0/\p=q/\u=t)\/Way L k p b q u:=by
 induction h with
 | nil=>exact .inl ⟨rfl,rfl,rfl⟩
 | snoc h hl a hd hs ih=>
   rcases ih c with ⟨rfl,rfl,rfl⟩ | ih
   ·exact .inr (.snoc (.nil _ _) hl a hd (by omega))
   ·exact .inr (.snoc ih hl a hd hs)
theorem Way.mono {L M:List Leg} {k:Nat} {p t q u:Int} (h:Way L k p t q u) (hs:∀l∈L,l∈M):Way M k p t q u:=by
 induction h with
 | nil=>exact .nil _ _
 | snoc h hl a hd hr ih=>exact .snoc ih (hs _ hl) a hd hr
theorem Way.trans {L:List Leg} {k j:Nat} {p t m s q u:Int} (h:Way L k p t m s) (h2:Way L j m s q u):Way L (k+j) p t q u:=by
 induction h2 with
 | nil=>exact h
 | snoc h2 hl a hd hr ih=>exact .snoc (ih h) hl a hd hr
theorem Way.cons {L:List Leg} {k:Nat} {p t a q u:Int} {l:Leg} (hl:l∈L) (b:l.frm=p) (hd:Dep l a) (hr:t<=a-l.cut) (h:Way L k l.dst (a+l.mins) q u):Way L (k+1) p t q u:=by
 have:=(Way.snoc (.nil p t) hl b hd hr).trans h
 rwa [Oc,Rm] at this
theorem Way.head {L:List Leg} {k:Nat} {p t q u:Int} (h:Way L (k+1) p t q u):∃l∈L,∃a,l.frm=p/\Dep l a/\t<=a-l.cut/\Way L k l.dst (a+l.mins) q u:=by
 generalize hk:k+1=n at h
 induction h generalizing k with
 | nil=>omega
 | @snoc j p t m s a l h hl hf hd hr ih=>
   cases j with
   | zero=>
     cases h
     obtain rfl:k=0:=by omega
     exact ⟨l,hl,a,hf,hd,hr,.nil _ _⟩
   | succ i=>
     obtain ⟨e,b,a',h1,h2,c,d⟩:=ih rfl
     obtain rfl:k=i+1:=by omega
     exact ⟨e,b,a',h1,h2,c,.snoc d hl hf hd hr⟩
def SL (S:Int->Prop) (v:Int):Prop:=(v=-1/\∀u,¬S u)\/(S v/\∀u,S u->v<=u)
theorem SL.uniq {S:Int->Prop} {v w:Int} (h:SL S v) (h':SL S w):v=w:=by
 rcases h with ⟨h1,h2⟩ | ⟨h1,h2⟩<;>rcases h' with ⟨a,b⟩ | ⟨a,b⟩
 ·omega
 ·exact absurd a (h2 _)
 ·exact absurd h1 (b _)
 ·have:=h2 _ a;have:=b _ h1;omega
theorem SL.congr {S T:Int->Prop} {v:Int} (h:SL S v) (e:∀u,S u↔T u):SL T v:=by
 rcases h with ⟨h1,h2⟩ | ⟨h1,h2⟩
 ·exact .inl ⟨h1,fun u a=>h2 u ((e u).2 a)⟩
 ·exact .inr ⟨(e v).1 h1,fun u a=>h2 u ((e u).2 a)⟩
theorem SL.mem {S:Int->Prop} {v:Int} (h:SL S v) (a:0<=v):S v:=by
 rcases h with ⟨h1,h2⟩ | ⟨h1,h2⟩
 ·omega
 ·exact h1
theorem SL.none {S:Int->Prop} {v:Int} (h:SL S v) (a:∀u,S u->0<=u) (b:v<0):∀u,¬S u:=by
 rcases h with ⟨h1,h2⟩ | ⟨h1,h2⟩
 ·exact h2
 ·have:=a _ h1;omega
theorem SL.le {S:Int->Prop} {v u:Int} (h:SL S v) (a:S u):v<=u:=by
 rcases h with ⟨h1,h2⟩ | ⟨h1,h2⟩
 ·exact absurd a (h2 _)
 ·exact h2 _ a
theorem SL.one {S:Int->Prop} {v x:Int} (h:SL S v) (a:∀u,S u->0<=u) (b:0<=x):SL (fun u=>S u\/u=x) (if v<0\/x<v then x else v):=by
 by_cases hc:v<0\/x<v
 ·rw [Ni hc]
  refine .inr ⟨.inr rfl,fun u hu=>?_⟩
  rcases hu with hu | hu
  ·rcases hc with hc | hc
   ·exact absurd hu (h.none a hc u)
   ·have:=h.le hu;omega
  ·omega
 ·rw [Ng hc]
  have:=h.mem (by omega)
  refine .inr ⟨.inl this,fun u hu=>?_⟩
  rcases hu with hu | hu
  ·exact h.le hu
  ·omega
def XF (pos:Int->Nat) (lim:Int) (bef aft:List Int) (l:Leg):List Int:=
 if bef.getD (pos l.frm) (-1)<0 then aft else
 match Si l (bef.getD (pos l.frm) (-1)) with
 | some a=>if a+l.mins<=lim/\(aft.getD (pos l.dst) (-1)<0\/a+l.mins<aft.getD (pos l.dst) (-1)) then aft.set (pos l.dst) (a+l.mins) else aft
 | none=>aft
def VE (pos:Int->Nat) (lim:Int) (L:List Leg) (bef:List Int):List Int:=L.foldl (XF pos lim bef) bef
theorem Ndw {pos:Int->Nat} {lim:Int} {bef aft:List Int} {l:Leg}:(XF pos lim bef aft l).length=aft.length:=by
 unfold XF
 split
 ·rfl
 ·split
  ·split
   ·simp
   ·rfl
  ·rfl
theorem Nh8 {pos:Int->Nat} {lim:Int} {bef:List Int}:∀{L:List Leg} {aft:List Int},(L.foldl (XF pos lim bef) aft).length=aft.length
 | [],_=>rfl
 | l::L,aft=>by rw [Oi,Nh8,Ndw]
theorem Zf {pos:Int->Nat} {lim:Int} {L:List Leg} {bef:List Int}:(VE pos lim L bef).length=bef.length:=Nh8
def Nke (pos:Int->Nat) (lim:Int) (bef:List Int) (l:Leg) (q:Nat) (u:Int):Prop:=
 pos l.dst=q/\0<=bef.getD (pos l.frm) (-1)/\∃a,Si l (bef.getD (pos l.frm) (-1))=some a/\u=a+l.mins/\u<=lim
theorem Dep.nonneg {l:Leg} {a:Int} (h:Dep l a) (hl:Fine l):0<=a:=by
 obtain ⟨d,_,_,rfl⟩:=h
 unfold Fine at hl;omega
theorem Nke.nonneg {pos:Int->Nat} {lim:Int} {bef:List Int} {l:Leg} {q:Nat} {u:Int} (h:Nke pos lim bef l q u) (hl:Fine l):0<=u:=by
 obtain ⟨_,_,a,h1,h2,_⟩:=h
 have:=(Sg h1).1.nonneg hl
 unfold Fine at hl;omega
theorem Xw {L:List Int} {i j:Nat} {x d:Int} (hi:i<L.length):(L.set i x).getD j d=if i=j then x else L.getD j d:=by
 rw [Na,N6]
 by_cases h:i=j
 ·simp [h,show j<L.length by omega]
 ·simp [h,Na]
theorem Nxw {pos:Int->Nat} {lim:Int} {bef aft:List Int} {l:Leg} {q:Nat} {S:Int->Prop} (hl:Fine l) (hp:pos l.dst<aft.length) (k:∀u,S u->0<=u) (h:SL S (aft.getD q (-1))) :
  SL (fun u=>S u\/Nke pos lim bef l q u) ((XF pos lim bef aft l).getD q (-1)):=by
 unfold XF
 by_cases hs:bef.getD (pos l.frm) (-1)<0
 ·rw [Ni hs]
  exact h.congr fun u=>⟨.inl,fun c=>c.elim id fun d=>absurd d.2.1 (by omega)⟩
 rw [Ng hs]
 cases hn:Si l (bef.getD (pos l.frm) (-1)) with
 | none=>
   simp only []
   exact h.congr fun u=>⟨.inl,fun c=>c.elim id fun ⟨_,_,a,j,_⟩=>by rw [hn] at j;cases j⟩
 | some a=>
   simp only []
   have i:0<=a+l.mins:=by have:=(Sg hn).1.nonneg hl;unfold Fine at hl;omega
   by_cases f:a+l.mins<=lim
   ·by_cases g:pos l.dst=q
    ·have e:((if a+l.mins<=lim/\(aft.getD (pos l.dst) (-1)<0\/a+l.mins<aft.getD (pos l.dst) (-1)) then aft.set (pos l.dst) (a+l.mins) else aft).getD q (-1))=if aft.getD q (-1)<0\/a+l.mins<aft.getD q (-1) then a+l.mins else aft.getD q (-1):=by
      subst g
      by_cases hc:aft.getD (pos l.dst) (-1)<0\/a+l.mins<aft.getD (pos l.dst) (-1)
      ·rw [Ni ⟨f,hc⟩,Ni hc,Xw hp,Ni rfl]
      ·rw [Ng (fun h=>hc h.2),Ng hc]
     rw [e]
     refine (h.one k i).congr fun u=>⟨fun c=>c.elim .inl fun c=>.inr ⟨g,by omega,a,hn,c,by omega⟩,fun c=>c.elim .inl fun ⟨_,_,b,d,c,_⟩=>?_⟩
     rw [hn] at d;cases d;exact .inr c
    ·have e:((if a+l.mins<=lim/\(aft.getD (pos l.dst) (-1)<0\/a+l.mins<aft.getD (pos l.dst) (-1)) then aft.set (pos l.dst) (a+l.mins) else aft).getD q (-1))=aft.getD q (-1):=by
      split
      ·rw [Xw hp,Ng g]
      ·rfl
     rw [e]
     exact h.congr fun u=>⟨.inl,fun c=>c.elim id fun d=>absurd d.1 g⟩
   ·rw [Ng (fun h=>f h.1)]
    refine h.congr fun u=>⟨.inl,fun c=>c.elim id fun ⟨_,_,b,d,c,hl⟩=>?_⟩
    rw [hn] at d;cases d;omega
theorem Nh7 {pos:Int->Nat} {lim:Int} {bef:List Int} {q:Nat}:∀{L:List Leg} {aft:List Int} {S:Int->Prop},(∀l∈L,Fine l/\pos l.dst<aft.length)->(∀u,S u->0<=u)->SL S (aft.getD q (-1))->
  SL (fun u=>S u\/∃l∈L,Nke pos lim bef l q u) ((L.foldl (XF pos lim bef) aft).getD q (-1))
 | [],aft,S,hL,h0,h=>h.congr fun u=>⟨.inl,fun hu=>hu.elim id fun ⟨l,hl,_⟩=>by cases hl⟩
 | l::L,aft,S,hL,h0,h=>by
   obtain ⟨h1,h2⟩:=hL l (Nn ..)
   rw [Oi]
   refine (Nh7 (L:=L) (fun x hx=>?_) (fun u hu=>?_) (Nxw (lim:=lim) (bef:=bef) h1 h2 h0 h)).congr fun u=>?_
   ·rw [Ndw];exact hL x (Nj _ hx)
   ·rcases hu with hu | hu
    ·exact h0 u hu
    ·exact hu.nonneg h1
   ·constructor
    ·rintro ((h | h) | ⟨x,hx,h⟩)
     ·exact .inl h
     ·exact .inr ⟨l,Nn ..,h⟩
     ·exact .inr ⟨x,Nj _ hx,h⟩
    ·rintro (h | ⟨x,hx,h⟩)
     ·exact .inl (.inl h)
     ·rcases Nr.1 hx with rfl | hx
      ·exact .inl (.inr h)
      ·exact .inr ⟨x,hx,h⟩
theorem SL.dom {S T:Int->Prop} {v:Int} (h:SL S v) (h1:∀u,S u->T u) (h2:∀u,T u->∃w,w<=u/\S w):SL T v:=by
 rcases h with ⟨a,b⟩ | ⟨a,b⟩
 ·exact .inl ⟨a,fun u c=>by obtain ⟨w,_,d⟩:=h2 u c;exact b w d⟩
 ·exact .inr ⟨h1 _ a,fun u c=>by obtain ⟨w,e,d⟩:=h2 u c;have:=b w d;omega⟩
structure NetOk (N:Nat) (P:List Int) (L:List Leg) (pos:Int->Nat):Prop where
 fine:∀l∈L,Fine l
 frm:∀l∈L,l.frm∈P
 dst:∀l∈L,l.dst∈P
 inj:∀a∈P,∀b∈P,pos a=pos b->a=b
 lt:∀a∈P,pos a<N
def Z4 (N i:Nat) (t:Int):List Int:=(List.replicate N (-1)).set i t
theorem Neu {N i:Nat} {t:Int}:(Z4 N i t).length=N:=by simp [Z4]
theorem Nev {N i j:Nat} {t:Int} (hi:i<N):(Z4 N i t).getD j (-1)=if i=j then t else -1:=by
 unfold Z4
 rw [Xw (by simpa using hi)]
 split
 ·rfl
 ·rw [Na,Py];split<;>rfl
def RZ (N:Nat) (pos:Int->Nat) (lim:Int) (L:List Leg) (p ready:Int):Nat->List Int
 | 0=>Z4 N (pos p) ready
 | k+1=>VE pos lim L (RZ N pos lim L p ready k)
theorem UI {N:Nat} {pos:Int->Nat} {lim:Int} {L:List Leg} {p ready:Int}:∀{k:Nat},(RZ N pos lim L p ready k).length=N
 | 0=>Neu
 | k+1=>by rw [RZ,Zf,UI]
theorem X8 {N:Nat} {P:List Int} {L:List Leg} {pos:Int->Nat} {lim p ready:Int} (hn:NetOk N P L pos) (hp:p∈P) (hr:0<=ready) (d:ready<=lim):∀(k:Nat) (q:Int),q∈P->
  SL (fun u=>(∃j,j<=k/\Way L j p ready q u)/\u<=lim) ((RZ N pos lim L p ready k).getD (pos q) (-1))
 | 0,q,hq=>by
   rw [RZ,Nev (hn.lt p hp)]
   by_cases h:pos p=pos q
   ·rw [Ni h]
    have:=hn.inj p hp q hq h
    subst this
    refine .inr ⟨⟨⟨0,Nd _,.nil _ _⟩,d⟩,fun u ⟨⟨j,n,c⟩,_⟩=>c.later hn.fine⟩
   ·rw [Ng h]
    refine .inl ⟨rfl,fun u ⟨⟨j,n,c⟩,_⟩=>?_⟩
    obtain rfl:j=0:=by omega
    cases c
    exact h rfl
 | k+1,q,hq=>by
   have ih:=X8 hn hp hr d k
   have z:∀q u,((∃j,j<=k/\Way L j p ready q u)/\u<=lim)->0<=u:=fun q u ⟨⟨j,_,c⟩,_⟩=>by have:=c.later hn.fine;omega
   rw [RZ,VE]
   refine (Nh7 (L:=L) (fun l hl=>⟨hn.fine l hl,by rw [UI];exact hn.lt _ (hn.dst l hl)⟩) (z q) (ih q hq)).dom (fun u r=>?_) (fun u r=>?_)
   ·rcases r with ⟨⟨j,n,c⟩,hl⟩ | ⟨l,hl,hd,hs,a,A,rfl,e⟩
    ·exact ⟨⟨j,by omega,c⟩,hl⟩
    ·obtain ⟨⟨j,n,c⟩,i⟩:=(ih l.frm (hn.frm l hl)).mem hs
     obtain ⟨w,x,y⟩:=Sg A
     have:=hn.inj _ (hn.dst l hl) q hq hd
     subst this
     exact ⟨⟨j+1,by omega,.snoc c hl rfl w x⟩,e⟩
   ·obtain ⟨⟨j,n,c⟩,v⟩:=r
    by_cases f:j<=k
    ·exact ⟨u,Oq _,.inl ⟨⟨j,f,c⟩,v⟩⟩
    ·cases c with
     | nil=>exact absurd (Nw _) f
     | @snoc j' p t m s a l c hl hf hd hs=>
       subst hf
       have o:=hn.fine l hl
       have i:s<=lim:=by unfold Fine at o;omega
       have hS:(∃j,j<=k/\Way L j p ready l.frm s)/\s<=lim:=⟨⟨j',by omega,c⟩,i⟩
       have B:=(ih l.frm (hn.frm l hl)).le hS
       have g:0<=(RZ N pos lim L p ready k).getD (pos l.frm) (-1):=by
        apply Oh;intro hc
        exact (ih l.frm (hn.frm l hl)).none (z _) (by omega) s hS
       cases hnx:Si l ((RZ N pos lim L p ready k).getD (pos l.frm) (-1)) with
       | none=>have:=Ney hnx a hd;omega
       | some b=>
         obtain ⟨w,x,y⟩:=Sg hnx
         have:=y a hd (by omega)
         exact ⟨b+l.mins,by omega,.inr ⟨l,hl,rfl,g,b,hnx,rfl,by omega⟩⟩
theorem Nf7 {N:Nat} {pos:Int->Nat} {lim:Int} {L:List Leg} {p ready:Int} {k:Nat} (h:RZ N pos lim L p ready (k+1)=RZ N pos lim L p ready k):∀j,RZ N pos lim L p ready (k+j)=RZ N pos lim L p ready k
 | 0=>rfl
 | j+1=>by rw [<-Pe,RZ,Nf7 h j];exact h
theorem Nf8 {N:Nat} {P:List Int} {L:List Leg} {pos:Int->Nat} {lim p ready:Int} (hn:NetOk N P L pos) (hp:p∈P) (hr:0<=ready) (a:ready<=lim) {k:Nat} (h:RZ N pos lim L p ready (k+1)=RZ N pos lim L p ready k) (q:Int) (f:q∈P) :
  SL (fun u=>(∃j,Way L j p ready q u)/\u<=lim) ((RZ N pos lim L p ready k).getD (pos q) (-1)):=by
 refine (X8 hn hp hr a k q f).dom (fun u ⟨⟨j,_,b⟩,hl⟩=>⟨⟨j,b⟩,hl⟩) (fun u ⟨⟨j,b⟩,hl⟩=>?_)
 have e:=X8 hn hp hr a (k+j) q f
 rw [Nf7 h] at e
 have d:=e.le ⟨⟨j,by omega,b⟩,hl⟩
 have hk:=X8 hn hp hr a k q f
 have i:∀u,((∃g,g<=k+j/\Way L g p ready q u)/\u<=lim)->0<=u:=fun u ⟨⟨j,_,b⟩,_⟩=>by have:=b.later hn.fine;omega
 have c:0<=(RZ N pos lim L p ready k).getD (pos q) (-1):=by
  apply Oh;intro hc
  exact e.none i (by omega) u ⟨⟨j,by omega,b⟩,hl⟩
 exact ⟨_,d,hk.mem c⟩
def Nqj (ready lim t:Int):Nat:=if t<0 then (lim-ready).toNat+1 else (t-ready).toNat
def muA (ready lim:Int) (T:List Int):Nat:=(T.map (Nqj ready lim)).sum
def WZ (ready lim:Int) (T:List Int):Prop:=∀t∈T,t=-1\/ready<=t/\t<=lim
theorem Nzo {ready lim:Int}:∀{T:List Int},WZ ready lim T->muA ready lim T<=T.length*((lim-ready).toNat+1)
 | [],_=>by simp [muA]
 | t::T,h=>by
   have ih:=Nzo (T:=T) fun x a=>h x (Nj _ a)
   have h1:=h t (Nn ..)
   unfold muA at ih⊢
   simp only [N3,List.sum_cons,Nm,Pn]
   have:Nqj ready lim t<=(lim-ready).toNat+1:=by unfold Nqj;split<;>omega
   omega
theorem Nzn {f:Int->Nat}:∀{T:List Int} {i:Nat} {x:Int} (hi:i<T.length),((T.set i x).map f).sum+f (T.getD i (-1))=(T.map f).sum+f x
 | t::T,0,x,_=>by simp;omega
 | t::T,i+1,x,hi=>by
   have:=Nzn (f:=f) (T:=T) (i:=i) (x:=x) (by simpa using hi)
   simp only [Qw,N3,List.sum_cons,List.getD_cons_succ]
   omega
theorem N2y {pos:Int->Nat} {ready lim:Int} {bef aft:List Int} {l:Leg} (g:WZ ready lim bef) (b:WZ ready lim aft) (hl:Fine l) (hd:pos l.dst<aft.length) (hr:0<=ready) :
  WZ ready lim (XF pos lim bef aft l)/\(XF pos lim bef aft l=aft\/muA ready lim (XF pos lim bef aft l)<muA ready lim aft):=by
 unfold XF
 by_cases hs:bef.getD (pos l.frm) (-1)<0
 ·rw [Ni hs];exact ⟨b,.inl rfl⟩
 rw [Ng hs]
 cases hn:Si l (bef.getD (pos l.frm) (-1)) with
 | none=>exact ⟨b,.inl rfl⟩
 | some a=>
   simp only []
   split
   case isFalse=>exact ⟨b,.inl rfl⟩
   rename_i hc
   obtain ⟨m,n,o⟩:=Sg hn
   have i:ready<=bef.getD (pos l.frm) (-1):=by
    by_cases h:pos l.frm<bef.length
    ·have e:bef.getD (pos l.frm) (-1)=bef[pos l.frm]:=by rw [Na,Nf h];rfl
     have:=g _ (P3 h)
     rw [e] at hs⊢;omega
    ·rw [Na,Nx (by omega)] at hs;exact absurd (by decide) hs
   have c:=hl
   unfold Fine at c
   have j:ready<=a+l.mins/\a+l.mins<=lim:=⟨by omega,hc.1⟩
   have d:aft.getD (pos l.dst) (-1)=-1\/ready<=aft.getD (pos l.dst) (-1)/\aft.getD (pos l.dst) (-1)<=lim:=by
    have e:aft.getD (pos l.dst) (-1)=aft[pos l.dst]:=by rw [Na,Nf hd];rfl
    rw [e];exact b _ (P3 hd)
   refine ⟨fun t k=>?_,.inr ?_⟩
   ·rcases Q8 k with h | h
    ·exact b t h
    ·exact .inr (by omega)
   ·have:=Nzn (f:=Nqj ready lim) (x:=a+l.mins) hd
    unfold muA
    have e1:Nqj ready lim (a+l.mins)<Nqj ready lim (aft.getD (pos l.dst) (-1)):=by
     unfold Nqj
     rw [Ng (by omega)]
     split<;>omega
    omega
theorem Nmw {pos:Int->Nat} {ready lim:Int} {bef:List Int} (a:WZ ready lim bef) (hr:0<=ready):∀{L:List Leg} {aft:List Int},(∀l∈L,Fine l/\pos l.dst<aft.length)->WZ ready lim aft->
  WZ ready lim (L.foldl (XF pos lim bef) aft)/\(L.foldl (XF pos lim bef) aft=aft\/muA ready lim (L.foldl (XF pos lim bef) aft)<muA ready lim aft)
 | [],aft,hL,ha=>⟨ha,.inl rfl⟩
 | l::L,aft,hL,ha=>by
   obtain ⟨h1,h2⟩:=hL l (Nn ..)
   obtain ⟨b,g2⟩:=N2y (l:=l) a ha h1 h2 hr
   obtain ⟨k1,k2⟩:=Nmw a hr (L:=L) (aft:=XF pos lim bef aft l) (fun x c=>by rw [Ndw];exact hL x (Nj _ c)) b
   rw [Oi]
   refine ⟨k1, ?_⟩
   rcases k2 with k2 | k2
   ·rw [k2];exact g2
   ·rcases g2 with g2 | g2
    ·rw [g2] at k2⊢;exact .inr k2
    ·exact .inr (by omega)
theorem Nkv {pos:Int->Nat} {ready lim:Int} {bef:List Int} {L:List Leg} (a:WZ ready lim bef) (hr:0<=ready) (hL:∀l∈L,Fine l/\pos l.dst<bef.length) :
  WZ ready lim (VE pos lim L bef)/\(VE pos lim L bef=bef\/muA ready lim (VE pos lim L bef)<muA ready lim bef):=Nmw a hr hL a
def TZ (L:List Leg) (p ready q v:Int):Prop:=SL (fun u=>(∃j,Way L j p ready q u)/\u<=ready+86400) v
theorem TZ.start {L:List Leg} {p ready v:Int} (h:TZ L p ready p v) (hL:∀l∈L,Fine l):v=ready:=
 SL.uniq h (.inr ⟨⟨⟨0,.nil _ _⟩,by omega⟩,fun u ⟨⟨j,a⟩,_⟩=>a.later hL⟩)
theorem TZ.ge {L:List Leg} {p ready q v:Int} (h:TZ L p ready q v) (hL:∀l∈L,Fine l) (a:0<=v):ready<=v/\v<=ready+86400:=by
 obtain ⟨⟨j,b⟩,hl⟩:=h.mem a
 exact ⟨b.later hL,hl⟩
theorem TZ.later {L:List Leg} {p a b q x y:Int} (e:TZ L p a q x) (h:TZ L p b q y) (d:a<=b) (f:0<=y):x<=y:=by
 obtain ⟨⟨j,g⟩,hl⟩:=h.mem f
 by_cases c:y<=a+86400
 ·rcases g.early d with ⟨rfl,rfl,rfl⟩ | hw'
  ·have:=e.le (u:=a) ⟨⟨0,.nil _ _⟩,by omega⟩;omega
  ·exact e.le ⟨⟨j,hw'⟩,c⟩
 ·rcases e with ⟨h1,_⟩ | ⟨⟨_,h1⟩,_⟩<;>omega
theorem TZ.same {L M:List Leg} {p t q x y:Int} (b:TZ L p t q x) (c:TZ M p t q y) (hs:∀l,l∈M↔l∈L):x=y:=
 b.uniq (c.congr fun u=>⟨fun ⟨⟨j,a⟩,hl⟩=>⟨⟨j,a.mono fun l h=>(hs l).1 h⟩,hl⟩,fun ⟨⟨j,a⟩,hl⟩=>⟨⟨j,a.mono fun l h=>(hs l).2 h⟩,hl⟩⟩)
def TE (S:Int->Prop) (v:Int):Prop:=(v=-1/\∀u,¬S u)\/(S v/\∀u,S u->u<=v)
theorem TE.uniq {S:Int->Prop} {v w:Int} (h:TE S v) (h':TE S w):v=w:=by
 rcases h with ⟨h1,h2⟩ | ⟨h1,h2⟩<;>rcases h' with ⟨a,b⟩ | ⟨a,b⟩
 ·omega
 ·exact absurd a (h2 _)
 ·exact absurd h1 (b _)
 ·have:=h2 _ a;have:=b _ h1;omega
theorem TE.congr {S T:Int->Prop} {v:Int} (h:TE S v) (e:∀u,S u↔T u):TE T v:=by
 rcases h with ⟨h1,h2⟩ | ⟨h1,h2⟩
 ·exact .inl ⟨h1,fun u a=>h2 u ((e u).2 a)⟩
 ·exact .inr ⟨(e v).1 h1,fun u a=>h2 u ((e u).2 a)⟩
theorem TE.mem {S:Int->Prop} {v:Int} (h:TE S v) (a:0<=v):S v:=by
 rcases h with ⟨h1,h2⟩ | ⟨h1,h2⟩
 ·omega
 ·exact h1
theorem TE.none {S:Int->Prop} {v:Int} (h:TE S v) (a:∀u,S u->0<=u) (b:v<0):∀u,¬S u:=by
 rcases h with ⟨h1,h2⟩ | ⟨h1,h2⟩
 ·exact h2
 ·have:=a _ h1;omega
theorem TE.ge {S:Int->Prop} {v u:Int} (h:TE S v) (a:S u):u<=v:=by
 rcases h with ⟨h1,h2⟩ | ⟨h1,h2⟩
 ·exact absurd a (h2 _)
 ·exact h2 _ a
theorem TE.one {S:Int->Prop} {v x:Int} (h:TE S v) (a:∀u,S u->0<=u) (b:0<=x):TE (fun u=>S u\/u=x) (if v<x then x else v):=by
 by_cases hc:v<x
 ·rw [Ni hc]
  refine .inr ⟨.inr rfl,fun u hu=>?_⟩
  rcases hu with hu | hu
  ·have:=h.ge hu;omega
  ·omega
 ·rw [Ng hc]
  have:=h.mem (by omega)
  refine .inr ⟨.inl this,fun u hu=>?_⟩
  rcases hu with hu | hu
  ·exact h.ge hu
  ·omega
theorem TE.dom {S T:Int->Prop} {v:Int} (h:TE S v) (h1:∀u,S u->T u) (h2:∀u,T u->∃w,u<=w/\S w):TE T v:=by
 rcases h with ⟨a,b⟩ | ⟨a,b⟩
 ·exact .inl ⟨a,fun u c=>by obtain ⟨w,_,d⟩:=h2 u c;exact b w d⟩
 ·exact .inr ⟨h1 _ a,fun u c=>by obtain ⟨w,e,d⟩:=h2 u c;have:=b w d;omega⟩
def Nkk (pos:Int->Nat) (low:Int) (bef aft:List Int) (l:Leg):List Int:=
 if bef.getD (pos l.dst) (-1)<0 then aft else
 match Tj l (bef.getD (pos l.dst) (-1)) with
 | some a=>if low<=a-l.cut/\aft.getD (pos l.frm) (-1)<a-l.cut then aft.set (pos l.frm) (a-l.cut) else aft
 | none=>aft
theorem Nxv {pos:Int->Nat} {low:Int} {bef aft:List Int} {l:Leg}:(Nkk pos low bef aft l).length=aft.length:=by
 unfold Nkk
 split
 ·rfl
 ·split
  ·split
   ·simp
   ·rfl
  ·rfl
def Nsu (pos:Int->Nat) (low:Int) (bef:List Int) (l:Leg) (q:Nat) (u:Int):Prop:=
 pos l.frm=q/\0<=bef.getD (pos l.dst) (-1)/\∃a,Tj l (bef.getD (pos l.dst) (-1))=some a/\u=a-l.cut/\low<=u
theorem Dep.ready {l:Leg} {a:Int} (h:Dep l a):0<=a-l.cut:=by
 obtain ⟨d,_,b,rfl⟩:=h
 unfold goes at b
 simp only [N0,N1] at b
 omega
theorem Nsu.nonneg {pos:Int->Nat} {low:Int} {bef:List Int} {l:Leg} {q:Nat} {u:Int} (h:Nsu pos low bef l q u):0<=u:=by
 obtain ⟨_,_,a,h1,h2,_⟩:=h
 have:=(TH h1).1.ready
 omega
theorem Nxu {pos:Int->Nat} {low:Int} {bef aft:List Int} {l:Leg} {q:Nat} {S:Int->Prop} (hp:pos l.frm<aft.length) (k:∀u,S u->0<=u) (h:TE S (aft.getD q (-1))) :
  TE (fun u=>S u\/Nsu pos low bef l q u) ((Nkk pos low bef aft l).getD q (-1)):=by
 unfold Nkk
 by_cases hs:bef.getD (pos l.dst) (-1)<0
 ·rw [Ni hs]
  exact h.congr fun u=>⟨.inl,fun c=>c.elim id fun d=>absurd d.2.1 (by omega)⟩
 rw [Ng hs]
 cases hn:Tj l (bef.getD (pos l.dst) (-1)) with
 | none=>
   simp only []
   exact h.congr fun u=>⟨.inl,fun c=>c.elim id fun ⟨_,_,a,j,_⟩=>by rw [hn] at j;cases j⟩
 | some a=>
   simp only []
   have i:0<=a-l.cut:=(TH hn).1.ready
   by_cases f:low<=a-l.cut
   ·by_cases g:pos l.frm=q
    ·have e:((if low<=a-l.cut/\aft.getD (pos l.frm) (-1)<a-l.cut then aft.set (pos l.frm) (a-l.cut) else aft).getD q (-1))=if aft.getD q (-1)<a-l.cut then a-l.cut else aft.getD q (-1):=by
      subst g
      by_cases hc:aft.getD (pos l.frm) (-1)<a-l.cut
      ·rw [Ni ⟨f,hc⟩,Ni hc,Xw hp,Ni rfl]
      ·rw [Ng (fun h=>hc h.2),Ng hc]
     rw [e]
     refine (h.one k i).congr fun u=>⟨fun c=>c.elim .inl fun c=>.inr ⟨g,by omega,a,hn,c,by omega⟩,fun c=>c.elim .inl fun ⟨_,_,b,d,c,_⟩=>?_⟩
     rw [hn] at d;cases d;exact .inr c
    ·have e:((if low<=a-l.cut/\aft.getD (pos l.frm) (-1)<a-l.cut then aft.set (pos l.frm) (a-l.cut) else aft).getD q (-1))=aft.getD q (-1):=by
      split
      ·rw [Xw hp,Ng g]
      ·rfl
     rw [e]
     exact h.congr fun u=>⟨.inl,fun c=>c.elim id fun d=>absurd d.1 g⟩
   ·rw [Ng (fun h=>f h.1)]
    refine h.congr fun u=>⟨.inl,fun c=>c.elim id fun ⟨_,_,b,d,c,hl⟩=>?_⟩
    rw [hn] at d;cases d;omega
theorem Nh6 {pos:Int->Nat} {low:Int} {bef:List Int} {q:Nat}:∀{L:List Leg} {aft:List Int} {S:Int->Prop},(∀l∈L,pos l.frm<aft.length)->(∀u,S u->0<=u)->TE S (aft.getD q (-1))->
  TE (fun u=>S u\/∃l∈L,Nsu pos low bef l q u) ((L.foldl (Nkk pos low bef) aft).getD q (-1))
 | [],aft,S,hL,h0,h=>h.congr fun u=>⟨.inl,fun hu=>hu.elim id fun ⟨l,hl,_⟩=>by cases hl⟩
 | l::L,aft,S,hL,h0,h=>by
   rw [Oi]
   refine (Nh6 (L:=L) (fun x hx=>?_) (fun u hu=>?_) (Nxu (low:=low) (bef:=bef) (hL l (Nn ..)) h0 h)).congr fun u=>?_
   ·rw [Nxv];exact hL x (Nj _ hx)
   ·rcases hu with hu | hu
    ·exact h0 u hu
    ·exact hu.nonneg
   ·constructor
    ·rintro ((h | h) | ⟨x,hx,h⟩)
     ·exact .inl h
     ·exact .inr ⟨l,Nn ..,h⟩
     ·exact .inr ⟨x,Nj _ hx,h⟩
    ·rintro (h | ⟨x,hx,h⟩)
     ·exact .inl (.inl h)
     ·rcases Nr.1 hx with rfl | hx
      ·exact .inl (.inr h)
      ·exact .inr ⟨x,hx,h⟩
def ZT (L:List Leg) (q a p v:Int):Prop:=TE (fun u=>0<=u/\a-86400<=u/\∃j v,v<=a/\Way L j p u q v) v
theorem ZT.start {L:List Leg} {q dl v:Int} (h:ZT L q dl q v) (hL:∀l∈L,Fine l) (a:0<=dl):v=dl:=
 h.uniq (.inr ⟨⟨a,by omega,0,dl,Oq _,.nil _ _⟩,fun u ⟨_,_,j,v,c,b⟩=>by have:=b.later hL;omega⟩)
theorem ZT.range {L:List Leg} {q dl p v:Int} (h:ZT L q dl p v) (hL:∀l∈L,Fine l) (a:0<=v):dl-86400<=v/\v<=dl:=by
 obtain ⟨_,h1,j,u,c,b⟩:=h.mem a
 have:=b.later hL
 exact ⟨h1,by omega⟩
theorem ZT.later {L:List Leg} {p q a b x y:Int} (i:ZT L q a p x) (e:ZT L q b p y) (hL:∀l∈L,Fine l) (f:a<=b) (c:0<=x) (d:0<=y):x<=y:=by
 obtain ⟨h1,h2,j,v,k,g⟩:=i.mem c
 by_cases h:b-86400<=x
 ·exact e.ge ⟨h1,h,j,v,by omega,g⟩
 ·have:=(e.range hL d).1;omega
theorem ZT.same {L M:List Leg} {p q e x y:Int} (f:ZT L q e p x) (g:ZT M q e p y) (hs:∀l,l∈M↔l∈L):x=y:=
 f.uniq (g.congr fun u=>⟨fun ⟨a,b,j,v,c,d⟩=>⟨a,b,j,v,c,d.mono fun l h=>(hs l).1 h⟩,fun ⟨a,b,j,v,c,d⟩=>⟨a,b,j,v,c,d.mono fun l h=>(hs l).2 h⟩⟩)
def Yv (pos:Int->Nat) (bef aft:List Int) (l:Leg):List Int:=
 if bef.getD (pos l.dst) (-1)<0 then aft else
 match Tj l (bef.getD (pos l.dst) (-1)) with
 | some a=>aft.set (pos l.frm) (if aft.getD (pos l.frm) (-1)<a-l.cut then a-l.cut else aft.getD (pos l.frm) (-1))
 | none=>aft
def stepX (N:Nat) (pos:Int->Nat) (L:List Leg) (bef:List Int):List Int:=L.foldl (Yv pos bef) (List.replicate N (-1))
theorem Ns2 {pos:Int->Nat} {bef aft:List Int} {l:Leg}:Yv pos bef aft l=Nkk pos 0 bef aft l:=by
 unfold Yv Nkk
 split
 ·rfl
 cases ha:Tj l (bef.getD (pos l.dst) (-1)) with
 | none=>rfl
 | some a=>
   have:=(TH ha).1.ready
   by_cases h:aft.getD (pos l.frm) (-1)<a-l.cut
   ·simp only [h,this,and_self,if_true]
   ·simp only [h,and_false,if_false]
    apply List.ext_getElem?
    intro i
    rw [N6]
    split
    ·rename_i e;subst e
     split
     ·rename_i hl;rw [Na,Nf hl];rfl
     ·rename_i hl;rw [Nx (by omega)]
    ·rfl
def Nai (N:Nat) (pos:Int->Nat) (L:List Leg) (q a:Int):Nat->List Int
 | 0=>Z4 N (pos q) a
 | k+1=>stepX N pos L (Nai N pos L q a k)
theorem N60 {pos:Int->Nat} {bef:List Int}:∀{L:List Leg} {aft:List Int},L.foldl (Yv pos bef) aft=L.foldl (Nkk pos 0 bef) aft
 | [],_=>rfl
 | l::L,aft=>by rw [Oi,Oi,Ns2,N60]
theorem Nfk {N:Nat} {P:List Int} {L:List Leg} {pos:Int->Nat} {q c:Int} (hn:NetOk N P L pos) (n:q∈P) (hr:0<=c):∀(k:Nat) (p:Int),p∈P->
  TE (fun u=>0<=u/\∃v,v<=c/\Way L k p u q v) ((Nai N pos L q c k).getD (pos p) (-1))
 | 0,p,hp=>by
   rw [Nai,Nev (hn.lt q n)]
   by_cases h:pos q=pos p
   ·rw [Ni h]
    have:=hn.inj q n p hp h
    subst this
    exact .inr ⟨⟨hr,c,Oq _,.nil _ _⟩,fun u ⟨_,v,j,d⟩=>by have:=d.later hn.fine;omega⟩
   ·rw [Ng h]
    refine .inl ⟨rfl,fun u ⟨_,v,j,d⟩=>?_⟩
    cases d
    exact h rfl
 | k+1,p,hp=>by
   have ih:=Nfk hn n hr k
   rw [Nai,stepX,N60]
   have g:(List.replicate N (-1:Int)).getD (pos p) (-1)=-1:=by
    rw [Na,Py];split<;>rfl
   refine (Nh6 (L:=L) (S:=fun _=>False) (fun l hl=>by rw [Oo];exact hn.lt _ (hn.frm l hl)) (fun _ h=>h.elim) (.inl ⟨g,fun _ h=>h⟩)).dom (fun u i=>?_) (fun u i=>?_)
   ·rcases i with i | ⟨l,hl,hd,hs,a,s,rfl,m⟩
    ·exact i.elim
    ·obtain ⟨_,v,j,d⟩:=(ih l.dst (hn.dst l hl)).mem hs
     obtain ⟨r,t,B⟩:=TH s
     have:=hn.inj _ (hn.frm l hl) p hp hd
     subst this
     have w:∃v',v'<=c/\Way L k l.dst (a+l.mins) q v':=by
      rcases d.early t with ⟨rfl,e1,e2⟩ | hw'
      ·rw [e1];exact ⟨a+l.mins,by omega,.nil _ _⟩
      ·exact ⟨v,j,hw'⟩
     obtain ⟨v',o,hw'⟩:=w
     exact ⟨r.ready,v',o,.cons hl rfl r (Oq _) hw'⟩
   ·obtain ⟨A,v,j,d⟩:=i
    obtain ⟨l,hl,a,x,hd,s,hw'⟩:=d.head
    subst x
    have e:=hn.fine l hl
    have z:=hd.ready
    have y:=(ih l.dst (hn.dst l hl)).ge (u:=a+l.mins) ⟨by unfold Fine at e;omega,v,j,hw'⟩
    have f:0<=(Nai N pos L q c k).getD (pos l.dst) (-1):=by unfold Fine at e;omega
    cases hnx:Tj l ((Nai N pos L q c k).getD (pos l.dst) (-1)) with
    | none=>have:=Ne6 hnx a hd;omega
    | some b=>
      obtain ⟨q1,q2,q3⟩:=TH hnx
      have:=q3 a hd (by omega)
      exact ⟨b-l.cut,by omega,.inr ⟨l,hl,rfl,f,b,hnx,rfl,by omega⟩⟩
def RV (L:List Leg):Int->Int->List (Leg×Int)->Int->Int->Prop
 | p,t,[],q,u=>p=q/\t=u
 | p,t,(l,a)::w,q,u=>l∈L/\l.frm=p/\Dep l a/\t<=a-l.cut/\RV L l.dst (a+l.mins) w q u
theorem RV.way {L:List Leg}:∀{w:List (Leg×Int)} {p t q u:Int},RV L p t w q u->Way L w.length p t q u
 | [],p,t,q,u,h=>by obtain ⟨rfl,rfl⟩:=h;exact .nil _ _
 | (l,a)::w,p,t,q,u,h=>by
   obtain ⟨h1,h2,b,c,d⟩:=h
   exact .cons h1 h2 b c d.way
theorem Way.isWay {L:List Leg}:∀{k:Nat} {p t q u:Int},Way L k p t q u->∃w,w.length=k/\RV L p t w q u
 | 0,p,t,q,u,h=>by cases h;exact ⟨[],rfl,rfl,rfl⟩
 | k+1,p,t,q,u,h=>by
   obtain ⟨l,hl,a,d,hd,c,b⟩:=h.head
   obtain ⟨w,e,b⟩:=b.isWay
   exact ⟨(l,a)::w,by simp [e],hl,d,hd,c,b⟩
def T9 (pos:Int->Nat) (late:List Int) (plant there:Int) (l:Leg):Option (Leg×Int):=
 if l.frm=plant then match Si l there with
  | some a=>if a+l.mins<=late.getD (pos l.dst) (-1) then some (l,a) else none
  | none=>none
 else none
def Yk (pos:Int->Nat) (S:List Leg) (late:List Int) (plant there:Int):Option (Leg×Int):=S.findSome? (T9 pos late plant there)
def goW (pos:Int->Nat) (S:List Leg) (late:Nat->List Int):Nat->Int->Int->List (Leg×Int)
 | 0,_,_=>[]
 | k+1,p,t=>match Yk pos S (late k) p t with
   | some (l,a)=>(l,a)::goW pos S late k l.dst (a+l.mins)
   | none=>goW pos S late k p t
def Nmc:List Int->List Int->Prop
 | x::a,y::b=>x<y\/x=y/\Nmc a b
 | _,_=>False
def Z6 (w:List (Leg×Int)):List Int:=w.map fun x=>x.1.id
theorem Y7 {pos:Int->Nat} {late:List Int} {p t:Int} {l:Leg} {r:Leg×Int} (h:T9 pos late p t l=some r):l.frm=p/\r.1=l/\Si l t=some r.2/\r.2+l.mins<=late.getD (pos l.dst) (-1):=by
 unfold T9 at h
 split at h
 case isFalse=>cases h
 rename_i c
 split at h
 case h_2=>cases h
 rename_i a b
 split at h
 case isFalse=>cases h
 rename_i hl
 cases h
 exact ⟨c,rfl,b,hl⟩
theorem Nmr {N:Nat} {P:List Int} {L S:List Leg} {pos:Int->Nat} {q o:Int} {late:Nat->List Int} (hn:NetOk N P L pos) (V:q∈P) (hr:0<=o)
  (hS:∀l,l∈S↔l∈L) (hs:S.Pairwise fun a b=>a.id<b.id) (c:∀k,late k=Nai N pos L q o k):∀(k:Nat) (p t:Int),p∈P->0<=t->(∃v,v<=o/\Way L k p t q v)->
  (goW pos S late k p t).length=k/\(∃v,v<=o/\RV L p t (goW pos S late k p t) q v)/\
   ∀w' j v',t<=j->RV L p j w' q v'->v'<=o->w'.length=k->¬Nmc (Z6 w') (Z6 (goW pos S late k p t))
 | 0,p,t,hp,ht,⟨v,G,I⟩=>by
   cases I
   exact ⟨rfl,⟨_,G,rfl,rfl⟩,fun w' j v' _ _ _ hl=>by cases w' with | nil=>exact fun h=>h | cons=>simp at hl⟩
 | k+1,p,t,hp,ht,⟨v,G,I⟩=>by
   have can:∀l∈L,∀a j v:Int,l.frm=p->Dep l a->t<=j->j<=a-l.cut->Way L k l.dst (a+l.mins) q v->v<=o->∃b,T9 pos (late k) p t l=some (l,b)/\b<=a:=by
    intro l hl a j v hf hd F ha I G
    have f:=hn.fine l hl
    have ad:=hd.ready
    have ac:=(Nfk hn V hr k l.dst (hn.dst l hl)).ge (u:=a+l.mins) ⟨by unfold Fine at f;omega,v,G,I⟩
    cases J:Si l t with
    | none=>have:=Ney J a hd;omega
    | some b=>
      obtain ⟨q1,q2,q3⟩:=Sg J
      have:=q3 a hd (by omega)
      refine ⟨b, ?_,this⟩
      simp only [T9,hf,if_true,J,c]
      rw [Ni (by omega)]
   obtain ⟨l0,C,a0,Q,O,M,Y⟩:=I.head
   obtain ⟨b0,B,_⟩:=can l0 C a0 t v Q O (Oq _) M Y G
   have U:Yk pos S (late k) p t≠none:=by
    intro e
    unfold Yk at e
    rw [List.findSome?_eq_none_iff] at e
    rw [e l0 ((hS l0).2 C)] at B;cases B
   cases hp1:Yk pos S (late k) p t with
   | none=>exact absurd hp1 U
   | some r=>
     obtain ⟨l,a⟩:=r
     have E:=hp1
     unfold Yk at E
     obtain ⟨S1,x,S2,z,J,s⟩:=List.findSome?_eq_some_iff.1 E
     obtain ⟨g1,g2,g3,K⟩:=Y7 J
     simp only at g2 g3 K
     subst g2
     have g:l∈L:=(hS l).1 (by rw [z];simp)
     have f:=hn.fine l g
     obtain ⟨q1,q2,q3⟩:=Sg g3
     rw [c] at K
     have ae:=q1.ready
     obtain ⟨_,v1,W,Z⟩:=(Nfk hn V hr k l.dst (hn.dst l g)).mem (by unfold Fine at f;omega)
     have w:∃v,v<=o/\Way L k l.dst (a+l.mins) q v:=by
      rcases Z.early K with ⟨rfl,e1,e2⟩ | hw'
      ·rw [e1];exact ⟨a+l.mins,by omega,.nil _ _⟩
      ·exact ⟨v1,W,hw'⟩
     obtain ⟨i1,⟨v2,X,i2⟩,i3⟩:=Nmr hn V hr hS hs c k l.dst (a+l.mins) (hn.dst l g) (by unfold Fine at f;omega) w
     have R:goW pos S late (k+1) p t=(l,a)::goW pos S late k l.dst (a+l.mins):=by simp only [goW,hp1]
     rw [R]
     refine ⟨by simp [i1],⟨v2,X,g,g1,q1,q2,i2⟩,fun w' j v' F hw' H m=>?_⟩
     cases w' with
     | nil=>simp at m
     | cons y w'=>
       obtain ⟨i,a'⟩:=y
       obtain ⟨h1,h2,h3,h4,h5⟩:=hw'
       have d:w'.length=k:=by simpa using m
       obtain ⟨b',A,aa⟩:=can i h1 a' j v' h2 h3 F h4 (d▸h5.way) H
       intro n
       simp only [Z6,N3,Nmc] at n
       have hin:i∈S:=(hS i).2 h1
       rw [z] at hin hs
       rcases n with D | ⟨ab,D⟩
       ·
        rcases Ob.1 hin with hin | hin
        ·rw [s i hin] at A;cases A
        ·rcases Nr.1 hin with rfl | hin
         ·omega
         ·have:=(List.pairwise_cons.1 (Qo.1 hs).2.1).1 i hin;omega
       ·have T:i=l:=by
         rcases Ob.1 hin with hin | hin
         ·have:=(Qo.1 hs).2.2 i hin l (by simp);omega
         ·rcases Nr.1 hin with h | hin
          ·exact h
          ·have:=(List.pairwise_cons.1 (Qo.1 hs).2.1).1 i hin;omega
        subst T
        have:=q3 a' h3 (by omega)
        exact i3 w' (a'+i.mins) v' (by omega) h5 H d D
theorem RV.later {L:List Leg} {w:List (Leg×Int)} {p t q u:Int} (h:RV L p t w q u) (hL:∀l∈L,Fine l):t<=u:=h.way.later hL
theorem RV.from {L:List Leg} (hL:∀l∈L,Fine l):∀{w:List (Leg×Int)} {p t q u m:Int},RV L p t w q u->m∈w.map (fun x=>x.1.dst)->∃k s,k<w.length/\t<=s/\Way L k m s q u
 | [],_,_,_,_,_,_,h=>by simp at h
 | (l,a)::w,p,t,q,u,m,h,hm=>by
   obtain ⟨h1,h2,g,i,c⟩:=h
   have b:=hL l h1
   unfold Fine at b
   rw [N3,Nr] at hm
   rcases hm with rfl | hm
   ·exact ⟨w.length,a+l.mins,by simp,by omega,c.way⟩
   ·obtain ⟨k,s,e,f,d⟩:=RV.from hL c hm
    exact ⟨k,s,by simp;omega,by omega,d⟩
theorem RV.nodup {L:List Leg} (hL:∀l∈L,Fine l):∀{w:List (Leg×Int)} {p t q v:Int},RV L p t w q v->(∀j v',Way L j p t q v'->v'<=v->w.length<=j)->(p::w.map (fun x=>x.1.dst)).Nodup
 | [],_,_,_,_,_,_=>by simp
 | (l,a)::w,p,t,q,v,h,hmin=>by
   rw [List.nodup_cons]
   constructor
   ·intro i
    obtain ⟨k,s,n,b,c⟩:=RV.from hL h i
    rcases c.early b with ⟨rfl,rfl,e⟩ | hw
    ·have:=hmin 0 t (.nil _ _) (by omega);simp at this
    ·have:=hmin k v hw (Oq _);omega
   ·obtain ⟨h1,h2,d,f,g⟩:=h
    rw [N3]
    exact g.nodup hL fun j v' hw m=>by
     have:=hmin (j+1) v' (.cons h1 h2 d f hw) m
     simpa using this
theorem RV.uniq {L:List Leg}:∀{w:List (Leg×Int)} {p t q u b c:Int},RV L p t w q u->RV L p t w b c->q=b/\u=c
 | [],_,_,_,_,_,_,h,h'=>⟨h.1.symm.trans h'.1,h.2.symm.trans h'.2⟩
 | (l,a)::w,_,_,_,_,_,_,h,h'=>h.2.2.2.2.uniq h'.2.2.2.2
end Go.Net


namespace Go.Scan
def Obf (a b:Ev):Prop:=Tm (TV a) (TV b)<0
instance (a b:Ev):Decidable (Obf a b):=by unfold Obf;infer_instance
def bare (e:Ev):Ev:={ e with time:=0 }
theorem Nrr {M:List Mk} {s:Ev} (h:Sy s):0<=Uh M s/\Uh M s<=s.seen:=by
 unfold Sy at h;unfold Uh;omega
theorem Ncq (M:List Mk) (S:List Ev):((RY M S).map bare).Perm (S.map bare):=by
 have h:=(Sn TV (S.map fun s=>{ s with time:=Uh M s })).map bare
 rw [List.map_map] at h
 exact h
theorem Nhd (S:List Ev):(((OH S).1++(OH S).2).map bare).Perm (S.map bare):=by
 unfold OH
 have h:=Y1 (RY (PL S) S) [] []
 rw [Nb,Ov] at h
 exact (h.map bare).trans (Ncq _ S)
theorem Nd9 (S:List Ev):(OH S).1.length+(OH S).2.length=S.length:=by
 have:=(Nhd S).length_eq
 simpa using this
theorem M9 (S:List Ev):(OH S).1.Sublist (RY (PL S) S)/\(OH S).2.Sublist (RY (PL S) S):=by
 obtain ⟨K,T,h1,h2,a⟩:=Ma (RY (PL S) S) [] []
 unfold OH
 rw [h1]
 exact ⟨by simpa using h2,by simpa using a⟩
theorem Nky (S:List Ev):Nge (OH S).1/\Nge (OH S).2:=by
 have h:=Y9 (Vr (PL S) S)
 exact ⟨h.sublist (M9 S).1,h.sublist (M9 S).2⟩
theorem MB {S:List Ev} {x:Ev} (h:x∈(OH S).1\/x∈(OH S).2):∃s∈S,{ s with time:=Uh (PL S) s }=x:=by
 rcases h with h | h
 ·exact Mo.mp ((M9 S).1.mem h)
 ·exact Mo.mp ((M9 S).2.mem h)
theorem Nhc {S:List Ev} (hS:∀s∈S,Sy s) {x:Ev} (h:x∈(OH S).1\/x∈(OH S).2):0<=x.time/\x.time<=x.seen:=by
 obtain ⟨s,hs,rfl⟩:=MB h
 exact Nrr (hS s hs)
theorem Noi (S:List Ev):((OH S).1.Pairwise fun x y=>RD y=RD x->y.time-x.time > 10)/\∀x∈(OH S).2,∃y∈(OH S).1,RD x=RD y/\x.time>=y.time/\x.time-y.time<=10:=by
 obtain ⟨h1,h2⟩:=Na7 (RY (PL S) S) [] [] List.Pairwise.nil (fun e _ x a=>(Ox a).elim) (Y9 (Vr _ S)) (fun x a=>(Ox a).elim)
 unfold OH
 refine ⟨?_,h2⟩
 unfold ApartL at h1
 rw [List.pairwise_reverse] at h1
 exact h1
theorem Nqk (M:List Mk) (S:List Ev):(RY M S).length=S.length:=by
 have:=(Ncq M S).length_eq
 simpa using this
end Go.Scan


namespace Go.Net
def ZP:Int->List (Leg×Int)->Prop
 | _,[]=>True
 | t,(l,a)::w=>Si l t=some a/\ZP (a+l.mins) w
structure BestW (L:List Leg) (p ready q v:Int) (w:List (Leg×Int)):Prop where
 way:RV L p ready w q v
 few:∀j v',Way L j p ready q v'->v'<=v->w.length<=j
 least:∀w' v',RV L p ready w' q v'->v'<=v->w'.length=w.length->¬Nmc (Z6 w') (Z6 w)
 next:ZP ready w
theorem Nbr {pos:Int->Nat} {S:List Leg} {late:Nat->List Int}:∀(k:Nat) (p t:Int),ZP t (goW pos S late k p t)
 | 0,_,_=>trivial
 | k+1,p,t=>by
   simp only [goW]
   cases hp:Yk pos S (late k) p t with
   | none=>exact Nbr k p t
   | some r=>
     obtain ⟨l,a⟩:=r
     unfold Yk at hp
     obtain ⟨g,x,h,e,f,b⟩:=List.findSome?_eq_some_iff.1 hp
     obtain ⟨i,c,d,j⟩:=Y7 f
     simp only at c d
     subst c
     exact ⟨d,Nbr k l.dst (a+l.mins)⟩
theorem Nmy {f:Nat->Int} {v:Int}:∀{n:Nat},f n=v->∃k,k<=n/\f k=v/\∀j,j<k->f j≠v
 | 0,h=>⟨0,Nd _,h,fun j a=>by omega⟩
 | n+1,h=>by
   by_cases h1:∃m,m<=n/\f m=v
   ·obtain ⟨m,b,h2⟩:=h1
    obtain ⟨k,k1,k2,k3⟩:=Nmy (n:=m) h2
    exact ⟨k,by omega,k2,k3⟩
   ·exact ⟨n+1,Nd _,h,fun j a e=>h1 ⟨j,by omega,e⟩⟩
termination_by n=>n
theorem Ne3:∀{a b:List Int},a.length=b.length->¬Nmc a b->¬Nmc b a->a=b
 | [],[],_,_,_=>rfl
 | [],_::_,h,_,_=>by simp at h
 | _::_,[],h,_,_=>by simp at h
 | x::a,y::b,h,h1,h2=>by
   simp only [Nmc,not_or,not_and] at h1 h2
   have e:x=y:=by omega
   subst e
   rw [Ne3 (by simpa using h) (h1.2 rfl) (h2.2 rfl)]
theorem Nk1 {L:List Leg} (c:∀a∈L,∀b∈L,a.id=b.id->a=b):∀{w w':List (Leg×Int)} {p q u f t d g i:Int},RV L p t w q u->RV L f d w' g i->t=d->ZP t w->ZP d w'->Z6 w=Z6 w'->w=w'
 | [],[],_,_,_,_,_,_,_,_,_,_,_,_,_,_=>rfl
 | [],_::_,_,_,_,_,_,_,_,_,_,_,_,_,_,h=>by simp [Z6] at h
 | _::_,[],_,_,_,_,_,_,_,_,_,_,_,_,_,h=>by simp [Z6] at h
 | (l,a)::w,(l',a')::w',p,q,u,f,t,d,g,i,h,h',e,n,n',hi=>by
   subst e
   simp only [Z6,N3,List.cons.injEq] at hi
   have:=c l h.1 l' h'.1 hi.1
   subst this
   have j:=n.1.symm.trans n'.1
   cases j
   rw [Nk1 c h.2.2.2.2 h'.2.2.2.2 rfl n.2 n'.2 hi.2]
theorem BestW.uniq {L M:List Leg} {p t q v:Int} {w w':List (Leg×Int)} (hs:∀l,l∈M↔l∈L) (f:∀a∈L,∀b∈L,a.id=b.id->a=b) (h:BestW L p t q v w) (h':BestW M p t q v w'):w=w':=by
 have mono:∀{A B:List Leg},(∀l∈A,l∈B)->∀{w:List (Leg×Int)} {p t q u:Int},RV A p t w q u->RV B p t w q u:=by
  intro A B d w
  induction w with
  | nil=>intro p t q u h;exact h
  | cons x w ih=>intro p t q u h;exact ⟨d _ h.1,h.2.1,h.2.2.1,h.2.2.2.1,ih h.2.2.2.2⟩
 have c:RV L p t w' q v:=mono (fun l hl=>(hs l).1 hl) h'.way
 have g:RV M p t w q v:=mono (fun l hl=>(hs l).2 hl) h.way
 have i:=h.few _ _ c.way (Oq _)
 have j:=h'.few _ _ g.way (Oq _)
 have hl:w.length=w'.length:=by omega
 have e:Z6 w=Z6 w':=Ne3 (by simp [Z6,hl]) (h'.least _ _ g (Oq _) hl) (h.least _ _ c (Oq _) hl.symm)
 exact Nk1 f h.way c rfl h.next h'.next e
theorem N04 {N:Nat} {P:List Int} {L S:List Leg} {pos:Int->Nat} {p q ready v:Int} {late:Nat->List Int} {k:Nat} (hn:NetOk N P L pos) (hp:p∈P) (r:q∈P) (hr:0<=ready) (g:0<=v)
  (hS:∀l,l∈S↔l∈L) (hs:S.Pairwise fun a b=>a.id<b.id) (f:∀k,late k=Nai N pos L q v k) (s:TZ L p ready q v)
  (hk:(RZ N pos (ready+86400) L p ready k).getD (pos q) (-1)=v) (o:∀j,j<k->(RZ N pos (ready+86400) L p ready j).getD (pos q) (-1)≠v) :
  BestW L p ready q v (goW pos S late k p ready)/\(goW pos S late k p ready).length=k:=by
 obtain ⟨_,B⟩:=s.mem g
 have few:∀j v',Way L j p ready q v'->v'<=v->k<=j:=by
  intro j v' d c
  apply Oh;intro hc
  have h:=X8 hn hp hr (by omega:ready<=ready+86400) j q r
  have h1:=h.le (u:=v') ⟨⟨j,Nd _,d⟩,by omega⟩
  have h2:0<=(RZ N pos (ready+86400) L p ready j).getD (pos q) (-1):=by
   apply Oh;intro A
   exact h.none (fun u ⟨⟨i,_,d⟩,_⟩=>by have:=d.later hn.fine;omega) (by omega) v' ⟨⟨j,Nd _,d⟩,by omega⟩
  obtain ⟨⟨i,hi,w⟩,n⟩:=h.mem h2
  have D:=s.le (u:=(RZ N pos (ready+86400) L p ready j).getD (pos q) (-1)) ⟨⟨i,w⟩,n⟩
  exact o j (by omega) (by omega)
 have h:=X8 hn hp hr (by omega:ready<=ready+86400) k q r
 rw [hk] at h
 obtain ⟨⟨i,hi,d⟩,_⟩:=h.mem g
 have m:i=k:=by have:=few i v d (Oq _);omega
 subst m
 obtain ⟨x,⟨v',C,y⟩,z⟩:=Nmr hn r g hS hs f i p ready hp hr ⟨v,Oq _,d⟩
 have e:v'=v:=by
  have:=s.le (u:=v') ⟨⟨_,y.way⟩,by omega⟩
  omega
 subst e
 exact ⟨⟨y,fun j v' d c=>by rw [x];exact few j v' d c,fun w' v' t c hl=>z w' ready v' (Oq _) t c (by omega),Nbr _ _ _⟩,x⟩
theorem RV.sub {L M:List Leg}:∀{w:List (Leg×Int)} {p t q u:Int},RV L p t w q u->(∀x∈w,x.1∈M)->RV M p t w q u
 | [],_,_,_,_,h,_=>h
 | (l,a)::w,_,_,_,_,h,hm=>⟨hm (l,a) (Nn ..),h.2.1,h.2.2.1,h.2.2.2.1,h.2.2.2.2.sub fun x b=>hm x (Nj _ b)⟩
theorem RV.mem {L:List Leg}:∀{w:List (Leg×Int)} {p t q u:Int},RV L p t w q u->∀x∈w,x.1∈L
 | (l,a)::w,_,_,_,_,h,x,hx=>by
   rcases Nr.1 hx with rfl | hx
   ·exact h.1
   ·exact h.2.2.2.2.mem x hx
theorem TZ.nonneg {L:List Leg} {p t q u v:Int} {j:Nat} (h:TZ L p t q v) (hL:∀l∈L,Fine l) (c:0<=t) (a:Way L j p t q u) (b:u<=t+86400):0<=v:=by
 apply Oh;intro hc
 exact h.none (fun u ⟨⟨j,a⟩,_⟩=>by have:=a.later hL;omega) (by omega) u ⟨⟨j,a⟩,b⟩
end Go.Net


