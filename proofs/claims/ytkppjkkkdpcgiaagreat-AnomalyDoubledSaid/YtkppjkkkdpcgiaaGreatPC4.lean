/-
  Joined texts, 4 of 10. A part of the claim that the last text states.
-/
import Derived.Test.YtkppjkkkdpcgiaaGreatPC3
set_option linter.unusedVariables false
set_option linter.unusedSimpArgs false
set_option linter.defProp false
set_option linter.unusedSectionVars false
set_option maxRecDepth 100000
set_option maxHeartbeats 4000000
namespace Go.AM
section
variable {G G' K:NE} {R:Nat} {b:Blk}
structure Mut (G G':NE) (R:Nat):Prop where
 len:G'.length=G.length
 other:∀j,j≠R->NI G' j=NI G j
theorem Mut.ext {H:NE} (h:Mut G G' R) (a:OH H G) (b:H.length<=R):OH H G':=by
 obtain ⟨Y,rfl⟩:=a
 refine ⟨G'.drop H.length, ?_⟩
 apply Pn
 ·have:=h.len;simp at this⊢;omega
 intro i h1 h2
 have hl:=h.len
 simp at hl
 by_cases hi:i<H.length
 ·rw [Qr hi]
  have:=h.other i (by omega)
  unfold NI at this
  rw [Na,Na,Nf h1,Nf (by simp;omega)] at this
  simp only [Pc] at this
  rw [this,Qr hi]
 ·rw [Q8 (by omega),Ra]
  congr 1
  omega
theorem Mut.cells (h:Mut G G' R) {j:Nat} {ro:Bool} {c:List Value} (hj:NI G j=.cells ro c) (a:j≠R):NI G' j=.cells ro c:=by rw [h.other j a];exact hj
theorem Mut.alive (h:Mut G G' R) {j:Nat} {B:Blk} (hj:NI G j=B) (a:j≠R):NI G' j=B:=by rw [h.other j a];exact hj
theorem Mut.sl {α:Type} {enc:α->List Value} {e:Nat} {p:Option Addr} {l:List α} (h:Mut G G' R) (hs:Sl G enc e p l) (hp:∀a,p=some a->l≠[]->a.block≠R):Sl G' enc e p l:=by
 cases p with
 | none=>exact hs
 | some a=>
   refine ⟨hs.1,fun hn=>?_⟩
   obtain ⟨ro,c,h2,b⟩:=hs.2 hn
   exact ⟨ro,c,h.cells h2 (hp a rfl hn),b⟩
theorem Nhw (h:G'.length=G.length):(G'.length=G.length)/\(∀(X:NE) (j:Nat),NI (G'++X) (G.length+j)=X.getD j .dead)/\(∀X:NE,NI (G'++X) G.length=X.getD 0 .dead)/\
  (∀(X:NE) (j:Nat) b,(G'++X).set (G.length+j) b=G'++X.set j b)/\(∀(X:NE) b,(G'++X).set G.length b=G'++X.set 0 b):=by
 refine ⟨h,fun X j=>by rw [<-h];exact OC,fun X=>by rw [<-h];exact NV,fun X j b=>?_,fun X b=>?_⟩
 ·rw [<-h,Qd _ _ (by omega)];simp
 ·rw [<-h,Qd _ _ (by omega)];simp
theorem OP (a:R<G.length) (b:Blk):∃G',(∀X:NE,(G++X).set R b=G'++X)/\NI G' R=b/\Mut G G' R:=
 ⟨G.set R b,fun X=>Qi _ _ a,Vv a,by simp,fun j hj=>QV hj⟩
end
def Own {α:Type} (lim:Nat) (G:NE) (enc:α->List Value) (e:Nat) (p:Option Addr) (cap:Nat) (l:List α):Prop:=
 (l=[]/\p=none/\cap=0)\/∃R,p=some ⟨R,0,none⟩/\cap=loose e/\NI G R=.cells false (l.flatMap enc)/\lim<=R
section
variable {α:Type} {lim e bytes cap:Nat} {G:NE} {enc:α->List Value} {p:Option Addr} {l m:List α}
theorem Own.nil:Own lim G enc e none 0 []:=.inl ⟨rfl,rfl,rfl⟩
theorem Own.app (h:Own lim G enc e p cap l) (X:NE):Own lim (G++X) enc e p cap l:=by
 rcases h with h | ⟨R,h1,h2,a,b⟩
 ·exact .inl h
 ·exact .inr ⟨R,h1,h2,by rw [NR (NM a)];exact a,b⟩
theorem Own.mut {G':NE} {R:Nat} (h:Own lim G enc e p cap l) (f:Mut G G' R) (hp:∀a,p=some a->a.block≠R):Own lim G' enc e p cap l:=by
 rcases h with h | ⟨b,h1,h2,c,d⟩
 ·exact .inl h
 ·exact .inr ⟨b,h1,h2,f.cells c (hp _ h1),d⟩
theorem Own.new {R:Nat} (a:NI G R=.cells false (l.flatMap enc)) (hl:lim<=R):Own lim G enc e (some ⟨R,0,none⟩) (loose e) l:=.inr ⟨R,rfl,rfl,a,hl⟩
theorem Own.sl (h:Own lim G enc e p cap l) (he:∀x,(enc x).length=e):Sl G enc e p l:=by
 rcases h with ⟨h1,h2,_⟩ | ⟨R,h1,h2,a,b⟩
 ·subst h1 h2;rfl
 ·subst h1;exact Sl.lit he (by rw [a];rfl) (by rw [a];rfl)
theorem Own.le (h:Own lim G enc e p cap l) {lim':Nat} (hl:lim'<=lim):Own lim' G enc e p cap l:=by
 rcases h with h | ⟨R,h1,h2,a,b⟩
 ·exact .inl h
 ·exact .inr ⟨R,h1,h2,a,by omega⟩
theorem Own.block (h:Own lim G enc e p cap l) {a:Addr} (b:p=some a):lim<=a.block/\a.block<G.length:=by
 rcases h with ⟨h1,h2,c⟩ | ⟨R,h1,h2,c,d⟩
 ·rw [h2] at b;cases b
 ·rw [h1] at b;cases b;exact ⟨d,NM c⟩
theorem Sl.cells (hs:Sl G enc e p m) (b:m≠[]):∃a,p=some a/\AM.loadCells G a (m.length*e)=some (m.flatMap enc):=by
 cases p with
 | none=>exact absurd hs b
 | some a=>
   obtain ⟨k1,k2⟩:=hs
   obtain ⟨ro,cs,k3,c,d⟩:=k2 b
   refine ⟨a,rfl, ?_⟩
   obtain ⟨f,g,as'⟩:=a
   simp only [Rz]
   simp only at k3 c d
   simp only [k3]
   rw [Ni c,d]
theorem Own.push {lim':Nat} (h:Own lim G enc e p cap l) (t:lim'<=lim) (he:∀x,(enc x).length=e) (s:e≠0) (m:List α) (n:m≠[]) (r:(l.length+m.length)*bytes<=QG) (hn:l.length+m.length<2 ^ 61) :
  ∃(G':NE) (R:Nat),(p=none->R=G.length)/\(∀a,p=some a->R=a.block)/\Mut G G' R/\(∀j,j≠R->NI G' j=NI G j)/\(∀H0:NE,OH H0 G->H0.length<=lim->OH H0 G')/\
   (∀(X:NE) (i:Option Addr) (k:Nat),Sl (G++X) enc e i m->PQ lim' none e bytes false (.slice p l.length cap) (.slice i m.length k) (G++X)=some (.slice (some ⟨G.length+X.length,0,none⟩) (l.length+m.length) (loose e),G'++(X++[.cells false ((l++m).flatMap enc)]))):=by
 have d:¬m.length=0:=by intro q;exact n (List.length_eq_zero_iff.1 q)
 rcases h with ⟨h1,h2,g⟩ | ⟨R,h1,h2,g,u⟩
 ·subst h1 h2 g
  refine ⟨G,G.length,fun _=>rfl,fun a h=>(by cases h),⟨rfl,fun j _=>rfl⟩,fun j _=>rfl,fun H0 h _=>h,fun X i k o=>?_⟩
  obtain ⟨a,rfl,hl⟩:=o.cells n
  simp only [Ns,Oc] at r hn
  simp only [PQ,firstCells,lenOf,hl,d,if_false,Nz,Ns,Oc]
  rw [Ng (by omega)]
  simp [place]
 ·subst h1 h2
  have c:=NM g
  refine ⟨G.set R .dead,R,fun h=>(by cases h),fun a h=>(by cases h;rfl),⟨by simp,fun j hj=>QV hj⟩,fun j hj=>QV hj,fun H0 h hl=>Mut.ext (R:=R) ⟨by simp,fun j hj=>QV hj⟩ h (by omega),fun X i k o=>?_⟩
  obtain ⟨a,rfl,hl⟩:=o.cells n
  have b:NI (G++X) R=.cells false (l.flatMap enc):=by rw [NR c];exact g
  have f:AM.loadCells (G++X) ⟨R,0,none⟩ (l.length*e)=some (l.flatMap enc):=by
   simp only [Rz,b,Oc,QT he,Nd,if_true,O0]
   rw [Oi (by rw [QT he];exact Nd _)]
  simp only [PQ,firstCells,lenOf,hl,f,b,d,if_false,Nz,if_true]
  rw [Ng (by unfold loose;omega)]
  simp [show lim'<=R by omega,place,Qi _ _ c,Nq]
theorem Own.push1 {lim':Nat} (h:Own lim G enc e p cap l) (d:lim'<=lim) (he:∀x,(enc x).length=e) (c:e≠0) (x:α) (m:(l.length+1)*bytes<=QG) (hn:l.length+1<2 ^ 61) :
  ∃(G':NE) (R:Nat),(p=none->R=G.length)/\(∀a,p=some a->R=a.block)/\Mut G G' R/\(∀H0:NE,OH H0 G->H0.length<=lim->OH H0 G')/\
   (∀(X:NE) (b k:Nat),NI (G++X) b=.cells false (enc x)->PQ lim' none e bytes false (.slice p l.length cap) (.slice (some ⟨b,0,none⟩) 1 k) (G++X)=some (.slice (some ⟨G.length+X.length,0,none⟩) (l.length+1) (loose e),G'++(X++[.cells false ((l++[x]).flatMap enc)]))):=by
 obtain ⟨G',R,h1,h2,g,_,i,j⟩:=h.push d he c [x] (by simp) (by simpa using m) (by simpa using hn)
 refine ⟨G',R,h1,h2,g,i,fun X b k f=>?_⟩
 exact j X (some ⟨b,0,none⟩) k (Sl.lit he (by rw [f];rfl) (by rw [f];simp [cellsOf]))
def WH (len cap:Nat) (lo hi mx:Option Value):Option (Nat×Nat×Nat):=bounds (fun o=>match o with | .const v=>v | _=>undef) len cap (lo.map .const) (hi.map .const) (mx.map .const)
theorem Naq {ρ:Operand->Value} {len cap:Nat} {lo hi mx:Option Operand}:bounds ρ len cap lo hi mx=WH len cap (lo.map ρ) (hi.map ρ) (mx.map ρ):=by
 unfold WH
 cases lo<;>cases hi<;>cases mx<;>rfl
theorem Nig {n:Int} {m:Nat} {kk:IntKind} (h0:0<=n) (h:n<=(m:Int)):bound (.int kk n) m=some n.toNat:=by
 simp only [bound];rw [Ni ⟨h0,h⟩]
section
variable {len:Nat} {k1 k2 k3:IntKind} {l h x:Int}
theorem Mx (h0:0<=h) (h1:h<=(cap:Int)):WH len cap none (some (.int k1 h)) none=some (0,h.toNat,cap):=by
 delta WH bounds;simp only [Nu,Oq,Nig h0 h1]
theorem Nq6 (a:0<=l) (b:l<=(len:Int)):WH len cap (some (.int k1 l)) none none=some (l.toNat,len,cap):=by
 delta WH bounds;simp only [Nu,Oq,Nig a b]
end
end
def TI:ACode->ACode
 | .seq a _=>a
 | c=>c
def RH:ACode->ACode
 | .seq _ b=>b
 | _=>.skip
end Go.AM


namespace Go.Scan
structure Ev where
 (item place scanner kind at' seen time:Int)
 deriving DecidableEq,Inhabited
structure Mk where
 (scanner at' off:Int)
 deriving DecidableEq,Inhabited
def VI:Int:=1051898399
def Sz (e:Ev):Prop:=(1<=e.item/\e.item<=999999)/\(1<=e.place/\e.place<=999999)/\(1<=e.scanner/\e.scanner<=999999)/\(1<=e.kind/\e.kind<=4)/\(0<=e.at'/\e.at'<=VI)/\(0<=e.seen/\e.seen<=VI)
instance (e:Ev):Decidable (Sz e):=by unfold Sz;infer_instance
def Rt (S:List Ev):Prop:=S.length<=2000/\∀s∈S,Sz s
instance (S:List Ev):Decidable (Rt S):=by unfold Rt;infer_instance
def Tn:List Int->List Int->Int
 | a::x,b::y=>if a<b then -1 else if b<a then 1 else Tn x y
 | _,_=>0
theorem Nhu:∀x,Tn x x=0
 | []=>rfl
 | a::x=>by unfold Tn;rw [Ng (by omega),Ng (by omega)];exact Nhu x
theorem Nmj:∀x y,Tn x y=-1\/Tn x y=0\/Tn x y=1
 | [],_=>by unfold Tn;simp
 | _::_,[]=>by unfold Tn;simp
 | a::x,b::y=>by
   unfold Tn
   split
   ·simp
   split
   ·simp
   exact Nmj x y
theorem Vt:∀x y,Tn y x=- Tn x y
 | [],y=>by cases y<;>rfl
 | a::x,[]=>rfl
 | a::x,b::y=>by
   have h:=Vt x y
   unfold Tn
   by_cases h1:a<b
   ·rw [Ng (by omega),Ni h1,Ni h1];rfl
   ·by_cases h2:b<a
    ·rw [Ni h2,Ng h1,Ni h2]
    ·rw [Ng h2,Ng h1,Ng h1,Ng h2];exact h
theorem Njs:∀x y,x.length=y.length->Tn x y=0->x=y
 | [],[],_,_=>rfl
 | [],b::y,h,_=>by simp at h
 | a::x,[],h,_=>by simp at h
 | a::x,b::y,hl,h=>by
   unfold Tn at h
   by_cases h1:a<b
   ·rw [Ni h1] at h;omega
   rw [Ng h1] at h
   by_cases h2:b<a
   ·rw [Ni h2] at h;omega
   rw [Ng h2] at h
   rw [Njs x y (by simpa using hl) h,show a=b by omega]
theorem XK:∀x y z,x.length=y.length->y.length=z.length->Tn x y<=0->Tn y z<=0->Tn x z<=0
 | [],_,_,_,_,_,_=>by unfold Tn;simp
 | a::x,[],_,h,_,_,_=>by simp at h
 | a::x,b::y,[],_,h,_,_=>by simp at h
 | a::x,b::y,c::z,h1,h2,h3,h4=>by
   unfold Tn at h3 h4⊢
   by_cases q1:a<c
   ·rw [Ni q1];omega
   rw [Ng q1]
   by_cases q2:a<b
   ·rw [Ng (show ¬b<c by omega),Ni (show c<b by omega)] at h4;omega
   rw [Ng q2] at h3
   by_cases q3:b<a
   ·rw [Ni q3] at h3;omega
   rw [Ng q3] at h3
   rw [Ng (show ¬b<c by omega)] at h4
   by_cases d:c<b
   ·rw [Ni d] at h4;omega
   rw [Ng d] at h4
   rw [Ng (show ¬c<a by omega)]
   exact XK x y z (by simpa using h1) (by simpa using h2) h3 h4
section
variable {α:Type}
def Nqd (k:α->List Int) (x:α):List α->List α
 | []=>[x]
 | y::l=>if Tn (k y) (k x)<0 then y::Nqd k x l else x::y::l
def UN (k:α->List Int):List α->List α
 | []=>[]
 | x::l=>Nqd k x (UN k l)
theorem Nbt (k:α->List Int) (x:α):∀l,(Nqd k x l).Perm (x::l)
 | []=>.refl _
 | y::l=>by
   unfold Nqd
   split
   ·exact ((Nbt k x l).cons y).trans (.swap x y l)
   ·exact .refl _
theorem TK (k:α->List Int):∀l,(UN k l).Perm l
 | []=>.refl _
 | x::l=>(Nbt k x _).trans ((TK k l).cons x)
def TW (k:α->List Int) (l:List α):Prop:=l.Pairwise fun a b=>Tn (k a) (k b)<=0
theorem Ncr {k:α->List Int} {n:Nat} (hn:∀x,(k x).length=n) (x:α):∀l,TW k l->TW k (Nqd k x l)
 | [],_=>by unfold Nqd;exact List.pairwise_singleton _ _
 | y::l,h=>by
   obtain ⟨h1,h2⟩:=List.pairwise_cons.mp h
   unfold Nqd
   split
   ·rename_i hc
    refine List.pairwise_cons.mpr ⟨fun b hb=>?_,Ncr hn x l h2⟩
    rcases Nr.mp ((Nbt k x l).mem_iff.mp hb) with rfl | hb
    ·omega
    ·exact h1 b hb
   ·rename_i hc
    have a:Tn (k x) (k y)<=0:=by rw [Vt (k y) (k x)];omega
    refine List.pairwise_cons.mpr ⟨fun b hb=>?_,h⟩
    rcases Nr.mp hb with rfl | hb
    ·exact a
    ·exact XK _ (k y) _ (by rw [hn,hn]) (by rw [hn,hn]) a (h1 b hb)
theorem U8 {k:α->List Int} {n:Nat} (hn:∀x,(k x).length=n):∀l,TW k (UN k l)
 | []=>List.Pairwise.nil
 | x::l=>Ncr hn x _ (U8 hn l)
theorem Ni7 {k:α->List Int} {n:Nat} (hn:∀x,(k x).length=n) (hi:∀x y,k x=k y->x=y) {l l':List α} (h:TW k l) (h':TW k l') (hp:l.Perm l'):l=l':=
 List.Perm.eq_of_pairwise (le:=fun a b=>Tn (k a) (k b)<=0) (fun a b _ _ h1 h2=>hi a b (Njs _ _ (by rw [hn,hn]) (by rw [Vt (k a) (k b)] at h2;omega))) h h' hp
theorem Ma {k:α->List Int} {n:Nat} (hn:∀x,(k x).length=n) (hi:∀x y,k x=k y->x=y) {l a:List α} (h:TW k a) (hp:a.Perm l):a=UN k l:=
 Ni7 hn hi h (U8 hn l) (hp.trans (TK k l).symm)
theorem Nkz {k:α->List Int} {n:Nat} (hn:∀x,(k x).length=n) (hi:∀x y,k x=k y->x=y) {l a:List α} (hp:a.Perm l):UN k a=UN k l:=
 Ma hn hi (U8 hn a) ((TK k a).trans hp)
end
def UC (s:Ev):Int×Int:=(s.scanner,s.seen / 1440)
def mkM (s:Ev):Mk:=⟨s.scanner,s.at',s.seen-s.at'⟩
def Tf (m old:Mk):Prop:=m.off<old.off\/m.off=old.off/\m.at'<old.at'
instance (m old:Mk):Decidable (Tf m old):=by unfold Tf;infer_instance
def Xi (k:Int×Int) (m:Mk):List ((Int×Int)×Mk)->List ((Int×Int)×Mk)
 | []=>[(k,m)]
 | (k',old)::l=>if k'=k then (k',m)::l else (k',old)::Xi k m l
def WO (k:Int×Int):List ((Int×Int)×Mk)->Option Mk
 | []=>none
 | (k',old)::l=>if k'=k then some old else WO k l
def SY (l:List ((Int×Int)×Mk)) (s:Ev):List ((Int×Int)×Mk):=
 match WO (UC s) l with
 | none=>Xi (UC s) (mkM s) l
 | some old=>if Tf (mkM s) old then Xi (UC s) (mkM s) l else l
def UW (S:List Ev):List ((Int×Int)×Mk):=S.foldl SY []
def Tm (m:Mk):List Int:=[m.scanner,m.at',m.off]
theorem Zr (m:Mk):(Tm m).length=3:=id rfl
theorem Nhz (m n:Mk) (h:Tm m=Tm n):m=n:=by
 obtain ⟨a,b,c⟩:=m;obtain ⟨d,e,f⟩:=n
 simp only [Tm,List.cons.injEq] at h
 obtain ⟨rfl,rfl,rfl,_⟩:=h
 rfl
def Sg (m p:Mk):Prop:=m.scanner=p.scanner/\m.at'=p.at'
instance (m p:Mk):Decidable (Sg m p):=by unfold Sg;infer_instance
def UO (p:Mk):List Mk->List Mk
 | []=>[]
 | m::l=>if Sg m p then UO m l else m::UO m l
def Sw:List Mk->List Mk
 | []=>[]
 | m::l=>m::UO m l
def RI (S:List Ev):List Mk:=Sw (UN Tm ((UW S).map (·.2)))
def Nah (m:Mk):Prop:=1<=m.scanner/\m.scanner<=999999/\0<=m.at'/\m.at'<=VI/\-VI<=m.off/\m.off<=VI
instance (m:Mk):Decidable (Nah m):=by unfold Nah;infer_instance
def M9 (a b:Mk):Prop:=a.scanner<b.scanner\/a.scanner=b.scanner/\a.at'<b.at'
instance (a b:Mk):Decidable (M9 a b):=by unfold M9;infer_instance
def Z4 (l:List Mk):Prop:=(∀m∈l,Nah m)/\l.Pairwise M9
def Uf:Mk:=⟨0,0,0⟩
def Y6 (t:Int):Mk->List Mk->Int
 | last,[]=>last.off
 | last,m::l=>if t > m.at' then Y6 t m l else if last=Uf then m.off else last.off+(m.off-last.off)*(t-last.at') / (m.at'-last.at')
def ofN (M:List Mk) (sc:Int):List Mk:=M.filter fun m=>m.scanner == sc
def Nbj (M:List Mk) (sc t:Int):Int:=Y6 t Uf (ofN M sc)
def Xc (M:List Mk) (s:Ev):Int:=min (max (s.at'+Nbj M s.scanner s.at') 0) s.seen
def Uz (e:Ev):List Int:=[e.time,e.kind,e.place,e.scanner,e.item,e.at',e.seen]
theorem Nbo (e:Ev):(Uz e).length=7:=id rfl
theorem Nu8 (x y:Ev) (h:Uz x=Uz y):x=y:=by
 obtain ⟨a,b,c,d,e,f,g⟩:=x;obtain ⟨a',b',i,j,k,l,m⟩:=y
 simp only [Uz,List.cons.injEq] at h
 obtain ⟨rfl,rfl,rfl,rfl,rfl,rfl,rfl,_⟩:=h
 rfl
def SK (M:List Mk) (S:List Ev):List Ev:=UN Uz (S.map fun s=>{ s with time:=Xc M s })
def RF (e:Ev):Int×Int×Int:=(e.item,e.place,e.kind)
def VB (e:Ev) (kept:List Ev):Option Ev:=kept.find? fun x=>RF x == RF e
def Yr (e:Ev) (kept:List Ev):Bool:=match VB e kept with
 | none=>false
 | some x=>decide (e.time-x.time<=10)
def SX:List Ev->List Ev->List Ev->List Ev×List Ev
 | kept,twice,[]=>(kept.reverse,twice.reverse)
 | kept,twice,e::l=>if Yr e kept then SX kept (e::twice) l else SX (e::kept) twice l
def OJ (S:List Ev):List Ev×List Ev:=SX [] [] (SK (RI S) S)
def Uq (l:List Ev) (item:Int):List Ev:=l.filter fun e=>item == 0||e.item == item
abbrev Es:=List ((Int×Int)×Mk)
theorem Nff {k:Int×Int} {m:Mk}:∀{l:Es},WO k l=some m->(k,m)∈l
 | [],h=>by cases h
 | (k',m')::l,h=>by
   unfold WO at h
   by_cases hk:k'=k
   ·rw [Ni hk] at h;cases h;rw [hk];exact Nm
   ·rw [Ng hk] at h;exact Nk _ (Nff h)
def M7 (l:Es):Prop:=(l.map (·.1)).Nodup
theorem Njy {k:Int×Int} {m:Mk}:∀{l:Es},M7 l->(k,m)∈l->WO k l=some m
 | [],_,h=>by cases h
 | (k',m')::l,hn,h=>by
   have a:=List.nodup_cons.mp hn
   unfold WO
   rcases Nr.mp h with h | h
   ·cases h;rw [Ni rfl]
   ·rw [Ng fun hk=>a.1 (by rw [hk];exact List.mem_map.mpr ⟨_,h,rfl⟩)]
    exact Njy a.2 h
theorem Nhl {k:Int×Int} {m:Mk}:∀{l:Es} {x},x∈(Xi k m l).map (·.1)↔x=k\/x∈l.map (·.1)
 | [],x=>by simp [Xi]
 | (k',m')::l,x=>by
   unfold Xi
   by_cases hk:k'=k
   ·rw [Ni hk];subst hk;simp
   ·rw [Ng hk,N2,Nr,Nhl,N2,Nr]
    exact or_left_comm
theorem Neo {k:Int×Int} {m:Mk}:∀{l:Es},M7 l->M7 (Xi k m l)
 | [],_=>by simp [Xi,M7]
 | (k',m')::l,h=>by
   have h2:=List.nodup_cons.mp h
   unfold Xi
   by_cases hk:k'=k
   ·rw [Ni hk];exact h
   ·rw [Ng hk]
    refine List.nodup_cons.mpr ⟨fun hc=>?_,Neo h2.2⟩
    rcases Nhl.mp hc with hc | hc
    ·exact hk hc
    ·exact h2.1 hc
theorem Nfe {k k':Int×Int} {m:Mk}:∀{l:Es},WO k' (Xi k m l)=if k'=k then some m else WO k' l
 | []=>by
   unfold Xi WO
   by_cases h:k'=k
   ·rw [Ni h.symm,Ni h]
   ·rw [Ng fun q=>h q.symm,Ng h];rfl
 | (k2,m2)::l=>by
   unfold Xi
   by_cases h2:k2=k
   ·rw [Ni h2]
    subst h2
    by_cases h:k'=k2
    ·rw [Ni h];unfold WO;rw [Ni h.symm]
    ·rw [Ng h];unfold WO;rw [Ng fun q=>h q.symm,Ng fun q=>h q.symm]
   ·rw [Ng h2]
    by_cases h:k2=k'
    ·have:¬k'=k:=fun q=>h2 (h.trans q)
     rw [Ng this];unfold WO;rw [Ni h,Ni h]
    ·unfold WO;rw [Ng h,Ng h];exact Nfe
structure LeastOf (S:List Ev) (l:Es):Prop where
 nd:M7 l
 from':∀k m,WO k l=some m->∃s∈S,UC s=k/\mkM s=m
 all:∀s∈S,∃m,WO (UC s) l=some m/\¬Tf (mkM s) m
theorem Nka {a b c:Mk} (h:¬Tf a b) (h2:Tf c b):¬Tf a c:=by
 unfold Tf at *;omega
theorem Nnr {a:Mk}:¬Tf a a:=by unfold Tf;omega
theorem LeastOf.add {S:List Ev} {l:Es} (h:LeastOf S l) (s:Ev):LeastOf (S++[s]) (SY l s):=by
 have put:(∀m,WO (UC s) l=some m->Tf (mkM s) m)->LeastOf (S++[s]) (Xi (UC s) (mkM s) l):=by
  intro a
  refine ⟨Neo h.nd,fun k m hk=>?_,fun x hx=>?_⟩
  ·rw [Nfe] at hk
   by_cases q:k=UC s
   ·rw [Ni q] at hk;cases hk;exact ⟨s,by simp,q.symm,rfl⟩
   ·rw [Ng q] at hk
    obtain ⟨y,b,h1,h2⟩:=h.from' k m hk
    exact ⟨y,Ow _ b,h1,h2⟩
  ·rw [Nfe]
   rcases Od.mp hx with hx | hx
   ·obtain ⟨m,h1,h2⟩:=h.all x hx
    by_cases q:UC x=UC s
    ·rw [Ni q]
     rw [q] at h1
     exact ⟨_,rfl,Nka h2 (a m h1)⟩
    ·rw [Ng q];exact ⟨m,h1,h2⟩
   ·rw [Nj] at hx;subst hx
    rw [Ni rfl];exact ⟨_,rfl,Nnr⟩
 unfold SY
 cases hg:WO (UC s) l with
 | none=>exact put (by rw [hg];intro m h;cases h)
 | some old=>
   dsimp only
   by_cases a:Tf (mkM s) old
   ·rw [Ni a];exact put (by rw [hg];intro m h;cases h;exact a)
   ·rw [Ng a]
    refine ⟨h.nd,fun k m hk=>?_,fun x hx=>?_⟩
    ·obtain ⟨y,b,h1,h2⟩:=h.from' k m hk
     exact ⟨y,Ow _ b,h1,h2⟩
    ·rcases Od.mp hx with hx | hx
     ·exact h.all x hx
     ·rw [Nj] at hx;subst hx
      exact ⟨old,hg,a⟩
theorem Nml:∀(T S:List Ev) (l:Es),LeastOf S l->LeastOf (S++T) (T.foldl SY l)
 | [],S,l,h=>by rw [Nb];exact h
 | s::T,S,l,h=>by
   have:=Nml T (S++[s]) _ (h.add s)
   rw [Nq] at this
   exact this
theorem Nbn (S:List Ev):LeastOf S (UW S):=by
 have:=Nml S [] [] ⟨by simp [M7],fun k m h=>(by cases h),fun s h=>(Oe h).elim⟩
 exact this
theorem Oa7 {a b:Mk} (hs:a.scanner=b.scanner) (h1:¬Tf a b) (h2:¬Tf b a):a=b:=by
 obtain ⟨e,c,d⟩:=a;obtain ⟨b1,b2,b3⟩:=b
 unfold Tf at h1 h2
 simp only at hs h1 h2
 have e1:c=b2:=by omega
 have e2:d=b3:=by omega
 rw [hs,e1,e2]
theorem LeastOf.get {S:List Ev} {l:Es} (h:LeastOf S l) {k:Int×Int} {m:Mk}:WO k l=some m↔(∃s∈S,UC s=k/\mkM s=m)/\∀x∈S,UC x=k->¬Tf (mkM x) m:=by
 constructor
 ·intro hk
  refine ⟨h.from' k m hk,fun x e d=>?_⟩
  obtain ⟨g,h1,h2⟩:=h.all x e
  rw [d,hk] at h1;cases h1;exact h2
 ·rintro ⟨⟨s,hs,rfl,rfl⟩,c⟩
  obtain ⟨g,h1,h2⟩:=h.all s hs
  obtain ⟨y,f,hk,rfl⟩:=h.from' _ _ h1
  rw [h1,Oa7 (a:=mkM s) (b:=mkM y) (Qo (·.1) hk.symm) h2 (c y f hk)]
theorem LeastOf.perm {S S':List Ev} {l l':Es} (h:LeastOf S l) (h':LeastOf S' l') (c:∀s,s∈S↔s∈S'):l.Perm l':=by
 have nd:∀{l:Es},M7 l->l.Nodup:=fun h=>(List.pairwise_map.mp h).imp fun {a b} q e=>q (Qo _ e)
 refine (List.perm_ext_iff_of_nodup (nd h.nd) (nd h'.nd)).mpr fun ⟨k,m⟩=>?_
 have e:∀{S:List Ev} {l:Es},LeastOf S l->((k,m)∈l↔WO k l=some m):=fun h=>⟨Njy h.nd,Nff⟩
 rw [e h,e h',h.get,h'.get]
 simp only [c]
theorem Nb0 (p:Mk):∀l,(UO p l).Sublist l
 | []=>.refl _
 | m::l=>by
   unfold UO
   split
   ·exact (Nb0 m l).trans (List.sublist_cons_self _ _)
   ·exact (Nb0 m l).cons_cons m
theorem Nz8 {a b:Mk} (h:Tn (Tm a) (Tm b)<=0):M9 a b\/Sg b a/\a.off<=b.off:=by
 unfold Tm Tn at h
 by_cases h1:a.scanner<b.scanner
 ·exact .inl (.inl h1)
 rw [Ng h1] at h
 by_cases h2:b.scanner<a.scanner
 ·rw [Ni h2] at h;omega
 rw [Ng h2] at h
 have e1:a.scanner=b.scanner:=by omega
 unfold Tn at h
 by_cases c:a.at'<b.at'
 ·exact .inl (.inr ⟨e1,c⟩)
 rw [Ng c] at h
 by_cases d:b.at'<a.at'
 ·rw [Ni d] at h;omega
 rw [Ng d] at h
 unfold Tn at h
 by_cases e:a.off<b.off
 ·exact .inr ⟨⟨e1.symm,by omega⟩,by omega⟩
 rw [Ng e] at h
 by_cases f:b.off<a.off
 ·rw [Ni f] at h;omega
 exact .inr ⟨⟨e1.symm,by omega⟩,by omega⟩
theorem Nhq {a b c:Mk} (h:M9 a b) (h2:M9 b c):M9 a c:=by unfold M9 at *;omega
theorem Nme {a b c:Mk} (h:M9 a b) (h2:Sg c b):M9 a c:=by unfold M9 Sg at *;omega
theorem Nnh:∀(l:List Mk) (p:Mk),TW Tm (p::l)->(UO p l).Pairwise M9/\(∀x∈UO p l,M9 p x)/\∀x∈l,Sg x p/\p.off<=x.off\/∃y∈UO p l,Sg x y/\y.off<=x.off
 | [],p,_=>by simp [UO]
 | m::l,p,h=>by
   obtain ⟨h1,h2⟩:=List.pairwise_cons.mp h
   obtain ⟨d,c,e⟩:=Nnh l m h2
   have b:=Nz8 (h1 m Nm)
   unfold UO
   by_cases hs:Sg m p
   ·rw [Ni hs]
    have f:p.off<=m.off:=by
     rcases b with q | q
     ·unfold M9 at q;unfold Sg at hs;omega
     ·exact q.2
    refine ⟨d,fun x hx=>?_,fun x hx=>?_⟩
    ·have:=c x hx;unfold M9 at *;unfold Sg at hs;omega
    ·rcases Nr.mp hx with rfl | hx
     ·exact .inl ⟨hs,f⟩
     ·rcases e x hx with q | q
      ·refine .inl ⟨?_,by omega⟩
       have:=q.1;unfold Sg at *;omega
      ·exact .inr q
   ·rw [Ng hs]
    have a:M9 p m:=by
     rcases b with q | q
     ·exact q
     ·exact absurd q.1 hs
    refine ⟨List.pairwise_cons.mpr ⟨c,d⟩,fun x hx=>?_,fun x hx=>?_⟩
    ·rcases Nr.mp hx with rfl | hx
     ·exact a
     ·exact Nhq a (c x hx)
    ·rcases Nr.mp hx with rfl | hx
     ·exact .inr ⟨x,Nm,⟨rfl,rfl⟩,Oo _⟩
     ·rcases e x hx with q | ⟨y,g,q⟩
      ·exact .inr ⟨m,Nm,q⟩
      ·exact .inr ⟨y,Nk _ g,q⟩
theorem YQ {l:List Mk} (h:TW Tm l):(Sw l).Pairwise M9/\(Sw l).Sublist l/\∀x∈l,∃y∈Sw l,Sg x y/\y.off<=x.off:=by
 cases l with
 | nil=>exact ⟨List.Pairwise.nil,.refl _,fun x h=>by cases h⟩
 | cons m l=>
   obtain ⟨b,c,d⟩:=Nnh l m h
   refine ⟨List.pairwise_cons.mpr ⟨c,b⟩,(Nb0 m l).cons_cons m,fun x hx=>?_⟩
   rcases Nr.mp hx with rfl | hx
   ·exact ⟨x,Nm,⟨rfl,rfl⟩,Oo _⟩
   ·rcases d x hx with q | ⟨y,a,q⟩
    ·exact ⟨m,Nm,q⟩
    ·exact ⟨y,Nk _ a,q⟩
def Ndw (S:List Ev):List Mk:=(UW S).map (·.2)
theorem Nxz {S:List Ev} {m:Mk}:m∈Ndw S↔∃s∈S,mkM s=m/\∀x∈S,UC x=UC s->¬Tf (mkM x) m:=by
 unfold Ndw
 rw [List.mem_map]
 constructor
 ·rintro ⟨⟨k,b⟩,h,rfl⟩
  obtain ⟨⟨s,hs,rfl,rfl⟩,a⟩:=(Nbn S).get.mp (Njy (Nbn S).nd h)
  exact ⟨s,hs,rfl,a⟩
 ·rintro ⟨s,hs,rfl,a⟩
  exact ⟨(UC s,mkM s),Nff ((Nbn S).get.mpr ⟨⟨s,hs,rfl,rfl⟩,a⟩),rfl⟩
theorem Nx0 (S:List Ev):(Ndw S).length<=S.length:=by
 have put:∀(k:Int×Int) (m:Mk) (l:Es),(Xi k m l).length<=l.length+1:=by
  intro k m l
  induction l with
  | nil=>simp [Xi]
  | cons a l ih=>
    unfold Xi
    split
    ·simp
    ·simp only [Nl];omega
 have key:∀(T:List Ev) (l:Es),(T.foldl SY l).length<=l.length+T.length:=by
  intro T
  induction T with
  | nil=>intro l;simp
  | cons s T ih=>
    intro l
    have h1:=ih (SY l s)
    have h2:(SY l s).length<=l.length+1:=by
     unfold SY
     split
     ·exact put _ _ _
     split
     ·exact put _ _ _
     ·omega
    simp only [Ok,Nl];omega
 have:=key S []
 unfold Ndw UW
 rw [Nv];simpa using this
theorem WP (S:List Ev):TW Tm (UN Tm (Ndw S)):=U8 Zr _
theorem Nvi (S:List Ev):(RI S).Pairwise M9:=(YQ (WP S)).1
theorem Nm0 {S:List Ev} {m:Mk} (h:m∈RI S):m∈Ndw S:=(TK Tm _).mem_iff.mp ((YQ (WP S)).2.1.mem h)
theorem Nm1 {S:List Ev} (hS:∀s∈S,Sz s) {m:Mk} (h:m∈RI S):Nah m:=by
 obtain ⟨s,hs,rfl,_⟩:=Nxz.mp (Nm0 h)
 have:=hS s hs
 unfold Sz at this;unfold Nah mkM;simp only;omega
theorem gather_ok {S:List Ev} (hS:∀s∈S,Sz s):Z4 (RI S):=⟨fun m h=>Nm1 hS h,Nvi S⟩
theorem Nqf (S:List Ev):(RI S).length<=S.length:=by
 have h1:=(YQ (WP S)).2.1.length_le
 rw [(TK Tm _).length_eq] at h1
 have:=Nx0 S
 unfold RI Ndw at *
 omega
theorem Ne7 {e x:Ev} {kept:List Ev} (h:VB e kept=some x):x∈kept/\RF x=RF e:=by
 unfold VB at h
 exact ⟨Rr h,by simpa using List.find?_some h⟩
theorem Np4 {e:Ev} {kept:List Ev} (h:VB e kept=none):∀x∈kept,RF x≠RF e:=by
 unfold VB at h
 rw [List.find?_eq_none] at h
 intro x a;simpa using h x a
def ApartL (kept:List Ev):Prop:=kept.Pairwise fun x y=>RF x=RF y->x.time-y.time > 10
theorem Nhx {e x:Ev}:∀{kept:List Ev},ApartL kept->VB e kept=some x->∀y∈kept,RF y=RF e->y.time<=x.time
 | [],_,h=>by cases h
 | k::l,ha,h=>by
   obtain ⟨h1,h2⟩:=List.pairwise_cons.mp ha
   unfold VB at h
   intro y hy hs
   by_cases hk:RF k=RF e
   ·rw [List.find?_cons_of_pos (by simpa using hk)] at h
    cases h
    rcases Nr.mp hy with rfl | hy
    ·exact Oo _
    ·have:=h1 y hy (hk.trans hs.symm);omega
   ·rw [List.find?_cons_of_neg (by simpa using hk)] at h
    rcases Nr.mp hy with rfl | hy
    ·exact absurd hs hk
    ·exact Nhx h2 h y hy hs
theorem Yo {e:Ev} {kept:List Ev}:Yr e kept=true↔∃x,VB e kept=some x/\e.time-x.time<=10:=by
 unfold Yr
 cases h:VB e kept with
 | none=>simp
 | some x=>simp
theorem Yx:∀(l kept twice:List Ev),((SX kept twice l).1++(SX kept twice l).2).Perm (kept++twice++l)
 | [],kept,twice=>by
   unfold SX
   rw [Nb]
   exact (List.reverse_perm _).append (List.reverse_perm _)
 | e::l,kept,twice=>by
   unfold SX
   split
   ·refine (Yx l _ _).trans ?_
    rw [Nq,Nq,O2]
    exact (List.perm_middle).symm.append_left kept
   ·refine (Yx l _ _).trans ?_
    rw [O2,O2]
    exact List.perm_middle.symm
theorem Mf:∀(l kept twice:List Ev),∃K T,SX kept twice l=(kept.reverse++K,twice.reverse++T)/\K.Sublist l/\T.Sublist l
 | [],kept,twice=>⟨[],[],by unfold SX;simp,.refl _,.refl _⟩
 | e::l,kept,twice=>by
   unfold SX
   split
   ·obtain ⟨K,T,h1,h2,a⟩:=Mf l kept (e::twice)
    exact ⟨K,e::T,by rw [h1];simp,h2.trans (List.sublist_cons_self _ _),a.cons_cons e⟩
   ·obtain ⟨K,T,h1,h2,a⟩:=Mf l (e::kept) twice
    exact ⟨e::K,T,by rw [h1];simp,h2.cons_cons e,a.trans (List.sublist_cons_self _ _)⟩
def M6 (l:List Ev):Prop:=l.Pairwise fun x y=>x.time<=y.time
theorem Y5 {l:List Ev} (h:TW Uz l):M6 l:=h.imp fun {a b} q=>by
 unfold Uz Tn at q
 by_cases h1:a.time<b.time
 ·omega
 rw [Ng h1] at q
 by_cases h2:b.time<a.time
 ·rw [Ni h2] at q;omega
 ·omega
theorem Na9:∀(l kept twice:List Ev),ApartL kept->(∀e∈l,∀x∈kept,x.time<=e.time)->M6 l->(∀x∈twice,∃y∈kept,RF x=RF y/\x.time>=y.time/\x.time-y.time<=10)->
  (ApartL (SX kept twice l).1.reverse)/\∀x∈(SX kept twice l).2,∃y∈(SX kept twice l).1,RF x=RF y/\x.time>=y.time/\x.time-y.time<=10
 | [],kept,twice,h1,_,_,h4=>by
   unfold SX
   refine ⟨by simpa using h1,fun x hx=>?_⟩
   obtain ⟨y,hy,q⟩:=h4 x (by simpa using hx)
   exact ⟨y,by simpa using hy,q⟩
 | e::l,kept,twice,h1,h2,h3,h4=>by
   obtain ⟨g,r2⟩:=List.pairwise_cons.mp h3
   unfold SX
   split
   ·rename_i ht
    obtain ⟨x,hx,hd⟩:=Yo.mp ht
    obtain ⟨c,f⟩:=Ne7 hx
    refine Na9 l kept (e::twice) h1 (fun a b=>h2 a (Nk _ b)) r2 fun y hy=>?_
    rcases Nr.mp hy with rfl | hy
    ·exact ⟨x,c,f.symm,h2 y Nm x c,hd⟩
    ·exact h4 y hy
   ·rename_i ht
    refine Na9 l (e::kept) twice (List.pairwise_cons.mpr ⟨fun y hy hs=>?_,h1⟩) (fun a b x hx=>?_) r2 fun y hy=>?_
    ·cases hk:VB e kept with
     | none=>exact absurd hs.symm (Np4 hk y hy)
     | some x=>
       have hn:¬e.time-x.time<=10:=fun hc=>ht (Yo.mpr ⟨x,hk,hc⟩)
       have:=Nhx h1 hk y hy hs.symm
       omega
    ·rcases Nr.mp hx with rfl | hx
     ·exact g a b
     ·exact h2 a (Nk _ b) x hx
    ·obtain ⟨z,d,q⟩:=h4 y hy
     exact ⟨z,Nk _ d,q⟩
theorem ZJ (M:List Mk) (S:List Ev):TW Uz (SK M S):=U8 Nbo _
theorem Mt {M:List Mk} {S:List Ev} {x:Ev}:x∈SK M S↔∃s∈S,{ s with time:=Xc M s }=x:=by
 unfold SK
 rw [(TK Uz _).mem_iff,List.mem_map]
theorem N12 {D w k:Int} (a:0<w) (h1:0<=k) (h2:k<=w):min 0 D<=D*k / w/\D*k / w<=max 0 D:=by
 rcases (by omega:D<0\/0<=D) with h | h
 ·rw [Int.min_eq_right (by omega),Int.max_eq_left (by omega)]
  constructor
  ·exact Int.le_ediv_of_mul_le a (Int.mul_le_mul_of_nonpos_left (by omega) h2)
  ·refine Int.ediv_le_of_le_mul a ?_
   rw [Int.zero_mul]
   exact Int.mul_nonpos_of_nonpos_of_nonneg (by omega) h1
 ·rw [Int.min_eq_left (by omega),Int.max_eq_right (by omega)]
  exact ⟨Int.ediv_nonneg (Int.mul_nonneg h h1) (by omega),Int.ediv_le_of_le_mul a (Int.mul_le_mul_of_nonneg_left h2 h)⟩
def N56 (l:List Mk):Prop:=l.Pairwise fun a b=>a.at'<b.at'
theorem Ny7 {M:List Mk} {sc:Int} (h:M.Pairwise M9):N56 (ofN M sc):=by
 unfold N56 ofN
 have h2:=h.filter (fun m=>m.scanner == sc)
 refine List.Pairwise.imp_of_mem ?_ h2
 intro a b c d q
 have e1:a.scanner=sc:=by simpa using (O5.mp c).2
 have e2:b.scanner=sc:=by simpa using (O5.mp d).2
 unfold M9 at q;omega
theorem Nce {t B:Int}:∀(l:List Mk) (last:Mk),N56 l->(∀m∈l,-B<=m.off/\m.off<=B)->-B<=last.off->last.off<=B->(∀m∈l,last=Uf\/last.at'<m.at')->(last=Uf\/last.at'<t)->-B<=Y6 t last l/\Y6 t last l<=B
 | [],last,_,_,h1,h2,_,_=>⟨h1,h2⟩
 | m::l,last,hl,hb,h1,h2,h3,h4=>by
   obtain ⟨d,e⟩:=List.pairwise_cons.mp hl
   have a:=hb m Nm
   unfold Y6
   split
   ·rename_i ht
    exact Nce l m e (fun x b=>hb x (Nk _ b)) a.1 a.2 (fun x b=>.inr (d x b)) (.inr ht)
   split
   ·exact a
   ·rename_i f c
    have e1:=h4.resolve_left c
    have:=N12 (D:=m.off-last.off) (w:=m.at'-last.at') (k:=t-last.at') (by omega) (by omega) (by omega)
    omega
structure AtOnce (S:List Ev) (c:Int->Int) (t:Ev->Int):Prop where
 at_:∀s∈S,s.at'=t s-c s.scanner
 late:∀s∈S,t s<=s.seen
 once:∀s∈S,∃x∈S,UC x=UC s/\x.seen=t x
def Nfc (m:Mk):List Mk->List Mk
 | []=>[m]
 | y::l=>if M9 y m then y::Nfc m l else if Sg y m then (if m.off<y.off then { y with off:=m.off } else y)::l else m::y::l
theorem Nsq {m:Mk}:∀{l:List Mk},l.Pairwise M9->(Nfc m l).Pairwise M9/\∀x∈Nfc m l,Sg x m\/∃y∈l,Sg x y
 | [],_=>by
   unfold Nfc
   exact ⟨List.pairwise_singleton _ _,fun x hx=>by rw [Nj] at hx;subst hx;exact .inl ⟨rfl,rfl⟩⟩
 | y::l,h=>by
   obtain ⟨h1,h2⟩:=List.pairwise_cons.mp h
   obtain ⟨g,e⟩:=Nsq (m:=m) h2
   unfold Nfc
   split
   ·rename_i c
    refine ⟨List.pairwise_cons.mpr ⟨fun x hx=>?_,g⟩,fun x hx=>?_⟩
    ·rcases e x hx with q | ⟨z,a,q⟩
     ·exact Nme c q
     ·exact Nme (h1 z a) q
    ·rcases Nr.mp hx with rfl | hx
     ·exact .inr ⟨x,Nm,rfl,rfl⟩
     ·rcases e x hx with q | ⟨z,a,q⟩
      ·exact .inl q
      ·exact .inr ⟨z,Nk _ a,q⟩
   ·split
    ·rename_i hn hs
     have f:∀z,M9 y z->M9 (if m.off<y.off then { y with off:=m.off } else y) z:=by
      intro z a;split
      ·exact a
      ·exact a
     have d:Sg (if m.off<y.off then { y with off:=m.off } else y) y:=by split<;>exact ⟨rfl,rfl⟩
     refine ⟨List.pairwise_cons.mpr ⟨fun x hx=>f x (h1 x hx),h2⟩,fun x hx=>?_⟩
     rcases Nr.mp hx with rfl | hx
     ·exact .inr ⟨y,Nm,d⟩
     ·exact .inr ⟨x,Nk _ hx,rfl,rfl⟩
    ·rename_i hn hs
     have b:M9 m y:=by unfold M9 Sg at *;omega
     refine ⟨List.pairwise_cons.mpr ⟨fun x hx=>?_,h⟩,fun x hx=>?_⟩
     ·rcases Nr.mp hx with rfl | hx
      ·exact b
      ·exact Nhq b (h1 x hx)
     ·rcases Nr.mp hx with rfl | hx
      ·exact .inl ⟨rfl,rfl⟩
      ·exact .inr ⟨x,hx,rfl,rfl⟩
structure RefOf (V:List Mk) (out:List Mk):Prop where
 lt:out.Pairwise M9
 from':∀m∈out,m∈V
 all:∀m∈V,∃y∈out,Sg m y/\y.off<=m.off
theorem Nsp {m:Mk}:∀{l:List Mk},(∀x∈Nfc m l,x=m\/x∈l)/\∀x,x=m\/x∈l->∃y∈Nfc m l,Sg x y/\y.off<=x.off
 | []=>by
   unfold Nfc
   refine ⟨fun x hx=>.inl (by simpa using hx),fun x hx=>?_⟩
   rcases hx with rfl | hx
   ·exact ⟨x,by simp,⟨rfl,rfl⟩,Oo _⟩
   ·cases hx
 | y::l=>by
   obtain ⟨f,g⟩:=Nsp (m:=m) (l:=l)
   unfold Nfc
   split
   ·refine ⟨fun x hx=>?_,fun x hx=>?_⟩
    ·rcases Nr.mp hx with rfl | hx
     ·exact .inr Nm
     ·rcases f x hx with q | q
      ·exact .inl q
      ·exact .inr (Nk _ q)
    ·have out:x=m\/x∈l->∃z∈y::Nfc m l,Sg x z/\z.off<=x.off:=fun q=>by
      obtain ⟨z,e,w⟩:=g x q
      exact ⟨z,Nk _ e,w⟩
     rcases hx with rfl | hx
     ·exact out (.inl rfl)
     ·rcases Nr.mp hx with rfl | hx
      ·exact ⟨x,Nm,⟨rfl,rfl⟩,Oo _⟩
      ·exact out (.inr hx)
   ·split
    ·rename_i hn hs
     refine ⟨fun x hx=>?_,fun x hx=>?_⟩
     ·rcases Nr.mp hx with h | hx
      ·split at h
       ·left
        subst h
        obtain ⟨a,b,c⟩:=m
        unfold Sg at hs
        simp only at hs⊢
        rw [hs.1,hs.2]
       ·right;rw [h];exact Nm
      ·exact .inr (Nk _ hx)
     ·have hd:Sg m (if m.off<y.off then { y with off:=m.off } else y)/\(if m.off<y.off then { y with off:=m.off } else y).off<=m.off/\Sg y (if m.off<y.off then { y with off:=m.off } else y)/\(if m.off<y.off then { y with off:=m.off } else y).off<=y.off:=by
       unfold Sg at hs⊢
       split
       ·rename_i d;exact ⟨⟨hs.1.symm,hs.2.symm⟩,Oo _,⟨rfl,rfl⟩,Int.le_of_lt d⟩
       ·exact ⟨⟨hs.1.symm,hs.2.symm⟩,by omega,⟨rfl,rfl⟩,Oo _⟩
      rcases hx with rfl | hx
      ·exact ⟨_,Nm,hd.1,hd.2.1⟩
      ·rcases Nr.mp hx with rfl | hx
       ·exact ⟨_,Nm,hd.2.2.1,hd.2.2.2⟩
       ·exact ⟨x,Nk _ hx,⟨rfl,rfl⟩,Oo _⟩
    ·refine ⟨fun x hx=>?_,fun x hx=>?_⟩
     ·rcases Nr.mp hx with rfl | hx
      ·exact .inl rfl
      ·exact .inr hx
     ·rcases hx with rfl | hx
      ·exact ⟨x,Nm,⟨rfl,rfl⟩,Oo _⟩
      ·exact ⟨x,Nk _ hx,⟨rfl,rfl⟩,Oo _⟩
theorem RefOf.add {V out:List Mk} (h:RefOf V out) (m:Mk):RefOf (V++[m]) (Nfc m out):=by
 obtain ⟨d,a⟩:=Nsp (m:=m) (l:=out)
 refine ⟨(Nsq h.lt).1,fun x hx=>?_,fun x hx=>?_⟩
 ·rcases d x hx with rfl | q
  ·simp
  ·exact Ow _ (h.from' x q)
 ·rcases Od.mp hx with hx | hx
  ·obtain ⟨y,b,q1,q2⟩:=h.all x hx
   obtain ⟨z,c,q3,e⟩:=a y (.inr b)
   exact ⟨z,c,by unfold Sg at *;omega,by omega⟩
  ·rw [Nj] at hx;subst hx
   exact a x (.inl rfl)
end Go.Scan


namespace Go.Net
structure Leg where
 (id frm dst dep mins cut grams days:Int)
 deriving DecidableEq,Inhabited
def NY:Int:=1051898399
def Fine (l:Leg):Prop:=1<=l.id/\l.id<=999999/\1<=l.frm/\l.frm<=999999/\1<=l.dst/\l.dst<=999999/\0<=l.dep/\l.dep<=1439/\1<=l.mins/\l.mins<=20160/\0<=l.cut/\l.cut<=10080/\0<=l.grams/\l.grams<=1000000000/\1<=l.days/\l.days<=127/\l.frm≠l.dst
instance (l:Leg):Decidable (Fine l):=by unfold Fine;infer_instance
def runs (days:Int) (d:Nat):Bool:=days.toNat / 2 ^ (d % 7) % 2 == 1
def goes (l:Leg) (d:Nat):Bool:=runs l.days d&&decide (0<=1440*(d:Int)+l.dep-l.cut)&&decide (1440*(d:Int)+l.dep+l.mins<=NY)
def VM:Nat:=730485
theorem Zw:VM=730485:=rfl
attribute [irreducible] VM
def Dep (l:Leg) (a:Int):Prop:=∃d:Nat,d<VM/\goes l d=true/\a=1440*(d:Int)+l.dep
def Zk (l:Leg) (r:Int):Option Nat:=(List.range VM).find? fun (d:Nat)=>goes l d&&decide (r<=1440*(d:Int)+l.dep-l.cut)
def Sm (l:Leg) (r:Int):Option Int:=(Zk l r).map fun (d:Nat)=>1440*(d:Int)+l.dep
def Ndl (l:Leg) (b:Int):Option Nat:=((List.range VM).find? fun (d:Nat)=>goes l (VM-1-d)&&decide (1440*((VM-1-d:Nat):Int)+l.dep+l.mins<=b)).map fun (d:Nat)=>VM-1-d
def Tk (l:Leg) (b:Int):Option Int:=(Ndl l b).map fun (d:Nat)=>1440*(d:Int)+l.dep
theorem find_range {n:Nat} {p:Nat->Bool} {i:Nat}:(List.range n).find? p=some i↔p i=true/\i<n/\∀j,j<i->p j=false:=by
 rw [List.find?_range_eq_some];simp
theorem V6 {n:Nat} {p:Nat->Bool}:(List.range n).find? p=none↔∀j,j<n->p j=false:=by
 rw [List.find?_range_eq_none];simp
theorem Sk {l:Leg} {r a:Int} (h:Sm l r=some a):Dep l a/\r<=a-l.cut/\∀b,Dep l b->r<=b-l.cut->a<=b:=by
 unfold Sm Zk at h
 obtain ⟨d,hd,rfl⟩:=Nc.1 h
 obtain ⟨h1,h2,f⟩:=find_range.1 hd
 simp only [N0,N3] at h1
 refine ⟨⟨d,h2,h1.1,rfl⟩,h1.2,fun b ⟨e,he,i,g⟩ hr=>?_⟩
 subst g
 by_cases c:e<d
 ·have:=f e c
  simp only [i,Bool.true_and,decide_eq_false_iff_not] at this
  omega
 ·omega
theorem Ne1 {l:Leg} {r:Int} (h:Sm l r=none):∀b,Dep l b->b-l.cut<r:=by
 unfold Sm Zk at h
 rw [Option.map_eq_none_iff,V6] at h
 intro b ⟨e,he,a,c⟩
 have:=h e he
 simp only [a,Bool.true_and,decide_eq_false_iff_not] at this
 omega
theorem TL {l:Leg} {b a:Int} (h:Tk l b=some a):Dep l a/\a+l.mins<=b/\∀c,Dep l c->c+l.mins<=b->c<=a:=by
 unfold Tk Ndl at h
 obtain ⟨d,hd,rfl⟩:=Nc.1 h
 obtain ⟨g,f,rfl⟩:=Nc.1 hd
 obtain ⟨h1,h2,i⟩:=find_range.1 f
 simp only [N0,N3] at h1
 refine ⟨⟨VM-1-g,by omega,h1.1,rfl⟩,h1.2,fun c ⟨e,he,j,hc⟩ hr=>?_⟩
 subst hc
 by_cases k:VM-1-g<e
 ·have:=i (VM-1-e) (by omega)
  rw [show VM-1-(VM-1-e)=e by omega] at this
  simp only [j,Bool.true_and,decide_eq_false_iff_not] at this
  omega
 ·omega
theorem Ne8 {l:Leg} {b:Int} (h:Tk l b=none):∀c,Dep l c->b<c+l.mins:=by
 unfold Tk Ndl at h
 rw [Option.map_eq_none_iff,Option.map_eq_none_iff,V6] at h
 intro c ⟨e,he,a,hc⟩
 have:=h (VM-1-e) (by omega)
 rw [show VM-1-(VM-1-e)=e by omega] at this
 simp only [a,Bool.true_and,decide_eq_false_iff_not] at this
 omega
inductive Way (L:List Leg):Nat->Int->Int->Int->Int->Prop where
 | nil (p t:Int):Way L 0 p t p t
 | snoc {k:Nat} {p t m s a:Int} {l:Leg}:Way L k p t m s->l∈L->l.frm=m->Dep l a->s<=a-l.cut->Way L (k+1) p t l.dst (a+l.mins)
theorem Way.later {L:List Leg} {k:Nat} {p t q u:Int} (h:Way L k p t q u) (hL:∀l∈L,Fine l):t<=u:=by
 induction h with
 | nil=>omega
 | snoc h hl a hd hs ih=>have:=hL _ hl;unfold Fine at this;omega
theorem Way.early {L:List Leg} {k:Nat} {p t b q u:Int} (h:Way L k p t q u) (ht:b<=t):(k=0/\p=q/\u=t)\/Way L k p b q u:=by
 induction h with
 | nil=>exact .inl ⟨rfl,rfl,rfl⟩
 | snoc h hl a hd hs ih=>
   rcases ih ht with ⟨rfl,rfl,rfl⟩ | ih
   ·exact .inr (.snoc (.nil _ _) hl a hd (by omega))
   ·exact .inr (.snoc ih hl a hd hs)
theorem Way.mono {L M:List Leg} {k:Nat} {p t q u:Int} (h:Way L k p t q u) (hs:∀l∈L,l∈M):Way M k p t q u:=by
 induction h with
 | nil=>exact .nil _ _
 | snoc h hl a hd hr ih=>exact .snoc ih (hs _ hl) a hd hr
theorem Way.trans {L:List Leg} {k j:Nat} {p t m s q u:Int} (h:Way L k p t m s) (h2:Way L j m s q u):Way L (k+j) p t q u:=by
 induction h2 with
 | nil=>exact h
 | snoc h2 hl a hd hr ih=>exact .snoc (ih h) hl a hd hr
theorem Way.cons {L:List Leg} {k:Nat} {p t a q u:Int} {l:Leg} (hl:l∈L) (b:l.frm=p) (hd:Dep l a) (hr:t<=a-l.cut) (h:Way L k l.dst (a+l.mins) q u):Way L (k+1) p t q u:=by
 have:=(Way.snoc (.nil p t) hl b hd hr).trans h
 rwa [Oc,Rn] at this
theorem Way.head {L:List Leg} {k:Nat} {p t q u:Int} (h:Way L (k+1) p t q u):∃l∈L,∃a,l.frm=p/\Dep l a/\t<=a-l.cut/\Way L k l.dst (a+l.mins) q u:=by
 generalize hk:k+1=n at h
 induction h generalizing k with
 | nil=>omega
 | @snoc j p t m s a l h hl hf hd hr ih=>
   cases j with
   | zero=>
     cases h
     obtain rfl:k=0:=by omega
     exact ⟨l,hl,a,hf,hd,hr,.nil _ _⟩
   | succ i=>
     obtain ⟨e,b,a',h1,h2,c,d⟩:=ih rfl
     obtain rfl:k=i+1:=by omega
     exact ⟨e,b,a',h1,h2,c,.snoc d hl hf hd hr⟩
def SN (S:Int->Prop) (v:Int):Prop:=(v=-1/\∀u,¬S u)\/(S v/\∀u,S u->v<=u)
theorem SN.uniq {S:Int->Prop} {v w:Int} (h:SN S v) (h':SN S w):v=w:=by
 rcases h with ⟨h1,h2⟩ | ⟨h1,h2⟩<;>rcases h' with ⟨a,b⟩ | ⟨a,b⟩
 ·omega
 ·exact absurd a (h2 _)
 ·exact absurd h1 (b _)
 ·have:=h2 _ a;have:=b _ h1;omega
theorem SN.congr {S T:Int->Prop} {v:Int} (h:SN S v) (e:∀u,S u↔T u):SN T v:=by
 rcases h with ⟨h1,h2⟩ | ⟨h1,h2⟩
 ·exact .inl ⟨h1,fun u a=>h2 u ((e u).2 a)⟩
 ·exact .inr ⟨(e v).1 h1,fun u a=>h2 u ((e u).2 a)⟩
theorem SN.mem {S:Int->Prop} {v:Int} (h:SN S v) (a:0<=v):S v:=by
 rcases h with ⟨h1,h2⟩ | ⟨h1,h2⟩
 ·omega
 ·exact h1
theorem SN.none {S:Int->Prop} {v:Int} (h:SN S v) (h0:∀u,S u->0<=u) (a:v<0):∀u,¬S u:=by
 rcases h with ⟨h1,h2⟩ | ⟨h1,h2⟩
 ·exact h2
 ·have:=h0 _ h1;omega
theorem SN.le {S:Int->Prop} {v u:Int} (h:SN S v) (a:S u):v<=u:=by
 rcases h with ⟨h1,h2⟩ | ⟨h1,h2⟩
 ·exact absurd a (h2 _)
 ·exact h2 _ a
theorem SN.one {S:Int->Prop} {v x:Int} (h:SN S v) (h0:∀u,S u->0<=u) (a:0<=x):SN (fun u=>S u\/u=x) (if v<0\/x<v then x else v):=by
 by_cases hc:v<0\/x<v
 ·rw [Ni hc]
  refine .inr ⟨.inr rfl,fun u hu=>?_⟩
  rcases hu with hu | hu
  ·rcases hc with hc | hc
   ·exact absurd hu (h.none h0 hc u)
   ·have:=h.le hu;omega
  ·omega
 ·rw [Ng hc]
  have:=h.mem (by omega)
  refine .inr ⟨.inl this,fun u hu=>?_⟩
  rcases hu with hu | hu
  ·exact h.le hu
  ·omega
def X8 (pos:Int->Nat) (lim:Int) (bef aft:List Int) (l:Leg):List Int:=
 if bef.getD (pos l.frm) (-1)<0 then aft else
 match Sm l (bef.getD (pos l.frm) (-1)) with
 | some a=>if a+l.mins<=lim/\(aft.getD (pos l.dst) (-1)<0\/a+l.mins<aft.getD (pos l.dst) (-1)) then aft.set (pos l.dst) (a+l.mins) else aft
 | none=>aft
def V9 (pos:Int->Nat) (lim:Int) (L:List Leg) (bef:List Int):List Int:=L.foldl (X8 pos lim bef) bef
theorem Ndz {pos:Int->Nat} {lim:Int} {bef aft:List Int} {l:Leg}:(X8 pos lim bef aft l).length=aft.length:=by
 unfold X8
 split
 ·rfl
 ·split
  ·split
   ·simp
   ·rfl
  ·rfl
theorem Nh7 {pos:Int->Nat} {lim:Int} {bef:List Int}:∀{L:List Leg} {aft:List Int},(L.foldl (X8 pos lim bef) aft).length=aft.length
 | [],_=>rfl
 | l::L,aft=>by rw [Ok,Nh7,Ndz]
theorem Zd {pos:Int->Nat} {lim:Int} {L:List Leg} {bef:List Int}:(V9 pos lim L bef).length=bef.length:=Nh7
def Nkh (pos:Int->Nat) (lim:Int) (bef:List Int) (l:Leg) (q:Nat) (u:Int):Prop:=
 pos l.dst=q/\0<=bef.getD (pos l.frm) (-1)/\∃a,Sm l (bef.getD (pos l.frm) (-1))=some a/\u=a+l.mins/\u<=lim
theorem Dep.nonneg {l:Leg} {a:Int} (h:Dep l a) (hl:Fine l):0<=a:=by
 obtain ⟨d,_,_,rfl⟩:=h
 unfold Fine at hl;omega
theorem Nkh.nonneg {pos:Int->Nat} {lim:Int} {bef:List Int} {l:Leg} {q:Nat} {u:Int} (h:Nkh pos lim bef l q u) (hl:Fine l):0<=u:=by
 obtain ⟨_,_,a,h1,h2,_⟩:=h
 have:=(Sk h1).1.nonneg hl
 unfold Fine at hl;omega
theorem Xq {L:List Int} {i j:Nat} {x d:Int} (hi:i<L.length):(L.set i x).getD j d=if i=j then x else L.getD j d:=by
 rw [Na,N7]
 by_cases h:i=j
 ·simp [h,show j<L.length by omega]
 ·simp [h,Na]
theorem Nx3 {pos:Int->Nat} {lim:Int} {bef aft:List Int} {l:Leg} {q:Nat} {S:Int->Prop} (hl:Fine l) (hp:pos l.dst<aft.length) (h0:∀u,S u->0<=u) (h:SN S (aft.getD q (-1))) :
  SN (fun u=>S u\/Nkh pos lim bef l q u) ((X8 pos lim bef aft l).getD q (-1)):=by
 unfold X8
 by_cases hs:bef.getD (pos l.frm) (-1)<0
 ·rw [Ni hs]
  exact h.congr fun u=>⟨.inl,fun c=>c.elim id fun d=>absurd d.2.1 (by omega)⟩
 rw [Ng hs]
 cases hn:Sm l (bef.getD (pos l.frm) (-1)) with
 | none=>
   simp only []
   exact h.congr fun u=>⟨.inl,fun c=>c.elim id fun ⟨_,_,a,j,_⟩=>by rw [hn] at j;cases j⟩
 | some a=>
   simp only []
   have i:0<=a+l.mins:=by have:=(Sk hn).1.nonneg hl;unfold Fine at hl;omega
   by_cases f:a+l.mins<=lim
   ·by_cases g:pos l.dst=q
    ·have e:((if a+l.mins<=lim/\(aft.getD (pos l.dst) (-1)<0\/a+l.mins<aft.getD (pos l.dst) (-1)) then aft.set (pos l.dst) (a+l.mins) else aft).getD q (-1))=if aft.getD q (-1)<0\/a+l.mins<aft.getD q (-1) then a+l.mins else aft.getD q (-1):=by
      subst g
      by_cases hc:aft.getD (pos l.dst) (-1)<0\/a+l.mins<aft.getD (pos l.dst) (-1)
      ·rw [Ni ⟨f,hc⟩,Ni hc,Xq hp,Ni rfl]
      ·rw [Ng (fun h=>hc h.2),Ng hc]
     rw [e]
     refine (h.one h0 i).congr fun u=>⟨fun c=>c.elim .inl fun c=>.inr ⟨g,by omega,a,hn,c,by omega⟩,fun c=>c.elim .inl fun ⟨_,_,b,d,c,_⟩=>?_⟩
     rw [hn] at d;cases d;exact .inr c
    ·have e:((if a+l.mins<=lim/\(aft.getD (pos l.dst) (-1)<0\/a+l.mins<aft.getD (pos l.dst) (-1)) then aft.set (pos l.dst) (a+l.mins) else aft).getD q (-1))=aft.getD q (-1):=by
      split
      ·rw [Xq hp,Ng g]
      ·rfl
     rw [e]
     exact h.congr fun u=>⟨.inl,fun c=>c.elim id fun d=>absurd d.1 g⟩
   ·rw [Ng (fun h=>f h.1)]
    refine h.congr fun u=>⟨.inl,fun c=>c.elim id fun ⟨_,_,b,d,c,hl⟩=>?_⟩
    rw [hn] at d;cases d;omega
theorem Nh6 {pos:Int->Nat} {lim:Int} {bef:List Int} {q:Nat}:∀{L:List Leg} {aft:List Int} {S:Int->Prop},(∀l∈L,Fine l/\pos l.dst<aft.length)->(∀u,S u->0<=u)->SN S (aft.getD q (-1))->
  SN (fun u=>S u\/∃l∈L,Nkh pos lim bef l q u) ((L.foldl (X8 pos lim bef) aft).getD q (-1))
 | [],aft,S,hL,h0,h=>h.congr fun u=>⟨.inl,fun hu=>hu.elim id fun ⟨l,hl,_⟩=>by cases hl⟩
 | l::L,aft,S,hL,h0,h=>by
   obtain ⟨h1,h2⟩:=hL l (Nm ..)
   rw [Ok]
   refine (Nh6 (L:=L) (fun x hx=>?_) (fun u hu=>?_) (Nx3 (lim:=lim) (bef:=bef) h1 h2 h0 h)).congr fun u=>?_
   ·rw [Ndz];exact hL x (Nk _ hx)
   ·rcases hu with hu | hu
    ·exact h0 u hu
    ·exact hu.nonneg h1
   ·constructor
    ·rintro ((h | h) | ⟨x,hx,h⟩)
     ·exact .inl h
     ·exact .inr ⟨l,Nm ..,h⟩
     ·exact .inr ⟨x,Nk _ hx,h⟩
    ·rintro (h | ⟨x,hx,h⟩)
     ·exact .inl (.inl h)
     ·rcases Nr.1 hx with rfl | hx
      ·exact .inl (.inr h)
      ·exact .inr ⟨x,hx,h⟩
theorem SN.dom {S T:Int->Prop} {v:Int} (h:SN S v) (h1:∀u,S u->T u) (h2:∀u,T u->∃w,w<=u/\S w):SN T v:=by
 rcases h with ⟨a,b⟩ | ⟨a,b⟩
 ·exact .inl ⟨a,fun u c=>by obtain ⟨w,_,d⟩:=h2 u c;exact b w d⟩
 ·exact .inr ⟨h1 _ a,fun u c=>by obtain ⟨w,e,d⟩:=h2 u c;have:=b w d;omega⟩
structure NetOk (N:Nat) (P:List Int) (L:List Leg) (pos:Int->Nat):Prop where
 fine:∀l∈L,Fine l
 frm:∀l∈L,l.frm∈P
 dst:∀l∈L,l.dst∈P
 inj:∀a∈P,∀b∈P,pos a=pos b->a=b
 lt:∀a∈P,pos a<N
def Z5 (N i:Nat) (t:Int):List Int:=(List.replicate N (-1)).set i t
theorem Ney {N i:Nat} {t:Int}:(Z5 N i t).length=N:=by simp [Z5]
theorem Nez {N i j:Nat} {t:Int} (hi:i<N):(Z5 N i t).getD j (-1)=if i=j then t else -1:=by
 unfold Z5
 rw [Xq (by simpa using hi)]
 split
 ·rfl
 ·rw [Na,Pw];split<;>rfl
def Sd (N:Nat) (pos:Int->Nat) (lim:Int) (L:List Leg) (p ready:Int):Nat->List Int
 | 0=>Z5 N (pos p) ready
 | k+1=>V9 pos lim L (Sd N pos lim L p ready k)
theorem UI {N:Nat} {pos:Int->Nat} {lim:Int} {L:List Leg} {p ready:Int}:∀{k:Nat},(Sd N pos lim L p ready k).length=N
 | 0=>Ney
 | k+1=>by rw [Sd,Zd,UI]
theorem Xy {N:Nat} {P:List Int} {L:List Leg} {pos:Int->Nat} {lim p ready:Int} (hn:NetOk N P L pos) (hp:p∈P) (hr:0<=ready) (d:ready<=lim):∀(k:Nat) (q:Int),q∈P->
  SN (fun u=>(∃j,j<=k/\Way L j p ready q u)/\u<=lim) ((Sd N pos lim L p ready k).getD (pos q) (-1))
 | 0,q,hq=>by
   rw [Sd,Nez (hn.lt p hp)]
   by_cases h:pos p=pos q
   ·rw [Ni h]
    have:=hn.inj p hp q hq h
    subst this
    refine .inr ⟨⟨⟨0,Nd _,.nil _ _⟩,d⟩,fun u ⟨⟨j,hj,c⟩,_⟩=>c.later hn.fine⟩
   ·rw [Ng h]
    refine .inl ⟨rfl,fun u ⟨⟨j,hj,c⟩,_⟩=>?_⟩
    obtain rfl:j=0:=by omega
    cases c
    exact h rfl
 | k+1,q,hq=>by
   have ih:=Xy hn hp hr d k
   have h0:∀q u,((∃j,j<=k/\Way L j p ready q u)/\u<=lim)->0<=u:=fun q u ⟨⟨j,_,c⟩,_⟩=>by have:=c.later hn.fine;omega
   rw [Sd,V9]
   refine (Nh6 (L:=L) (fun l hl=>⟨hn.fine l hl,by rw [UI];exact hn.lt _ (hn.dst l hl)⟩) (h0 q) (ih q hq)).dom (fun u o=>?_) (fun u o=>?_)
   ·rcases o with ⟨⟨j,hj,c⟩,hl⟩ | ⟨l,hl,hd,hs,a,y,rfl,e⟩
    ·exact ⟨⟨j,by omega,c⟩,hl⟩
    ·obtain ⟨⟨j,hj,c⟩,i⟩:=(ih l.frm (hn.frm l hl)).mem hs
     obtain ⟨v,w,x⟩:=Sk y
     have:=hn.inj _ (hn.dst l hl) q hq hd
     subst this
     exact ⟨⟨j+1,by omega,.snoc c hl rfl v w⟩,e⟩
   ·obtain ⟨⟨j,hj,c⟩,r⟩:=o
    by_cases f:j<=k
    ·exact ⟨u,Oo _,.inl ⟨⟨j,f,c⟩,r⟩⟩
    ·cases c with
     | nil=>exact absurd (Nw _) f
     | @snoc j' p t m s a l c hl hf hd hs=>
       subst hf
       have n:=hn.fine l hl
       have i:s<=lim:=by unfold Fine at n;omega
       have hS:(∃j,j<=k/\Way L j p ready l.frm s)/\s<=lim:=⟨⟨j',by omega,c⟩,i⟩
       have z:=(ih l.frm (hn.frm l hl)).le hS
       have g:0<=(Sd N pos lim L p ready k).getD (pos l.frm) (-1):=by
        apply Oj;intro hc
        exact (ih l.frm (hn.frm l hl)).none (h0 _) (by omega) s hS
       cases hnx:Sm l ((Sd N pos lim L p ready k).getD (pos l.frm) (-1)) with
       | none=>have:=Ne1 hnx a hd;omega
       | some b=>
         obtain ⟨v,w,x⟩:=Sk hnx
         have:=x a hd (by omega)
         exact ⟨b+l.mins,by omega,.inr ⟨l,hl,rfl,g,b,hnx,rfl,by omega⟩⟩
theorem Nf9 {N:Nat} {pos:Int->Nat} {lim:Int} {L:List Leg} {p ready:Int} {k:Nat} (h:Sd N pos lim L p ready (k+1)=Sd N pos lim L p ready k):∀j,Sd N pos lim L p ready (k+j)=Sd N pos lim L p ready k
 | 0=>rfl
 | j+1=>by rw [<-Pj,Sd,Nf9 h j];exact h
theorem Nga {N:Nat} {P:List Int} {L:List Leg} {pos:Int->Nat} {lim p ready:Int} (hn:NetOk N P L pos) (hp:p∈P) (hr:0<=ready) (a:ready<=lim) {k:Nat} (h:Sd N pos lim L p ready (k+1)=Sd N pos lim L p ready k) (q:Int) (f:q∈P) :
  SN (fun u=>(∃j,Way L j p ready q u)/\u<=lim) ((Sd N pos lim L p ready k).getD (pos q) (-1)):=by
 refine (Xy hn hp hr a k q f).dom (fun u ⟨⟨j,_,b⟩,hl⟩=>⟨⟨j,b⟩,hl⟩) (fun u ⟨⟨j,b⟩,hl⟩=>?_)
 have e:=Xy hn hp hr a (k+j) q f
 rw [Nf9 h] at e
 have d:=e.le ⟨⟨j,by omega,b⟩,hl⟩
 have hk:=Xy hn hp hr a k q f
 have h0:∀u,((∃g,g<=k+j/\Way L g p ready q u)/\u<=lim)->0<=u:=fun u ⟨⟨j,_,b⟩,_⟩=>by have:=b.later hn.fine;omega
 have c:0<=(Sd N pos lim L p ready k).getD (pos q) (-1):=by
  apply Oj;intro hc
  exact e.none h0 (by omega) u ⟨⟨j,by omega,b⟩,hl⟩
 exact ⟨_,d,hk.mem c⟩
def Nql (ready lim t:Int):Nat:=if t<0 then (lim-ready).toNat+1 else (t-ready).toNat
def muA (ready lim:Int) (T:List Int):Nat:=(T.map (Nql ready lim)).sum
def WU (ready lim:Int) (T:List Int):Prop:=∀t∈T,t=-1\/ready<=t/\t<=lim
theorem Nzu {ready lim:Int}:∀{T:List Int},WU ready lim T->muA ready lim T<=T.length*((lim-ready).toNat+1)
 | [],_=>by simp [muA]
 | t::T,h=>by
   have ih:=Nzu (T:=T) fun x a=>h x (Nk _ a)
   have h1:=h t (Nm ..)
   unfold muA at ih⊢
   simp only [N2,List.sum_cons,Nl,Pq]
   have:Nql ready lim t<=(lim-ready).toNat+1:=by unfold Nql;split<;>omega
   omega
theorem Nzt {f:Int->Nat}:∀{T:List Int} {i:Nat} {x:Int} (hi:i<T.length),((T.set i x).map f).sum+f (T.getD i (-1))=(T.map f).sum+f x
 | t::T,0,x,_=>by simp;omega
 | t::T,i+1,x,hi=>by
   have:=Nzt (f:=f) (T:=T) (i:=i) (x:=x) (by simpa using hi)
   simp only [Qu,N2,List.sum_cons,List.getD_cons_succ]
   omega
theorem N28 {pos:Int->Nat} {ready lim:Int} {bef aft:List Int} {l:Leg} (g:WU ready lim bef) (b:WU ready lim aft) (hl:Fine l) (hd:pos l.dst<aft.length) (hr:0<=ready) :
  WU ready lim (X8 pos lim bef aft l)/\(X8 pos lim bef aft l=aft\/muA ready lim (X8 pos lim bef aft l)<muA ready lim aft):=by
 unfold X8
 by_cases hs:bef.getD (pos l.frm) (-1)<0
 ·rw [Ni hs];exact ⟨b,.inl rfl⟩
 rw [Ng hs]
 cases hn:Sm l (bef.getD (pos l.frm) (-1)) with
 | none=>exact ⟨b,.inl rfl⟩
 | some a=>
   simp only []
   split
   case isFalse=>exact ⟨b,.inl rfl⟩
   rename_i hc
   obtain ⟨k,m,n⟩:=Sk hn
   have i:ready<=bef.getD (pos l.frm) (-1):=by
    by_cases h:pos l.frm<bef.length
    ·have e:bef.getD (pos l.frm) (-1)=bef[pos l.frm]:=by rw [Na,Nf h];rfl
     have:=g _ (P1 h)
     rw [e] at hs⊢;omega
    ·rw [Na,Nx (by omega)] at hs;exact absurd (by decide) hs
   have c:=hl
   unfold Fine at c
   have j:ready<=a+l.mins/\a+l.mins<=lim:=⟨by omega,hc.1⟩
   have d:aft.getD (pos l.dst) (-1)=-1\/ready<=aft.getD (pos l.dst) (-1)/\aft.getD (pos l.dst) (-1)<=lim:=by
    have e:aft.getD (pos l.dst) (-1)=aft[pos l.dst]:=by rw [Na,Nf hd];rfl
    rw [e];exact b _ (P1 hd)
   refine ⟨fun t ht=>?_,.inr ?_⟩
   ·rcases Q7 ht with h | h
    ·exact b t h
    ·exact .inr (by omega)
   ·have:=Nzt (f:=Nql ready lim) (x:=a+l.mins) hd
    unfold muA
    have e1:Nql ready lim (a+l.mins)<Nql ready lim (aft.getD (pos l.dst) (-1)):=by
     unfold Nql
     rw [Ng (by omega)]
     split<;>omega
    omega
theorem Nm3 {pos:Int->Nat} {ready lim:Int} {bef:List Int} (a:WU ready lim bef) (hr:0<=ready):∀{L:List Leg} {aft:List Int},(∀l∈L,Fine l/\pos l.dst<aft.length)->WU ready lim aft->
  WU ready lim (L.foldl (X8 pos lim bef) aft)/\(L.foldl (X8 pos lim bef) aft=aft\/muA ready lim (L.foldl (X8 pos lim bef) aft)<muA ready lim aft)
 | [],aft,hL,ha=>⟨ha,.inl rfl⟩
 | l::L,aft,hL,ha=>by
   obtain ⟨h1,h2⟩:=hL l (Nm ..)
   obtain ⟨b,g2⟩:=N28 (l:=l) a ha h1 h2 hr
   obtain ⟨k1,k2⟩:=Nm3 a hr (L:=L) (aft:=X8 pos lim bef aft l) (fun x c=>by rw [Ndz];exact hL x (Nk _ c)) b
   rw [Ok]
   refine ⟨k1, ?_⟩
   rcases k2 with k2 | k2
   ·rw [k2];exact g2
   ·rcases g2 with g2 | g2
    ·rw [g2] at k2⊢;exact .inr k2
    ·exact .inr (by omega)
theorem Nky {pos:Int->Nat} {ready lim:Int} {bef:List Int} {L:List Leg} (a:WU ready lim bef) (hr:0<=ready) (hL:∀l∈L,Fine l/\pos l.dst<bef.length) :
  WU ready lim (V9 pos lim L bef)/\(V9 pos lim L bef=bef\/muA ready lim (V9 pos lim L bef)<muA ready lim bef):=Nm3 a hr hL a
def Ub (L:List Leg) (p ready q v:Int):Prop:=SN (fun u=>(∃j,Way L j p ready q u)/\u<=ready+86400) v
theorem Ub.start {L:List Leg} {p ready v:Int} (h:Ub L p ready p v) (hL:∀l∈L,Fine l):v=ready:=
 SN.uniq h (.inr ⟨⟨⟨0,.nil _ _⟩,by omega⟩,fun u ⟨⟨j,a⟩,_⟩=>a.later hL⟩)
theorem Ub.ge {L:List Leg} {p ready q v:Int} (h:Ub L p ready q v) (hL:∀l∈L,Fine l) (a:0<=v):ready<=v/\v<=ready+86400:=by
 obtain ⟨⟨j,b⟩,hl⟩:=h.mem a
 exact ⟨b.later hL,hl⟩
theorem Ub.later {L:List Leg} {p a b q x y:Int} (e:Ub L p a q x) (h:Ub L p b q y) (d:a<=b) (f:0<=y):x<=y:=by
 obtain ⟨⟨j,g⟩,hl⟩:=h.mem f
 by_cases c:y<=a+86400
 ·rcases g.early d with ⟨rfl,rfl,rfl⟩ | hw'
  ·have:=e.le (u:=a) ⟨⟨0,.nil _ _⟩,by omega⟩;omega
  ·exact e.le ⟨⟨j,hw'⟩,c⟩
 ·rcases e with ⟨h1,_⟩ | ⟨⟨_,h1⟩,_⟩<;>omega
theorem Ub.same {L M:List Leg} {p t q x y:Int} (b:Ub L p t q x) (c:Ub M p t q y) (hs:∀l,l∈M↔l∈L):x=y:=
 b.uniq (c.congr fun u=>⟨fun ⟨⟨j,a⟩,hl⟩=>⟨⟨j,a.mono fun l h=>(hs l).1 h⟩,hl⟩,fun ⟨⟨j,a⟩,hl⟩=>⟨⟨j,a.mono fun l h=>(hs l).2 h⟩,hl⟩⟩)
def TG (S:Int->Prop) (v:Int):Prop:=(v=-1/\∀u,¬S u)\/(S v/\∀u,S u->u<=v)
theorem TG.uniq {S:Int->Prop} {v w:Int} (h:TG S v) (h':TG S w):v=w:=by
 rcases h with ⟨h1,h2⟩ | ⟨h1,h2⟩<;>rcases h' with ⟨a,b⟩ | ⟨a,b⟩
 ·omega
 ·exact absurd a (h2 _)
 ·exact absurd h1 (b _)
 ·have:=h2 _ a;have:=b _ h1;omega
theorem TG.congr {S T:Int->Prop} {v:Int} (h:TG S v) (e:∀u,S u↔T u):TG T v:=by
 rcases h with ⟨h1,h2⟩ | ⟨h1,h2⟩
 ·exact .inl ⟨h1,fun u a=>h2 u ((e u).2 a)⟩
 ·exact .inr ⟨(e v).1 h1,fun u a=>h2 u ((e u).2 a)⟩
theorem TG.mem {S:Int->Prop} {v:Int} (h:TG S v) (a:0<=v):S v:=by
 rcases h with ⟨h1,h2⟩ | ⟨h1,h2⟩
 ·omega
 ·exact h1
theorem TG.none {S:Int->Prop} {v:Int} (h:TG S v) (h0:∀u,S u->0<=u) (a:v<0):∀u,¬S u:=by
 rcases h with ⟨h1,h2⟩ | ⟨h1,h2⟩
 ·exact h2
 ·have:=h0 _ h1;omega
theorem TG.ge {S:Int->Prop} {v u:Int} (h:TG S v) (a:S u):u<=v:=by
 rcases h with ⟨h1,h2⟩ | ⟨h1,h2⟩
 ·exact absurd a (h2 _)
 ·exact h2 _ a
theorem TG.one {S:Int->Prop} {v x:Int} (h:TG S v) (h0:∀u,S u->0<=u) (a:0<=x):TG (fun u=>S u\/u=x) (if v<x then x else v):=by
 by_cases hc:v<x
 ·rw [Ni hc]
  refine .inr ⟨.inr rfl,fun u hu=>?_⟩
  rcases hu with hu | hu
  ·have:=h.ge hu;omega
  ·omega
 ·rw [Ng hc]
  have:=h.mem (by omega)
  refine .inr ⟨.inl this,fun u hu=>?_⟩
  rcases hu with hu | hu
  ·exact h.ge hu
  ·omega
theorem TG.dom {S T:Int->Prop} {v:Int} (h:TG S v) (h1:∀u,S u->T u) (h2:∀u,T u->∃w,u<=w/\S w):TG T v:=by
 rcases h with ⟨a,b⟩ | ⟨a,b⟩
 ·exact .inl ⟨a,fun u c=>by obtain ⟨w,_,d⟩:=h2 u c;exact b w d⟩
 ·exact .inr ⟨h1 _ a,fun u c=>by obtain ⟨w,e,d⟩:=h2 u c;have:=b w d;omega⟩
def Nkn (pos:Int->Nat) (low:Int) (bef aft:List Int) (l:Leg):List Int:=
 if bef.getD (pos l.dst) (-1)<0 then aft else
 match Tk l (bef.getD (pos l.dst) (-1)) with
 | some a=>if low<=a-l.cut/\aft.getD (pos l.frm) (-1)<a-l.cut then aft.set (pos l.frm) (a-l.cut) else aft
 | none=>aft
theorem Nx2 {pos:Int->Nat} {low:Int} {bef aft:List Int} {l:Leg}:(Nkn pos low bef aft l).length=aft.length:=by
 unfold Nkn
 split
 ·rfl
 ·split
  ·split
   ·simp
   ·rfl
  ·rfl
def Ns1 (pos:Int->Nat) (low:Int) (bef:List Int) (l:Leg) (q:Nat) (u:Int):Prop:=
 pos l.frm=q/\0<=bef.getD (pos l.dst) (-1)/\∃a,Tk l (bef.getD (pos l.dst) (-1))=some a/\u=a-l.cut/\low<=u
theorem Dep.ready {l:Leg} {a:Int} (h:Dep l a):0<=a-l.cut:=by
 obtain ⟨d,_,b,rfl⟩:=h
 unfold goes at b
 simp only [N0,N3] at b
 omega
theorem Ns1.nonneg {pos:Int->Nat} {low:Int} {bef:List Int} {l:Leg} {q:Nat} {u:Int} (h:Ns1 pos low bef l q u):0<=u:=by
 obtain ⟨_,_,a,h1,h2,_⟩:=h
 have:=(TL h1).1.ready
 omega
theorem Nx1 {pos:Int->Nat} {low:Int} {bef aft:List Int} {l:Leg} {q:Nat} {S:Int->Prop} (hp:pos l.frm<aft.length) (h0:∀u,S u->0<=u) (h:TG S (aft.getD q (-1))) :
  TG (fun u=>S u\/Ns1 pos low bef l q u) ((Nkn pos low bef aft l).getD q (-1)):=by
 unfold Nkn
 by_cases hs:bef.getD (pos l.dst) (-1)<0
 ·rw [Ni hs]
  exact h.congr fun u=>⟨.inl,fun c=>c.elim id fun d=>absurd d.2.1 (by omega)⟩
 rw [Ng hs]
 cases hn:Tk l (bef.getD (pos l.dst) (-1)) with
 | none=>
   simp only []
   exact h.congr fun u=>⟨.inl,fun c=>c.elim id fun ⟨_,_,a,j,_⟩=>by rw [hn] at j;cases j⟩
 | some a=>
   simp only []
   have i:0<=a-l.cut:=(TL hn).1.ready
   by_cases f:low<=a-l.cut
   ·by_cases g:pos l.frm=q
    ·have e:((if low<=a-l.cut/\aft.getD (pos l.frm) (-1)<a-l.cut then aft.set (pos l.frm) (a-l.cut) else aft).getD q (-1))=if aft.getD q (-1)<a-l.cut then a-l.cut else aft.getD q (-1):=by
      subst g
      by_cases hc:aft.getD (pos l.frm) (-1)<a-l.cut
      ·rw [Ni ⟨f,hc⟩,Ni hc,Xq hp,Ni rfl]
      ·rw [Ng (fun h=>hc h.2),Ng hc]
     rw [e]
     refine (h.one h0 i).congr fun u=>⟨fun c=>c.elim .inl fun c=>.inr ⟨g,by omega,a,hn,c,by omega⟩,fun c=>c.elim .inl fun ⟨_,_,b,d,c,_⟩=>?_⟩
     rw [hn] at d;cases d;exact .inr c
    ·have e:((if low<=a-l.cut/\aft.getD (pos l.frm) (-1)<a-l.cut then aft.set (pos l.frm) (a-l.cut) else aft).getD q (-1))=aft.getD q (-1):=by
      split
      ·rw [Xq hp,Ng g]
      ·rfl
     rw [e]
     exact h.congr fun u=>⟨.inl,fun c=>c.elim id fun d=>absurd d.1 g⟩
   ·rw [Ng (fun h=>f h.1)]
    refine h.congr fun u=>⟨.inl,fun c=>c.elim id fun ⟨_,_,b,d,c,hl⟩=>?_⟩
    rw [hn] at d;cases d;omega
theorem Nh5 {pos:Int->Nat} {low:Int} {bef:List Int} {q:Nat}:∀{L:List Leg} {aft:List Int} {S:Int->Prop},(∀l∈L,pos l.frm<aft.length)->(∀u,S u->0<=u)->TG S (aft.getD q (-1))->
  TG (fun u=>S u\/∃l∈L,Ns1 pos low bef l q u) ((L.foldl (Nkn pos low bef) aft).getD q (-1))
 | [],aft,S,hL,h0,h=>h.congr fun u=>⟨.inl,fun hu=>hu.elim id fun ⟨l,hl,_⟩=>by cases hl⟩
 | l::L,aft,S,hL,h0,h=>by
   rw [Ok]
   refine (Nh5 (L:=L) (fun x hx=>?_) (fun u hu=>?_) (Nx1 (low:=low) (bef:=bef) (hL l (Nm ..)) h0 h)).congr fun u=>?_
   ·rw [Nx2];exact hL x (Nk _ hx)
   ·rcases hu with hu | hu
    ·exact h0 u hu
    ·exact hu.nonneg
   ·constructor
    ·rintro ((h | h) | ⟨x,hx,h⟩)
     ·exact .inl h
     ·exact .inr ⟨l,Nm ..,h⟩
     ·exact .inr ⟨x,Nk _ hx,h⟩
    ·rintro (h | ⟨x,hx,h⟩)
     ·exact .inl (.inl h)
     ·rcases Nr.1 hx with rfl | hx
      ·exact .inl (.inr h)
      ·exact .inr ⟨x,hx,h⟩
def ZU (L:List Leg) (q a p v:Int):Prop:=TG (fun u=>0<=u/\a-86400<=u/\∃j v,v<=a/\Way L j p u q v) v
theorem ZU.start {L:List Leg} {q dl v:Int} (h:ZU L q dl q v) (hL:∀l∈L,Fine l) (h0:0<=dl):v=dl:=
 h.uniq (.inr ⟨⟨h0,by omega,0,dl,Oo _,.nil _ _⟩,fun u ⟨_,_,j,v,b,a⟩=>by have:=a.later hL;omega⟩)
theorem ZU.range {L:List Leg} {q dl p v:Int} (h:ZU L q dl p v) (hL:∀l∈L,Fine l) (a:0<=v):dl-86400<=v/\v<=dl:=by
 obtain ⟨_,h1,j,u,c,b⟩:=h.mem a
 have:=b.later hL
 exact ⟨h1,by omega⟩
theorem ZU.later {L:List Leg} {p q a b x y:Int} (i:ZU L q a p x) (e:ZU L q b p y) (hL:∀l∈L,Fine l) (f:a<=b) (c:0<=x) (d:0<=y):x<=y:=by
 obtain ⟨h1,h2,j,v,k,g⟩:=i.mem c
 by_cases h:b-86400<=x
 ·exact e.ge ⟨h1,h,j,v,by omega,g⟩
 ·have:=(e.range hL d).1;omega
theorem ZU.same {L M:List Leg} {p q e x y:Int} (f:ZU L q e p x) (g:ZU M q e p y) (hs:∀l,l∈M↔l∈L):x=y:=
 f.uniq (g.congr fun u=>⟨fun ⟨a,b,j,v,c,d⟩=>⟨a,b,j,v,c,d.mono fun l h=>(hs l).1 h⟩,fun ⟨a,b,j,v,c,d⟩=>⟨a,b,j,v,c,d.mono fun l h=>(hs l).2 h⟩⟩)
def Yn (pos:Int->Nat) (bef aft:List Int) (l:Leg):List Int:=
 if bef.getD (pos l.dst) (-1)<0 then aft else
 match Tk l (bef.getD (pos l.dst) (-1)) with
 | some a=>aft.set (pos l.frm) (if aft.getD (pos l.frm) (-1)<a-l.cut then a-l.cut else aft.getD (pos l.frm) (-1))
 | none=>aft
def stepX (N:Nat) (pos:Int->Nat) (L:List Leg) (bef:List Int):List Int:=L.foldl (Yn pos bef) (List.replicate N (-1))
theorem Ns9 {pos:Int->Nat} {bef aft:List Int} {l:Leg}:Yn pos bef aft l=Nkn pos 0 bef aft l:=by
 unfold Yn Nkn
 split
 ·rfl
 cases ha:Tk l (bef.getD (pos l.dst) (-1)) with
 | none=>rfl
 | some a=>
   have:=(TL ha).1.ready
   by_cases h:aft.getD (pos l.frm) (-1)<a-l.cut
   ·simp only [h,this,and_self,if_true]
   ·simp only [h,and_false,if_false]
    apply List.ext_getElem?
    intro i
    rw [N7]
    split
    ·rename_i e;subst e
     split
     ·rename_i hl;rw [Na,Nf hl];rfl
     ·rename_i hl;rw [Nx (by omega)]
    ·rfl
def Naj (N:Nat) (pos:Int->Nat) (L:List Leg) (q a:Int):Nat->List Int
 | 0=>Z5 N (pos q) a
 | k+1=>stepX N pos L (Naj N pos L q a k)
theorem N68 {pos:Int->Nat} {bef:List Int}:∀{L:List Leg} {aft:List Int},L.foldl (Yn pos bef) aft=L.foldl (Nkn pos 0 bef) aft
 | [],_=>rfl
 | l::L,aft=>by rw [Ok,Ok,Ns9,N68]
theorem Nfl {N:Nat} {P:List Int} {L:List Leg} {pos:Int->Nat} {q c:Int} (hn:NetOk N P L pos) (n:q∈P) (hr:0<=c):∀(k:Nat) (p:Int),p∈P->
  TG (fun u=>0<=u/\∃v,v<=c/\Way L k p u q v) ((Naj N pos L q c k).getD (pos p) (-1))
 | 0,p,hp=>by
   rw [Naj,Nez (hn.lt q n)]
   by_cases h:pos q=pos p
   ·rw [Ni h]
    have:=hn.inj q n p hp h
    subst this
    exact .inr ⟨⟨hr,c,Oo _,.nil _ _⟩,fun u ⟨_,v,j,d⟩=>by have:=d.later hn.fine;omega⟩
   ·rw [Ng h]
    refine .inl ⟨rfl,fun u ⟨_,v,j,d⟩=>?_⟩
    cases d
    exact h rfl
 | k+1,p,hp=>by
   have ih:=Nfl hn n hr k
   rw [Naj,stepX,N68]
   have g:(List.replicate N (-1:Int)).getD (pos p) (-1)=-1:=by
    rw [Na,Pw];split<;>rfl
   refine (Nh5 (L:=L) (S:=fun _=>False) (fun l hl=>by rw [On];exact hn.lt _ (hn.frm l hl)) (fun _ h=>h.elim) (.inl ⟨g,fun _ h=>h⟩)).dom (fun u i=>?_) (fun u i=>?_)
   ·rcases i with i | ⟨l,hl,hd,hs,a,s,rfl,m⟩
    ·exact i.elim
    ·obtain ⟨_,v,j,d⟩:=(ih l.dst (hn.dst l hl)).mem hs
     obtain ⟨r,t,B⟩:=TL s
     have:=hn.inj _ (hn.frm l hl) p hp hd
     subst this
     have w:∃v',v'<=c/\Way L k l.dst (a+l.mins) q v':=by
      rcases d.early t with ⟨rfl,e1,e2⟩ | hw'
      ·rw [e1];exact ⟨a+l.mins,by omega,.nil _ _⟩
      ·exact ⟨v,j,hw'⟩
     obtain ⟨v',o,hw'⟩:=w
     exact ⟨r.ready,v',o,.cons hl rfl r (Oo _) hw'⟩
   ·obtain ⟨A,v,j,d⟩:=i
    obtain ⟨l,hl,a,x,hd,s,hw'⟩:=d.head
    subst x
    have e:=hn.fine l hl
    have z:=hd.ready
    have y:=(ih l.dst (hn.dst l hl)).ge (u:=a+l.mins) ⟨by unfold Fine at e;omega,v,j,hw'⟩
    have f:0<=(Naj N pos L q c k).getD (pos l.dst) (-1):=by unfold Fine at e;omega
    cases hnx:Tk l ((Naj N pos L q c k).getD (pos l.dst) (-1)) with
    | none=>have:=Ne8 hnx a hd;omega
    | some b=>
      obtain ⟨q1,q2,q3⟩:=TL hnx
      have:=q3 a hd (by omega)
      exact ⟨b-l.cut,by omega,.inr ⟨l,hl,rfl,f,b,hnx,rfl,by omega⟩⟩
def Sb (L:List Leg):Int->Int->List (Leg×Int)->Int->Int->Prop
 | p,t,[],q,u=>p=q/\t=u
 | p,t,(l,a)::w,q,u=>l∈L/\l.frm=p/\Dep l a/\t<=a-l.cut/\Sb L l.dst (a+l.mins) w q u
theorem Sb.way {L:List Leg}:∀{w:List (Leg×Int)} {p t q u:Int},Sb L p t w q u->Way L w.length p t q u
 | [],p,t,q,u,h=>by obtain ⟨rfl,rfl⟩:=h;exact .nil _ _
 | (l,a)::w,p,t,q,u,h=>by
   obtain ⟨h1,h2,b,c,d⟩:=h
   exact .cons h1 h2 b c d.way
theorem Way.isWay {L:List Leg}:∀{k:Nat} {p t q u:Int},Way L k p t q u->∃w,w.length=k/\Sb L p t w q u
 | 0,p,t,q,u,h=>by cases h;exact ⟨[],rfl,rfl,rfl⟩
 | k+1,p,t,q,u,h=>by
   obtain ⟨l,hl,a,d,hd,c,b⟩:=h.head
   obtain ⟨w,e,b⟩:=b.isWay
   exact ⟨(l,a)::w,by simp [e],hl,d,hd,c,b⟩
def TA (pos:Int->Nat) (late:List Int) (plant there:Int) (l:Leg):Option (Leg×Int):=
 if l.frm=plant then match Sm l there with
  | some a=>if a+l.mins<=late.getD (pos l.dst) (-1) then some (l,a) else none
  | none=>none
 else none
def Yh (pos:Int->Nat) (S:List Leg) (late:List Int) (plant there:Int):Option (Leg×Int):=S.findSome? (TA pos late plant there)
def goW (pos:Int->Nat) (S:List Leg) (late:Nat->List Int):Nat->Int->Int->List (Leg×Int)
 | 0,_,_=>[]
 | k+1,p,t=>match Yh pos S (late k) p t with
   | some (l,a)=>(l,a)::goW pos S late k l.dst (a+l.mins)
   | none=>goW pos S late k p t
def Nmi:List Int->List Int->Prop
 | x::a,y::b=>x<y\/x=y/\Nmi a b
 | _,_=>False
def Z7 (w:List (Leg×Int)):List Int:=w.map fun x=>x.1.id
theorem Y3 {pos:Int->Nat} {late:List Int} {p t:Int} {l:Leg} {r:Leg×Int} (h:TA pos late p t l=some r):l.frm=p/\r.1=l/\Sm l t=some r.2/\r.2+l.mins<=late.getD (pos l.dst) (-1):=by
 unfold TA at h
 split at h
 case isFalse=>cases h
 rename_i c
 split at h
 case h_2=>cases h
 rename_i a b
 split at h
 case isFalse=>cases h
 rename_i hl
 cases h
 exact ⟨c,rfl,b,hl⟩
theorem Nmy {N:Nat} {P:List Int} {L S:List Leg} {pos:Int->Nat} {q o:Int} {late:Nat->List Int} (hn:NetOk N P L pos) (V:q∈P) (hr:0<=o)
  (hS:∀l,l∈S↔l∈L) (hs:S.Pairwise fun a b=>a.id<b.id) (c:∀k,late k=Naj N pos L q o k):∀(k:Nat) (p t:Int),p∈P->0<=t->(∃v,v<=o/\Way L k p t q v)->
  (goW pos S late k p t).length=k/\(∃v,v<=o/\Sb L p t (goW pos S late k p t) q v)/\
   ∀w' j v',t<=j->Sb L p j w' q v'->v'<=o->w'.length=k->¬Nmi (Z7 w') (Z7 (goW pos S late k p t))
 | 0,p,t,hp,ht,⟨v,G,I⟩=>by
   cases I
   exact ⟨rfl,⟨_,G,rfl,rfl⟩,fun w' j v' _ _ _ hl=>by cases w' with | nil=>exact fun h=>h | cons=>simp at hl⟩
 | k+1,p,t,hp,ht,⟨v,G,I⟩=>by
   have can:∀l∈L,∀a j v:Int,l.frm=p->Dep l a->t<=j->j<=a-l.cut->Way L k l.dst (a+l.mins) q v->v<=o->∃b,TA pos (late k) p t l=some (l,b)/\b<=a:=by
    intro l hl a j v hf hd F ha I G
    have f:=hn.fine l hl
    have ad:=hd.ready
    have ac:=(Nfl hn V hr k l.dst (hn.dst l hl)).ge (u:=a+l.mins) ⟨by unfold Fine at f;omega,v,G,I⟩
    cases J:Sm l t with
    | none=>have:=Ne1 J a hd;omega
    | some b=>
      obtain ⟨q1,q2,q3⟩:=Sk J
      have:=q3 a hd (by omega)
      refine ⟨b, ?_,this⟩
      simp only [TA,hf,if_true,J,c]
      rw [Ni (by omega)]
   obtain ⟨l0,C,a0,Q,O,M,Y⟩:=I.head
   obtain ⟨b0,B,_⟩:=can l0 C a0 t v Q O (Oo _) M Y G
   have U:Yh pos S (late k) p t≠none:=by
    intro e
    unfold Yh at e
    rw [List.findSome?_eq_none_iff] at e
    rw [e l0 ((hS l0).2 C)] at B;cases B
   cases hp1:Yh pos S (late k) p t with
   | none=>exact absurd hp1 U
   | some r=>
     obtain ⟨l,a⟩:=r
     have E:=hp1
     unfold Yh at E
     obtain ⟨S1,x,S2,z,J,s⟩:=List.findSome?_eq_some_iff.1 E
     obtain ⟨g1,g2,g3,K⟩:=Y3 J
     simp only at g2 g3 K
     subst g2
     have g:l∈L:=(hS l).1 (by rw [z];simp)
     have f:=hn.fine l g
     obtain ⟨q1,q2,q3⟩:=Sk g3
     rw [c] at K
     have ae:=q1.ready
     obtain ⟨_,v1,W,Z⟩:=(Nfl hn V hr k l.dst (hn.dst l g)).mem (by unfold Fine at f;omega)
     have w:∃v,v<=o/\Way L k l.dst (a+l.mins) q v:=by
      rcases Z.early K with ⟨rfl,e1,e2⟩ | hw'
      ·rw [e1];exact ⟨a+l.mins,by omega,.nil _ _⟩
      ·exact ⟨v1,W,hw'⟩
     obtain ⟨i1,⟨v2,X,i2⟩,i3⟩:=Nmy hn V hr hS hs c k l.dst (a+l.mins) (hn.dst l g) (by unfold Fine at f;omega) w
     have R:goW pos S late (k+1) p t=(l,a)::goW pos S late k l.dst (a+l.mins):=by simp only [goW,hp1]
     rw [R]
     refine ⟨by simp [i1],⟨v2,X,g,g1,q1,q2,i2⟩,fun w' j v' F hw' H m=>?_⟩
     cases w' with
     | nil=>simp at m
     | cons y w'=>
       obtain ⟨i,a'⟩:=y
       obtain ⟨h1,h2,h3,h4,h5⟩:=hw'
       have d:w'.length=k:=by simpa using m
       obtain ⟨b',A,aa⟩:=can i h1 a' j v' h2 h3 F h4 (d▸h5.way) H
       intro n
       simp only [Z7,N2,Nmi] at n
       have hin:i∈S:=(hS i).2 h1
       rw [z] at hin hs
       rcases n with D | ⟨ab,D⟩
       ·
        rcases Od.1 hin with hin | hin
        ·rw [s i hin] at A;cases A
        ·rcases Nr.1 hin with rfl | hin
         ·omega
         ·have:=(List.pairwise_cons.1 (Qj.1 hs).2.1).1 i hin;omega
       ·have T:i=l:=by
         rcases Od.1 hin with hin | hin
         ·have:=(Qj.1 hs).2.2 i hin l (by simp);omega
         ·rcases Nr.1 hin with h | hin
          ·exact h
          ·have:=(List.pairwise_cons.1 (Qj.1 hs).2.1).1 i hin;omega
        subst T
        have:=q3 a' h3 (by omega)
        exact i3 w' (a'+i.mins) v' (by omega) h5 H d D
theorem Sb.later {L:List Leg} {w:List (Leg×Int)} {p t q u:Int} (h:Sb L p t w q u) (hL:∀l∈L,Fine l):t<=u:=h.way.later hL
theorem Sb.from {L:List Leg} (hL:∀l∈L,Fine l):∀{w:List (Leg×Int)} {p t q u m:Int},Sb L p t w q u->m∈w.map (fun x=>x.1.dst)->∃k s,k<w.length/\t<=s/\Way L k m s q u
 | [],_,_,_,_,_,_,h=>by simp at h
 | (l,a)::w,p,t,q,u,m,h,hm=>by
   obtain ⟨h1,h2,g,i,c⟩:=h
   have b:=hL l h1
   unfold Fine at b
   rw [N2,Nr] at hm
   rcases hm with rfl | hm
   ·exact ⟨w.length,a+l.mins,by simp,by omega,c.way⟩
   ·obtain ⟨k,s,e,f,d⟩:=Sb.from hL c hm
    exact ⟨k,s,by simp;omega,by omega,d⟩
theorem Sb.nodup {L:List Leg} (hL:∀l∈L,Fine l):∀{w:List (Leg×Int)} {p t q v:Int},Sb L p t w q v->(∀j v',Way L j p t q v'->v'<=v->w.length<=j)->(p::w.map (fun x=>x.1.dst)).Nodup
 | [],_,_,_,_,_,_=>by simp
 | (l,a)::w,p,t,q,v,h,hmin=>by
   rw [List.nodup_cons]
   constructor
   ·intro i
    obtain ⟨k,s,n,b,c⟩:=Sb.from hL h i
    rcases c.early b with ⟨rfl,rfl,e⟩ | hw
    ·have:=hmin 0 t (.nil _ _) (by omega);simp at this
    ·have:=hmin k v hw (Oo _);omega
   ·obtain ⟨h1,h2,d,f,g⟩:=h
    rw [N2]
    exact g.nodup hL fun j v' hw m=>by
     have:=hmin (j+1) v' (.cons h1 h2 d f hw) m
     simpa using this
theorem Sb.uniq {L:List Leg}:∀{w:List (Leg×Int)} {p t q u b c:Int},Sb L p t w q u->Sb L p t w b c->q=b/\u=c
 | [],_,_,_,_,_,_,h,h'=>⟨h.1.symm.trans h'.1,h.2.symm.trans h'.2⟩
 | (l,a)::w,_,_,_,_,_,_,h,h'=>h.2.2.2.2.uniq h'.2.2.2.2
end Go.Net


namespace Go.Scan
def Obn (a b:Ev):Prop:=Tn (Uz a) (Uz b)<0
instance (a b:Ev):Decidable (Obn a b):=by unfold Obn;infer_instance
def bare (e:Ev):Ev:={ e with time:=0 }
theorem Nru {M:List Mk} {s:Ev} (h:Sz s):0<=Xc M s/\Xc M s<=s.seen:=by
 unfold Sz at h;unfold Xc;omega
theorem Nct (M:List Mk) (S:List Ev):((SK M S).map bare).Perm (S.map bare):=by
 have h:=(TK Uz (S.map fun s=>{ s with time:=Xc M s })).map bare
 rw [List.map_map] at h
 exact h
theorem Nhe (S:List Ev):(((OJ S).1++(OJ S).2).map bare).Perm (S.map bare):=by
 unfold OJ
 have h:=Yx (SK (RI S) S) [] []
 rw [Nb,Ov] at h
 exact (h.map bare).trans (Nct _ S)
theorem MJ (S:List Ev):(OJ S).1.length+(OJ S).2.length=S.length:=by
 have:=(Nhe S).length_eq
 simpa using this
theorem MI (S:List Ev):(OJ S).1.Sublist (SK (RI S) S)/\(OJ S).2.Sublist (SK (RI S) S):=by
 obtain ⟨K,T,h1,h2,a⟩:=Mf (SK (RI S) S) [] []
 unfold OJ
 rw [h1]
 exact ⟨by simpa using h2,by simpa using a⟩
theorem Nk2 (S:List Ev):M6 (OJ S).1/\M6 (OJ S).2:=by
 have h:=Y5 (ZJ (RI S) S)
 exact ⟨h.sublist (MI S).1,h.sublist (MI S).2⟩
theorem Yw {S:List Ev} {x:Ev} (h:x∈(OJ S).1\/x∈(OJ S).2):∃s∈S,{ s with time:=Xc (RI S) s }=x:=by
 rcases h with h | h
 ·exact Mt.mp ((MI S).1.mem h)
 ·exact Mt.mp ((MI S).2.mem h)
theorem Na8 {S:List Ev} (hS:∀s∈S,Sz s) {x:Ev} (h:x∈(OJ S).1\/x∈(OJ S).2):0<=x.time/\x.time<=x.seen:=by
 obtain ⟨s,hs,rfl⟩:=Yw h
 exact Nru (hS s hs)
theorem Me (S:List Ev):((OJ S).1.Pairwise fun x y=>RF y=RF x->y.time-x.time > 10)/\∀x∈(OJ S).2,∃y∈(OJ S).1,RF x=RF y/\x.time>=y.time/\x.time-y.time<=10:=by
 obtain ⟨h1,h2⟩:=Na9 (SK (RI S) S) [] [] List.Pairwise.nil (fun e _ x a=>(Oe a).elim) (Y5 (ZJ _ S)) (fun x a=>(Oe a).elim)
 unfold OJ
 refine ⟨?_,h2⟩
 unfold ApartL at h1
 rw [List.pairwise_reverse] at h1
 exact h1
theorem Nqm (M:List Mk) (S:List Ev):(SK M S).length=S.length:=by
 have:=(Nct M S).length_eq
 simpa using this
end Go.Scan


namespace Go.Net
def ZQ:Int->List (Leg×Int)->Prop
 | _,[]=>True
 | t,(l,a)::w=>Sm l t=some a/\ZQ (a+l.mins) w
structure BestW (L:List Leg) (p ready q v:Int) (w:List (Leg×Int)):Prop where
 way:Sb L p ready w q v
 few:∀j v',Way L j p ready q v'->v'<=v->w.length<=j
 least:∀w' v',Sb L p ready w' q v'->v'<=v->w'.length=w.length->¬Nmi (Z7 w') (Z7 w)
 next:ZQ ready w
theorem Nbu {pos:Int->Nat} {S:List Leg} {late:Nat->List Int}:∀(k:Nat) (p t:Int),ZQ t (goW pos S late k p t)
 | 0,_,_=>trivial
 | k+1,p,t=>by
   simp only [goW]
   cases hp:Yh pos S (late k) p t with
   | none=>exact Nbu k p t
   | some r=>
     obtain ⟨l,a⟩:=r
     unfold Yh at hp
     obtain ⟨g,x,h,e,f,b⟩:=List.findSome?_eq_some_iff.1 hp
     obtain ⟨i,c,d,j⟩:=Y3 f
     simp only at c d
     subst c
     exact ⟨d,Nbu k l.dst (a+l.mins)⟩
theorem Nm5 {f:Nat->Int} {v:Int}:∀{n:Nat},f n=v->∃k,k<=n/\f k=v/\∀j,j<k->f j≠v
 | 0,h=>⟨0,Nd _,h,fun j hj=>by omega⟩
 | n+1,h=>by
   by_cases h1:∃m,m<=n/\f m=v
   ·obtain ⟨m,a,h2⟩:=h1
    obtain ⟨k,k1,k2,k3⟩:=Nm5 (n:=m) h2
    exact ⟨k,by omega,k2,k3⟩
   ·exact ⟨n+1,Nd _,h,fun j hj e=>h1 ⟨j,by omega,e⟩⟩
termination_by n=>n
theorem Ne5:∀{a b:List Int},a.length=b.length->¬Nmi a b->¬Nmi b a->a=b
 | [],[],_,_,_=>rfl
 | [],_::_,h,_,_=>by simp at h
 | _::_,[],h,_,_=>by simp at h
 | x::a,y::b,h,h1,h2=>by
   simp only [Nmi,not_or,not_and] at h1 h2
   have e:x=y:=by omega
   subst e
   rw [Ne5 (by simpa using h) (h1.2 rfl) (h2.2 rfl)]
theorem Nk5 {L:List Leg} (c:∀a∈L,∀b∈L,a.id=b.id->a=b):∀{w w':List (Leg×Int)} {p q u f t d g i:Int},Sb L p t w q u->Sb L f d w' g i->t=d->ZQ t w->ZQ d w'->Z7 w=Z7 w'->w=w'
 | [],[],_,_,_,_,_,_,_,_,_,_,_,_,_,_=>rfl
 | [],_::_,_,_,_,_,_,_,_,_,_,_,_,_,_,h=>by simp [Z7] at h
 | _::_,[],_,_,_,_,_,_,_,_,_,_,_,_,_,h=>by simp [Z7] at h
 | (l,a)::w,(l',a')::w',p,q,u,f,t,d,g,i,h,h',e,n,n',hi=>by
   subst e
   simp only [Z7,N2,List.cons.injEq] at hi
   have:=c l h.1 l' h'.1 hi.1
   subst this
   have j:=n.1.symm.trans n'.1
   cases j
   rw [Nk5 c h.2.2.2.2 h'.2.2.2.2 rfl n.2 n'.2 hi.2]
theorem BestW.uniq {L M:List Leg} {p t q v:Int} {w w':List (Leg×Int)} (hs:∀l,l∈M↔l∈L) (f:∀a∈L,∀b∈L,a.id=b.id->a=b) (h:BestW L p t q v w) (h':BestW M p t q v w'):w=w':=by
 have mono:∀{A B:List Leg},(∀l∈A,l∈B)->∀{w:List (Leg×Int)} {p t q u:Int},Sb A p t w q u->Sb B p t w q u:=by
  intro A B d w
  induction w with
  | nil=>intro p t q u h;exact h
  | cons x w ih=>intro p t q u h;exact ⟨d _ h.1,h.2.1,h.2.2.1,h.2.2.2.1,ih h.2.2.2.2⟩
 have c:Sb L p t w' q v:=mono (fun l hl=>(hs l).1 hl) h'.way
 have g:Sb M p t w q v:=mono (fun l hl=>(hs l).2 hl) h.way
 have i:=h.few _ _ c.way (Oo _)
 have j:=h'.few _ _ g.way (Oo _)
 have hl:w.length=w'.length:=by omega
 have e:Z7 w=Z7 w':=Ne5 (by simp [Z7,hl]) (h'.least _ _ g (Oo _) hl) (h.least _ _ c (Oo _) hl.symm)
 exact Nk5 f h.way c rfl h.next h'.next e
theorem N1d {N:Nat} {P:List Int} {L S:List Leg} {pos:Int->Nat} {p q ready v:Int} {late:Nat->List Int} {k:Nat} (hn:NetOk N P L pos) (hp:p∈P) (r:q∈P) (hr:0<=ready) (g:0<=v)
  (hS:∀l,l∈S↔l∈L) (hs:S.Pairwise fun a b=>a.id<b.id) (f:∀k,late k=Naj N pos L q v k) (s:Ub L p ready q v)
  (hk:(Sd N pos (ready+86400) L p ready k).getD (pos q) (-1)=v) (o:∀j,j<k->(Sd N pos (ready+86400) L p ready j).getD (pos q) (-1)≠v) :
  BestW L p ready q v (goW pos S late k p ready)/\(goW pos S late k p ready).length=k:=by
 obtain ⟨_,B⟩:=s.mem g
 have few:∀j v',Way L j p ready q v'->v'<=v->k<=j:=by
  intro j v' d c
  apply Oj;intro hc
  have h:=Xy hn hp hr (by omega:ready<=ready+86400) j q r
  have h1:=h.le (u:=v') ⟨⟨j,Nd _,d⟩,by omega⟩
  have h2:0<=(Sd N pos (ready+86400) L p ready j).getD (pos q) (-1):=by
   apply Oj;intro A
   exact h.none (fun u ⟨⟨i,_,d⟩,_⟩=>by have:=d.later hn.fine;omega) (by omega) v' ⟨⟨j,Nd _,d⟩,by omega⟩
  obtain ⟨⟨i,hi,w⟩,n⟩:=h.mem h2
  have D:=s.le (u:=(Sd N pos (ready+86400) L p ready j).getD (pos q) (-1)) ⟨⟨i,w⟩,n⟩
  exact o j (by omega) (by omega)
 have h:=Xy hn hp hr (by omega:ready<=ready+86400) k q r
 rw [hk] at h
 obtain ⟨⟨i,hi,d⟩,_⟩:=h.mem g
 have m:i=k:=by have:=few i v d (Oo _);omega
 subst m
 obtain ⟨x,⟨v',C,y⟩,z⟩:=Nmy hn r g hS hs f i p ready hp hr ⟨v,Oo _,d⟩
 have e:v'=v:=by
  have:=s.le (u:=v') ⟨⟨_,y.way⟩,by omega⟩
  omega
 subst e
 exact ⟨⟨y,fun j v' d c=>by rw [x];exact few j v' d c,fun w' v' t c hl=>z w' ready v' (Oo _) t c (by omega),Nbu _ _ _⟩,x⟩
theorem Sb.sub {L M:List Leg}:∀{w:List (Leg×Int)} {p t q u:Int},Sb L p t w q u->(∀x∈w,x.1∈M)->Sb M p t w q u
 | [],_,_,_,_,h,_=>h
 | (l,a)::w,_,_,_,_,h,hm=>⟨hm (l,a) (Nm ..),h.2.1,h.2.2.1,h.2.2.2.1,h.2.2.2.2.sub fun x b=>hm x (Nk _ b)⟩
theorem Sb.mem {L:List Leg}:∀{w:List (Leg×Int)} {p t q u:Int},Sb L p t w q u->∀x∈w,x.1∈L
 | (l,a)::w,_,_,_,_,h,x,hx=>by
   rcases Nr.1 hx with rfl | hx
   ·exact h.1
   ·exact h.2.2.2.2.mem x hx
theorem Ub.nonneg {L:List Leg} {p t q u v:Int} {j:Nat} (h:Ub L p t q v) (hL:∀l∈L,Fine l) (ht:0<=t) (a:Way L j p t q u) (b:u<=t+86400):0<=v:=by
 apply Oj;intro hc
 exact h.none (fun u ⟨⟨j,a⟩,_⟩=>by have:=a.later hL;omega) (by omega) u ⟨⟨j,a⟩,b⟩
end Go.Net


