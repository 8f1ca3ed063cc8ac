/-
  Joined texts, 7 of 10. A part of the claim that the last text states.
-/
import Derived.Test.YtkppjkkkdpcgiaaGreatPU6
set_option linter.unusedVariables false
set_option linter.unusedSimpArgs false
set_option linter.defProp false
set_option linter.unusedSectionVars false
set_option maxRecDepth 100000
set_option maxHeartbeats 4000000
namespace Go.Proofs.YtkppjkkkdpcgiaaGreat.Fn
open Go.AM Go.AM.Sym Go.Net Go.Scan
def Bnd (n j:Nat) (x:Zx):Prop:=0<=x.1/\x.1<=110*((n:Int)-1-j)/\0<=x.2.1/\x.2.1<=(n:Int)-j/\-1<=x.2.2/\x.2.2<n
theorem Nsu {n j:Nat} {x y:Zx} (hx:Bnd n j x) (a:Bnd n j y):Bnd n j (Vl x y):=by
 unfold Vl
 split
 ·exact hx
 ·exact a
theorem Ngt {P:List Int} {L:List Leg} {es:List Ev} {T:List Zx} {i:Nat} (hT:∀j,j<es.length->Bnd es.length j (gt T j)) (hi:i<es.length):∀m,m<=es.length-1-i->Bnd es.length i (Ry P L es T i m)
 | 0,_=>by
   unfold Ry Bnd
   refine ⟨?_, ?_, ?_, ?_, ?_, ?_⟩<;>simp only<;>omega
 | m+1,hm=>by
   rw [Ry]
   refine Nsu (Ngt hT hi m (by omega)) ?_
   have h1:=hT (es.length-1-m) (by omega)
   have h2:=Vv (P:=P) (L:=L) (a:=gt es i) (b:=gt es (es.length-1-m))
   unfold Y4 Bnd at *
   refine ⟨?_, ?_, ?_, ?_, ?_, ?_⟩<;>simp only<;>omega
theorem Ni1 {α:Type} [Inhabited α] {l:List α} {i j:Nat} {x:α} (hi:i<l.length):gt (l.set i x) j=if i=j then x else gt l j:=by
 unfold gt
 rw [Na,N1,Na]
 split
 ·simp []
 ·rfl
theorem Xf {P:List Int} {L:List Leg} {es:List Ev}:∀k,k<=es.length->∀j,j<es.length->Bnd es.length j (gt (OH P L es k) j)
 | 0,_,j,hj=>by
   rw [OH,PU (by simpa using hj),List.getElem_replicate]
   unfold Bnd
   refine ⟨?_, ?_, ?_, ?_, ?_, ?_⟩<;>simp only<;>omega
 | k+1,hk,j,hj=>by
   rw [OH,Ni1 (by rw [TK];omega)]
   split
   ·rename_i e
    subst e
    exact Ngt (Xf k (by omega)) hj k (by omega)
   ·exact Xf k (by omega) j hj
theorem Nvd {n:Nat} {T:List Zx} (hn:n<=40) (hT:T.length=n) (h:∀j,j<n->Bnd n j (gt T j)):N1d T:=fun j=>by
 by_cases a:j<n
 ·have:=h j a
  unfold Bnd at this
  omega
 ·have e:gt T j=(0,0,0):=by unfold gt;rw [Na,Nu (by omega)];rfl
  rw [e]
  refine ⟨?_, ?_, ?_, ?_⟩<;>simp only<;>omega
def XK (n j:Nat) (x:Zx):Prop:=x.2.2=-1\/((j:Int)<x.2.2/\x.2.2<n)
theorem Ndq {P:List Int} {L:List Leg} {es:List Ev} {T:List Zx} {i:Nat}:∀m,m<=es.length-1-i->XK es.length i (Ry P L es T i m)
 | 0,_=>.inl rfl
 | m+1,hm=>by
   rw [Ry,Vl]
   split
   ·exact Ndq m (by omega)
   ·refine .inr ⟨?_, ?_⟩<;>simp only [Y4]<;>omega
theorem TY {P:List Int} {L:List Leg} {es:List Ev}:∀k,k<=es.length->∀j,es.length-k<=j->j<es.length->XK es.length j (gt (OH P L es k) j)
 | 0,_,j,h1,h2=>by omega
 | k+1,hk,j,h1,hj=>by
   rw [OH,Ni1 (by rw [TK];omega)]
   split
   ·rename_i e
    subst e
    exact Ndq k (by omega)
   ·exact TY k (by omega) j (by omega) hj
def Nan (T:List Zx) (i:Nat):Zx:=(30*(i:Int)+(gt T i).1,(gt T i).2.1,(i:Int))
def Ul (n:Nat) (T:List Zx):Nat->Zx
 | 0=>(0,0,-1)
 | m+1=>if (Ul n T m).2.2<0 then Nan T (n-1-m) else Vl (Ul n T m) (Nan T (n-1-m))
def PY (T:List Zx):Nat->Int->List Int
 | 0,_=>[]
 | f+1,x=>if x<0 then [] else x::PY T f (gt T x.toNat).2.2
def QV (P:List Int) (L:List Leg) (es:List Ev):List Int:=PY (OH P L es es.length) es.length (Ul es.length (OH P L es es.length) es.length).2.2
theorem Nam {n:Nat} {T:List Zx}:∀m,m<=n->(Ul n T m).2.2<n/\-1<=(Ul n T m).2.2
 | 0,_=>⟨by show (-1:Int)<n;omega,Oj _⟩
 | m+1,hm=>by
   have h1:(Nan T (n-1-m)).2.2<n/\-1<=(Nan T (n-1-m)).2.2:=by
    unfold Nan
    constructor<;>simp only<;>omega
   have h2:=Nam (n:=n) (T:=T) m (by omega)
   rw [Ul]
   unfold Vl
   split
   ·exact h1
   ·split
    ·exact h2
    ·exact h1
theorem Ne5 {n:Nat} {T:List Zx} (hT:∀j,j<n->XK n j (gt T j)):∀(f:Nat) (x:Int),x<n->∀k∈PY T f x,0<=k/\k<n
 | 0,_,_,k,hk=>by cases hk
 | f+1,x,hx,k,hk=>by
   rw [PY] at hk
   split at hk
   ·cases hk
   ·rename_i h0
    rcases Nn.1 hk with rfl | hk
    ·exact ⟨by omega,hx⟩
    ·refine Ne5 hT f _ ?_ k hk
     rcases hT x.toNat (by omega) with e | e
     ·rw [e];omega
     ·exact e.2
theorem X9 {T:List Zx}:∀(f:Nat) (x:Int),(PY T f x).length<=f
 | 0,_=>Nd _
 | f+1,x=>by
   rw [PY]
   split
   ·exact Nv _
   ·rw [Nk];have:=X9 (T:=T) f (gt T x.toNat).2.2;omega
theorem Nvf {P:List Int} {L:List Leg} {es:List Ev}:∀k∈QV P L es,0<=k/\k<es.length:=
 Ne5 (fun j a=>TY _ (Nd _) j (by omega) a) _ _ (Nam _ (Nd _)).1
theorem Nv3 (n:Nat):(List.range (n*3)).map (fun j=>[Value.int .i64 0,Value.int .i64 0,Value.int .i64 0].getD (j % 3) undef)=(List.replicate n ((0,0,0):Zx)).flatMap enc3:=by
 have h1:∀j,[Value.int .i64 0,Value.int .i64 0,Value.int .i64 0].getD (j % 3) undef=Value.int .i64 0:=fun j=>by
  have:j % 3=0\/j % 3=1\/j % 3=2:=by omega
  rcases this with e | e | e<;>rw [e]<;>rfl
 simp only [h1]
 rw [List.map_const',Ps]
 induction n with
 | zero=>rfl
 | succ n ih=>
   rw [Pk,Om,<-ih,Pq]
   rfl
theorem tsl {T:List Zx} {n:Nat} (h:T.length=n) (p:Option Addr) (c:Nat):Value.slice p n c=Value.slice p T.length c:=by rw [h]
theorem N49 [OA] {lim R M B BT n:Nat} {S:List Nat} {pp pl pe:Option Addr} {P:List Int} {L:List Leg} {cp cl ce ct:Nat} {T:List Zx} {G:NA} {fr:Nat->Value} {K:List AItem} {Z:Value->NA->Prop} (r:lim<=B) (aa:n<=40) (hT:T.length=n) (U:∀j,j<n->Bnd n j (gt T j))
  (hP:PI lim R M S G pp pl cp cl P L) (hS:B∈S) (W:BT≠B) (J:NC G BT=Vc (T.flatMap enc3)) (hB:NC G B=Vc (enc3 (Ul n T 0)))
  (f1:fr 1=.slice pe n ce) (f5:fr 5=.slice (Sa BT) T.length ct) (f6:fr 6=.func (.func 108) #[] #[]) (f12:fr 12=Vp B) (f13:fr 13=Vi ((n:Int)-1))
  (hR:∀fr' G',Chg [B] G G'->PI lim R M S G' pp pl cp cl P L->NC G' B=Vc (enc3 (Ul n T n))->(∀j,j<=12->fr' j=fr j)->QC E a72 lim K fr' G' Z) :
  QC E a72 lim (.code (.loop Nye)::.inBlock 4::K) fr G Z:=by
 refine NZ (fun m=>n-m) (fun m fr' G'=>m<=n/\Chg [B] G G'/\PI lim R M S G' pp pl cp cl P L/\NC G' B=Vc (enc3 (Ul n T m))/\(∀j,j<=12->fr' j=fr j)/\fr' 13=Vi ((n:Int)-1-m)) 0
  ⟨Nv _,Chg.refl,hP,hB,fun j _=>rfl,by rw [f13];simp⟩ ?_
 intro m fr' G' ⟨hm,hC,p,l,o,g⟩ O
 rw [OD Nye.eq_1]
 have I:=(o 5 (by decide)).trans f5
 have g6:=(o 6 (by decide)).trans f6
 have s:=(o 12 (by decide)).trans f12
 refine NL ?_
 by_cases ab:m<n
 case neg=>
  obtain rfl:m=n:=by omega
  have H:(m:Int)-1-(m:Int)=-1:=by omega
  rw [H] at g
  simp only [n72,g,SB,seval,NJ,NK]
  exact hR _ _ hC.app (p.app _) ((OM.refl.app).cells l) fun j u=>by
   rw [<-o j u]
   simp only [upd]
   repeat rw [Ng (by omega)]
 generalize hi:n-1-m=i
 have H:(n:Int)-1-(m:Int)=(i:Int):=by omega
 rw [H] at g
 have V:i<n:=by omega
 have t:i<T.length:=by omega
 have v:Sl G' enc3 3 (Sa BT) T:=Sl.row (ro:=false) PD (hC.cells J (by simp;exact W))
 have A:=fun X=>(v.app X).loadCell PD t (j:=0) (by decide)
 have C:=fun X=>(v.app X).loadCell PD t (j:=1) (by decide)
 simp only [enc3,Od,P1] at A C
 have xj:=fun c (k:IntKind) (H1:NA)=>v.idx (c:=c) (k:=k) (H1:=H1) t
 have w:=U i V
 unfold Bnd at w
 have Y:IntKind.i64.wrap (30*(i:Int))=30*(i:Int):=NN (by omega) (by omega)
 have w2:IntKind.i64.wrap (30*(i:Int)+(gt T i).1)=30*(i:Int)+(gt T i).1:=NN (by omega) (by omega)
 have w3:IntKind.i64.wrap ((i:Int)-1)=(n:Int)-1-((m+1:Nat):Int):=by rw [NN (by omega) (by omega)];omega
 have i0:=N3 (show (0:Int)<=(i:Int) by omega)
 have e:lim<=G'.length:=by have:=hC.len;have:=NG hB;omega
 have N:=NG l
 have q:Ul n T (m+1)=if (Ul n T m).2.2<0 then Nan T i else Vl (Ul n T m) (Nan T i):=by rw [Ul,hi]
 generalize hx:Ul n T m=x at q
 rw [hx] at l
 have z:=l
 simp only [enc3] at z
 have F:=fun X=>(OM.refl.app (X:=X)).cells z
 have b:∀(X:NA) (mp:Bool) (lim:Nat) (Q:Value->NA->Prop),NP E mp lim 108 [.agg #[Vi x.1,Vi x.2.1,Vi x.2.2],.agg #[Vi (30*(i:Int)+(gt T i).1),Vi (gt T i).2.1,Vi i]] X Q=Q (.bool (Ym x (Nan T i))) X:=fun X mp lim Q=>Nrf (x:=x) (y:=Nan T i)
 obtain ⟨G3,e3,h3,D⟩:=OP N (Vc [Vi (30*(i:Int)+(gt T i).1),Vi (gt T i).2.1,Vi i])
 have a:∀(f:Nat->Value),(∀j,j<=12->f j=fr' j)->∀j,j<=12->f j=fr j:=fun f h j u=>(h j u).trans (o j u)
 by_cases d:x.2.2<0
 ·rw [Nh d] at q
  simp only [n72,I,s,g,A,C,xj,Y,w2,w3,i0,e,F,N3 d,r,e3,SB,seval,NJ,NK,place,NB]
  exact O (m+1) _ _ ⟨by omega,(hC.mut D (.inl (by simp))).app,(p.chg (Chg.refl.mut D (.inl hS))).app _,by rw [q];exact (OM.refl.app).cells h3,a _ (fun j u=>by
   simp only [upd]
   repeat rw [Ng (by omega)]),by rfl⟩ (by omega)
 rw [Ng d] at q
 cases w:Ym x (Nan T i) with
 | true=>
   rw [w] at b
   rw [Vl,Nh w] at q
   simp only [n72,I,g6,s,g,A,C,xj,Y,w2,w3,i0,e,F,Np d,b,SB,seval,NF,NJ,NK,QY,place,NB]
   exact O (m+1) _ _ ⟨by omega,hC.app,p.app _,by rw [q];exact (OM.refl.app).cells l,a _ (fun j u=>by
    simp only [upd]
    repeat rw [Ng (by omega)]),by rfl⟩ (by omega)
 | false=>
   rw [w] at b
   rw [Vl,Ng (by rw [w];decide)] at q
   simp only [n72,I,g6,s,g,A,C,xj,Y,w2,w3,i0,e,F,Np d,r,b,e3,SB,seval,NF,NJ,NK,QY,place,NB]
   exact O (m+1) _ _ ⟨by omega,(hC.mut D (.inl (by simp))).app,(p.chg (Chg.refl.mut D (.inl hS))).app _,by rw [q];exact (OM.refl.app).cells h3,a _ (fun j u=>by
    simp only [upd]
    repeat rw [Ng (by omega)]),by rfl⟩ (by omega)
theorem N3w [OA] {lim R M:Nat} {pp pl pe:Option Addr} {P:List Int} {L:List Leg} {cp cl ce:Nat} {es:List Ev} {H:NA} {Q:Value->NA->Prop} (h:PI lim R M [] H pp pl cp cl P L) (ab:lim<=H.length)
  (hs:Sl H encE 7 pe es) (K:es.length<=40) (ht:∀i,i<es.length->0<=(gt es i).time/\(gt es i).time<=NT)
  (hQ:∀G q cq,Chg [M] H G->PI lim R M [] G pp pl cp cl P L->Own H.length G encI 1 q cq (QV P L es)->Q (.slice q (QV P L es).length cq) G) :
  NP E false lim 72 [Vp R,.slice pe es.length ce] H Q:=by
 refine Rm (by decide) e72 rfl ?_
 rw [b72,c72]
 have w1:IntKind.i64.wrap ((es.length:Int)-1)=(es.length:Int)-1:=NN (by omega) (by omega)
 have z3:=Nv3 es.length
 have aw:=h.alive
 have an:=N3 (show 0<=(es.length:Int)/\(es.length:Int)*24<=2 ^ 45/\(es.length:Int)<2 ^ 62 by omega)
 simp only [n72,w1,an,z3,SB,Nat.reduceLT,NJ,Nat.reduceEqDiff,NK,NE,place,Nat.reduceAdd]
 refine NZ (fun k=>es.length-k) (fun k fr G=>k<=es.length/\fr 0=Vp R/\fr 1=.slice pe es.length ce/\fr 5=.slice (Sa H.length) es.length es.length/\fr 6=.func (.func 108) #[] #[]/\fr 7=Vi ((es.length:Int)-1-k)/\Chg [M] H G/\PI lim R M [H.length] G pp pl cp cl P L/\NC G H.length=Vc ((OH P L es k).flatMap enc3)) 0
  ⟨Nv _,rfl,rfl,rfl,rfl,by rw [show ((es.length:Int)-1-((0:Nat):Int))=(es.length:Int)-1 by omega];rfl,Chg.refl.app,h.grow _ (Nd _) (by simp),by rw [NQ];rfl⟩ ?_
 ·intro k fr G ⟨hk,g0,W,C,g6,V,hC,w,hT⟩ hN
  rw [OD N4o.eq_1]
  refine NL ?_
  by_cases ax:k<es.length
  case neg=>
   obtain rfl:k=es.length:=by omega
   have e7:(es.length:Int)-1-(es.length:Int)=-1:=by omega
   rw [e7] at V
   have d:lim<=G.length:=by have:=hC.len;omega
   simp only [n72,W,V,w1,d,SB,seval,NJ,NK,place,NB]
   have o:=TK (P:=P) (L:=L) (es:=es) es.length
   have aj:=Xf (P:=P) (L:=L) (es:=es) es.length (Nd _)
   have ah:=NG hT
   rw [tsl o] at C
   refine N49 (B:=G.length) (BT:=H.length) (n:=es.length) (T:=OH P L es es.length) (R:=R) (M:=M) (S:=[G.length,H.length]) (P:=P) (L:=L) (pp:=pp) (pl:=pl) (cp:=cp) (cl:=cl) (pe:=pe) (ce:=ce) (ct:=es.length) d K o (fun j D=>aj j D) (w.grow _ (Nd _) (by simp)) (by simp) (by omega) ((OM.refl.app).cells hT) (by rw [NQ];rfl) W C g6 rfl rfl fun fr' G1 u z y t=>?_
   have q5:fr' 5=.slice (Sa H.length) (OH P L es es.length).length es.length:=(t 5 (by decide)).trans C
   have au:fr' 12=Vp G.length:=(t 12 (by decide)).trans rfl
   have O:=u.len
   simp at O
   have F:=u.cells ((OM.refl.app).cells hT) (by simp;omega)
   simp only [enc3] at y
   have XB:=fun X=>(OM.refl.app (X:=X)).cells y
   have ar:=Nam (n:=es.length) (T:=OH P L es es.length) es.length (Nd _)
   have ag:Chg [M] H G1:=(hC.app (X:=[Vc [Vi 0,Vi 0,Vi (-1)]])).trans' u fun j D ak=>by simp at D;omega
   refine NL ?_
   simp only [n72,au,XB,SB,seval,NJ]
   refine NZ (fun s:Nat×Int×List Int×Option Addr×Nat=>s.1) (fun s fr G=>fr 5=.slice (Sa H.length) (OH P L es es.length).length es.length/\fr 16=Vi s.2.1/\fr 15=.slice s.2.2.2.1 s.2.2.1.length s.2.2.2.2/\Chg [M] H G/\PI lim R M (opB s.2.2.2.1++[H.length]) G pp pl cp cl P L/\NC G H.length=Vc ((OH P L es es.length).flatMap enc3)/\Own (H.length+1) G encI 1 s.2.2.2.1 s.2.2.2.2 s.2.2.1/\
     s.2.2.1++PY (OH P L es es.length) s.1 s.2.1=QV P L es/\s.2.1<es.length/\(s.2.1<0\/(es.length:Int)-s.2.1<=s.1)/\s.2.2.1.length+s.1=es.length) (es.length,(Ul es.length (OH P L es es.length) es.length).2.2,[],none,0)
    ⟨q5,rfl,by rfl,ag.app,(z.sub (fun q v=>by simp [opB] at v;simp [v])).app _,(OM.refl.app).cells F,.nil,rfl,ar.1,by simp only;omega,by simp⟩ ?_
   rintro ⟨f,x,l,pw,cw⟩ fr G ⟨C,J,I,hC,w,hT,hO,A,hx,hf,am⟩ hN
   simp only at C J I w hO A hx hf am
   rw [OD N4p.eq_1]
   refine NL ?_
   by_cases U:0<=x
   case neg=>
    have e:PY (OH P L es es.length) f x=[]:=by
     cases f with
     | zero=>rfl
     | succ f=>rw [PY,Nh (by omega)]
    rw [e,Nc] at A
    subst A
    simp only [n72,r72,J,I,Np U,SB,seval,NJ,NK,ND]
    exact hQ _ _ _ hC.app ((w.sub (fun q v=>by cases v)).app _) ((hO.le (by omega)).app _)
   obtain ⟨j,rfl⟩:=Int.eq_ofNat_of_zero_le U
   obtain ⟨f,rfl⟩:∃g,f=g+1:=⟨f-1,by omega⟩
   rw [PY,Ng (by omega),N7] at A
   have Z:j<(OH P L es es.length).length:=by omega
   have ao:=TY (P:=P) (L:=L) (es:=es) es.length (Nd _) j (by omega) (by omega)
   have av:=NG hT
   obtain ⟨G4,e4,O4,C4,aa⟩:=Own.moreF hO (lim':=lim) (bytes:=8) (by omega) PQ (by decide) [(j:Int)] (by simp) (by simp;unfold PM;omega) (by simp;omega) [Vc [Vi j]] (x:=.slice (Sa G.length) 1 1) (str:=false)
    (Ue (m:=[(j:Int)]) (Sl.row (ro:=false) PQ (by rw [NQ];rfl))) rfl
   have ac:∀j,j∈opB pw->H.length+1<=j/\j<G.length:=fun j D=>by
    cases hpe:pw with
    | none=>rw [hpe] at D;cases D
    | some a=>rw [hpe] at D;have:=hO.block hpe;simp [opB] at D;omega
   generalize ap:(G++[Vc [Vi j]]).length=r at e4 O4 aa
   have aq:G.length<=r:=by rw [<-ap];simp
   generalize loose 1=c' at e4 O4
   simp only [Nk,No,N5] at e4
   have Y:=C4.cells hT fun hm=>by have:=ac _ hm;omega
   have ad:=Sl.row (R:=H.length) (ro:=false) PD Y
   have l2:=fun X=>(ad.app X).loadCell PD Z (j:=2) (by decide)
   simp only [enc3,Od,P1] at l2
   have xj:=fun c (k:IntKind) (H1:NA)=>ad.idx (c:=c) (k:=k) (H1:=H1) Z
   simp only [n72,C,J,I,e4,l2,xj,N3 U,SB,seval,NJ,NK,place]
   have k1:=(w.growC (b:=r) (G':=G4) (C4.mono fun q _ v=>Ov _ v) aq aa).sub (S':=opB (Sa r)++[H.length]) fun q v=>by
    simp [opB] at v
    rcases v with e | e
    ·simp [e]
    ·simp [e]
   have ae:(gt (OH P L es es.length) j).2.2<es.length/\((gt (OH P L es es.length) j).2.2<0\/(es.length:Int)-(gt (OH P L es es.length) j).2.2<=(f:Int)):=by
    rcases ao with e | e
    ·exact ⟨by omega,.inl (by omega)⟩
    ·exact ⟨e.2,.inr (by omega)⟩
   exact hN (f,(gt (OH P L es es.length) j).2.2,l++[(j:Int)],Sa r,c') _ _ ⟨C,by rfl,by show _=Value.slice _ (l++[(j:Int)]).length _;rw [Ni];rfl,
    (hC.trans' C4 fun q v ay=>by have:=ac q v;omega).app,k1.app _,(OM.refl.app).cells Y,(O4.le (by omega)).app _,by rw [Nq];exact A,ae.1,ae.2,by simp only [Ni,Qa];omega⟩ (by show f<f+1;omega)
  generalize hi:es.length-1-k=i
  have e7:(es.length:Int)-1-(k:Int)=(i:Int):=by omega
  rw [e7] at V
  have N:i<es.length:=by omega
  have w2:IntKind.i64.wrap ((es.length:Int)-1-i)=(es.length:Int)-1-i:=NN (by omega) (by omega)
  have w3:IntKind.i64.wrap (30*((es.length:Int)-1-i))=30*((es.length:Int)-1-i):=NN (by omega) (by omega)
  have w4:IntKind.i64.wrap ((i:Int)-1)=(es.length:Int)-1-((k+1:Nat):Int):=by rw [NN (by omega) (by omega)];omega
  have d:lim<=G.length:=by have:=hC.len;omega
  have i0:=N3 (show (0:Int)<=(i:Int) by omega)
  have o:=TK (P:=P) (L:=L) (es:=es) k
  have ah:=NG hT
  simp only [n72,W,V,w1,w2,w3,d,i0,SB,seval,NJ,NK,place,NB]
  rw [tsl o] at C
  refine Ny5 (B8:=G.length) (BT:=H.length) (S:=[G.length,H.length]) (i:=i) (T:=OH P L es k) (P:=P) (L:=L) (R:=R) (M:=M) (pp:=pp) (pl:=pl) (cp:=cp) (cl:=cl) (es:=es) (pe:=pe) (ce:=ce) (ct:=es.length) N d (by simp) (by simp) K ht o (Nvd K o (Xf k (by omega)))
   (w.grow _ (Nd _) (by simp)) (((hs.sim (h.chgk hC))).app _) ((OM.refl.app).cells hT) (by rw [NQ];rfl) g0 W C g6 V rfl rfl fun fr' G1 u z y t=>?_
  have q0:fr' 0=Vp R:=(t 0 (by decide)).trans g0
  have q1:fr' 1=.slice pe es.length ce:=(t 1 (by decide)).trans W
  have q5:fr' 5=.slice (Sa H.length) (OH P L es k).length es.length:=(t 5 (by decide)).trans C
  have q6:fr' 6=.func (.func 108) #[] #[]:=(t 6 (by decide)).trans g6
  have q7:fr' 7=Vi i:=(t 7 (by decide)).trans V
  have q8:fr' 8=Vp G.length:=(t 8 (by decide)).trans rfl
  have al:es.length-1-i=k:=by omega
  rw [al] at y
  have ai:H.length∉[M,G.length]:=by simp;omega
  have F:=u.cells ((OM.refl.app).cells hT) ai
  obtain ⟨G2,e2,h2,m2⟩:=WK (lim:=lim) (p:=Sa H.length) PD rfl F ab (i:=i) (by rw [o];exact N) (Ry P L es (OH P L es k) i k)
  have xT:=fun c (kk:IntKind) (H1:NA)=>(Sl.row (R:=H.length) (ro:=false) PD F).idx (c:=c) (k:=kk) (H1:=H1) (i:=i) (by rw [o];exact N)
  have XB:=fun X=>(OM.refl.app (X:=X)).cells y
  have et:OH P L es (k+1)=(OH P L es k).set i (Ry P L es (OH P L es k) i k):=by rw [OH,hi]
  refine NL ?_
  simp only [n72,q5,q7,q8,XB,PD,NM,e2,xT,w4,SB,seval,NJ,NK,NB]
  have O:=u.len
  simp at O
  exact hN (k+1) _ _ ⟨by omega,q0,q1,(by simp only [q5,o,FB,Nat.reduceEqDiff]),q6,rfl,(((hC.app (X:=[Vc (enc3 (Ry P L es (OH P L es k) i 0))])).trans' u fun j D ak=>by simp at D;simp;omega).mut m2 (.inr (by omega))).app,((z.chg (Chg.refl.mut m2 (.inl (by simp)))).sub (fun q v=>by simp at v;simp [v])).app _,by rw [et];exact (OM.refl.app).cells h2⟩ (by omega)
theorem N4d [OA] {lim:Nat} {pp pl pe:Option Addr} {P:List Int} {L:List Leg} {cp cl ce:Nat} {es:List Ev} {H:NA} {Q:Value->NA->Prop} (hn:NetIn H pp pl P L) (s:lim<=H.length)
  (hs:Sl H encE 7 pe es) (N:es.length<2 ^ 62)
  (p:∀G,XP P L es≠0->Chg [] H G->Q (.tuple #[.agg #[Vz,Vz,Vi 0],Vi (XP P L es)]) G)
  (y:∀G q cq r cr,XP P L es=0->Chg [] H G->VT H.length G encI 1 q (QV P L es)->VT H.length G enc3 3 r (Rn P L es (QV P L es))->Q (.tuple #[.agg #[.slice q (QV P L es).length cq,.slice r (Rn P L es (QV P L es)).length cr,Vi (Tf P L es (QV P L es))],Vi 0]) G) :
  NP E false lim 37 [.agg (RX pp P.length cp pl L.length cl).toArray,.slice pe es.length ce] H Q:=by
 refine Rm (by decide) e37 rfl ?_
 rw [b37,c37]
 have c:=fun X (mp:Bool) (lim:Nat) (Q:Value->NA->Prop)=>N0h (mp:=mp) (lim:=lim) (cp:=cp) (cl:=cl) (ce:=ce) (Q:=Q) (hn.app X) (hs.app X) (by omega)
 by_cases h0:XP P L es=0
 case neg=>
  simp only [n37,r37,PW,NM,c,Np h0,s,SB,seval,NF,NJ,NK,NE,place,NB,ND]
  exact p _ h0 Chg.refl.app
 obtain ⟨O,h,hev⟩:=N55 h0
 have ht:=fun i (hi:i<es.length)=>And.intro (hev i hi).2.1 (hev i hi).2.2.1
 simp only [n37,PW,NM,c,N3 h0,SB,seval,NF,NJ,NK,NE,place,NB]
 refine Nio (lim:=lim) (hn.app _) (by simp;omega) fun G1 R M e K hM n=>?_
 have w:=e.len
 simp at w K hM
 have b:OM H G1:=(OM.refl.app).trans e
 have S:NC G1 (H.length+1)=Vc [Vz,Vz,Vi 0]:=e.cells (by rw [NR];rfl)
 refine NL ?_
 simp only [n37,SB,seval,NF,NJ,NE]
 refine N3w (n.app _) (by simp;omega) ((b.sl hs).app _) h ht fun G2 q cq d o m=>?_
 have x:=d.len
 simp at x
 have C:Chg [M] H G2:=((OM.chg (A:=[M]) b).trans d.pre)
 have a:=d.pre
 refine NL ?_
 simp only [n37,SB,seval,NF]
 refine N2c (o.app _) (by simp;omega) (((b.sl hs).sim (n.chgk a)).app _) h ht ((m.sl PQ).app _) (by have:=X9 (T:=OH P L es es.length) es.length (Ul es.length (OH P L es es.length) es.length).2.2;unfold QV;omega) (fun z=>by
  rcases m with ⟨_,_,k⟩ | ⟨R,k,_⟩
  ·exact k
  ·rw [z] at k;cases k) Nvf fun W F g r cr l D z hr=>?_
 have t:=l.cells ((OM.refl.app (X:=[])).cells (a.cells S (by simp;omega))) (by simp;omega)
 obtain ⟨Y,I,J,B⟩:=OP (NG t) (Vc [.slice F (QV P L es).length g,.slice r (Rn P L es (QV P L es)).length cr,Vi (Tf P L es (QV P L es))])
 have U:=fun X=>(OM.refl.app (X:=X)).cells t
 have V:=fun X=>(OM.refl.app (X:=X)).cells J
 have f:lim<=H.length+1:=by omega
 refine NL ?_
 simp only [n37,r37,U,I,V,f,SB,seval,NJ,NB,ND]
 exact y _ F g r cr h0 ((((OM.chg (A:=[]) b).trans' a fun j u v=>by simp at u;omega).trans' l.pre fun j u v=>by simp at u;omega).mut B (.inr (by omega))).app (((z.mut B (by simp;omega)).le (by simp;omega)).app _) (((hr.mut B (by simp;omega)).le (by simp;omega)).app _)
def Z0:List Int->List Int->Prop
 | [],_=>True
 | _::_,[]=>False
 | x::l,y::m=>x<y\/(x=y/\Z0 l m)
theorem Z0.refl:∀l,Z0 l l
 | []=>trivial
 | x::l=>.inr ⟨rfl,Z0.refl l⟩
theorem Z0.trans:∀{a b c:List Int},Z0 a b->Z0 b c->Z0 a c
 | [],_,_,_,_=>trivial
 | x::a,[],c,h,_=>by cases h
 | x::a,y::b,[],_,h=>by cases h
 | x::a,y::b,z::c,h1,h2=>by
   rcases h1 with h1 | ⟨rfl,h1⟩
   ·rcases h2 with h2 | ⟨rfl,h2⟩
    ·exact .inl (by omega)
    ·exact .inl h1
   ·rcases h2 with h2 | ⟨rfl,h2⟩
    ·exact .inl h2
    ·exact .inr ⟨rfl,h1.trans h2⟩
def BE (c k:Int) (l:List Int) (a k':Int) (b:List Int):Prop:=c<a\/(c=a/\(k'<k\/(k=k'/\Z0 l b)))
theorem BE.refl {c k:Int} {l:List Int}:BE c k l c k l:=.inr ⟨rfl,.inr ⟨rfl,Z0.refl l⟩⟩
theorem BE.trans {a b c x y z:Int} {l m r:List Int} (h1:BE a x l b y m) (h2:BE b y m c z r):BE a x l c z r:=by
 rcases h1 with h1 | ⟨rfl,h1⟩
 ·rcases h2 with h2 | ⟨rfl,h2⟩
  ·exact .inl (by omega)
  ·exact .inl h1
 ·rcases h2 with h2 | ⟨rfl,h2⟩
  ·exact .inl h2
  ·refine .inr ⟨rfl, ?_⟩
   rcases h1 with h1 | ⟨rfl,h1⟩
   ·rcases h2 with h2 | ⟨rfl,h2⟩
    ·exact .inl (by omega)
    ·exact .inl h1
   ·rcases h2 with h2 | ⟨rfl,h2⟩
    ·exact .inl h2
    ·exact .inr ⟨rfl,h1.trans h2⟩
theorem BE.lift {c k a k' d i:Int} {l b:List Int} (h:BE c k l a k' b):BE (d+c) (k+1) (i::l) (d+a) (k'+1) (i::b):=by
 rcases h with h | ⟨rfl,h | ⟨rfl,h⟩⟩
 ·exact .inl (by omega)
 ·exact .inr ⟨rfl,.inl (by omega)⟩
 ·exact .inr ⟨rfl,.inr ⟨rfl,.inr ⟨rfl,h⟩⟩⟩
section
variable {P:List Int} {L:List Leg} {es:List Ev}
def rcI (P:List Int) (L:List Leg) (es:List Ev):List Int->Int
 | []=>0
 | [i]=>30*((es.length:Int)-1-i)
 | i::j::l=>QI P L (gt es i.toNat) (gt es j.toNat)+30*(j-i-1)+rcI P L es (j::l)
def Asc (n:Nat):List Int->Prop
 | []=>True
 | [i]=>0<=i/\i<n
 | i::j::l=>0<=i/\i<j/\Asc n (j::l)
theorem Asc.head {n:Nat}:∀{i:Int} {l:List Int},Asc n (i::l)->0<=i/\i<n
 | i,[],h=>h
 | i,j::l,h=>⟨h.1,by have:=h.2.2.head;have:=h.2.1;omega⟩
theorem Nbq {T a:List Zx} {i:Nat}:∀m,m<=es.length->(∀j,es.length-m<=j->j<es.length->gt T j=gt a j)->Ry P L es T i m=Ry P L es a i m
 | 0,_,_=>rfl
 | m+1,hm,h=>by
   rw [Ry,Ry,Nbq m (by omega) fun j h1 h2=>h j (by omega) h2]
   unfold Y4
   rw [h _ (by omega) (by omega)]
theorem XY:∀d k,k+d<=es.length->∀j,es.length-k<=j->j<es.length->gt (OH P L es (k+d)) j=gt (OH P L es k) j
 | 0,k,_,j,_,_=>rfl
 | d+1,k,h,j,h1,h2=>by
   rw [<-Oo,OH,Ni1 (by rw [TK];omega),Ng (by omega)]
   exact XY d k (by omega) j h1 h2
theorem Nr8 {i:Nat} (hi:i<es.length):gt (OH P L es es.length) i=Ry P L es (OH P L es es.length) i (es.length-1-i):=by
 obtain ⟨k,hk⟩:∃k,es.length-1-i=k:=⟨_,rfl⟩
 have h1:=XY (P:=P) (L:=L) (es:=es) (es.length-(k+1)) (k+1) (by omega) i (by omega) hi
 rw [show k+1+(es.length-(k+1))=es.length by omega] at h1
 rw [h1,OH,Ni1 (by rw [TK];omega),Nh (by omega),hk,show es.length-1-k=i by omega]
 refine Nbq k (by omega) fun j h2 b=>?_
 have a:=XY (P:=P) (L:=L) (es:=es) (es.length-k) k (by omega) j h2 b
 rw [show k+(es.length-k)=es.length by omega] at a
 exact a.symm
variable {F:List Zx} {n:Nat}
theorem Ne4 (a:∀j,j<n->XK n j (gt F j)):∀(f:Nat) (x:Int),(x<0\/(x<n/\(n:Int)-x<=f))->PY F (f+1) x=PY F f x
 | 0,x,h=>by
   have e:PY F (0+1) x=if x<0 then [] else x::PY F 0 (gt F x.toNat).2.2:=rfl
   rw [e,Nh (by omega)]
   rfl
 | f+1,x,h=>by
   have e:PY F (f+1+1) x=if x<0 then [] else x::PY F (f+1) (gt F x.toNat).2.2:=rfl
   have b:PY F (f+1) x=if x<0 then [] else x::PY F f (gt F x.toNat).2.2:=rfl
   rw [e,b]
   split
   ·rfl
   ·rename_i h0
    congr 1
    refine Ne4 a f _ ?_
    rcases a x.toNat (by omega) with e | e
    ·exact .inl (by omega)
    ·exact .inr ⟨e.2,by omega⟩
theorem Nho {x:Int} {f:Nat} (hx:x<0):PY F f x=[]:=by
 cases f with
 | zero=>rfl
 | succ f=>rw [PY,Nh hx]
theorem UF (a:∀j,j<n->XK n j (gt F j)) {i:Nat} (hi:i<n):PY F n (i:Int)=(i:Int)::PY F n (gt F i).2.2:=by
 obtain ⟨m,rfl⟩:∃m,n=m+1:=⟨n-1,by omega⟩
 rw [PY,Ng (by omega),N7,Ne4 a m]
 rcases a i hi with e | e
 ·exact .inl (by omega)
 ·exact .inr ⟨e.2,by omega⟩
structure RestOk (P:List Int) (L:List Leg) (es:List Ev) (x:Zx) (l:List Int):Prop where
 cost:x.1=rcI P L es l
 count:x.2.1=l.length
 asc:Asc es.length l
theorem Nkg (v:∀j,j<es.length->XK es.length j (gt F j)) {i:Nat} (hi:i<es.length)
  (ih:∀j,i<j->j<es.length->RestOk P L es (gt F j) (PY F es.length j)/\∀l,Asc es.length ((j:Int)::l)->BE (gt F j).1 (gt F j).2.1 (PY F es.length j) (rcI P L es (j::l)) ((j::l:List Int).length:Int) (j::l)) :
  ∀m,m<=es.length-1-i->RestOk P L es (Ry P L es F i m) (i::PY F es.length (Ry P L es F i m).2.2)/\((Ry P L es F i m).2.2=-1\/((es.length:Int)-m<=(Ry P L es F i m).2.2/\(Ry P L es F i m).2.2<es.length))/\
   ∀l,Asc es.length ((i:Int)::l)->(∀j r,l=j::r->(es.length:Int)-m<=j)->BE (Ry P L es F i m).1 (Ry P L es F i m).2.1 (i::PY F es.length (Ry P L es F i m).2.2) (rcI P L es (i::l)) ((i::l:List Int).length:Int) (i::l)
 | 0,_=>by
   have e:PY F es.length (-1)=[]:=Nho (by omega)
   refine ⟨⟨?_, ?_, ?_⟩,.inl rfl,fun l ha hl=>?_⟩
   ·show _=rcI P L es (i::PY F es.length (-1));rw [e];rfl
   ·show _=((i::PY F es.length (-1):List Int).length:Int);rw [e];rfl
   ·show Asc _ (i::PY F es.length (-1));rw [e];exact ⟨by omega,by omega⟩
   ·cases l with
    | nil=>show BE _ _ (i::PY F es.length (-1)) _ _ _;rw [e];exact BE.refl
    | cons j r=>
      have h1:=hl j r rfl
      have h2:=(ha.2.2).head
      omega
 | m+1,hm=>by
   obtain ⟨⟨w,s,c3⟩,p,f⟩:=Nkg v hi ih m (by omega)
   generalize E:es.length-1-m=j
   have o:j<es.length:=by omega
   obtain ⟨⟨C,u,z⟩,hd⟩:=ih j (by omega) o
   have g:=UF (F:=F) v o
   have D:Ry P L es F i (m+1)=Vl (Ry P L es F i m) (Y4 P L es F i j):=by rw [Ry,E]
   rw [D]
   generalize hx:Ry P L es F i m=x at w s c3 p f
   generalize hr:Y4 P L es F i j=r
   have A:r.1=QI P L (gt es i) (gt es j)+30*((j:Int)-i-1)+(gt F j).1:=by rw [<-hr];rfl
   have r2:r.2.1=(gt F j).2.1+1:=by rw [<-hr];rfl
   have r3:r.2.2=(j:Int):=by rw [<-hr];rfl
   have B:∀l,Asc es.length ((i:Int)::(j:Int)::l)->BE r.1 r.2.1 (i::PY F es.length j) (rcI P L es (i::j::l)) ((i::j::l:List Int).length:Int) (i::j::l):=fun l hl=>by
    have:=(hd l hl.2.2).lift (d:=QI P L (gt es i) (gt es j)+30*((j:Int)-i-1)) (i:=(i:Int))
    rw [A,r2]
    exact this
   unfold Vl
   split
   ·rename_i c
    unfold Ym at c
    rw [Ob] at c
    refine ⟨⟨w,s,c3⟩,by omega,fun l ha hl=>?_⟩
    cases l with
    | nil=>exact f [] ha (fun j r h=>by cases h)
    | cons a t=>
      by_cases k:a=(j:Int)
      ·subst k
       have h1:=B t ha
       refine BE.trans (b:=r.1) (y:=r.2.1) (m:=i::PY F es.length j) ?_ h1
       rcases c with h | ⟨h,h'⟩
       ·exact .inl h
       ·exact .inr ⟨h,.inl h'⟩
      ·refine f _ ha fun a' H e=>?_
       have h1:=hl a t rfl
       cases e
       omega
   ·rename_i c
    unfold Ym at c
    rw [Ob] at c
    rw [r3]
    refine ⟨⟨?_, ?_, ?_⟩,.inr ⟨by omega,by omega⟩,fun l ha hl=>?_⟩
    ·rw [A,C,g];rfl
    ·rw [r2,u];simp
    ·rw [g];rw [g] at z;exact ⟨by omega,by omega,z⟩
    ·have n:BE r.1 r.2.1 (i::PY F es.length j) x.1 x.2.1 (i::PY F es.length x.2.2):=by
      rcases Q0 r.1 x.1 with h | h | h
      ·exact .inl h
      ·refine .inr ⟨h, ?_⟩
       rcases Q0 x.2.1 r.2.1 with h' | h' | h'
       ·exact .inl h'
       ·refine .inr ⟨h'.symm,.inr ⟨rfl, ?_⟩⟩
        rcases p with e | ⟨e1,e2⟩
        ·exfalso
         rw [e,Nho (by omega)] at s
         rw [g] at u
         simp at s u
         omega
        ·obtain ⟨q,G⟩:=Int.eq_ofNat_of_zero_le (show 0<=x.2.2 by omega)
         rw [G,g,UF (F:=F) v (show q<es.length by omega)]
         exact .inl (by omega)
       ·exact absurd (.inr ⟨h.symm,h'⟩) c
      ·exact absurd (.inl h) c
     cases l with
     | nil=>exact n.trans (f [] ha (fun j r h=>by cases h))
     | cons a t=>
       by_cases k:a=(j:Int)
       ·subst k
        exact B t ha
       ·refine n.trans (f _ ha fun a' H e=>?_)
        have h1:=hl a t rfl
        cases e
        omega
end
section
variable {P:List Int} {L:List Leg} {es:List Ev}
theorem Naw:∀(k i:Nat),es.length-i<=k->i<es.length->RestOk P L es (gt (OH P L es es.length) i) (PY (OH P L es es.length) es.length i)/\
  ∀l,Asc es.length ((i:Int)::l)->BE (gt (OH P L es es.length) i).1 (gt (OH P L es es.length) i).2.1 (PY (OH P L es es.length) es.length i) (rcI P L es (i::l)) ((i::l:List Int).length:Int) (i::l)
 | 0,i,h,hi=>by omega
 | k+1,i,h,hi=>by
   have b:∀j,j<es.length->XK es.length j (gt (OH P L es es.length) j):=fun j c=>TY _ (Nd _) j (by omega) c
   obtain ⟨h1,h2,a⟩:=Nkg b hi (fun j h1 h2=>Naw k j (by omega) h2) (es.length-1-i) (Nd _)
   rw [<-Nr8 hi] at h1 h2 a
   rw [<-UF b hi] at h1 a
   exact ⟨h1,fun l hl=>a l hl fun j r e=>by
    subst e
    have:=hl.2.1
    omega⟩
theorem BE.add {c k a k':Int} {l l':List Int} (d:Int) (h:BE c k l a k' l'):BE (d+c) k l (d+a) k' l':=by
 rcases h with h | ⟨rfl,h⟩
 ·exact .inl (by omega)
 ·exact .inr ⟨rfl,h⟩
def tot (P:List Int) (L:List Leg) (es:List Ev):List Int->Int
 | []=>0
 | i::l=>30*i+rcI P L es (i::l)
theorem Njz:∀m,m<=es.length->0<m->∃h:Nat,h<es.length/\es.length-m<=h/\(Ul es.length (OH P L es es.length) m).2.2=h/\(Ul es.length (OH P L es es.length) m).1=tot P L es (PY (OH P L es es.length) es.length h)/\(Ul es.length (OH P L es es.length) m).2.1=(PY (OH P L es es.length) es.length h).length/\
  ∀j l,Asc es.length (j::l)->(es.length:Int)-m<=j->BE (Ul es.length (OH P L es es.length) m).1 (Ul es.length (OH P L es es.length) m).2.1 (PY (OH P L es es.length) es.length h) (tot P L es (j::l)) ((j::l).length:Int) (j::l)
 | 0,_,h=>by omega
 | m+1,hm,_=>by
   have t:∀j,j<es.length->XK es.length j (gt (OH P L es es.length) j):=fun j g=>TY _ (Nd _) j (by omega) g
   generalize hi:es.length-1-m=i
   have c:i<es.length:=by omega
   have ⟨⟨w,z,c3⟩,A⟩:=Naw (P:=P) (L:=L) (es:=es) es.length i (by omega) c
   have e:=UF (F:=OH P L es es.length) t c
   have f:Ul es.length (OH P L es es.length) (m+1)=if (Ul es.length (OH P L es es.length) m).2.2<0 then Nan (OH P L es es.length) i else Vl (Ul es.length (OH P L es es.length) m) (Nan (OH P L es es.length) i):=by rw [Ul,hi]
   generalize hr:Nan (OH P L es es.length) i=r at f
   have u:r.1=30*(i:Int)+(gt (OH P L es es.length) i).1:=by rw [<-hr];rfl
   have r2:r.2.1=(gt (OH P L es es.length) i).2.1:=by rw [<-hr];rfl
   have r3:r.2.2=(i:Int):=by rw [<-hr];rfl
   have rt:r.1=tot P L es (PY (OH P L es es.length) es.length i):=by rw [u,w,e];rfl
   have v:r.2.1=(PY (OH P L es es.length) es.length i).length:=by rw [r2,z]
   have o:∀l,Asc es.length ((i:Int)::l)->BE r.1 r.2.1 (PY (OH P L es es.length) es.length i) (tot P L es (i::l)) ((i::l:List Int).length:Int) (i::l):=fun l hl=>by
    rw [u,r2];exact (A l hl).add _
   by_cases n:m=0
   ·subst n
    have e0:Ul es.length (OH P L es es.length) (0+1)=r:=by rw [f,Nh];show (-1:Int)<0;decide
    rw [e0]
    refine ⟨i,c,by omega,r3,rt,v,fun j l hl g=>?_⟩
    have:=hl.head
    obtain rfl:j=(i:Int):=by omega
    exact o l hl
   obtain ⟨h,h1,h2,p,s,h5,k⟩:=Njz m (by omega) (by omega)
   rw [Ng (by omega)] at f
   rw [f]
   generalize Ul es.length (OH P L es es.length) m=x at p s h5 k
   unfold Vl
   split
   ·rename_i a
    unfold Ym at a
    rw [Ob] at a
    refine ⟨h,h1,by omega,p,s,h5,fun j l hl g=>?_⟩
    by_cases d:j=(i:Int)
    ·subst d
     refine BE.trans (b:=r.1) (y:=r.2.1) ?_ (o l hl)
     rcases a with h | ⟨h,h'⟩
     ·exact .inl h
     ·exact .inr ⟨h,.inl h'⟩
    ·exact k j l hl (by omega)
   ·rename_i a
    unfold Ym at a
    rw [Ob] at a
    refine ⟨i,c,by omega,r3,rt,v,fun j l hl g=>?_⟩
    by_cases d:j=(i:Int)
    ·subst d
     exact o l hl
    ·refine BE.trans ?_ (k j l hl (by omega))
     rcases Q0 r.1 x.1 with h' | h' | h'
     ·exact .inl h'
     ·refine .inr ⟨h', ?_⟩
      rcases Q0 x.2.1 r.2.1 with q | q | q
      ·exact .inl q
      ·refine .inr ⟨q.symm, ?_⟩
       rw [e,UF (F:=OH P L es es.length) t h1]
       exact .inl (by omega)
      ·exact absurd (.inr ⟨h'.symm,q⟩) a
     ·exact absurd (.inl h') a
theorem Nfd (hn:0<es.length):QV P L es≠[]/\Asc es.length (QV P L es)/\∀j l,Asc es.length (j::l)->BE (tot P L es (QV P L es)) ((QV P L es).length:Int) (QV P L es) (tot P L es (j::l)) ((j::l).length:Int) (j::l):=by
 have d:∀j,j<es.length->XK es.length j (gt (OH P L es es.length) j):=fun j f=>TY _ (Nd _) j (by omega) f
 obtain ⟨h,h1,h2,a,b,h5,c⟩:=Njz (P:=P) (L:=L) (es:=es) es.length (Nd _) hn
 have e:QV P L es=PY (OH P L es es.length) es.length h:=by unfold QV;rw [a]
 rw [e]
 refine ⟨by rw [UF d h1];simp,(Naw es.length h (by omega) h1).1.asc,fun j l hl=>?_⟩
 have:=c j l hl (by have:=hl.head;omega)
 rw [b,h5] at this
 exact this
theorem Nj5 {i j:Int} {l:List Int}:Rn P L es (i::j::l)=(i,j,QI P L (gt es i.toNat) (gt es j.toNat))::Rn P L es (j::l):=by
 unfold Rn
 show (List.range (l.length+1)).map _=_
 rw [List.range_succ_eq_map,N9,List.map_map]
 rfl
theorem Nc6:∀(l:List Int) (i:Int),tot P L es (i::l)=Tf P L es (i::l)
 | [],i=>by
   show 30*i+30*((es.length:Int)-1-i)=30*((es.length:Int)-1)+0
   omega
 | j::l,i=>by
   have h:=Nc6 l j
   have e1:tot P L es (i::j::l)=30*i+(QI P L (gt es i.toNat) (gt es j.toNat)+30*(j-i-1)+rcI P L es (j::l)):=rfl
   have e2:tot P L es (j::l)=30*j+rcI P L es (j::l):=rfl
   have e3:Tf P L es (i::j::l)=30*((es.length:Int)-(l.length+1+1:Nat))+VW (Rn P L es (i::j::l)):=rfl
   have a:Tf P L es (j::l)=30*((es.length:Int)-(l.length+1:Nat))+VW (Rn P L es (j::l)):=rfl
   rw [e1,e3,Nj5,VW]
   rw [e2,a] at h
   simp only
   omega
theorem N0o {n:Nat}:∀(ks:List Int),(∀i,i<ks.length->Ncf n ks i)->Asc n ks
 | [],_=>trivial
 | [i],h=>⟨(h 0 (by simp)).1,(h 0 (by simp)).2.1⟩
 | i::j::l,h=>by
   refine ⟨(h 0 (by simp)).1,(h 1 (by simp)).2.2 (by omega),N0o (j::l) fun k hk=>?_⟩
   have h1:=h (k+1) (by simp at hk⊢;omega)
   refine ⟨h1.1,h1.2.1,fun h0=>?_⟩
   have h2:=h1.2.2 (by omega)
   obtain ⟨q,rfl⟩:∃q,k=q+1:=⟨k-1,by omega⟩
   exact h2
theorem Nxf {n:Nat}:∀(ks:List Int),Asc n ks->∀i,i<ks.length->Ncf n ks i
 | [],_,i,hi=>by cases hi
 | [a],h,i,hi=>by
   obtain rfl:i=0:=by simp at hi;omega
   exact ⟨h.1,h.2,fun h=>by omega⟩
 | a::b::l,h,0,hi=>⟨h.head.1,h.head.2,fun h=>by omega⟩
 | a::b::l,h,1,hi=>⟨h.2.2.head.1,h.2.2.head.2,fun _=>h.2.1⟩
 | a::b::l,h,i+2,hi=>by
   have h1:=Nxf (b::l) h.2.2 (i+1) (by simp at hi⊢;omega)
   exact ⟨h1.1,h1.2.1,fun _=>h1.2.2 (by omega)⟩
theorem Nac:Nft es.length (QV P L es):=by
 by_cases hn:0<es.length
 ·obtain ⟨h1,h2,_⟩:=Nfd (P:=P) (L:=L) hn
  exact ⟨fun h=>absurd (List.length_eq_zero_iff.1 h) h1,Nxf _ h2⟩
 ·have e:QV P L es=[]:=by
   have:=X9 (T:=OH P L es es.length) es.length (Ul es.length (OH P L es es.length) es.length).2.2
   exact List.length_eq_zero_iff.1 (by unfold QV;omega)
  exact ⟨fun _=>by omega,fun i hi=>by rw [e] at hi;cases hi⟩
theorem N0m {ks:List Int} (hk:Nft es.length ks):BE (Tf P L es (QV P L es)) ((QV P L es).length:Int) (QV P L es) (Tf P L es ks) (ks.length:Int) ks:=by
 cases ks with
 | nil=>
   have h0:=hk.1 rfl
   have e:QV P L es=[]:=by
    have:=X9 (T:=OH P L es es.length) es.length (Ul es.length (OH P L es es.length) es.length).2.2
    exact List.length_eq_zero_iff.1 (by unfold QV;omega)
   rw [e]
   exact BE.refl
 | cons j l=>
   have ha:=N0o _ hk.2
   have hn:0<es.length:=by have:=ha.head;omega
   obtain ⟨h1,h2,c⟩:=Nfd (P:=P) (L:=L) hn
   have:=c j l ha
   rw [Nc6] at this
   generalize QV P L es=b at *
   cases b with
   | nil=>exact absurd rfl h1
   | cons a t=>rw [Nc6] at this;exact this
end
end Go.Proofs.YtkppjkkkdpcgiaaGreat.Fn


namespace Go.Proofs.YtkppjkkkdpcgiaaGreat.Fn
open Go.AM Go.AM.Sym Go.Net
def Wz (P:List Int) (L:List Leg) (T:List Int):Nat->List Int
 | 0=>T
 | k+1=>Go.Net.stepX 50 (OJ P) L (Wz P L T k)
theorem Nhk {P:List Int} {L:List Leg} {q dl:Int}:∀k,Wz P L (Zd 50 (OJ P q) dl) k=MP 50 (OJ P) L q dl k
 | 0=>rfl
 | k+1=>by rw [Wz,MP,Nhk k]
theorem Nq7:okT (List.replicate 50 (-1)):=⟨by simp,fun j=>by
 rw [Na,P0];unfold NT;split<;>simp⟩
theorem Njs {pos:Int->Nat} {bef aft:List Int} {l:Leg} {a:Int} (h0:¬bef.getD (pos l.dst) (-1)<0) (h:Sw l (bef.getD (pos l.dst) (-1))=some a):XT pos bef aft l=aft.set (pos l.frm) (max (aft.getD (pos l.frm) (-1)) (a-l.cut)):=by
 unfold XT
 rw [Ng h0]
 simp only [h]
 congr 1
 split<;>omega
theorem Niy [OA] {lim R A10 A11:Nat} {pl:Option Addr} {P:List Int} {L:List Leg} {cl:Nat} {H G:NA} {fr:Nat->Value} {K:List AItem} {Z:Value->NA->Prop} {bef:List Int}
  (h:NetOk 50 P L (OJ P)) (hL:Sl H PO 8 pl L) (ai:L.length<2 ^ 62) (hm:NC H R=.map (Wv P)) (ah:lim<=H.length) (hb:okT bef) (hE:Chg [] H G) (ae:H.length<=A10) (ag:H.length<=A11) (ad:A10≠A11) (V:NC G A10=Vc (R6 bef)) (W:NC G A11=Vc (R6 (List.replicate 50 (-1))))
  (f1:fr 1=.map (some R)) (f10:fr 10=Vp A10) (f11:fr 11=Vp A11) (S:fr 30=.slice pl L.length cl) (T:fr 31=Vi L.length) (f32:fr 32=Vi 0)
  (hR:∀fr' G',okT (Go.Net.stepX 50 (OJ P) L bef)->Chg [A11] G G'->NC G' A11=Vc (R6 (Go.Net.stepX 50 (OJ P) L bef))->fr' 1=fr 1->fr' 4=fr 4->fr' 9=fr 9->fr' 11=fr 11->fr' 19=fr 19->fr' 20=fr 20->QC E a62 lim K fr' (G'++[]) Z) :
  QC E a62 lim (.code (.loop Nyf)::.inBlock 2::K) fr G Z:=by
 refine NZ (fun i=>L.length-i) (fun i fr' G'=>i<=L.length/\fr' 1=.map (some R)/\fr' 4=fr 4/\fr' 9=fr 9/\fr' 10=Vp A10/\fr' 11=Vp A11/\fr' 19=fr 19/\fr' 20=fr 20/\fr' 30=.slice pl L.length cl/\fr' 31=Vi L.length/\fr' 32=Vi i/\
  Chg [A11] G G'/\okT ((L.take i).foldl (XT (OJ P) bef) (List.replicate 50 (-1)))/\NC G' A11=Vc (R6 ((L.take i).foldl (XT (OJ P) bef) (List.replicate 50 (-1))))) 0
  ⟨Nv _,f1,rfl,rfl,f10,f11,rfl,rfl,S,T,f32,Chg.refl,Nq7,W⟩ ?_
 intro i fr' G' ⟨hi,y,N,O,m,q,u,v,n,g,w,hC,ha,d⟩ Y
 have z:Chg [] H G':=hE.trans' hC fun j h1 h2=>by simp only [Nl] at h1;omega
 have hl:=z.len
 rw [OD Nyf.eq_1]
 refine NL ?_
 by_cases e:i<L.length
 case neg=>
  obtain rfl:i=L.length:=by omega
  rw [Ol] at ha d
  simp only [n62,g,w,e,SB,seval,NJ,NK]
  exact hR _ _ ha hC d (by rw [f1];exact y) (by rw [<-N];exact rfl) (by rw [<-O];exact rfl) (by rw [f11];exact q) (by rw [<-u];exact rfl) (by rw [<-v];exact rfl)
 have J:=z.ext.sl hL
 have B:=fun X=>(J.app X).loadCells OL e
 have s:=fun c (k:IntKind) (H1:NA)=>J.idx (c:=c) (k:=k) (H1:=H1) e
 have C:IntKind.i64.wrap ((i:Int)+1)=((i+1:Nat):Int):=OV (by omega)
 have D:=hC.cells V (by simpa using ad)
 have q1:=fun X=>(OM.refl.app (X:=X)).cells D
 have q2:=fun X=>(OM.refl.app (X:=X)).cells d
 have I:=z.get hm (PT hm) (by simp)
 have q3:∀X,NC (G'++X) R=.map (Wv P):=fun X=>by rw [NI (PT I)];exact I
 have A:lim<=G'.length:=by omega
 have ac:lim<=A11:=by omega
 have t:=QJ e
 have hf:=h.fine _ t
 have i1:OJ P (gt L i).frm<50:=h.lt _ (h.frm _ t)
 have i2:OJ P (gt L i).dst<50:=h.lt _ (h.dst _ t)
 obtain ⟨j1,F⟩:=UJ (i:=0) (h.frm _ t)
 obtain ⟨j2,x⟩:=UJ (i:=0) (h.dst _ t)
 change findKey _ _ _=some (some (j1,Vi (OJ P (gt L i).frm:Int))) at F
 change findKey _ _ _=some (some (j2,Vi (OJ P (gt L i).dst:Int))) at x
 have hT:=ZI (f:=XT (OJ P) bef) (b:=List.replicate 50 (-1)) e
 generalize (L.take i).foldl (XT (OJ P) bef) (List.replicate 50 (-1))=aft at *
 have ab:=hb.2 (OJ P (gt L i).dst)
 have aa:=ha.2 (OJ P (gt L i).frm)
 have U:=VL hb.1 i2
 have ga:=VL ha.1 i1
 have z1:(0:Int)<=(OJ P (gt L i).frm:Int):=by omega
 have z2:(0:Int)<=(OJ P (gt L i).dst:Int):=by omega
 have z3:(OJ P (gt L i).frm:Int)<50:=by omega
 have z4:(OJ P (gt L i).dst:Int)<50:=by omega
 have z5:OJ P (gt L i).dst<=49:=by omega
 have z6:OJ P (gt L i).frm<=49:=by omega
 by_cases o:bef.getD (OJ P (gt L i).dst) (-1)<0
 ·have M:XT (OJ P) bef aft (gt L i)=aft:=by unfold XT;rw [Nh o]
  rw [M] at hT
  simp only [n62,y,m,n,g,w,e,B,s,C,q1,q3,x,U,z2,z4,OL,Sq,Pc,A,NH,o,SB,seval,NJ,NK,place,NB]
  exact Y (i+1) _ _ ⟨by omega,y,by rw [<-N];exact rfl,by rw [<-O];exact rfl,m,q,by rw [<-u];exact rfl,by rw [<-v];exact rfl,n,g,rfl,hC.app,by rw [hT];exact ha,by rw [hT];exact (OM.refl.app).cells d⟩ (by omega)
 unfold NT at ab aa
 have p:=fun (H:NA) (mp:Bool) (lim:Nat) (Q:Value->NA->Prop)=>N21 (mp:=mp) (lim:=lim) (H:=H) (Q:=Q) (l:=gt L i) (r:=bef.getD (OJ P (gt L i).dst) (-1)) hf (by omega) (by omega)
 cases hx:Sw (gt L i) (bef.getD (OJ P (gt L i).dst) (-1)) with
 | none=>
   rw [hx] at p
   simp only [Oh,VX] at p
   have M:XT (OJ P) bef aft (gt L i)=aft:=by unfold XT;rw [Ng o];simp only [hx]
   rw [M] at hT
   simp only [n62,y,m,n,g,w,e,B,s,C,q1,q3,x,U,z2,z4,OL,Sq,NM,Pc,A,NH,o,p,SB,seval,NF,NJ,NK,place,NB]
   exact Y (i+1) _ _ ⟨by omega,y,by rw [<-N];exact rfl,by rw [<-O];exact rfl,m,q,by rw [<-u];exact rfl,by rw [<-v];exact rfl,n,g,rfl,hC.app,by rw [hT];exact ha,by rw [hT];exact (OM.refl.app).cells d⟩ (by omega)
 | some a=>
   rw [hx] at p
   simp only [Nr,VX] at p
   obtain ⟨k1,k2,k3,k4⟩:=Ng8 hf hx
   unfold NT at k3
   have M:=Njs (aft:=aft) o hx
   rw [M] at hT
   unfold Fine at hf
   have wc:IntKind.i64.wrap (a-(gt L i).cut)=a-(gt L i).cut:=NN (by omega) (by omega)
   obtain ⟨G2,e2,h2,m2⟩:=OP (NG d) (Vc (R6 (aft.set (OJ P (gt L i).frm) (max (aft.getD (OJ P (gt L i).frm) (-1)) (a-(gt L i).cut)))))
   simp only [n62,y,m,q,n,g,w,e,B,s,C,q1,q2,q3,F,x,U,ga,z1,z2,z3,z4,z6,OL,Sr,Sq,VM,NM,PZ,Pc,A,NH,o,p,wc,ac,Nx3,Yy ha.1,e2,SB,seval,NF,NJ,NK,place,NB]
   exact Y (i+1) _ _ ⟨by omega,y,by rw [<-N];exact rfl,by rw [<-O];exact rfl,m,q,by rw [<-u];exact rfl,by rw [<-v];exact rfl,n,g,rfl,(hC.mut m2 (.inl (by simp))).app,by rw [hT];exact Nih ha (by unfold NT;omega),by rw [hT];exact (OM.refl.app).cells h2⟩ (by omega)
theorem Nes {P:List Int} {L:List Leg} {T:List Int} (b:NetOk 50 P L (OJ P)) (hT:okT T):∀k,okT (Wz P L T k)
 | 0=>hT
 | k+1=>by
   rw [Wz,Go.Net.stepX]
   have c:=Nes b hT k
   generalize Wz P L T k=bef at c
   suffices h:∀(M:List Leg),(∀l∈M,l∈L)->∀aft,okT aft->okT (M.foldl (XT (OJ P) bef) aft) from h L (fun _ h=>h) _ Nq7
   intro M
   induction M with
   | nil=>intro _ aft h;exact h
   | cons l M ih=>
     intro hM aft ha
     rw [Oi]
     refine ih (fun x hx=>hM x (Nj _ hx)) _ ?_
     by_cases h0:bef.getD (OJ P l.dst) (-1)<0
     ·unfold XT;rw [Nh h0];exact ha
     ·cases hx:Sw l (bef.getD (OJ P l.dst) (-1)) with
      | none=>unfold XT;rw [Ng h0];simp only [hx];exact ha
      | some a=>
        rw [Njs h0 hx]
        obtain ⟨k1,k2,k3,e⟩:=Ng8 (b.fine _ (hM l (Nm ..))) hx
        have d:=b.fine _ (hM l (Nm ..))
        have:=ha.2 (OJ P l.frm)
        unfold Fine at d
        exact Nih ha (by omega)
theorem YB.le {α:Type} {lim e cap:Nat} {G:NA} {enc:α->List Value} {p:Option Addr} {l:List α} (h:YB lim G enc e p cap l) {lim':Nat} (hl:lim'<=lim):YB lim' G enc e p cap l:=by
 rcases h with h | ⟨R,h0,h1,h2,a,b⟩
 ·exact .inl (h.le hl)
 ·exact .inr ⟨R,h0,h1,h2,a,by omega⟩
theorem Ntz [OA] {lim R n0:Nat} {T:List Int} {pp pl:Option Addr} {P:List Int} {L:List Leg} {cp cl:Nat} {H:NA} {Q:Value->NA->Prop} (hn:NetIn H pp pl P L) (w:NetOk 50 P L (OJ P)) (hm:NC H R=.map (Wv P)) (hT:okT T) (ad:n0<2 ^ 30) (M:L.length<2 ^ 62) (v:lim<=H.length)
  (hQ:∀H' p cap,Chg [] H H'->YB H.length H' R6 50 p cap ((List.range (n0+1)).map (Wz P L T))->Q (.slice p (n0+1) cap) H') :
  NP E false lim 62 [.agg (RX pp P.length cp pl L.length cl).toArray,.map (some R),.agg (R6 T).toArray,Vi n0] H Q:=by
 refine Rm (by decide) e62 rfl ?_
 rw [b62,c62]
 simp only [n62,Nnf,PZ,NM,NH,SB,seval,NJ,NE,place,NB]
 refine NZ (fun s:Nat×Option Addr×Nat=>n0-s.1) (fun s fr G=>s.1<=n0/\fr 1=.map (some R)/\fr 4=Vp H.length/\fr 9=.slice s.2.1 (s.1+1) s.2.2/\fr 19=Vi n0/\fr 20=Vi s.1/\NC G H.length=Vc (RX pp P.length cp pl L.length cl)/\Chg [] H G/\YB (H.length+1) G R6 50 s.2.1 s.2.2 ((List.range (s.1+1)).map (Wz P L T))) (0,Sa (H.length+2),1)
  ⟨Nv _,rfl,rfl,by rfl,rfl,by rfl,NQ,Chg.refl.app,.inr ⟨H.length+2,rfl,rfl,by show (1:Nat)<2 ^ 62;decide,by rw [NR];simp [Wz],by omega⟩⟩ ?_
 rintro ⟨k,p,cap⟩ fr G ⟨hk,f1,f4,f9,n,f,hB,C,D⟩ hN
 simp only at hk f9 f D
 have hl:=C.len
 have N:=Nes w hT k
 rw [OD N4t.eq_1]
 refine NL ?_
 by_cases r:k<n0
 case neg=>
  obtain rfl:k=n0:=by omega
  simp only [n62,r62,f9,n,f,r,SB,seval,NJ,NK,ND]
  exact hQ _ _ _ C.app ((D.chg (A:=[]) (Chg.refl.app) (by simp)).le (by omega))
 have b:((List.range (k+1)).map (Wz P L T)).length=k+1:=by simp
 have J:gt ((List.range (k+1)).map (Wz P L T)) k=Wz P L T k:=by
  rw [PU (by rw [b];omega)];simp
 have hS:=D.sl PZ
 have u:=fun X=>(hS.app X).loadCells PZ (i:=k) (by rw [b];omega)
 have m:=fun c (kk:IntKind) (H1:NA)=>hS.idx (c:=c) (k:=kk) (H1:=H1) (i:=k) (by rw [b];omega)
 rw [b] at m
 rw [J] at u
 have O:IntKind.i64.wrap (((k+1:Nat):Int)-1)=(k:Int):=by rw [NN (by omega) (by omega)];omega
 have S:IntKind.i64.wrap ((k:Int)+1)=((k+1:Nat):Int):=OV (by omega)
 have K:lim<=G.length:=by omega
 have F:∀(H:NA) (mp:Bool) (lim:Nat) (Q:Value->NA->Prop),NP E mp lim 63 [Vi 0,Vi (-1)] H Q=Q (.agg (R6 (List.replicate 50 (-1))).toArray) H:=fun H mp lim Q=>Nod (mp:=mp) (lim:=lim) (H:=H) (Q:=Q) (i:=0) (t:=-1) (by decide)
 have I:=fun X=>(OM.refl.app (X:=X)).cells hB
 simp only [n62,f4,f9,n,f,r,F,I,TR,Nnf,PZ,NH,O,m,u,K,show lim<=G.length+1 by omega,SB,seval,NF,NJ,NK,place,NB]
 refine Niy (cl:=cl) (A10:=G.length) (A11:=G.length+1) w hn.sl M hm v N C.app (by omega) (by omega) (by omega) NQ NR f1 rfl rfl rfl rfl rfl fun fr' G' x hC o k1 k4 k9 k11 V W=>?_
 have U:fr' 1=.map (some R):=k1.trans f1
 have Y:fr' 4=Vp H.length:=k4.trans f4
 have Z:fr' 9=.slice p (k+1) cap:=k9.trans f9
 have y:fr' 11=Vp (G.length+1):=k11.trans rfl
 have z:fr' 19=Vi n0:=V.trans n
 have B:fr' 20=Vi k:=W.trans f
 have l:=fun X=>(OM.refl.app (X:=X)).cells o
 have g:Chg [] G G':=hC.pre.mono fun j hj h=>by simp only [Nl] at h;omega
 have ac:=g.len
 have q:=D.chg g (by simp)
 change okT (Wz P L T (k+1)) at x
 change NC G' (G.length+1)=Vc (R6 (Wz P L T (k+1))) at o
 change ∀X,NC (G'++X) (G.length+1)=Vc (R6 (Wz P L T (k+1))) at l
 have ab:H.length<G.length:=NG hB
 obtain ⟨G3,e3,O3,C3,d,l3,_⟩:=q.step (lim':=lim) (bytes:=400) (by omega) PZ (by decide) (Wz P L T (k+1)) (by rw [b];unfold PM;omega) (by rw [b];omega) (by omega) [Vc (R6 (Wz P L T (k+1)))] G'.length 1 NQ
 rw [b] at e3
 have aa:lim<=G'.length:=by omega
 simp only [n62,Z,y,B,l,PZ,NM,Nnf,NH,e3,S,SB,seval,NJ,NK,place]
 refine hN (k+1,_,_) _ _ ⟨by omega,U,Y,by rfl,z,rfl, ?_,C3 _ _ (by omega) (C.trans g),.inl ?_⟩ (by show n0-(k+1)<n0-k;omega)
 ·rw [Nc] at d
  rw [Nc,d H.length (by omega) fun a ha e=>by have:=(q.block ha).1;omega]
  exact g.cells hB (by simp)
 ·rw [Po,Oq]
  exact O3
theorem N8h [OA] {mp:Bool} {lim A B i:Nat} {o1 o2:Bool} {t:Int} {T:List Int} {H:NA} {Q:Value->NA->Prop} (hi:i<50) (hT:T.length=50) (hA:NC H A=.cells o1 [Vi i]) (hB:NC H B=.cells o2 [Vi t]) :
  NP E mp lim 61 [.agg (R6 T).toArray,Vp A,Vp B] H Q=Q (.bool (decide (T.getD i (-1)=t))) H:=by
 refine pc (by decide) e61 rfl rfl ?_
 rw [b61,c61]
 have a:=fun X=>(OM.refl.app (X:=X)).cells hA
 have b:=fun X=>(OM.refl.app (X:=X)).cells hB
 have c:(0:Int)<=(i:Int):=by omega
 have d:(i:Int)<50:=by omega
 have e:i<=49:=by omega
 have gt:=VL hT hi
 simp only [n61,r61,a,b,gt,c,d,Pc,SB,seval,NJ,NK,NE,place,NB,ND]
theorem Ny6 [OA] {mp:Bool} {lim A B i k cap:Nat} {p:Option Addr} {o1 o2:Bool} {t:Int} {Ts:List (List Int)} {H:NA} {Q:Value->NA->Prop} (hi:i<50) (hA:NC H A=.cells o1 [Vi i]) (hB:NC H B=.cells o2 [Vi t]) (hs:Sl H R6 50 p Ts) (h:∀T∈Ts,T.length=50) (hn:Ts.length<2 ^ 62)
  (hk:k<Ts.length) (l:(gt Ts k).getD i (-1)=t) (m:∀j,j<k->(gt Ts j).getD i (-1)≠t) :
  NP E mp lim 60 [.slice p Ts.length cap,.func (.func 61) #[] #[Vp A,Vp B]] H Q=Q (Vi k) H:=by
 refine pc (by decide) e60 rfl rfl ?_
 rw [b60,c60]
 simp only [n60,SB,seval,NJ,reduceCtorEq,NE]
 refine NZ (fun j=>Ts.length-j) (fun j fr G=>j<=k/\fr 0=.slice p Ts.length cap/\fr 1=.func (.func 61) #[] #[Vp A,Vp B]/\fr 7=Vi Ts.length/\fr 8=Vi j/\OM H G) 0 ⟨Nv _,rfl,rfl,rfl,by rfl,OM.refl.app⟩ ?_
 intro j fr G ⟨r,f0,f1,g,o,e⟩ q
 rw [OD N4u.eq_1]
 refine NL ?_
 have a:j<Ts.length:=by omega
 have f:=fun X=>((e.sl hs).app X).loadCells PZ a
 have d:=fun c (kk:IntKind) (H1:NA)=>(e.sl hs).idx (c:=c) (k:=kk) (H1:=H1) a
 have n:IntKind.i64.wrap ((j:Int)+1)=((j+1:Nat):Int):=OV (by omega)
 have b:=fun X (mp:Bool) (lim:Nat) (Q:Value->NA->Prop)=>N8h (mp:=mp) (lim:=lim) (Q:=Q) (H:=G++X) (T:=gt Ts j) hi (h _ (QJ a)) ((e.app).cells hA) ((e.app).cells hB)
 by_cases he:j=k
 ·subst he
  rw [Ns l] at b
  simp only [n60,r60,f0,f1,g,o,a,f,d,b,SB,seval,NF,NJ,NK,reduceCtorEq,ND]
 ·rw [Oa (p:=(gt Ts j).getD i (-1)=t) (m j (by omega))] at b
  simp only [n60,f0,f1,g,o,a,f,d,n,b,SB,seval,NF,NJ,NK,reduceCtorEq]
  exact q (j+1) _ _ ⟨by omega,f0,f1,g,rfl,e.app⟩ (by omega)
theorem Njq [OA] {lim Y Bx c:Nat} {p:Option Addr} {o:Bool} {L:List Leg} {H:NA} {Q:Value->NA->Prop} (I:Nat->NA->Prop) (u:L.length<2 ^ 62)
  (g:∀i H H',I i H->Chg [] H H'->I i H')
  (f:∀i H,I i H->Sl H PO 8 p L/\NC H Bx=.cells o [.slice p L.length c]/\lim<=H.length)
  (b:∀i H,i<L.length->I i H->Ws E false lim Y [.agg (PO (gt L i)).toArray] H fun v H'=>v=.bool true/\I (i+1) H')
  (h0:I 0 H) (t:∀H',I L.length H'->Q (.tuple #[]) H') :
  NP E false lim 103 [.func (.yield Y) #[] #[],Vp Bx] H Q:=by
 refine Rm (by decide) N90 rfl ?_
 rw [Oay,N60]
 have l:=fun X=>(OM.refl.app (X:=X)).cells (f _ _ h0).2.1
 simp only [n103,l,SB,seval,NJ,NE]
 refine NZ (fun i=>L.length-i) (fun i fr G=>i<=L.length/\fr 0=.func (.yield Y) #[] #[]/\fr 5=.slice p L.length c/\fr 6=Vi L.length/\fr 7=Vi i/\I i G) 0 ⟨Nv _,rfl,rfl,rfl,by rfl,g _ _ _ h0 (Chg.refl.app)⟩ ?_
 intro i fr G ⟨hi,f0,f5,h,j,d⟩ s
 rw [OD Nys.eq_1]
 refine NL ?_
 obtain ⟨hs,hB,n⟩:=f _ _ d
 by_cases a:i<L.length
 case neg=>
  obtain rfl:i=L.length:=by omega
  simp only [n103,N85,h,j,a,SB,seval,NJ,NK]
  exact t _ (g _ _ _ d (Chg.refl.app))
 have q:=fun X=>(hs.app X).loadCells OL a
 have e:=fun c (kk:IntKind) (H1:NA)=>hs.idx (c:=c) (k:=kk) (H1:=H1) a
 have r:IntKind.i64.wrap ((i:Int)+1)=((i+1:Nat):Int):=OV (by omega)
 simp only [n103,f0,f5,h,j,a,q,e,OL,NM,n,NH,SB,seval,NF,NJ,NK,reduceCtorEq,place,NB]
 refine (b i _ a (g _ _ _ d (Chg.refl.app))).mono fun v H' hv=>?_
 obtain ⟨rfl,m⟩:=hv
 refine NL ?_
 simp only [n103,j,r,SB,seval,NJ,NK,QY]
 exact s (i+1) _ _ ⟨by omega,f0,f5,h,rfl,g _ _ _ m (Chg.refl.app)⟩ (by omega)
theorem Nql [OA] {lim Bx c:Nat} {p:Option Addr} {o:Bool} {L:List Leg} {H:NA} {Z:Value->NA->Prop} {fr0:Nat->Value} {K':List AItem} (hB:NC H Bx=.cells o [.slice p L.length c]) (hs:Sl H PO 8 p L) (hn:L.length<2 ^ 30) (J:lim<=H.length)
  (f2:fr0 2=Vp H.length)
  (W:∀H' q cap,Chg [] H H'->Own (H.length+3) H' PO 8 q cap L->NC H' H.length=Vc [.slice q L.length cap]->NC H' (H.length+1)=.dfr->H.length+3<=H'.length->QC E Nji lim (K'++[.mark (H.length+1)]) fr0 (H'++[]) Z) :
  NP E false lim 103 [.func (.yield (H.length+2)) #[] #[],Vp Bx] (H++[Vc [Vz],.dfr,.loop ⟨0,none,fr0,13,[7],Xu,Xt⟩]) fun _ A=>
   XQ (NC A (H.length+1+1)) fun x=>QC E Nji lim (Yh x++(K'++[.mark (H.length+1)])) fr0 (A.set (H.length+1+1) .dead) Z:=by
 refine Njq (c:=c) (p:=p) (o:=o) (L:=L) (fun i G=>∃q cap,NC G H.length=Vc [.slice q i cap]/\Own (H.length+3) G PO 8 q cap (L.take i)/\NC G (H.length+1)=.dfr/\NC G (H.length+2)=.loop ⟨0,none,fr0,13,[7],Xu,Xt⟩/\Chg [] H G/\H.length+3<=G.length/\i<=L.length) (by omega) ?_ ?_ ?_ ?_ ?_
 ·rintro i G G' ⟨q,cap,h1,h2,m,h,h5,D,F⟩ hC
  have:=hC.len
  exact ⟨q,cap,hC.cells h1 (by simp),h2.chg hC (by simp),hC.get m (by omega) (by simp),hC.get h (by omega) (by simp),h5.trans hC,by omega,F⟩
 ·rintro i G ⟨q,cap,h1,h2,m,h,h5,D,F⟩
  exact ⟨h5.ext.sl hs,h5.cells hB (by simp),by omega⟩
 ·rintro i G u ⟨q,cap,h2,r,hd,K,hC,hl,_⟩
  rw [Xb (x:=⟨0,none,fr0,13,[7],Xu,Xt⟩) K (by omega) rfl rfl,Wu]
  rw [OD Xu.eq_1]
  refine NL ?_
  obtain ⟨G1,e1,h1,d⟩:=OP (G:=G) (R:=H.length+2) (by omega) (.loop ⟨1,none,fr0,13,[7],Xu,Xt⟩)
  have V:=fun X=>(OM.refl.app (X:=X)).get' K (by omega)
  have t:lim<=G.length:=by omega
  simp only [OL,NH,t,V,e1,show lim<=H.length+2 by omega,SB,seval,NJ,place,NB]
  rw [OD Xt.eq_1]
  have s:Own (H.length+3) G1 PO 8 q cap (L.take i):=r.mut d fun a e=>by have:=(r.block e).1;omega
  have f:(L.take i).length=i:=by rw [O6];omega
  obtain ⟨l,e3,n,O,b,M,Y⟩:=s.step (lim':=lim) (bytes:=64) (by omega) OL (by decide) (gt L i) (by rw [f];unfold PM;omega) (by rw [f];omega) (by rw [d.len];omega) [Vc (PO (gt L i)),Vc (PO (gt L i))] (G1.length+1) 1 NR
  rw [f] at e3
  rw [d.len] at e3 n M
  simp only [Nk,No] at e3 M
  have b2:=fun X=>(OM.refl.app (X:=X)).cells (d.cells h2 (by omega))
  have S:∀X:NA,NC (G1++X) G.length=X.getD 0 .dead:=(Ng6 d.len).2.2.1
  have c6:∀(X:NA) (j:Nat),NC (G1++X) (G.length+j)=X.getD j .dead:=(Ng6 d.len).2.1
  have v:∀j,j<H.length+3->∀a,q=some a->j≠a.block:=fun j I a e hh=>by have:=(r.block e).1;omega
  have w:NC (l++[]) H.length=Vc [.slice q i cap]:=(b _ (by rw [d.len];omega) (v _ (by omega))).trans (d.cells h2 (by omega))
  have N:NC (l++[]) (H.length+2)=_:=(b _ (by rw [d.len];omega) (v _ (by omega))).trans h1
  have C:NC (l++[]) (H.length+1)=_:=(b _ (by rw [d.len];omega) (v _ (by omega))).trans (d.alive hd (by omega))
  rw [Nc] at w N C n
  obtain ⟨P,T,h,g⟩:=OP (NG w) (Vc [.slice (Sa (G.length+2)) (i+1) (loose 8)])
  have z:=g.alive N (by omega)
  have y4:=fun X=>(OM.refl.app (X:=X)).get' z (by rw [g.len];omega)
  obtain ⟨Q,U,h5,k⟩:=OP (G:=P) (R:=H.length+2) (by rw [g.len];omega) (.loop ⟨0,none,fr0,13,[7],Xu,Xt⟩)
  have y:=fun X=>(OM.refl.app (X:=X)).cells w
  simp only [f2,OL,NM,NH,b2,S,d.len,e3,T,U,y4,y,show lim<=H.length by omega,show lim<=H.length+2 by omega,SB,seval,NJ,place,NB]
  have B:=O [] H (by omega) (hC.mut d (.inr (by omega)))
  rw [Nc] at B
  have l5:Q.length=l.length:=by rw [k.len,g.len]
  refine ⟨_,_,(OM.refl.app).cells (k.cells h (by omega)), ?_,(OM.refl.app).get' (k.alive (g.alive C (by omega)) (by omega)) (by omega),(OM.refl.app).get' h5 (by omega),((B.mut g (.inr (by omega))).mut k (.inr (by omega))).app,by omega,by omega⟩
  rw [WJ u]
  exact ((n.mut g fun a e=>by cases e;show G.length+2≠_;omega).mut k fun a e=>by cases e;show G.length+2≠_;omega).app _
 ·exact ⟨none,0,NQ,.nil,by rw [NR];rfl,by rw [NR];rfl,Chg.refl.app,by simp,Nv _⟩
 ·rintro H' ⟨q,cap,h1,h2,m,h,h5,D,_⟩
  rw [Ol] at h2
  rw [Npu (show NC H' (H.length+1+1)=_ from h),Nzs]
  show QC E Nji lim (K'++[.mark (H.length+1)]) fr0 _ _
  have hC:Mut H' (H'.set (H.length+1+1) .dead) (H.length+1+1):=⟨by simp,fun j I=>PS I⟩
  refine NL ?_
  exact W _ q cap (h5.mut hC (.inr (by omega))) (h2.mut hC fun a e=>by have:=(h2.block e).1;omega) (hC.cells h1 (by omega)) (hC.alive m (by omega)) (by rw [hC.len];omega)
theorem Nqk [OA] {lim Bx c:Nat} {p:Option Addr} {o:Bool} {L:List Leg} {H:NA} {Q:Value->NA->Prop} (hB:NC H Bx=.cells o [.slice p L.length c]) (hs:Sl H PO 8 p L) (hn:L.length<2 ^ 30) (d:lim<=H.length)
  (i:∀H' q cap,Chg [] H H'->Own (H.length+3) H' PO 8 q cap L->Q (.slice q L.length cap) H') :
  NP E false lim 132 [Vz,.func (.func 103) #[] #[Vp Bx]] H Q:=by
 refine Rm (by decide) N9l rfl ?_
 rw [Oai,N6q]
 have b:(H++[Vc [Value.slice none 0 0]]).length=H.length+1:=by simp
 simp only [n132,SB,seval,NF,NJ,NE,place,NB]
 rw [b]
 refine Nql hB hs hn d rfl fun H' q cap hC h h2 hd hl=>?_
 have f:=fun X=>(OM.refl.app (X:=X)).cells h2
 have g:=fun X=>(OM.refl.app (X:=X)).get' hd (by omega)
 show QC E Nji lim (.inBlock 0::.code _::.code .retM::.mark (H.length+1)::[]) _ _ _
 simp only [n132,N8z,f,g,show lim<=H.length+1 by omega,SB,seval,NJ,ND]
 have hm:Mut (H'++[]) ((H'++[]).set (H.length+1) .dead) (H.length+1):=⟨by simp,fun j k=>PS k⟩
 exact i _ _ _ (hC.app.mut hm (.inr (by omega))) ((h.app []).mut hm fun a e=>by have:=(h.block e).1;omega)
theorem Np8 [OA] {lim Bx c:Nat} {p:Option Addr} {o:Bool} {L:List Leg} {H:NA} {Q:Value->NA->Prop} (hB:NC H Bx=.cells o [.slice p L.length c]) (hs:Sl H PO 8 p L) (hn:L.length<2 ^ 30) (a:lim<=H.length)
  (d:∀H' q cap,Chg [] H H'->Own (H.length+3) H' PO 8 q cap L->Q (.slice q L.length cap) H') :
  NP E false lim 101 [.func (.func 103) #[] #[Vp Bx]] H Q:=by
 refine Rm (by decide) N91 rfl ?_
 rw [Oaz,N61]
 simp only [n101,SB,seval,NF,NJ,reduceCtorEq,NE]
 rw [Nc]
 refine Nqk hB hs hn a fun H' q cap hC b=>?_
 refine NL ?_
 simp only [n101,N86,SB,seval,NJ,ND]
 exact d _ _ _ hC.app (b.app _)
end Go.Proofs.YtkppjkkkdpcgiaaGreat.Fn


namespace Go.Proofs.YtkppjkkkdpcgiaaGreat.Fn
open Go.AM Go.AM.Sym Go.Scan
theorem Ny2 [OA] {mp:Bool} {lim:Nat} {n:Int} {H:NA} {Q:Value->NA->Prop}:NP E mp lim 104 [Vi n] H Q=Q (.bool false) H:=by
 refine pc (by decide) N9z rfl rfl ?_
 rw [Oax,N6z]
 simp only [n104,N84,SB,seval,NJ,NK,reduceCtorEq,NE,ND]
theorem Nt7 [OA] {mp:Bool} {lim:Nat} {n:Int} {H:NA} {Q:Value->NA->Prop}:NP E mp lim 156 [.int .u8 n] H Q=Q (.bool false) H:=by
 refine pc (by decide) N9c rfl rfl ?_
 rw [N99,c156]
 simp only [n156,N8u,SB,seval,NJ,NK,reduceCtorEq,NE,ND]
def Nml (a b:Int):Int:=if a<b then -1 else if b<a then 1 else 0
theorem Np9 [OA] {mp:Bool} {lim:Nat} {a b:Int} {H:NA} {Q:Value->NA->Prop}:NP E mp lim 67 [Vi a,Vi b] H Q=Q (Vi (Nml a b)) H:=by
 refine pc (by decide) e67 rfl rfl ?_
 rw [b67,c67]
 simp only [n67,Ny2,SB,seval,NF,NJ,NK,reduceCtorEq,NE]
 repeat' ((first | refine WE (fun hw=>?_) (fun hw=>?_) | refine WW (fun hw=>?_) (fun hw=>?_) | refine WG (fun hw=>?_) (fun hw=>?_) | refine WX (fun hw=>?_) (fun hw=>?_))<;>(try simp only [hw,n67,r67,SB,Nat.reduceLT,NJ,Nat.reduceEqDiff,NK,reduceCtorEq,NE,ND]))
 all_goals simp [Nml, *]
theorem N3s [OA] {mp:Bool} {lim:Nat} {a b:Int} {H:NA} {Q:Value->NA->Prop}:NP E mp lim 131 [.int .u8 a,.int .u8 b] H Q=Q (Vi (Nml a b)) H:=by
 refine pc (by decide) N9m rfl rfl ?_
 rw [Oaj,c131]
 simp only [n131,Nt7,SB,seval,NF,NJ,NK,reduceCtorEq,NE]
 repeat' ((first | refine WE (fun hw=>?_) (fun hw=>?_) | refine WW (fun hw=>?_) (fun hw=>?_) | refine WG (fun hw=>?_) (fun hw=>?_) | refine WX (fun hw=>?_) (fun hw=>?_))<;>(try simp only [hw,n131,N80,SB,Nat.reduceLT,NJ,Nat.reduceEqDiff,NK,reduceCtorEq,NE,ND]))
 all_goals simp [Nml, *]
def orL:List Int->Int
 | []=>0
 | x::l=>if x≠0 then x else orL l
theorem Nw4 {l:List Int} {i:Nat} (h:i<l.length):orL (l.drop i)=if gt l i≠0 then gt l i else orL (l.drop (i+1)):=by
 rw [Ow h,orL,PU h]
theorem N7w [OA] (mp:Bool) (lim:Nat) {p:Option Addr} {l:List Int} {cap:Nat} {H:NA} {Q:Value->NA->Prop} (hs:Sl H encI 1 p l) (hn:l.length<2 ^ 62) :
  NP E mp lim 125 [.slice p l.length cap] H Q=Q (Vi (orL l)) H:=by
 refine pc (by decide) N9p rfl rfl ?_
 rw [Oam,N6s]
 simp only [n125,SB,seval,NJ,reduceCtorEq,NE]
 refine NZ (fun i=>l.length-i) (fun i fr G=>i<=l.length/\fr 6=.slice p l.length cap/\fr 7=Vi l.length/\fr 8=Vi i/\fr 3=Vi 0/\Sl G encI 1 p l/\
  orL l=orL (l.drop i)) 0 ⟨Nv _,rfl,rfl,by rfl,rfl,hs.app _,rfl⟩ ?_
 intro i fr G ⟨hi,m,e,f,d,g,ha⟩ n
 rw [OD Nyp.eq_1]
 refine NL ?_
 by_cases a:i<l.length
 ·have h:=(g.app []).loadCell0 (fun _=>rfl) a (by decide)
  have b:=fun c (k:IntKind) (H1:NA)=>g.idx (c:=c) (k:=k) (H1:=H1) a
  have j:IntKind.i64.wrap ((i:Int)+1)=((i+1:Nat):Int):=OV (by omega)
  rw [Nw4 a] at ha
  simp only [n125,m,e,f,d,a,b,h,encI,SB,seval,NJ,NK]
  repeat' ((first | refine WE (fun hw=>?_) (fun hw=>?_) | refine WW (fun hw=>?_) (fun hw=>?_) | refine WG (fun hw=>?_) (fun hw=>?_) | refine WX (fun hw=>?_) (fun hw=>?_))<;>(try simp only [hw,n125,N7m,f,j,SB,Nat.reduceLT,NJ,Nat.reduceEqDiff,NK,ND]))
  ·rw [ha,Nh hw]
  ·refine n (i+1) _ _ ⟨by omega,m,e,rfl,d,g.app _, ?_⟩ (by omega)
   rw [ha,Ng hw]
 ·obtain rfl:i=l.length:=by omega
  rw [Qt,orL] at ha
  simp only [n125,N7m,e,f,d,a,ha,SB,seval,NJ,NK,ND]
def ZF:List Value->List Int
 | .int _ a::r=>a::ZF r
 | _=>[]
def Na0:List Value->Bool
 | .int .i64 _::r=>Na0 r
 | []=>true
 | _=>false
theorem Yt {j:IntKind} {a:Int} {r:List Value}:ZF (.int j a::r)=a::ZF r:=rfl
theorem Nef:ZF []=[]:=rfl
theorem Nbs {a:Int} {r:List Value}:Na0 (Vi a::r)=Na0 r:=id rfl
theorem Nd2:Na0 []=true:=id rfl
theorem Nhd:∀c:List Value,Na0 c=true->c=(ZF c).flatMap encI
 | [],_=>rfl
 | .int .i64 a::r,h=>by
   rw [Yt,Om,<-Nhd r h];rfl
theorem Nw3 [OA] {mp:Bool} {lim b n cap:Nat} {H:NA} {Q:Value->NA->Prop} (h1:isCells (NC H b)=true) (h2:Na0 (cellsOf (NC H b))=true) (a:(ZF (cellsOf (NC H b))).length=n) (c:n<2 ^ 62) :
  NP E mp lim 125 [.slice (Sa b) n cap] H Q=Q (Vi (orL (ZF (cellsOf (NC H b))))) H:=by
 subst a
 rw [N7w mp lim (Sl.lit (fun _=>rfl) h1 (Nhd _ h2)) c]
theorem Ng5 {a b:Int} {x y:List Int}:RS (a::x) (b::y)=if Nml a b≠0 then Nml a b else RS x y:=by
 rw [RS]
 unfold Nml
 by_cases h1:a<b
 ·simp [h1]
 ·by_cases h2:b<a
  ·simp [h1,h2]
  ·simp [h1,h2]
theorem Nlp:RS [] []=0:=rfl
theorem N0e [OA] {mp:Bool} {lim:Nat} {a b:Mk} {H:NA} {Q:Value->NA->Prop}:NP E mp lim 124 [.agg (QH a).toArray,.agg (QH b).toArray] H Q=Q (Vi (RS (R7 a) (R7 b))) H:=by
 refine pc (by decide) N8c rfl rfl ?_
 rw [Oan,c124]
 simp only [n124,N81,QH,Np9,Nw3,Zp,Zu,Yt,Nef,Nbs,Nd2,Nat.reducePow,SB,seval,NF,NJ,NE,place,NB,ND]
 simp only [R7,Ng5,Nlp,orL]
theorem N0f [OA] {mp:Bool} {lim:Nat} {a b:Ev} {H:NA} {Q:Value->NA->Prop}:NP E mp lim 96 [.agg (encE a).toArray,.agg (encE b).toArray] H Q=Q (Vi (RS (Sy a) (Sy b))) H:=by
 refine pc (by decide) e96 rfl rfl ?_
 rw [b96,c96]
 simp only [n96,r96,encE,Np9,N3s,Nw3,Zp,Zu,Yt,Nef,Nbs,Nd2,Nat.reducePow,SB,seval,NF,NJ,NE,place,NB,ND]
 simp only [Sy,Ng5,Nlp,orL]
theorem Ml [OA] {mp:Bool} {lim:Nat} {a b:Mk} {H:NA} {Q:Value->NA->Prop}:NP E mp lim 127 [.agg (QH a).toArray,.agg (QH b).toArray] H Q=Q (.bool (decide (R4 a b))) H:=by
 refine pc (by decide) N9o rfl rfl ?_
 rw [Oal,c127]
 unfold R4
 by_cases h1:a.scanner=b.scanner
 ·simp only [n127,N7l,QH,N3 h1,decide_true,Rd,SB,seval,NJ,NK,NE,place,NB,ND]
 ·simp only [n127,N7l,QH,Np h1,decide_false,false_and,SB,seval,NJ,NK,NE,place,NB,ND]
theorem N6c {a b:Int} (h:0<b):a / b=if Int.tmod a b<0 then Int.tdiv a b-1 else Int.tdiv a b:=by
 have h1:=Int.mul_tdiv_add_tmod a b
 by_cases ha:0<=a
 ·rw [Ng (by have:=Int.tmod_nonneg b ha;omega),P4 ha]
 ·have hm:Int.tmod a b<=0:=by
   have:=Int.tmod_nonneg b (a:=-a) (by omega)
   rw [Int.neg_tmod] at this;omega
  have c:-b<Int.tmod a b:=by
   have:=Int.tmod_lt_of_pos (-a) h
   rw [Int.neg_tmod] at this;omega
  by_cases h0:Int.tmod a b<0
  ·rw [Nh h0]
   exact ((Int.ediv_emod_unique (a:=a) (r:=Int.tmod a b+b) (q:=Int.tdiv a b-1) h).mpr ⟨by rw [Int.mul_sub,Int.mul_one];omega,by omega,by omega⟩).1
  ·rw [Ng h0]
   exact ((Int.ediv_emod_unique (a:=a) (r:=Int.tmod a b) (q:=Int.tdiv a b) h).mpr ⟨by omega,by omega,by omega⟩).1
theorem N6b [OA] {mp:Bool} {lim:Nat} {a b:Int} {H:NA} {Q:Value->NA->Prop} (h:0<b) (h1:-2 ^ 62<=a) (h2:a<=2 ^ 62):NP E mp lim 145 [Vi a,Vi b] H Q=Q (Vi (a / b)) H:=by
 refine pc (by decide) N9d rfl rfl ?_
 rw [Oaa,c145]
 have g:-2 ^ 62<=Int.tdiv a b/\Int.tdiv a b<=2 ^ 62:=by
  have:=Int.natAbs_tdiv_le_natAbs a b
  omega
 have c:¬b=0:=by omega
 have e:=N6c (a:=a) h
 have d:IntKind.i64.wrap (Int.tdiv a b)=Int.tdiv a b:=NN (by omega) (by omega)
 have f:IntKind.i64.wrap (Int.tdiv a b-1)=Int.tdiv a b-1:=NN (by omega) (by omega)
 have l:IntKind.i64.wrap (Int.tmod a b)=Int.tmod a b:=by
  have i:=Int.tmod_lt_of_pos a h
  have j:=Int.natAbs_tmod a b
  have k:a.natAbs % b.natAbs<=a.natAbs:=Nat.mod_le _ _
  exact NN (by omega) (by omega)
 by_cases hm:Int.tmod a b<0
 ·rw [Nh hm] at e
  simp only [n145,N7i,Np c,d,f,N3 hm,e,SB,seval,NJ,NK,reduceCtorEq,NE,ND]
 ·rw [Ng hm] at e
  simp only [n145,N7i,Np c,d,Np hm,e,SB,seval,NJ,NK,reduceCtorEq,NE,ND]
theorem N2n [OA] {mp:Bool} {lim B1 B2 c i:Nat} {o1 o2:Bool} {p:Option Addr} {M:List Mk} {sc:Int} {H:NA} {Q:Value->NA->Prop} (h1:NC H B1=.cells o1 [.slice p M.length c]) (h2:NC H B2=.cells o2 [Vi sc]) (hs:Sl H QH 3 p M) (hi:i<M.length) :
  NP E mp lim 171 [Vi i,Vp B1,Vp B2] H Q=Q (.bool (decide (sc<=(gt M i).scanner))) H:=by
 refine pc (by decide) N87 rfl rfl ?_
 rw [N94,c171]
 have d:=fun X=>(OM.refl.app (X:=X)).cells h1
 have e:=fun X=>(OM.refl.app (X:=X)).cells h2
 have b:=fun X=>(hs.app X).loadCell (fun _=>rfl) hi (show 0<3 by decide)
 have a:=fun c (k:IntKind) (H1:NA)=>hs.idx (c:=c) (k:=k) (H1:=H1) hi
 simp only [n171,N8r,d,e,b,a,N57,SB,Nat.reduceLT,NJ,Nat.reduceEqDiff,NK,reduceCtorEq,NE,ND]
theorem N7c {x:Int}:IntKind.u64.wrap x=x % 2 ^ 64:=by
 simp only [IntKind.wrap,IntKind.bits,IntKind.signed]
 simp
theorem Nsi [OA] {mp:Bool} {lim B1 B2 c f:Nat} {o1 o2:Bool} {p:Option Addr} {M:List Mk} {sc:Int} {H:NA} {Q:Value->NA->Prop} (h1:NC H B1=.cells o1 [.slice p M.length c]) (h2:NC H B2=.cells o2 [Vi sc]) (hs:Sl H QH 3 p M) (hn:M.length<2 ^ 40)
  (t:f<=M.length) (l:∀i,i<f->(gt M i).scanner<sc) (k:∀i,f<=i->i<M.length->sc<=(gt M i).scanner) :
  NP E mp lim 170 [Vi M.length,.func (.func 171) #[] #[Vp B1,Vp B2]] H Q=Q (Vi f) H:=by
 refine pc (by decide) N88 rfl rfl ?_
 rw [N95,N6i]
 simp only [n170,SB,Nat.reduceLT,NJ,Nat.reduceEqDiff,reduceCtorEq,NE]
 refine NZ (fun s:Nat×Nat=>s.2-s.1) (fun s fr G=>s.1<=f/\f<=s.2/\s.2<=M.length/\fr 1=.func (.func 171) #[] #[Vp B1,Vp B2]/\fr 5=Vi s.1/\fr 6=Vi s.2/\OM H G) (0,M.length)
  ⟨Nv _,t,Nd _,rfl,by rfl,rfl,OM.refl.app⟩ ?_
 rintro ⟨i,j⟩ fr G ⟨k1,k2,k3,h,b,d,e⟩ m
 simp only at k1 k2 k3 b d
 rw [OD Nyh.eq_1]
 refine NL ?_
 have v:=fun X=>(e.app (X:=X)).cells h1
 have w:=fun X=>(e.app (X:=X)).cells h2
 have x:=fun X=>(e.app (X:=X)).sl hs
 have n:IntKind.i64.wrap ((i:Int)+(j:Int))=(i:Int)+(j:Int):=NN (by omega) (by omega)
 have q:IntKind.u64.wrap ((i:Int)+(j:Int))=(i:Int)+(j:Int):=by rw [N7c];omega
 have o:IntKind.i64.wrap (((i:Int)+(j:Int)).fdiv (2 ^ min (Int.toNat 1) IntKind.u64.bits))=(((i+j) / 2:Nat):Int):=by
  rw [show (2:Int) ^ min (Int.toNat 1) IntKind.u64.bits=2 from by decide,Rg _ (by decide)]
  exact (NN (by omega) (by omega)).trans (by omega)
 have wd:IntKind.i64.wrap ((((i+j) / 2:Nat):Int)+1)=(((i+j) / 2+1:Nat):Int):=OV (by omega)
 by_cases a:i<j
 ·have ho:=fun (H':NA) (h1:_) (h2:_) (r:_) (lim:Nat) (Q:Value->NA->Prop)=>N2n (mp:=false) (lim:=lim) (H:=H') (o1:=o1) (o2:=o2) (B1:=B1) (B2:=B2) (c:=c) (p:=p) (sc:=sc) (Q:=Q) (M:=M) (i:=(i+j) / 2) h1 h2 r (by omega)
  have g:=fun (X:NA)=>ho (G++X) (v X) (w X) (x X)
  by_cases u:(i+j) / 2<f
  ·have hl:=l _ u
   have hd:decide (sc<=(gt M ((i+j) / 2)).scanner)=false:=Oa (by omega)
   simp only [n170,h,b,d,a,n,q,o,wd,g,hd,SB,Nat.reduceLT,NF,NJ,Nat.reduceEqDiff,NK,QY,Int.reduceLT]
   refine m ((i+j) / 2+1,j) _ _ ⟨by omega,k2,k3,h,rfl,d,e.app⟩ (by simp only;omega)
  ·have hl:=k ((i+j) / 2) (by omega) (by omega)
   have hd:decide (sc<=(gt M ((i+j) / 2)).scanner)=true:=Ns hl
   simp only [n170,h,b,d,a,n,q,o,g,hd,SB,Nat.reduceLT,NF,NJ,Nat.reduceEqDiff,NK,QY,Int.reduceLT]
   refine m (i,(i+j) / 2) _ _ ⟨k1,by simp only;omega,by simp only;omega,h,b,rfl,e.app⟩ (by simp only;omega)
 ·obtain rfl:i=f:=by omega
  simp only [n170,N8s,b,d,a,SB,Nat.reduceLT,NJ,Nat.reduceEqDiff,NK,ND]
def Nfy (sc:Int) (D:List Mk) (i:Nat):List Mk:=(D.drop i).takeWhile fun m=>m.scanner == sc
theorem Nww {sc:Int} {D:List Mk} {i:Nat} (h:i<D.length) (hs:(gt D i).scanner=sc):Nfy sc D i=gt D i::Nfy sc D (i+1):=by
 unfold Nfy
 rw [Ow h,<-PU h,List.takeWhile_cons_of_pos (by simpa using hs)]
theorem N13 {sc:Int} {D:List Mk} {i:Nat} (h:i<D.length) (hs:¬(gt D i).scanner=sc):Nfy sc D i=[]:=by
 unfold Nfy
 rw [Ow h,<-PU h,List.takeWhile_cons_of_neg (by simpa using hs)]
theorem Nwx {sc:Int} {D:List Mk}:Nfy sc D D.length=[]:=by
 unfold Nfy;rw [Qt];rfl
def VJ (sc:Int) (M:List Mk):Nat:=(M.takeWhile fun m=>decide (m.scanner<sc)).length
def N32 (M:List Mk):Prop:=M.Pairwise fun a b=>a.scanner<=b.scanner
theorem N12 {M:List Mk} (h:M.Pairwise ZW):N32 M:=h.imp fun {a b} q=>by unfold ZW at q;omega
theorem ML {sc:Int}:∀{M:List Mk},N32 M->VJ sc M<=M.length/\(∀i,i<VJ sc M->(gt M i).scanner<sc)/\(∀i,VJ sc M<=i->i<M.length->sc<=(gt M i).scanner)/\Nfy sc (M.drop (VJ sc M)) 0=ofN M sc
 | [],_=>⟨Nd _,fun i h=>absurd h (by simp [VJ]),fun i _ h=>absurd h (by simp),rfl⟩
 | m::M,h=>by
   obtain ⟨h1,h2⟩:=List.pairwise_cons.mp h
   obtain ⟨j,d,f,g⟩:=ML (sc:=sc) h2
   by_cases hm:m.scanner<sc
   ·have e:VJ sc (m::M)=VJ sc M+1:=by
     unfold VJ
     rw [List.takeWhile_cons_of_pos (by simpa using hm),Nk]
    rw [e]
    refine ⟨by simp only [Nk];omega,fun i hi=>?_,fun i hi hl=>?_, ?_⟩
    ·cases i with
     | zero=>rw [MG];exact hm
     | succ i=>rw [Ti];exact d i (by omega)
    ·cases i with
     | zero=>omega
     | succ i=>rw [Ti];exact f i (by omega) (by simpa using hl)
    ·rw [List.drop_succ_cons,g]
     unfold ofN
     rw [P2 (by simp;omega)]
   ·have e:VJ sc (m::M)=0:=by
     unfold VJ
     rw [List.takeWhile_cons_of_neg (by simpa using hm)];rfl
    rw [e]
    refine ⟨Nv _,fun i hi=>absurd hi (Nat.not_lt_zero i),fun i _ hl=>?_, ?_⟩
    ·cases i with
     | zero=>rw [MG];omega
     | succ i=>
       rw [Ti]
       have b:i<M.length:=by simpa using hl
       have:=h1 _ (QJ b);omega
    ·rw [Ox]
     unfold Nfy ofN
     rw [Ox]
     clear j d f g e
     have key:∀L:List Mk,N32 L->(∀x∈L,sc<=x.scanner)->(L.takeWhile fun m=>m.scanner == sc)=L.filter fun m=>m.scanner == sc:=by
      intro L
      induction L with
      | nil=>intros;rfl
      | cons x L ih=>
        intro hL a
        obtain ⟨k1,k2⟩:=List.pairwise_cons.mp hL
        by_cases hx:x.scanner=sc
        ·rw [List.takeWhile_cons_of_pos (by simpa using hx),Qg (by simpa using hx),ih k2 fun y c=>a y (Nj _ c)]
        ·rw [List.takeWhile_cons_of_neg (by simpa using hx),P2 (by simpa using hx)]
         symm
         rw [List.filter_eq_nil_iff]
         intro y c
         have k:=k1 y c
         have l:=a x Nm
         simp;omega
     exact key _ h fun x hx=>by
      rcases Nn.mp hx with rfl | hx
      ·omega
      ·have:=h1 x hx;omega
theorem N7z [OA] {lim c n:Nat} {p:Option Addr} {sc:Int} {H:NA} {Q:Value->NA->Prop} :
  NP E false lim 144 [.slice p n c,Vi sc] H Q=Q (.func (.func 169) #[] #[Vp H.length,Vp (H.length+1)]) (H++[Vc [.slice p n c],Vc [Vi sc]]):=by
 refine NP.eq ?_
 refine Rm (by decide) N9e rfl ?_
 rw [Oab,N6l]
 simp only [n144,N8v,SB,seval,NJ,NE,place,NB,ND]
def Nhu (K:Nat->Prop) (H H':NA):Prop:=H.length<=H'.length/\∀j,K j->NC H' j=NC H j
theorem Nhu.sl {α:Type} {K:Nat->Prop} {H H':NA} {enc:α->List Value} {e:Nat} {p:Option Addr} {l:List α} (h:Nhu K H H') (hs:Sl H enc e p l) (hp:∀a,p=some a->K a.block):Sl H' enc e p l:=by
 cases p with
 | none=>exact hs
 | some a=>
   refine ⟨hs.1,fun hl=>?_⟩
   obtain ⟨ro,c,h1,h2⟩:=hs.2 hl
   exact ⟨ro,c,(h.2 _ (hp a rfl)).trans h1,h2⟩
theorem N2m [OA] {lim Y B1 B2 c:Nat} {p:Option Addr} {M:List Mk} {sc:Int} {H:NA} {Q:Value->NA->Prop} (I:List Mk->NA->Prop) (K:Nat->Prop)
  (w:∀rest H H',I rest H->Chg [] H H'->I rest H')
  (o:∀m rest G,m∈M->m.scanner=sc->H.length<=G.length->I (m::rest) G->Ws E false lim Y [.agg (QH m).toArray] G fun v H'=>Nhu K G H'/\(v=.bool true/\I rest H'\/v=.bool false/\∀X,Q (.tuple #[]) (H'++X)))
  (h1:NC H B1=Vc [.slice p M.length c]) (h2:NC H B2=Vc [Vi sc]) (hs:Sl H QH 3 p M) (hc:Ve 3 c M.length) (hn:M.length<2 ^ 40) (hM:N32 M) (hl:lim<=H.length)
  (C:K B2) (D:M≠[]->∀a,p=some a->K a.block) (h0:I (ofN M sc) H) (O:∀H',I [] H'->Q (.tuple #[]) H') :
  NP E false lim 169 [.func (.yield Y) #[] #[],Vp B1,Vp B2] H Q:=by
 refine Rm (by decide) N89 rfl ?_
 rw [N96,N6j]
 obtain ⟨f1,f2,f3,f4⟩:=ML (sc:=sc) hM
 have R:=fun X=>(OM.refl.app (X:=X)).cells h1
 have S:=fun X=>(OM.refl.app (X:=X)).cells h2
 have q3:=fun X=>(OM.refl.app (H:=H) (X:=X)).sl hs
 have F:=fun (X:NA) (lim:Nat) (Q:Value->NA->Prop)=>Nsi (mp:=false) (lim:=lim) (Q:=Q) (sc:=sc) (R X) (S X) (q3 X) hn f1 f2 f3
 generalize Z:VJ sc M=f at *
 obtain ⟨q,cq,e1,T,m0,m1,_⟩:=YI (vlo:=some (Vi f)) (vhi:=none) (lo:=f) (hi:=M.length) hs hc QK (fun cap P=>by rw [Nqc (by omega) (by omega),N7]) f1 (Nd _) (by omega)
 rw [Ol] at T
 have N:(M.drop f).length=M.length-f:=Pj
 simp only [n169,R,F,e1,SB,seval,NF,NJ,NE]
 refine NZ (fun i=>M.length-f-i) (fun i fr G=>i<=M.length-f/\fr 0=.func (.yield Y) #[] #[]/\fr 2=Vp B2/\fr 13=.slice q (M.length-f) cq/\fr 14=Vi ((M.length-f:Nat):Int)/\fr 15=Vi i/\
  NC G B2=Vc [Vi sc]/\Sl G QH 3 q (M.drop f)/\H.length<=G.length/\I (Nfy sc (M.drop f) i) G) 0
  ⟨Nv _,rfl,rfl,rfl,rfl,by rfl,S _,T.app _,by simp,by rw [f4];exact w _ _ _ h0 (Chg.refl.app)⟩ ?_
 rintro i fr G ⟨hi,L,A,s,l,n,U,B,gL,u⟩ V
 rw [OD Nyi.eq_1]
 refine NL ?_
 by_cases g:i<M.length-f
 ·have d:i<(M.drop f).length:=by omega
  have t:=fun X=>(OM.refl.app (X:=X)).cells U
  have y:=fun X=>(B.app X).loadCells QK d
  have r:∀(c:Nat) (k:IntKind) (H1:NA),MC 3 (.slice q (M.length-f) c) (.int k (i:Int)) H1=some (.pointer (some (YV q 3 i)),H1):=fun c k H1=>by
   rw [<-N];exact B.idx d
  have J:IntKind.i64.wrap ((i:Int)+1)=((i+1:Nat):Int):=OV (by omega)
  have x:lim<=G.length:=by omega
  have z:gt (M.drop f) i∈M:=List.mem_of_mem_drop (QJ d)
  by_cases j:(gt (M.drop f) i).scanner=sc
  ·rw [Nww d j] at u
   simp only [n169,L,A,s,l,n,t,NW,g,y,r,x,N3 j,QH,decide_false,decide_true,SB,seval,NF,NJ,NK,reduceCtorEq,place,NB]
   refine (o _ _ _ z j (by simp;omega) (w _ _ _ u Chg.refl.app)).mono fun v H' hv=>?_
   obtain ⟨hk,⟨rfl,hi'⟩ | ⟨rfl,hq⟩⟩:=hv
   ·refine NL ?_
    simp only [n169,n,J,SB,seval,NJ,NK,QY]
    refine V (i+1) _ _ ⟨by omega,L,A,s,l,rfl, ?_, ?_, ?_, ?_⟩ (by omega)
    ·exact (OM.refl.app).cells ((hk.2 _ C).trans (t _))
    ·exact (hk.sl (B.app _) fun a ha=>by
      obtain ⟨b,W,e⟩:=m1 a ha
      rw [e];exact D (fun h=>by rw [h] at g;simp at g) b W).app _
    ·have:=hk.1
     simp at this⊢;omega
    ·exact w _ _ _ hi' Chg.refl.app
   ·refine NL ?_
    simp only [n169,N5d,SB,seval,NJ,QY]
    exact hq _
  ·rw [N13 d j] at u
   simp only [n169,N5d,A,s,l,n,t,NW,g,y,r,x,Np j,QH,not_false_eq_true,decide_true,SB,seval,NJ,NK,place,NB]
   exact O _ (w _ _ _ u Chg.refl.app)
 ·obtain rfl:i=M.length-f:=by omega
  rw [<-N,Nwx] at u
  simp only [n169,N5d,l,n,NW,g,SB,seval,NJ,NK]
  exact O _ (w _ _ _ u Chg.refl.app)
structure OSt (L:Nat) (fr0:Nat->Value) (t r:Int) (last:Mk) (st:Nat) (pd:Option ACode) (G:NA):Prop where
 bt:NC G L=Vc [Vi t]
 br:NC G (L+1)=Vc [Vi r]
 bl:NC G (L+2)=Vc (QH last)
 dfr:NC G (L+5)=.dfr
 loop:NC G (L+6)=.loop ⟨st,pd,fr0,46,[12],UQ,UN⟩
 len:L+7<=G.length
theorem OSt.chg {L:Nat} {fr0:Nat->Value} {t r:Int} {last:Mk} {st:Nat} {pd:Option ACode} {G G':NA} (h:OSt L fr0 t r last st pd G) (hC:Chg [] G G'):OSt L fr0 t r last st pd G':=by
 have len:=h.len
 exact ⟨hC.cells h.bt (by simp),hC.cells h.br (by simp),hC.cells h.bl (by simp),hC.get h.dfr (by omega) (by simp),hC.get h.loop (by omega) (by simp),by have:=hC.len;omega⟩
def Nnd (t:Int) (last:Mk) (rest:List Mk):Prop:=(last=Tn\/MM last/\last.at'<t)/\(∀m∈rest,MM m/\(last=Tn\/last.at'<m.at'))/\N4e rest
theorem Nnd.next {t:Int} {last m:Mk} {rest:List Mk} (h:Nnd t last (m::rest)) (hm:m.at'<t):Nnd t m rest:=by
 obtain ⟨h1,h2,a⟩:=h
 obtain ⟨k1,k2⟩:=List.pairwise_cons.mp a
 exact ⟨.inr ⟨(h2 m Nm).1,hm⟩,fun x hx=>⟨(h2 x (Nj _ hx)).1,.inr (k1 x hx)⟩,k2⟩
theorem Nz1 {a b:Mk}:(a.scanner=b.scanner/\a.at'=b.at'/\a.off=b.off)↔a=b:=by
 obtain ⟨c,d,a3⟩:=a;obtain ⟨b1,b2,b3⟩:=b
 simp
theorem Nz2 {a b:Mk}:aEq (.agg [.int .i64,.int .i64,.int .i64]) (.agg (QH a).toArray) (.agg (QH b).toArray)=some (decide (a=b)):=by
 simp only [aEq,QH,PP,Tz,and_self,if_true]
 congr 1
 rw [Rf,decide_eq_true_iff,<-Nz1]
 simp
theorem Njo {a:Mk}:aEq (.agg [.int .i64,.int .i64,.int .i64]) (.agg (QH a).toArray) (.agg #[Vi 0,Vi 0,Vi 0])=some (decide (a=Tn)):=Nz2 (b:=Tn)
theorem Yc {fr:Nat->Value} {p:Nat} {v:Value}:SK fr [p] [v]=upd fr p v:=rfl
theorem Ntq {a b A B:Int} (h1:-A<=a) (h2:a<=A) (c:0<=b) (d:b<=B):-(A*B)<=a*b/\a*b<=A*B:=by
 have hA:0<=A:=by omega
 constructor
 ·have e1:-A*b<=a*b:=Int.mul_le_mul_of_nonneg_right h1 c
  have e2:A*b<=A*B:=Int.mul_le_mul_of_nonneg_left d hA
  rw [Int.neg_mul] at e1;omega
 ·exact Int.le_trans (Int.mul_le_mul_of_nonneg_right h2 c) (Int.mul_le_mul_of_nonneg_left d hA)
theorem Nsk [OA] {lim L:Nat} {fr0:Nat->Value} {t r:Int} {last m:Mk} {rest:List Mk} {G:NA} (hl:lim<=L) (f5:fr0 5=Vp L) (D:fr0 6=Vp (L+1)) (s:fr0 7=Vp (L+2))
  (h:OSt L fr0 t r last 0 none G) (M:Nnd t last (m::rest)) (ht:0<=t/\t<=Vx) :
  Ws E false lim (L+6) [.agg (QH m).toArray] G fun v H'=>Nhu (fun j=>j<L\/j=L+4) G H'/\
   (v=.bool true/\m.at'<t/\OSt L fr0 t r m 0 none H'\/v=.bool false/\OSt L fr0 t (Wd t last (m::rest)) last 2 (some .retM) H'):=by
 have len:=h.len
 rw [Xb h.loop (by omega) rfl rfl,Yc]
 obtain ⟨G1,e1,h1,n⟩:=OP (G:=G) (R:=L+6) (by omega) (.loop ⟨1,none,fr0,46,[12],UQ,UN⟩)
 have K:=fun X=>(OM.refl.app (X:=X)).get' h.loop (by omega)
 have y:lim<=G.length:=by omega
 refine NL ?_
 rw [OD UQ.eq_1]
 simp only [QK,NH,y,K,e1,show lim<=L+6 by omega,SB,seval,NJ,place,NB]
 have bt:=fun X=>(OM.refl.app (X:=X)).cells (n.cells h.bt (by omega:L≠L+6))
 have br:=fun X=>(OM.refl.app (X:=X)).cells (n.cells h.br (by omega:L+1≠L+6))
 have bl:=fun X=>(OM.refl.app (X:=X)).cells (n.cells h.bl (by omega:L+2≠L+6))
 have z:G1.length=G.length:=n.len
 have q:∀Y,NC (G1++Vc (QH m)::Y) G.length=Vc (QH m):=fun Y=>by rw [<-z];exact NQ
 rw [OD UN.eq_1]
 by_cases hm:m.at'<t
 ·obtain ⟨G2,e2,h2,e⟩:=OP (G:=G1) (R:=L+2) (by omega) (Vc (QH m))
  have k:=e.alive h1 (by omega:L+6≠L+2)
  have i:=fun X=>(OM.refl.app (X:=X)).get' k (by have:=e.len;omega)
  obtain ⟨c,e3,o,f⟩:=OP (G:=G2) (R:=L+6) (by have:=e.len;omega) (.loop ⟨0,none,fr0,46,[12],UQ,UN⟩)
  simp only [f5,s,bt,bl,q,QK,Npx,NM,NH,hm,e2,i,e3,show lim<=L+6 by omega,show lim<=L+2 by omega,SB,seval,NJ,NK,NB]
  have O:c.length=G.length:=by rw [f.len,e.len,z]
  have old:∀X j,j<G.length->j≠L+6->j≠L+2->NC (c++X) j=NC G j:=fun X j P p C=>by
   rw [NI (by omega),f.other j p,e.other j C,n.other j p]
  refine ⟨⟨by simp;omega,fun j x=>old _ j (by omega) (by omega) (by omega)⟩,.inl ⟨(old _ L (by omega) (by omega) (by omega)).trans h.bt,(old _ _ (by omega) (by omega) (by omega)).trans h.br, ?_,(old _ _ (by omega) (by omega) (by omega)).trans h.dfr, ?_,by simp;omega⟩⟩
  ·rw [NI (by omega),f.other _ (by omega)];exact h2
  ·rw [NI (by omega)];exact o
 ·have fin:∀(v:Int) (G2 c:NA) (X:NA),(∀j,j≠L+1->NC G2 j=NC G1 j)->G2.length=G1.length->NC G2 (L+1)=Vc [Vi v]->Mut G2 c (L+6)->NC c (L+6)=.loop ⟨2,some .retM,fr0,46,[12],UQ,UN⟩->
    Nhu (fun j=>j<L\/j=L+4) G (c++X)/\OSt L fr0 t v last 2 (some .retM) (c++X):=by
   intro v G2 c X o2 N h2 f o
   have O:c.length=G.length:=by rw [f.len,N,z]
   have old:∀j,j<G.length->j≠L+6->j≠L+1->NC (c++X) j=NC G j:=fun j P p C=>by
    rw [NI (by omega),f.other j p,o2 j C,n.other j p]
   refine ⟨⟨by simp;omega,fun j x=>old j (by omega) (by omega) (by omega)⟩,⟨(old L (by omega) (by omega) (by omega)).trans h.bt, ?_,(old _ (by omega) (by omega) (by omega)).trans h.bl,(old _ (by omega) (by omega) (by omega)).trans h.dfr, ?_,by simp;omega⟩⟩
   ·rw [NI (by omega),f.other _ (by omega)];exact h2
   ·rw [NI (by omega)];exact o
  have key:∀v,∃G2,(∀X:NA,(G1++X).set (L+1) (Vc [Vi v])=G2++X)/\(∀X,NC (G2++X) (L+6)=.loop ⟨1,none,fr0,46,[12],UQ,UN⟩)/\∃c,(∀X:NA,(G2++X).set (L+6) (.loop ⟨2,some .retM,fr0,46,[12],UQ,UN⟩)=c++X)/\∀X,Nhu (fun j=>j<L\/j=L+4) G (c++X)/\OSt L fr0 t v last 2 (some .retM) (c++X):=by
   intro v
   obtain ⟨G2,e2,h2,e⟩:=OP (G:=G1) (R:=L+1) (by omega) (Vc [Vi v])
   have k:=e.alive h1 (by omega:L+6≠L+1)
   have i:=fun X=>(OM.refl.app (X:=X)).get' k (by have:=e.len;omega)
   obtain ⟨c,e3,o,f⟩:=OP (G:=G2) (R:=L+6) (by have:=e.len;omega) (.loop ⟨2,some .retM,fr0,46,[12],UQ,UN⟩)
   exact ⟨G2,e2,i,c,e3,fun X=>fin v G2 c X (fun j x=>e.other j x) e.len h2 f o⟩
  have w:Wd t last (m::rest)=if last=Tn then m.off else last.off+(m.off-last.off)*(t-last.at') / (m.at'-last.at'):=by
   rw [Wd,Ng (by omega)]
  rw [w]
  by_cases l:last=Tn
  ·obtain ⟨G2,e2,i,c,e3,d⟩:=key m.off
   rw [Nh l]
   have g:=Ns l
   simp only [f5,D,s,bt,br,bl,q,QK,Npx,Npw,NM,hm,e2,i,e3,Njo,g,show lim<=L+6 by omega,show lim<=L+1 by omega,SB,seval,NJ,NK,NB]
   exact ⟨(d _).1,.inr (d _).2⟩
  ·rw [Ng l]
   have g:=Oa l
   obtain ⟨I,J,Z⟩:=M
   obtain ⟨k1,k2⟩:=(I.resolve_left l)
   obtain ⟨k3,F⟩:=J m Nm
   have F:=F.resolve_left l
   unfold MM at k1 k3
   unfold Vx at k1 k3 ht
   have hb:=Ntq (a:=m.off-last.off) (b:=t-last.at') (A:=2103796798) (B:=1051898399) (by omega) (by omega) (by omega) (by omega)
   have hd:0<m.at'-last.at':=by omega
   have hq:-2 ^ 62<=(m.off-last.off)*(t-last.at') / (m.at'-last.at')/\(m.off-last.off)*(t-last.at') / (m.at'-last.at')<=2 ^ 62:=by
    constructor
    ·refine Int.le_ediv_of_mul_le hd ?_
     have:-2 ^ 62*(m.at'-last.at')<=-2 ^ 62*1:=Int.mul_le_mul_of_nonpos_left (by decide) (by omega)
     omega
    ·refine Int.ediv_le_of_le_mul hd ?_
     have:2 ^ 62*1<=2 ^ 62*(m.at'-last.at'):=Int.mul_le_mul_of_nonneg_left (by omega) (by decide)
     omega
   have S:IntKind.i64.wrap (m.off-last.off)=m.off-last.off:=NN (by omega) (by omega)
   have T:IntKind.i64.wrap (t-last.at')=t-last.at':=NN (by omega) (by omega)
   have U:IntKind.i64.wrap ((m.off-last.off)*(t-last.at'))=(m.off-last.off)*(t-last.at'):=NN (by omega) (by omega)
   have V:IntKind.i64.wrap (m.at'-last.at')=m.at'-last.at':=NN (by omega) (by omega)
   have W:IntKind.i64.wrap (last.off+(m.off-last.off)*(t-last.at') / (m.at'-last.at'))=last.off+(m.off-last.off)*(t-last.at') / (m.at'-last.at'):=NN (by omega) (by omega)
   have u:=fun (mp:Bool) (lim:Nat) (H:NA) (Q:Value->NA->Prop)=>N6b (mp:=mp) (lim:=lim) (H:=H) (Q:=Q) (a:=(m.off-last.off)*(t-last.at')) hd (by omega) (by omega)
   obtain ⟨G2,e2,i,c,e3,d⟩:=key (last.off+(m.off-last.off)*(t-last.at') / (m.at'-last.at'))
   simp only [f5,D,s,bt,br,bl,q,QK,Npx,Npw,NM,hm,e2,i,e3,Njo,g,S,T,U,V,W,u,show lim<=L+6 by omega,show lim<=L+1 by omega,SB,seval,NF,NJ,NK,NB]
   exact ⟨(d _).1,.inr (d _).2⟩
theorem Ns8 [OA] {mp:Bool} {lim c:Nat} {p:Option Addr} {M:List Mk} {sc t:Int} {H:NA} {Q:Value->NA->Prop} (hs:Sl H QH 3 p M) (hc:Ve 3 c M.length) (hn:M.length<2 ^ 40) (hM:Za M) (ht:0<=t/\t<=Vx) :
  NP E mp lim 128 [.slice p M.length c,Vi sc,Vi t] H Q=Q (Vi (Ze M sc t)) H:=by
 refine pc (by decide) N9n rfl rfl ?_
 rw [Oak,N6r]
 have F:=fun (X:NA) (lim:Nat) (Q:Value->NA->Prop)=>N7z (lim:=lim) (c:=c) (n:=M.length) (p:=p) (sc:=sc) (H:=H++X) (Q:=Q)
 have key:∀fr0:Nat->Value,fr0 5=Vp H.length->fr0 6=Vp (H.length+1)->fr0 7=Vp (H.length+2)->
   NP E false H.length 169 [.func (.yield (H.length+6)) #[] #[],Vp (H.length+3),Vp (H.length+4)]
   (H++[Vc [Value.int .i64 t],Vc [Value.int .i64 0],Vc [Value.int .i64 0,Value.int .i64 0,Value.int .i64 0],Vc [Value.slice p M.length c],Vc [Value.int .i64 sc],.dfr,.loop ⟨0,none,fr0,46,[12],UQ,UN⟩])
   fun x L=>XQ (NC L ((H++[Vc [Value.int .i64 t],Vc [Value.int .i64 0],Vc [Value.int .i64 0,Value.int .i64 0,Value.int .i64 0],Vc [Value.slice p M.length c],Vc [Value.int .i64 sc]]).length+1)) fun x=>QC E Nm4 H.length (Yh x++([.inBlock 0,.code (.seq (ACode.ops [i 44 (AOp.fieldAddr 2 (Sym.t 7)),i 45 (AOp.load1 (Sym.t 44)),⟨none,none,AOp.store 1 (Sym.t 6) (Sym.t 45),none,[]⟩]) .retM),.code .retM]++[.mark (H++[Vc [Value.int .i64 t],Vc [Value.int .i64 0],Vc [Value.int .i64 0,Value.int .i64 0,Value.int .i64 0],Vc [Value.slice p M.length c],Vc [Value.int .i64 sc]]).length])) fr0 (L.set ((H++[Vc [Value.int .i64 t],Vc [Value.int .i64 0],Vc [Value.int .i64 0,Value.int .i64 0,Value.int .i64 0],Vc [Value.slice p M.length c],Vc [Value.int .i64 sc]]).length+1) .dead) fun v' _=>v'=Vi (Ze M sc t):=by
  intro fr0 f5 B N
  have hm:(H++[Vc [Value.int .i64 t],Vc [Value.int .i64 0],Vc [Value.int .i64 0,Value.int .i64 0,Value.int .i64 0],Vc [Value.slice p M.length c],Vc [Value.int .i64 sc]]).length=H.length+5:=by simp
  rw [hm]
  have w:ofN M sc ⊆ M:=fun m hm=>(Oy.mp hm).1
  refine N2m (fun rest G=>∃r last,OSt H.length fr0 t r last 0 none G/\Nnd t last rest/\Wd t last rest=Ze M sc t) (fun j=>j<H.length\/j=H.length+4) ?_ ?_ (by rw [NR];rfl) (by rw [NR];rfl) (hs.app _) hc hn (N12 hM.2) (by simp) (.inr rfl) ?_ ?_ ?_
  ·rintro rest G G' ⟨r,last,k1,k2,k3⟩ hC
   exact ⟨r,last,k1.chg hC,k2,k3⟩
  ·rintro m rest G S T O ⟨r,last,k1,k2,k3⟩
   refine (Nsk (Nd _) f5 B N k1 k2 ht).mono fun v H' hv=>?_
   obtain ⟨hk,⟨rfl,C,q⟩ | ⟨rfl,q⟩⟩:=hv
   ·refine ⟨hk,.inl ⟨rfl,r,m,q,k2.next C, ?_⟩⟩
    rw [<-k3,Wd,Nh (by omega)]
   ·refine ⟨hk,.inr ⟨rfl,fun X=>?_⟩⟩
    have o:OSt H.length fr0 t (Wd t last (m::rest)) last 2 (some .retM) (H'++X):=q.chg Chg.refl.app
    rw [k3] at o
    generalize H'++X=G2 at o
    have len:=o.len
    obtain ⟨f,e3,_,e⟩:=OP (G:=G2) (R:=H.length+6) (by omega) .dead
    have s:=(OM.refl.app (X:=[])).get' (e.alive o.dfr (by omega)) (by have:=e.len;omega)
    obtain ⟨y,z,_,I⟩:=OP (G:=f) (R:=H.length+5) (by have:=e.len;omega) .dead
    have b:=e3 []
    rw [Nc] at b
    have g:=(OM.refl.app (X:=[])).cells (I.cells (e.cells o.br (by omega)) (by omega))
    simp only [o.loop,b,SB,seval]
    have d:=YK (lim:=H.length) (i:=H.length+5) (l:=[]) s (by omega)
    have k:(f++[]).set (H.length+5) .dead=y++[]:=z []
    rw [k,Mi] at d
    have A:([]:List Nat)++[H.length+5]=[H.length+5]:=rfl
    show QC E Nm4 H.length (.code .retM::.inBlock 0::.code (.seq (ACode.ops [i 44 (AOp.fieldAddr 2 (Sym.t 7)),i 45 (AOp.load1 (Sym.t 44)),⟨none,none,AOp.store 1 (Sym.t 6) (Sym.t 45),none,[]⟩]) .retM)::.code .retM::.mark (H.length+5)::[]) fr0 (f++[]) fun v' _=>v'=Vi (Ze M sc t)
    simp only [N7k,A,d,B,g,SB,seval,ND]
  ·intro D a ha
   left
   subst ha
   have:=hs.lt D
   omega
  ·refine ⟨0,Tn,⟨by rw [NQ];rfl,by rw [NR];rfl,by rw [NR];rfl,by rw [NR];rfl,by rw [NR];rfl,by simp⟩,⟨.inl rfl,fun m hm=>⟨hM.1 m (w hm),.inl rfl⟩,Nxg hM.2⟩,rfl⟩
  ·rintro H' ⟨r,last,k1,k2,k3⟩
   have len:=k1.len
   obtain ⟨f,e3,_,e⟩:=OP (G:=H') (R:=H.length+6) (by omega) .dead
   have b:=e3 []
   rw [Nc] at b
   have U:∀X,NC (f++X) (H.length+2)=Vc (QH last):=fun X=>(OM.refl.app).cells (e.cells k1.bl (by omega))
   have V:∀X,NC (f++X) (H.length+1)=Vc [Vi r]:=fun X=>(OM.refl.app).cells (e.cells k1.br (by omega))
   have h:=e.alive k1.dfr (by omega:H.length+5≠H.length+6)
   obtain ⟨K,P,h5,J⟩:=OP (G:=f) (R:=H.length+1) (by have:=e.len;omega) (Vc [Vi last.off])
   have u:=(OM.refl.app (X:=[])).get' (J.alive h (by omega)) (by have:=e.len;have:=J.len;omega)
   obtain ⟨y,z,_,I⟩:=OP (G:=K) (R:=H.length+5) (by have:=e.len;have:=J.len;omega) .dead
   have g:=(OM.refl.app (X:=[])).cells (I.cells h5 (by omega))
   have d:=YK (lim:=H.length) (i:=H.length+5) (l:=[]) u (by omega)
   have k:(K++[]).set (H.length+5) .dead=y++[]:=z []
   rw [k,Mi] at d
   have A:([]:List Nat)++[H.length+5]=[H.length+5]:=rfl
   have hv:Ze M sc t=last.off:=by rw [<-k3];rfl
   simp only [k1.loop,b,SB,seval]
   show QC E Nm4 H.length (.inBlock 0::.code (.seq (ACode.ops [i 44 (AOp.fieldAddr 2 (Sym.t 7)),i 45 (AOp.load1 (Sym.t 44)),⟨none,none,AOp.store 1 (Sym.t 6) (Sym.t 45),none,[]⟩]) .retM)::.code .retM::.mark (H.length+5)::[]) fr0 (f++[]) fun v' _=>v'=Vi (Ze M sc t)
   simp only [n128,N7k,A,B,N,U,V,Npw,P,d,g,hv,show H.length<=H.length+1 by omega,SB,seval,NJ,NB,ND]
 simp only [n128,F,SB,seval,NF,NJ,reduceCtorEq,NE,place,NB]
 exact key _ rfl rfl rfl
theorem Nom {M:List Mk} {sc t:Int} (hM:Za M):-Vx<=Ze M sc t/\Ze M sc t<=Vx:=by
 have h0:(0:Int)<=Vx:=by decide
 refine Nbu _ _ (Nxg hM.2) (fun m hm=>?_) (by show -Vx<=0;omega) (by show (0:Int)<=Vx;omega) (fun m _=>.inl rfl) (.inl rfl)
 have:=hM.1 m (Oy.mp hm).1
 unfold MM at this;omega
theorem Np4 [OA] {mp:Bool} {lim c:Nat} {p:Option Addr} {M:List Mk} {s:Ev} {H:NA} {Q:Value->NA->Prop} (hs:Sl H QH 3 p M) (hc:Ve 3 c M.length) (hn:M.length<2 ^ 40) (hM:Za M) (b:RG s) :
  NP E mp lim 94 [.slice p M.length c,.agg (QE s).toArray] H Q=Q (Vi (TW M s)) H:=by
 have a:=b
 unfold RG at a
 have h:=Nom (sc:=s.scanner) (t:=s.at') hM
 have ho:=fun (X:NA) (mp:Bool) (lim:Nat) (Q:Value->NA->Prop)=>Ns8 (mp:=mp) (lim:=lim) (Q:=Q) (sc:=s.scanner) (t:=s.at') ((OM.refl.app (X:=X)).sl hs) hc hn hM a.2.2.2.2.1
 have g:IntKind.i64.wrap (s.at'+Ze M s.scanner s.at')=s.at'+Ze M s.scanner s.at':=by unfold Vx at *;exact NN (by omega) (by omega)
 refine pc (by decide) e94 rfl rfl ?_
 rw [b94,c94]
 have e:TW M s=min (max (s.at'+Ze M s.scanner s.at') 0) s.seen:=rfl
 rw [e]
 generalize Ze M s.scanner s.at'=o at *
 have d:Rq true (Vi (s.at'+o)) [Vi 0]=some (Vi (max (s.at'+o) 0)):=by
  simp only [Rq,Wq]
  grind
 have f:Rq false (Vi (max (s.at'+o) 0)) [Vi s.seen]=some (Vi (min (max (s.at'+o) 0) s.seen)):=by
  simp only [Rq,Wq]
  grind
 simp only [n94,r94,Y1,Y0,Yz,ho,g,d,f,SB,seval,NF,NJ,NK,reduceCtorEq,NE,place,NB,ND]
instance (M:List Mk):Decidable (Za M):=by unfold Za;infer_instance
theorem Nsl [OA] {mp:Bool} {lim c:Nat} {p:Option Addr} {S:List Ev} {H:NA} {Q:Value->NA->Prop} (hs:Sl H QE 6 p S) (hn:S.length<2 ^ 63) :
  NP E mp lim 55 [.slice p S.length c] H Q=Q (.bool (decide (QQ S))) H:=by
 refine pc (by decide) e55 rfl rfl ?_
 rw [b55,c55]
 by_cases t:S.length<=2000
 case neg=>
  have e:(2000:Int)<(S.length:Int):=by omega
  simp only [n55,r55,e,Oa (show ¬QQ S from fun h=>t h.1),SB,seval,NJ,NK,reduceCtorEq,NE,ND]
 have e:¬(2000:Int)<(S.length:Int):=by omega
 simp only [n55,e,SB,seval,NJ,NK,reduceCtorEq,NE]
 refine NZ (fun i=>S.length-i) (fun i fr G=>i<=S.length/\fr 8=.slice p S.length c/\fr 9=Vi S.length/\fr 10=Vi i/\H.length<=G.length/\Sl G QE 6 p S/\∀j,j<i->RG (gt S j)) 0 ⟨Nv _,rfl,rfl,by rfl,by simp,hs.app _,fun j h=>absurd h (Nat.not_lt_zero j)⟩ ?_
 intro i fr G ⟨hi,n,l,d,hL,o,ha⟩ u
 rw [OD Nrg.eq_1]
 refine NL ?_
 by_cases a:i<S.length
 ·have g:=fun X=>(o.app X).loadCells PN a
  have b:=fun c (k:IntKind) (H1:NA)=>o.idx (c:=c) (k:=k) (H1:=H1) a
  have r:IntKind.i64.wrap ((i:Int)+1)=((i+1:Nat):Int):=OV (by omega)
  by_cases m:RG (gt S i)
  ·simp only [n55,n,l,d,NW,a,hL,b,g,PN,NM,NH,r,YG,Ns m,SB,seval,NF,NJ,NK,QY,place,NB]
   refine u (i+1) _ _ ⟨by omega,n,l,rfl,by simp;omega,o.app _,fun j q=>?_⟩ (by omega)
   rcases (by omega:j<i\/j=i) with h | rfl
   ·exact ha j h
   ·exact m
  ·simp only [n55,r55,n,l,d,NW,a,hL,b,g,PN,NM,NH,YG,Oa m,Oa (show ¬QQ S from fun h=>m (h.2 _ (QJ a))),SB,seval,NF,NJ,NK,QY,place,NB,ND]
 ·obtain rfl:i=S.length:=by omega
  have f:QQ S:=⟨t,fun s hs=>by
   obtain ⟨j,q,rfl⟩:=List.mem_iff_getElem.mp hs
   have:=ha j q
   rwa [PU q] at this⟩
  simp only [n55,r55,l,d,NW,a,Ns f,SB,seval,NJ,NK,ND]
def vK (m:Mk):Value:=.agg (QH m).toArray
theorem Nz0 {κ ν:Type} {kv:κ->Value} {vv:ν->Value} {es:List (κ×ν)} {j:Nat} {e:Value×Value} (h:(Rv kv vv es)[j]? = some e):∃x,es[j]? = some x/\e=(kv x.1,vv x.2):=by
 unfold Rv at h
 rw [O0] at h
 cases hx:es[j]? with
 | none=>rw [hx] at h;cases h
 | some x=>rw [hx] at h;cases h;exact ⟨x,rfl,rfl⟩
theorem Nzz {κ ν:Type} {kv:κ->Value} {vv:ν->Value} {es:List (κ×ν)}:(Rv kv vv es).length=es.length:=Nw ..
theorem Nry [OA] {lim Y t R:Nat} {es:List ((Int×Int)×Mk)} {H:NA} {Q:Value->NA->Prop} (J:List Nat->NA->Prop) (f:lim<=H.length)
  (i:∀seen G G',J seen G->Chg [H.length] G G'->J seen G')
  (a:∀seen j x G,MetOk es.length (seen++[j])->es[j]? = some x->H.length<G.length->J seen G->Ws Ef false lim Y [vK x.2] G fun v H'=>v=.bool true/\J (seen++[j]) H'/\G.length<=H'.length/\NC H' R=NC G R/\NC H' H.length=NC G H.length)
  (h1:NC H t=Vc [.map (some R)]) (hm:NC H R=.map (Rv kM vK es)) (h0:J [] H)
  (E:∀seen H',MetOk es.length seen->SE es.length seen=[]->J seen H'->Q (.tuple #[]) H') :
  NP Ef false lim 143 [.func (.yield Y) #[] #[],Vp t] H Q:=by
 refine Ngs (by decide) N9f rfl ?_
 rw [Oac,c143]
 have y:=PT hm
 have N:=fun X=>(OM.refl.app (X:=X)).cells h1
 have r:Uh (.map (some R)) (H++[])=some (Vp H.length,H++[.iter (some R) (Rv kM vK es).length []]):=by
  rw [Nn4 (es:=Rv kM vK es) (by rw [NI y];exact hm)]
  simp
 simp only [n143,N,r,SB,seval,NJ,NE]
 refine NZ (fun seen:List Nat=>es.length-seen.length) (fun seen fr G=>MetOk es.length seen/\fr 0=.func (.yield Y) #[] #[]/\fr 6=Vp H.length/\NC G H.length=.iter (some R) (Rv kM vK es).length seen/\NC G R=.map (Rv kM vK es)/\H.length<G.length/\J seen G) []
  ⟨⟨List.nodup_nil,fun j h=>(O1 h).elim⟩,rfl,rfl,by rw [NQ];rfl,by rw [NI y];exact hm,by simp,i _ _ _ h0 ⟨by simp,fun j d _=>NI d⟩⟩ ?_
 rintro seen fr G ⟨hs,u,l,C,m,n,w⟩ D
 rw [OD Nyj.eq_1]
 refine NL ?_
 simp only [n143,l,SB,seval]
 have p:∀e∈Rv kM vK es,V4 e.1=true:=fun e he=>by
  unfold Rv at he
  obtain ⟨x,_,rfl⟩:=List.mem_map.mp he
  rfl
 have g:∀s,SE (Rv kM vK es).length s=SE es.length s:=fun s=>by rw [Nzz]
 refine Nto (es:=Rv kM vK es) (by rw [NI n];exact C) f (by rw [NI (by omega)];exact m) p ?_ ?_
 ·intro z
  rw [g] at z
  simp only [n143,N8w,SB,seval,NJ]
  exact E seen _ hs z (i _ _ _ w Chg.refl.app)
 ·intro j e d he
  obtain ⟨x,hx,rfl⟩:=Nz0 he
  rw [g] at d
  obtain ⟨G1,e1,h1,b⟩:=OP (G:=G) (R:=H.length) n (.iter (some R) (Rv kM vK es).length (seen++[j]))
  have A:=b.other R (by omega)
  rw [e1]
  have o:Y7 (Vp H.length) (G1++[])=some (.tuple #[kM x.1,vK x.2],G1++[]):=by
   exact Npt (es:=Rv kM vK es) (by rw [NI (by rw [b.len];exact n)];exact h1) (by rw [NI (by rw [b.len];omega),A];exact m) he rfl
  have q:lim<=G1.length:=by rw [b.len];omega
  simp only [n143,u,l,o,vK,QK,NM,NH,q,SB,seval,NF,NJ,reduceCtorEq,place,NB]
  have B:J seen (G1++[Vc (QH x.2)]):=i _ _ _ w ⟨by simp [b.len],fun k hk hA=>by
   rw [NI (by rw [b.len];exact hk)]
   exact b.other k (by simpa using hA)⟩
  have c:=a seen j x _ (hs.add d) hx (by simp [b.len];omega) B
  unfold vK at c
  refine c.mono fun v H' hv=>?_
  obtain ⟨rfl,F,I,K,L⟩:=hv
  refine NL ?_
  simp only [n143,SB,seval,NJ,QY]
  have M:=b.len
  simp only [Ni,Nk,No] at I
  refine D (seen++[j]) _ _ ⟨hs.add d,u,l, ?_, ?_,by simp;omega,i _ _ _ F Chg.refl.app⟩ ?_
  ·rw [NI (by omega),L,NI (by omega)];exact h1
  ·rw [NI (by omega),K,NI (by omega),A];exact m
  ·have:=(hs.add d).len
   simp only [Ni,Nk,No] at this⊢
   omega
abbrev Ess:=List ((Int×Int)×Mk)
structure CSt (H:NA) (fr0:Nat->Value) (st cap:Nat) (p:Option Addr) (l:List Mk) (G:NA):Prop where
 box:NC G H.length=Vc [.slice p l.length cap]
 dfr:NC G (H.length+1)=.dfr
 loop:NC G (H.length+2)=.loop ⟨st,none,fr0,13,[7],Wl,Wj⟩
 own:Own (H.length+4) G QH 3 p cap l
 len:H.length+3<=G.length
 old:∀j,j<H.length->NC G j=NC H j
theorem CSt.chg {H:NA} {fr0:Nat->Value} {st cap:Nat} {p:Option Addr} {l:List Mk} {G G':NA} (h:CSt H fr0 st cap p l G) {A:List Nat} (hC:Chg A G G') (hA:∀j∈A,j=H.length+3):CSt H fr0 st cap p l G':=by
 have len:=h.len
 have b:∀j,j<H.length+3->j∉A:=fun j h1 h2=>by have:=hA j h2;omega
 refine ⟨hC.cells h.box (b _ (by omega)),hC.get h.dfr (by omega) (b _ (by omega)),hC.get h.loop (by omega) (b _ (by omega)),h.own.chg hC fun a e c=>?_,by have:=hC.len;omega,fun j d=>(hC.other j (by omega) (b _ (by omega))).trans (h.old j d)⟩
 have:=hA _ c
 have:=(h.own.block e).1
 omega
theorem Nnz [OA] {lim:Nat} {H:NA} {fr0:Nat->Value} {cap:Nat} {p:Option Addr} {l:List Mk} {x:Mk} {G:NA} (hl:lim<=H.length) (f2:fr0 2=Vp H.length) (h:CSt H fr0 0 cap p l G) (A:H.length+3<G.length) (hn:l.length<2 ^ 20) :
  Ws Ef false lim (H.length+2) [vK x] G fun v H'=>v=.bool true/\(∃g Q,CSt H fr0 0 g Q (l++[x]) H')/\G.length<=H'.length/\(∀j,j<G.length->j≠H.length->j≠H.length+2->(∀a,p=some a->j≠a.block)->NC H' j=NC G j):=by
 rw [Xb h.loop (by omega) rfl rfl,Yc]
 obtain ⟨G1,e1,h1,k⟩:=OP (G:=G) (R:=H.length+2) (by omega) (.loop ⟨1,none,fr0,13,[7],Wl,Wj⟩)
 have M:=fun X=>(OM.refl.app (X:=X)).get' h.loop (by omega)
 have P:=k.len
 have ne:∀a,p=some a->a.block≠H.length+2:=fun a e=>by have:=(h.own.block e).1;omega
 have m:=h.own.mut k ne
 obtain ⟨G2,e2,d,_,b,i,t⟩:=m.step (lim':=lim) (bytes:=24) (by omega) QK (by decide) x (by unfold PM;omega) (by omega) (by omega) [Vc (QH x),Vc (QH x)] (G1.length+1) 1 (by rw [NR];rfl)
 simp only [Nk,No,N5,Nat.reduceAdd] at e2 d i t
 have B:∀j,j<H.length+3->∀a,p=some a->j≠a.block:=fun j o a e=>by have:=(h.own.block e).1;omega
 have o2:∀j,j<H.length+3->j≠H.length+2->NC (G2++[]) j=NC G j:=fun j o u=>by
  rw [b j (by omega) (B j o),k.other j u]
 have E:NC (G2++[]) (H.length+2)=.loop ⟨1,none,fr0,13,[7],Wl,Wj⟩:=(b _ (by omega) (B _ (by omega))).trans h1
 have b2:NC (G2++[]) H.length=Vc [.slice p l.length cap]:=(o2 _ (by omega) (by omega)).trans h.box
 rw [Nc] at d o2 E b2
 have s:=fun X=>(OM.refl.app (X:=X)).cells b2
 obtain ⟨F,e3,N,f⟩:=OP (G:=G2) (R:=H.length) (by omega) (Vc [.slice (Sa (G1.length+2)) (l.length+1) (loose 3)])
 have T:=f.alive E (by omega:H.length+2≠H.length)
 have z:=fun X=>(OM.refl.app (X:=X)).get' T (by have:=f.len;omega)
 obtain ⟨I,L,O,q⟩:=OP (G:=F) (R:=H.length+2) (by have:=f.len;omega) (.loop ⟨0,none,fr0,13,[7],Wl,Wj⟩)
 have w:lim<=G.length:=by omega
 have K:∀X,NC (G1++X) H.length=Vc [.slice p l.length cap]:=fun X=>(OM.refl.app).cells (k.cells h.box (by omega))
 have J:∀Y,NC (G1++Vc (QH x)::Y) G.length=Vc (QH x):=fun Y=>by rw [<-P];exact NQ
 refine NL ?_
 rw [OD Wl.eq_1]
 unfold vK
 simp only [QK,NH,w,M,e1,show lim<=H.length+2 by omega,SB,seval,NJ,place,NB]
 rw [OD Wj.eq_1]
 simp only [f2,K,J,QK,NM,NH,SB,seval,NJ,place]
 have r:=s []
 simp only [f2,e2,r,e3,z,L,show lim<=H.length+2 by omega,hl,SB,seval,NJ,NB]
 have U:=f.len
 have V:=q.len
 have n:=(d.mut f (fun a e=>by cases e;show G1.length+2≠H.length;omega)).mut q (fun a e=>by cases e;show G1.length+2≠H.length+2;omega)
 have c:∀j,j≠H.length->j≠H.length+2->NC I j=NC G2 j:=fun j C y=>by rw [q.other j y,f.other j C]
 refine ⟨⟨loose 3,Sa (G1.length+2), ?_, ?_, ?_,n.app _, ?_,fun j o=>?_⟩, ?_,fun j C y D S=>?_⟩
 ·rw [NI (by omega),q.other _ (by omega),N,Ni];rfl
 ·rw [NI (by omega),c _ (by omega) (by omega),o2 _ (by omega) (by omega)];exact h.dfr
 ·rw [NI (by omega)];exact O
 ·have:=h.len
  first | omega | (rw [Ni];omega)
 ·rw [NI (by omega),c _ (by omega) (by omega),o2 _ (by omega) (by omega)];exact h.old j o
 ·first | omega | (rw [Ni];omega)
 ·have:=b j (by omega) S
  rw [Nc] at this
  rw [NI (by omega),c _ y D,this,k.other j D]
theorem Nvk [OA] {lim y R:Nat} {es:Ess} {H:NA} {Q:Value->NA->Prop} (hl:lim<=H.length) (h1:NC H y=Vc [.map (some R)]) (hm:NC H R=.map (Rv kM vK es)) (hn:es.length<2 ^ 20)
  (J:∀G p cap l,l.Perm (es.map (·.2))->Own H.length G QH 3 p cap l->Chg [] H G->Q (.slice p l.length cap) G) :
  NP Ef false lim 167 [Vz,.func (.func 143) #[] #[Vp y]] H Q:=by
 refine Ngs (by decide) N9a rfl ?_
 rw [N97,c167]
 have K:=PT hm
 have hB:=NG h1
 have key:∀fr0:Nat->Value,fr0 2=Vp H.length->
   NP Ef false lim 143 [.func (.yield (H.length+2)) #[] #[],Vp y]
   (H++[Vc [Value.slice none 0 0],.dfr,.loop ⟨0,none,fr0,13,[7],Wl,Wj⟩])
   fun x C=>XQ (NC C ((H++[Vc [Value.slice none 0 0]]).length+1)) fun x=>QC Ef a167 lim (Yh x++([.inBlock 0,.code (.seq (ACode.ops [i 12 (AOp.load1 (Sym.t 2)),i 4 (AOp.mov (Sym.t 12))]) .retM),.code .retM]++[.mark (H++[Vc [Value.slice none 0 0]]).length])) fr0 (C.set ((H++[Vc [Value.slice none 0 0]]).length+1) .dead) Q:=by
  intro fr0 f2
  have A:(H++[Vc [Value.slice none 0 0]]).length=H.length+1:=by simp
  rw [A]
  have d:(H++[Vc [Value.slice none 0 0],.dfr,.loop ⟨0,none,fr0,13,[7],Wl,Wj⟩]).length=H.length+3:=by simp
  refine Nry (es:=es) (fun seen G=>∃cap p,CSt H fr0 0 cap p (No1 es seen) G) (by rw [d];omega) ?_ ?_ (by rw [NI hB];exact h1) (by rw [NI K];exact hm) ?_ ?_
  ·rintro seen G G' ⟨cap,p,k⟩ hC
   rw [d] at hC
   exact ⟨cap,p,k.chg hC fun j f=>by simpa using f⟩
  ·rintro seen j x G b hx o ⟨cap,p,k⟩
   rw [d] at o⊢
   have q:j<es.length:=by
    rcases Ou j es.length with h | h
    ·exact h
    ·rw [Nu h] at hx;cases hx
   have B:seen.length<2 ^ 20:=by
    have:=b.len
    simp only [Ni,Nk,No] at this;omega
   refine (Nnz (x:=x.2) hl f2 k o (by unfold No1;rw [Nw];exact B)).mono fun v H' hv=>?_
   obtain ⟨rfl,⟨g,M,k'⟩,N,D⟩:=hv
   have np:∀j,j<H.length+4->∀a,p=some a->j≠a.block:=fun j f a e=>by have:=(k.own.block e).1;omega
   refine ⟨rfl,⟨g,M, ?_⟩,N,D R (by omega) (by omega) (by omega) (np _ (by omega)),D _ (by omega) (by omega) (by omega) (np _ (by omega))⟩
   have e:No1 es (seen++[j])=No1 es seen++[x.2]:=by
    unfold No1
    rw [Oq,N9,List.map_nil]
    congr 2
    rw [PU (by rw [Nw];exact q),Pz]
    rw [Nf q] at hx
    cases hx;rfl
   rw [e];exact k'
  ·exact ⟨0,none,by rw [NQ];rfl,by rw [NR];rfl,by rw [NR];rfl,.inl ⟨rfl,rfl,rfl⟩,by simp,fun j f=>NI f⟩
  ·rintro seen H' b L ⟨cap,p,k⟩
   have len:=k.len
   obtain ⟨u,e3,_,c⟩:=OP (G:=H') (R:=H.length+2) (by omega) .dead
   have n:=e3 []
   rw [Nc] at n
   have b3:∀X,NC (u++X) H.length=Vc [.slice p (No1 es seen).length cap]:=fun X=>(OM.refl.app).cells (c.cells k.box (by omega))
   have m:=(OM.refl.app (X:=[])).get' (c.alive k.dfr (by omega:H.length+1≠H.length+2)) (by have:=c.len;omega)
   obtain ⟨E,F,_,w⟩:=OP (G:=u) (R:=H.length+1) (by have:=c.len;omega) .dead
   have r:=YK (lim:=lim) (i:=H.length+1) (l:=[]) m (by omega)
   have z:(u++[]).set (H.length+1) .dead=E++[]:=F []
   rw [z,Mi] at r
   have I:([]:List Nat)++[H.length+1]=[H.length+1]:=rfl
   simp only [k.loop,n,SB,seval]
   show QC Ef a167 lim (.inBlock 0::.code (.seq (ACode.ops [i 12 (AOp.load1 (Sym.t 2)),i 4 (AOp.mov (Sym.t 12))]) .retM)::.code .retM::.mark (H.length+1)::[]) fr0 (u++[]) Q
   simp only [n167,N8t,I,f2,b3,r,SB,seval,NJ,ND]
   have s:=(k.own.mut c (fun a e=>by have:=(k.own.block e).1;omega)).mut w (fun a e=>by have:=(k.own.block e).1;omega)
   refine J _ p cap _ (Nx2 b L) (Own.le (s.app _) (by omega)) ⟨by have:=c.len;have:=w.len;simp;omega,fun j f _=>?_⟩
   rw [NI (by have:=c.len;have:=w.len;omega),w.other j (by omega),c.other j (by omega)]
   exact k.old j f
 simp only [n167,SB,seval,NF,NJ,NE,place,NB]
 exact key _ rfl
end Go.Proofs.YtkppjkkkdpcgiaaGreat.Fn


namespace Go.Proofs.YtkppjkkkdpcgiaaGreat.Fn
open Go.AM Go.AM.Sym Go.Scan Go.Sort
abbrev base:OA:=⟨fun _=>false,fun _ _ _=>none,fun _ _ _ _ _=>rfl,fun _ _ _=>none,fun _ _ _ _ _ _=>rfl⟩
abbrev Eb:Env:=@Ef base
abbrev Gb:Env:=@E base
instance encZE:Srt.EncOk encE 7:=⟨fun _=>rfl,fun x v hv=>by simp only [encE,Nn,O1,or_false] at hv;rcases hv with h | h | h | h | h | h | h<;>rw [h]<;>exact ⟨rfl,rfl⟩,fun x y h=>by cases x;cases y;simpa [encE] using h⟩
instance encZM:Srt.EncOk QH 3:=⟨fun _=>rfl,fun x v hv=>by simp only [QH,Nn,O1,or_false] at hv;rcases hv with h | h | h<;>rw [h]<;>exact ⟨rfl,rfl⟩,fun x y h=>by cases x;cases y;simpa [QH] using h⟩
instance encZL:Srt.EncOk PO 8:=⟨fun _=>rfl,fun x v hv=>by simp only [PO,Nn,O1,or_false] at hv;rcases hv with h | h | h | h | h | h | h | h<;>rw [h]<;>exact ⟨rfl,rfl⟩,fun x y h=>by cases x;cases y;simpa [PO] using h⟩
noncomputable def srtF (g:FuncId) (as:List Value) (H:NA):Option (Value×List (List Value)×Option (Nat×List Value)):=
 if g=95 then Srt.sortF Eb encE as H else if g=142 then Srt.sortF Eb QH as H else if g=102 then Srt.sortF Eb PO as H else none
theorem srtF_no (g:FuncId) (as:List Value) (H:NA) (h1:g≠95) (h2:g≠142) (a:g≠102):srtF g as H=none:=by
 unfold srtF;rw [Ng h1,Ng h2,Ng a]
class OB extends OA where
 srtOk:∀g as H,OA.srt g as H=srtF g as H
theorem Oa1 [OB] (as:List Value) (H:NA):(Ef:Env).orc 95 as=none/\(Ef:Env).eff 95 as H=Srt.sortF Eb encE as H:=⟨by simp [Ef,orc],by simp [Ef,effS,OA.effN,OB.srtOk,srtF]⟩
theorem N44 [OB] (as:List Value) (H:NA):(Ef:Env).orc 142 as=none/\(Ef:Env).eff 142 as H=Srt.sortF Eb QH as H:=⟨by simp [Ef,orc],by simp [Ef,effS,OA.effN,OB.srtOk,srtF]⟩
theorem N45 [OB] (as:List Value) (H:NA):(E:Env).orc 102 as=none/\(E:Env).eff 102 as H=Srt.sortF Eb PO as H:=⟨by simp [E,orc],by simp [E,effS,OA.effN,OB.srtOk,srtF]⟩
theorem Nq2 {α:Type} {k:α->List Int} {n:Nat} (hn:∀x,(k x).length=n):SWO (fun x y:α=>decide (RS (k x) (k y)<0)):=by
 have a:∀x y:α,(k x).length=(k y).length:=fun x y=>by rw [hn,hn]
 refine ⟨fun x=>?_,fun x y z h1 h2=>?_,fun x y z h1 h2=>?_⟩
 ·rw [Ng4];rfl
 ·simp only [Ob] at *
  have b:=Xp (k x) (k y) (k z) (a x y) (a y z) (by omega) (by omega)
  rcases Nlo (k x) (k z) with v | v | v
  ·omega
  ·have e:=Niv _ _ (a x z) v
   rw [<-e,UX (k x) (k y)] at h2;omega
  ·omega
 ·simp only [decide_eq_false_iff_not] at *
  have c:=UX (k x) (k y)
  have d:=UX (k y) (k z)
  have a3:=UX (k x) (k z)
  have b:=Xp (k z) (k y) (k x) (a z y) (a y x) (by omega) (by omega)
  omega
theorem Naz {α:Type} [Inhabited α] {n:Nat} {d b:Array α} (hd:d.size=n) (h:PermIn 0 n d b):b.toList.Perm d.toList:=by
 obtain ⟨h1,h2,a⟩:=h
 subst hd
 rw [Array.extract_size] at a
 rw [<-h1,Array.extract_size] at a
 exact a
theorem Nbp {α:Type} [Inhabited α] {k:α->List Int} {n:Nat} {d:Array α} (hd:d.size=n) (h:SortedIn (fun x y:α=>decide (RS (k x) (k y)<0)) 0 n d):Tk k d.toList:=by
 unfold Tk
 rw [O9]
 intro i j hi b a
 have h1:=h i j (Nv _) a (by simpa [hd] using b)
 have e1:d[i]! = d.toList[i]:=by rw [getElem!_pos d i (by simpa using hi)];simp
 have e2:d[j]! = d.toList[j]:=by rw [getElem!_pos d j (by simpa using b)];simp
 rw [e1,e2] at h1
 simp only [decide_eq_false_iff_not] at h1
 rw [UX (k d.toList[j]) (k d.toList[i])];omega
theorem N4c {α:Type} {enc:α->List Value} {G:NA} {B:Nat} {l:List α} (hB:NC G B=Vc (l.flatMap enc)):DH enc G B l.toArray=G:=by
 have hl:=NG hB
 unfold DH
 apply Pe
 ·simp
 intro i h1 h2
 rw [List.getElem_set]
 split
 ·rename_i e;subst e
  unfold NC at hB
  rw [Na,Nf hl] at hB
  exact hB.symm
 ·rfl
theorem N6e [OB]:Srt.Cmp Eb QH 124 [] (fun a b=>RS (R7 a) (R7 b)):=
 ⟨fun _ h=>(by cases h),⟨_,N8c⟩,fun x y=>NP.weak (E:=Eb) (E':=Gb) (by rw [@N0e base]),Nq2 YS⟩
theorem Nwr [OB] {lim R cap:Nat} {l:List Mk} {H:NA} (c:NC H R=Vc (l.flatMap QH)) (hl:lim<=R) (hn:l.length<65536) :
  ∃H1,(∀Q:Value->NA->Prop,NP Ef false lim 142 [.slice (Sa R) l.length cap,.func (.func 124) #[] #[]] (H++[]) Q=Q (.tuple #[]) (H1++[]))/\NC H1 R=Vc ((U3 R7 l).flatMap QH)/\Chg [R] H H1:=by
 obtain ⟨h1,h2⟩:=Srt.sortN_ok N6e.swo l
 have hs:Srt.sortN (fun a b=>RS (R7 a) (R7 b)) l=U3 R7 l:=Z7 YS Ng9 (Nbp (d:=(Srt.sortN (fun a b=>RS (R7 a) (R7 b)) l).toArray) (by rw [List.size_toArray];exact Srt.sortN_len N6e.swo l) h2) (Naz (d:=l.toArray) (n:=l.length) (by simp) h1)
 refine ⟨H.set R (Vc ((Srt.sortN (fun a b=>RS (R7 a) (R7 b)) l).flatMap QH)),fun Q=>?_, ?_, ?_⟩
 ·rw [Nc,Nc]
  exact Srt.sort_ok N44 N6e (cs:=[]) c hl (by omega)
 ·rw [hs];exact Rw (NG c)
 ·exact ⟨by simp,fun j e hA=>PS (by simpa using hA)⟩
theorem Nsh [OB] {lim cap:Nat} {p:Option Addr} {H:NA} {Q:Value->NA->Prop}:NP Ef false lim 142 [.slice p 0 cap,.func (.func 124) #[] #[]] H Q=Q (.tuple #[]) H:=
 Srt.sort_nil N44
theorem N6g [OB]:Srt.Cmp Eb encE 96 [] (fun a b=>RS (Sy a) (Sy b)):=
 ⟨fun _ h=>(by cases h),⟨_,e96⟩,fun x y=>NP.weak (E:=Eb) (E':=Gb) (by rw [@N0f base]),Nq2 Na4⟩
theorem Nws [OB] {lim R cap:Nat} {l:List Ev} {H:NA} (c:NC H R=Vc (l.flatMap encE)) (hl:lim<=R) (hn:l.length<65536) :
  ∃H1,(∀Q:Value->NA->Prop,NP Ef false lim 95 [.slice (Sa R) l.length cap,.func (.func 96) #[] #[]] (H++[]) Q=Q (.tuple #[]) (H1++[]))/\NC H1 R=Vc ((U3 Sy l).flatMap encE)/\Chg [R] H H1:=by
 obtain ⟨h1,h2⟩:=Srt.sortN_ok N6g.swo l
 have hs:Srt.sortN (fun a b=>RS (Sy a) (Sy b)) l=U3 Sy l:=Z7 Na4 Nt2 (Nbp (d:=(Srt.sortN (fun a b=>RS (Sy a) (Sy b)) l).toArray) (by rw [List.size_toArray];exact Srt.sortN_len N6g.swo l) h2) (Naz (d:=l.toArray) (n:=l.length) (by simp) h1)
 refine ⟨H.set R (Vc ((Srt.sortN (fun a b=>RS (Sy a) (Sy b)) l).flatMap encE)),fun Q=>?_, ?_, ?_⟩
 ·rw [Nc,Nc]
  exact Srt.sort_ok Oa1 N6g (cs:=[]) c hl (by omega)
 ·rw [hs];exact Rw (NG c)
 ·exact ⟨by simp,fun j e hA=>PS (by simpa using hA)⟩
theorem Nsg [OB] {lim d R:Nat} {es:Ess} {H:NA} {Q:Value->NA->Prop} (hl:lim<=H.length) (h1:NC H d=Vc [.map (some R)]) (hm:NC H R=.map (Rv kM vK es)) (hn:es.length<65536)
  (b:∀G p cap,Own H.length G QH 3 p cap (U3 R7 (es.map (·.2)))->Chg [] H G->Q (.slice p es.length cap) (G++[])) :
  NP Ef false lim 122 [.func (.func 143) #[] #[Vp d],.func (.func 124) #[] #[]] H Q:=by
 have a:∀(Q:Value->NA->Prop),(∀G p cap l,l.Perm (es.map (·.2))->Own H.length G QH 3 p cap l->Chg [] H G->Q (.slice p l.length cap) (G++[]))->
   NP Ef false lim 141 [.func (.func 143) #[] #[Vp d]] H Q:=by
  intro Q b
  refine Ngs (by decide) N9g rfl ?_
  rw [Oad,c141]
  simp only [n141,SB,seval,NF,NJ,reduceCtorEq,NE]
  rw [Nc]
  refine Nvk hl h1 hm (by omega) fun G p cap l h1 h2 m=>?_
  refine NL ?_
  simp only [n141,N8x,SB,seval,NJ,ND]
  exact b G p cap l h1 h2 m
 refine Ngs (by decide) N9r rfl ?_
 rw [Oap,N6u]
 simp only [n122,SB,seval,NF,NJ,reduceCtorEq,NE]
 rw [Nc]
 refine a _ fun G p cap l hp n hC=>?_
 have c:l.length=es.length:=by have:=hp.length_eq;simpa using this
 have hs:U3 R7 (es.map (·.2))=U3 R7 l:=(Nj9 YS Ng9 hp).symm
 rw [hs] at b
 rcases n with ⟨h0,rfl,rfl⟩ | ⟨h,rfl,rfl,o,e⟩
 ·subst h0
  have f:=fun X (Q:Value->NA->Prop)=>Nsh (lim:=lim) (cap:=0) (p:=none) (H:=G++X) (Q:=Q)
  have:=b G none 0 (.inl ⟨rfl,rfl,rfl⟩) hC
  rw [<-c] at this
  simp only [n122,N7n,f,No,SB,seval,NF,NJ,NE,ND]
  exact this
 ·obtain ⟨G1,i,k,g⟩:=Nwr (lim:=lim) (cap:=loose 3) o (by omega) (by omega)
  simp only [n122,N7n,i,SB,seval,NF,NJ,NE,ND]
  rw [c]
  exact b G1 _ _ (.inr ⟨h,rfl,rfl,k,e⟩) ⟨by have:=hC.len;have:=g.len;omega,fun j q _=>by
   rw [g.other j (by have:=hC.len;omega) (by simp;omega),hC.other j q (by simp)]⟩
end Go.Proofs.YtkppjkkkdpcgiaaGreat.Fn


namespace Go.Proofs.YtkppjkkkdpcgiaaGreat.Fn
open Go.AM Go.AM.Sym Go.Net Go.Sort
def cmpL (a b:Leg):Int:=if a.id<b.id then -1 else if b.id<a.id then 1 else 0
theorem N3r [OA] (mp:Bool) (lim:Nat) (a b:Leg) (H:NA) (Q:Value->NA->Prop):NP E mp lim 66 [.agg (PO a).toArray,.agg (PO b).toArray] H Q=Q (Vi (cmpL a b)) H:=by
 refine pc (by decide) e66 rfl rfl ?_
 rw [b66,c66]
 simp only [n66,r66,Us,Np9,Nml,cmpL,SB,seval,NF,NJ,NE,place,NB,ND]
theorem Ncy (a b:Leg):Srt.ltC cmpL a b=decide (a.id<b.id):=by
 unfold Srt.ltC cmpL
 by_cases h1:a.id<b.id
 ·simp [h1]
 ·by_cases h2:b.id<a.id
  ·simp [h1,h2]
  ·simp [h1,h2]
theorem Ne3:SWO (Srt.ltC cmpL):=by
 refine ⟨fun x=>?_,fun x y z h1 h2=>?_,fun x y z h1 h2=>?_⟩
 ·rw [Ncy];simp
 ·rw [Ncy] at *;simp only [Ob] at *;omega
 ·rw [Ncy] at *;simp only [decide_eq_false_iff_not] at *;omega
theorem N6f [OB]:Srt.Cmp Eb PO 66 [] cmpL:=
 ⟨fun _ h=>(by cases h),⟨_,e66⟩,fun x y=>NP.weak (E:=Eb) (E':=Gb) (by rw [@N3r base]),Ne3⟩
theorem Nnt {n:Nat} {d:Array Leg} (hd:d.size=n) (h:SortedIn (Srt.ltC cmpL) 0 n d) (e:d.toList.Pairwise (fun a b=>a.id≠b.id)):d.toList.Pairwise (fun a b=>a.id<b.id):=by
 rw [O9] at *
 intro i j hi f c
 have h1:=h i j (Nv _) c (by simpa [hd] using f)
 have h2:=e i j hi f c
 rw [Ncy] at h1
 have e1:d[i]! = d.toList[i]:=by rw [getElem!_pos d i (by simpa using hi)];simp
 have e2:d[j]! = d.toList[j]:=by rw [getElem!_pos d j (by simpa using f)];simp
 rw [e1,e2] at h1
 simp only [decide_eq_false_iff_not] at h1
 omega
theorem M8 {P:List Int} {L:List Leg} (h:VU P L):L.Pairwise (fun a b=>a.id≠b.id):=by
 rw [O9]
 intro i j hi c d e
 have h2:=(h j c).2.1
 rw [PU c] at h2
 apply h2
 rw [List.mem_map]
 exact ⟨L[i],List.mem_take_iff_getElem.2 ⟨i,by omega,rfl⟩,e⟩
theorem Nnu [OB] {lim Bx c:Nat} {p:Option Addr} {o:Bool} {L:List Leg} {H:NA} {Q:Value->NA->Prop} (hB:NC H Bx=.cells o [.slice p L.length c]) (hs:Sl H PO 8 p L) (hn:L.length<=200) (g:lim<=H.length) (k:L.Pairwise (fun a b=>a.id≠b.id))
  (m:∀H' q cap (S:List Leg),Chg [] H H'->Sl H' PO 8 q S->S.Perm L->S.Pairwise (fun a b=>a.id<b.id)->(∀a,q=some a->H.length<=a.block)->Q (.slice q L.length cap) H') :
  NP E false lim 64 [.func (.func 103) #[] #[Vp Bx],.func (.func 66) #[] #[]] H Q:=by
 refine Rm (by decide) e64 rfl ?_
 rw [b64,c64]
 simp only [n64,SB,seval,NF,NJ,reduceCtorEq,NE]
 rw [Nc]
 refine Np8 hB hs (by omega) g fun H' q cap hC t=>?_
 have hl:=hC.len
 refine NL ?_
 rcases t with ⟨h0,rfl,rfl⟩ | ⟨R,rfl,rfl,r,u⟩
 ·subst h0
  have l:∀X Q,NP E false lim 102 [Vz,.func (.func 66) #[] #[]] (H'++X) Q=Q (.tuple #[]) (H'++X):=fun X Q=>Srt.sort_nil N45
  simp only [n64,r64,l,No,SB,seval,NF,NJ,NE,ND]
  exact m _ _ _ [] hC.app (show Sl _ PO 8 none [] from rfl) (List.Perm.refl _) List.Pairwise.nil (fun a e=>by cases e)
 ·obtain ⟨h2,s⟩:=Srt.sortN_ok Ne3 L
  have h1:(Srt.sortN cmpL L).toArray.size=L.length:=by rw [List.size_toArray];exact Srt.sortN_len Ne3 L
  have hp:(Srt.sortN cmpL L).Perm L:=Naz (d:=L.toArray) (n:=L.length) (by simp) h2
  have i:∀Q,NP E false lim 102 [.slice (Sa R) L.length (loose 8),.func (.func 66) #[] #[]] (H'++[]) Q=Q (.tuple #[]) (H'.set R (Vc ((Srt.sortN cmpL L).flatMap PO))++[]):=fun Q=>by
   rw [Nc,Nc];exact Srt.sort_ok N45 N6f (cs:=[]) r (by omega) (by omega)
  simp only [n64,r64,i,SB,seval,NF,NJ,NE,ND]
  have f:=NG r
  have hm:Mut H' (H'.set R (Vc ((Srt.sortN cmpL L).flatMap PO))) R:=⟨by simp,fun j v=>PS v⟩
  refine m _ _ _ (Srt.sortN cmpL L) ((hC.mut hm (.inr (by omega))).app) (((Own.new (lim:=0) (e:=8) (Rw f) (Nv _)).app []).sl OL) hp ?_ (fun a e=>by cases e;show H.length<=R;omega)
  exact Nnt h1 s ((hp.pairwise_iff (fun h e=>h e.symm)).2 k)
end Go.Proofs.YtkppjkkkdpcgiaaGreat.Fn


namespace Go.Proofs.YtkppjkkkdpcgiaaGreat.Fn
open Go.AM Go.AM.Sym Go.Net
theorem Nng [OB] {lim n c:Nat} {p:Option Addr} {H:NA} {Q:Value->NA->Prop}:NP E false lim 65 [.slice p n c] H Q=Q (.func (.func 103) #[] #[Vp H.length]) (H++[Vc [.slice p n c]]):=by
 rw [VF (E:=E) (by simp [E,effS,OA.effN,OA.srtN,orc]) (show E.tr 65=some a65 from e65) rfl rfl,b65,c65]
 rw [<-Nc H]
 simp only [n65,r65,SB,seval,NJ,NE,place,NB,ND]
def TM (x:Leg×Int):Int×Int×Int:=(x.1.id,x.2,x.2+x.1.mins)
theorem Nst {pos:Int->Nat} {late:List Int} {p t:Int} {S:List Leg} {i:Nat} (h:i<S.length):(S.drop i).findSome? (SN pos late p t)=match SN pos late p t (gt S i) with | some r=>some r | none=>(S.drop (i+1)).findSome? (SN pos late p t):=by
 rw [Ow h,List.findSome?_cons,PU h]
 cases SN pos late p t S[i]<;>rfl
theorem Nrt [OB] {lim R left c16 cs cw:Nat} {q pw M:Option Addr} {P:List Int} {L S:List Leg} {Ts:List (List Int)} {w:List (Int×Int×Int)} {plant there:Int} {H G:NA} {fr:Nat->Value} {K:List AItem} {Z:Value->NA->Prop}
  (J:NetOk 50 P L (OJ P)) (hS:∀l∈S,l∈L) (av:S.length<=200) (hm:NC H R=.map (Wv P)) (ab:lim<=H.length) (hE:Chg [] H G) (hq:Sl H PO 8 q S) (ap:Sl H R6 50 M Ts) (aq:∀T∈Ts,okT T) (v:left<Ts.length) (aw:Ts.length<2 ^ 40) (au:0<=there/\there<=NT) (hO:Own H.length G enc3 3 pw cw w) (hw:w.length<2 ^ 31)
  (f10:fr 10=.map (some R)) (ah:fr 16=.slice M Ts.length c16) (ai:fr 18=.slice pw w.length cw) (aj:fr 19=Vi plant) (ak:fr 20=Vi there) (al:fr 21=Vi left) (am:fr 77=.slice q S.length cs) (an:fr 78=Vi S.length) (ao:fr 79=Vi 0)
  (hR:∀fr' G' ae aa,Chg [] H G'->fr' 10=.map (some R)->fr' 16=.slice M Ts.length c16->fr' 17=fr 17->fr' 21=Vi left->
   (∀w':List (Int×Int×Int),∀b d:Int,(match XL (OJ P) S (gt Ts left) plant there with | some (l,a)=>w'=w++[TM (l,a)]/\b=l.dst/\d=a+l.mins | none=>w'=w/\b=plant/\d=there)->fr' 18=.slice ae w'.length aa/\fr' 19=Vi b/\fr' 20=Vi d/\Own H.length G' enc3 3 ae aa w')->QC E a32 lim K fr' (G'++[]) Z) :
  QC E a32 lim (.code (.loop Nyg)::.inBlock 2::K) fr G Z:=by
 refine NZ (fun i=>S.length-i) (fun i fr' G'=>i<=S.length/\fr' 10=.map (some R)/\fr' 16=.slice M Ts.length c16/\fr' 17=fr 17/\fr' 18=.slice pw w.length cw/\fr' 19=Vi plant/\fr' 20=Vi there/\fr' 21=Vi left/\fr' 77=.slice q S.length cs/\fr' 78=Vi S.length/\fr' 79=Vi i/\
  Chg [] H G'/\Own H.length G' enc3 3 pw cw w/\XL (OJ P) S (gt Ts left) plant there=(S.drop i).findSome? (SN (OJ P) (gt Ts left) plant there)) 0
  ⟨Nv _,f10,ah,rfl,ai,aj,ak,al,am,an,ao,hE,hO,rfl⟩ ?_
 intro i fr' G' ⟨hi,o,p,z,A,j,s,t,u,m,B,hC,C,f⟩ hN
 have hl:=hC.len
 rw [OD Nyg.eq_1]
 refine NL ?_
 by_cases g:i<S.length
 case neg=>
  obtain rfl:i=S.length:=by omega
  rw [Qt,List.findSome?_nil] at f
  simp only [n32,m,B,g,SB,seval,NJ,NK]
  refine hR _ _ pw cw hC o p (by rw [<-z];exact rfl) t fun w' b d h=>?_
  rw [f] at h
  obtain ⟨rfl,rfl,rfl⟩:=h
  exact ⟨A,j,s,C⟩
 have ad:=hC.ext.sl hq
 have I:=fun X=>(ad.app X).loadCells OL g
 have y:=fun c (k:IntKind) (H1:NA)=>ad.idx (c:=c) (k:=k) (H1:=H1) g
 have Y:IntKind.i64.wrap ((i:Int)+1)=((i+1:Nat):Int):=OV (by omega)
 have F:lim<=G'.length:=by omega
 have U:=hS _ (QJ g)
 have hf:=J.fine _ U
 rw [Nst g] at f
 by_cases n:(gt S i).frm=plant
 case neg=>
  have e:SN (OJ P) (gt Ts left) plant there (gt S i)=none:=by unfold SN;rw [Ng n]
  rw [e] at f
  simp only [n32,j,u,m,B,g,I,y,Y,OL,Sr,F,NH,Np n,SB,seval,NJ,NK,place,NB]
  exact hN (i+1) _ _ ⟨by omega,o,p,by rw [<-z];exact rfl,A,j,s,t,u,m,rfl,hC.app,C.app _,f⟩ (by omega)
 unfold NT at au
 have x:=fun (H:NA) (mp:Bool) (lim:Nat) (Q:Value->NA->Prop)=>Nq9 (mp:=mp) (lim:=lim) (H:=H) (Q:=Q) (l:=gt S i) (r:=there) hf (by omega) (by omega)
 cases hx:RJ (gt S i) there with
 | none=>
   have e:SN (OJ P) (gt Ts left) plant there (gt S i)=none:=by unfold SN;rw [Nh n];simp only [hx]
   rw [e] at f
   rw [hx] at x
   simp only [Oh,VX] at x
   simp only [n32,j,s,u,m,B,g,I,y,Y,OL,Sr,NM,F,NH,N3 n,x,SB,seval,NF,NJ,NK,place,NB]
   exact hN (i+1) _ _ ⟨by omega,o,p,by rw [<-z];exact rfl,A,j,s,t,u,m,rfl,hC.app,C.app _,f⟩ (by omega)
 | some a=>
   rw [hx] at x
   simp only [Nr,VX] at x
   have i2:OJ P (gt S i).dst<50:=J.lt _ (J.dst _ U)
   obtain ⟨j2,V⟩:=UJ (i:=0) (J.dst _ U)
   change findKey _ _ _=some (some (j2,Vi (OJ P (gt S i).dst:Int))) at V
   have ac:=hC.get hm (PT hm) (by simp)
   have q3:∀X,NC (G'++X) R=.map (Wv P):=fun X=>by rw [NI (PT ac)];exact ac
   have hT:=aq _ (QJ v)
   have N:=hC.ext.sl ap
   have D:=fun X=>(N.app X).loadCell PZ v i2
   rw [VL hT.1 i2] at D
   have O:=fun c (k:IntKind) (H1:NA)=>N.idx (c:=c) (k:=k) (H1:=H1) v
   have z2:(0:Int)<=(OJ P (gt S i).dst:Int):=by omega
   have z4:(OJ P (gt S i).dst:Int)<50:=by omega
   by_cases hle:a+(gt S i).mins<=(gt Ts left).getD (OJ P (gt S i).dst) (-1)
   case neg=>
    have e:SN (OJ P) (gt Ts left) plant there (gt S i)=none:=by unfold SN;rw [Nh n];simp only [hx];rw [Ng hle]
    rw [e] at f
    simp only [n32,o,p,j,s,t,u,m,B,g,I,y,Y,OL,Sr,Sq,NM,F,NH,N3 n,x,q3,V,D,O,z2,z4,Np hle,Pc,SB,seval,NF,NJ,NK,place,NB]
    exact hN (i+1) _ _ ⟨by omega,o,p,by rw [<-z];exact rfl,A,j,s,t,u,m,rfl,hC.app,C.app _,f⟩ (by omega)
   have e:SN (OJ P) (gt Ts left) plant there (gt S i)=some (gt S i,a):=by unfold SN;rw [Nh n];simp only [hx];rw [Nh hle]
   rw [e] at f
   obtain ⟨G3,e3,O3,C3,ar,l3,W⟩:=C.step (lim':=lim) (bytes:=24) ab PD (by decide) (TM (gt S i,a)) (by unfold PM;omega) (by omega) (by omega) [Vc (PO (gt S i)),Vc [Vi a,Vi (a+(gt S i).mins)],Vc (enc3 (TM (gt S i,a)))] (G'.length+2) 1 NR
   have ag:enc3 (TM (gt S i,a))=[Vi (gt S i).id,Vi a,Vi (a+(gt S i).mins)]:=rfl
   rw [ag] at e3 W
   have d0:NC (G3++[]) G'.length=Vc (PO (gt S i)):=W 0 (by simp)
   have d1:NC (G3++[]) (G'.length+1)=Vc [Vi a,Vi (a+(gt S i).mins)]:=W 1 (by simp)
   simp only [n32,o,p,A,j,s,t,u,m,B,g,I,y,OL,Us,Sr,Sq,NM,F,NH,N3 n,x,q3,V,D,O,z2,z4,N3 hle,Pc,e3,d0,d1,SB,seval,NF,NJ,NK,place,NB]
   have cH:=C3 [] H (Nd _) hC
   rw [Nc] at cH O3
   refine hR _ _ (Sa (G'.length+3)) (loose 3) cH o p (by rw [<-z];exact rfl) t fun w' b d h=>?_
   rw [f] at h
   obtain ⟨rfl,rfl,rfl⟩:=h
   refine ⟨?_,rfl,rfl,O3⟩
   simp only [Ni,Nk,No,N5]
   exact rfl
theorem Nwz {pos:Int->Nat} {S:List Leg} {late:List Int} {p t a:Int} {l:Leg} (h:XL pos S late p t=some (l,a)):l∈S/\RJ l t=some a:=by
 unfold XL at h
 obtain ⟨f,x,g,b,hx,c⟩:=List.findSome?_eq_some_iff.1 h
 obtain ⟨i,d,e,j⟩:=Yg hx
 simp only at d e
 subst d
 exact ⟨by rw [b];simp,e⟩
theorem N1b [OB] {lim:Nat} {pp pl:Option Addr} {P:List Int} {L:List Leg} {cp cl:Nat} {p q ready:Int} {H:NA} {Q:Value->NA->Prop} (hn:NetIn H pp pl P L) (cz:lim<=H.length)
  (a9:∀H',Uk P L p q ready≠0->Chg [] H H'->Q (.tuple #[Vz,Vi (Uk P L p q ready)]) H')
  (an:∀H',Uk P L p q ready=0->Tq L p ready q (-1)->Chg [] H H'->Q (.tuple #[Vz,Vi 6]) H')
  (cu:∀H' v w pw cw,Uk P L p q ready=0->Chg [] H H'->0<=v->Tq L p ready q v->BestW L p ready q v w->w.length<2 ^ 30->Own H.length H' enc3 3 pw cw (w.map TM)->Q (.tuple #[.slice pw w.length cw,Vi 0]) H') :
  NP E false lim 32 [.agg (RX pp P.length cp pl L.length cl).toArray,Vi p,Vi q,Vi ready] H Q:=by
 refine Rm (by decide) e32 rfl ?_
 rw [b32,c32]
 simp only [n32,PW,NM,SB,seval,NF,NJ,NE,place,NB]
 refine Nfj (hn.app _) (by simp;omega) (fun H' he hE=>?_) (fun H' R he hE hm hR=>?_)
 ·refine NL ?_
  simp only [n32,r32,Np he,SB,seval,NJ,NK,ND]
  exact a9 _ he (hE.chg.pre.app)
 obtain ⟨hv,hp,hq,hr,ao⟩:=ZL he
 obtain ⟨v1,v2,v3,v4⟩:=TA hv
 have u:=RH hv
 have ch:=hE.len
 simp only [Ni,Nk,No] at ch hR
 have Z:NC H' H.length=Vc (RX pp P.length cp pl L.length cl):=hE.cells NQ
 have cn:=fun X=>(OM.refl.app (X:=X)).cells Z
 have ad:OM H H':=by obtain ⟨Y,rfl⟩:=hE;rw [Nq];exact OM.refl.app
 have hi:OJ P q<50:=u.lt _ hq
 obtain ⟨j1,be⟩:=UJ (i:=0) hq
 change findKey _ _ _=some (some (j1,Vi (OJ P q:Int))) at be
 have q3:∀X,NC (H'++X) R=.map (Wv P):=fun X=>by rw [NI (PT hm)];exact hm
 refine NL ?_
 simp only [n32,cn,PW,NM,q3,be,show lim<=H'.length by omega,SB,seval,NF,NJ,NK,NE,place,NB]
 refine Ncg ((hn.ext ad).app _) hv (q3 _) hp hr ao (by simp;omega) fun V q1 cap n hC ba c0 c4 hO=>?_
 have J:=hC.pre
 have cc:=hC.len
 simp only [Ni,Nk,No] at cc
 have aj:NC V H'.length=Vc [Vi (OJ P q:Int)]:=hC.cells NQ (by simp)
 have ai:=fun X=>(OM.refl.app (X:=X)).cells aj
 have D:=J.cells Z (by simp)
 have bg:=fun X=>(OM.refl.app (X:=X)).cells D
 have e:((List.range (n+1)).map (R5 50 (OJ P) (ready+86400) L p ready)).length=n+1:=by simp
 have ak:∀k,k<=n->gt ((List.range (n+1)).map (R5 50 (OJ P) (ready+86400) L p ready)) k=R5 50 (OJ P) (ready+86400) L p ready k:=fun k hk=>by
  rw [PU (by rw [e];omega)];simp
 have hS:=hO.sl PZ
 have al:=fun X=>(hS.app X).loadCell PZ (i:=n) (j:=OJ P q) (by rw [e];omega) hi
 rw [ak n (Nd _),VL Ux hi] at al
 have C:=fun c (kk:IntKind) (H1:NA)=>hS.idx (c:=c) (k:=kk) (H1:=H1) (i:=n) (by rw [e];omega)
 rw [e] at C
 have bn:IntKind.i64.wrap (((n+1:Nat):Int)-1)=(n:Int):=by rw [NN (by omega) (by omega)];omega
 have hv:=Nfh u hp hr (by omega:ready<=ready+86400) ba q hq
 change Tq L p ready q _ at hv
 generalize cv:(R5 50 (OJ P) (ready+86400) L p ready n).getD (OJ P q) (-1)=v at *
 have z1:(0:Int)<=(OJ P q:Int):=by omega
 have z2:(OJ P q:Int)<50:=by omega
 have z3:OJ P q<=49:=by omega
 refine NL ?_
 by_cases bm:v<0
 ·simp only [n32,r32,ai,C,al,bn,z1,z2,Pc,show lim<=V.length by omega,N3 bm,SB,seval,NJ,NK,place,NB,ND]
  refine an _ he ?_ ((ad.chg.trans J).app)
  rcases hv with ⟨rfl,h⟩ | ⟨⟨⟨j,hw⟩,_⟩,_⟩
  ·exact .inl ⟨rfl,h⟩
  ·have:=hw.later u.fine;omega
 obtain ⟨k,hk,M,K⟩:=Nl8 (f:=fun k=>(R5 50 (OJ P) (ready+86400) L p ready k).getD (OJ P q) (-1)) cv
 replace M:(R5 50 (OJ P) (ready+86400) L p ready k).getD (OJ P q) (-1)=v:=M
 replace K:∀j,j<k->(R5 50 (OJ P) (ready+86400) L p ready j).getD (OJ P q) (-1)≠v:=K
 have az:=fun X (mp:Bool) (lim:Nat) (Q:Value->NA->Prop)=>Ny6 (mp:=mp) (lim:=lim) (Q:=Q) (k:=k) (cap:=cap) (t:=v) (B:=V.length) (H:=V++Vc [Vi v]::X) hi (ai _) NQ (hS.app _) (fun T hT=>by obtain ⟨j,_,rfl⟩:=List.mem_map.1 hT;exact Ux) (by rw [e];omega) (by rw [e];omega) (by rw [ak k hk];exact M) (fun j hj=>by rw [ak j (by omega)];exact K j hj)
 rw [e] at az
 have bx:=fun (H:NA) (mp:Bool) (lim:Nat) (Q:Value->NA->Prop)=>Nod (mp:=mp) (lim:=lim) (H:=H) (Q:=Q) (i:=OJ P q) (t:=v) hi
 have a5:OM H V:=by obtain ⟨Y,rfl⟩:=J.ext;exact ad.app
 have O:NC V R=.map (Wv P):=J.get hm (PT hm) (by simp)
 have cy:∀X,NC (V++X) R=.map (Wv P):=fun X=>by rw [NI (PT O)];exact O
 have bk:0<=v:=by omega
 have c6:v<=NT:=by
  rcases hv with ⟨rfl,h⟩ | ⟨⟨⟨j,hw⟩,_⟩,_⟩
  ·omega
  ·cases hw with
   | nil=>exact ao
   | snoc _ hl _ hd _=>
     obtain ⟨d,c2,ah,rfl⟩:=hd
     unfold goes at ah
     simp only [Nx,Ob] at ah
     exact ah.2
 simp only [n32,bg,ai,C,al,bn,z1,z2,Pc,PW,NM,show lim<=V.length by omega,Np bm,az,bx,SB,seval,NF,NJ,NK,place,NB]
 refine Ntz (R:=R) (n0:=k) ((hn.ext a5).app _) u (cy _) (Nii hi (by omega)) (by omega) (by omega) (by simp;omega) fun H3 p3 W a0 b0=>?_
 have cf:=a0.len
 simp only [Ni,Nk,No] at cf
 have z:=a0.pre
 have am:=z.cells D (by simp)
 have bh:=fun X=>(OM.refl.app (X:=X)).cells am
 have a6:OM H H3:=a5.trans z.ext
 have bf:NC H3 R=.map (Wv P):=z.get O (PT O) (by simp)
 have o:((List.range (k+1)).map (Wz P L (Zd 50 (OJ P q) v))).length=k+1:=by simp
 have bc:∀j,j<=k->gt ((List.range (k+1)).map (Wz P L (Zd 50 (OJ P q) v))) j=MP 50 (OJ P) L q v j:=fun j hj=>by
  rw [PU (by rw [o];omega)];simp [Nhk]
 have b6:=b0.sl PZ
 refine NL ?_
 simp only [n32,bh,TR,Nng,SB,seval,NF,NJ]
 refine Nnu (L:=L) (c:=cl) (p:=pl) NQ ((a6.app).sl hn.sl) v2 (by simp;omega) (M8 v4) fun H4 q4 y S a1 b7 F I c5=>?_
 have cg:=a1.len
 simp only [Ni,Nk,No] at cg
 have A:=a1.pre
 have bz:OM H H4:=a6.trans A.ext
 have cj:NC H4 R=.map (Wv P):=A.get bf (PT bf) (by simp)
 have a7:=A.ext.sl b6
 have x:∀l,l∈S↔l∈L:=fun l=>F.mem_iff
 have b8:S.length=L.length:=F.length_eq
 have a8:∀T∈(List.range (k+1)).map (Wz P L (Zd 50 (OJ P q) v)),okT T:=fun T hT=>by
  obtain ⟨j,_,rfl⟩:=List.mem_map.1 hT
  exact Nes u (Nii hi (by omega)) j
 obtain ⟨ag,b9⟩:=Nzc u hp hq hr bk x I (late:=MP 50 (OJ P) L q v) (fun _=>rfl) hv M K
 generalize c1:(List.range (k+1)).map (Wz P L (Zd 50 (OJ P q) v))=Ts at *
 refine NL ?_
 have wk:IntKind.i64.wrap ((k:Int)-1)=(k:Int)-1:=NN (by omega) (by omega)
 simp only [n32,wk,SB,seval,NJ,NK,NE]
 refine NZ (fun s:(Nat×Int×Int)×List (Int×Int×Int)×Option Addr×Nat=>s.1.1) (fun s fr G=>fr 10=.map (some R)/\fr 16=.slice p3 Ts.length W/\fr 17=.slice q4 S.length y/\fr 18=.slice s.2.2.1 s.2.1.length s.2.2.2/\fr 19=Vi s.1.2.1/\fr 20=Vi s.1.2.2/\fr 21=Vi ((s.1.1:Int)-1)/\s.1.1<=k/\Chg [] H4 G/\Own H4.length G enc3 3 s.2.2.1 s.2.2.2 s.2.1/\
   0<=s.1.2.2/\s.1.2.2<=NT/\s.2.1++(goW (OJ P) S (MP 50 (OJ P) L q v) s.1.1 s.1.2.1 s.1.2.2).map TM=(goW (OJ P) S (MP 50 (OJ P) L q v) k p ready).map TM/\s.2.1.length+s.1.1<=k) ((k,p,ready),[],none,0)
  ⟨rfl,by rw [o];exact rfl,by rw [b8];exact rfl,(by simp only [No,FB,Nat.reduceEqDiff]),rfl,rfl,by rfl,Nd _,Chg.refl.app,.nil,hr,ao,rfl,by simp⟩ ?_
 rintro ⟨⟨m,plant,there⟩,w,pw,cw⟩ fr G ⟨bv,bw,aw,ac,ax,ay,g,N,a2,ae,ht0,ap,b,U⟩ hN
 simp only at ac ax ay g N ae ht0 ap b U
 rw [OD N4z.eq_1]
 refine NL ?_
 match m,N,b,U,g,hN with
 | 0,N,b,U,g,hN=>
   have this:¬(0:Int)<=-1:=by decide
   replace g:fr 21=Vi (-1):=g
   simp only [goW,List.map_nil,Nc] at b
   subst b
   simp only [n32,r32,ac,g,Np this,SB,seval,NJ,NK,ND]
   rw [Nw]
   exact cu _ v _ pw cw he ((bz.chg.trans a2).app) bk hv ag (by rw [b9];omega) ((ae.le (by omega)).app _)
 | m+1,N,b,U,g,hN=>
   have e1:((m+1:Nat):Int)-1=(m:Int):=by omega
   rw [e1] at g
   have ck:(0:Int)<=(m:Int):=by omega
   have ci:m<Ts.length:=by rw [o];omega
   have wm:IntKind.i64.wrap ((m:Int)-1)=(m:Int)-1:=NN (by omega) (by omega)
   simp only [n32,aw,g,N3 ck,SB,seval,NJ,NK]
   refine Nrt (c16:=W) (cs:=y) (H:=H4) (S:=S) (L:=L) (left:=m) (Ts:=Ts) (w:=w) (q:=q4) (plant:=plant) (there:=there) u (fun l hl=>(x l).1 hl) (by omega) cj (by omega) (a2.app) b7 a7 a8 ci (by rw [o];omega) ⟨ht0,ap⟩ (ae.app _) (by omega) bv bw ac ax ay g (by simp only [ne_eq,FB,Nat.reduceEqDiff]) rfl rfl fun fr' G' bu av a4 k10 bo cx bq aa=>?_
   have ab:fr' 17=.slice q4 S.length y:=cx.trans aw
   have bb:=bc m (by omega)
   cases hpk:XL (OJ P) S (gt Ts m) plant there with
   | none=>
     obtain ⟨aq,ar,au,rO⟩:=aa w plant there (by rw [hpk];exact ⟨rfl,rfl,rfl⟩)
     rw [bb] at hpk
     simp only [goW,hpk] at b
     simp only [n32,bq,wm,SB,seval,NJ,NK]
     exact hN ((m,plant,there),w,bu,av) _ _ ⟨k10,bo,ab,aq,ar,au,rfl,by show m<=k;omega,a4.app,rO.app _,ht0,ap,b,by show w.length+m<=k;omega⟩ (by show m<m+1;omega)
   | some r=>
     obtain ⟨l,a⟩:=r
     obtain ⟨aq,ar,au,rO⟩:=aa (w++[TM (l,a)]) l.dst (a+l.mins) (by rw [hpk];exact ⟨rfl,rfl,rfl⟩)
     obtain ⟨bd,co⟩:=Nwz hpk
     obtain ⟨n1,n2,n3⟩:=Ngz (u.fine l ((x l).1 bd)) co
     have cb:=u.fine l ((x l).1 bd)
     unfold Fine at cb
     rw [bb] at hpk
     simp only [goW,hpk,N9] at b
     simp only [n32,bq,wm,SB,seval,NJ,NK]
     exact hN ((m,l.dst,a+l.mins),w++[TM (l,a)],bu,av) _ _ ⟨k10,bo,ab,aq,ar,au,rfl,by show m<=k;omega,a4.app,rO.app _,by show 0<=a+l.mins;omega,n3,by rw [Nq];exact b,by show (w++[TM (l,a)]).length+m<=k;rw [Ni];simp only [Nk,No];omega⟩ (by show m<m+1;omega)
end Go.Proofs.YtkppjkkkdpcgiaaGreat.Fn


namespace Go.Proofs.YtkppjkkkdpcgiaaGreat.Fn
open Go.AM Go.AM.Sym Go.Net Go.Scan
structure An where
 (kind ev other place mins:Int)
 deriving DecidableEq,Inhabited
abbrev Stp:=Int×Int×Int
theorem Nej {L:List Leg} (h:L.Pairwise (fun a b=>a.id≠b.id)):∀a∈L,∀b∈L,a.id=b.id->a=b:=by
 intro a ha b d e
 obtain ⟨i,hi,rfl⟩:=List.mem_iff_getElem.1 ha
 obtain ⟨j,c,rfl⟩:=List.mem_iff_getElem.1 d
 rw [O9] at h
 rcases Nat.lt_trichotomy i j with h1 | h1 | h1
 ·exact absurd e (h i j hi c h1)
 ·subst h1;rfl
 ·exact absurd e.symm (h j i c hi h1)
def Won (P:List Int) (L:List Leg) (p q t:Int) (w:List (Leg×Int)):Prop:=Uk P L p q t=0/\∃v,0<=v/\Tq L p t q v/\BestW L p t q v w
theorem Won.uniq {P:List Int} {L:List Leg} {p q t:Int} {w w':List (Leg×Int)} (h:Won P L p q t w) (h':Won P L p q t w'):w=w':=by
 obtain ⟨he,v,h0,hv,hw⟩:=h
 obtain ⟨_,v',c,a,b⟩:=h'
 have e:v=v':=Sb.uniq hv a
 subst e
 exact BestW.uniq (fun _=>Iff.rfl) (Nej (M8 (TA (ZL he).1).2.2.2)) hw b
noncomputable def Ncj (P:List Int) (L:List Leg) (p q t:Int):List (Leg×Int):=open Classical in if h:∃w,Won P L p q t w then h.choose else []
theorem Nc3 {P:List Int} {L:List Leg} {p q t:Int} {w:List (Leg×Int)} (h:Won P L p q t w):Ncj P L p q t=w:=by
 have hex:∃w,Won P L p q t w:=⟨w,h⟩
 unfold Ncj
 rw [dif_pos hex]
 exact hex.choose_spec.uniq h
theorem Nv5 {P:List Int} {L:List Leg} {p q t:Int} (h:Uk P L p q t≠0):Ncj P L p q t=[]:=by
 unfold Ncj
 exact dif_neg fun ⟨_,hw,_⟩=>h hw
theorem Nru {P:List Int} {L:List Leg} {p q t:Int} (hn:Tq L p t q (-1)):Ncj P L p q t=[]:=by
 unfold Ncj
 refine dif_neg fun ⟨w,_,v,h0,hv,_⟩=>?_
 have:=Sb.uniq hn hv
 omega
def Zn (s:Stp) (x:Leg×Int):An:=⟨5,s.2.1,s.1,x.1.dst,0⟩
noncomputable def TE (P:List Int) (L:List Leg) (es:List Ev) (s:Stp):List An:=
 (Ncj P L (gt es s.1.toNat).place (gt es s.2.1.toNat).place (gt es s.1.toNat).time).dropLast.map (Zn s)
noncomputable def UL (P:List Int) (L:List Leg) (es:List Ev) (s:Stp):List An:=
 let b:=(gt es s.2.1.toNat).place
 if (gt es s.1.toNat).kind=4 then [⟨2,s.2.1,s.1,b,0⟩] else if s.2.2=80 then [⟨3,s.2.1,s.1,b,0⟩] else if 0<s.2.2 then [⟨4,s.2.1,s.1,b,s.2.2⟩]
 else if (gt es s.1.toNat).place≠b then TE P L es s else []
def Ur (y x:Ev):Prop:=y.place=x.place/\y.kind=x.kind
instance (y x:Ev):Decidable (Ur y x):=by unfold Ur;infer_instance
def Ta (x:Ev):List Ev->Int
 | []=>NT+1
 | y::l=>if Ur y x then y.time else Ta x l
def Nu0 (x:Ev) (i:Nat) (y:Ev):An:=⟨6,(i:Int),0,x.place,y.time-x.time⟩
def Ned (x:Ev) (lim:Int) (y:Ev):Prop:=Ur y x/\x.time<=y.time/\y.time<lim
instance (x:Ev) (lim:Int) (y:Ev):Decidable (Ned x lim y):=by unfold Ned;infer_instance
def QU (es tw:List Ev) (i:Nat):List An:=(tw.filter fun y=>Ned (gt es i) (Ta (gt es i) (es.drop (i+1))) y).map (Nu0 (gt es i) i)
def WR (es:List Ev) (ks:List Int) (now:Int):List An:=
 match ks.getLast? with
 | none=>[]
 | some k=>if (gt es k.toNat).kind=4\/now-(gt es k.toNat).time<=20160 then [] else [⟨7,k,0,(gt es k.toNat).place,now-(gt es k.toNat).time⟩]
def toN (n:Nat) (ss:List Stp):List Stp:=ss.foldl (fun l s=>l.set s.2.1.toNat s) (List.replicate n (0,0,0))
def Vn (n:Nat) (ks:List Int):List Bool:=ks.foldl (fun l k=>l.set k.toNat true) (List.replicate n false)
noncomputable def atN (P:List Int) (L:List Leg) (es tw:List Ev) (ks:List Int) (ss:List Stp) (i:Nat):List An:=
 (if gt (Vn es.length ks) i then [] else [⟨1,(i:Int),0,(gt es i).place,0⟩])++((if (gt (toN es.length ss) i).1<(gt (toN es.length ss) i).2.1 then UL P L es (gt (toN es.length ss) i) else [])++QU es tw i)
noncomputable def We (P:List Int) (L:List Leg) (es tw:List Ev) (ks:List Int) (ss:List Stp) (now:Int):List An:=(List.range es.length).flatMap (atN P L es tw ks ss)++WR es ks now
def XM (P:List Int) (L:List Leg) (S:List Ev) (item now:Int):Int:=
 if QP P L≠0 then QP P L else if ¬QQ S\/item<1\/999999<item\/now<0\/NT<now then 2 else if Sv (NY S).1 item=[] then 6 else XP P L (Sv (NY S).1 item)
theorem Xo {l:List Ev} {item:Int} (h:item≠0) {x:Ev}:x∈Sv l item↔x∈l/\x.item=item:=by
 unfold Sv
 simp [h]
theorem Xn (l:List Ev) (item:Int):(Sv l item).Sublist l:=List.filter_sublist
theorem ZE (S:List Ev) (item:Int):Y8 (Sv (NY S).1 item):=(Nkc S).1.sublist (Xn _ _)
theorem Nic {S:List Ev} (hS:QQ S) {item:Int} (hi:1<=item) {x:Ev} (hx:x∈Sv (NY S).1 item):RG x/\0<=x.time/\x.time<=NT/\x.item=item:=by
 obtain ⟨h1,h2⟩:=(Xo (by omega)).1 hx
 obtain ⟨s,hs,rfl⟩:=Yb (.inl h1)
 have ht:=Nap hS.2 (.inl h1)
 have a:=hS.2 s hs
 refine ⟨a,ht.1, ?_,h2⟩
 have b:=a.2.2.2.2.2.2
 unfold Vx at b
 unfold NT
 have c:({ s with time:=TW (QG S) s }:Ev).time<=s.seen:=ht.2
 omega
theorem N2g {S:List Ev} (hS:QQ S) {item:Int} (hi:1<=item):Nfu (Sv (NY S).1 item):=fun i a=>by
 have hx:=Nic hS hi (QJ a)
 refine ⟨hx.1,hx.2.1,hx.2.2.1,fun h0=>⟨?_, ?_⟩⟩
 ·rw [hx.2.2.2,(Nic hS hi (QJ (i:=0) (by omega))).2.2.2]
 ·have:=O9.1 (ZE S item) (i-1) i (by omega) a (by omega)
  rw [PU a,PU (show i-1<_ by omega)]
  exact this
theorem N2f {S:List Ev} {item:Int}:(Sv (NY S).1 item).length<=S.length:=by
 have:=(Xn (NY S).1 item).length_le
 have:=Ndk S
 omega
theorem Ntu {P:List Int} {L:List Leg} {S:List Ev} {item now:Int} (h:QP P L≠0):XM P L S item now=QP P L:=Nh h
theorem Ng3 {P:List Int} {L:List Leg} {S:List Ev} {item now:Int} (h:QP P L=0) (h2:¬QQ S\/item<1\/999999<item\/now<0\/NT<now):XM P L S item now=2:=by
 unfold XM
 rw [Ng (by simpa using h),Nh h2]
theorem Ng2 {P:List Int} {L:List Leg} {S:List Ev} {item now:Int} (h:QP P L=0) (hS:QQ S) (h1:1<=item) (h2:item<=999999) (b:0<=now) (c:now<=NT) :
  XM P L S item now=if Sv (NY S).1 item=[] then 6 else if 40<(Sv (NY S).1 item).length then 5 else 0:=by
 have a:¬(¬QQ S\/item<1\/999999<item\/now<0\/NT<now):=by
  rintro (h | h | h | h | h)
  ·exact h hS
  all_goals omega
 unfold XM
 rw [Ng (by simpa using h),Ng a]
 have e:XP P L (Sv (NY S).1 item)=if 40<(Sv (NY S).1 item).length then 5 else 0:=by
  unfold XP
  rw [Ng (by simpa using h),Nh (N2g hS h1)]
 rw [e]
theorem Ni0 {α:Type} [Inhabited α] {l:List α} {i j:Nat} {x:α} (hi:i<l.length):gt (l.set i x) j=if i=j then x else gt l j:=by
 unfold gt
 rw [Na,Na,N1]
 split
 ·simp []
 ·rfl
theorem Na7:∀(ks:List Int) (l:List Bool),(ks.foldl (fun l k=>l.set k.toNat true) l).length=l.length
 | [],_=>rfl
 | k::ks,l=>by rw [Oi,Na7 ks,Qd]
theorem Nlu:∀(ks:List Int) (l:List Bool),(∀k∈ks,0<=k/\k<l.length)->∀i,gt (ks.foldl (fun l k=>l.set k.toNat true) l) i=(decide ((i:Int)∈ks)||gt l i)
 | [],_,_,i=>by simp
 | k::ks,l,h,i=>by
   have hk:=h k Nm
   rw [Oi,Nlu ks _ (fun x hx=>by rw [Qd];exact h x (Nj _ hx)),Ni0 (by omega)]
   by_cases e:k.toNat=i
   ·have:(i:Int)=k:=by omega
    rw [Nh e];simp [this]
   ·have:(i:Int)≠k:=by omega
    rw [Ng e];simp [this]
theorem MF {α:Type} [Inhabited α] {n i:Nat} {x:α} (h:i<n):gt (List.replicate n x) i=x:=by
 rw [PU (by simpa using h),List.getElem_replicate]
theorem Nyx {n:Nat} {ks:List Int} (h:∀k∈ks,0<=k/\k<n) {i:Nat} (hi:i<n):gt (Vn n ks) i=decide ((i:Int)∈ks):=by
 unfold Vn
 rw [Nlu ks _ (by simpa using h),MF hi,Bool.or_false]
theorem Nha {n:Nat} {ks:List Int}:(Vn n ks).length=n:=by unfold Vn;rw [Na7,O7]
theorem Nhy:∀(ss:List Stp) (l:List Stp),(ss.foldl (fun l s=>l.set s.2.1.toNat s) l).length=l.length
 | [],_=>rfl
 | k::ks,l=>by rw [Oi,Nhy ks,Qd]
theorem Nq0 {n:Nat} {ss:List Stp}:(toN n ss).length=n:=by unfold toN;rw [Nhy,O7]
def Uz (n:Nat) (s:Stp):Prop:=0<=s.1/\s.1<s.2.1/\s.2.1<n
def Njl (ss:List Stp):Prop:=ss.Pairwise fun a b=>a.2.1≠b.2.1
theorem Nnm:∀(ss:List Stp) (l:List Stp) (i:Nat),(∀s∈ss,Uz l.length s)->(∀s∈ss,s.2.1≠i)->gt (ss.foldl (fun l s=>l.set s.2.1.toNat s) l) i=gt l i
 | [],_,_,_,_=>rfl
 | s::ss,l,i,h,hn=>by
   have hs:=h s Nm
   have hi:=hn s Nm
   unfold Uz at hs
   rw [Oi,Nnm ss _ i (fun x hx=>by rw [Qd];exact h x (Nj _ hx)) (fun x hx=>hn x (Nj _ hx)),Ni0 (by omega),Ng (by omega)]
theorem Nwm:∀(ss:List Stp) (l:List Stp),(∀s∈ss,Uz l.length s)->Njl ss->∀s∈ss,gt (ss.foldl (fun l s=>l.set s.2.1.toNat s) l) s.2.1.toNat=s
 | [],_,_,_,_,h=>(O1 h).elim
 | a::ss,l,h,hd,s,hs=>by
   obtain ⟨b,c⟩:=List.pairwise_cons.1 hd
   have ha:=h a Nm
   have h':∀x∈ss,Uz (l.set a.2.1.toNat a).length x:=fun x hx=>by rw [Qd];exact h x (Nj _ hx)
   rw [Oi]
   rcases Nn.1 hs with rfl | hs
   ·unfold Uz at ha
    rw [Nnm ss _ _ h' (fun x hx=>by have:=b x hx;omega),Ni0 (by omega),Nh rfl]
   ·exact Nwm ss _ h' c s hs
theorem Nwj {n:Nat} {ss:List Stp} (h:∀s∈ss,Uz n s) (hd:Njl ss) {s:Stp} (hs:s∈ss):gt (toN n ss) s.2.1.toNat=s:=Nwm ss _ (by simpa using h) hd s hs
theorem Nwi {n:Nat} {ss:List Stp} (h:∀s∈ss,Uz n s) {i:Nat} (hi:i<n) (hn:∀s∈ss,s.2.1≠i):gt (toN n ss) i=(0,0,0):=by
 unfold toN
 rw [Nnm ss _ i (by simpa using h) hn,MF hi]
theorem N1v {n:Nat} {ss:List Stp} (h:∀s∈ss,Uz n s) (hd:Njl ss) {i:Nat} (hi:i<n) (a:(gt (toN n ss) i).1<(gt (toN n ss) i).2.1):gt (toN n ss) i∈ss/\(gt (toN n ss) i).2.1=i:=by
 by_cases hex:∃s∈ss,s.2.1=i
 ·obtain ⟨s,hs,e⟩:=hex
  have:=Nwj h hd hs
  have e2:s.2.1.toNat=i:=by omega
  rw [e2] at this
  rw [this]
  exact ⟨hs,e⟩
 ·rw [Nwi h hi (fun s hs e=>hex ⟨s,hs,e⟩)] at a
  simp at a
def cS (s:Stp):Int:=if s.1<s.2.1 then s.2.2 else 0
theorem Nj4 {P:List Int} {L:List Leg} {es:List Ev} {ks:List Int} (hk:Nft es.length ks):(∀s∈Rn P L es ks,Uz es.length s)/\Njl (Rn P L es ks):=by
 have asc:∀i,i+1<ks.length->gt ks i<gt ks (i+1):=fun i hi=>(hk.2 (i+1) hi).2.2 (by omega)
 have mono:∀j i,i<j->j<ks.length->gt ks i<gt ks j:=fun j=>by
  induction j with
  | zero=>intro i h;omega
  | succ j ih=>
    intro i h a
    have h1:=asc j a
    rcases Ou i j with h2 | h2
    ·have:=ih i h2 (by omega);omega
    ·rw [show i=j by omega];exact h1
 refine ⟨fun s hs=>?_, ?_⟩
 ·unfold Rn at hs
  obtain ⟨i,hi,rfl⟩:=List.mem_map.1 hs
  rw [List.mem_range] at hi
  have h1:=hk.2 i (by omega)
  have h2:=hk.2 (i+1) (by omega)
  exact ⟨h1.1,asc i (by omega),h2.2.1⟩
 ·unfold Njl Rn
  rw [List.pairwise_map]
  refine (List.pairwise_lt_range (n:=ks.length-1)).imp_of_mem fun {i j} hi a b=>?_
  rw [List.mem_range] at hi a
  have:=mono (j+1) (i+1) (by omega) (by omega)
  show gt ks (i+1)≠gt ks (j+1)
  omega
def cA (a:An):Int:=if a.kind=1 then 30 else if a.kind=2\/a.kind=3 then 80 else if a.kind=4 then a.mins else 0
def N8n (l:List An):Int:=(l.map cA).sum
def XO (a:An):Prop:=a.kind=2\/a.kind=3\/a.kind=4
instance (a:An):Decidable (XO a):=by unfold XO;infer_instance
def nS (l:List An) (i:Nat):Nat:=l.countP fun a=>decide (XO a/\a.ev=i)
def N5a (l:List An) (i:Nat):Bool:=l.any fun a=>decide (a.kind=1/\a.ev=i)
section
variable {P:List Int} {L:List Leg} {es tw:List Ev}
def N8j (P:List Int) (L:List Leg) (es:List Ev) (s:Stp):Prop:=s.2.2=QI P L (gt es s.1.toNat) (gt es s.2.1.toNat)
def Oa4 (a b:An):Prop:=(b.kind≠7->a.ev<=b.ev)/\(a.kind=1->b.kind=1->a.ev≠b.ev)
section
variable {ks:List Int} {ss:List Stp} (hk:Nft es.length ks) (hs:∀s∈ss,Uz es.length s) (hd:Njl ss) (hp:∀s∈ss,N8j P L es s)
include hs hd hp
structure AtOk (es:List Ev) (i:Nat) (a:An):Prop where
 ev:a.ev=i
 kind:1<=a.kind/\a.kind<=6
 place:a.kind=1->a.place=(gt es i).place
 oth:0<=a.other/\a.other<es.length
 del:a.kind=2\/a.kind=3->((gt es a.other.toNat).kind=4↔a.kind=2)
 mins:a.kind=4->1<=a.mins/\a.mins<=60
noncomputable def Nf0 (P:List Int) (L:List Leg) (es tw:List Ev) (ks:List Int) (ss:List Stp) (m:Nat):List An:=(List.range m).flatMap (atN P L es tw ks ss)
end
end
section
variable {P:List Int} {L:List Leg} {es tw:List Ev} {ks:List Int} {ss:List Stp} (hs:∀s∈ss,Uz es.length s) (hd:Njl ss) (hp:∀s∈ss,N8j P L es s)
include hs hd hp
end
theorem Nli {es:List Ev} {ks:List Int} {now:Int}:WR es ks now=[]\/∃k,ks.getLast? = some k/\WR es ks now=[⟨7,k,0,(gt es k.toNat).place,now-(gt es k.toNat).time⟩]/\(gt es k.toNat).kind≠4/\20160<now-(gt es k.toNat).time:=by
 unfold WR
 cases h:ks.getLast? with
 | none=>exact .inl rfl
 | some k=>
   simp only
   by_cases h2:(gt es k.toNat).kind=4\/now-(gt es k.toNat).time<=20160
   ·rw [Nh h2];exact .inl rfl
   ·rw [Ng h2];exact .inr ⟨k,rfl,rfl,fun h=>h2 (.inl h),by omega⟩
structure ListOk (P:List Int) (L:List Leg) (es:List Ev) (ks:List Int) (ss:List Stp) (now:Int) (A:List An):Prop where
 all:∀a∈A,(∃i,i<es.length/\AtOk es i a)\/(a.kind=7/\a.other=0/\ks.getLast? = some a.ev/\(gt es a.ev.toNat).kind≠4/\a.mins=now-(gt es a.ev.toNat).time/\20160<a.mins)
 ord:A.Pairwise Oa4
 sum:N8n A=Tf P L es ks
 stp:∀i,i<es.length->nS A i=if 0<cS (gt (toN es.length ss) i) then 1 else 0
 str:∀i:Nat,i<es.length->N5a A i=!decide ((i:Int)∈ks)
end Go.Proofs.YtkppjkkkdpcgiaaGreat.Fn


namespace Go.Scan
open Go.AM Go.AM.Sym
theorem Ne1 (x:Mk):∀(l:List Mk) (p:Mk),U5 p (l++[x])=U5 p l++(if R4 x ((p::l).getLast (by simp)) then [] else [x])
 | [],p=>by
   by_cases h:R4 x p
   ·simp [U5,h]
   ·simp [U5,h]
 | m::l,p=>by
   rw [O5,U5,Ne1 x l m,U5]
   have e:(p::m::l).getLast (by simp)=(m::l).getLast (by simp):=List.getLast_cons (by simp)
   rw [e]
   split
   ·rfl
   ·rfl
theorem X7 {l:List Mk} {m:Nat} (h0:1<=m) (h1:m<l.length):RO (l.take (m+1))=RO (l.take m)++(if R4 (gt l m) (gt l (m-1)) then [] else [gt l m]):=by
 cases l with
 | nil=>simp at h1
 | cons p l=>
   obtain ⟨m,rfl⟩:∃k,m=k+1:=⟨m-1,by omega⟩
   have hm:m<l.length:=by simpa using h1
   have e1:(p::l).take (m+1+1)=p::(l.take m++[l[m]]):=by
    rw [Qz,Oe hm]
   have e2:(p::l).take (m+1)=p::l.take m:=Qz ..
   rw [e1,e2]
   show p::U5 p (l.take m++[l[m]])=(p::U5 p (l.take m))++_
   rw [Ne1,Ti,PU hm,Pt,O5]
   have e3:(p::l.take m).getLast (by simp)=gt (p::l) m:=by
    rw [List.getLast_eq_getElem,PU (by simp;omega)]
    simp only [Nk,O6,P7 (Nat.le_of_lt hm),Pt]
    cases m with
    | zero=>rfl
    | succ k=>simp
   rw [e3]
theorem X8 {l:List Mk}:∀m,m<=l.length->(∀j,1<=j->j<m->¬R4 (gt l j) (gt l (j-1)))->RO (l.take m)=l.take m
 | 0,_,_=>by rw [Q1];rfl
 | 1,h,_=>by
   cases l with
   | nil=>simp at h
   | cons p l=>rfl
 | m+2,h,hs=>by
   rw [X7 (m:=m+1) (by omega) (by omega),X8 (m+1) (by omega) fun j h1 h2=>hs j h1 (by omega),Ng (hs (m+1) (by omega) (by omega)),Oe (i:=m+1) (by omega),PU]
end Go.Scan


namespace Go.Proofs.YtkppjkkkdpcgiaaGreat.Fn
open Go.AM Go.AM.Sym Go.Scan Go.Sort
theorem Ndh {R n lo:Nat} (h:lo<=n) (hn:n<2 ^ 62):Xg 3 (.slice (Sa R) n (loose 3)) (some (Vi lo)) none none=some (.slice (some ⟨R,lo*3,none⟩) (n-lo) (loose 3)):=by
 have a:bounds unV n n ((some (Value.int .i64 (lo:Int))).map .const) ((none:Option Value).map .const) none=some (lo,n,n):=by
  rw [Nab]
  exact (Nqc (by omega) (by omega)).trans (by rw [N7])
 simp only [Nr,Oh] at a
 simp only [Xg,TJ,Nr,Oh,if_true,a]
 rw [addr_add,N5]
theorem Nwt {R n hi:Nat} (h:hi<=n) (hn:n<2 ^ 62):Xg 3 (.slice (Sa R) n (loose 3)) none (some (Vi hi)) none=some (.slice (Sa R) hi (loose 3)):=by
 have a:bounds unV n n ((none:Option Value).map .const) ((some (Value.int .i64 (hi:Int))).map .const) none=some (0,hi,n):=by
  rw [Nab]
  exact (Njd (by omega) (by omega)).trans (by rw [N7])
 simp only [Nr,Oh] at a
 simp only [Xg,TJ,Nr,Oh,if_true,a]
 rw [addr_add,Qq,Nat.sub_zero]
theorem Nv2 {m:Nat}:((List.range (m*3)).map fun j=>[Value.int .i64 0,Vi 0,Vi 0].getD (j % 3) undef)=(List.replicate m Tn).flatMap QH:=by
 have e:(List.replicate m Tn).flatMap QH=List.replicate (m*3) (Vi 0):=by
  induction m with
  | zero=>rfl
  | succ m ih=>
    rw [Pk,Om,ih,show (m+1)*3=m*3+1+1+1 by omega,Pk,Pk,Pk]
    rfl
 rw [e,List.eq_replicate_iff]
 refine ⟨by simp,fun v hv=>?_⟩
 obtain ⟨j,_,rfl⟩:=List.mem_map.mp hv
 have:j % 3<3:=Pr _ (by decide)
 generalize j % 3=k at this
 match k,this with
 | 0,_=>rfl
 | 1,_=>rfl
 | 2,_=>rfl
theorem Nmp {d:List Mk} {k:Nat} (hk:k<=d.length):QW (d.flatMap QH) (k*3) ((List.replicate (d.length-k) Tn).flatMap QH)=(d.take k++List.replicate (d.length-k) Tn).flatMap QH:=by
 have h1:(d.take k).flatMap QH++(d.drop k).flatMap QH++[]=d.flatMap QH:=by rw [Nc,<-Qi,Qk]
 have h2:((d.take k).flatMap QH).length=k*3:=by rw [PK QK,O6,P7 hk]
 have a:((List.replicate (d.length-k) Tn).flatMap QH).length=((d.drop k).flatMap QH).length:=by rw [PK QK,PK QK];simp
 rw [<-h1,<-h2,Ndo _ _ _ _ a,Nc,Qi]
theorem Np7 [OB] {lim R:Nat} {l:List Mk} {H:NA} {Q:Value->NA->Prop} (Z:NC H R=Vc (l.flatMap QH)) (hl:lim<=R) (hn:l.length<65536)
  (hQ:∀G,Sl G QH 3 (Sa R) (RO l)->Chg [R] H G->Q (.slice (Sa R) (RO l).length (loose 3)) (G++[])) :
  NP E false lim 126 [.slice (Sa R) l.length (loose 3),.func (.func 127) #[] #[]] H Q:=by
 have t:=NG Z
 refine Rm (by decide) N8b rfl ?_
 rw [N8f,N3u]
 have done:RO l=l->Q (.slice (Sa R) l.length (loose 3)) (H++[]):=fun he=>by
  have:=hQ H (by rw [he];exact Sl.row QK Z) (Chg.refl)
  rwa [he] at this
 by_cases h2:l.length<2
 ·have hc:(l.length:Int)<2:=by omega
  simp only [n126,N18,hc,SB,seval,NJ,NK,reduceCtorEq,NE,ND]
  refine done ?_
  match l,h2 with
  | [],_=>rfl
  | [_],_=>rfl
 have hc:¬(l.length:Int)<2:=by omega
 simp only [n126,hc,SB,seval,NJ,NK,reduceCtorEq,NE]
 refine NZ (fun i=>l.length-i) (fun i fr G=>1<=i/\i<=l.length/\fr 0=.slice (Sa R) l.length (loose 3)/\fr 1=.func (.func 127) #[] #[]/\fr 5=Vi i/\G=H++[]/\∀j,1<=j->j<i->¬R4 (gt l j) (gt l (j-1))) 1
  ⟨Nd _,by omega,rfl,rfl,by rfl,rfl,fun j h1 h2=>by omega⟩ ?_
 rintro i fr G ⟨i1,i2,D,W,Y,rfl,x⟩ hN
 rw [OD Nyn.eq_1]
 have z:Sl H QH 3 (Sa R) l:=Sl.row QK Z
 have aj:IntKind.i64.wrap ((i:Int)+1)=((i+1:Nat):Int):=OV (by omega)
 have P:IntKind.i64.wrap ((i:Int)-1)=((i-1:Nat):Int):=Ngj (by omega) (by omega)
 by_cases b:i<l.length
 case neg=>
  obtain rfl:i=l.length:=by omega
  simp only [n126,N18,D,Y,NW,b,SB,seval,NJ,NK,reduceCtorEq,ND]
  refine done ?_
  have:=X8 l.length (Nd _) x
  rwa [Ol] at this
 have L:∀X j,j<l.length->AM.loadCells (H++X) (YV (Sa R) 3 j) 3=some (QH (gt l j)):=fun X j hj=>(z.app X).loadCells QK hj
 have v:=fun c (k:IntKind) (H1:NA)=>z.idx (c:=c) (k:=k) (H1:=H1) b
 have o:=fun c (k:IntKind) (H1:NA)=>z.idx (c:=c) (k:=k) (H1:=H1) (show i-1<l.length by omega)
 have g:=fun X=>L X i b
 have f:=fun X=>L X (i-1) (by omega)
 by_cases a:R4 (gt l i) (gt l (i-1))
 case neg=>
  simp only [n126,D,W,Y,NW,b,v,o,g,f,P,aj,Ml,Oa a,SB,seval,NF,NJ,NK,reduceCtorEq]
  refine hN (i+1) _ _ ⟨by omega,by omega,D,W,rfl,rfl,fun j h1 h2=>?_⟩ (by omega)
  rcases (by omega:j<i\/j=i) with h | rfl
  ·exact x j h1 h
  ·exact a
 have ag:=Ndh (R:=R) (n:=l.length) (lo:=i) (by omega) (by omega)
 simp only [n126,D,W,Y,NW,b,v,o,g,f,P,Ml,Ns a,ag,SB,seval,NF,NJ,NK,reduceCtorEq]
 have ci:RO (l.take (i+1))=l.take i:=by
  rw [X7 (m:=i) i1 b,Nh a,Nc]
  exact X8 i i2 x
 refine NZ (S:=Nat×Nat×List Mk) (fun s=>l.length-i-s.1) (fun s fr G=>1<=s.1/\s.1<=l.length-i/\s.2.1+1<=i+s.1/\s.2.2.length=l.length/\s.2.2.take s.2.1=RO (l.take (i+s.1))/\(∀j,s.2.1<=j->j<l.length->gt s.2.2 j=gt l j)/\
  fr 0=.slice (Sa R) l.length (loose 3)/\fr 1=.func (.func 127) #[] #[]/\fr 5=Vi s.2.1/\fr 6=.slice (some ⟨R,i*3,none⟩) (l.length-i) (loose 3)/\fr 7=Vi s.1/\G=DH QH H R s.2.2.toArray++[]) (1,i,l)
  ⟨Nd _,by simp only;omega,Nd _,rfl,ci.symm,fun _ _ _=>rfl,D,W,Y,rfl,by rfl,by rw [N4c Z]⟩ ?_
 rintro ⟨q,k,d⟩ al G ⟨q1,q2,k1,dl,A,B,f0,f1,f5,C,V,rfl⟩ hM
 simp only at q1 q2 k1 dl A B f5 V
 rw [OD Nyo.eq_1]
 have N:∀X,Sl (DH QH H R d.toArray++X) QH 3 (Sa R) d:=fun X=>by
  have:=N47 (X:=X) (d:=d.toArray) (p:=Sa R) rfl t QK
  simpa using this
 have U:IntKind.i64.wrap ((q:Int)+1)=((q+1:Nat):Int):=OV (by omega)
 have T:IntKind.i64.wrap ((q:Int)-1)=((q-1:Nat):Int):=Ngj (by omega) (by omega)
 have ak:IntKind.i64.wrap ((k:Int)+1)=((k+1:Nat):Int):=OV (by omega)
 by_cases hq:q<l.length-i
 ·have K:∀r,r<l.length-i->∀(c:Nat) (kk:IntKind) (H1:NA),MC 3 (.slice (some ⟨R,i*3,none⟩) (l.length-i) c) (.int kk (r:Int)) H1=some (.pointer (some (YV (Sa R) 3 (i+r))),H1):=fun r hr c kk H1=>by
   rw [Yu hr]
   simp only [YV,addrOf,Pa,addr_add,N5,Pw]
  have I:=K q hq
  have F:=K (q-1) (by omega)
  have g:=fun X=>(N X).loadCells QK (i:=i+q) (by omega)
  have f:=fun X=>(N X).loadCells QK (i:=i+(q-1)) (by omega)
  rw [B (i+q) (by omega) (by omega)] at g
  rw [B (i+(q-1)) (by omega) (by omega)] at f
  have ct:=X7 (l:=l) (m:=i+q) (by omega) (by omega)
  rw [show i+q-1=i+(q-1) by omega] at ct
  by_cases u:R4 (gt l (i+q)) (gt l (i+(q-1)))
  ·rw [Nh u,Nc] at ct
   simp only [n126,f1,C,V,NW,hq,I,F,g,f,U,T,Ml,Ns u,SB,seval,NF,NJ,NK,QY]
   exact hM (q+1,k,d) _ _ ⟨by simp only;omega,by simp only;omega,by simp only;omega,dl,by rw [A];exact ct.symm,B,f0,f1,f5,C,rfl,rfl⟩ (by simp only;omega)
  ·rw [Ng u] at ct
   have O:=N8m (lim:=lim) (X:=[]) (d:=d.toArray) (p:=Sa R) (i:=k) (y:=gt l (i+q)) rfl t hl QK (by simp;omega)
   have ae:d.toArray.setIfInBounds k (gt l (i+q))=(d.set k (gt l (i+q))).toArray:=by simp
   rw [ae] at O
   have J:=fun c (kk:IntKind) (H1:NA)=>Yu (e:=3) (n:=k) (len:=l.length) (c:=c) (p:=⟨R,0,none⟩) (k:=kk) (H:=H1) (by omega)
   have ab:(⟨R,0,none⟩:Addr).add (k*3)=YV (Sa R) 3 k:=rfl
   rw [ab] at J
   simp only [n126,f0,f1,f5,C,V,NW,hq,I,F,g,f,U,T,ak,Ml,Oa u,J,O,QK,SB,seval,NF,NJ,NK,QY,reduceCtorEq,NB]
   refine hM (q+1,k+1,d.set k (gt l (i+q))) _ _ ⟨by simp only;omega,by simp only;omega,by simp only;omega,by simp only [Qd];exact dl, ?_,fun j h1 h2=>?_,f0,f1,rfl,C,rfl,rfl⟩ (by simp only;omega)
   ·show (d.set k (gt l (i+q))).take (k+1)=RO (l.take (i+q+1))
    rw [ct,<-A,Oe (by simp;omega),List.getElem_set_self,List.take_set_of_le (Nd _)]
   ·simp only at h1⊢
    have h3:j<(d.set k (gt l (i+q))).length:=by simp;omega
    rw [PU h3,List.getElem_set_ne (by omega),<-PU (by omega)]
    exact B j (by omega) h2
 ·obtain rfl:q=l.length-i:=by omega
  rw [show i+(l.length-i)=l.length by omega,Ol] at A
  rw [show i+(l.length-i)=l.length by omega] at k1
  have ac:(RO l).length=k:=by rw [<-A,O6];omega
  have ah:=Ndh (R:=R) (n:=l.length) (lo:=k) (by omega) (by omega)
  have htk:=Nwt (R:=R) (n:=l.length) (hi:=k) (by omega) (by omega)
  have ad:¬l.length-k=0:=by omega
  have aa:AM.storeAt lim (DH QH H R d.toArray++[]) ⟨R,k*3,none⟩ ((List.replicate (l.length-k) Tn).flatMap QH)=some (DH QH H R (d.take k++List.replicate (d.length-k) Tn).toArray++[]):=by
   have hg:=Njm (enc:=QH) (X:=[]) (d:=d.toArray) t
   rw [UU,hg]
   have M:((List.replicate (l.length-k) Tn).flatMap QH).length=(l.length-k)*3:=by rw [PK QK,O7]
   have w:(d.flatMap QH).length=l.length*3:=by rw [PK QK,dl]
   simp only [M,w]
   rw [Nh ⟨hl,by omega⟩,<-dl,Nmp (by omega)]
   simp only [Nc,DH,List.set_set]
  simp only [n126,N18,f0,f5,C,V,NW,hq,ah,htk,ad,Nv2,aa,SB,seval,NJ,NK,reduceCtorEq,ND]
  have ai:Sl (DH QH H R (d.take k++List.replicate (d.length-k) Tn).toArray) QH 3 (Sa R) (RO l):=by
   have h1:=N47 (X:=[]) (d:=(d.take k++List.replicate (d.length-k) Tn).toArray) (p:=Sa R) rfl t QK
   rw [Nc] at h1
   have h2:=Sl.pre h1 QK
   rw [<-A];exact h2
  have:=hQ _ ai ⟨by simp [DH],fun j hj hA=>PS (by simpa using hA)⟩
  rwa [ac] at this
theorem Nmk [OB] {lim:Nat} {H:NA} {Q:Value->NA->Prop}:NP E false lim 126 [Vz,.func (.func 127) #[] #[]] H Q=Q Vz H:=by
 refine NP.eq ?_
 refine Rm (by decide) N8b rfl ?_
 rw [N8f,N3u]
 simp only [n126,N18,SB,seval,NJ,NK,reduceCtorEq,NE,ND]
 exact Nc H
theorem Nrw [OB] {lim R:Nat} {H:NA} {Q:Value->NA->Prop}:NP E false lim 123 [.map (some R)] H Q=Q (.func (.func 143) #[] #[Vp H.length]) (H++[Vc [.map (some R)]]):=by
 refine NP.eq ?_
 refine Rm (by decide) N9q rfl ?_
 rw [Oao,N6t]
 simp only [n123,N82,SB,seval,NJ,NE,place,NB,ND]
def UD (S:List Ev) (i:Nat):Ess:=(S.take i).foldl Sk []
theorem Nhl {S:List Ev} {i:Nat} (h:i<S.length):UD S (i+1)=Sk (UD S i) (gt S i):=by
 unfold UD
 rw [Oe h,List.foldl_append,PU h];rfl
theorem Neu (S:List Ev):∀i,(UD S i).length<=i
 | 0=>Nd _
 | i+1=>by
   rcases Ou i S.length with h | h
   ·rw [Nhl h]
    have:=Neu S i
    unfold Sk
    split
    ·rw [Nay];have:=Mt (k:=RU (gt S i)) (v:=Zl (gt S i)) (l:=UD S i);omega
    split
    ·rw [Nay];have:=Mt (k:=RU (gt S i)) (v:=Zl (gt S i)) (l:=UD S i);omega
    ·omega
   ·have e:UD S (i+1)=UD S i:=by unfold UD;rw [Og h,Og (by omega)]
    rw [e];have:=Neu S i;omega
theorem gather_ok [OB] {lim c:Nat} {p:Option Addr} {S:List Ev} {H:NA} {Q:Value->NA->Prop} (hs:Sl H QE 6 p S) (hS:QQ S) (hl:lim<=H.length)
  (hQ:∀G p' c',Sl G QH 3 p' (QG S)->Ve 3 c' (QG S).length->Chg [] H G->Q (.slice p' (QG S).length c') (G++[])) :
  NP Ef false lim 93 [.slice p S.length c] H Q:=by
 have hn:=hS.1
 refine Ngs (by decide) e93 rfl ?_
 rw [b93,c93]
 simp only [n93,SB,seval,NJ,reduceCtorEq,NE,place]
 refine NZ (fun i=>S.length-i) (fun i fr G=>i<=S.length/\fr 3=.map (some H.length)/\fr 12=.slice p S.length c/\fr 13=Vi S.length/\fr 14=Vi i/\NC G H.length=.map (Rv kM vK (UD S i))/\H.length<G.length/\Sl G QE 6 p S/\∀j,j<H.length->NC G j=NC H j) 0
  ⟨Nv _,rfl,rfl,rfl,by rfl,by rw [NQ];rfl,by simp,hs.app _,fun j z=>NI z⟩ ?_
 rintro i fr G ⟨hi,n,f,d,m,T,gl,gs,go⟩ I
 rw [OD N4j.eq_1]
 refine NL ?_
 have l:∀X,NC (G++X) H.length=.map (Rv kM vK (UD S i)):=fun X=>by rw [NI gl];exact T
 by_cases g:i<S.length
 ·have q:=fun X=>(gs.app X).loadCells PN g
  have h:=fun c (k:IntKind) (H1:NA)=>gs.idx (c:=c) (k:=k) (H1:=H1) g
  have r:IntKind.i64.wrap ((i:Int)+1)=((i+1:Nat):Int):=OV (by omega)
  have hf:RG (gt S i):=hS.2 _ (QJ g)
  have W:=hf
  unfold RG Vx at W
  have N:=Nhl g
  generalize ad:gt S i=s at *
  have O:IntKind.i64.wrap (Int.tdiv s.seen 1440)=s.seen / 1440:=by
   rw [P4 (by omega)];exact NN (by omega) (by omega)
  have wd:IntKind.i64.wrap (s.seen-s.at')=s.seen-s.at':=NN (by omega) (by omega)
  have o:lim<=G.length:=by omega
  have hk:SF (.ints [.i64,.i64]) (.agg #[Vi s.scanner,Vi (s.seen / 1440)])=true:=Nyy (k:=RU s)
  have e:=Va (vv:=vK) Nyz (RU s) (UD S i) 0
  have K:kM (RU s)=.agg #[Vi s.scanner,Vi (s.seen / 1440)]:=rfl
  have ac:vK (Zl s)=.agg #[Vi s.scanner,Vi s.at',Vi (s.seen-s.at')]:=rfl
  rw [K] at e
  have b:=ZK (RU s) (UD S i) 0
  rw [<-Nzd] at b
  have fin:∀(es':Ess) (G1:NA) (X:NA),NC G1 H.length=.map (Rv kM vK es')->es'=UD S (i+1)->(∀j,j≠H.length->NC G1 j=NC G j)->G1.length=G.length->
    NC (G1++X) H.length=.map (Rv kM vK (UD S (i+1)))/\H.length<(G1++X).length/\Sl (G1++X) QE 6 p S/\∀j,j<H.length->NC (G1++X) j=NC H j:=by
   intro es' G1 X h1 h2 t l1
   subst h2
   refine ⟨by rw [NI (by omega)];exact h1,by simp;omega, ?_,fun j z=>by rw [NI (by omega),t j (by omega)];exact go j z⟩
   refine (Sl.same gs fun a ha Z=>?_).app _
   subst ha
   have:=hs.lt Z
   exact t _ (by omega)
  have C:∀es':List (Value×Value),∃G1,(∀X:NA,(G++X).set H.length (.map es')=G1++X)/\NC G1 H.length=.map es'/\Mut G G1 H.length:=fun es'=>OP gl _
  cases hc:fk (RU s) (UD S i) 0 with
  | none=>
    rw [hc] at e b
    simp only [Oh] at e b
    have M:UD S (i+1)=WP (RU s) (Zl s) (UD S i):=by rw [N];unfold Sk;rw [<-b]
    obtain ⟨G1,e1,h1,t⟩:=C (Rv kM vK (UD S i)++[(.agg #[Vi s.scanner,Vi (s.seen / 1440)],.agg #[Vi s.scanner,Vi s.at',Vi (s.seen-s.at')])])
    have y:NC G1 H.length=.map (Rv kM vK (Vu (RU s) (Zl s) (UD S i))):=by
     rw [h1,<-Ncx (v':=Zl s) hc];simp only [Rv,Oq,N9,List.map_nil];rfl
    simp only [n93,n,f,d,m,NW,g,h,q,o,PN,Y1,Y0,Yz,NH,O,wd,r,l,hk,e,e1,hl,SB,seval,NJ,NK,QY,place,NB]
    obtain ⟨u,v,a3,w⟩:=fin _ G1 _ y (by rw [M,Nay]) t.other t.len
    exact I (i+1) _ _ ⟨by omega,n,f,d,rfl,u,v,a3,w⟩ (by omega)
  | some x=>
    obtain ⟨j,old⟩:=x
    rw [hc] at e b
    simp only [Nr] at e b
    have ab:vK old=.agg #[Vi old.scanner,Vi old.at',Vi old.off]:=rfl
    rw [ab] at e
    have A:UD S (i+1)=if RV (Zl s) old then WP (RU s) (Zl s) (UD S i) else UD S i:=by rw [N];unfold Sk;rw [<-b]
    obtain ⟨G1,e1,h1,t⟩:=C ((Rv kM vK (UD S i)).set j (.agg #[Vi s.scanner,Vi (s.seen / 1440)],.agg #[Vi s.scanner,Vi s.at',Vi (s.seen-s.at')]))
    have y:NC G1 H.length=.map (Rv kM vK (Vu (RU s) (Zl s) (UD S i))):=by
     rw [h1,<-(MK (v':=Zl s) hc).2.2];simp only [Rv,List.map_set,Nat.sub_zero];rfl
    by_cases D:s.seen-s.at'<old.off
    ·simp only [n93,n,f,d,m,NW,g,h,q,o,PN,Y1,Y0,Yz,NH,O,wd,r,l,hk,e,e1,hl,N3 D,SB,seval,NJ,NK,QY,place,NB]
     obtain ⟨u,v,a3,w⟩:=fin _ G1 _ y (by rw [A,Nh (.inl D),Nay]) t.other t.len
     exact I (i+1) _ _ ⟨by omega,n,f,d,rfl,u,v,a3,w⟩ (by omega)
    by_cases P:s.seen-s.at'=old.off
    ·by_cases c3:s.at'<old.at'
     ·simp only [n93,n,f,d,m,NW,g,h,q,o,PN,Y1,Y0,Yz,NH,O,wd,r,l,hk,e,e1,hl,Np D,N3 P,N3 c3,SB,seval,NJ,NK,QY,place,NB]
      obtain ⟨u,v,a3,w⟩:=fin _ G1 _ y (by rw [A,Nh (.inr ⟨P,c3⟩),Nay]) t.other t.len
      exact I (i+1) _ _ ⟨by omega,n,f,d,rfl,u,v,a3,w⟩ (by omega)
     ·simp only [n93,n,f,d,m,NW,g,h,q,o,PN,Y1,Y0,Yz,NH,O,wd,r,l,hk,e,Np D,N3 P,Np c3,SB,seval,NJ,NK,QY,place,NB]
      obtain ⟨u,v,a3,w⟩:=fin _ G _ T (by rw [A,Ng (by unfold RV Zl;simp only;omega)]) (fun _ _=>rfl) rfl
      exact I (i+1) _ _ ⟨by omega,n,f,d,rfl,u,v,a3,w⟩ (by omega)
    ·simp only [n93,n,f,d,m,NW,g,h,q,o,PN,Y1,Y0,Yz,NH,O,wd,r,l,hk,e,Np D,Np P,SB,seval,NJ,NK,QY,place,NB]
     obtain ⟨u,v,a3,w⟩:=fin _ G _ T (by rw [A,Ng (by unfold RV Zl;simp only;omega)]) (fun _ _=>rfl) rfl
     exact I (i+1) _ _ ⟨by omega,n,f,d,rfl,u,v,a3,w⟩ (by omega)
 ·obtain rfl:i=S.length:=by omega
  have J:UD S S.length=UC S:=by unfold UD UC;rw [Ol]
  rw [J] at T l
  have hv:=fun (X:NA) (Q:Value->NA->Prop)=>NP.eqF' (Q:=Q) (show NP E false lim 123 [.map (some H.length)] (G++X) (fun v' H1=>v'=_/\H1=_) by rw [Nrw];exact ⟨rfl,rfl⟩)
  simp only [n93,n,d,m,NW,g,hv,SB,seval,NF,NJ,NK]
  have hle:=Neu S S.length
  rw [J] at hle
  refine Nsg (es:=UC S) (R:=H.length) (by simp;omega) (by rw [NQ];rfl) (l _) (by omega) fun G1 p1 D hO hC=>?_
  have hL:(U3 R7 ((UC S).map (·.2))).length=(UC S).length:=by rw [(S9 R7 _).length_eq,Nw]
  have B:∀j,j<H.length->NC G1 j=NC H j:=fun j z=>by
   rw [hC.other j (by simp;omega) (by simp),NI (by omega)];exact go j z
  have L:=hC.len
  simp only [Ni,Nk,No] at L
  rcases hO with ⟨h0,rfl,rfl⟩ | ⟨R,rfl,rfl,hR,U⟩
  ·have Y:QG S=[]:=by unfold QG;rw [h0];rfl
   have hz:(UC S).length=0:=by rw [<-hL,h0];rfl
   rw [hz]
   have V:=fun X (Q:Value->NA->Prop)=>NP.eqF (Q:=Q) (show NP E false lim 126 [Vz,.func (.func 127) #[] #[]] (G1++X) (fun v' H1=>v'=Vz/\H1=G1++X) by rw [Nmk];exact ⟨rfl,rfl⟩)
   simp only [n93,r93,V,SB,seval,NF,NJ,ND]
   have:=hQ G1 none 0 (by rw [Y];rfl) (by rw [Y];exact .inr ⟨Nd _,by decide⟩) ⟨by omega,fun j z _=>B j z⟩
   rw [Y] at this
   exact this
  ·rw [<-hL]
   simp only [n93,SB,seval,NF,NJ]
   simp only [Ni,Nk,No] at U
   refine NP.weak (E':=E) ?_
   rw [Nc]
   refine Np7 hR (by omega) (by omega) fun G2 aa F=>?_
   refine NL ?_
   simp only [n93,r93,SB,seval,NJ,ND]
   refine hQ G2 _ _ aa (.inl rfl) ⟨by have:=F.len;omega,fun j z _=>?_⟩
   rw [F.other j (by omega) (by simp;omega)]
   exact B j z
theorem Naf {α:Type} {lim R e bytes cap k b:Nat} {dest:Option Nat} {H:NA} {enc:α->List Value} {old:List α} {x:α} {ro:Bool} {rest:List Value} (he:∀x,(enc x).length=e) (h:e≠0) (hx:NC H b=.cells ro (enc x)) (a:NC H R=Vc (old.flatMap enc++rest)) (hl:lim<=R)
  (hc:old.length+1<=cap) (hr:rest.length=(cap-old.length)*e) (f:cap<2 ^ 61) (j:(old.length+1)*bytes<=PM) :
  OU lim dest e bytes false (.slice (Sa R) old.length cap) (.slice (Sa b) 1 k) H=some (.slice (Sa R) (old.length+1) cap,H.set R (Vc ((old++[x]).flatMap enc++rest.drop e))):=by
 have g:=NG a
 have d:AM.loadCells H ⟨b,0,none⟩ (1*e)=some (enc x):=by
  rw [QA,hx]
  simp only [N5,Ox,Nat.one_mul]
  rw [Nh (by rw [he];exact Nd _),<-he x,Ol]
 have hle:e<=rest.length:=by rw [hr];exact Nat.le_mul_of_pos_left e (by omega)
 have i:AM.loadCells H ⟨R,0,none⟩ (old.length*e)=some (old.flatMap enc):=by
  rw [QA,a]
  simp only [N5,Ox]
  rw [Nh (by rw [Ni,PK he];omega),<-PK he,List.take_left]
 have c:AM.storeAt lim H (Addr.add ⟨R,0,none⟩ (old.length*e)) (enc x)=some (H.set R (Vc ((old++[x]).flatMap enc++rest.drop e))):=by
  simp only [addr_add,UU,a,N5]
  rw [Nh ⟨hl,by rw [Ni,PK he,he];omega⟩]
  have:=Ndo (enc x) (old.flatMap enc) (rest.take e) (rest.drop e) (by rw [he,O6];omega)
  rw [Nq,Qk,PK he] at this
  rw [this,Qi,Om,List.flatMap_nil,Nc]
 simp only [OU,firstCells,lenOf,d,i,c,if_false,Nz,Nat.one_ne_zero]
 rw [Ng (by omega),Ng (by unfold loose;omega),Nh (by omega),Nh (by omega)]
def Nme (M:List Mk) (S:List Ev):List Ev:=S.map fun s=>{ s with time:=TW M s }
theorem WU {M:List Mk} {S:List Ev}:(Nme M S).length=S.length:=Nw ..
theorem N3j {M:List Mk} {S:List Ev} {i:Nat} (h:i<S.length):gt (Nme M S) i={ gt S i with time:=TW M (gt S i) }:=by
 rw [PU (by rw [WU];exact h),PU h]
 unfold Nme
 rw [Pz]
structure ESt (H:NA) (M:List Mk) (S:List Ev) (p pm:Option Addr) (B i:Nat) (G:NA):Prop where
 row:∃rest,rest.length=(S.length-i)*7/\NC G B=Vc (((Nme M S).take i).flatMap encE++rest)
 sm:Sl G QH 3 pm M
 ss:Sl G QE 6 p S
 old:∀j,j<H.length->NC G j=NC H j
 len:B<G.length
def Nkn (p:Option Addr):List Nat:=match p with
 | none=>[]
 | some a=>[a.block]
theorem UK {p:Option Addr} {j:Nat} (h:j∈Nkn p):∃a,p=some a/\j=a.block:=by
 cases p with
 | none=>cases h
 | some a=>exact ⟨a,rfl,by simpa [Nkn] using h⟩
theorem M3 {p:Option Addr} {j:Nat} (h:j∉Nkn p):∀a,p=some a->j≠a.block:=fun a e h2=>h (by rw [e];simp [Nkn,h2])
structure FSt (H:NA) (EV:List Ev) (B Mp:Nat) (kr tr:List Ev) (es:List ((Int×Int×Int)×Int)) (kp tp:Option Addr) (kc tc:Nat) (G:NA):Prop where
 mp:NC G Mp=.map (Rv kS vI es)
 ev:NC G B=Vc (EV.flatMap encE)
 ko:Own (Mp+1) G encE 7 kp kc kr.reverse
 to:Own (Mp+1) G encE 7 tp tc tr.reverse
 ne:∀a b,kp=some a->tp=some b->a.block≠b.block
 old:∀j,j<H.length->NC G j=NC H j
 len:Mp<G.length
 rel:∀e,UZ (QR e) es=(Vm e kr).map (·.time)
 sub:∀x∈kr,x∈EV
 kn:kr=[]->kp=none
 tn:tr=[]->tp=none
theorem FSt.twice {H:NA} {EV:List Ev} {B Mp:Nat} {kr tr:List Ev} {es:List ((Int×Int×Int)×Int)} {kp tp:Option Addr} {kc tc:Nat} {G:NA} {lim:Nat} (h:FSt H EV B Mp kr tr es kp tp kc tc G) (hl:lim<=H.length) (l:H.length<=B) (k:B<Mp) (e:Ev) (hn:tr.length<4000) (x y:Blk) :
  ∃G',OU lim none 7 56 false (.slice tp tr.length tc) (.slice (Sa (G.length+2)) 1 1) (G++[x,y,Vc (encE e)])=some (.slice (Sa (G.length+3)) (tr.length+1) (loose 7),G'++[])/\FSt H EV B Mp kr (e::tr) es kp (Sa (G.length+3)) kc (loose 7) (G'++[]):=by
 have len:=h.len
 obtain ⟨G2,e2,d,_,c,f,_⟩:=h.to.step (lim':=lim) (bytes:=56) (by omega) OE (by decide) e (by rw [List.length_reverse];unfold PM;omega) (by rw [List.length_reverse];omega) (by omega) [x,y,Vc (encE e)] (G.length+2) 1 (by rw [NR];rfl)
 rw [List.length_reverse] at e2
 simp only [Nk,No,N5,Nat.reduceAdd] at e2 d f
 have nt:∀j,j<=Mp->∀a,tp=some a->j≠a.block:=fun j g a ha=>by have:=(h.to.block ha).1;omega
 have hc:Chg (Nkn tp) G (G2++[]):=⟨by simp;omega,fun j g hA=>c j g (M3 hA)⟩
 refine ⟨G2,e2,(c _ len (nt _ (Nd _))).trans h.mp,(c _ (by omega) (nt _ (by omega))).trans h.ev,h.ko.chg hc fun a ha m=>?_,by rw [List.reverse_cons];exact d,fun a b ha i=>?_,fun j g=>(c j (by omega) (nt _ (by omega))).trans (h.old j g),by simp;omega,h.rel,h.sub,h.kn,fun h=>(by cases h)⟩
 ·obtain ⟨b,i,e⟩:=UK m
  exact h.ne a b ha i e
 ·cases i
  have:=(h.ko.block ha).2
  show a.block≠G.length+3
  omega
theorem Npa {e x:Ev} {kr:List Ev}:Vm e (x::kr)=if QR x=QR e then some x else Vm e kr:=by
 unfold Vm
 by_cases h:QR x=QR e
 ·rw [List.find?_cons_of_pos (by simpa using h),Nh h]
 ·rw [List.find?_cons_of_neg (by simpa using h),Ng h]
theorem FSt.kept {H:NA} {EV:List Ev} {B Mp:Nat} {kr tr:List Ev} {es:List ((Int×Int×Int)×Int)} {kp tp:Option Addr} {kc tc:Nat} {G:NA} {lim:Nat} (h:FSt H EV B Mp kr tr es kp tp kc tc G) (hl:lim<=H.length) (p:H.length<=B) (o:B<Mp) (e:Ev) (he:e∈EV) (hn:kr.length<4000) (x y:Blk) :
  ∃G1,(∀X:NA,(G++X).set Mp (.map (Rv kS vI (Vu (QR e) e.time es)))=G1++X)/\∃G',OU lim none 7 56 false (.slice kp kr.length kc) (.slice (Sa (G1.length+2)) 1 1) (G1++[x,y,Vc (encE e)])=some (.slice (Sa (G1.length+3)) (kr.length+1) (loose 7),G'++[])/\
   FSt H EV B Mp (e::kr) tr (Vu (QR e) e.time es) (Sa (G1.length+3)) tp (loose 7) tc (G'++[])/\G1.length=G.length:=by
 have len:=h.len
 obtain ⟨G1,e1,h1,i⟩:=OP (G:=G) (R:=Mp) len (.map (Rv kS vI (Vu (QR e) e.time es)))
 have s:=i.len
 have nk:∀j,j<=Mp->∀a,kp=some a->j≠a.block:=fun j f a ha=>by have:=(h.ko.block ha).1;omega
 have nt:∀j,j<=Mp->∀a,tp=some a->j≠a.block:=fun j f a ha=>by have:=(h.to.block ha).1;omega
 have m:=h.ko.mut i (fun a ha=>(nk Mp (Nd _) a ha).symm)
 have n:=h.to.mut i (fun a ha=>(nt Mp (Nd _) a ha).symm)
 obtain ⟨G2,e2,d,_,c,g,_⟩:=m.step (lim':=lim) (bytes:=56) (by omega) OE (by decide) e (by rw [List.length_reverse];unfold PM;omega) (by rw [List.length_reverse];omega) (by omega) [x,y,Vc (encE e)] (G1.length+2) 1 (by rw [NR];rfl)
 rw [List.length_reverse] at e2
 simp only [Nk,No,N5,Nat.reduceAdd] at e2 d g
 have hc:Chg (Nkn kp) G1 (G2++[]):=⟨by simp;omega,fun j f hA=>c j f (M3 hA)⟩
 refine ⟨G1,e1,G2,e2,⟨(c _ (by omega) (nk _ (Nd _))).trans h1,(c _ (by omega) (nk _ (by omega))).trans ((i.other _ (by omega)).trans h.ev),by rw [List.reverse_cons];exact d,n.chg hc fun a ha r=>?_,fun a b ha l=>?_,fun j f=>(c j (by omega) (nk _ (by omega))).trans ((i.other j (by omega)).trans (h.old j f)),by simp;omega,fun a=>?_,fun z hz=>?_,fun h=>(by cases h),h.tn⟩,s⟩
 ·obtain ⟨b,l,e⟩:=UK r
  exact h.ne b a l ha e.symm
 ·cases ha
  have:=(h.to.block l).2
  show G1.length+3≠b.block
  omega
 ·rw [Nel,Npa,h.rel]
  by_cases k:QR a=QR e
  ·rw [Nh k,Nh k.symm];rfl
  ·rw [Ng k,Ng fun q=>k q.symm]
 ·rcases Nn.mp hz with rfl | hz
  ·exact he
  ·exact h.sub z hz
theorem Nq3 [OB] {lim c:Nat} {p:Option Addr} {S:List Ev} {H:NA} {Q:Value->NA->Prop} (hs:Sl H QE 6 p S) (hS:QQ S) (hl:lim<=H.length)
  (hQ:∀G kp kc tp tc,Own H.length G encE 7 kp kc (NY S).1->Own H.length G encE 7 tp tc (NY S).2->(∀a b,kp=some a->tp=some b->a.block≠b.block)->Chg [] H G->((NY S).1=[]->kp=none)->((NY S).2=[]->tp=none)->Q (.tuple #[.slice kp (NY S).1.length kc,.slice tp (NY S).2.length tc]) (G++[])) :
  NP Ef false lim 56 [.slice p S.length c] H Q:=by
 have hn:=hS.1
 refine Ngs (by decide) e56 rfl ?_
 rw [b56,c56]
 simp only [n56,SB,seval,NF,NJ,reduceCtorEq,NE]
 rw [Nc]
 refine gather_ok hs hS hl fun G pm cm sm aw hC=>?_
 have az:=Go.Scan.gather_ok hS.2
 generalize hM:QG S=M at *
 have lM:M.length<=2000:=by rw [<-hM];have:=Npj S;omega
 have bo:=hC.len
 have aq:∀G',(∀j,j<H.length->NC G' j=NC H j)->Sl G' QE 6 p S:=fun G' ho=>Sl.same hs fun a ha ab=>by
  subst ha;exact ho _ (hs.lt ab)
 have a1:(S.length:Int)*56<=2 ^ 45:=by omega
 have a2:(S.length:Int)<2 ^ 62:=by omega
 have hz:(List.range (S.length*7)).length=S.length*7:=Ps
 have bb:(0:Int)<=(S.length:Int):=by omega
 have ac:∀z:List Value,z.length=S.length*7->ESt H M S p pm G.length 0 (G++[Vc z]):=fun z hz=>by
  have ho:∀j,j<H.length->NC (G++[Vc z]) j=NC H j:=fun j F=>by rw [NI (by omega),hC.other j F (by simp)]
  exact ⟨⟨z,by rw [hz,Nat.sub_zero],by rw [NQ];rfl⟩,sm.app _,aq _ ho,ho,by simp⟩
 simp only [n56,a1,a2,N7,Int.toNat_zero,bb,SB,Nat.reduceLT,NJ,reduceCtorEq,NE,place,Nat.reduceAdd,Int.reduceLE]
 refine NZ (fun i=>S.length-i) (fun i fr G2=>i<=S.length/\fr 2=Vz/\fr 3=Vz/\fr 4=.slice pm M.length cm/\fr 5=.slice (Sa G.length) i S.length/\fr 19=.slice p S.length c/\fr 20=Vi S.length/\fr 21=Vi i/\ESt H M S p pm G.length i G2) 0
  ⟨Nv _,rfl,rfl,rfl,rfl,rfl,rfl,by rfl,ac _ (by rw [Nw,Ps])⟩ ?_
 ·rintro i fr G2 ⟨hi,g2,g3,g4,g5,ag,V,ah,⟨rest,J,C⟩,au,av,U,T⟩ hN
  rw [OD N4v.eq_1]
  refine NL ?_
  by_cases o:i<S.length
  ·have ba:=fun X=>(av.app X).loadCells PN o
   have ao:=fun c (k:IntKind) (H1:NA)=>av.idx (c:=c) (k:=k) (H1:=H1) o
   have bg:IntKind.i64.wrap ((i:Int)+1)=((i+1:Nat):Int):=OV (by omega)
   have hf:RG (gt S i):=hS.2 _ (QJ o)
   have a4:=fun X (mp:Bool) (lim:Nat) (Q:Value->NA->Prop)=>Np4 (mp:=mp) (lim:=lim) (Q:=Q) (au.app X) aw (by omega) az hf
   have a9:lim<=G2.length:=by omega
   have al:=N3j (M:=M) o
   generalize bq:gt S i=s at *
   generalize bv:TW M s=t at *
   have bd:QW [Value.int .i64 0,Vi 0,Vi 0,.int .u8 0,Vi 0,Vi 0,Vi 0] 0 (QE s)=[Vi s.item,Vi s.place,Vi s.scanner,.int .u8 s.kind,Vi s.at',Vi s.seen,Vi 0]:=rfl
   have hev:[Value.int .i64 s.item,Vi s.place,Vi s.scanner,.int .u8 s.kind,Vi s.at',Vi s.seen,Vi t]=encE { s with time:=t }:=rfl
   generalize hex:{ s with time:=t }=e at *
   have K:((Nme M S).take i).length=i:=by rw [O6,WU];omega
   obtain ⟨D,e3,h3,m3⟩:=OP (G:=G2) (R:=G.length) T (Vc ((((Nme M S).take i)++[e]).flatMap encE++rest.drop 7))
   have N:=Naf (lim:=lim) (R:=G.length) (bytes:=56) (cap:=S.length) (k:=1) (b:=G2.length+1) (dest:=some (G2.length+2)) (H:=G2++[Vc (QE s),Vc (encE e),.dead]) (enc:=encE) (old:=(Nme M S).take i) (x:=e) (ro:=false) (rest:=rest) OE (by decide)
    (by rw [NR];rfl) (by rw [NI T];exact C) (by omega) (by rw [K];omega) (by rw [K];exact J) (by omega) (by rw [K];unfold PM;omega)
   rw [K,e3] at N
   simp only [n56,g4,g5,ag,V,ah,NW,o,ao,ba,a9,PN,NM,NH,a4,bg,bd,hev,OE,N,SB,seval,NF,NJ,NK,place,NB]
   have l3:=m3.len
   have I:∀j,j<H.length->NC (D++[Vc (QE s),Vc (encE e),.dead]) j=NC H j:=fun j F=>by
    rw [NI (by omega),m3.other j (by omega)];exact U j F
   have bh:Sl D QH 3 pm M:=Sl.same au fun a ha ab=>by
    subst ha
    have:=sm.lt ab
    exact m3.other _ (by omega)
   refine hN (i+1) _ _ ⟨by omega,g2,g3,g4,rfl,ag,V,rfl,⟨⟨rest.drop 7,by rw [Pj,J];omega, ?_⟩,bh.app _,aq _ I,I,by simp;omega⟩⟩ (by omega)
   rw [NI (by omega),h3,Oe (i:=i) (by rw [WU];exact o),<-PU,al]
  ·obtain rfl:i=S.length:=by omega
   have bc:rest=[]:=by
    rw [Qr,Qq] at J
    exact List.length_eq_zero_iff.mp J
   rw [bc,Nc,Og (by rw [WU];exact Nd _)] at C
   obtain ⟨D,s1,s2,s3⟩:=Nws (lim:=lim) (cap:=S.length) C (by omega) (by rw [WU];omega)
   rw [WU] at s1
   have am:U3 Sy (Nme M S)=RQ M S:=rfl
   rw [am] at s2
   simp only [n56,g5,V,ah,NW,o,s1,SB,seval,NF,NJ,NK,place]
   have a0:NY S=Sj [] [] (RQ M S):=by rw [<-hM];rfl
   generalize ai:RQ M S=EV at *
   have aj:EV.length=S.length:=by rw [<-ai,Npr]
   have l3:=s3.len
   have I:∀j,j<H.length->NC D j=NC H j:=fun j F=>by rw [s3.other j (by omega) (by simp;omega)];exact U j F
   have an:∀x∈EV,0<=x.time/\x.time<=1051898399:=fun x hx=>by
    rw [<-ai] at hx
    obtain ⟨z,hz,rfl⟩:=Xw.mp hx
    have ar:=hS.2 z hz
    have:=Nq1 (M:=M) ar
    unfold RG Vx at ar
    simp only;omega
   have ay:=NG s2
   refine NZ (S:=Nat×List Ev×List Ev×List ((Int×Int×Int)×Int)×Option Addr×Option Addr×Nat×Nat) (fun s=>S.length-s.1) (fun s fr E=>s.1<=S.length/\Sj s.2.1 s.2.2.1 (EV.drop s.1)=NY S/\s.2.1.length<=s.1/\s.2.2.1.length<=s.1/\
    fr 2=.slice s.2.2.2.2.1 s.2.1.length s.2.2.2.2.2.2.1/\fr 3=.slice s.2.2.2.2.2.1 s.2.2.1.length s.2.2.2.2.2.2.2/\fr 8=.map (some D.length)/\fr 37=.slice (Sa G.length) S.length S.length/\fr 38=Vi S.length/\fr 39=Vi s.1/\
    FSt H EV G.length D.length s.2.1 s.2.2.1 s.2.2.2.1 s.2.2.2.2.1 s.2.2.2.2.2.1 s.2.2.2.2.2.2.1 s.2.2.2.2.2.2.2 E) (0,[],[],[],none,none,0,0)
    ⟨Nv _,by rw [Ox];exact a0.symm,Nd _,Nd _,(by simp only [g2,No,FB,Nat.reduceEqDiff]),(by simp only [g3,No,FB,Nat.reduceEqDiff]),rfl,rfl,rfl,by rfl,⟨by rw [NQ];rfl,by rw [NI ay];exact s2,.inl ⟨rfl,rfl,rfl⟩,.inl ⟨rfl,rfl,rfl⟩,fun a b h=>(by cases h),fun j F=>by rw [NI (by omega)];exact I j F,by simp,fun e=>rfl,fun x hx=>(O1 hx).elim,fun _=>rfl,fun _=>rfl⟩⟩ ?_
   rintro ⟨i,kr,tr,es,kp,tp,kc,tc⟩ bn E ⟨a7,l,a8,htl,f2,f3,f8,u,m,w,st⟩ Z
   simp only at a7 l a8 htl f2 f3 w st
   rw [OD N4w.eq_1]
   refine NL ?_
   by_cases q:i<S.length
   ·have y:i<EV.length:=by omega
    have P:Sl E encE 7 (Sa G.length) EV:=Sl.row OE st.ev
    have B:=fun X=>(P.app X).loadCells OE y
    have n:∀(c:Nat) (k:IntKind) (H1:NA),MC 7 (.slice (Sa G.length) S.length c) (.int k (i:Int)) H1=some (.pointer (some (YV (Sa G.length) 7 i)),H1):=fun c k H1=>by
     rw [<-aj];exact P.idx y
    have ae:IntKind.i64.wrap ((i:Int)+1)=((i+1:Nat):Int):=OV (by omega)
    have ak:gt EV i∈EV:=QJ y
    have a5:EV.drop i=gt EV i::EV.drop (i+1):=by rw [Ow y,PU y]
    rw [a5] at l
    have f:=st.rel (gt EV i)
    generalize hex:gt EV i=e at *
    have hk:SF (.ints [.i64,.i64,.u8]) (.agg #[Vi e.item,Vi e.place,.int .u8 e.kind])=true:=N78 (k:=QR e)
    have g:=Va (vv:=vI) N79 (QR e) es 0
    have ap:kS (QR e)=.agg #[Vi e.item,Vi e.place,.int .u8 e.kind]:=rfl
    rw [ap] at g
    have d:=ZK (QR e) es 0
    have W:∀X,NC (E++X) D.length=.map (Rv kS vI es):=fun X=>by rw [NI st.len];exact st.mp
    have A:lim<=E.length:=by have:=st.len;omega
    have O:lim<=D.length:=by omega
    have L:∀(em:List (Value×Value)),em=Rv kS vI (Vu (QR e) e.time es)->
      ∃G1,(∀X:NA,(E++X).set D.length (.map em)=G1++X)/\(∀Y,NC (G1++Vc (encE e)::Y) E.length=Vc (encE e))/\∃G',OU lim none 7 56 false (.slice kp kr.length kc) (.slice (Sa (G1.length+2)) 1 1) (G1++[Vc (encE e),Vc [Vi e.item,Vi e.place,.int .u8 e.kind],Vc (encE e)])=some (.slice (Sa (G1.length+3)) (kr.length+1) (loose 7),G'++[])/\
       FSt H EV G.length D.length (e::kr) tr (Vu (QR e) e.time es) (Sa (G1.length+3)) tp (loose 7) tc (G'++[]):=by
     intro em a6
     subst a6
     obtain ⟨G1,e1,G',e2,bk,l1⟩:=st.kept hl (by omega) (by omega) e ak (by omega) (Vc (encE e)) (Vc [Vi e.item,Vi e.place,.int .u8 e.kind])
     exact ⟨G1,e1,fun Y=>by rw [<-l1];exact NQ,G',e2,bk⟩
    obtain ⟨GT,ax,bm⟩:=st.twice hl (by omega) (by omega) e (by omega) (Vc (encE e)) (Vc [Vi e.item,Vi e.place,.int .u8 e.kind])
    cases hc:fk (QR e) es 0 with
    | none=>
      rw [hc] at g d
      simp only [Oh] at g d
      have r:=Ncx (v':=e.time) hc
      have htw:XW e kr=false:=by
       unfold XW
       rw [<-d] at f
       cases hq:Vm e kr with
       | none=>rfl
       | some z=>rw [hq] at f;cases f
      obtain ⟨G1,e1,R1,G',e2,fin⟩:=L (Rv kS vI es++[(.agg #[Vi e.item,Vi e.place,.int .u8 e.kind],Vi e.time)]) (by rw [<-r];simp only [Rv,Oq,N9,List.map_nil];rfl)
      simp only [n56,f2,f8,u,m,w,NW,q,n,B,A,O,OE,VN,Uv,Uu,Si,NM,NH,ae,W,hk,g,e1,R1,e2,SB,seval,NJ,NK,place,NB]
      exact Z (i+1,e::kr,tr,Vu (QR e) e.time es,Sa (G1.length+3),tp,loose 7,tc) _ _ ⟨by simp only;omega,by rw [<-l,Sj,htw];rfl,by simp only [Nk];omega,by simp only;omega,(by simp only [Nk,FB,Nat.reduceEqDiff]),f3,f8,u,m,rfl,fin⟩ (by simp only;omega)
    | some x=>
      obtain ⟨j,v⟩:=x
      rw [hc] at g d
      simp only [Nr] at g d
      have r:=(MK (v':=e.time) hc).2.2
      rw [Nat.sub_zero] at r
      rw [<-d] at f
      cases hq:Vm e kr with
      | none=>rw [hq] at f;cases f
      | some z=>
      rw [hq] at f
      have bf:v=z.time:=by simpa using f
      have hz:=an z (st.sub z (Nd8 hq).1)
      have bu:=an e ak
      have be:vI v=Vi z.time:=by rw [bf];rfl
      rw [be] at g
      have wd:IntKind.i64.wrap (e.time-z.time)=e.time-z.time:=NN (by omega) (by omega)
      by_cases hd:e.time-z.time<=10
      ·have htw:XW e kr=true:=XV.mpr ⟨z,hq,hd⟩
       simp only [n56,f3,f8,u,m,w,NW,q,n,B,A,OE,VN,Uv,Uu,Si,NM,NH,ae,W,hk,g,wd,N3 hd,ax,SB,seval,NJ,NK,place,NB]
       exact Z (i+1,kr,e::tr,es,kp,Sa (E.length+3),kc,loose 7) _ _ ⟨by simp only;omega,by rw [<-l,Sj,htw];rfl,by simp only;omega,by simp only [Nk];omega,f2,(by simp only [Nk,FB,Nat.reduceEqDiff]),f8,u,m,rfl,bm⟩ (by simp only;omega)
      ·have htw:XW e kr=false:=by unfold XW;rw [hq];exact Oa hd
       obtain ⟨G1,e1,R1,G',e2,fin⟩:=L ((Rv kS vI es).set j (.agg #[Vi e.item,Vi e.place,.int .u8 e.kind],Vi e.time)) (by rw [<-r];simp only [Rv,List.map_set];rfl)
       simp only [n56,f2,f8,u,m,w,NW,q,n,B,A,O,OE,VN,Uv,Uu,Si,NM,NH,ae,W,hk,g,wd,Np hd,e1,R1,e2,SB,seval,NJ,NK,place,NB]
       exact Z (i+1,e::kr,tr,Vu (QR e) e.time es,Sa (G1.length+3),tp,loose 7,tc) _ _ ⟨by simp only;omega,by rw [<-l,Sj,htw];rfl,by simp only [Nk];omega,by simp only;omega,(by simp only [Nk,FB,Nat.reduceEqDiff]),f3,f8,u,m,rfl,fin⟩ (by simp only;omega)
   ·obtain rfl:i=S.length:=by omega
    rw [<-aj,Qt] at l
    have aa:kr.reverse=(NY S).1:=P3 Prod.fst l
    have ad:tr.reverse=(NY S).2:=P3 Prod.snd l
    have ko:=st.ko
    have to:=st.to
    have lk:kr.length=(NY S).1.length:=by rw [<-aa,List.length_reverse]
    have lt:tr.length=(NY S).2.length:=by rw [<-ad,List.length_reverse]
    rw [aa] at ko
    rw [ad] at to
    rw [lk] at f2
    rw [lt] at f3
    simp only [n56,r56,f2,f3,m,w,NW,q,SB,seval,NJ,NK,ND]
    refine hQ E kp kc tp tc (ko.le (by omega)) (to.le (by omega)) st.ne ⟨by have:=st.len;omega,fun j F _=>st.old j F⟩ (fun h=>st.kn (List.reverse_eq_nil_iff.1 (aa.trans h))) (fun h=>st.tn (List.reverse_eq_nil_iff.1 (ad.trans h)))
theorem Mq [OB] {mp:Bool} {lim c:Nat} {p:Option Addr} {S:List Ev} {H:NA} {Q:Value->NA->Prop} (hs:Sl H QE 6 p S) (hn:S.length<2 ^ 63) :
  NP Ef mp lim 55 [.slice p S.length c] H Q=Q (.bool (decide (QQ S))) H:=NP.eqF (by rw [Nsl hs hn];exact ⟨rfl,rfl⟩)
theorem Order_ok [OB] (a:∀as H,OA.eff 36 as H=none) {lim c:Nat} {p:Option Addr} {S:List Ev} {H:NA} {Q:Value->NA->Prop} (hs:Sl H QE 6 p S) (hS:QQ S) (hl:lim<=H.length)
  (d:∀G kp kc,Own H.length G encE 7 kp kc (NY S).1->Chg [] H G->((NY S).1=[]->kp=none)->Q (.tuple #[.slice kp (NY S).1.length kc,Vi 0]) (G++[])) :
  NP Ef false lim 36 [.slice p S.length c] H Q:=by
 refine Nq5 (by decide) a e36 rfl ?_
 rw [b36,c36]
 have hr:=fun (X:NA) (mp:Bool) (lim:Nat) (Q:Value->NA->Prop)=>Mq (mp:=mp) (lim:=lim) (Q:=Q) (c:=c) (hs.app X) (by have:=hS.1;omega)
 simp only [n36,hr,Ns hS,SB,seval,NF,NJ,QY,reduceCtorEq,NE]
 rw [Nc]
 refine Nq3 hs hS hl fun G kp kc tp tc h1 h2 e b h5 f=>?_
 simp only [n36,r36,SB,seval,NJ,ND]
 exact d G kp kc h1 b h5
theorem Order_no [OB] (a:∀as H,OA.eff 36 as H=none) {lim c:Nat} {p:Option Addr} {S:List Ev} {H:NA} {Q:Value->NA->Prop} (hs:Sl H QE 6 p S) (hn:S.length<2 ^ 63) (hS:¬QQ S) :
  NP Ef false lim 36 [.slice p S.length c] H Q=Q (.tuple #[Vz,Vi 2]) H:=by
 refine NP.eq ?_
 refine Nq5 (by decide) a e36 rfl ?_
 rw [b36,c36]
 have hr:=fun (X:NA) (mp:Bool) (lim:Nat) (Q:Value->NA->Prop)=>Mq (mp:=mp) (lim:=lim) (Q:=Q) (c:=c) (hs.app X) hn
 simp only [n36,r36,hr,Oa hS,SB,seval,NF,NJ,QY,reduceCtorEq,NE,ND]
 exact Nc H
theorem Doubled_ok [OB] (a:∀as H,OA.eff 27 as H=none) {lim c:Nat} {p:Option Addr} {S:List Ev} {H:NA} {Q:Value->NA->Prop} (hs:Sl H QE 6 p S) (hS:QQ S) (hl:lim<=H.length)
  (e:∀G tp tc,Own H.length G encE 7 tp tc (NY S).2->Chg [] H G->((NY S).2=[]->tp=none)->Q (.tuple #[.slice tp (NY S).2.length tc,Vi 0]) (G++[])) :
  NP Ef false lim 27 [.slice p S.length c] H Q:=by
 refine Nq5 (by decide) a e27 rfl ?_
 rw [b27,c27]
 have hr:=fun (X:NA) (mp:Bool) (lim:Nat) (Q:Value->NA->Prop)=>Mq (mp:=mp) (lim:=lim) (Q:=Q) (c:=c) (hs.app X) (by have:=hS.1;omega)
 simp only [n27,hr,Ns hS,SB,seval,NF,NJ,QY,reduceCtorEq,NE]
 rw [Nc]
 refine Nq3 hs hS hl fun G kp kc tp tc h1 h2 f b h5 d=>?_
 simp only [n27,r27,SB,seval,NJ,ND]
 exact e G tp tc h2 b d
theorem Doubled_no [OB] (a:∀as H,OA.eff 27 as H=none) {lim c:Nat} {p:Option Addr} {S:List Ev} {H:NA} {Q:Value->NA->Prop} (hs:Sl H QE 6 p S) (hn:S.length<2 ^ 63) (hS:¬QQ S) :
  NP Ef false lim 27 [.slice p S.length c] H Q=Q (.tuple #[Vz,Vi 2]) H:=by
 refine NP.eq ?_
 refine Nq5 (by decide) a e27 rfl ?_
 rw [b27,c27]
 have hr:=fun (X:NA) (mp:Bool) (lim:Nat) (Q:Value->NA->Prop)=>Mq (mp:=mp) (lim:=lim) (Q:=Q) (c:=c) (hs.app X) hn
 simp only [n27,r27,hr,Oa hS,SB,seval,NF,NJ,QY,reduceCtorEq,NE,ND]
 exact Nc H
end Go.Proofs.YtkppjkkkdpcgiaaGreat.Fn


namespace Go.Proofs.YtkppjkkkdpcgiaaGreat.Fn
open Go.AM Go.AM.Sym Go.Net Go.Scan
def V6 (a:An):List Value:=[.int .u8 a.kind,Vi a.ev,Vi a.other,Vi a.place,Vi a.mins]
theorem SG (a:An):(V6 a).length=5:=id rfl
def MS (b:Bool):List Value:=[.bool b]
theorem YU (b:Bool):(MS b).length=1:=id rfl
theorem Nz6 {x:Stp}:(enc3 x)[0]? = some (Vi x.1):=id rfl
theorem Npy {x:Stp}:(enc3 x)[1]? = some (Vi x.2.1):=id rfl
theorem N58 {x:Stp}:(enc3 x)[2]? = some (Vi x.2.2):=id rfl
def UV (pe:Option Addr) (n ce:Nat) (q:Option Addr) (nk cq:Nat) (r:Option Addr) (ns cr:Nat) (c:Int) (pl:Option Addr) (nl cl:Nat):List Value:=[.slice pe n ce,.slice q nk cq,.slice r ns cr,Vi c,.slice pl nl cl]
section
variable {pe q r pl:Option Addr} {n ce nk cq ns cr nl cl:Nat} {c:Int}
theorem Uo:(UV pe n ce q nk cq r ns cr c pl nl cl).length=5:=id rfl
theorem TN:(UV pe n ce q nk cq r ns cr c pl nl cl)[0]? = some (.slice pe n ce):=id rfl
theorem Yd:(UV pe n ce q nk cq r ns cr c pl nl cl)[1]? = some (.slice q nk cq):=id rfl
theorem Nh5:(UV pe n ce q nk cq r ns cr c pl nl cl)[2]? = some (.slice r ns cr):=id rfl
theorem Nn3:(UV pe n ce q nk cq r ns cr c pl nl cl)[3]? = some (Vi c):=id rfl
theorem Nn2:(UV pe n ce q nk cq r ns cr c pl nl cl)[4]? = some (.slice pl nl cl):=id rfl
end
theorem N48 (n:Nat):(List.range (n*1)).map (fun j=>[Value.bool false].getD (j % 1) undef)=(List.replicate n false).flatMap MS:=by
 have h1:∀j,[Value.bool false].getD (j % 1) undef=Value.bool false:=fun j=>by rw [Nat.mod_one];rfl
 simp only [h1]
 rw [List.map_const',Ps,Pc]
 induction n with
 | zero=>rfl
 | succ n ih=>
   rw [Pk,Pk,Om,<-ih]
   rfl
def Yr (n:Nat) (ks:List Int) (i:Nat):List Bool:=(ks.take i).foldl (fun l k=>l.set k.toNat true) (List.replicate n false)
def toI (n:Nat) (ss:List Stp) (i:Nat):List Stp:=(ss.take i).foldl (fun l s=>l.set s.2.1.toNat s) (List.replicate n (0,0,0))
theorem Na6 {n:Nat} {ks:List Int} {i:Nat}:(Yr n ks i).length=n:=by unfold Yr;rw [Na7,O7]
theorem Nhx {n:Nat} {ks:List Stp} {i:Nat}:(toI n ks i).length=n:=by unfold toI;rw [Nhy,O7]
theorem Nt6 {n:Nat} {ks:List Int}:Yr n ks ks.length=Vn n ks:=by unfold Yr Vn;rw [Ol]
theorem N1w {n:Nat} {ks:List Stp}:toI n ks ks.length=toN n ks:=by unfold toI toN;rw [Ol]
theorem Npd {n:Nat} {ks:List Int} {i:Nat} (h:i<ks.length):Yr n ks (i+1)=(Yr n ks i).set (gt ks i).toNat true:=by
 unfold Yr
 rw [Oe h,List.foldl_append,PU h];rfl
theorem Nwl {n:Nat} {ks:List Stp} {i:Nat} (h:i<ks.length):toI n ks (i+1)=(toI n ks i).set (gt ks i).2.1.toNat (gt ks i):=by
 unfold toI
 rw [Oe h,List.foldl_append,PU h];rfl
theorem Nno [OB] {lim n ce cq cr nl cl:Nat} {pe q r pl:Option Addr} {ks:List Int} {ss:List Stp} {c:Int} {H:NA} {Q:Value->NA->Prop} (T:Sl H encI 1 q ks) (hr:Sl H enc3 3 r ss) (hn:n<2 ^ 30) (S:ks.length<2 ^ 40) (U:ss.length<2 ^ 40) (hl:lim<=H.length)
  (hk:∀k∈ks,0<=k/\k<n) (hs:∀s∈ss,Uz n s)
  (R:∀G A B,Chg [] H G->H.length<=A->H.length<=B->NC G A=Vc ((Vn n ks).flatMap MS)->NC G B=Vc ((toN n ss).flatMap enc3)->Q (.tuple #[.slice (Sa A) n n,.slice (Sa B) n n]) G) :
  NP E false lim 74 [.agg (UV pe n ce q ks.length cq r ss.length cr c pl nl cl).toArray] H Q:=by
 refine Rm (by decide) e74 rfl ?_
 rw [b74,c74]
 have Z:=N48 n
 have z3:=Nv3 n
 have N:=N3 (show 0<=(n:Int)/\(n:Int)*1<=35184372088832/\(n:Int)<4611686018427387904 by omega)
 have O:=N3 (show 0<=(n:Int)/\(n:Int)*24<=35184372088832/\(n:Int)<4611686018427387904 by omega)
 simp only [n74,TN,Yd,N,O,Z,z3,SB,seval,NJ,NE,place,NB]
 refine NZ (fun i=>ks.length-i) (fun i fr G=>i<=ks.length/\fr 1=Vp H.length/\fr 4=.slice (Sa (H.length+1)) n n/\fr 5=.slice (Sa (H.length+2)) n n/\fr 20=.slice q ks.length cq/\fr 21=Vi ks.length/\fr 22=Vi i/\
   Chg [] H G/\NC G H.length=Vc (UV pe n ce q ks.length cq r ss.length cr c pl nl cl)/\NC G (H.length+1)=Vc ((Yr n ks i).flatMap MS)/\NC G (H.length+2)=Vc ((toI n ss 0).flatMap enc3)) 0
  ⟨Nv _,rfl,rfl,rfl,rfl,rfl,by rfl,Chg.refl.app,by rw [NQ];rfl,by rw [NR];rfl,by rw [NR];rfl⟩ ?_
 intro i fr G ⟨hi,z,w,y,C,o,D,hC,M,hA,hB⟩ L
 rw [OD N4m.eq_1]
 refine NL ?_
 have J:=hC.len
 by_cases b:i<ks.length
 ·have K:=hC.sl T (fun a _ _ h=>(by cases h))
  obtain ⟨m,hm⟩:∃m:Nat,gt ks i=m:=⟨(gt ks i).toNat,by have:=hk _ (QJ b);omega⟩
  have e:m<n:=by have:=hk _ (QJ b);omega
  have f:=Nix K b
  rw [hm] at f
  have d:=fun c (k:IntKind) (H1:NA)=>K.idx (c:=c) (k:=k) (H1:=H1) b
  have v:IntKind.i64.wrap ((i:Int)+1)=((i+1:Nat):Int):=OV (by omega)
  have V:Sl G MS 1 (Sa (H.length+1)) (Yr n ks i):=Sl.row YU hA
  have j:=fun c (k:IntKind) (H1:NA)=>V.idx (c:=c) (k:=k) (H1:=H1) (i:=m) (by rw [Na6];exact e)
  rw [Na6] at j
  obtain ⟨G2,e2,h2,g⟩:=WK (lim:=lim) (p:=Sa (H.length+1)) YU rfl hA (by omega) (i:=m) (by rw [Na6];exact e) true
  simp only [MS] at e2
  have u:(Yr n ks i).set m true=Yr n ks (i+1):=by rw [Npd b,hm];rfl
  rw [u] at h2
  simp only [n74,w,C,o,D,NW,b,d,f,j,e2,v,SB,seval,NJ,NK,NB]
  exact L (i+1) _ _ ⟨by omega,z,w,y,C,o,rfl,(hC.mut g (.inr (by omega))).app,by rw [NI (by rw [g.len];exact NG M)];exact g.cells M (by omega),by rw [NI (NG h2)];exact h2,by rw [NI (by rw [g.len];exact NG hB)];exact g.cells hB (by omega)⟩ (by omega)
 obtain rfl:i=ks.length:=by omega
 rw [Nt6] at hA
 have Y:=fun X=>(OM.refl.app (X:=X)).cells M
 simp only [n74,z,o,D,NW,b,Y,Nh5,SB,seval,NJ,NK]
 refine NZ (fun i=>ss.length-i) (fun i fr G=>i<=ss.length/\fr 1=Vp H.length/\fr 4=.slice (Sa (H.length+1)) n n/\fr 5=.slice (Sa (H.length+2)) n n/\fr 32=.slice r ss.length cr/\fr 33=Vi ss.length/\fr 34=Vi i/\
   Chg [] H G/\NC G (H.length+1)=Vc ((Vn n ks).flatMap MS)/\NC G (H.length+2)=Vc ((toI n ss i).flatMap enc3)) 0
  ⟨Nv _,z,w,y,rfl,rfl,by rfl,hC.app,(OM.refl.app).cells hA,(OM.refl.app).cells hB⟩ ?_
 intro i fr G ⟨hi,z,w,y,F,t,I,hC,hA,hB⟩ L
 rw [OD N4n.eq_1]
 refine NL ?_
 have J:=hC.len
 by_cases b:i<ss.length
 ·have K:=hC.sl hr (fun a _ _ h=>(by cases h))
  have P:=hs _ (QJ b)
  unfold Uz at P
  obtain ⟨m,hm⟩:∃m:Nat,(gt ss i).2.1=m:=⟨(gt ss i).2.1.toNat,by omega⟩
  have e:m<n:=by omega
  have f:=fun X=>(K.app X).loadCells PD b
  have d:=fun c (k:IntKind) (H1:NA)=>K.idx (c:=c) (k:=k) (H1:=H1) b
  have v:IntKind.i64.wrap ((i:Int)+1)=((i+1:Nat):Int):=OV (by omega)
  have W:Sl G enc3 3 (Sa (H.length+2)) (toI n ss i):=Sl.row PD hB
  have l:=fun c (k:IntKind) (H1:NA)=>W.idx (c:=c) (k:=k) (H1:=H1) (i:=m) (by rw [Nhx];exact e)
  rw [Nhx] at l
  obtain ⟨G2,e2,h2,g⟩:=WK (lim:=lim) (p:=Sa (H.length+2)) PD rfl hB (by omega) (i:=m) (by rw [Nhx];exact e) (gt ss i)
  have u:(toI n ss i).set m (gt ss i)=toI n ss (i+1):=by rw [Nwl b,hm];rfl
  rw [u] at h2
  have e1:=Npy (x:=gt ss i)
  rw [hm] at e1
  simp only [n74,y,F,t,I,NW,b,d,f,l,e1,e2,v,PD,NM,NH,show lim<=G.length by omega,SB,seval,NJ,NK,place,NB]
  exact L (i+1) _ _ ⟨by omega,z,w,y,F,t,rfl,(hC.mut g (.inr (by omega))).app,by rw [NI (by rw [g.len];exact NG hA)];exact g.cells hA (by omega),by rw [NI (NG h2)];exact h2⟩ (by omega)
 obtain rfl:i=ss.length:=by omega
 rw [N1w] at hB
 simp only [n74,r74,w,y,t,I,NW,b,SB,seval,NJ,NK,ND]
 exact R _ _ _ hC.app (by omega) (by omega) ((OM.refl.app).cells hA) ((OM.refl.app).cells hB)
end Go.Proofs.YtkppjkkkdpcgiaaGreat.Fn


