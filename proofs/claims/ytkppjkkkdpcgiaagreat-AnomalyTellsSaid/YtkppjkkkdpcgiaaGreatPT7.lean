/-
  Joined texts, 7 of 11. A part of the claim that the last text states.
-/
import Derived.Test.YtkppjkkkdpcgiaaGreatPT6
set_option linter.unusedVariables false
set_option linter.unusedSimpArgs false
set_option linter.defProp false
set_option linter.unusedSectionVars false
set_option maxRecDepth 100000
set_option maxHeartbeats 4000000
namespace Go.Proofs.YtkppjkkkdpcgiaaGreat.Fn
open Go.AM Go.AM.Sym Go.Net Go.Scan
variable {R M n j cp cl ce:Nat} {Q:Value->NA->Prop} {H:NA} {pp pl pe:Option Addr} {L:List Leg} {es:List Ev} {c:Int} {T:List Wo} {l P:List Int}
def Bnd (n j:Nat) (x:Wo):Prop:=0<=x.1/\x.1<=110*((n:Int)-1-j)/\0<=x.2.1/\x.2.1<=(n:Int)-j/\-1<=x.2.2/\x.2.2<n
theorem Nuv {x y:Wo} (a:Bnd n j x) (b:Bnd n j y):Bnd n j (Us x y):=by
 unfold Us;split
 ·exact a
 ·exact b
theorem Nbg {P:List Int} {L:List Leg} {es:List Ev} {T:List Wo} {i:Nat} (c:∀j,j<es.length->Bnd es.length j (gt T j)) (hi:i<es.length):∀m,m<=es.length-1-i->Bnd es.length i (QS P L es T i m)
 | 0,_=>by
   unfold QS Bnd;refine ⟨?_, ?_, ?_, ?_, ?_, ?_⟩<;>simp only<;>omega
 | m+1,hm=>by
   rw [QS];refine Nuv (Nbg c hi m (by omega)) ?_;have h1:=c (es.length-1-m) (by omega);have h2:=Uc (P:=P) (L:=L) (a:=gt es i) (b:=gt es (es.length-1-m));unfold XG Bnd at *;refine ⟨?_, ?_, ?_, ?_, ?_, ?_⟩<;>simp only<;>omega
theorem Nby {α:Type} [Inhabited α] {l:List α} {i:Nat} {x:α} (hi:i<l.length):gt (l.set i x) j=if i=j then x else gt l j:=by
 unfold gt;rw [Nb,Ob,Nb];split
 ·simp []
 ·rfl
theorem Vh {P:List Int} {L:List Leg} {es:List Ev}:∀k,k<=es.length->∀j,j<es.length->Bnd es.length j (gt (OJ P L es k) j)
 | 0,_,j,hj=>by
   rw [OJ,OQ (by simpa using hj),List.getElem_replicate];unfold Bnd;refine ⟨?_, ?_, ?_, ?_, ?_, ?_⟩<;>simp only<;>omega
 | k+1,hk,j,hj=>by
   rw [OJ,Nby (by rw [Tk];omega)];split
   ·rename_i e;subst e;exact Nbg (Vh k (by omega)) hj k (by omega)
   ·exact Vh k (by omega) j hj
theorem Nw0 (hn:n<=40) (b:T.length=n) (h:∀j,j<n->Bnd n j (gt T j)):N4e T:=fun j=>by
 by_cases a:j<n
 ·have:=h j a;unfold Bnd at this;omega
 ·have e:gt T j=(0,0,0):=by unfold gt;rw [Nb,N0 (by omega)];rfl
  rw [e];refine ⟨?_, ?_, ?_, ?_⟩<;>simp only<;>omega
def Xh (n j:Nat) (x:Wo):Prop:=x.2.2=-1\/((j:Int)<x.2.2/\x.2.2<n)
theorem Neh {P:List Int} {L:List Leg} {es:List Ev} {T:List Wo} {i:Nat}:∀m,m<=es.length-1-i->Xh es.length i (QS P L es T i m)
 | 0,_=>.inl rfl
 | m+1,hm=>by
   rw [QS,Us];split
   ·exact Neh m (by omega)
   ·refine .inr ⟨?_, ?_⟩<;>simp only [XG]<;>omega
theorem TM {P:List Int} {L:List Leg} {es:List Ev}:∀k,k<=es.length->∀j,es.length-k<=j->j<es.length->Xh es.length j (gt (OJ P L es k) j)
 | 0,_,j,h1,h2=>by omega
 | k+1,hk,j,h1,hj=>by
   rw [OJ,Nby (by rw [Tk];omega)];split
   ·rename_i e;subst e;exact Neh k (by omega)
   ·exact TM k (by omega) j (by omega) hj
def XN (T:List Wo) (i:Nat):Wo:=(30*(i:Int)+(gt T i).1,(gt T i).2.1,(i:Int))
def Sv (n:Nat) (T:List Wo):Nat->Wo
 | 0=>(0,0,-1)
 | m+1=>if (Sv n T m).2.2<0 then XN T (n-1-m) else Us (Sv n T m) (XN T (n-1-m))
def PP (T:List Wo):Nat->Int->List Int
 | 0,_=>[]
 | f+1,x=>if x<0 then [] else x::PP T f (gt T x.toNat).2.2
def PU (P:List Int) (L:List Leg) (es:List Ev):List Int:=PP (OJ P L es es.length) es.length (Sv es.length (OJ P L es es.length) es.length).2.2
theorem Xo {n:Nat} {T:List Wo}:∀m,m<=n->(Sv n T m).2.2<n/\-1<=(Sv n T m).2.2
 | 0,_=>⟨by show (-1:Int)<n;omega,Ow _⟩
 | m+1,hm=>by
   have h1:(XN T (n-1-m)).2.2<n/\-1<=(XN T (n-1-m)).2.2:=by
    unfold XN;constructor<;>simp only<;>omega
   have h2:=Xo (n:=n) (T:=T) m (by omega);rw [Sv];unfold Us;split
   ·exact h1
   ·split
    ·exact h2
    ·exact h1
theorem Nf2 {n:Nat} {T:List Wo} (a:∀j,j<n->Xh n j (gt T j)):∀(f:Nat) (x:Int),x<n->∀k∈PP T f x,0<=k/\k<n
 | 0,_,_,k,hk=>by cases hk
 | f+1,x,hx,k,hk=>by
   rw [PP] at hk;split at hk
   ·cases hk
   ·rename_i b;rcases Ns.1 hk with rfl | hk
    ·exact ⟨by omega,hx⟩
    ·refine Nf2 a f _ ?_ k hk;rcases a x.toNat (by omega) with e | e
     ·rw [e];omega
     ·exact e.2
theorem WB {T:List Wo}:∀(f:Nat) (x:Int),(PP T f x).length<=f
 | 0,_=>Nf _
 | f+1,x=>by
   rw [PP];split
   ·exact Np _
   ·rw [Nm];have:=WB (T:=T) f (gt T x.toNat).2.2;omega
theorem Ni0:∀k∈PU P L es,0<=k/\k<es.length:=
 Nf2 (fun j a=>TM _ (Nf _) j (by omega) a) _ _ (Xo _ (Nf _)).1
theorem Nxw (n:Nat):(List.range (n*3)).map (fun j=>[Value.int .i64 0,Value.int .i64 0,Value.int .i64 0].getD (j % 3) undef)=(List.replicate n ((0,0,0):Wo)).flatMap enc3:=by
 have h1:∀j,[Value.int .i64 0,Value.int .i64 0,Value.int .i64 0].getD (j % 3) undef=Value.int .i64 0:=fun j=>by
  have:j % 3=0\/j % 3=1\/j % 3=2:=by omega
  rcases this with e | e | e<;>rw [e]<;>rfl
 simp only [h1];rw [List.map_const',Pe]
 induction n with
 | zero=>rfl
 | succ n ih=>
   rw [Po,Ol,<-ih,Pw];rfl
theorem tsl (h:T.length=n) (p:Option Addr) (c:Nat):Value.slice p n c=Value.slice p T.length c:=by rw [h]
theorem N9j [OA] {lim B BT:Nat} {S:List Nat} {ct:Nat} {G:NA} {fr:Nat->Value} {K:List AItem} {Z:Value->NA->Prop} (r:lim<=B) (aa:n<=40) (hT:T.length=n) (U:∀j,j<n->Bnd n j (gt T j))
  (hP:PI lim R M S G pp pl cp cl P L) (hS:B∈S) (W:BT≠B) (N:NE G BT=Vc (T.flatMap enc3)) (hB:NE G B=Vc (enc3 (Sv n T 0)))
  (f1:fr 1=.slice pe n ce) (f5:fr 5=.slice (Sa BT) T.length ct) (f6:fr 6=.func (.func 108) #[] #[]) (f12:fr 12=Vp B) (f13:fr 13=Vi ((n:Int)-1))
  (hR:∀fr' G',Chg [B] G G'->PI lim R M S G' pp pl cp cl P L->NE G' B=Vc (enc3 (Sv n T n))->(∀j,j<=12->fr' j=fr j)->PT E a72 lim K fr' G' Z) :
  PT E a72 lim (.code (.loop N0u)::.inBlock 4::K) fr G Z:=by
 refine NP (fun m=>n-m) (fun m fr' G'=>m<=n/\Chg [B] G G'/\PI lim R M S G' pp pl cp cl P L/\NE G' B=Vc (enc3 (Sv n T m))/\(∀j,j<=12->fr' j=fr j)/\fr' 13=Vi ((n:Int)-1-m)) 0
  ⟨Np _,Chg.refl,hP,hB,fun j _=>rfl,by rw [f13];simp⟩ ?_
 intro m fr' G' ⟨hm,w,p,l,o,g⟩ hN;rw [NU N0u.eq_1];have J:=(o 5 (by decide)).trans f5;have g6:=(o 6 (by decide)).trans f6;have s:=(o 12 (by decide)).trans f12;refine NJ ?_;by_cases ab:m<n
 case neg=>
  obtain rfl:m=n:=by omega
  have I:(m:Int)-1-(m:Int)=-1:=by omega
  rw [I] at g;simp only [n72,g,SB,seval,NL,NH];exact hR _ _ w.app (p.app _) ((OD.refl.app).cells l) fun j u=>by
   rw [<-o j u];simp only [upd]
   repeat rw [Ng (by omega)]
 generalize hi:n-1-m=i;have I:(n:Int)-1-(m:Int)=(i:Int):=by omega
 rw [I] at g;have V:i<n:=by omega
 have t:i<T.length:=by omega
 have v:Sl G' enc3 3 (Sa BT) T:=Sl.row (ro:=false) OU (w.cells N (by simp;exact W));have C:=fun X=>(v.app X).loadCell OU t (j:=0) (by decide)
 have D:=fun X=>(v.app X).loadCell OU t (j:=1) (by decide)
 simp only [enc3,Oq,Q1] at C D;have xj:=fun c (k:IntKind) (H1:NA)=>v.idx (c:=c) (k:=k) (H1:=H1) t
 have z:=U i V;unfold Bnd at z;have w1:IntKind.i64.wrap (30*(i:Int))=30*(i:Int):=NR (by omega) (by omega);have w2:IntKind.i64.wrap (30*(i:Int)+(gt T i).1)=30*(i:Int)+(gt T i).1:=NR (by omega) (by omega);have Y:IntKind.i64.wrap ((i:Int)-1)=(n:Int)-1-((m+1:Nat):Int):=by rw [NR (by omega) (by omega)];omega
 have i0:=Nh (show (0:Int)<=(i:Int) by omega);have e:lim<=G'.length:=by have:=w.len;have:=NM hB;omega
 have O:=NM l;have q:Sv n T (m+1)=if (Sv n T m).2.2<0 then XN T i else Us (Sv n T m) (XN T i):=by rw [Sv,hi]
 generalize hx:Sv n T m=x at q;rw [hx] at l;have A:=l;simp only [enc3] at A;have H:=zc A;have b:∀(X:NA) (mp:Bool) (lim:Nat) (Q:Value->NA->Prop),NQ E mp lim 108 [.agg #[Vi x.1,Vi x.2.1,Vi x.2.2],.agg #[Vi (30*(i:Int)+(gt T i).1),Vi (gt T i).2.1,Vi i]] X Q=Q (.bool (Y8 x (XN T i))) X:=fun X mp lim Q=>Ns7 (x:=x) (y:=XN T i)
 obtain ⟨G3,e3,h3,F⟩:=OO O (Vc [Vi (30*(i:Int)+(gt T i).1),Vi (gt T i).2.1,Vi i]);have a:∀(f:Nat->Value),(∀j,j<=12->f j=fr' j)->∀j,j<=12->f j=fr j:=fun f h j u=>(h j u).trans (o j u)
 by_cases d:x.2.2<0
 ·rw [Nl d] at q;simp only [n72,J,s,g,C,D,xj,w1,w2,Y,i0,e,H,Nh d,r,e3,SB,seval,NL,NH,place,NB];exact hN (m+1) _ _ ⟨by omega,(w.mut F (.inl (by simp))).app,(p.chg (Chg.refl.mut F (.inl hS))).app _,by rw [q];exact (OD.refl.app).cells h3,a _ (fun j u=>by
   simp only [upd]
   repeat rw [Ng (by omega)]),by rfl⟩ (by omega)
 rw [Ng d] at q;cases z:Y8 x (XN T i) with
 | true=>
   rw [z] at b;rw [Us,Nl z] at q;simp only [n72,J,g6,s,g,C,D,xj,w1,w2,Y,i0,e,H,Nc d,b,SB,seval,NF,NL,NH,RN,place,NB];exact hN (m+1) _ _ ⟨by omega,w.app,p.app _,by rw [q];exact (OD.refl.app).cells l,a _ (fun j u=>by
    simp only [upd]
    repeat rw [Ng (by omega)]),by rfl⟩ (by omega)
 | false=>
   rw [z] at b;rw [Us,Ng (by rw [z];decide)] at q;simp only [n72,J,g6,s,g,C,D,xj,w1,w2,Y,i0,e,H,Nc d,r,b,e3,SB,seval,NF,NL,NH,RN,place,NB];exact hN (m+1) _ _ ⟨by omega,(w.mut F (.inl (by simp))).app,(p.chg (Chg.refl.mut F (.inl hS))).app _,by rw [q];exact (OD.refl.app).cells h3,a _ (fun j u=>by
    simp only [upd]
    repeat rw [Ng (by omega)]),by rfl⟩ (by omega)
theorem N69 [OA] {lim:Nat} (h:PI lim R M [] H pp pl cp cl P L) (ae:lim<=H.length)
  (hs:Sl H encE 7 pe es) (O:es.length<=40) (ht:∀i,i<es.length->0<=(gt es i).time/\(gt es i).time<=NV)
  (hQ:∀G q cq,Chg [M] H G->PI lim R M [] G pp pl cp cl P L->Own H.length G encI 1 q cq (PU P L es)->Q (.slice q (PU P L es).length cq) G) :
  NQ E false lim 72 [Vp R,.slice pe es.length ce] H Q:=by
 refine QN (by decide) rfl rfl ?_;rw [b72,c72];have w1:IntKind.i64.wrap ((es.length:Int)-1)=(es.length:Int)-1:=NR (by omega) (by omega);have z3:=Nxw es.length;have a3:=h.alive;have au:=Nh (show 0<=(es.length:Int)/\(es.length:Int)*24<=2 ^ 45/\(es.length:Int)<2 ^ 62 by omega);simp only [n72,w1,au,z3,SB,Nat.reduceLT,NL,Nat.reduceEqDiff,NH,NG,place,Nat.reduceAdd];refine NP (fun k=>es.length-k) (fun k fr G=>k<=es.length/\fr 0=Vp R/\fr 1=.slice pe es.length ce/\fr 5=.slice (Sa H.length) es.length es.length/\fr 6=.func (.func 108) #[] #[]/\fr 7=Vi ((es.length:Int)-1-k)/\Chg [M] H G/\PI lim R M [H.length] G pp pl cp cl P L/\NE G H.length=Vc ((OJ P L es k).flatMap enc3)) 0
  ⟨Np _,rfl,rfl,rfl,rfl,by rw [show ((es.length:Int)-1-((0:Nat):Int))=(es.length:Int)-1 by omega];rfl,Chg.refl.app,h.grow _ (Nf _) (by simp),by rw [NN];rfl⟩ ?_
 ·intro k fr G ⟨hk,g0,Z,C,g6,Y,J,w,F⟩ hN;rw [NU N8b.eq_1];refine NJ ?_;by_cases a5:k<es.length
  case neg=>
   obtain rfl:k=es.length:=by omega
   have e7:(es.length:Int)-1-(es.length:Int)=-1:=by omega
   rw [e7] at Y;have d:lim<=G.length:=by have:=J.len;omega
   simp only [n72,Z,Y,w1,d,SB,seval,NL,NH,place,NB];have o:=Tk (P:=P) (L:=L) (es:=es) es.length;have am:=Vh (P:=P) (L:=L) (es:=es) es.length (Nf _);have ak:=NM F;rw [tsl o] at C;refine N9j (B:=G.length) (BT:=H.length) (n:=es.length) (T:=OJ P L es es.length) (R:=R) (M:=M) (S:=[G.length,H.length]) (P:=P) (L:=L) (pp:=pp) (pl:=pl) (cp:=cp) (cl:=cl) (pe:=pe) (ce:=ce) (ct:=es.length) d O o (fun j D=>am j D) (w.grow _ (Nf _) (by simp)) (by simp) (by omega) ((OD.refl.app).cells F) (by rw [NN];rfl) Z C g6 rfl rfl fun fr' G1 u z y t=>?_
   have q5:fr' 5=.slice (Sa H.length) (OJ P L es es.length).length es.length:=(t 5 (by decide)).trans C;have az:fr' 12=Vp G.length:=(t 12 (by decide)).trans rfl;have V:=u.len;simp at V;have I:=u.cells ((OD.refl.app).cells F) (by simp;omega);simp only [enc3] at y;have XB:=zc y;have ay:=Xo (n:=es.length) (T:=OJ P L es es.length) es.length (Nf _);have aj:Chg [M] H G1:=(J.app (X:=[Vc [Vi 0,Vi 0,Vi (-1)]])).trans' u fun j D an=>by simp at D;omega
   refine NJ ?_;simp only [n72,az,XB,SB,seval,NL];refine NP (fun s:Nat×Int×List Int×Option Addr×Nat=>s.1) (fun s fr G=>fr 5=.slice (Sa H.length) (OJ P L es es.length).length es.length/\fr 16=Vi s.2.1/\fr 15=.slice s.2.2.2.1 s.2.2.1.length s.2.2.2.2/\Chg [M] H G/\PI lim R M (YT s.2.2.2.1++[H.length]) G pp pl cp cl P L/\NE G H.length=Vc ((OJ P L es es.length).flatMap enc3)/\Own (H.length+1) G encI 1 s.2.2.2.1 s.2.2.2.2 s.2.2.1/\
     s.2.2.1++PP (OJ P L es es.length) s.1 s.2.1=PU P L es/\s.2.1<es.length/\(s.2.1<0\/(es.length:Int)-s.2.1<=s.1)/\s.2.2.1.length+s.1=es.length) (es.length,(Sv es.length (OJ P L es es.length) es.length).2.2,[],none,0)
    ⟨q5,rfl,by rfl,aj.app,(z.sub (fun q v=>by simp [YT] at v;simp [v])).app _,(OD.refl.app).cells I,.nil,rfl,ay.1,by simp only;omega,by simp⟩ ?_
   rintro ⟨f,x,l,pw,cw⟩ fr G ⟨C,N,K,J,w,F,hO,A,hx,hf,ar⟩ hN;simp only at C N K w hO A hx hf ar;rw [NU N8c.eq_1];refine NJ ?_;by_cases W:0<=x
   case neg=>
    have e:PP (OJ P L es es.length) f x=[]:=by
     cases f with
     | zero=>rfl
     | succ f=>rw [PP,Nl (by omega)]
    rw [e,Na] at A;subst A;simp only [n72,N,K,Nc W,SB,seval,NL,NH,NC];exact hQ _ _ _ J.app ((w.sub (fun q v=>by cases v)).app _) ((hO.le (by omega)).app _)
   obtain ⟨j,rfl⟩:=Int.eq_ofNat_of_zero_le W;obtain ⟨f,rfl⟩:∃g,f=g+1:=⟨f-1,by omega⟩
   rw [PP,Ng (by omega),N1] at A;have ab:j<(OJ P L es es.length).length:=by omega
   have av:=TM (P:=P) (L:=L) (es:=es) es.length (Nf _) j (by omega) (by omega);have a0:=NM F;obtain ⟨G4,e4,O4,C4,ad⟩:=Own.moreF hO (lim':=lim) (bytes:=8) (by omega) OT (by decide) [(j:Int)] (by simp) (by simp;unfold OX;omega) (by simp;omega) [Vc [Vi j]] (x:=.slice (Sa G.length) 1 1) (str:=false)
    (SH (m:=[(j:Int)]) (Sl.row (ro:=false) OT (by rw [NN];rfl))) rfl
   have ag:∀j,j∈YT pw->H.length+1<=j/\j<G.length:=fun j D=>by
    cases hpe:pw with
    | none=>rw [hpe] at D;cases D
    | some a=>rw [hpe] at D;have:=hO.block hpe;simp [YT] at D;omega
   generalize aw:(G++[Vc [Vi j]]).length=r at e4 O4 ad;have ax:G.length<=r:=by rw [<-aw];simp
   generalize loose 1=c' at e4 O4;simp only [Nm,Nn,Nx] at e4;have aa:=C4.cells F fun hm=>by have:=ag _ hm;omega
   have ah:=Sl.row (R:=H.length) (ro:=false) OU aa;have l2:=fun X=>(ah.app X).loadCell OU ab (j:=2) (by decide)
   simp only [enc3,Oq,Q1] at l2;have xj:=fun c (k:IntKind) (H1:NA)=>ah.idx (c:=c) (k:=k) (H1:=H1) ab
   simp only [n72,C,N,K,e4,l2,xj,Nh W,SB,seval,NL,NH,place];have k1:=(w.growC (b:=r) (G':=G4) (C4.mono fun q _ v=>O9 _ v) ax ad).sub (S':=YT (Sa r)++[H.length]) fun q v=>by
    simp [YT] at v;rcases v with e | e
    ·simp [e]
    ·simp [e]
   have ai:(gt (OJ P L es es.length) j).2.2<es.length/\((gt (OJ P L es es.length) j).2.2<0\/(es.length:Int)-(gt (OJ P L es es.length) j).2.2<=(f:Int)):=by
    rcases av with e | e
    ·exact ⟨by omega,.inl (by omega)⟩
    ·exact ⟨e.2,.inr (by omega)⟩
   exact hN (f,(gt (OJ P L es es.length) j).2.2,l++[(j:Int)],Sa r,c') _ _ ⟨C,by rfl,by show _=Value.slice _ (l++[(j:Int)]).length _;rw [Nk];rfl,
    (J.trans' C4 fun q v a6=>by have:=ag q v;omega).app,k1.app _,(OD.refl.app).cells aa,(O4.le (by omega)).app _,by rw [No];exact A,ai.1,ai.2,by simp only [Nk,P0];omega⟩ (by show f<f+1;omega)
  generalize hi:es.length-1-k=i;have e7:(es.length:Int)-1-(k:Int)=(i:Int):=by omega
  rw [e7] at Y;have U:i<es.length:=by omega
  have w2:IntKind.i64.wrap ((es.length:Int)-1-i)=(es.length:Int)-1-i:=NR (by omega) (by omega);have w3:IntKind.i64.wrap (30*((es.length:Int)-1-i))=30*((es.length:Int)-1-i):=NR (by omega) (by omega);have w4:IntKind.i64.wrap ((i:Int)-1)=(es.length:Int)-1-((k+1:Nat):Int):=by rw [NR (by omega) (by omega)];omega
  have d:lim<=G.length:=by have:=J.len;omega
  have i0:=Nh (show (0:Int)<=(i:Int) by omega);have o:=Tk (P:=P) (L:=L) (es:=es) k;have ak:=NM F;simp only [n72,Z,Y,w1,w2,w3,d,i0,SB,seval,NL,NH,place,NB];rw [tsl o] at C;refine N10 (B8:=G.length) (BT:=H.length) (S:=[G.length,H.length]) (i:=i) (T:=OJ P L es k) (P:=P) (L:=L) (R:=R) (M:=M) (pp:=pp) (pl:=pl) (cp:=cp) (cl:=cl) (es:=es) (pe:=pe) (ce:=ce) (ct:=es.length) U d (by simp) (by simp) O ht o (Nw0 O o (Vh k (by omega)))
   (w.grow _ (Nf _) (by simp)) (((hs.sim (h.chgk J))).app _) ((OD.refl.app).cells F) (by rw [NN];rfl) g0 Z C g6 Y rfl rfl fun fr' G1 u z y t=>?_
  have q0:fr' 0=Vp R:=(t 0 (by decide)).trans g0;have q1:fr' 1=.slice pe es.length ce:=(t 1 (by decide)).trans Z;have q5:fr' 5=.slice (Sa H.length) (OJ P L es k).length es.length:=(t 5 (by decide)).trans C;have q6:fr' 6=.func (.func 108) #[] #[]:=(t 6 (by decide)).trans g6;have q7:fr' 7=Vi i:=(t 7 (by decide)).trans Y;have q8:fr' 8=Vp G.length:=(t 8 (by decide)).trans rfl;have aq:es.length-1-i=k:=by omega
  rw [aq] at y;have al:H.length∉[M,G.length]:=by simp;omega
  have I:=u.cells ((OD.refl.app).cells F) al;obtain ⟨G2,e2,h2,m2⟩:=SV (lim:=lim) (p:=Sa H.length) OU rfl I ae (i:=i) (by rw [o];exact U) (QS P L es (OJ P L es k) i k);have xT:=fun c (kk:IntKind) (H1:NA)=>(Sl.row (R:=H.length) (ro:=false) OU I).idx (c:=c) (k:=kk) (H1:=H1) (i:=i) (by rw [o];exact U)
  have XB:=zc y;have et:OJ P L es (k+1)=(OJ P L es k).set i (QS P L es (OJ P L es k) i k):=by rw [OJ,hi]
  refine NJ ?_;simp only [n72,q5,q7,q8,XB,OU,NK,e2,xT,w4,SB,seval,NL,NH,NB];have V:=u.len;simp at V;exact hN (k+1) _ _ ⟨by omega,q0,q1,(by simp only [q5,o,FB,Nat.reduceEqDiff]),q6,rfl,(((J.app (X:=[Vc (enc3 (QS P L es (OJ P L es k) i 0))])).trans' u fun j D an=>by simp at D;simp;omega).mut m2 (.inr (by omega))).app,((z.chg (Chg.refl.mut m2 (.inl (by simp)))).sub (fun q v=>by simp at v;simp [v])).app _,by rw [et];exact (OD.refl.app).cells h2⟩ (by omega)
theorem N7r [OA] {lim:Nat} (hn:NetIn H pp pl P L) (s:lim<=H.length)
  (hs:Sl H encE 7 pe es) (K:es.length<2 ^ 62)
  (p:∀G,YE P L es≠0->Chg [] H G->Q (.tuple #[.agg #[Vz,Vz,Vi 0],Vi (YE P L es)]) G)
  (y:∀G q cq r cr,YE P L es=0->Chg [] H G->U3 H.length G encI 1 q (PU P L es)->U3 H.length G enc3 3 r (QG P L es (PU P L es))->Q (.tuple #[.agg #[.slice q (PU P L es).length cq,.slice r (QG P L es (PU P L es)).length cr,Vi (Sr P L es (PU P L es))],Vi 0]) G) :
  NQ E false lim 37 [.agg (netV pp P.length cp pl L.length cl).toArray,.slice pe es.length ce] H Q:=by
 refine QN (by decide) rfl rfl ?_;rw [b37,c37];have c:=fun X (mp:Bool) (lim:Nat) (Q:Value->NA->Prop)=>N25 (mp:=mp) (lim:=lim) (cp:=cp) (cl:=cl) (ce:=ce) (Q:=Q) (hn.app X) (hs.app X) (by omega)
 by_cases g:YE P L es=0
 case neg=>
  simp only [n37,OG,NK,c,Nc g,s,SB,seval,NF,NL,NH,NG,place,NB,NC];exact p _ g Chg.refl.app
 obtain ⟨N,h,hev⟩:=Oaj g;have F:=fun i (hi:i<es.length)=>za (hev i hi).2.1 (hev i hi).2.2.1
 simp only [n37,OG,NK,c,Nh g,SB,seval,NF,NL,NH,NG,place,NB];refine Nj2 (lim:=lim) (hn.app _) (by simp;omega) fun G1 R M e J hM n=>?_
 have w:=e.len;simp at w J hM;have b:OD H G1:=(OD.refl.app).trans e;have r4:NE G1 (H.length+1)=Vc [Vz,Vz,Vi 0]:=e.cells (by rw [NY];rfl);refine NJ ?_;simp only [n37,SB,seval,NF,NL,NG];refine N69 (n.app _) (by simp;omega) ((b.sl hs).app _) h F fun G2 q cq d o m=>?_
 have x:=d.len;simp at x;have C:Chg [M] H G2:=((OD.chg (A:=[M]) b).trans d.pre)
 have a:=d.pre;refine NJ ?_;simp only [n37,SB,seval,NF];refine N5e (o.app _) (by simp;omega) (((b.sl hs).sim (n.chgk a)).app _) h F ((m.sl OT).app _) (by have:=WB (T:=OJ P L es es.length) es.length (Sv es.length (OJ P L es es.length) es.length).2.2;unfold PU;omega) (fun z=>by
  rcases m with ⟨_,_,k⟩ | ⟨R,k,_⟩
  ·exact k
  ·rw [z] at k;cases k) Ni0 fun U q' cq' r cr l D z hr=>?_
 have t:=l.cells ((OD.refl.app (X:=[])).cells (a.cells r4 (by simp;omega))) (by simp;omega);obtain ⟨V,e4,I,B⟩:=OO (NM t) (Vc [.slice q' (PU P L es).length cq',.slice r (QG P L es (PU P L es)).length cr,Vi (Sr P L es (PU P L es))]);have O:=zc t;have S:=zc I;have f:lim<=H.length+1:=by omega
 refine NJ ?_;simp only [n37,O,e4,S,f,SB,seval,NL,NB,NC];exact y _ q' cq' r cr g ((((OD.chg (A:=[]) b).trans' a fun j u v=>by simp at u;omega).trans' l.pre fun j u v=>by simp at u;omega).mut B (.inr (by omega))).app (((z.mut B (by simp;omega)).le (by simp;omega)).app _) (((hr.mut B (by simp;omega)).le (by simp;omega)).app _)
def Ml:List Int->List Int->Prop
 | [],_=>True
 | _::_,[]=>False
 | x::l,y::m=>x<y\/(x=y/\Ml l m)
theorem Ml.refl:∀l,Ml l l
 | []=>trivial
 | x::l=>.inr ⟨rfl,Ml.refl l⟩
theorem Ml.trans:∀{a b c:List Int},Ml a b->Ml b c->Ml a c
 | [],_,_,_,_=>trivial
 | x::a,[],c,h,_=>by cases h
 | x::a,y::b,[],_,h=>by cases h
 | x::a,y::b,z::c,h1,h2=>by
   rcases h1 with h1 | ⟨rfl,h1⟩
   ·rcases h2 with h2 | ⟨rfl,h2⟩
    ·exact .inl (by omega)
    ·exact .inl h1
   ·rcases h2 with h2 | ⟨rfl,h2⟩
    ·exact .inl h2
    ·exact .inr ⟨rfl,h1.trans h2⟩
def BE (c k:Int) (l:List Int) (c' k':Int) (a:List Int):Prop:=c<c'\/(c=c'/\(k'<k\/(k=k'/\Ml l a)))
theorem BE.refl {k:Int}:BE c k l c k l:=.inr ⟨rfl,.inr ⟨rfl,Ml.refl l⟩⟩
theorem BE.trans {a b x y z:Int} {m r:List Int} (h1:BE a x l b y m) (h2:BE b y m c z r):BE a x l c z r:=by
 rcases h1 with h1 | ⟨rfl,h1⟩
 ·rcases h2 with h2 | ⟨rfl,h2⟩
  ·exact .inl (by omega)
  ·exact .inl h1
 ·rcases h2 with h2 | ⟨rfl,h2⟩
  ·exact .inl h2
  ·refine .inr ⟨rfl, ?_⟩;rcases h1 with h1 | ⟨rfl,h1⟩
   ·rcases h2 with h2 | ⟨rfl,h2⟩
    ·exact .inl (by omega)
    ·exact .inl h1
   ·rcases h2 with h2 | ⟨rfl,h2⟩
    ·exact .inl h2
    ·exact .inr ⟨rfl,h1.trans h2⟩
theorem BE.lift {k c' k' d i:Int} {a:List Int} (h:BE c k l c' k' a):BE (d+c) (k+1) (i::l) (d+c') (k'+1) (i::a):=by
 rcases h with h | ⟨rfl,h | ⟨rfl,h⟩⟩
 ·exact .inl (by omega)
 ·exact .inr ⟨rfl,.inl (by omega)⟩
 ·exact .inr ⟨rfl,.inr ⟨rfl,.inr ⟨rfl,h⟩⟩⟩
section
variable {P:List Int} {L:List Leg} {es:List Ev}
def rcI (P:List Int) (L:List Leg) (es:List Ev):List Int->Int
 | []=>0
 | [i]=>30*((es.length:Int)-1-i)
 | i::j::l=>QJ P L (gt es i.toNat) (gt es j.toNat)+30*(j-i-1)+rcI P L es (j::l)
def Asc (n:Nat):List Int->Prop
 | []=>True
 | [i]=>0<=i/\i<n
 | i::j::l=>0<=i/\i<j/\Asc n (j::l)
theorem Asc.head {n:Nat}:∀{i:Int} {l:List Int},Asc n (i::l)->0<=i/\i<n
 | i,[],h=>h
 | i,j::l,h=>⟨h.1,by have:=h.2.2.head;have:=h.2.1;omega⟩
theorem Ncg {T a:List Wo} {i:Nat}:∀m,m<=es.length->(∀j,es.length-m<=j->j<es.length->gt T j=gt a j)->QS P L es T i m=QS P L es a i m
 | 0,_,_=>rfl
 | m+1,hm,h=>by
   rw [QS,QS,Ncg m (by omega) fun j h1 h2=>h j (by omega) h2];unfold XG;rw [h _ (by omega) (by omega)]
theorem YK:∀d k,k+d<=es.length->∀j,es.length-k<=j->j<es.length->gt (OJ P L es (k+d)) j=gt (OJ P L es k) j
 | 0,k,_,j,_,_=>rfl
 | d+1,k,h,j,h1,h2=>by
   rw [<-Pq,OJ,Nby (by rw [Tk];omega),Ng (by omega)];exact YK d k (by omega) j h1 h2
theorem Nt2 {i:Nat} (hi:i<es.length):gt (OJ P L es es.length) i=QS P L es (OJ P L es es.length) i (es.length-1-i):=by
 obtain ⟨k,hk⟩:∃k,es.length-1-i=k:=⟨_,rfl⟩
 have h1:=YK (P:=P) (L:=L) (es:=es) (es.length-(k+1)) (k+1) (by omega) i (by omega) hi;rw [show k+1+(es.length-(k+1))=es.length by omega] at h1;rw [h1,OJ,Nby (by rw [Tk];omega),Nl (by omega),hk,show es.length-1-k=i by omega];refine Ncg k (by omega) fun j h2 b=>?_
 have a:=YK (P:=P) (L:=L) (es:=es) (es.length-k) k (by omega) j h2 b;rw [show k+(es.length-k)=es.length by omega] at a;exact a.symm
variable {F:List Wo} {n:Nat}
theorem Nf1 (a:∀j,j<n->Xh n j (gt F j)):∀(f:Nat) (x:Int),(x<0\/(x<n/\(n:Int)-x<=f))->PP F (f+1) x=PP F f x
 | 0,x,h=>by
   have e:PP F (0+1) x=if x<0 then [] else x::PP F 0 (gt F x.toNat).2.2:=rfl
   rw [e,Nl (by omega)];rfl
 | f+1,x,h=>by
   have e:PP F (f+1+1) x=if x<0 then [] else x::PP F (f+1) (gt F x.toNat).2.2:=rfl
   have b:PP F (f+1) x=if x<0 then [] else x::PP F f (gt F x.toNat).2.2:=rfl
   rw [e,b];split
   ·rfl
   ·rename_i c;congr 1;refine Nf1 a f _ ?_;rcases a x.toNat (by omega) with e | e
    ·exact .inl (by omega)
    ·exact .inr ⟨e.2,by omega⟩
theorem Niy {x:Int} {f:Nat} (a:x<0):PP F f x=[]:=by
 cases f with
 | zero=>rfl
 | succ f=>rw [PP,Nl a]
theorem Vu (a:∀j,j<n->Xh n j (gt F j)) {i:Nat} (hi:i<n):PP F n (i:Int)=(i:Int)::PP F n (gt F i).2.2:=by
 obtain ⟨m,rfl⟩:∃m,n=m+1:=⟨n-1,by omega⟩
 rw [PP,Ng (by omega),N1,Nf1 a m];rcases a i hi with e | e
 ·exact .inl (by omega)
 ·exact .inr ⟨e.2,by omega⟩
structure RestOk (P:List Int) (L:List Leg) (es:List Ev) (x:Wo) (l:List Int):Prop where
 cost:x.1=rcI P L es l
 count:x.2.1=l.length
 asc:Asc es.length l
theorem Nlu (u:∀j,j<es.length->Xh es.length j (gt F j)) {i:Nat} (hi:i<es.length)
  (ih:∀j,i<j->j<es.length->RestOk P L es (gt F j) (PP F es.length j)/\∀l,Asc es.length ((j:Int)::l)->BE (gt F j).1 (gt F j).2.1 (PP F es.length j) (rcI P L es (j::l)) ((j::l:List Int).length:Int) (j::l)) :
  ∀m,m<=es.length-1-i->RestOk P L es (QS P L es F i m) (i::PP F es.length (QS P L es F i m).2.2)/\((QS P L es F i m).2.2=-1\/((es.length:Int)-m<=(QS P L es F i m).2.2/\(QS P L es F i m).2.2<es.length))/\
   ∀l,Asc es.length ((i:Int)::l)->(∀j r,l=j::r->(es.length:Int)-m<=j)->BE (QS P L es F i m).1 (QS P L es F i m).2.1 (i::PP F es.length (QS P L es F i m).2.2) (rcI P L es (i::l)) ((i::l:List Int).length:Int) (i::l)
 | 0,_=>by
   have e:PP F es.length (-1)=[]:=Niy (by omega);refine ⟨⟨?_, ?_, ?_⟩,.inl rfl,fun l k hl=>?_⟩
   ·show _=rcI P L es (i::PP F es.length (-1));rw [e];rfl
   ·show _=((i::PP F es.length (-1):List Int).length:Int);rw [e];rfl
   ·show Asc _ (i::PP F es.length (-1));rw [e];exact ⟨by omega,by omega⟩
   ·cases l with
    | nil=>show BE _ _ (i::PP F es.length (-1)) _ _ _;rw [e];exact BE.refl
    | cons j r=>
      have h1:=hl j r rfl;have h2:=(k.2.2).head;omega
 | m+1,hm=>by
   obtain ⟨⟨c1,c2,v⟩,s,f⟩:=Nlu u hi ih m (by omega);generalize C:es.length-1-m=j;have p:j<es.length:=by omega
   obtain ⟨⟨d1,d2,w⟩,hd⟩:=ih j (by omega) p;have g:=Vu (F:=F) u p;have B:QS P L es F i (m+1)=Us (QS P L es F i m) (XG P L es F i j):=by rw [QS,C]
   rw [B];generalize G:QS P L es F i m=x at c1 c2 v s f;generalize hr:XG P L es F i j=r;have z:r.1=QJ P L (gt es i) (gt es j)+30*((j:Int)-i-1)+(gt F j).1:=by rw [<-hr];rfl
   have r2:r.2.1=(gt F j).2.1+1:=by rw [<-hr];rfl
   have E:r.2.2=(j:Int):=by rw [<-hr];rfl
   have A:∀l,Asc es.length ((i:Int)::(j:Int)::l)->BE r.1 r.2.1 (i::PP F es.length j) (rcI P L es (i::j::l)) ((i::j::l:List Int).length:Int) (i::j::l):=fun l hl=>by
    have:=(hd l hl.2.2).lift (d:=QJ P L (gt es i) (gt es j)+30*((j:Int)-i-1)) (i:=(i:Int));rw [z,r2];exact this
   unfold Us;split
   ·rename_i c;unfold Y8 at c;rw [N6] at c;refine ⟨⟨c1,c2,v⟩,by omega,fun l k hl=>?_⟩;cases l with
    | nil=>exact f [] k (fun j r h=>by cases h)
    | cons a t=>
      by_cases n:a=(j:Int)
      ·subst n;have h1:=A t k;refine BE.trans (b:=r.1) (y:=r.2.1) (m:=i::PP F es.length j) ?_ h1;rcases c with h | ⟨h,h'⟩
       ·exact .inl h
       ·exact .inr ⟨h,.inl h'⟩
      ·refine f _ k fun a' t' e=>?_
       have h1:=hl a t rfl;cases e;omega
   ·rename_i c;unfold Y8 at c;rw [N6] at c;rw [E];refine ⟨⟨?_, ?_, ?_⟩,.inr ⟨by omega,by omega⟩,fun l k hl=>?_⟩
    ·rw [z,d1,g];rfl
    ·rw [r2,d2];simp
    ·rw [g];rw [g] at w;exact ⟨by omega,by omega,w⟩
    ·have o:BE r.1 r.2.1 (i::PP F es.length j) x.1 x.2.1 (i::PP F es.length x.2.2):=by
      rcases Q4 r.1 x.1 with h | h | h
      ·exact .inl h
      ·refine .inr ⟨h, ?_⟩;rcases Q4 x.2.1 r.2.1 with h' | h' | h'
       ·exact .inl h'
       ·refine .inr ⟨h'.symm,.inr ⟨rfl, ?_⟩⟩;rcases s with e | ⟨e1,e2⟩
        ·exfalso;rw [e,Niy (by omega)] at c2;rw [g] at d2;simp at c2 d2;omega
        ·obtain ⟨q,D⟩:=Int.eq_ofNat_of_zero_le (show 0<=x.2.2 by omega);rw [D,g,Vu (F:=F) u (show q<es.length by omega)];exact .inl (by omega)
       ·exact absurd (.inr ⟨h.symm,h'⟩) c
      ·exact absurd (.inl h) c
     cases l with
     | nil=>exact o.trans (f [] k (fun j r h=>by cases h))
     | cons a t=>
       by_cases n:a=(j:Int)
       ·subst n;exact A t k
       ·refine o.trans (f _ k fun a' t' e=>?_);have h1:=hl a t rfl;cases e;omega
end
section
variable {P:List Int} {L:List Leg} {es:List Ev}
variable {l:List Int}
theorem Nbh:∀(k i:Nat),es.length-i<=k->i<es.length->RestOk P L es (gt (OJ P L es es.length) i) (PP (OJ P L es es.length) es.length i)/\
  ∀l,Asc es.length ((i:Int)::l)->BE (gt (OJ P L es es.length) i).1 (gt (OJ P L es es.length) i).2.1 (PP (OJ P L es es.length) es.length i) (rcI P L es (i::l)) ((i::l:List Int).length:Int) (i::l)
 | 0,i,h,hi=>by omega
 | k+1,i,h,hi=>by
   have b:∀j,j<es.length->Xh es.length j (gt (OJ P L es es.length) j):=fun j c=>TM _ (Nf _) j (by omega) c
   obtain ⟨h1,h2,a⟩:=Nlu b hi (fun j h1 h2=>Nbh k j (by omega) h2) (es.length-1-i) (Nf _);rw [<-Nt2 hi] at h1 h2 a;rw [<-Vu b hi] at h1 a;exact ⟨h1,fun l hl=>a l hl fun j r e=>by
    subst e;have:=hl.2.1;omega⟩
theorem BE.add {c k c' k':Int} {l':List Int} (d:Int) (h:BE c k l c' k' l'):BE (d+c) k l (d+c') k' l':=by
 rcases h with h | ⟨rfl,h⟩
 ·exact .inl (by omega)
 ·exact .inr ⟨rfl,h⟩
def tot (P:List Int) (L:List Leg) (es:List Ev):List Int->Int
 | []=>0
 | i::l=>30*i+rcI P L es (i::l)
theorem Nle:∀m,m<=es.length->0<m->∃h:Nat,h<es.length/\es.length-m<=h/\(Sv es.length (OJ P L es es.length) m).2.2=h/\(Sv es.length (OJ P L es es.length) m).1=tot P L es (PP (OJ P L es es.length) es.length h)/\(Sv es.length (OJ P L es es.length) m).2.1=(PP (OJ P L es es.length) es.length h).length/\
  ∀j l,Asc es.length (j::l)->(es.length:Int)-m<=j->BE (Sv es.length (OJ P L es es.length) m).1 (Sv es.length (OJ P L es es.length) m).2.1 (PP (OJ P L es es.length) es.length h) (tot P L es (j::l)) ((j::l).length:Int) (j::l)
 | 0,_,h=>by omega
 | m+1,hm,_=>by
   have t:∀j,j<es.length->Xh es.length j (gt (OJ P L es es.length) j):=fun j g=>TM _ (Nf _) j (by omega) g
   generalize hi:es.length-1-m=i;have c:i<es.length:=by omega
   have ⟨⟨c1,c2,A⟩,z⟩:=Nbh (P:=P) (L:=L) (es:=es) es.length i (by omega) c;have e:=Vu (F:=OJ P L es es.length) t c;have f:Sv es.length (OJ P L es es.length) (m+1)=if (Sv es.length (OJ P L es es.length) m).2.2<0 then XN (OJ P L es es.length) i else Us (Sv es.length (OJ P L es es.length) m) (XN (OJ P L es es.length) i):=by rw [Sv,hi]
   generalize hr:XN (OJ P L es es.length) i=r at f;have u:r.1=30*(i:Int)+(gt (OJ P L es es.length) i).1:=by rw [<-hr];rfl
   have r2:r.2.1=(gt (OJ P L es es.length) i).2.1:=by rw [<-hr];rfl
   have v:r.2.2=(i:Int):=by rw [<-hr];rfl
   have rt:r.1=tot P L es (PP (OJ P L es es.length) es.length i):=by rw [u,c1,e];rfl
   have w:r.2.1=(PP (OJ P L es es.length) es.length i).length:=by rw [r2,c2]
   have o:∀l,Asc es.length ((i:Int)::l)->BE r.1 r.2.1 (PP (OJ P L es es.length) es.length i) (tot P L es (i::l)) ((i::l:List Int).length:Int) (i::l):=fun l hl=>by
    rw [u,r2];exact (z l hl).add _
   by_cases n:m=0
   ·subst n;have e0:Sv es.length (OJ P L es es.length) (0+1)=r:=by rw [f,Nl];show (-1:Int)<0;decide
    rw [e0];refine ⟨i,c,by omega,v,rt,w,fun j l hl g=>?_⟩;have:=hl.head;obtain rfl:j=(i:Int):=by omega
    exact o l hl
   obtain ⟨h,h1,h2,p,s,h5,k⟩:=Nle m (by omega) (by omega);rw [Ng (by omega)] at f;rw [f];generalize Sv es.length (OJ P L es es.length) m=x at p s h5 k;unfold Us;split
   ·rename_i a;unfold Y8 at a;rw [N6] at a;refine ⟨h,h1,by omega,p,s,h5,fun j l hl g=>?_⟩;by_cases d:j=(i:Int)
    ·subst d;refine BE.trans (b:=r.1) (y:=r.2.1) ?_ (o l hl);rcases a with h | ⟨h,h'⟩
     ·exact .inl h
     ·exact .inr ⟨h,.inl h'⟩
    ·exact k j l hl (by omega)
   ·rename_i a;unfold Y8 at a;rw [N6] at a;refine ⟨i,c,by omega,v,rt,w,fun j l hl g=>?_⟩;by_cases d:j=(i:Int)
    ·subst d;exact o l hl
    ·refine BE.trans ?_ (k j l hl (by omega));rcases Q4 r.1 x.1 with h' | h' | h'
     ·exact .inl h'
     ·refine .inr ⟨h', ?_⟩;rcases Q4 x.2.1 r.2.1 with q | q | q
      ·exact .inl q
      ·refine .inr ⟨q.symm, ?_⟩;rw [e,Vu (F:=OJ P L es es.length) t h1];exact .inl (by omega)
      ·exact absurd (.inr ⟨h'.symm,q⟩) a
     ·exact absurd (.inl h') a
theorem Nga (hn:0<es.length):PU P L es≠[]/\Asc es.length (PU P L es)/\∀j l,Asc es.length (j::l)->BE (tot P L es (PU P L es)) ((PU P L es).length:Int) (PU P L es) (tot P L es (j::l)) ((j::l).length:Int) (j::l):=by
 have d:∀j,j<es.length->Xh es.length j (gt (OJ P L es es.length) j):=fun j f=>TM _ (Nf _) j (by omega) f
 obtain ⟨h,h1,h2,a,b,h5,c⟩:=Nle (P:=P) (L:=L) (es:=es) es.length (Nf _) hn;have e:PU P L es=PP (OJ P L es es.length) es.length h:=by unfold PU;rw [a]
 rw [e];refine ⟨by rw [Vu d h1];simp,(Nbh es.length h (by omega) h1).1.asc,fun j l hl=>?_⟩;have:=c j l hl (by have:=hl.head;omega);rw [b,h5] at this;exact this
theorem Nlj {i j:Int}:QG P L es (i::j::l)=(i,j,QJ P L (gt es i.toNat) (gt es j.toNat))::QG P L es (j::l):=by
 unfold QG;show (List.range (l.length+1)).map _=_;rw [List.range_succ_eq_map,Oj,List.map_map];rfl
theorem Nd1:∀(l:List Int) (i:Int),tot P L es (i::l)=Sr P L es (i::l)
 | [],i=>by
   show 30*i+30*((es.length:Int)-1-i)=30*((es.length:Int)-1)+0;omega
 | j::l,i=>by
   have h:=Nd1 l j;have e1:tot P L es (i::j::l)=30*i+(QJ P L (gt es i.toNat) (gt es j.toNat)+30*(j-i-1)+rcI P L es (j::l)):=rfl;have e2:tot P L es (j::l)=30*j+rcI P L es (j::l):=rfl;have e3:Sr P L es (i::j::l)=30*((es.length:Int)-(l.length+1+1:Nat))+UG (QG P L es (i::j::l)):=rfl;have e4:Sr P L es (j::l)=30*((es.length:Int)-(l.length+1:Nat))+UG (QG P L es (j::l)):=rfl;rw [e1,e3,Nlj,UG];rw [e2,e4] at h;simp only;omega
theorem N3e {n:Nat}:∀(ks:List Int),(∀i,i<ks.length->Nc7 n ks i)->Asc n ks
 | [],_=>trivial
 | [i],h=>⟨(h 0 (by simp)).1,(h 0 (by simp)).2.1⟩
 | i::j::l,h=>by
   refine ⟨(h 0 (by simp)).1,(h 1 (by simp)).2.2 (by omega),N3e (j::l) fun k hk=>?_⟩;have h1:=h (k+1) (by simp at hk⊢;omega);refine ⟨h1.1,h1.2.1,fun a=>?_⟩;have h2:=h1.2.2 (by omega);obtain ⟨q,rfl⟩:∃q,k=q+1:=⟨k-1,by omega⟩
   exact h2
theorem Nzm {n:Nat}:∀(ks:List Int),Asc n ks->∀i,i<ks.length->Nc7 n ks i
 | [],_,i,hi=>by cases hi
 | [a],h,i,hi=>by
   obtain rfl:i=0:=by simp at hi;omega
   exact ⟨h.1,h.2,fun h=>by omega⟩
 | a::b::l,h,0,hi=>⟨h.head.1,h.head.2,fun h=>by omega⟩
 | a::b::l,h,1,hi=>⟨h.2.2.head.1,h.2.2.head.2,fun _=>h.2.1⟩
 | a::b::l,h,i+2,hi=>by
   have h1:=Nzm (b::l) h.2.2 (i+1) (by simp at hi⊢;omega);exact ⟨h1.1,h1.2.1,fun _=>h1.2.2 (by omega)⟩
theorem XI:Nhf es.length (PU P L es):=by
 by_cases hn:0<es.length
 ·obtain ⟨h1,h2,_⟩:=Nga (P:=P) (L:=L) hn;exact ⟨fun h=>absurd (List.length_eq_zero_iff.1 h) h1,Nzm _ h2⟩
 ·have e:PU P L es=[]:=by
   have:=WB (T:=OJ P L es es.length) es.length (Sv es.length (OJ P L es es.length) es.length).2.2;exact List.length_eq_zero_iff.1 (by unfold PU;omega)
  exact ⟨fun _=>by omega,fun i hi=>by rw [e] at hi;cases hi⟩
theorem N3a {ks:List Int} (hk:Nhf es.length ks):BE (Sr P L es (PU P L es)) ((PU P L es).length:Int) (PU P L es) (Sr P L es ks) (ks.length:Int) ks:=by
 cases ks with
 | nil=>
   have f:=hk.1 rfl;have e:PU P L es=[]:=by
    have:=WB (T:=OJ P L es es.length) es.length (Sv es.length (OJ P L es es.length) es.length).2.2;exact List.length_eq_zero_iff.1 (by unfold PU;omega)
   rw [e];exact BE.refl
 | cons j l=>
   have c:=N3e _ hk.2;have hn:0<es.length:=by have:=c.head;omega
   obtain ⟨h1,h2,d⟩:=Nga (P:=P) (L:=L) hn;have:=d j l c;rw [Nd1] at this;generalize PU P L es=b at *;cases b with
   | nil=>exact absurd rfl h1
   | cons a t=>rw [Nd1] at this;exact this
end
end Go.Proofs.YtkppjkkkdpcgiaaGreat.Fn



namespace Go.Proofs.YtkppjkkkdpcgiaaGreat.Fn
open Go.AM Go.AM.Sym Go.Net
variable {Q Z:Value->NA->Prop} {R c A B cap cl:Nat} {L:List Leg} {mp o o1 o2:Bool} {H G:NA} {pl:Option Addr} {T P bef:List Int}
def Xc (P:List Int) (L:List Leg) (T:List Int):Nat->List Int
 | 0=>T
 | k+1=>Go.Net.stepX 50 (NW P) L (Xc P L T k)
theorem Niq {P:List Int} {L:List Leg} {q dl:Int}:∀k,Xc P L (YC 50 (NW P q) dl) k=Naq 50 (NW P) L q dl k
 | 0=>rfl
 | k+1=>by rw [Xc,Naq,Niq k]
theorem Nsz:okT (List.replicate 50 (-1)):=⟨by simp,fun j=>by
 rw [Nb,P3];unfold NV;split<;>simp⟩
theorem Nk8 {pos:Int->Nat} {aft:List Int} {l:Leg} {a:Int} (b:¬bef.getD (pos l.dst) (-1)<0) (h:Tj l (bef.getD (pos l.dst) (-1))=some a):YH pos bef aft l=aft.set (pos l.frm) (max (aft.getD (pos l.frm) (-1)) (a-l.cut)):=by
 unfold YH;rw [Ng b];simp only [h];congr 1;split<;>omega
theorem Nka [OA] {lim A10 A11:Nat} {fr:Nat->Value} {K:List AItem}
  (h:NetOk 50 P L (NW P)) (hL:Sl H encL 8 pl L) (al:L.length<2 ^ 62) (hm:NE H R=.map (WY P)) (ak:lim<=H.length) (hb:okT bef) (hE:Chg [] H G) (ai:H.length<=A10) (aj:H.length<=A11) (ah:A10≠A11) (aa:NE G A10=Vc (Sb bef)) (ab:NE G A11=Vc (Sb (List.replicate 50 (-1))))
  (f1:fr 1=.map (some R)) (f10:fr 10=Vp A10) (f11:fr 11=Vp A11) (V:fr 30=.slice pl L.length cl) (W:fr 31=Vi L.length) (f32:fr 32=Vi 0)
  (hR:∀fr' G',okT (Go.Net.stepX 50 (NW P) L bef)->Chg [A11] G G'->NE G' A11=Vc (Sb (Go.Net.stepX 50 (NW P) L bef))->fr' 1=fr 1->fr' 4=fr 4->fr' 9=fr 9->fr' 11=fr 11->fr' 19=fr 19->fr' 20=fr 20->PT E a62 lim K fr' (G'++[]) Z) :
  PT E a62 lim (.code (.loop N0v)::.inBlock 2::K) fr G Z:=by
 refine NP (fun i=>L.length-i) (fun i fr' G'=>i<=L.length/\fr' 1=.map (some R)/\fr' 4=fr 4/\fr' 9=fr 9/\fr' 10=Vp A10/\fr' 11=Vp A11/\fr' 19=fr 19/\fr' 20=fr 20/\fr' 30=.slice pl L.length cl/\fr' 31=Vi L.length/\fr' 32=Vi i/\
  Chg [A11] G G'/\okT ((L.take i).foldl (YH (NW P) bef) (List.replicate 50 (-1)))/\NE G' A11=Vc (Sb ((L.take i).foldl (YH (NW P) bef) (List.replicate 50 (-1))))) 0
  ⟨Np _,f1,rfl,rfl,f10,f11,rfl,rfl,V,W,f32,Chg.refl,Nsz,ab⟩ ?_
 intro i fr' G' ⟨hi,A,T,U,m,q,u,v,n,g,w,I,z,d⟩ hN;have B:Chg [] H G':=hE.trans' I fun j h1 h2=>by simp only [Nq] at h1;omega
 have hl:=B.len;rw [NU N0v.eq_1];refine NJ ?_;by_cases e:i<L.length
 case neg=>
  obtain rfl:i=L.length:=by omega
  rw [N9] at z d;simp only [n62,g,w,e,SB,seval,NL,NH];exact hR _ _ z I d (by rw [f1];exact A) (by rw [<-T];exact rfl) (by rw [<-U];exact rfl) (by rw [f11];exact q) (by rw [<-u];exact rfl) (by rw [<-v];exact rfl)
 have O:=B.ext.sl hL;have D:=fun X=>(O.app X).loadCells NZ e
 have s:=fun c (k:IntKind) (H1:NA)=>O.idx (c:=c) (k:=k) (H1:=H1) e
 have F:IntKind.i64.wrap ((i:Int)+1)=((i+1:Nat):Int):=OC (by omega);have J:=I.cells aa (by simpa using ah);have q1:=zc J;have q2:=zc d;have N:=B.get hm (PW hm) (by simp);have q3:∀X,NE (G'++X) R=.map (WY P):=fun X=>by rw [NS (PW N)];exact N
 have C:lim<=G'.length:=by omega
 have ag:lim<=A11:=by omega
 have t:=PM e;have hf:=h.fine _ t;have i1:NW P (gt L i).frm<50:=h.lt _ (h.frm _ t);have i2:NW P (gt L i).dst<50:=h.lt _ (h.dst _ t);obtain ⟨j1,M⟩:=Vy (i:=0) (h.frm _ t);obtain ⟨j2,y⟩:=Vy (i:=0) (h.dst _ t);change findKey _ _ _=some (some (j1,Vi (NW P (gt L i).frm:Int))) at M;change findKey _ _ _=some (some (j2,Vi (NW P (gt L i).dst:Int))) at y;have x:=Yh (f:=YH (NW P) bef) (b:=List.replicate 50 (-1)) e;generalize (L.take i).foldl (YH (NW P) bef) (List.replicate 50 (-1))=aft at *;have ae:=hb.2 (NW P (gt L i).dst);have ad:=z.2 (NW P (gt L i).frm);have Y:=WA hb.1 i2;have ga:=WA z.1 i1;have z1:(0:Int)<=(NW P (gt L i).frm:Int):=by omega
 have z2:(0:Int)<=(NW P (gt L i).dst:Int):=by omega
 have z3:(NW P (gt L i).frm:Int)<50:=by omega
 have z4:(NW P (gt L i).dst:Int)<50:=by omega
 have z5:NW P (gt L i).dst<=49:=by omega
 have z6:NW P (gt L i).frm<=49:=by omega
 by_cases o:bef.getD (NW P (gt L i).dst) (-1)<0
 ·have S:YH (NW P) bef aft (gt L i)=aft:=by unfold YH;rw [Nl o]
  rw [S] at x;simp only [n62,A,m,n,g,w,e,D,s,F,q1,q3,y,Y,z2,z4,NZ,R3,Ps,C,NI,o,SB,seval,NL,NH,place,NB];exact hN (i+1) _ _ ⟨by omega,A,by rw [<-T];exact rfl,by rw [<-U];exact rfl,m,q,by rw [<-u];exact rfl,by rw [<-v];exact rfl,n,g,rfl,I.app,by rw [x];exact z,by rw [x];exact (OD.refl.app).cells d⟩ (by omega)
 unfold NV at ae ad;have p:=fun (H:NA) (mp:Bool) (lim:Nat) (Q:Value->NA->Prop)=>N58 (mp:=mp) (lim:=lim) (H:=H) (Q:=Q) (l:=gt L i) (r:=bef.getD (NW P (gt L i).dst) (-1)) hf (by omega) (by omega)
 cases hx:Tj (gt L i) (bef.getD (NW P (gt L i).dst) (-1)) with
 | none=>
   rw [hx] at p;simp only [Oo,TE] at p;have S:YH (NW P) bef aft (gt L i)=aft:=by unfold YH;rw [Ng o];simp only [hx]
   rw [S] at x;simp only [n62,A,m,n,g,w,e,D,s,F,q1,q3,y,Y,z2,z4,NZ,R3,NK,Ps,C,NI,o,p,SB,seval,NF,NL,NH,place,NB];exact hN (i+1) _ _ ⟨by omega,A,by rw [<-T];exact rfl,by rw [<-U];exact rfl,m,q,by rw [<-u];exact rfl,by rw [<-v];exact rfl,n,g,rfl,I.app,by rw [x];exact z,by rw [x];exact (OD.refl.app).cells d⟩ (by omega)
 | some a=>
   rw [hx] at p;simp only [Ny,TE] at p;obtain ⟨k1,k2,k3,k4⟩:=Nib hf hx;unfold NV at k3;have S:=Nk8 (aft:=aft) o hx;rw [S] at x;unfold Fine at hf;have wc:IntKind.i64.wrap (a-(gt L i).cut)=a-(gt L i).cut:=NR (by omega) (by omega);obtain ⟨G2,e2,h2,m2⟩:=OO (NM d) (Vc (Sb (aft.set (NW P (gt L i).frm) (max (aft.getD (NW P (gt L i).frm) (-1)) (a-(gt L i).cut)))));simp only [n62,A,m,q,n,g,w,e,D,s,F,q1,q2,q3,M,y,Y,ga,z1,z2,z3,z4,z6,NZ,QR,R3,UQ,NK,QF,Ps,C,NI,o,p,wc,ag,N0b,Zh z.1,e2,SB,seval,NF,NL,NH,place,NB];exact hN (i+1) _ _ ⟨by omega,A,by rw [<-T];exact rfl,by rw [<-U];exact rfl,m,q,by rw [<-u];exact rfl,by rw [<-v];exact rfl,n,g,rfl,(I.mut m2 (.inl (by simp))).app,by rw [x];exact Njv z (by unfold NV;omega),by rw [x];exact (OD.refl.app).cells h2⟩ (by omega)
theorem Nfp {P:List Int} {L:List Leg} {T:List Int} (b:NetOk 50 P L (NW P)) (f:okT T):∀k,okT (Xc P L T k)
 | 0=>f
 | k+1=>by
   rw [Xc,Go.Net.stepX];have g:=Nfp b f k;generalize Xc P L T k=bef at g;suffices h:∀(M:List Leg),(∀l∈M,l∈L)->∀aft,okT aft->okT (M.foldl (YH (NW P) bef) aft) from h L (fun _ h=>h) _ Nsz
   intro M
   induction M with
   | nil=>intro _ aft h;exact h
   | cons l M ih=>
     intro hM aft d;rw [O1];refine ih (fun x c=>hM x (Nr _ c)) _ ?_;by_cases e:bef.getD (NW P l.dst) (-1)<0
     ·unfold YH;rw [Nl e];exact d
     ·cases c:Tj l (bef.getD (NW P l.dst) (-1)) with
      | none=>unfold YH;rw [Ng e];simp only [c];exact d
      | some a=>
        rw [Nk8 e c];obtain ⟨k1,k2,k3,k4⟩:=Nib (b.fine _ (hM l (Nu ..))) c;have i:=b.fine _ (hM l (Nu ..));have:=d.2 (NW P l.frm);unfold Fine at i;exact Njv d (by omega)
theorem Zu.le {α:Type} {lim e:Nat} {enc:α->List Value} {p:Option Addr} {l:List α} (h:Zu lim G enc e p cap l) {lim':Nat} (hl:lim'<=lim):Zu lim' G enc e p cap l:=by
 rcases h with h | ⟨R,a,h1,h2,b,c⟩
 ·exact .inl (h.le hl)
 ·exact .inr ⟨R,a,h1,h2,b,by omega⟩
theorem Nvx [OA] {lim n0:Nat} {pp:Option Addr} {cp:Nat} (hn:NetIn H pp pl P L) (w:NetOk 50 P L (NW P)) (hm:NE H R=.map (WY P)) (hT:okT T) (ag:n0<2 ^ 30) (M:L.length<2 ^ 62) (v:lim<=H.length)
  (hQ:∀H' p cap,Chg [] H H'->Zu H.length H' Sb 50 p cap ((List.range (n0+1)).map (Xc P L T))->Q (.slice p (n0+1) cap) H') :
  NQ E false lim 62 [.agg (netV pp P.length cp pl L.length cl).toArray,.map (some R),.agg (Sb T).toArray,Vi n0] H Q:=by
 refine QN (by decide) rfl rfl ?_;rw [b62,c62];simp only [n62,No2,QF,NK,NI,SB,seval,NL,NG,place,NB];refine NP (fun s:Nat×Option Addr×Nat=>n0-s.1) (fun s fr G=>s.1<=n0/\fr 1=.map (some R)/\fr 4=Vp H.length/\fr 9=.slice s.2.1 (s.1+1) s.2.2/\fr 19=Vi n0/\fr 20=Vi s.1/\NE G H.length=Vc (netV pp P.length cp pl L.length cl)/\Chg [] H G/\Zu (H.length+1) G Sb 50 s.2.1 s.2.2 ((List.range (s.1+1)).map (Xc P L T))) (0,Sa (H.length+2),1)
  ⟨Np _,rfl,rfl,by rfl,rfl,by rfl,NN,Chg.refl.app,.inr ⟨H.length+2,rfl,rfl,by show (1:Nat)<2 ^ 62;decide,by rw [NY];simp [Xc],by omega⟩⟩ ?_
 rintro ⟨k,p,cap⟩ fr G ⟨hk,f1,f4,f9,n,f,hB,C,D⟩ hN;simp only at hk f9 f D;have hl:=C.len;have N:=Nfp w hT k;rw [NU N8g.eq_1];refine NJ ?_;by_cases r:k<n0
 case neg=>
  obtain rfl:k=n0:=by omega
  simp only [n62,f9,n,f,r,SB,seval,NL,NH,NC];exact hQ _ _ _ C.app ((D.chg (A:=[]) (Chg.refl.app) (by simp)).le (by omega))
 have b:((List.range (k+1)).map (Xc P L T)).length=k+1:=by simp
 have J:gt ((List.range (k+1)).map (Xc P L T)) k=Xc P L T k:=by
  rw [OQ (by rw [b];omega)];simp
 have hS:=D.sl QF;have u:=fun X=>(hS.app X).loadCells QF (i:=k) (by rw [b];omega)
 have m:=fun c (kk:IntKind) (H1:NA)=>hS.idx (c:=c) (k:=kk) (H1:=H1) (i:=k) (by rw [b];omega)
 rw [b] at m;rw [J] at u;have O:IntKind.i64.wrap (((k+1:Nat):Int)-1)=(k:Int):=by rw [NR (by omega) (by omega)];omega
 have S:IntKind.i64.wrap ((k:Int)+1)=((k+1:Nat):Int):=OC (by omega);have K:lim<=G.length:=by omega
 have F:∀(H:NA) (mp:Bool) (lim:Nat) (Q:Value->NA->Prop),NQ E mp lim 63 [Vi 0,Vi (-1)] H Q=Q (.agg (Sb (List.replicate 50 (-1))).toArray) H:=fun H mp lim Q=>Np3 (mp:=mp) (lim:=lim) (H:=H) (Q:=Q) (i:=0) (t:=-1) (by decide)
 have I:=zc hB;simp only [n62,f4,f9,n,f,r,F,I,QE,No2,QF,NI,O,m,u,K,show lim<=G.length+1 by omega,SB,seval,NF,NL,NH,place,NB];refine Nka (cl:=cl) (A10:=G.length) (A11:=G.length+1) w hn.sl M hm v N C.app (by omega) (by omega) (by omega) NN NY f1 rfl rfl rfl rfl rfl fun fr' G' x hC o k1 k4 k9 V W Y=>?_
 have U:fr' 1=.map (some R):=k1.trans f1;have Z:fr' 4=Vp H.length:=k4.trans f4;have aa:fr' 9=.slice p (k+1) cap:=k9.trans f9;have y:fr' 11=Vp (G.length+1):=V.trans rfl;have z:fr' 19=Vi n0:=W.trans n;have B:fr' 20=Vi k:=Y.trans f;have l:=zc o;have g:Chg [] G G':=hC.pre.mono fun j hj h=>by simp only [Nq] at h;omega
 have ae:=g.len;have q:=D.chg g (by simp);change okT (Xc P L T (k+1)) at x;change NE G' (G.length+1)=Vc (Sb (Xc P L T (k+1))) at o;change ∀X,NE (G'++X) (G.length+1)=Vc (Sb (Xc P L T (k+1))) at l;have ad:H.length<G.length:=NM hB;obtain ⟨G3,e3,O3,C3,d,l3,_⟩:=q.step (lim':=lim) (bytes:=400) (by omega) QF (by decide) (Xc P L T (k+1)) (by rw [b];unfold OX;omega) (by rw [b];omega) (by omega) [Vc (Sb (Xc P L T (k+1)))] G'.length 1 NN;rw [b] at e3;have ab:lim<=G'.length:=by omega
 simp only [n62,aa,y,B,l,QF,NK,No2,NI,e3,S,SB,seval,NL,NH,place];refine hN (k+1,_,_) _ _ ⟨by omega,U,Z,by rfl,z,rfl, ?_,C3 _ _ (by omega) (C.trans g),.inl ?_⟩ (by show n0-(k+1)<n0-k;omega)
 ·rw [Na] at d;rw [Na,d H.length (by omega) fun a ha e=>by have:=(q.block ha).1;omega];exact g.cells hB (by simp)
 ·rw [Qg,O7];exact O3
theorem Odt [OA] {lim i:Nat} {t:Int} (hi:i<50) (b:T.length=50) (a:NE H A=.cells o1 [Vi i]) (hB:NE H B=.cells o2 [Vi t]) :
  NQ E mp lim 61 [.agg (Sb T).toArray,Vp A,Vp B] H Q=Q (.bool (decide (T.getD i (-1)=t))) H:=by
 refine pc (by decide) rfl rfl rfl ?_;rw [b61,c61];have c:=zc a;have d:=zc hB;have e:(0:Int)<=(i:Int):=by omega
 have f:(i:Int)<50:=by omega
 have g:i<=49:=by omega
 have gt:=WA b hi;simp only [n61,c,d,gt,e,f,Ps,SB,seval,NL,NH,NG,place,NB,NC]
theorem N11 [OA] {lim i k:Nat} {p:Option Addr} {t:Int} {Ts:List (List Int)} (hi:i<50) (q:NE H A=.cells o1 [Vi i]) (hB:NE H B=.cells o2 [Vi t]) (hs:Sl H Sb 50 p Ts) (h:∀T∈Ts,T.length=50) (hn:Ts.length<2 ^ 62)
  (hk:k<Ts.length) (l:(gt Ts k).getD i (-1)=t) (m:∀j,j<k->(gt Ts j).getD i (-1)≠t) :
  NQ E mp lim 60 [.slice p Ts.length cap,.func (.func 61) #[] #[Vp A,Vp B]] H Q=Q (Vi k) H:=by
 refine pc (by decide) rfl rfl rfl ?_;rw [b60,c60];simp only [n60,SB,seval,NL,reduceCtorEq,NG];refine NP (fun j=>Ts.length-j) (fun j fr G=>j<=k/\fr 0=.slice p Ts.length cap/\fr 1=.func (.func 61) #[] #[Vp A,Vp B]/\fr 7=Vi Ts.length/\fr 8=Vi j/\OD H G) 0 ⟨Np _,rfl,rfl,rfl,by rfl,OD.refl.app⟩ ?_;intro j fr G ⟨r,f0,f1,g,o,e⟩ hN;rw [NU N8h.eq_1];refine NJ ?_;have a:j<Ts.length:=by omega
 have f:=fun X=>((e.sl hs).app X).loadCells QF a
 have d:=fun c (kk:IntKind) (H1:NA)=>(e.sl hs).idx (c:=c) (k:=kk) (H1:=H1) a
 have n:IntKind.i64.wrap ((j:Int)+1)=((j+1:Nat):Int):=OC (by omega);have b:=fun X (mp:Bool) (lim:Nat) (Q:Value->NA->Prop)=>Odt (mp:=mp) (lim:=lim) (Q:=Q) (H:=G++X) (T:=gt Ts j) hi (h _ (PM a)) ((e.app).cells q) ((e.app).cells hB)
 by_cases he:j=k
 ·subst he;rw [Nj l] at b;simp only [n60,f0,f1,g,o,a,f,d,b,SB,seval,NF,NL,NH,reduceCtorEq,NC]
 ·rw [Nw (p:=(gt Ts j).getD i (-1)=t) (m j (by omega))] at b;simp only [n60,f0,f1,g,o,a,f,d,n,b,SB,seval,NF,NL,NH,reduceCtorEq];exact hN (j+1) _ _ ⟨by omega,f0,f1,g,rfl,e.app⟩ (by omega)
theorem Nk6 [OA] {lim Y Bx:Nat} {p:Option Addr} (I:Nat->NA->Prop) (u:L.length<2 ^ 62)
  (g:∀i H H',I i H->Chg [] H H'->I i H')
  (f:∀i H,I i H->Sl H encL 8 p L/\NE H Bx=.cells o [.slice p L.length c]/\lim<=H.length)
  (b:∀i H,i<L.length->I i H->YB E false lim Y [.agg (encL (gt L i)).toArray] H fun v H'=>v=.bool true/\I (i+1) H')
  (s:I 0 H) (t:∀H',I L.length H'->Q (.tuple #[]) H') :
  NQ E false lim 103 [.func (.yield Y) #[] #[],Vp Bx] H Q:=by
 refine QN (by decide) Ofw rfl ?_;rw [Og8,Obn];have l:=zc (f _ _ s).2.1;simp only [n103,l,SB,seval,NL,NG];refine NP (fun i=>L.length-i) (fun i fr G=>i<=L.length/\fr 0=.func (.yield Y) #[] #[]/\fr 5=.slice p L.length c/\fr 6=Vi L.length/\fr 7=Vi i/\I i G) 0 ⟨Np _,rfl,rfl,rfl,by rfl,g _ _ _ s (Chg.refl.app)⟩ ?_;intro i fr G ⟨hi,f0,f5,h,j,d⟩ hN;rw [NU N1n.eq_1];refine NJ ?_;obtain ⟨hs,hB,n⟩:=f _ _ d;by_cases a:i<L.length
 case neg=>
  obtain rfl:i=L.length:=by omega
  simp only [n103,Oej,h,j,a,SB,seval,NL,NH];exact t _ (g _ _ _ d (Chg.refl.app))
 have q:=fun X=>(hs.app X).loadCells NZ a
 have e:=fun c (kk:IntKind) (H1:NA)=>hs.idx (c:=c) (k:=kk) (H1:=H1) a
 have r:IntKind.i64.wrap ((i:Int)+1)=((i+1:Nat):Int):=OC (by omega);simp only [n103,f0,f5,h,j,a,q,e,NZ,NK,n,NI,SB,seval,NF,NL,NH,reduceCtorEq,place,NB];refine (b i _ a (g _ _ _ d (Chg.refl.app))).mono fun v H' w=>?_
 obtain ⟨rfl,m⟩:=w;refine NJ ?_;simp only [n103,j,r,SB,seval,NL,NH,RN];exact hN (i+1) _ _ ⟨by omega,f0,f5,h,rfl,g _ _ _ m (Chg.refl.app)⟩ (by omega)
theorem Nsa [OA] {lim Bx:Nat} {p:Option Addr} {fr0:Nat->Value} {K':List AItem} (hB:NE H Bx=.cells o [.slice p L.length c]) (hs:Sl H encL 8 p L) (hn:L.length<2 ^ 30) (K:lim<=H.length)
  (f2:fr0 2=Vp H.length)
  (W:∀H' q cap,Chg [] H H'->Own (H.length+3) H' encL 8 q cap L->NE H' H.length=Vc [.slice q L.length cap]->NE H' (H.length+1)=.dfr->H.length+3<=H'.length->PT E Nkv lim (K'++[.mark (H.length+1)]) fr0 (H'++[]) Z) :
  NQ E false lim 103 [.func (.yield (H.length+2)) #[] #[],Vp Bx] (H++[Vc [Vz],.dfr,.loop ⟨0,none,fr0,13,[7],Yg,Yf⟩]) fun _ B=>
   YF (NE B (H.length+1+1)) fun x=>PT E Nkv lim (YS x++(K'++[.mark (H.length+1)])) fr0 (B.set (H.length+1+1) .dead) Z:=by
 refine Nk6 (c:=c) (p:=p) (o:=o) (L:=L) (fun i G=>∃q cap,NE G H.length=Vc [.slice q i cap]/\Own (H.length+3) G encL 8 q cap (L.take i)/\NE G (H.length+1)=.dfr/\NE G (H.length+2)=.loop ⟨0,none,fr0,13,[7],Yg,Yf⟩/\Chg [] H G/\H.length+3<=G.length/\i<=L.length) (by omega) ?_ ?_ ?_ ?_ ?_
 ·rintro i G G' ⟨q,cap,h1,h2,n,k,h5,F,I⟩ d;have:=d.len;exact ⟨q,cap,d.cells h1 (by simp),h2.chg d (by simp),d.get n (by omega) (by simp),d.get k (by omega) (by simp),h5.trans d,by omega,I⟩
 ·rintro i G ⟨q,cap,h1,h2,n,k,h5,F,I⟩;exact ⟨h5.ext.sl hs,h5.cells hB (by simp),by omega⟩
 ·rintro i G v ⟨q,cap,h2,s,hd,M,d,hl,_⟩;rw [XK (x:=⟨0,none,fr0,13,[7],Yg,Yf⟩) M (by omega) rfl rfl,WX];rw [NU Yg.eq_1];refine NJ ?_;obtain ⟨G1,e1,h1,f⟩:=OO (G:=G) (R:=H.length+2) (by omega) (.loop ⟨1,none,fr0,13,[7],Yg,Yf⟩);have V:=fun X=>(OD.refl.app (X:=X)).get' M (by omega)
  have u:lim<=G.length:=by omega
  simp only [NZ,NI,u,V,e1,show lim<=H.length+2 by omega,SB,seval,NL,place,NB];rw [NU Yf.eq_1];have t:Own (H.length+3) G1 encL 8 q cap (L.take i):=s.mut f fun a e=>by have:=(s.block e).1;omega
  have g:(L.take i).length=i:=by rw [N5];omega
  obtain ⟨m,e3,r,P,b,N,Y⟩:=t.step (lim':=lim) (bytes:=64) (by omega) NZ (by decide) (gt L i) (by rw [g];unfold OX;omega) (by rw [g];omega) (by rw [f.len];omega) [Vc (encL (gt L i)),Vc (encL (gt L i))] (G1.length+1) 1 NY;rw [g] at e3;rw [f.len] at e3 r N;simp only [Nm,Nn] at e3 N;have b2:=zc (f.cells h2 (by omega));have T:∀X:NA,NE (G1++X) G.length=X.getD 0 .dead:=(Ue f.len).2.2.1;have c6:∀(X:NA) (j:Nat),NE (G1++X) (G.length+j)=X.getD j .dead:=(Ue f.len).2.1;have w:∀j,j<H.length+3->∀a,q=some a->j≠a.block:=fun j J a e hh=>by have:=(s.block e).1;omega
  have y:NE (m++[]) H.length=Vc [.slice q i cap]:=(b _ (by rw [f.len];omega) (w _ (by omega))).trans (f.cells h2 (by omega));have O:NE (m++[]) (H.length+2)=_:=(b _ (by rw [f.len];omega) (w _ (by omega))).trans h1;have D:NE (m++[]) (H.length+1)=_:=(b _ (by rw [f.len];omega) (w _ (by omega))).trans (f.alive hd (by omega));rw [Na] at y O D r;obtain ⟨Q,e4,k,h⟩:=OO (NM y) (Vc [.slice (Sa (G.length+2)) (i+1) (loose 8)]);have A:=h.alive O (by omega);have y4:=fun X=>(OD.refl.app (X:=X)).get' A (by rw [h.len];omega)
  obtain ⟨S,U,h5,l⟩:=OO (G:=Q) (R:=H.length+2) (by rw [h.len];omega) (.loop ⟨0,none,fr0,13,[7],Yg,Yf⟩);have z:=zc y;simp only [f2,NZ,NK,NI,b2,T,f.len,e3,e4,U,y4,z,show lim<=H.length by omega,show lim<=H.length+2 by omega,SB,seval,NL,place,NB];have C:=P [] H (by omega) (d.mut f (.inr (by omega)));rw [Na] at C;have l5:S.length=m.length:=by rw [l.len,h.len]
  refine ⟨_,_,(OD.refl.app).cells (l.cells k (by omega)), ?_,(OD.refl.app).get' (l.alive (h.alive D (by omega)) (by omega)) (by omega),(OD.refl.app).get' h5 (by omega),((C.mut h (.inr (by omega))).mut l (.inr (by omega))).app,by omega,by omega⟩;rw [Wi v];exact ((r.mut h fun a e=>by cases e;show G.length+2≠_;omega).mut l fun a e=>by cases e;show G.length+2≠_;omega).app _
 ·exact ⟨none,0,NN,.nil,by rw [NY];rfl,by rw [NY];rfl,Chg.refl.app,by simp,Np _⟩
 ·rintro H' ⟨q,cap,h1,h2,n,k,h5,F,_⟩;rw [N9] at h2;rw [Nrj (show NE H' (H.length+1+1)=_ from k),N2l];show PT E Nkv lim (K'++[.mark (H.length+1)]) fr0 _ _;have d:Mut H' (H'.set (H.length+1+1) .dead) (H.length+1+1):=⟨by simp,fun j J=>QC J⟩
  refine NJ ?_;exact W _ q cap (h5.mut d (.inr (by omega))) (h2.mut d fun a e=>by have:=(h2.block e).1;omega) (d.cells h1 (by omega)) (d.alive n (by omega)) (by rw [d.len];omega)
theorem Nr9 [OA] {lim Bx:Nat} {p:Option Addr} (hB:NE H Bx=.cells o [.slice p L.length c]) (hs:Sl H encL 8 p L) (hn:L.length<2 ^ 30) (d:lim<=H.length)
  (k:∀H' q cap,Chg [] H H'->Own (H.length+3) H' encL 8 q cap L->Q (.slice q L.length cap) H') :
  NQ E false lim 132 [Vz,.func (.func 103) #[] #[Vp Bx]] H Q:=by
 refine QN (by decide) Oe7 rfl ?_;rw [Ogj,Oa6];have b:(H++[Vc [Value.slice none 0 0]]).length=H.length+1:=by simp
 simp only [n132,SB,seval,NF,NL,NG,place,NB];rw [b];refine Nsa hB hs hn d rfl fun H' q cap i h h2 hd hl=>?_
 have f:=zc h2;have g:=fun X=>(OD.refl.app (X:=X)).get' hd (by omega)
 show PT E Nkv lim (.inBlock 0::.code _::.code .retM::.mark (H.length+1)::[]) _ _ _;simp only [n132,Oec,f,g,show lim<=H.length+1 by omega,SB,seval,NL,NC];have hm:Mut (H'++[]) ((H'++[]).set (H.length+1) .dead) (H.length+1):=⟨by simp,fun j l=>QC l⟩
 exact k _ _ _ (i.app.mut hm (.inr (by omega))) ((h.app []).mut hm fun a e=>by have:=(h.block e).1;omega)
theorem Nrw [OA] {lim Bx:Nat} {p:Option Addr} (hB:NE H Bx=.cells o [.slice p L.length c]) (hs:Sl H encL 8 p L) (hn:L.length<2 ^ 30) (a:lim<=H.length)
  (e:∀H' q cap,Chg [] H H'->Own (H.length+3) H' encL 8 q cap L->Q (.slice q L.length cap) H') :
  NQ E false lim 101 [.func (.func 103) #[] #[Vp Bx]] H Q:=by
 refine QN (by decide) Ofx rfl ?_;rw [Og9,Obo];simp only [n101,SB,seval,NF,NL,reduceCtorEq,NG];rw [Na];refine Nr9 hB hs hn a fun H' q cap b d=>?_
 refine NJ ?_;simp only [n101,Oek,SB,seval,NL,NC];exact e _ _ _ b.app (d.app _)
end Go.Proofs.YtkppjkkkdpcgiaaGreat.Fn



namespace Go.Proofs.YtkppjkkkdpcgiaaGreat.Fn
open Go.AM Go.AM.Sym Go.Scan
variable {Q:Value->NA->Prop} {r:List Value} {last m:Mk} {H G G':NA} {fr0:Nat->Value} {D M:List Mk} {L Y B1 R c B2 cap st:Nat} {a n b sc:Int} {κ ν:Type} {mp o1 o2:Bool} {l:List Int} {es:List (κ×ν)} {kv:κ->Value} {vv:ν->Value}
theorem N1x [OA] {lim:Nat}:NQ E mp lim 104 [Vi n] H Q=Q (.bool false) H:=by
 refine pc (by decide) Ofv rfl rfl ?_;rw [Og7,Obm];simp only [n104,Oei,SB,seval,NL,NH,reduceCtorEq,NG,NC]
theorem Nv3 [OA] {lim:Nat}:NQ E mp lim 156 [.int .u8 n] H Q=Q (.bool false) H:=by
 refine pc (by decide) Oev rfl rfl ?_;rw [Of7,c156];simp only [n156,Od6,SB,seval,NL,NH,reduceCtorEq,NG,NC]
def Nn8 (a b:Int):Int:=if a<b then -1 else if b<a then 1 else 0
theorem Nrx [OA] {lim:Nat}:NQ E mp lim 67 [Vi a,Vi b] H Q=Q (Vi (Nn8 a b)) H:=by
 refine pc (by decide) rfl rfl rfl ?_;rw [b67,c67];simp only [n67,N1x,SB,seval,NF,NL,NH,reduceCtorEq,NG]
 repeat' ((first | refine Xl (fun c=>?_) (fun c=>?_) | refine XE (fun c=>?_) (fun c=>?_) | refine Xm (fun c=>?_) (fun c=>?_) | refine XF (fun c=>?_) (fun c=>?_))<;>(try simp only [c,n67,SB,Nat.reduceLT,NL,Nat.reduceEqDiff,NH,reduceCtorEq,NG,NC]))
 all_goals simp [Nn8, *]
theorem N63 [OA] {lim:Nat}:NQ E mp lim 131 [.int .u8 a,.int .u8 b] H Q=Q (Vi (Nn8 a b)) H:=by
 refine pc (by decide) Oe8 rfl rfl ?_;rw [Ogk,c131];simp only [n131,Nv3,SB,seval,NF,NL,NH,reduceCtorEq,NG]
 repeat' ((first | refine Xl (fun c=>?_) (fun c=>?_) | refine XE (fun c=>?_) (fun c=>?_) | refine Xm (fun c=>?_) (fun c=>?_) | refine XF (fun c=>?_) (fun c=>?_))<;>(try simp only [c,n131,Oed,SB,Nat.reduceLT,NL,Nat.reduceEqDiff,NH,reduceCtorEq,NG,NC]))
 all_goals simp [Nn8, *]
def orL:List Int->Int
 | []=>0
 | x::l=>if x≠0 then x else orL l
theorem Nzb {i:Nat} (h:i<l.length):orL (l.drop i)=if gt l i≠0 then gt l i else orL (l.drop (i+1)):=by
 rw [Oy h,orL,OQ h]
theorem Ocz [OA] (mp:Bool) (lim:Nat) {p:Option Addr} (hs:Sl H encI 1 p l) (hn:l.length<2 ^ 62) :
  NQ E mp lim 125 [.slice p l.length cap] H Q=Q (Vi (orL l)) H:=by
 refine pc (by decide) Ofb rfl rfl ?_;rw [Ogn,Oa8];simp only [n125,SB,seval,NL,reduceCtorEq,NG];refine NP (fun i=>l.length-i) (fun i fr G=>i<=l.length/\fr 6=.slice p l.length cap/\fr 7=Vi l.length/\fr 8=Vi i/\fr 3=Vi 0/\Sl G encI 1 p l/\
  orL l=orL (l.drop i)) 0 ⟨Np _,rfl,rfl,by rfl,rfl,hs.app _,rfl⟩ ?_
 intro i fr G ⟨hi,o,g,h,f,j,d⟩ hN;rw [NU N1f.eq_1];refine NJ ?_;by_cases a:i<l.length
 ·have m:=(j.app []).loadCell0 (fun _=>rfl) a (by decide);have e:=fun c (k:IntKind) (H1:NA)=>j.idx (c:=c) (k:=k) (H1:=H1) a
  have n:IntKind.i64.wrap ((i:Int)+1)=((i+1:Nat):Int):=OC (by omega);rw [Nzb a] at d;simp only [n125,o,g,h,f,a,e,m,encI,SB,seval,NL,NH]
  repeat' ((first | refine Xl (fun b=>?_) (fun b=>?_) | refine XE (fun b=>?_) (fun b=>?_) | refine Xm (fun b=>?_) (fun b=>?_) | refine XF (fun b=>?_) (fun b=>?_))<;>(try simp only [b,n125,Och,h,n,SB,Nat.reduceLT,NL,Nat.reduceEqDiff,NH,NC]))
  ·rw [d,Nl b]
  ·refine hN (i+1) _ _ ⟨by omega,o,g,rfl,f,j.app _, ?_⟩ (by omega);rw [d,Ng b]
 ·obtain rfl:i=l.length:=by omega
  rw [Qk,orL] at d;simp only [n125,Och,g,h,f,a,d,SB,seval,NL,NH,NC]
def M4:List Value->List Int
 | .int _ a::r=>a::M4 r
 | _=>[]
def Nbm:List Value->Bool
 | .int .i64 _::r=>Nbm r
 | []=>true
 | _=>false
theorem Zb {j:IntKind}:M4 (.int j a::r)=a::M4 r:=rfl
theorem Nfc:M4 []=[]:=rfl
theorem Nci:Nbm (Vi a::r)=Nbm r:=id rfl
theorem Nez:Nbm []=true:=id rfl
theorem Nii:∀c:List Value,Nbm c=true->c=(M4 c).flatMap encI
 | [],_=>rfl
 | .int .i64 a::r,h=>by
   rw [Zb,Ol,<-Nii r h];rfl
theorem Nza [OA] {lim b n:Nat} (h1:isCells (NE H b)=true) (h2:Nbm (cellsOf (NE H b))=true) (a:(M4 (cellsOf (NE H b))).length=n) (c:n<2 ^ 62) :
  NQ E mp lim 125 [.slice (Sa b) n cap] H Q=Q (Vi (orL (M4 (cellsOf (NE H b))))) H:=by
 subst a;rw [Ocz mp lim (Sl.lit (fun _=>rfl) h1 (Nii _ h2)) c]
theorem Nia {x y:List Int}:RX (a::x) (b::y)=if Nn8 a b≠0 then Nn8 a b else RX x y:=by
 rw [RX];unfold Nn8;by_cases h1:a<b
 ·simp [h1]
 ·by_cases h2:b<a
  ·simp [h1,h2]
  ·simp [h1,h2]
theorem Nm4:RX [] []=0:=rfl
theorem N22 [OA] {mp:Bool} {lim:Nat} {a b:Mk} {H:NA} {Q:Value->NA->Prop}:NQ E mp lim 124 [.agg (PY a).toArray,.agg (PY b).toArray] H Q=Q (Vi (RX (Si a) (Si b))) H:=by
 refine pc (by decide) Odm rfl rfl ?_;rw [Ogo,c124];simp only [n124,Oee,PY,Nrx,Nza,ZY,Me,Zb,Nfc,Nci,Nez,Nat.reducePow,SB,seval,NF,NL,NG,place,NB,NC];simp only [Si,Nia,Nm4,orL]
theorem N23 [OA] {mp:Bool} {lim:Nat} {a b:Ev} {H:NA} {Q:Value->NA->Prop}:NQ E mp lim 96 [.agg (encE a).toArray,.agg (encE b).toArray] H Q=Q (Vi (RX (QQ a) (QQ b))) H:=by
 refine pc (by decide) rfl rfl rfl ?_;rw [b96,c96];simp only [n96,encE,Nrx,N63,Nza,ZY,Me,Zb,Nfc,Nci,Nez,Nat.reducePow,SB,seval,NF,NL,NG,place,NB,NC];simp only [QQ,Nia,Nm4,orL]
theorem MU [OA] {lim:Nat} {a b:Mk}:NQ E mp lim 127 [.agg (PY a).toArray,.agg (PY b).toArray] H Q=Q (.bool (decide (Rs a b))) H:=by
 refine pc (by decide) Ofa rfl rfl ?_;rw [Ogm,c127];unfold Rs;by_cases h1:a.scanner=b.scanner
 ·simp only [n127,Ocg,PY,Nh h1,decide_true,Rh,SB,seval,NL,NH,NG,place,NB,NC]
 ·simp only [n127,Ocg,PY,Nc h1,decide_false,false_and,SB,seval,NL,NH,NG,place,NB,NC]
theorem N2x (h:0<b):a / b=if Int.tmod a b<0 then Int.tdiv a b-1 else Int.tdiv a b:=by
 have h1:=Int.mul_tdiv_add_tmod a b;by_cases d:0<=a
 ·rw [Ng (by have:=Int.tmod_nonneg b d;omega),O5 d]
 ·have hm:Int.tmod a b<=0:=by
   have:=Int.tmod_nonneg b (a:=-a) (by omega);rw [Int.neg_tmod] at this;omega
  have e:-b<Int.tmod a b:=by
   have:=Int.tmod_lt_of_pos (-a) h;rw [Int.neg_tmod] at this;omega
  by_cases c:Int.tmod a b<0
  ·rw [Nl c];exact ((Int.ediv_emod_unique (a:=a) (r:=Int.tmod a b+b) (q:=Int.tdiv a b-1) h).mpr ⟨by rw [Int.mul_sub,Int.mul_one];omega,by omega,by omega⟩).1
  ·rw [Ng c];exact ((Int.ediv_emod_unique (a:=a) (r:=Int.tmod a b) (q:=Int.tdiv a b) h).mpr ⟨by omega,by omega,by omega⟩).1
theorem Oaq [OA] {lim:Nat} (h:0<b) (h1:-2 ^ 62<=a) (h2:a<=2 ^ 62):NQ E mp lim 145 [Vi a,Vi b] H Q=Q (Vi (a / b)) H:=by
 refine pc (by decide) Oew rfl rfl ?_;rw [Of8,c145];have d:-2 ^ 62<=Int.tdiv a b/\Int.tdiv a b<=2 ^ 62:=by
  have:=Int.natAbs_tdiv_le_natAbs a b;omega
 have c:¬b=0:=by omega
 have e:=N2x (a:=a) h;have w1:IntKind.i64.wrap (Int.tdiv a b)=Int.tdiv a b:=NR (by omega) (by omega);have w2:IntKind.i64.wrap (Int.tdiv a b-1)=Int.tdiv a b-1:=NR (by omega) (by omega);have j:IntKind.i64.wrap (Int.tmod a b)=Int.tmod a b:=by
  have f:=Int.tmod_lt_of_pos a h;have g:=Int.natAbs_tmod a b;have i:a.natAbs % b.natAbs<=a.natAbs:=Nat.mod_le _ _;exact NR (by omega) (by omega)
 by_cases hm:Int.tmod a b<0
 ·rw [Nl hm] at e;simp only [n145,Ocd,Nc c,w1,w2,Nh hm,e,SB,seval,NL,NH,reduceCtorEq,NG,NC]
 ·rw [Ng hm] at e;simp only [n145,Ocd,Nc c,w1,Nc hm,e,SB,seval,NL,NH,reduceCtorEq,NG,NC]
theorem N5q [OA] {lim i:Nat} {p:Option Addr} (h1:NE H B1=.cells o1 [.slice p M.length c]) (h2:NE H B2=.cells o2 [Vi sc]) (hs:Sl H PY 3 p M) (hi:i<M.length) :
  NQ E mp lim 171 [Vi i,Vp B1,Vp B2] H Q=Q (.bool (decide (sc<=(gt M i).scanner))) H:=by
 refine pc (by decide) Oep rfl rfl ?_;rw [Of1,c171];have d:=zc h1;have e:=zc h2;have b:=fun X=>(hs.app X).loadCell (fun _=>rfl) hi (show 0<3 by decide)
 have a:=fun c (k:IntKind) (H1:NA)=>hs.idx (c:=c) (k:=k) (H1:=H1) hi
 simp only [n171,Od3,d,e,b,a,Xf,SB,Nat.reduceLT,NL,Nat.reduceEqDiff,NH,reduceCtorEq,NG,NC]
theorem Ob2 {x:Int}:IntKind.u64.wrap x=x % 2 ^ 64:=by
 simp only [IntKind.wrap,IntKind.bits,IntKind.signed];simp
theorem Nuc [OA] {lim f:Nat} {p:Option Addr} (h1:NE H B1=.cells o1 [.slice p M.length c]) (h2:NE H B2=.cells o2 [Vi sc]) (hs:Sl H PY 3 p M) (hn:M.length<2 ^ 40)
  (r:f<=M.length) (l:∀i,i<f->(gt M i).scanner<sc) (k:∀i,f<=i->i<M.length->sc<=(gt M i).scanner) :
  NQ E mp lim 170 [Vi M.length,.func (.func 171) #[] #[Vp B1,Vp B2]] H Q=Q (Vi f) H:=by
 refine pc (by decide) Oeq rfl rfl ?_;rw [Of2,Oaw];simp only [n170,SB,Nat.reduceLT,NL,Nat.reduceEqDiff,reduceCtorEq,NG];refine NP (fun s:Nat×Nat=>s.2-s.1) (fun s fr G=>s.1<=f/\f<=s.2/\s.2<=M.length/\fr 1=.func (.func 171) #[] #[Vp B1,Vp B2]/\fr 5=Vi s.1/\fr 6=Vi s.2/\OD H G) (0,M.length)
  ⟨Np _,r,Nf _,rfl,by rfl,rfl,OD.refl.app⟩ ?_
 rintro ⟨i,j⟩ fr G ⟨k1,k2,k3,h,b,d,e⟩ hN;simp only at k1 k2 k3 b d;rw [NU N05.eq_1];refine NJ ?_;have u:=fun X=>(e.app (X:=X)).cells h1
 have v:=fun X=>(e.app (X:=X)).cells h2
 have w:=fun X=>(e.app (X:=X)).sl hs
 have m:IntKind.i64.wrap ((i:Int)+(j:Int))=(i:Int)+(j:Int):=NR (by omega) (by omega);have o:IntKind.u64.wrap ((i:Int)+(j:Int))=(i:Int)+(j:Int):=by rw [Ob2];omega
 have n:IntKind.i64.wrap (((i:Int)+(j:Int)).fdiv (2 ^ min (Int.toNat 1) IntKind.u64.bits))=(((i+j) / 2:Nat):Int):=by
  rw [show (2:Int) ^ min (Int.toNat 1) IntKind.u64.bits=2 from by decide,Rl _ (by decide)];exact (NR (by omega) (by omega)).trans (by omega)
 have wd:IntKind.i64.wrap ((((i+j) / 2:Nat):Int)+1)=(((i+j) / 2+1:Nat):Int):=OC (by omega);by_cases a:i<j
 ·have ho:=fun (H':NA) (h1:_) (h2:_) (q:_) (lim:Nat) (Q:Value->NA->Prop)=>N5q (mp:=false) (lim:=lim) (H:=H') (o1:=o1) (o2:=o2) (B1:=B1) (B2:=B2) (c:=c) (p:=p) (sc:=sc) (Q:=Q) (M:=M) (i:=(i+j) / 2) h1 h2 q (by omega)
  have g:=fun (X:NA)=>ho (G++X) (u X) (v X) (w X)
  by_cases t:(i+j) / 2<f
  ·have hl:=l _ t;have hd:decide (sc<=(gt M ((i+j) / 2)).scanner)=false:=Nw (by omega);simp only [n170,h,b,d,a,m,o,n,wd,g,hd,SB,Nat.reduceLT,NF,NL,Nat.reduceEqDiff,NH,RN,Int.reduceLT];refine hN ((i+j) / 2+1,j) _ _ ⟨by omega,k2,k3,h,rfl,d,e.app⟩ (by simp only;omega)
  ·have hl:=k ((i+j) / 2) (by omega) (by omega);have hd:decide (sc<=(gt M ((i+j) / 2)).scanner)=true:=Nj hl;simp only [n170,h,b,d,a,m,o,n,g,hd,SB,Nat.reduceLT,NF,NL,Nat.reduceEqDiff,NH,RN,Int.reduceLT];refine hN (i,(i+j) / 2) _ _ ⟨k1,by simp only;omega,by simp only;omega,h,b,rfl,e.app⟩ (by simp only;omega)
 ·obtain rfl:i=f:=by omega
  simp only [n170,Od4,b,d,a,SB,Nat.reduceLT,NL,Nat.reduceEqDiff,NH,NC]
def Ngx (sc:Int) (D:List Mk) (i:Nat):List Mk:=(D.drop i).takeWhile fun m=>m.scanner == sc
theorem Nyw {i:Nat} (h:i<D.length) (hs:(gt D i).scanner=sc):Ngx sc D i=gt D i::Ngx sc D (i+1):=by
 unfold Ngx;rw [Oy h,<-OQ h,List.takeWhile_cons_of_pos (by simpa using hs)]
theorem N44 {i:Nat} (h:i<D.length) (hs:¬(gt D i).scanner=sc):Ngx sc D i=[]:=by
 unfold Ngx;rw [Oy h,<-OQ h,List.takeWhile_cons_of_neg (by simpa using hs)]
theorem Nyx:Ngx sc D D.length=[]:=by
 unfold Ngx;rw [Qk];rfl
def W9 (sc:Int) (M:List Mk):Nat:=(M.takeWhile fun m=>decide (m.scanner<sc)).length
def N7g (M:List Mk):Prop:=M.Pairwise fun a b=>a.scanner<=b.scanner
theorem N43 (h:M.Pairwise VW):N7g M:=h.imp fun {a b} q=>by unfold VW at q;omega
theorem Nao {sc:Int}:∀{M:List Mk},N7g M->W9 sc M<=M.length/\(∀i,i<W9 sc M->(gt M i).scanner<sc)/\(∀i,W9 sc M<=i->i<M.length->sc<=(gt M i).scanner)/\Ngx sc (M.drop (W9 sc M)) 0=ofN M sc
 | [],_=>⟨Nf _,fun i h=>absurd h (by simp [W9]),fun i _ h=>absurd h (by simp),rfl⟩
 | m::M,h=>by
   obtain ⟨h1,h2⟩:=List.pairwise_cons.mp h;obtain ⟨j,d,f,g⟩:=Nao (sc:=sc) h2;by_cases hm:m.scanner<sc
   ·have e:W9 sc (m::M)=W9 sc M+1:=by
     unfold W9;rw [List.takeWhile_cons_of_pos (by simpa using hm),Nm]
    rw [e];refine ⟨by simp only [Nm];omega,fun i hi=>?_,fun i hi hl=>?_, ?_⟩
    ·cases i with
     | zero=>rw [Nal];exact hm
     | succ i=>rw [QL];exact d i (by omega)
    ·cases i with
     | zero=>omega
     | succ i=>rw [QL];exact f i (by omega) (by simpa using hl)
    ·rw [List.drop_succ_cons,g];unfold ofN;rw [Ov (by simp;omega)]
   ·have e:W9 sc (m::M)=0:=by
     unfold W9;rw [List.takeWhile_cons_of_neg (by simpa using hm)];rfl
    rw [e];refine ⟨Np _,fun i hi=>absurd hi (Nat.not_lt_zero i),fun i _ hl=>?_, ?_⟩
    ·cases i with
     | zero=>rw [Nal];omega
     | succ i=>
       rw [QL];have b:i<M.length:=by simpa using hl
       have:=h1 _ (PM b);omega
    ·rw [On];unfold Ngx ofN;rw [On];clear j d f g e;have key:∀L:List Mk,N7g L->(∀x∈L,sc<=x.scanner)->(L.takeWhile fun m=>m.scanner == sc)=L.filter fun m=>m.scanner == sc:=by
      intro L
      induction L with
      | nil=>intros;rfl
      | cons x L ih=>
        intro hL a;obtain ⟨k1,k2⟩:=List.pairwise_cons.mp hL;by_cases hx:x.scanner=sc
        ·rw [List.takeWhile_cons_of_pos (by simpa using hx),Ou (by simpa using hx),ih k2 fun y c=>a y (Nr _ c)]
        ·rw [List.takeWhile_cons_of_neg (by simpa using hx),Ov (by simpa using hx)];symm;rw [List.filter_eq_nil_iff];intro y c;have a1:=k1 y c;have a2:=a x Nu;simp;omega
     exact key _ h fun x hx=>by
      rcases Ns.mp hx with rfl | hx
      ·omega
      ·have:=h1 x hx;omega
theorem Oc2 [OA] {lim n:Nat} {p:Option Addr} :
  NQ E false lim 144 [.slice p n c,Vi sc] H Q=Q (.func (.func 169) #[] #[Vp H.length,Vp (H.length+1)]) (H++[Vc [.slice p n c],Vc [Vi sc]]):=by
 refine NQ.eq ?_;refine QN (by decide) Oex rfl ?_;rw [Of9,Oa0];simp only [n144,Od7,SB,seval,NL,NG,place,NB,NC]
def Ni6 (K:Nat->Prop) (H H':NA):Prop:=H.length<=H'.length/\∀j,K j->NE H' j=NE H j
theorem Ni6.sl {α:Type} {K:Nat->Prop} {H':NA} {enc:α->List Value} {e:Nat} {p:Option Addr} {l:List α} (h:Ni6 K H H') (hs:Sl H enc e p l) (hp:∀a,p=some a->K a.block):Sl H' enc e p l:=by
 cases p with
 | none=>exact hs
 | some a=>
   refine ⟨hs.1,fun hl=>?_⟩;obtain ⟨ro,c,h1,h2⟩:=hs.2 hl;exact ⟨ro,c,(h.2 _ (hp a rfl)).trans h1,h2⟩
theorem N5p [OA] {lim:Nat} {p:Option Addr} (I:List Mk->NA->Prop) (K:Nat->Prop)
  (w:∀rest H H',I rest H->Chg [] H H'->I rest H')
  (o:∀m rest G,m∈M->m.scanner=sc->H.length<=G.length->I (m::rest) G->YB E false lim Y [.agg (PY m).toArray] G fun v H'=>Ni6 K G H'/\(v=.bool true/\I rest H'\/v=.bool false/\∀X,Q (.tuple #[]) (H'++X)))
  (h1:NE H B1=Vc [.slice p M.length c]) (h2:NE H B2=Vc [Vi sc]) (hs:Sl H PY 3 p M) (hc:WU 3 c M.length) (hn:M.length<2 ^ 40) (hM:N7g M) (hl:lim<=H.length)
  (C:K B2) (D:M≠[]->∀a,p=some a->K a.block) (W:I (ofN M sc) H) (P:∀H',I [] H'->Q (.tuple #[]) H') :
  NQ E false lim 169 [.func (.yield Y) #[] #[],Vp B1,Vp B2] H Q:=by
 refine QN (by decide) Oer rfl ?_;rw [Of3,Oax];obtain ⟨f1,f2,f3,f4⟩:=Nao (sc:=sc) hM;have S:=zc h1;have T:=zc h2;have q3:=fun X=>(OD.refl.app (H:=H) (X:=X)).sl hs
 have J:=fun (X:NA) (lim:Nat) (Q:Value->NA->Prop)=>Nuc (mp:=false) (lim:=lim) (Q:=Q) (sc:=sc) (S X) (T X) (q3 X) hn f1 f2 f3
 generalize aa:W9 sc M=f at *;obtain ⟨q,cq,e1,U,m0,m1,_⟩:=Vj (vlo:=some (Vi f)) (vhi:=none) (lo:=f) (hi:=M.length) hs hc OY (fun cap R=>by rw [Nkq (by omega) (by omega),N1]) f1 (Nf _) (by omega);rw [N9] at U;have O:(M.drop f).length=M.length-f:=O2;simp only [n169,S,J,e1,SB,seval,NF,NL,NG];refine NP (fun i=>M.length-f-i) (fun i fr G=>i<=M.length-f/\fr 0=.func (.yield Y) #[] #[]/\fr 2=Vp B2/\fr 13=.slice q (M.length-f) cq/\fr 14=Vi ((M.length-f:Nat):Int)/\fr 15=Vi i/\
  NE G B2=Vc [Vi sc]/\Sl G PY 3 q (M.drop f)/\H.length<=G.length/\I (Ngx sc (M.drop f) i) G) 0
  ⟨Np _,rfl,rfl,rfl,rfl,by rfl,T _,U.app _,by simp,by rw [f4];exact w _ _ _ W (Chg.refl.app)⟩ ?_
 rintro i fr G ⟨hi,N,A,s,l,n,V,B,gL,u⟩ hN;rw [NU N06.eq_1];refine NJ ?_;by_cases g:i<M.length-f
 ·have d:i<(M.drop f).length:=by omega
  have t:=zc V;have y:=fun X=>(B.app X).loadCells OY d
  have r:∀(c:Nat) (k:IntKind) (H1:NA),Vq 3 (.slice q (M.length-f) c) (.int k (i:Int)) H1=some (.pointer (some (Vs q 3 i)),H1):=fun c k H1=>by
   rw [<-O];exact B.idx d
  have L:IntKind.i64.wrap ((i:Int)+1)=((i+1:Nat):Int):=OC (by omega);have x:lim<=G.length:=by omega
  have z:gt (M.drop f) i∈M:=List.mem_of_mem_drop (PM d);by_cases j:(gt (M.drop f) i).scanner=sc
  ·rw [Nyw d j] at u;simp only [n169,N,A,s,l,n,t,ND,g,y,r,x,Nh j,PY,decide_false,decide_true,SB,seval,NF,NL,NH,reduceCtorEq,place,NB];refine (o _ _ _ z j (by simp;omega) (w _ _ _ u Chg.refl.app)).mono fun v H' hv=>?_
   obtain ⟨hk,⟨rfl,F⟩ | ⟨rfl,hq⟩⟩:=hv
   ·refine NJ ?_;simp only [n169,n,L,SB,seval,NL,NH,RN];refine hN (i+1) _ _ ⟨by omega,N,A,s,l,rfl, ?_, ?_, ?_, ?_⟩ (by omega)
    ·exact (OD.refl.app).cells ((hk.2 _ C).trans (t _))
    ·exact (hk.sl (B.app _) fun a Z=>by
      obtain ⟨b,hb,e⟩:=m1 a Z;rw [e];exact D (fun h=>by rw [h] at g;simp at g) b hb).app _
    ·have:=hk.1;simp at this⊢;omega
    ·exact w _ _ _ F Chg.refl.app
   ·refine NJ ?_;simp only [n169,N9p,SB,seval,NL,RN];exact hq _
  ·rw [N44 d j] at u;simp only [n169,N9p,A,s,l,n,t,ND,g,y,r,x,Nc j,PY,not_false_eq_true,decide_true,SB,seval,NL,NH,place,NB];exact P _ (w _ _ _ u Chg.refl.app)
 ·obtain rfl:i=M.length-f:=by omega
  rw [<-O,Nyx] at u;simp only [n169,N9p,l,n,ND,g,SB,seval,NL,NH];exact P _ (w _ _ _ u Chg.refl.app)
structure OSt (L:Nat) (fr0:Nat->Value) (t r:Int) (last:Mk) (st:Nat) (pd:Option ACode) (G:NA):Prop where
 bt:NE G L=Vc [Vi t]
 br:NE G (L+1)=Vc [Vi r]
 bl:NE G (L+2)=Vc (PY last)
 dfr:NE G (L+5)=.dfr
 loop:NE G (L+6)=.loop ⟨st,pd,fr0,46,[12],V7,V5⟩
 len:L+7<=G.length
theorem OSt.chg {t r:Int} {pd:Option ACode} (h:OSt L fr0 t r last st pd G) (a:Chg [] G G'):OSt L fr0 t r last st pd G':=by
 have len:=h.len;exact ⟨a.cells h.bt (by simp),a.cells h.br (by simp),a.cells h.bl (by simp),a.get h.dfr (by omega) (by simp),a.get h.loop (by omega) (by simp),by have:=a.len;omega⟩
def No0 (t:Int) (last:Mk) (rest:List Mk):Prop:=(last=SE\/X7 last/\last.at'<t)/\(∀m∈rest,X7 m/\(last=SE\/last.at'<m.at'))/\N4p rest
theorem No0.next {t:Int} {rest:List Mk} (h:No0 t last (m::rest)) (hm:m.at'<t):No0 t m rest:=by
 obtain ⟨h1,h2,b⟩:=h;obtain ⟨k1,k2⟩:=List.pairwise_cons.mp b;exact ⟨.inr ⟨(h2 m Nu).1,hm⟩,fun x a=>⟨(h2 x (Nr _ a)).1,.inr (k1 x a)⟩,k2⟩
theorem N2r {a b:Mk}:(a.scanner=b.scanner/\a.at'=b.at'/\a.off=b.off)↔a=b:=by
 obtain ⟨a1,a2,c⟩:=a;obtain ⟨b1,b2,b3⟩:=b;simp
theorem N2s {a b:Mk}:aEq (.agg [.int .i64,.int .i64,.int .i64]) (.agg (PY a).toArray) (.agg (PY b).toArray)=some (decide (a=b)):=by
 simp only [aEq,PY,PH,SQ,and_self,if_true];congr 1;rw [Qt,decide_eq_true_iff,<-N2r];simp
theorem Nk3 {a:Mk}:aEq (.agg [.int .i64,.int .i64,.int .i64]) (.agg (PY a).toArray) (.agg #[Vi 0,Vi 0,Vi 0])=some (decide (a=SE)):=N2s (b:=SE)
theorem YO {fr:Nat->Value} {p:Nat} {v:Value}:Tx fr [p] [v]=upd fr p v:=rfl
theorem Nh1 {A B:Int} (h1:-A<=a) (h2:a<=A) (c:0<=b) (d:b<=B):-(A*B)<=a*b/\a*b<=A*B:=by
 have e:0<=A:=by omega
 constructor
 ·have e1:-A*b<=a*b:=Int.mul_le_mul_of_nonneg_right h1 c;have e2:A*b<=A*B:=Int.mul_le_mul_of_nonneg_left d e;rw [Int.neg_mul] at e1;omega
 ·exact Int.le_trans (Int.mul_le_mul_of_nonneg_right h2 c) (Int.mul_le_mul_of_nonneg_left d e)
theorem Nuh [OA] {lim:Nat} {t r:Int} {rest:List Mk} (hl:lim<=L) (f5:fr0 5=Vp L) (D:fr0 6=Vp (L+1)) (s:fr0 7=Vp (L+2))
  (h:OSt L fr0 t r last 0 none G) (K:No0 t last (m::rest)) (M:0<=t/\t<=UE) :
  YB E false lim (L+6) [.agg (PY m).toArray] G fun v H'=>Ni6 (fun j=>j<L\/j=L+4) G H'/\
   (v=.bool true/\m.at'<t/\OSt L fr0 t r m 0 none H'\/v=.bool false/\OSt L fr0 t (Xv t last (m::rest)) last 2 (some .retM) H'):=by
 have len:=h.len;rw [XK h.loop (by omega) rfl rfl,YO];obtain ⟨G1,e1,h1,n⟩:=OO (G:=G) (R:=L+6) (by omega) (.loop ⟨1,none,fr0,46,[12],V7,V5⟩);have J:=fun X=>(OD.refl.app (X:=X)).get' h.loop (by omega)
 have y:lim<=G.length:=by omega
 refine NJ ?_;rw [NU V7.eq_1];simp only [OY,NI,y,J,e1,show lim<=L+6 by omega,SB,seval,NL,place,NB];have bt:=zc (n.cells h.bt (by omega:L≠L+6));have br:=zc (n.cells h.br (by omega:L+1≠L+6));have bl:=zc (n.cells h.bl (by omega:L+2≠L+6));have z:G1.length=G.length:=n.len;have q:∀Y,NE (G1++Vc (PY m)::Y) G.length=Vc (PY m):=fun Y=>by rw [<-z];exact NN
 rw [NU V5.eq_1];by_cases hm:m.at'<t
 ·obtain ⟨G2,e2,h2,e⟩:=OO (G:=G1) (R:=L+2) (by omega) (Vc (PY m));have k:=e.alive h1 (by omega:L+6≠L+2);have i:=fun X=>(OD.refl.app (X:=X)).get' k (by have:=e.len;omega)
  obtain ⟨c,e3,o,f⟩:=OO (G:=G2) (R:=L+6) (by have:=e.len;omega) (.loop ⟨0,none,fr0,46,[12],V7,V5⟩);simp only [f5,s,bt,bl,q,OY,Xe,NK,NI,hm,e2,i,e3,show lim<=L+6 by omega,show lim<=L+2 by omega,SB,seval,NL,NH,NB];have O:c.length=G.length:=by rw [f.len,e.len,z]
  have old:∀X j,j<G.length->j≠L+6->j≠L+2->NE (c++X) j=NE G j:=fun X j P p C=>by
   rw [NS (by omega),f.other j p,e.other j C,n.other j p]
  refine ⟨⟨by simp;omega,fun j x=>old _ j (by omega) (by omega) (by omega)⟩,.inl ⟨(old _ L (by omega) (by omega) (by omega)).trans h.bt,(old _ _ (by omega) (by omega) (by omega)).trans h.br, ?_,(old _ _ (by omega) (by omega) (by omega)).trans h.dfr, ?_,by simp;omega⟩⟩
  ·rw [NS (by omega),f.other _ (by omega)];exact h2
  ·rw [NS (by omega)];exact o
 ·have fin:∀(v:Int) (G2 c:NA) (X:NA),(∀j,j≠L+1->NE G2 j=NE G1 j)->G2.length=G1.length->NE G2 (L+1)=Vc [Vi v]->Mut G2 c (L+6)->NE c (L+6)=.loop ⟨2,some .retM,fr0,46,[12],V7,V5⟩->
    Ni6 (fun j=>j<L\/j=L+4) G (c++X)/\OSt L fr0 t v last 2 (some .retM) (c++X):=by
   intro v G2 c X o2 N h2 f o;have O:c.length=G.length:=by rw [f.len,N,z]
   have old:∀j,j<G.length->j≠L+6->j≠L+1->NE (c++X) j=NE G j:=fun j P p C=>by
    rw [NS (by omega),f.other j p,o2 j C,n.other j p]
   refine ⟨⟨by simp;omega,fun j x=>old j (by omega) (by omega) (by omega)⟩,⟨(old L (by omega) (by omega) (by omega)).trans h.bt, ?_,(old _ (by omega) (by omega) (by omega)).trans h.bl,(old _ (by omega) (by omega) (by omega)).trans h.dfr, ?_,by simp;omega⟩⟩
   ·rw [NS (by omega),f.other _ (by omega)];exact h2
   ·rw [NS (by omega)];exact o
  have key:∀v,∃G2,(∀X:NA,(G1++X).set (L+1) (Vc [Vi v])=G2++X)/\(∀X,NE (G2++X) (L+6)=.loop ⟨1,none,fr0,46,[12],V7,V5⟩)/\∃c,(∀X:NA,(G2++X).set (L+6) (.loop ⟨2,some .retM,fr0,46,[12],V7,V5⟩)=c++X)/\∀X,Ni6 (fun j=>j<L\/j=L+4) G (c++X)/\OSt L fr0 t v last 2 (some .retM) (c++X):=by
   intro v;obtain ⟨G2,e2,h2,e⟩:=OO (G:=G1) (R:=L+1) (by omega) (Vc [Vi v]);have k:=e.alive h1 (by omega:L+6≠L+1);have i:=fun X=>(OD.refl.app (X:=X)).get' k (by have:=e.len;omega)
   obtain ⟨c,e3,o,f⟩:=OO (G:=G2) (R:=L+6) (by have:=e.len;omega) (.loop ⟨2,some .retM,fr0,46,[12],V7,V5⟩);exact ⟨G2,e2,i,c,e3,fun X=>fin v G2 c X (fun j x=>e.other j x) e.len h2 f o⟩
  have w:Xv t last (m::rest)=if last=SE then m.off else last.off+(m.off-last.off)*(t-last.at') / (m.at'-last.at'):=by
   rw [Xv,Ng (by omega)]
  rw [w];by_cases l:last=SE
  ·obtain ⟨G2,e2,i,c,e3,d⟩:=key m.off;rw [Nl l];have g:=Nj l;simp only [f5,D,s,bt,br,bl,q,OY,Xe,Zi,NK,hm,e2,i,e3,Nk3,g,show lim<=L+6 by omega,show lim<=L+1 by omega,SB,seval,NL,NH,NB];exact ⟨(d _).1,.inr (d _).2⟩
  ·rw [Ng l];have g:=Nw l;obtain ⟨F,I,V⟩:=K;obtain ⟨k1,k2⟩:=(F.resolve_left l)
   obtain ⟨k3,k4⟩:=I m Nu;have k4:=k4.resolve_left l;unfold X7 at k1 k3;unfold UE at k1 k3 M;have W:=Nh1 (a:=m.off-last.off) (b:=t-last.at') (A:=2103796798) (B:=1051898399) (by omega) (by omega) (by omega) (by omega);have hd:0<m.at'-last.at':=by omega
   have Z:-2 ^ 62<=(m.off-last.off)*(t-last.at') / (m.at'-last.at')/\(m.off-last.off)*(t-last.at') / (m.at'-last.at')<=2 ^ 62:=by
    constructor
    ·refine Int.le_ediv_of_mul_le hd ?_;have:-2 ^ 62*(m.at'-last.at')<=-2 ^ 62*1:=Int.mul_le_mul_of_nonpos_left (by decide) (by omega);omega
    ·refine Int.ediv_le_of_le_mul hd ?_;have:2 ^ 62*1<=2 ^ 62*(m.at'-last.at'):=Int.mul_le_mul_of_nonneg_left (by omega) (by decide);omega
   have w1:IntKind.i64.wrap (m.off-last.off)=m.off-last.off:=NR (by omega) (by omega);have w2:IntKind.i64.wrap (t-last.at')=t-last.at':=NR (by omega) (by omega);have S:IntKind.i64.wrap ((m.off-last.off)*(t-last.at'))=(m.off-last.off)*(t-last.at'):=NR (by omega) (by omega);have T:IntKind.i64.wrap (m.at'-last.at')=m.at'-last.at':=NR (by omega) (by omega);have U:IntKind.i64.wrap (last.off+(m.off-last.off)*(t-last.at') / (m.at'-last.at'))=last.off+(m.off-last.off)*(t-last.at') / (m.at'-last.at'):=NR (by omega) (by omega);have u:=fun (mp:Bool) (lim:Nat) (H:NA) (Q:Value->NA->Prop)=>Oaq (mp:=mp) (lim:=lim) (H:=H) (Q:=Q) (a:=(m.off-last.off)*(t-last.at')) hd (by omega) (by omega)
   obtain ⟨G2,e2,i,c,e3,d⟩:=key (last.off+(m.off-last.off)*(t-last.at') / (m.at'-last.at'));simp only [f5,D,s,bt,br,bl,q,OY,Xe,Zi,NK,hm,e2,i,e3,Nk3,g,w1,w2,S,T,U,u,show lim<=L+6 by omega,show lim<=L+1 by omega,SB,seval,NF,NL,NH,NB];exact ⟨(d _).1,.inr (d _).2⟩
theorem Nu9 [OA] {lim:Nat} {p:Option Addr} {t:Int} (hs:Sl H PY 3 p M) (hc:WU 3 c M.length) (hn:M.length<2 ^ 40) (hM:Wh M) (W:0<=t/\t<=UE) :
  NQ E mp lim 128 [.slice p M.length c,Vi sc,Vi t] H Q=Q (Vi (XW M sc t)) H:=by
 refine pc (by decide) Oe9 rfl rfl ?_;rw [Ogl,Oa7];have D:=fun (X:NA) (lim:Nat) (Q:Value->NA->Prop)=>Oc2 (lim:=lim) (c:=c) (n:=M.length) (p:=p) (sc:=sc) (H:=H++X) (Q:=Q)
 have key:∀fr0:Nat->Value,fr0 5=Vp H.length->fr0 6=Vp (H.length+1)->fr0 7=Vp (H.length+2)->
   NQ E false H.length 169 [.func (.yield (H.length+6)) #[] #[],Vp (H.length+3),Vp (H.length+4)]
   (H++[Vc [Value.int .i64 t],Vc [Value.int .i64 0],Vc [Value.int .i64 0,Value.int .i64 0,Value.int .i64 0],Vc [Value.slice p M.length c],Vc [Value.int .i64 sc],.dfr,.loop ⟨0,none,fr0,46,[12],V7,V5⟩])
   fun x L=>YF (NE L ((H++[Vc [Value.int .i64 t],Vc [Value.int .i64 0],Vc [Value.int .i64 0,Value.int .i64 0,Value.int .i64 0],Vc [Value.slice p M.length c],Vc [Value.int .i64 sc]]).length+1)) fun x=>PT E Noq H.length (YS x++([.inBlock 0,.code (.seq (ACode.ops [i 44 (AOp.fieldAddr 2 (Sym.t 7)),i 45 (AOp.load1 (Sym.t 44)),⟨none,none,AOp.store 1 (Sym.t 6) (Sym.t 45),none,[]⟩]) .retM),.code .retM]++[.mark (H++[Vc [Value.int .i64 t],Vc [Value.int .i64 0],Vc [Value.int .i64 0,Value.int .i64 0,Value.int .i64 0],Vc [Value.slice p M.length c],Vc [Value.int .i64 sc]]).length])) fr0 (L.set ((H++[Vc [Value.int .i64 t],Vc [Value.int .i64 0],Vc [Value.int .i64 0,Value.int .i64 0,Value.int .i64 0],Vc [Value.slice p M.length c],Vc [Value.int .i64 sc]]).length+1) .dead) fun v' _=>v'=Vi (XW M sc t):=by
  intro fr0 f5 A N;have hm:(H++[Vc [Value.int .i64 t],Vc [Value.int .i64 0],Vc [Value.int .i64 0,Value.int .i64 0,Value.int .i64 0],Vc [Value.slice p M.length c],Vc [Value.int .i64 sc]]).length=H.length+5:=by simp
  rw [hm];have w:ofN M sc ⊆ M:=fun m hm=>(O0.mp hm).1
  refine N5p (fun rest G=>∃r last,OSt H.length fr0 t r last 0 none G/\No0 t last rest/\Xv t last rest=XW M sc t) (fun j=>j<H.length\/j=H.length+4) ?_ ?_ (by rw [NY];rfl) (by rw [NY];rfl) (hs.app _) hc hn (N43 hM.2) (by simp) (.inr rfl) ?_ ?_ ?_
  ·rintro rest G G' ⟨r,last,k1,k2,k3⟩ S;exact ⟨r,last,k1.chg S,k2,k3⟩
  ·rintro m rest G U V O ⟨r,last,k1,k2,k3⟩;refine (Nuh (Nf _) f5 A N k1 k2 W).mono fun v H' F=>?_
   obtain ⟨hk,⟨rfl,B,q⟩ | ⟨rfl,q⟩⟩:=F
   ·refine ⟨hk,.inl ⟨rfl,r,m,q,k2.next B, ?_⟩⟩;rw [<-k3,Xv,Nl (by omega)]
   ·refine ⟨hk,.inr ⟨rfl,fun X=>?_⟩⟩;have o:OSt H.length fr0 t (Xv t last (m::rest)) last 2 (some .retM) (H'++X):=q.chg Chg.refl.app;rw [k3] at o;generalize H'++X=G2 at o;have len:=o.len;obtain ⟨f,e3,_,e⟩:=OO (G:=G2) (R:=H.length+6) (by omega) .dead;have s:=(OD.refl.app (X:=[])).get' (e.alive o.dfr (by omega)) (by have:=e.len;omega);obtain ⟨y,e4,_,I⟩:=OO (G:=f) (R:=H.length+5) (by have:=e.len;omega) .dead;have b:=e3 [];rw [Na] at b;have g:=(OD.refl.app (X:=[])).cells (I.cells (e.cells o.br (by omega)) (by omega));simp only [o.loop,b,SB,seval];have d:=Z4 (lim:=H.length) (i:=H.length+5) (l:=[]) s (by omega);have k:(f++[]).set (H.length+5) .dead=y++[]:=e4 [];rw [k,MR] at d;have z:([]:List Nat)++[H.length+5]=[H.length+5]:=rfl;show PT E Noq H.length (.code .retM::.inBlock 0::.code (.seq (ACode.ops [i 44 (AOp.fieldAddr 2 (Sym.t 7)),i 45 (AOp.load1 (Sym.t 44)),⟨none,none,AOp.store 1 (Sym.t 6) (Sym.t 45),none,[]⟩]) .retM)::.code .retM::.mark (H.length+5)::[]) fr0 (f++[]) fun v' _=>v'=Vi (XW M sc t)
    simp only [Ocf,z,d,A,g,SB,seval,NC]
  ·intro C a T;left;subst T;have:=hs.lt C;omega
  ·refine ⟨0,SE,⟨by rw [NN];rfl,by rw [NY];rfl,by rw [NY];rfl,by rw [NY];rfl,by rw [NY];rfl,by simp⟩,⟨.inl rfl,fun m hm=>⟨hM.1 m (w hm),.inl rfl⟩,Nqb hM.2⟩,rfl⟩
  ·rintro H' ⟨r,last,k1,k2,k3⟩;have len:=k1.len;obtain ⟨f,e3,_,e⟩:=OO (G:=H') (R:=H.length+6) (by omega) .dead;have b:=e3 [];rw [Na] at b;have Y:∀X,NE (f++X) (H.length+2)=Vc (PY last):=zc (e.cells k1.bl (by omega));have Z:∀X,NE (f++X) (H.length+1)=Vc [Vi r]:=zc (e.cells k1.br (by omega));have h:=e.alive k1.dfr (by omega:H.length+5≠H.length+6);obtain ⟨K,P,h5,J⟩:=OO (G:=f) (R:=H.length+1) (by have:=e.len;omega) (Vc [Vi last.off]);have u:=(OD.refl.app (X:=[])).get' (J.alive h (by omega)) (by have:=e.len;have:=J.len;omega);obtain ⟨y,e4,_,I⟩:=OO (G:=K) (R:=H.length+5) (by have:=e.len;have:=J.len;omega) .dead;have g:=(OD.refl.app (X:=[])).cells (I.cells h5 (by omega));have d:=Z4 (lim:=H.length) (i:=H.length+5) (l:=[]) u (by omega);have k:(K++[]).set (H.length+5) .dead=y++[]:=e4 [];rw [k,MR] at d;have z:([]:List Nat)++[H.length+5]=[H.length+5]:=rfl;have F:XW M sc t=last.off:=by rw [<-k3];rfl
   simp only [k1.loop,b,SB,seval];show PT E Noq H.length (.inBlock 0::.code (.seq (ACode.ops [i 44 (AOp.fieldAddr 2 (Sym.t 7)),i 45 (AOp.load1 (Sym.t 44)),⟨none,none,AOp.store 1 (Sym.t 6) (Sym.t 45),none,[]⟩]) .retM)::.code .retM::.mark (H.length+5)::[]) fr0 (f++[]) fun v' _=>v'=Vi (XW M sc t)
   simp only [n128,Ocf,z,A,N,Y,Z,Zi,P,d,g,F,show H.length<=H.length+1 by omega,SB,seval,NL,NB,NC]
 simp only [n128,D,SB,seval,NF,NL,reduceCtorEq,NG,place,NB];exact key _ rfl rfl rfl
theorem Ne0 {t:Int} (hM:Wh M):-UE<=XW M sc t/\XW M sc t<=UE:=by
 have a:(0:Int)<=UE:=by decide
 refine Ncj _ _ (Nqb hM.2) (fun m hm=>?_) (by show -UE<=0;omega) (by show (0:Int)<=UE;omega) (fun m _=>.inl rfl) (.inl rfl);have:=hM.1 m (O0.mp hm).1;unfold X7 at this;omega
theorem Nrt [OA] {lim:Nat} {p:Option Addr} {s:Ev} (hs:Sl H PY 3 p M) (hc:WU 3 c M.length) (hn:M.length<2 ^ 40) (hM:Wh M) (b:RA s) :
  NQ E mp lim 94 [.slice p M.length c,.agg (encN s).toArray] H Q=Q (Vi (TL M s)) H:=by
 have a:=b;unfold RA at a;have g:=Ne0 (sc:=s.scanner) (t:=s.at') hM;have ho:=fun (X:NA) (mp:Bool) (lim:Nat) (Q:Value->NA->Prop)=>Nu9 (mp:=mp) (lim:=lim) (Q:=Q) (sc:=s.scanner) (t:=s.at') ((OD.refl.app (X:=X)).sl hs) hc hn hM a.2.2.2.2.1
 have w1:IntKind.i64.wrap (s.at'+XW M s.scanner s.at')=s.at'+XW M s.scanner s.at':=by unfold UE at *;exact NR (by omega) (by omega)
 refine pc (by decide) rfl rfl rfl ?_;rw [b94,c94];have e:TL M s=min (max (s.at'+XW M s.scanner s.at') 0) s.seen:=rfl;rw [e];generalize XW M s.scanner s.at'=o at *;have d:RH true (Vi (s.at'+o)) [Vi 0]=some (Vi (max (s.at'+o) 0)):=by
  simp only [RH,WT]
  grind
 have f:RH false (Vi (max (s.at'+o) 0)) [Vi s.seen]=some (Vi (min (max (s.at'+o) 0) s.seen)):=by
  simp only [RH,WT]
  grind
 simp only [n94,Sn,TC,TY,ho,w1,d,f,SB,seval,NF,NL,NH,reduceCtorEq,NG,place,NB,NC]
instance (M:List Mk):Decidable (Wh M):=by unfold Wh;infer_instance
theorem Nuk [OA] {lim:Nat} {p:Option Addr} {S:List Ev} (hs:Sl H encN 6 p S) (hn:S.length<2 ^ 63) :
  NQ E mp lim 55 [.slice p S.length c] H Q=Q (.bool (decide (QK S))) H:=by
 refine pc (by decide) rfl rfl rfl ?_;rw [b55,c55];by_cases u:S.length<=2000
 case neg=>
  have e:(2000:Int)<(S.length:Int):=by omega
  simp only [n55,e,Nw (show ¬QK S from fun h=>u h.1),SB,seval,NL,NH,reduceCtorEq,NG,NC]
 have e:¬(2000:Int)<(S.length:Int):=by omega
 simp only [n55,e,SB,seval,NL,NH,reduceCtorEq,NG];refine NP (fun i=>S.length-i) (fun i fr G=>i<=S.length/\fr 8=.slice p S.length c/\fr 9=Vi S.length/\fr 10=Vi i/\H.length<=G.length/\Sl G encN 6 p S/\∀j,j<i->RA (gt S j)) 0 ⟨Np _,rfl,rfl,by rfl,by simp,hs.app _,fun j h=>absurd h (Nat.not_lt_zero j)⟩ ?_;intro i fr G ⟨hi,n,l,d,hL,o,t⟩ hN;rw [NU Ns9.eq_1];refine NJ ?_;by_cases a:i<S.length
 ·have g:=fun X=>(o.app X).loadCells OL a
  have b:=fun c (k:IntKind) (H1:NA)=>o.idx (c:=c) (k:=k) (H1:=H1) a
  have r:IntKind.i64.wrap ((i:Int)+1)=((i+1:Nat):Int):=OC (by omega);by_cases m:RA (gt S i)
  ·simp only [n55,n,l,d,ND,a,hL,b,g,OL,NK,NI,r,Z0,Nj m,SB,seval,NF,NL,NH,RN,place,NB];refine hN (i+1) _ _ ⟨by omega,n,l,rfl,by simp;omega,o.app _,fun j q=>?_⟩ (by omega);rcases (by omega:j<i\/j=i) with h | rfl
   ·exact t j h
   ·exact m
  ·simp only [n55,n,l,d,ND,a,hL,b,g,OL,NK,NI,Z0,Nw m,Nw (show ¬QK S from fun h=>m (h.2 _ (PM a))),SB,seval,NF,NL,NH,RN,place,NB,NC]
 ·obtain rfl:i=S.length:=by omega
  have f:QK S:=⟨u,fun s hs=>by
   obtain ⟨j,q,rfl⟩:=List.mem_iff_getElem.mp hs;have:=t j q
   rwa [OQ q] at this⟩
  simp only [n55,l,d,ND,a,Nj f,SB,seval,NL,NH,NC]
def vK (m:Mk):Value:=.agg (PY m).toArray
theorem N2q {j:Nat} {e:Value×Value} (h:(TD kv vv es)[j]? = some e):∃x,es[j]? = some x/\e=(kv x.1,vv x.2):=by
 unfold TD at h;rw [Pk] at h;cases hx:es[j]? with
 | none=>rw [hx] at h;cases h
 | some x=>rw [hx] at h;cases h;exact ⟨x,rfl,rfl⟩
theorem N2p:(TD kv vv es).length=es.length:=Nz ..
theorem Ntv [OA] {lim t:Nat} {es:List ((Int×Int)×Mk)} (J:List Nat->NA->Prop) (f:lim<=H.length)
  (i:∀seen G G',J seen G->Chg [H.length] G G'->J seen G')
  (a:∀seen j x G,MetOk es.length (seen++[j])->es[j]? = some x->H.length<G.length->J seen G->YB Ef false lim Y [vK x.2] G fun v H'=>v=.bool true/\J (seen++[j]) H'/\G.length<=H'.length/\NE H' R=NE G R/\NE H' H.length=NE G H.length)
  (h1:NE H t=Vc [.map (some R)]) (hm:NE H R=.map (TD kM vK es)) (D:J [] H)
  (F:∀seen H',MetOk es.length seen->Tq es.length seen=[]->J seen H'->Q (.tuple #[]) H') :
  NQ Ef false lim 143 [.func (.yield Y) #[] #[],Vp t] H Q:=by
 refine Nho (by decide) Oey rfl ?_;rw [Oga,c143];have y:=PW hm;have S:=zc h1;have r:UB (.map (some R)) (H++[])=some (Vp H.length,H++[.iter (some R) (TD kM vK es).length []]):=by
  rw [Npw (es:=TD kM vK es) (by rw [NS y];exact hm)];simp
 simp only [n143,S,r,SB,seval,NL,NG];refine NP (fun seen:List Nat=>es.length-seen.length) (fun seen fr G=>MetOk es.length seen/\fr 0=.func (.yield Y) #[] #[]/\fr 6=Vp H.length/\NE G H.length=.iter (some R) (TD kM vK es).length seen/\NE G R=.map (TD kM vK es)/\H.length<G.length/\J seen G) []
  ⟨⟨List.nodup_nil,fun j h=>(O8 h).elim⟩,rfl,rfl,by rw [NN];rfl,by rw [NS y];exact hm,by simp,i _ _ _ D ⟨by simp,fun j d _=>NS d⟩⟩ ?_
 rintro seen fr G ⟨hs,u,l,C,m,n,w⟩ hN;rw [NU N08.eq_1];refine NJ ?_;simp only [n143,l,SB,seval];have p:∀e∈TD kM vK es,VY e.1=true:=fun e he=>by
  unfold TD at he;obtain ⟨x,_,rfl⟩:=List.mem_map.mp he;rfl
 have g:∀s,Tq (TD kM vK es).length s=Tq es.length s:=fun s=>by rw [N2p]
 refine Nvo (es:=TD kM vK es) (by rw [NS n];exact C) f (by rw [NS (by omega)];exact m) p ?_ ?_
 ·intro z;rw [g] at z;simp only [n143,Od8,SB,seval,NL];exact F seen _ hs z (i _ _ _ w Chg.refl.app)
 ·intro j e d he;obtain ⟨x,K,rfl⟩:=N2q he;rw [g] at d;obtain ⟨G1,e1,h1,b⟩:=OO (G:=G) (R:=H.length) n (.iter (some R) (TD kM vK es).length (seen++[j]));have A:=b.other R (by omega);rw [e1];have o:Zp (Vp H.length) (G1++[])=some (.tuple #[kM x.1,vK x.2],G1++[]):=by
   exact Nri (es:=TD kM vK es) (by rw [NS (by rw [b.len];exact n)];exact h1) (by rw [NS (by rw [b.len];omega),A];exact m) he rfl
  have q:lim<=G1.length:=by rw [b.len];omega
  simp only [n143,u,l,o,vK,OY,NK,NI,q,SB,seval,NF,NL,reduceCtorEq,place,NB];have B:J seen (G1++[Vc (PY x.2)]):=i _ _ _ w ⟨by simp [b.len],fun k hk E=>by
   rw [NS (by rw [b.len];exact hk)];exact b.other k (by simpa using E)⟩
  have c:=a seen j x _ (hs.add d) K (by simp [b.len];omega) B;unfold vK at c;refine c.mono fun v H' I=>?_
  obtain ⟨rfl,L,M,N,O⟩:=I;refine NJ ?_;simp only [n143,SB,seval,NL,RN];have P:=b.len;simp only [Nk,Nm,Nn] at M;refine hN (seen++[j]) _ _ ⟨hs.add d,u,l, ?_, ?_,by simp;omega,i _ _ _ L Chg.refl.app⟩ ?_
  ·rw [NS (by omega),O,NS (by omega)];exact h1
  ·rw [NS (by omega),N,NS (by omega),A];exact m
  ·have:=(hs.add d).len;simp only [Nk,Nm,Nn] at this⊢;omega
abbrev Ess:=List ((Int×Int)×Mk)
structure CSt (H:NA) (fr0:Nat->Value) (st cap:Nat) (p:Option Addr) (l:List Mk) (G:NA):Prop where
 box:NE G H.length=Vc [.slice p l.length cap]
 dfr:NE G (H.length+1)=.dfr
 loop:NE G (H.length+2)=.loop ⟨st,none,fr0,13,[7],WN,WM⟩
 own:Own (H.length+4) G PY 3 p cap l
 len:H.length+3<=G.length
 old:∀j,j<H.length->NE G j=NE H j
theorem CSt.chg {p:Option Addr} {l:List Mk} (h:CSt H fr0 st cap p l G) {A:List Nat} (c:Chg A G G') (d:∀j∈A,j=H.length+3):CSt H fr0 st cap p l G':=by
 have len:=h.len;have b:∀j,j<H.length+3->j∉A:=fun j h1 h2=>by have:=d j h2;omega
 refine ⟨c.cells h.box (b _ (by omega)),c.get h.dfr (by omega) (b _ (by omega)),c.get h.loop (by omega) (b _ (by omega)),h.own.chg c fun a e f=>?_,by have:=c.len;omega,fun j g=>(c.other j (by omega) (b _ (by omega))).trans (h.old j g)⟩;have:=d _ f;have:=(h.own.block e).1;omega
theorem Npo [OA] {lim:Nat} {p:Option Addr} {l:List Mk} {x:Mk} (hl:lim<=H.length) (f2:fr0 2=Vp H.length) (h:CSt H fr0 0 cap p l G) (A:H.length+3<G.length) (hn:l.length<2 ^ 20) :
  YB Ef false lim (H.length+2) [vK x] G fun v H'=>v=.bool true/\(∃g P,CSt H fr0 0 g P (l++[x]) H')/\G.length<=H'.length/\(∀j,j<G.length->j≠H.length->j≠H.length+2->(∀a,p=some a->j≠a.block)->NE H' j=NE G j):=by
 rw [XK h.loop (by omega) rfl rfl,YO];obtain ⟨G1,e1,h1,k⟩:=OO (G:=G) (R:=H.length+2) (by omega) (.loop ⟨1,none,fr0,13,[7],WN,WM⟩);have L:=fun X=>(OD.refl.app (X:=X)).get' h.loop (by omega)
 have O:=k.len;have ne:∀a,p=some a->a.block≠H.length+2:=fun a e=>by have:=(h.own.block e).1;omega
 have m:=h.own.mut k ne;obtain ⟨G2,e2,d,_,b,i,t⟩:=m.step (lim':=lim) (bytes:=24) (by omega) OY (by decide) x (by unfold OX;omega) (by omega) (by omega) [Vc (PY x),Vc (PY x)] (G1.length+1) 1 (by rw [NY];rfl);simp only [Nm,Nn,Nx,Nat.reduceAdd] at e2 d i t;have B:∀j,j<H.length+3->∀a,p=some a->j≠a.block:=fun j o a e=>by have:=(h.own.block e).1;omega
 have o2:∀j,j<H.length+3->j≠H.length+2->NE (G2++[]) j=NE G j:=fun j o u=>by
  rw [b j (by omega) (B j o),k.other j u]
 have E:NE (G2++[]) (H.length+2)=.loop ⟨1,none,fr0,13,[7],WN,WM⟩:=(b _ (by omega) (B _ (by omega))).trans h1;have b2:NE (G2++[]) H.length=Vc [.slice p l.length cap]:=(o2 _ (by omega) (by omega)).trans h.box;rw [Na] at d o2 E b2;have s:=zc b2;obtain ⟨F,e3,M,f⟩:=OO (G:=G2) (R:=H.length) (by omega) (Vc [.slice (Sa (G1.length+2)) (l.length+1) (loose 3)]);have S:=f.alive E (by omega:H.length+2≠H.length);have z:=fun X=>(OD.refl.app (X:=X)).get' S (by have:=f.len;omega)
 obtain ⟨I,e4,N,q⟩:=OO (G:=F) (R:=H.length+2) (by have:=f.len;omega) (.loop ⟨0,none,fr0,13,[7],WN,WM⟩);have w:lim<=G.length:=by omega
 have K:∀X,NE (G1++X) H.length=Vc [.slice p l.length cap]:=zc (k.cells h.box (by omega));have J:∀Y,NE (G1++Vc (PY x)::Y) G.length=Vc (PY x):=fun Y=>by rw [<-O];exact NN
 refine NJ ?_;rw [NU WN.eq_1];unfold vK;simp only [OY,NI,w,L,e1,show lim<=H.length+2 by omega,SB,seval,NL,place,NB];rw [NU WM.eq_1];simp only [f2,K,J,OY,NK,NI,SB,seval,NL,place];have r:=s [];simp only [f2,e2,r,e3,z,e4,show lim<=H.length+2 by omega,hl,SB,seval,NL,NB];have T:=f.len;have U:=q.len;have n:=(d.mut f (fun a e=>by cases e;show G1.length+2≠H.length;omega)).mut q (fun a e=>by cases e;show G1.length+2≠H.length+2;omega);have c:∀j,j≠H.length->j≠H.length+2->NE I j=NE G2 j:=fun j C y=>by rw [q.other j y,f.other j C]
 refine ⟨⟨loose 3,Sa (G1.length+2), ?_, ?_, ?_,n.app _, ?_,fun j o=>?_⟩, ?_,fun j C y D Q=>?_⟩
 ·rw [NS (by omega),q.other _ (by omega),M,Nk];rfl
 ·rw [NS (by omega),c _ (by omega) (by omega),o2 _ (by omega) (by omega)];exact h.dfr
 ·rw [NS (by omega)];exact N
 ·have:=h.len
  first | omega | (rw [Nk];omega)
 ·rw [NS (by omega),c _ (by omega) (by omega),o2 _ (by omega) (by omega)];exact h.old j o
 ·first | omega | (rw [Nk];omega)
 ·have:=b j (by omega) Q;rw [Na] at this;rw [NS (by omega),c _ y D,this,k.other j D]
theorem Nw9 [OA] {lim z:Nat} {es:Ess} (hl:lim<=H.length) (h1:NE H z=Vc [.map (some R)]) (hm:NE H R=.map (TD kM vK es)) (hn:es.length<2 ^ 20)
  (K:∀G p cap l,l.Perm (es.map (·.2))->Own H.length G PY 3 p cap l->Chg [] H G->Q (.slice p l.length cap) G) :
  NQ Ef false lim 167 [Vz,.func (.func 143) #[] #[Vp z]] H Q:=by
 refine Nho (by decide) Oes rfl ?_;rw [Of4,c167];have L:=PW hm;have hB:=NM h1;have key:∀fr0:Nat->Value,fr0 2=Vp H.length->
   NQ Ef false lim 143 [.func (.yield (H.length+2)) #[] #[],Vp z]
   (H++[Vc [Value.slice none 0 0],.dfr,.loop ⟨0,none,fr0,13,[7],WN,WM⟩])
   fun x D=>YF (NE D ((H++[Vc [Value.slice none 0 0]]).length+1)) fun x=>PT Ef a167 lim (YS x++([.inBlock 0,.code (.seq (ACode.ops [i 12 (AOp.load1 (Sym.t 2)),i 4 (AOp.mov (Sym.t 12))]) .retM),.code .retM]++[.mark (H++[Vc [Value.slice none 0 0]]).length])) fr0 (D.set ((H++[Vc [Value.slice none 0 0]]).length+1) .dead) Q:=by
  intro fr0 f2;have B:(H++[Vc [Value.slice none 0 0]]).length=H.length+1:=by simp
  rw [B];have d:(H++[Vc [Value.slice none 0 0],.dfr,.loop ⟨0,none,fr0,13,[7],WN,WM⟩]).length=H.length+3:=by simp
  refine Ntv (es:=es) (fun seen G=>∃cap p,CSt H fr0 0 cap p (Nqm es seen) G) (by rw [d];omega) ?_ ?_ (by rw [NS hB];exact h1) (by rw [NS L];exact hm) ?_ ?_
  ·rintro seen G G' ⟨cap,p,k⟩ E;rw [d] at E;exact ⟨cap,p,k.chg E fun j f=>by simpa using f⟩
  ·rintro seen j x G b w o ⟨cap,p,k⟩;rw [d] at o⊢;have q:j<es.length:=by
    rcases Od j es.length with h | h
    ·exact h
    ·rw [N0 h] at w;cases w
   have C:seen.length<2 ^ 20:=by
    have:=b.len;simp only [Nk,Nm,Nn] at this;omega
   refine (Npo (x:=x.2) hl f2 k o (by unfold Nqm;rw [Nz];exact C)).mono fun v H' N=>?_
   obtain ⟨rfl,⟨g,O,k'⟩,P,F⟩:=N;have np:∀j,j<H.length+4->∀a,p=some a->j≠a.block:=fun j f a e=>by have:=(k.own.block e).1;omega
   refine ⟨rfl,⟨g,O, ?_⟩,P,F R (by omega) (by omega) (by omega) (np _ (by omega)),F _ (by omega) (by omega) (by omega) (np _ (by omega))⟩;have e:Nqm es (seen++[j])=Nqm es seen++[x.2]:=by
    unfold Nqm;rw [O7,Oj,List.map_nil];congr 2;rw [OQ (by rw [Nz];exact q),Qw];rw [Ni q] at w;cases w;rfl
   rw [e];exact k'
  ·exact ⟨0,none,by rw [NN];rfl,by rw [NY];rfl,by rw [NY];rfl,.inl ⟨rfl,rfl,rfl⟩,by simp,fun j f=>NS f⟩
  ·rintro seen H' b M ⟨cap,p,k⟩;have len:=k.len;obtain ⟨u,e3,_,c⟩:=OO (G:=H') (R:=H.length+2) (by omega) .dead;have n:=e3 [];rw [Na] at n;have b3:∀X,NE (u++X) H.length=Vc [.slice p (Nqm es seen).length cap]:=zc (c.cells k.box (by omega));have m:=(OD.refl.app (X:=[])).get' (c.alive k.dfr (by omega:H.length+1≠H.length+2)) (by have:=c.len;omega);obtain ⟨I,e4,_,y⟩:=OO (G:=u) (R:=H.length+1) (by have:=c.len;omega) .dead;have r:=Z4 (lim:=lim) (i:=H.length+1) (l:=[]) m (by omega);have A:(u++[]).set (H.length+1) .dead=I++[]:=e4 [];rw [A,MR] at r;have J:([]:List Nat)++[H.length+1]=[H.length+1]:=rfl;simp only [k.loop,n,SB,seval];show PT Ef a167 lim (.inBlock 0::.code (.seq (ACode.ops [i 12 (AOp.load1 (Sym.t 2)),i 4 (AOp.mov (Sym.t 12))]) .retM)::.code .retM::.mark (H.length+1)::[]) fr0 (u++[]) Q;simp only [n167,Od5,J,f2,b3,r,SB,seval,NL,NC];have s:=(k.own.mut c (fun a e=>by have:=(k.own.block e).1;omega)).mut y (fun a e=>by have:=(k.own.block e).1;omega);refine K _ p cap _ (N0a b M) (Own.le (s.app _) (by omega)) ⟨by have:=c.len;have:=y.len;simp;omega,fun j f _=>?_⟩;rw [NS (by have:=c.len;have:=y.len;omega),y.other j (by omega),c.other j (by omega)];exact k.old j f
 simp only [n167,SB,seval,NF,NL,NG,place,NB];exact key _ rfl
end Go.Proofs.YtkppjkkkdpcgiaaGreat.Fn



namespace Go.Proofs.YtkppjkkkdpcgiaaGreat.Fn
open Go.AM Go.AM.Sym Go.Scan Go.Sort
variable {R cap n:Nat} {Q:Value->NA->Prop} {H:NA} {α:Type} {d:Array α}
abbrev base:OA:=⟨fun _=>false,fun _ _ _=>none,fun _ _ _ _ _=>rfl,fun _ _ _=>none,fun _ _ _ _ _ _=>rfl⟩
abbrev Eb:Env:=@Ef base
abbrev Gb:Env:=@E base
instance encZE:Srt.EncOk encE 7:=⟨fun _=>rfl,fun x v a=>by simp only [encE,Ns,O8,or_false] at a;rcases a with h | h | h | h | h | h | h<;>rw [h]<;>exact ⟨rfl,rfl⟩,fun x y h=>by cases x;cases y;simpa [encE] using h⟩
instance encZM:Srt.EncOk PY 3:=⟨fun _=>rfl,fun x v a=>by simp only [PY,Ns,O8,or_false] at a;rcases a with h | h | h<;>rw [h]<;>exact ⟨rfl,rfl⟩,fun x y h=>by cases x;cases y;simpa [PY] using h⟩
instance encZL:Srt.EncOk encL 8:=⟨fun _=>rfl,fun x v a=>by simp only [encL,Ns,O8,or_false] at a;rcases a with h | h | h | h | h | h | h | h<;>rw [h]<;>exact ⟨rfl,rfl⟩,fun x y h=>by cases x;cases y;simpa [encL] using h⟩
noncomputable def srtF (g:FuncId) (as:List Value) (H:NA):Option (Value×List (List Value)×Option (Nat×List Value)):=
 if g=95 then Srt.sortF Eb encE as H else if g=142 then Srt.sortF Eb PY as H else if g=102 then Srt.sortF Eb encL as H else none
theorem srtF_no (g:FuncId) (as:List Value) (H:NA) (h1:g≠95) (h2:g≠142) (a:g≠102):srtF g as H=none:=by
 unfold srtF;rw [Ng h1,Ng h2,Ng a]
class OB extends OA where
 srtOk:∀g as H,OA.srt g as H=srtF g as H
theorem Ohb [OB] (as:List Value) (H:NA):(Ef:Env).orc 95 as=none/\(Ef:Env).eff 95 as H=Srt.sortF Eb encE as H:=⟨by simp [Ef,orc],by simp [Ef,effS,OA.effN,OB.srtOk,srtF]⟩
theorem N9c [OB] (as:List Value) (H:NA):(Ef:Env).orc 142 as=none/\(Ef:Env).eff 142 as H=Srt.sortF Eb PY as H:=⟨by simp [Ef,orc],by simp [Ef,effS,OA.effN,OB.srtOk,srtF]⟩
theorem N9d [OB] (as:List Value) (H:NA):(E:Env).orc 102 as=none/\(E:Env).eff 102 as H=Srt.sortF Eb encL as H:=⟨by simp [E,orc],by simp [E,effS,OA.effN,OB.srtOk,srtF]⟩
theorem Nss {k:α->List Int} (hn:∀x,(k x).length=n):SWO (fun x y:α=>decide (RX (k x) (k y)<0)):=by
 have a:∀x y:α,(k x).length=(k y).length:=fun x y=>by rw [hn,hn]
 refine ⟨fun x=>?_,fun x y z h1 h2=>?_,fun x y z h1 h2=>?_⟩
 ·rw [Nh9];rfl
 ·simp only [N6] at *;have b:=Ww (k x) (k y) (k z) (a x y) (a y z) (by omega) (by omega);rcases Nm3 (k x) (k z) with v | v | v
  ·omega
  ·have e:=Nj9 _ _ (a x z) v;rw [<-e,UJ (k x) (k y)] at h2;omega
  ·omega
 ·simp only [decide_eq_false_iff_not] at *;have a1:=UJ (k x) (k y);have a2:=UJ (k y) (k z);have c:=UJ (k x) (k z);have b:=Ww (k z) (k y) (k x) (a z y) (a y x) (by omega) (by omega);omega
theorem Nbk [Inhabited α] {b:Array α} (hd:d.size=n) (h:PermIn 0 n d b):b.toList.Perm d.toList:=by
 obtain ⟨h1,h2,a⟩:=h;subst hd;rw [Array.extract_size] at a;rw [<-h1,Array.extract_size] at a;exact a
theorem Ncd [Inhabited α] {k:α->List Int} (hd:d.size=n) (h:SortedIn (fun x y:α=>decide (RX (k x) (k y)<0)) 0 n d):TJ k d.toList:=by
 unfold TJ;rw [Pc];intro i j hi b a;have h1:=h i j (Np _) a (by simpa [hd] using b);have e1:d[i]! = d.toList[i]:=by rw [getElem!_pos d i (by simpa using hi)];simp
 have e2:d[j]! = d.toList[j]:=by rw [getElem!_pos d j (by simpa using b)];simp
 rw [e1,e2] at h1;simp only [decide_eq_false_iff_not] at h1;rw [UJ (k d.toList[j]) (k d.toList[i])];omega
theorem N7q {enc:α->List Value} {G:NA} {B:Nat} {l:List α} (hB:NE G B=Vc (l.flatMap enc)):DH enc G B l.toArray=G:=by
 have hl:=NM hB;unfold DH;apply Pr
 ·simp
 intro i h1 h2;rw [List.getElem_set];split
 ·rename_i e;subst e;unfold NE at hB;rw [Nb,Ni hl] at hB;exact hB.symm
 ·rfl
theorem Oas [OB]:Srt.Cmp Eb PY 124 [] (fun a b=>RX (Si a) (Si b)):=
 ⟨fun _ h=>(by cases h),⟨_,Odm⟩,fun x y=>NQ.weak (E:=Eb) (E':=Gb) (by rw [@N22 base]),Nss ZC⟩
theorem Nyp [OB] {lim:Nat} {l:List Mk} (c:NE H R=Vc (l.flatMap PY)) (hl:lim<=R) (hn:l.length<65536) :
  ∃H1,(∀Q:Value->NA->Prop,NQ Ef false lim 142 [.slice (Sa R) l.length cap,.func (.func 124) #[] #[]] (H++[]) Q=Q (.tuple #[]) (H1++[]))/\NE H1 R=Vc ((UI Si l).flatMap PY)/\Chg [R] H H1:=by
 obtain ⟨h1,h2⟩:=Srt.sortN_ok Oas.swo l;have hs:Srt.sortN (fun a b=>RX (Si a) (Si b)) l=UI Si l:=XP ZC Nic (Ncd (d:=(Srt.sortN (fun a b=>RX (Si a) (Si b)) l).toArray) (by rw [List.size_toArray];exact Srt.sortN_len Oas.swo l) h2) (Nbk (d:=l.toArray) (n:=l.length) (by simp) h1);refine ⟨H.set R (Vc ((Srt.sortN (fun a b=>RX (Si a) (Si b)) l).flatMap PY)),fun Q=>?_, ?_, ?_⟩
 ·rw [Na,Na];exact Srt.sort_ok N9c Oas (cs:=[]) c hl (by omega)
 ·rw [hs];exact Rv (NM c)
 ·exact ⟨by simp,fun j f e=>QC (by simpa using e)⟩
theorem Nua [OB] {lim:Nat} {p:Option Addr}:NQ Ef false lim 142 [.slice p 0 cap,.func (.func 124) #[] #[]] H Q=Q (.tuple #[]) H:=
 Srt.sort_nil N9c
theorem Oau [OB]:Srt.Cmp Eb encE 96 [] (fun a b=>RX (QQ a) (QQ b)):=
 ⟨fun _ h=>(by cases h),⟨_,rfl⟩,fun x y=>NQ.weak (E:=Eb) (E':=Gb) (by rw [@N23 base]),Nss ZE⟩
theorem Nyq [OB] {lim:Nat} {l:List Ev} (c:NE H R=Vc (l.flatMap encE)) (hl:lim<=R) (hn:l.length<65536) :
  ∃H1,(∀Q:Value->NA->Prop,NQ Ef false lim 95 [.slice (Sa R) l.length cap,.func (.func 96) #[] #[]] (H++[]) Q=Q (.tuple #[]) (H1++[]))/\NE H1 R=Vc ((UI QQ l).flatMap encE)/\Chg [R] H H1:=by
 obtain ⟨h1,h2⟩:=Srt.sortN_ok Oau.swo l;have hs:Srt.sortN (fun a b=>RX (QQ a) (QQ b)) l=UI QQ l:=XP ZE Nid (Ncd (d:=(Srt.sortN (fun a b=>RX (QQ a) (QQ b)) l).toArray) (by rw [List.size_toArray];exact Srt.sortN_len Oau.swo l) h2) (Nbk (d:=l.toArray) (n:=l.length) (by simp) h1);refine ⟨H.set R (Vc ((Srt.sortN (fun a b=>RX (QQ a) (QQ b)) l).flatMap encE)),fun Q=>?_, ?_, ?_⟩
 ·rw [Na,Na];exact Srt.sort_ok Ohb Oau (cs:=[]) c hl (by omega)
 ·rw [hs];exact Rv (NM c)
 ·exact ⟨by simp,fun j f e=>QC (by simpa using e)⟩
theorem Nt9 [OB] {lim e:Nat} {es:Ess} (hl:lim<=H.length) (h1:NE H e=Vc [.map (some R)]) (hm:NE H R=.map (TD kM vK es)) (hn:es.length<65536)
  (b:∀G p cap,Own H.length G PY 3 p cap (UI Si (es.map (·.2)))->Chg [] H G->Q (.slice p es.length cap) (G++[])) :
  NQ Ef false lim 122 [.func (.func 143) #[] #[Vp e],.func (.func 124) #[] #[]] H Q:=by
 have a:∀(Q:Value->NA->Prop),(∀G p cap l,l.Perm (es.map (·.2))->Own H.length G PY 3 p cap l->Chg [] H G->Q (.slice p l.length cap) (G++[]))->
   NQ Ef false lim 141 [.func (.func 143) #[] #[Vp e]] H Q:=by
  intro Q b;refine Nho (by decide) Oez rfl ?_;rw [Ogb,c141];simp only [n141,SB,seval,NF,NL,reduceCtorEq,NG];rw [Na];refine Nw9 hl h1 hm (by omega) fun G p cap l h1 h2 o=>?_
  refine NJ ?_;simp only [n141,Od9,SB,seval,NL,NC];exact b G p cap l h1 h2 o
 refine Nho (by decide) Ofd rfl ?_;rw [Ogq,Oba];simp only [n122,SB,seval,NF,NL,reduceCtorEq,NG];rw [Na];refine a _ fun G p cap l hp q d=>?_
 have c:l.length=es.length:=by have:=hp.length_eq;simpa using this
 have hs:UI Si (es.map (·.2))=UI Si l:=(Nlm ZC Nic hp).symm;rw [hs] at b;rcases q with ⟨n,rfl,rfl⟩ | ⟨i,rfl,rfl,r,f⟩
 ·subst n;have g:=fun X (Q:Value->NA->Prop)=>Nua (lim:=lim) (cap:=0) (p:=none) (H:=G++X) (Q:=Q)
  have:=b G none 0 (.inl ⟨rfl,rfl,rfl⟩) d;rw [<-c] at this;simp only [n122,Oci,g,Nn,SB,seval,NF,NL,NG,NC];exact this
 ·obtain ⟨G1,k,m,h⟩:=Nyp (lim:=lim) (cap:=loose 3) r (by omega) (by omega);simp only [n122,Oci,k,SB,seval,NF,NL,NG,NC];rw [c];exact b G1 _ _ (.inr ⟨i,rfl,rfl,m,f⟩) ⟨by have:=d.len;have:=h.len;omega,fun j s _=>by
   rw [h.other j (by have:=d.len;omega) (by simp;omega),d.other j s (by simp)]⟩
end Go.Proofs.YtkppjkkkdpcgiaaGreat.Fn



namespace Go.Proofs.YtkppjkkkdpcgiaaGreat.Fn
open Go.AM Go.AM.Sym Go.Net Go.Sort
variable {L:List Leg}
def cmpL (a b:Leg):Int:=if a.id<b.id then -1 else if b.id<a.id then 1 else 0
theorem N62 [OA] (mp:Bool) (lim:Nat) (a b:Leg) (H:NA) (Q:Value->NA->Prop):NQ E mp lim 66 [.agg (encL a).toArray,.agg (encL b).toArray] H Q=Q (Vi (cmpL a b)) H:=by
 refine pc (by decide) rfl rfl rfl ?_;rw [b66,c66];simp only [n66,RY,Nrx,Nn8,cmpL,SB,seval,NF,NL,NG,place,NB,NC]
theorem Ndu (a b:Leg):Srt.ltC cmpL a b=decide (a.id<b.id):=by
 unfold Srt.ltC cmpL;by_cases h1:a.id<b.id
 ·simp [h1]
 ·by_cases h2:b.id<a.id
  ·simp [h1,h2]
  ·simp [h1,h2]
theorem Nf0:SWO (Srt.ltC cmpL):=by
 refine ⟨fun x=>?_,fun x y z h1 h2=>?_,fun x y z h1 h2=>?_⟩
 ·rw [Ndu];simp
 ·rw [Ndu] at *;simp only [N6] at *;omega
 ·rw [Ndu] at *;simp only [decide_eq_false_iff_not] at *;omega
theorem Oat [OB]:Srt.Cmp Eb encL 66 [] cmpL:=
 ⟨fun _ h=>(by cases h),⟨_,rfl⟩,fun x y=>NQ.weak (E:=Eb) (E':=Gb) (by rw [@N62 base]),Nf0⟩
theorem Nph {n:Nat} {d:Array Leg} (hd:d.size=n) (h:SortedIn (Srt.ltC cmpL) 0 n d) (e:d.toList.Pairwise (fun a b=>a.id≠b.id)):d.toList.Pairwise (fun a b=>a.id<b.id):=by
 rw [Pc] at *;intro i j hi f c;have h1:=h i j (Np _) c (by simpa [hd] using f);have h2:=e i j hi f c;rw [Ndu] at h1;have e1:d[i]! = d.toList[i]:=by rw [getElem!_pos d i (by simpa using hi)];simp
 have e2:d[j]! = d.toList[j]:=by rw [getElem!_pos d j (by simpa using f)];simp
 rw [e1,e2] at h1;simp only [decide_eq_false_iff_not] at h1;omega
theorem Xx {P:List Int} (h:Xj P L):L.Pairwise (fun a b=>a.id≠b.id):=by
 rw [Pc];intro i j hi c d e;have h2:=(h j c).2.1;rw [OQ c] at h2;apply h2;rw [List.mem_map];exact ⟨L[i],List.mem_take_iff_getElem.2 ⟨i,by omega,rfl⟩,e⟩
theorem Npi [OB] {lim Bx c:Nat} {p:Option Addr} {o:Bool} {H:NA} {Q:Value->NA->Prop} (hB:NE H Bx=.cells o [.slice p L.length c]) (hs:Sl H encL 8 p L) (hn:L.length<=200) (g:lim<=H.length) (l:L.Pairwise (fun a b=>a.id≠b.id))
  (r:∀H' q cap (S:List Leg),Chg [] H H'->Sl H' encL 8 q S->S.Perm L->S.Pairwise (fun a b=>a.id<b.id)->(∀a,q=some a->H.length<=a.block)->Q (.slice q L.length cap) H') :
  NQ E false lim 64 [.func (.func 103) #[] #[Vp Bx],.func (.func 66) #[] #[]] H Q:=by
 refine QN (by decide) rfl rfl ?_;rw [b64,c64];simp only [n64,SB,seval,NF,NL,reduceCtorEq,NG];rw [Na];refine Nrw hB hs (by omega) g fun H' q cap k v=>?_
 have hl:=k.len;refine NJ ?_;rcases v with ⟨t,rfl,rfl⟩ | ⟨R,rfl,rfl,s,w⟩
 ·subst t;have m:∀X Q,NQ E false lim 102 [Vz,.func (.func 66) #[] #[]] (H'++X) Q=Q (.tuple #[]) (H'++X):=fun X Q=>Srt.sort_nil N9d
  simp only [n64,m,Nn,SB,seval,NF,NL,NG,NC];exact r _ _ _ [] k.app (show Sl _ encL 8 none [] from rfl) (List.Perm.refl _) List.Pairwise.nil (fun a e=>by cases e)
 ·obtain ⟨h2,u⟩:=Srt.sortN_ok Nf0 L;have h1:(Srt.sortN cmpL L).toArray.size=L.length:=by rw [List.size_toArray];exact Srt.sortN_len Nf0 L
  have hp:(Srt.sortN cmpL L).Perm L:=Nbk (d:=L.toArray) (n:=L.length) (by simp) h2;have i:∀Q,NQ E false lim 102 [.slice (Sa R) L.length (loose 8),.func (.func 66) #[] #[]] (H'++[]) Q=Q (.tuple #[]) (H'.set R (Vc ((Srt.sortN cmpL L).flatMap encL))++[]):=fun Q=>by
   rw [Na,Na];exact Srt.sort_ok N9d Oat (cs:=[]) s (by omega) (by omega)
  simp only [n64,i,SB,seval,NF,NL,NG,NC];have f:=NM s;have hm:Mut H' (H'.set R (Vc ((Srt.sortN cmpL L).flatMap encL))) R:=⟨by simp,fun j x=>QC x⟩
  refine r _ _ _ (Srt.sortN cmpL L) ((k.mut hm (.inr (by omega))).app) (((Own.new (lim:=0) (e:=8) (Rv f) (Np _)).app []).sl NZ) hp ?_ (fun a e=>by cases e;show H.length<=R;omega);exact Nph h1 u ((hp.pairwise_iff (fun h e=>h e.symm)).2 l)
end Go.Proofs.YtkppjkkkdpcgiaaGreat.Fn



namespace Go.Proofs.YtkppjkkkdpcgiaaGreat.Fn
open Go.AM Go.AM.Sym Go.Net
variable {pos:Int->Nat} {S L:List Leg} {Q:Value->NA->Prop} {H:NA} {w:List (Int×Int×Int)} {P:List Int}
theorem No3 [OB] {lim n c:Nat} {p:Option Addr}:NQ E false lim 65 [.slice p n c] H Q=Q (.func (.func 103) #[] #[Vp H.length]) (H++[Vc [.slice p n c]]):=by
 rw [Wp (E:=E) (by simp [E,effS,OA.effN,OA.srtN,orc]) (show E.tr 65=some a65 from rfl) rfl rfl,b65,c65];rw [<-Na H];simp only [n65,SB,seval,NL,NG,place,NB,NC]
def Sk (x:Leg×Int):Int×Int×Int:=(x.1.id,x.2,x.2+x.1.mins)
theorem Nuu {late:List Int} {p t:Int} {i:Nat} (h:i<S.length):(S.drop i).findSome? (T9 pos late p t)=match T9 pos late p t (gt S i) with | some r=>some r | none=>(S.drop (i+1)).findSome? (T9 pos late p t):=by
 rw [Oy h,List.findSome?_cons,OQ h];cases T9 pos late p t S[i]<;>rfl
theorem Ntr [OB] {lim R left c16 cs cw:Nat} {q pw O:Option Addr} {Ts:List (List Int)} {plant there:Int} {G:NA} {fr:Nat->Value} {K:List AItem} {Z:Value->NA->Prop}
  (N:NetOk 50 P L (NW P)) (hS:∀l∈S,l∈L) (a0:S.length<=200) (hm:NE H R=.map (WY P)) (ae:lim<=H.length) (hE:Chg [] H G) (hq:Sl H encL 8 q S) (aw:Sl H Sb 50 O Ts) (ax:∀T∈Ts,okT T) (v:left<Ts.length) (a3:Ts.length<2 ^ 40) (az:0<=there/\there<=NV) (hO:Own H.length G enc3 3 pw cw w) (hw:w.length<2 ^ 31)
  (f10:fr 10=.map (some R)) (ak:fr 16=.slice O Ts.length c16) (al:fr 18=.slice pw w.length cw) (am:fr 19=Vi plant) (an:fr 20=Vi there) (aq:fr 21=Vi left) (ar:fr 77=.slice q S.length cs) (au:fr 78=Vi S.length) (av:fr 79=Vi 0)
  (hR:∀fr' G' ai ad,Chg [] H G'->fr' 10=.map (some R)->fr' 16=.slice O Ts.length c16->fr' 17=fr 17->fr' 21=Vi left->
   (∀w':List (Int×Int×Int),∀b d:Int,(match Y5 (NW P) S (gt Ts left) plant there with | some (l,a)=>w'=w++[Sk (l,a)]/\b=l.dst/\d=a+l.mins | none=>w'=w/\b=plant/\d=there)->fr' 18=.slice ai w'.length ad/\fr' 19=Vi b/\fr' 20=Vi d/\Own H.length G' enc3 3 ai ad w')->PT E a32 lim K fr' (G'++[]) Z) :
  PT E a32 lim (.code (.loop N02)::.inBlock 2::K) fr G Z:=by
 refine NP (fun i=>S.length-i) (fun i fr' G'=>i<=S.length/\fr' 10=.map (some R)/\fr' 16=.slice O Ts.length c16/\fr' 17=fr 17/\fr' 18=.slice pw w.length cw/\fr' 19=Vi plant/\fr' 20=Vi there/\fr' 21=Vi left/\fr' 77=.slice q S.length cs/\fr' 78=Vi S.length/\fr' 79=Vi i/\
  Chg [] H G'/\Own H.length G' enc3 3 pw cw w/\Y5 (NW P) S (gt Ts left) plant there=(S.drop i).findSome? (T9 (NW P) (gt Ts left) plant there)) 0
  ⟨Np _,f10,ak,rfl,al,am,an,aq,ar,au,av,hE,hO,rfl⟩ ?_
 intro i fr' G' ⟨hi,o,p,z,A,j,s,t,u,m,B,F,C,f⟩ hN;have hl:=F.len;rw [NU N02.eq_1];refine NJ ?_;by_cases g:i<S.length
 case neg=>
  obtain rfl:i=S.length:=by omega
  rw [Qk,List.findSome?_nil] at f;simp only [n32,m,B,g,SB,seval,NL,NH];refine hR _ _ pw cw F o p (by rw [<-z];exact rfl) t fun w' b d h=>?_
  rw [f] at h;obtain ⟨rfl,rfl,rfl⟩:=h;exact ⟨A,j,s,C⟩
 have ah:=F.ext.sl hq;have J:=fun X=>(ah.app X).loadCells NZ g
 have y:=fun c (k:IntKind) (H1:NA)=>ah.idx (c:=c) (k:=k) (H1:=H1) g
 have ab:IntKind.i64.wrap ((i:Int)+1)=((i+1:Nat):Int):=OC (by omega);have I:lim<=G'.length:=by omega
 have W:=hS _ (PM g);have hf:=N.fine _ W;rw [Nuu g] at f;by_cases n:(gt S i).frm=plant
 case neg=>
  have e:T9 (NW P) (gt Ts left) plant there (gt S i)=none:=by unfold T9;rw [Ng n]
  rw [e] at f;simp only [n32,j,u,m,B,g,J,y,ab,NZ,QR,I,NI,Nc n,SB,seval,NL,NH,place,NB];exact hN (i+1) _ _ ⟨by omega,o,p,by rw [<-z];exact rfl,A,j,s,t,u,m,rfl,F.app,C.app _,f⟩ (by omega)
 unfold NV at az;have x:=fun (H:NA) (mp:Bool) (lim:Nat) (Q:Value->NA->Prop)=>Ns1 (mp:=mp) (lim:=lim) (H:=H) (Q:=Q) (l:=gt S i) (r:=there) hf (by omega) (by omega)
 cases hx:R7 (gt S i) there with
 | none=>
   have e:T9 (NW P) (gt Ts left) plant there (gt S i)=none:=by unfold T9;rw [Nl n];simp only [hx]
   rw [e] at f;rw [hx] at x;simp only [Oo,TE] at x;simp only [n32,j,s,u,m,B,g,J,y,ab,NZ,QR,NK,I,NI,Nh n,x,SB,seval,NF,NL,NH,place,NB];exact hN (i+1) _ _ ⟨by omega,o,p,by rw [<-z];exact rfl,A,j,s,t,u,m,rfl,F.app,C.app _,f⟩ (by omega)
 | some a=>
   rw [hx] at x;simp only [Ny,TE] at x;have i2:NW P (gt S i).dst<50:=N.lt _ (N.dst _ W);obtain ⟨j2,Y⟩:=Vy (i:=0) (N.dst _ W);change findKey _ _ _=some (some (j2,Vi (NW P (gt S i).dst:Int))) at Y;have ag:=F.get hm (PW hm) (by simp);have q3:∀X,NE (G'++X) R=.map (WY P):=fun X=>by rw [NS (PW ag)];exact ag
   have hT:=ax _ (PM v);have U:=F.ext.sl aw;have D:=fun X=>(U.app X).loadCell QF v i2
   rw [WA hT.1 i2] at D;have V:=fun c (k:IntKind) (H1:NA)=>U.idx (c:=c) (k:=k) (H1:=H1) v
   have z2:(0:Int)<=(NW P (gt S i).dst:Int):=by omega
   have z4:(NW P (gt S i).dst:Int)<50:=by omega
   by_cases M:a+(gt S i).mins<=(gt Ts left).getD (NW P (gt S i).dst) (-1)
   case neg=>
    have e:T9 (NW P) (gt Ts left) plant there (gt S i)=none:=by unfold T9;rw [Nl n];simp only [hx];rw [Ng M]
    rw [e] at f;simp only [n32,o,p,j,s,t,u,m,B,g,J,y,ab,NZ,QR,R3,NK,I,NI,Nh n,x,q3,Y,D,V,z2,z4,Nc M,Ps,SB,seval,NF,NL,NH,place,NB];exact hN (i+1) _ _ ⟨by omega,o,p,by rw [<-z];exact rfl,A,j,s,t,u,m,rfl,F.app,C.app _,f⟩ (by omega)
   have e:T9 (NW P) (gt Ts left) plant there (gt S i)=some (gt S i,a):=by unfold T9;rw [Nl n];simp only [hx];rw [Nl M]
   rw [e] at f;obtain ⟨G3,e3,O3,C3,ay,l3,aa⟩:=C.step (lim':=lim) (bytes:=24) ae OU (by decide) (Sk (gt S i,a)) (by unfold OX;omega) (by omega) (by omega) [Vc (encL (gt S i)),Vc [Vi a,Vi (a+(gt S i).mins)],Vc (enc3 (Sk (gt S i,a)))] (G'.length+2) 1 NY;have aj:enc3 (Sk (gt S i,a))=[Vi (gt S i).id,Vi a,Vi (a+(gt S i).mins)]:=rfl;rw [aj] at e3 aa;have d0:NE (G3++[]) G'.length=Vc (encL (gt S i)):=aa 0 (by simp);have d1:NE (G3++[]) (G'.length+1)=Vc [Vi a,Vi (a+(gt S i).mins)]:=aa 1 (by simp);simp only [n32,o,p,A,j,s,t,u,m,B,g,J,y,NZ,RY,QR,R3,NK,I,NI,Nh n,x,q3,Y,D,V,z2,z4,Nh M,Ps,e3,d0,d1,SB,seval,NF,NL,NH,place,NB];have cH:=C3 [] H (Nf _) F;rw [Na] at cH O3;refine hR _ _ (Sa (G'.length+3)) (loose 3) cH o p (by rw [<-z];exact rfl) t fun w' b d h=>?_
   rw [f] at h;obtain ⟨rfl,rfl,rfl⟩:=h;refine ⟨?_,rfl,rfl,O3⟩;simp only [Nk,Nm,Nn,Nx];exact rfl
theorem Ny7 {late:List Int} {p t a:Int} {l:Leg} (h:Y5 pos S late p t=some (l,a)):l∈S/\R7 l t=some a:=by
 unfold Y5 at h;obtain ⟨g,x,i,b,f,c⟩:=List.findSome?_eq_some_iff.1 h;obtain ⟨j,d,e,k⟩:=YR f;simp only at d e;subst d;exact ⟨by rw [b];simp,e⟩
theorem Obw [OB] {lim:Nat} {pp pl:Option Addr} {cp cl:Nat} {p q ready:Int} (hn:NetIn H pp pl P L) (da:lim<=H.length)
  (be:∀H',SI P L p q ready≠0->Chg [] H H'->Q (.tuple #[Vz,Vi (SI P L p q ready)]) H')
  (ar:∀H',SI P L p q ready=0->Vd L p ready q (-1)->Chg [] H H'->Q (.tuple #[Vz,Vi 6]) H')
  (c6:∀H' v w pw cw,SI P L p q ready=0->Chg [] H H'->0<=v->Vd L p ready q v->BestW L p ready q v w->w.length<2 ^ 30->Own H.length H' enc3 3 pw cw (w.map Sk)->Q (.tuple #[.slice pw w.length cw,Vi 0]) H') :
  NQ E false lim 32 [.agg (netV pp P.length cp pl L.length cl).toArray,Vi p,Vi q,Vi ready] H Q:=by
 refine QN (by decide) rfl rfl ?_;rw [b32,c32];simp only [n32,OG,NK,SB,seval,NF,NL,NG,place,NB];refine Ngg (hn.app _) (by simp;omega) (fun H' he hE=>?_) (fun H' R he hE hm hR=>?_)
 ·refine NJ ?_;simp only [n32,Nc he,SB,seval,NL,NH,NC];exact be _ he (hE.chg.pre.app)
 obtain ⟨U,hp,hq,hr,au⟩:=VN he;obtain ⟨v1,v2,v3,v4⟩:=Sg U;have u:=RS U;have cx:=hE.len;simp only [Nk,Nm,Nn] at cx hR;have aa:NE H' H.length=Vc (netV pp P.length cp pl L.length cl):=hE.cells NN;have c3:=zc aa;have ag:OD H H':=by obtain ⟨Y,rfl⟩:=hE;rw [No];exact OD.refl.app
 have hi:NW P q<50:=u.lt _ hq;obtain ⟨j1,bm⟩:=Vy (i:=0) hq;change findKey _ _ _=some (some (j1,Vi (NW P q:Int))) at bm;have q3:∀X,NE (H'++X) R=.map (WY P):=fun X=>by rw [NS (PW hm)];exact hm
 refine NJ ?_;simp only [n32,c3,OG,NK,q3,bm,show lim<=H'.length by omega,SB,seval,NF,NL,NH,NG,place,NB];refine Nc8 ((hn.ext ag).app _) U (q3 _) hp hr au (by simp;omega) fun W q1 cap n hC bf db de hO=>?_
 have J:=hC.pre;have co:=hC.len;simp only [Nk,Nm,Nn] at co;have al:NE W H'.length=Vc [Vi (NW P q:Int)]:=hC.cells NN (by simp);have ak:=zc al;have D:=J.cells aa (by simp);have bq:=zc D;have e:((List.range (n+1)).map (QM 50 (NW P) (ready+86400) L p ready)).length=n+1:=by simp
 have am:∀k,k<=n->gt ((List.range (n+1)).map (QM 50 (NW P) (ready+86400) L p ready)) k=QM 50 (NW P) (ready+86400) L p ready k:=fun k hk=>by
  rw [OQ (by rw [e];omega)];simp
 have hS:=hO.sl QF;have an:=fun X=>(hS.app X).loadCell QF (i:=n) (j:=NW P q) (by rw [e];omega) hi
 rw [am n (Nf _),WA RZ hi] at an;have C:=fun c (kk:IntKind) (H1:NA)=>hS.idx (c:=c) (k:=kk) (H1:=H1) (i:=n) (by rw [e];omega)
 rw [e] at C;have bx:IntKind.i64.wrap (((n+1:Nat):Int)-1)=(n:Int):=by rw [NR (by omega) (by omega)];omega
 have U:=Nge u hp hr (by omega:ready<=ready+86400) bf q hq;change Vd L p ready q _ at U;generalize c7:(QM 50 (NW P) (ready+86400) L p ready n).getD (NW P q) (-1)=v at *;have z1:(0:Int)<=(NW P q:Int):=by omega
 have z2:(NW P q:Int)<50:=by omega
 have z3:NW P q<=49:=by omega
 refine NJ ?_;by_cases bw:v<0
 ·simp only [n32,ak,C,an,bx,z1,z2,Ps,show lim<=W.length by omega,Nh bw,SB,seval,NL,NH,place,NB,NC];refine ar _ he ?_ ((ag.chg.trans J).app);rcases U with ⟨rfl,h⟩ | ⟨⟨⟨j,hw⟩,_⟩,_⟩
  ·exact .inl ⟨rfl,h⟩
  ·have:=hw.later u.fine;omega
 obtain ⟨k,hk,M,K⟩:=Nnv (f:=fun k=>(QM 50 (NW P) (ready+86400) L p ready k).getD (NW P q) (-1)) c7;replace M:(QM 50 (NW P) (ready+86400) L p ready k).getD (NW P q) (-1)=v:=M;replace K:∀j,j<k->(QM 50 (NW P) (ready+86400) L p ready j).getD (NW P q) (-1)≠v:=K;have a3:=fun X (mp:Bool) (lim:Nat) (Q:Value->NA->Prop)=>N11 (mp:=mp) (lim:=lim) (Q:=Q) (k:=k) (cap:=cap) (t:=v) (B:=W.length) (H:=W++Vc [Vi v]::X) hi (ak _) NN (hS.app _) (fun T hT=>by obtain ⟨j,_,rfl⟩:=List.mem_map.1 hT;exact RZ) (by rw [e];omega) (by rw [e];omega) (by rw [am k hk];exact M) (fun j hj=>by rw [am j (by omega)];exact K j hj)
 rw [e] at a3;have cd:=fun (H:NA) (mp:Bool) (lim:Nat) (Q:Value->NA->Prop)=>Np3 (mp:=mp) (lim:=lim) (H:=H) (Q:=Q) (i:=NW P q) (t:=v) hi
 have a9:OD H W:=by obtain ⟨Y,rfl⟩:=J.ext;exact ag.app
 have O:NE W R=.map (WY P):=J.get hm (PW hm) (by simp);have c9:∀X,NE (W++X) R=.map (WY P):=fun X=>by rw [NS (PW O)];exact O
 have bv:0<=v:=by omega
 have dg:v<=NV:=by
  rcases U with ⟨rfl,h⟩ | ⟨⟨⟨j,hw⟩,_⟩,_⟩
  ·omega
  ·cases hw with
   | nil=>exact au
   | snoc _ hl _ hd _=>
     obtain ⟨d,dd,aj,rfl⟩:=hd;unfold goes at aj;simp only [N2,N6] at aj;exact aj.2
 simp only [n32,bq,ak,C,an,bx,z1,z2,Ps,OG,NK,show lim<=W.length by omega,Nc bw,a3,cd,SB,seval,NF,NL,NH,place,NB];refine Nvx (R:=R) (n0:=k) ((hn.ext a9).app _) u (c9 _) (Njw hi (by omega)) (by omega) (by omega) (by simp;omega) fun H3 p3 Z a5 cg=>?_
 have cu:=a5.len;simp only [Nk,Nm,Nn] at cu;have z:=a5.pre;have aq:=z.cells D (by simp);have bu:=zc aq;have ba:OD H H3:=a9.trans z.ext;have bn:NE H3 R=.map (WY P):=z.get O (PW O) (by simp);have o:((List.range (k+1)).map (Xc P L (YC 50 (NW P q) v))).length=k+1:=by simp
 have bh:∀j,j<=k->gt ((List.range (k+1)).map (Xc P L (YC 50 (NW P q) v))) j=Naq 50 (NW P) L q v j:=fun j hj=>by
  rw [OQ (by rw [o];omega)];simp [Niq]
 have ch:=cg.sl QF;refine NJ ?_;simp only [n32,bu,QE,No3,SB,seval,NF,NL];refine Npi (L:=L) (c:=cl) (p:=pl) NN ((ba.app).sl hn.sl) v2 (by simp;omega) (Xx v4) fun H4 q4 y S a6 ci F I df=>?_
 have cv:=a6.len;simp only [Nk,Nm,Nn] at cv;have A:=a6.pre;have cf:OD H H4:=ba.trans A.ext;have cz:NE H4 R=.map (WY P):=A.get bn (PW bn) (by simp);have bb:=A.ext.sl ch;have x:∀l,l∈S↔l∈L:=fun l=>F.mem_iff
 have cj:S.length=L.length:=F.length_eq;have bd:∀T∈(List.range (k+1)).map (Xc P L (YC 50 (NW P q) v)),okT T:=fun T hT=>by
  obtain ⟨j,_,rfl⟩:=List.mem_map.1 hT;exact Nfp u (Njw hi (by omega)) j
 obtain ⟨ai,ck⟩:=N16 u hp hq hr bv x I (late:=Naq 50 (NW P) L q v) (fun _=>rfl) U M K;generalize dc:(List.range (k+1)).map (Xc P L (YC 50 (NW P q) v))=Ts at *;refine NJ ?_;have wk:IntKind.i64.wrap ((k:Int)-1)=(k:Int)-1:=NR (by omega) (by omega);simp only [n32,wk,SB,seval,NL,NH,NG];refine NP (fun s:(Nat×Int×Int)×List (Int×Int×Int)×Option Addr×Nat=>s.1.1) (fun s fr G=>fr 10=.map (some R)/\fr 16=.slice p3 Ts.length Z/\fr 17=.slice q4 S.length y/\fr 18=.slice s.2.2.1 s.2.1.length s.2.2.2/\fr 19=Vi s.1.2.1/\fr 20=Vi s.1.2.2/\fr 21=Vi ((s.1.1:Int)-1)/\s.1.1<=k/\Chg [] H4 G/\Own H4.length G enc3 3 s.2.2.1 s.2.2.2 s.2.1/\
   0<=s.1.2.2/\s.1.2.2<=NV/\s.2.1++(goW (NW P) S (Naq 50 (NW P) L q v) s.1.1 s.1.2.1 s.1.2.2).map Sk=(goW (NW P) S (Naq 50 (NW P) L q v) k p ready).map Sk/\s.2.1.length+s.1.1<=k) ((k,p,ready),[],none,0)
  ⟨rfl,by rw [o];exact rfl,by rw [cj];exact rfl,(by simp only [Nn,FB,Nat.reduceEqDiff]),rfl,rfl,by rfl,Nf _,Chg.refl.app,.nil,hr,au,rfl,by simp⟩ ?_
 rintro ⟨⟨m,plant,there⟩,w,pw,cw⟩ fr G ⟨b8,b9,ay,ae,az,a0,g,N,a7,ah,av,aw,b,V⟩ hN;simp only at ae az a0 g N ah av aw b V;rw [NU N80.eq_1];refine NJ ?_
 match m,N,b,V,g,hN with
 | 0,N,b,V,g,hN=>
   have this:¬(0:Int)<=-1:=by decide
   replace g:fr 21=Vi (-1):=g;simp only [goW,List.map_nil,Na] at b;subst b;simp only [n32,ae,g,Nc this,SB,seval,NL,NH,NC];rw [Nz];exact c6 _ v _ pw cw he ((cf.chg.trans a7).app) bv U ai (by rw [ck];omega) ((ah.le (by omega)).app _)
 | m+1,N,b,V,g,hN=>
   have e1:((m+1:Nat):Int)-1=(m:Int):=by omega
   rw [e1] at g;have c0:(0:Int)<=(m:Int):=by omega
   have cy:m<Ts.length:=by rw [o];omega
   have wm:IntKind.i64.wrap ((m:Int)-1)=(m:Int)-1:=NR (by omega) (by omega);simp only [n32,ay,g,Nh c0,SB,seval,NL,NH];refine Ntr (c16:=Z) (cs:=y) (H:=H4) (S:=S) (L:=L) (left:=m) (Ts:=Ts) (w:=w) (q:=q4) (plant:=plant) (there:=there) u (fun l hl=>(x l).1 hl) (by omega) cz (by omega) (a7.app) ci bb bd cy (by rw [o];omega) ⟨av,aw⟩ (ah.app _) (by omega) b8 b9 ae az a0 g (by simp only [ne_eq,FB,Nat.reduceEqDiff]) rfl rfl fun fr' G' b7 ax a8 bz b0 c8 b6 ab=>?_
   have ad:fr' 17=.slice q4 S.length y:=c8.trans ay;have bg:=bh m (by omega);cases hpk:Y5 (NW P) S (gt Ts m) plant there with
   | none=>
     obtain ⟨r18,r19,r20,rO⟩:=ab w plant there (by rw [hpk];exact ⟨rfl,rfl,rfl⟩);rw [bg] at hpk;simp only [goW,hpk] at b;simp only [n32,b6,wm,SB,seval,NL,NH];exact hN ((m,plant,there),w,b7,ax) _ _ ⟨bz,b0,ad,r18,r19,r20,rfl,by show m<=k;omega,a8.app,rO.app _,av,aw,b,by show w.length+m<=k;omega⟩ (by show m<m+1;omega)
   | some r=>
     obtain ⟨l,a⟩:=r;obtain ⟨r18,r19,r20,rO⟩:=ab (w++[Sk (l,a)]) l.dst (a+l.mins) (by rw [hpk];exact ⟨rfl,rfl,rfl⟩);obtain ⟨bk,c5⟩:=Ny7 hpk;obtain ⟨n1,n2,n3⟩:=Z8 (u.fine l ((x l).1 bk)) c5;have cn:=u.fine l ((x l).1 bk);unfold Fine at cn;rw [bg] at hpk;simp only [goW,hpk,Oj] at b;simp only [n32,b6,wm,SB,seval,NL,NH];exact hN ((m,l.dst,a+l.mins),w++[Sk (l,a)],b7,ax) _ _ ⟨bz,b0,ad,r18,r19,r20,rfl,by show m<=k;omega,a8.app,rO.app _,by show 0<=a+l.mins;omega,n3,by rw [No];exact b,by show (w++[Sk (l,a)]).length+m<=k;rw [Nk];simp only [Nm,Nn];omega⟩ (by show m<m+1;omega)
end Go.Proofs.YtkppjkkkdpcgiaaGreat.Fn



namespace Go.Proofs.YtkppjkkkdpcgiaaGreat.Fn
open Go.AM Go.AM.Sym Go.Net Go.Scan
variable {x:Ev} {S es:List Ev} {n:Nat} {L:List Leg} {item now:Int} {α:Type} {P ks:List Int} {w:List (Leg×Int)}
structure An where
 (kind ev other place mins:Int)
 deriving DecidableEq,Inhabited
abbrev Stp:=Int×Int×Int
theorem Nnj (h:L.Pairwise (fun a b=>a.id≠b.id)):∀a∈L,∀b∈L,a.id=b.id->a=b:=by
 intro a d b f e;obtain ⟨i,hi,rfl⟩:=List.mem_iff_getElem.1 d;obtain ⟨j,c,rfl⟩:=List.mem_iff_getElem.1 f;rw [Pc] at h;rcases Nat.lt_trichotomy i j with h1 | h1 | h1
 ·exact absurd e (h i j hi c h1)
 ·subst h1;rfl
 ·exact absurd e.symm (h j i c hi h1)
def Won (P:List Int) (L:List Leg) (p q t:Int) (w:List (Leg×Int)):Prop:=SI P L p q t=0/\∃v,0<=v/\Vd L p t q v/\BestW L p t q v w
theorem Won.uniq {p q t:Int} {w':List (Leg×Int)} (h:Won P L p q t w) (h':Won P L p q t w'):w=w':=by
 obtain ⟨he,v,g,d,f⟩:=h;obtain ⟨_,v',c,a,b⟩:=h';have e:v=v':=SL.uniq d a;subst e;exact BestW.uniq (fun _=>Iff.rfl) (Nnj (Xx (Sg (VN he).1).2.2.2)) f b
noncomputable def WW (P:List Int) (L:List Leg) (p q t:Int):List (Leg×Int):=open Classical in if h:∃w,Won P L p q t w then h.choose else []
theorem YG {p q t:Int} (h:Won P L p q t w):WW P L p q t=w:=by
 have hex:∃w,Won P L p q t w:=⟨w,h⟩
 unfold WW;rw [dif_pos hex];exact hex.choose_spec.uniq h
theorem Nk4 {p q t:Int} (h:SI P L p q t≠0):WW P L p q t=[]:=by
 unfold WW;exact dif_neg fun ⟨_,a,_⟩=>h a
theorem Nhg {p q t:Int} (hn:Vd L p t q (-1)):WW P L p q t=[]:=by
 unfold WW;refine dif_neg fun ⟨w,_,v,b,a,_⟩=>?_
 have:=SL.uniq hn a;omega
def Y6 (s:Stp) (x:Leg×Int):An:=⟨5,s.2.1,s.1,x.1.dst,0⟩
noncomputable def SS (P:List Int) (L:List Leg) (es:List Ev) (s:Stp):List An:=
 (WW P L (gt es s.1.toNat).place (gt es s.2.1.toNat).place (gt es s.1.toNat).time).dropLast.map (Y6 s)
noncomputable def Ru (P:List Int) (L:List Leg) (es:List Ev) (s:Stp):List An:=
 let b:=(gt es s.2.1.toNat).place
 if (gt es s.1.toNat).kind=4 then [⟨2,s.2.1,s.1,b,0⟩] else if s.2.2=80 then [⟨3,s.2.1,s.1,b,0⟩] else if 0<s.2.2 then [⟨4,s.2.1,s.1,b,s.2.2⟩]
 else if (gt es s.1.toNat).place≠b then SS P L es s else []
def Y7 (y x:Ev):Prop:=y.place=x.place/\y.kind=x.kind
instance (y x:Ev):Decidable (Y7 y x):=by unfold Y7;infer_instance
def TR (x:Ev):List Ev->Int
 | []=>NV+1
 | y::l=>if Y7 y x then y.time else TR x l
def Ym (x:Ev) (i:Nat) (y:Ev):An:=⟨6,(i:Int),0,x.place,y.time-x.time⟩
def Nfa (x:Ev) (lim:Int) (y:Ev):Prop:=Y7 y x/\x.time<=y.time/\y.time<lim
instance (x:Ev) (lim:Int) (y:Ev):Decidable (Nfa x lim y):=by unfold Nfa;infer_instance
def R9 (es tw:List Ev) (i:Nat):List An:=(tw.filter fun y=>Nfa (gt es i) (TR (gt es i) (es.drop (i+1))) y).map (Ym (gt es i) i)
def UX (es:List Ev) (ks:List Int) (now:Int):List An:=
 match ks.getLast? with
 | none=>[]
 | some k=>if (gt es k.toNat).kind=4\/now-(gt es k.toNat).time<=20160 then [] else [⟨7,k,0,(gt es k.toNat).place,now-(gt es k.toNat).time⟩]
def toN (n:Nat) (ss:List Stp):List Stp:=ss.foldl (fun l s=>l.set s.2.1.toNat s) (List.replicate n (0,0,0))
def Wz (n:Nat) (ks:List Int):List Bool:=ks.foldl (fun l k=>l.set k.toNat true) (List.replicate n false)
noncomputable def atN (P:List Int) (L:List Leg) (es tw:List Ev) (ks:List Int) (ss:List Stp) (i:Nat):List An:=
 (if gt (Wz es.length ks) i then [] else [⟨1,(i:Int),0,(gt es i).place,0⟩])++((if (gt (toN es.length ss) i).1<(gt (toN es.length ss) i).2.1 then Ru P L es (gt (toN es.length ss) i) else [])++R9 es tw i)
noncomputable def SX (P:List Int) (L:List Leg) (es tw:List Ev) (ks:List Int) (ss:List Stp) (now:Int):List An:=(List.range es.length).flatMap (atN P L es tw ks ss)++UX es ks now
def TQ (P:List Int) (L:List Leg) (S:List Ev) (item now:Int):Int:=
 if QD P L≠0 then QD P L else if ¬QK S\/item<1\/999999<item\/now<0\/NV<now then 2 else if Sz (OH S).1 item=[] then 6 else YE P L (Sz (OH S).1 item)
theorem Njx {l:List Ev} (h:item≠0):x∈Sz l item↔x∈l/\x.item=item:=by
 unfold Sz;simp [h]
theorem XX (l:List Ev) (item:Int):(Sz l item).Sublist l:=List.filter_sublist
theorem Neq (S:List Ev) (item:Int):Yz (Sz (OH S).1 item):=(Nlp S).1.sublist (XX _ _)
theorem Nbl (hS:QK S) (hi:1<=item) (d:x∈Sz (OH S).1 item):RA x/\0<=x.time/\x.time<=NV/\x.item=item:=by
 obtain ⟨h1,h2⟩:=(Njx (by omega)).1 d;obtain ⟨s,hs,rfl⟩:=MP (.inl h1);have b:=Nbc hS.2 (.inl h1);have a:=hS.2 s hs;refine ⟨a,b.1, ?_,h2⟩;have c:=a.2.2.2.2.2.2;unfold UE at c;unfold NV;have e:({ s with time:=TL (QZ S) s }:Ev).time<=s.seen:=b.2;omega
theorem N5h (hS:QK S) (hi:1<=item):Ngs (Sz (OH S).1 item):=fun i a=>by
 have b:=Nbl hS hi (PM a);refine ⟨b.1,b.2.1,b.2.2.1,fun c=>⟨?_, ?_⟩⟩
 ·rw [b.2.2.2,(Nbl hS hi (PM (i:=0) (by omega))).2.2.2]
 ·have:=Pc.1 (Neq S item) (i-1) i (by omega) a (by omega);rw [OQ a,OQ (show i-1<_ by omega)];exact this
theorem Nsx:(Sz (OH S).1 item).length<=S.length:=by
 have:=(XX (OH S).1 item).length_le;have:=MQ S;omega
theorem Nh8 (h:QD P L≠0):TQ P L S item now=QD P L:=Nl h
theorem Nbp (h:QD P L=0) (h2:¬QK S\/item<1\/999999<item\/now<0\/NV<now):TQ P L S item now=2:=by
 unfold TQ;rw [Ng (by simpa using h),Nl h2]
theorem Nh7 (h:QD P L=0) (hS:QK S) (h1:1<=item) (h2:item<=999999) (b:0<=now) (c:now<=NV) :
  TQ P L S item now=if Sz (OH S).1 item=[] then 6 else if 40<(Sz (OH S).1 item).length then 5 else 0:=by
 have a:¬(¬QK S\/item<1\/999999<item\/now<0\/NV<now):=by
  rintro (h | h | h | h | h)
  ·exact h hS
  all_goals omega
 unfold TQ;rw [Ng (by simpa using h),Ng a];have e:YE P L (Sz (OH S).1 item)=if 40<(Sz (OH S).1 item).length then 5 else 0:=by
  unfold YE;rw [Ng (by simpa using h),Nl (N5h hS h1)]
 rw [e]
theorem Nke [Inhabited α] {l:List α} {i j:Nat} {x:α} (hi:i<l.length):gt (l.set i x) j=if i=j then x else gt l j:=by
 unfold gt;rw [Nb,Nb,Ob];split
 ·simp []
 ·rfl
theorem Nbs:∀(ks:List Int) (l:List Bool),(ks.foldl (fun l k=>l.set k.toNat true) l).length=l.length
 | [],_=>rfl
 | k::ks,l=>by rw [O1,Nbs ks,Py]
theorem Nnd:∀(ks:List Int) (l:List Bool),(∀k∈ks,0<=k/\k<l.length)->∀i,gt (ks.foldl (fun l k=>l.set k.toNat true) l) i=(decide ((i:Int)∈ks)||gt l i)
 | [],_,_,i=>by simp
 | k::ks,l,h,i=>by
   have hk:=h k Nu;rw [O1,Nnd ks _ (fun x a=>by rw [Py];exact h x (Nr _ a)),Nke (by omega)];by_cases e:k.toNat=i
   ·have:(i:Int)=k:=by omega
    rw [Nl e];simp [this]
   ·have:(i:Int)≠k:=by omega
    rw [Ng e];simp [this]
theorem Nak [Inhabited α] {i:Nat} {x:α} (h:i<n):gt (List.replicate n x) i=x:=by
 rw [OQ (by simpa using h),List.getElem_replicate]
theorem N1s (h:∀k∈ks,0<=k/\k<n) {i:Nat} (hi:i<n):gt (Wz n ks) i=decide ((i:Int)∈ks):=by
 unfold Wz;rw [Nnd ks _ (by simpa using h),Nak hi,Bool.or_false]
theorem Nif:(Wz n ks).length=n:=by unfold Wz;rw [Nbs,Pa]
theorem Nja:∀(ss:List Stp) (l:List Stp),(ss.foldl (fun l s=>l.set s.2.1.toNat s) l).length=l.length
 | [],_=>rfl
 | k::ks,l=>by rw [O1,Nja ks,Py]
variable {ss:List Stp}
theorem Nsq:(toN n ss).length=n:=by unfold toN;rw [Nja,Pa]
def Uk (n:Nat) (s:Stp):Prop:=0<=s.1/\s.1<s.2.1/\s.2.1<n
def Na3 (ss:List Stp):Prop:=ss.Pairwise fun a b=>a.2.1≠b.2.1
theorem No8:∀(ss:List Stp) (l:List Stp) (i:Nat),(∀s∈ss,Uk l.length s)->(∀s∈ss,s.2.1≠i)->gt (ss.foldl (fun l s=>l.set s.2.1.toNat s) l) i=gt l i
 | [],_,_,_,_=>rfl
 | s::ss,l,i,h,hn=>by
   have hs:=h s Nu;have hi:=hn s Nu;unfold Uk at hs;rw [O1,No8 ss _ i (fun x a=>by rw [Py];exact h x (Nr _ a)) (fun x a=>hn x (Nr _ a)),Nke (by omega),Ng (by omega)]
theorem Nyi:∀(ss:List Stp) (l:List Stp),(∀s∈ss,Uk l.length s)->Na3 ss->∀s∈ss,gt (ss.foldl (fun l s=>l.set s.2.1.toNat s) l) s.2.1.toNat=s
 | [],_,_,_,_,h=>(O8 h).elim
 | a::ss,l,h,hd,s,hs=>by
   obtain ⟨d1,d2⟩:=List.pairwise_cons.1 hd;have c:=h a Nu;have h':∀x∈ss,Uk (l.set a.2.1.toNat a).length x:=fun x b=>by rw [Py];exact h x (Nr _ b)
   rw [O1];rcases Ns.1 hs with rfl | hs
   ·unfold Uk at c;rw [No8 ss _ _ h' (fun x b=>by have:=d1 x b;omega),Nke (by omega),Nl rfl]
   ·exact Nyi ss _ h' d2 s hs
theorem Nyf (h:∀s∈ss,Uk n s) (hd:Na3 ss) {s:Stp} (hs:s∈ss):gt (toN n ss) s.2.1.toNat=s:=Nyi ss _ (by simpa using h) hd s hs
theorem Nye (h:∀s∈ss,Uk n s) {i:Nat} (hi:i<n) (hn:∀s∈ss,s.2.1≠i):gt (toN n ss) i=(0,0,0):=by
 unfold toN;rw [No8 ss _ i (by simpa using h) hn,Nak hi]
theorem N4u (h:∀s∈ss,Uk n s) (hd:Na3 ss) {i:Nat} (hi:i<n) (a:(gt (toN n ss) i).1<(gt (toN n ss) i).2.1):gt (toN n ss) i∈ss/\(gt (toN n ss) i).2.1=i:=by
 by_cases hex:∃s∈ss,s.2.1=i
 ·obtain ⟨s,hs,e⟩:=hex;have:=Nyf h hd hs;have e2:s.2.1.toNat=i:=by omega
  rw [e2] at this;rw [this];exact ⟨hs,e⟩
 ·rw [Nye h hi (fun s hs e=>hex ⟨s,hs,e⟩)] at a;simp at a
def cS (s:Stp):Int:=if s.1<s.2.1 then s.2.2 else 0
theorem Nli (hk:Nhf es.length ks):(∀s∈QG P L es ks,Uk es.length s)/\Na3 (QG P L es ks):=by
 have asc:∀i,i+1<ks.length->gt ks i<gt ks (i+1):=fun i hi=>(hk.2 (i+1) hi).2.2 (by omega)
 have mono:∀j i,i<j->j<ks.length->gt ks i<gt ks j:=fun j=>by
  induction j with
  | zero=>intro i h;omega
  | succ j ih=>
    intro i h a;have h1:=asc j a;rcases Od i j with h2 | h2
    ·have:=ih i h2 (by omega);omega
    ·rw [show i=j by omega];exact h1
 refine ⟨fun s hs=>?_, ?_⟩
 ·unfold QG at hs;obtain ⟨i,hi,rfl⟩:=List.mem_map.1 hs;rw [List.mem_range] at hi;have h1:=hk.2 i (by omega);have h2:=hk.2 (i+1) (by omega);exact ⟨h1.1,asc i (by omega),h2.2.1⟩
 ·unfold Na3 QG;rw [List.pairwise_map];refine (List.pairwise_lt_range (n:=ks.length-1)).imp_of_mem fun {i j} hi a b=>?_
  rw [List.mem_range] at hi a;have:=mono (j+1) (i+1) (by omega) (by omega);show gt ks (i+1)≠gt ks (j+1);omega
def cA (a:An):Int:=if a.kind=1 then 30 else if a.kind=2\/a.kind=3 then 80 else if a.kind=4 then a.mins else 0
def Odz (l:List An):Int:=(l.map cA).sum
def YD (a:An):Prop:=a.kind=2\/a.kind=3\/a.kind=4
instance (a:An):Decidable (YD a):=by unfold YD;infer_instance
def nS (l:List An) (i:Nat):Nat:=l.countP fun a=>decide (YD a/\a.ev=i)
def N9l (l:List An) (i:Nat):Bool:=l.any fun a=>decide (a.kind=1/\a.ev=i)
section
variable {P:List Int} {L:List Leg} {es tw:List Ev}
def Odu (P:List Int) (L:List Leg) (es:List Ev) (s:Stp):Prop:=s.2.2=QJ P L (gt es s.1.toNat) (gt es s.2.1.toNat)
def Ohf (a b:An):Prop:=(b.kind≠7->a.ev<=b.ev)/\(a.kind=1->b.kind=1->a.ev≠b.ev)
section
variable {ks:List Int} {ss:List Stp} (hk:Nhf es.length ks) (hs:∀s∈ss,Uk es.length s) (hd:Na3 ss) (hp:∀s∈ss,Odu P L es s)
include hs hd hp
structure AtOk (es:List Ev) (i:Nat) (a:An):Prop where
 ev:a.ev=i
 kind:1<=a.kind/\a.kind<=6
 place:a.kind=1->a.place=(gt es i).place
 oth:0<=a.other/\a.other<es.length
 del:a.kind=2\/a.kind=3->((gt es a.other.toNat).kind=4↔a.kind=2)
 mins:a.kind=4->1<=a.mins/\a.mins<=60
noncomputable def Ngy (P:List Int) (L:List Leg) (es tw:List Ev) (ks:List Int) (ss:List Stp) (m:Nat):List An:=(List.range m).flatMap (atN P L es tw ks ss)
end
end
section
variable {P:List Int} {L:List Leg} {es tw:List Ev} {ks:List Int} {ss:List Stp} (hs:∀s∈ss,Uk es.length s) (hd:Na3 ss) (hp:∀s∈ss,Odu P L es s)
include hs hd hp
end
theorem Ne7:UX es ks now=[]\/∃k,ks.getLast? = some k/\UX es ks now=[⟨7,k,0,(gt es k.toNat).place,now-(gt es k.toNat).time⟩]/\(gt es k.toNat).kind≠4/\20160<now-(gt es k.toNat).time:=by
 unfold UX;cases h:ks.getLast? with
 | none=>exact .inl rfl
 | some k=>
   simp only;by_cases h2:(gt es k.toNat).kind=4\/now-(gt es k.toNat).time<=20160
   ·rw [Nl h2];exact .inl rfl
   ·rw [Ng h2];exact .inr ⟨k,rfl,rfl,fun h=>h2 (.inl h),by omega⟩
structure ListOk (P:List Int) (L:List Leg) (es:List Ev) (ks:List Int) (ss:List Stp) (now:Int) (A:List An):Prop where
 all:∀a∈A,(∃i,i<es.length/\AtOk es i a)\/(a.kind=7/\a.other=0/\ks.getLast? = some a.ev/\(gt es a.ev.toNat).kind≠4/\a.mins=now-(gt es a.ev.toNat).time/\20160<a.mins)
 ord:A.Pairwise Ohf
 sum:Odz A=Sr P L es ks
 stp:∀i,i<es.length->nS A i=if 0<cS (gt (toN es.length ss) i) then 1 else 0
 str:∀i:Nat,i<es.length->N9l A i=!decide ((i:Int)∈ks)
end Go.Proofs.YtkppjkkkdpcgiaaGreat.Fn



namespace Go.Scan
open Go.AM Go.AM.Sym
theorem Nfy (x:Mk):∀(l:List Mk) (p:Mk),UZ p (l++[x])=UZ p l++(if Rs x ((p::l).getLast (by simp)) then [] else [x])
 | [],p=>by
   by_cases h:Rs x p
   ·simp [UZ,h]
   ·simp [UZ,h]
 | m::l,p=>by
   rw [Ox,UZ,Nfy x l m,UZ];have e:(p::m::l).getLast (by simp)=(m::l).getLast (by simp):=List.getLast_cons (by simp);rw [e];split
   ·rfl
   ·rfl
theorem Yn {l:List Mk} {m:Nat} (a:1<=m) (h1:m<l.length):Sy (l.take (m+1))=Sy (l.take m)++(if Rs (gt l m) (gt l (m-1)) then [] else [gt l m]):=by
 cases l with
 | nil=>simp at h1
 | cons p l=>
   obtain ⟨m,rfl⟩:∃k,m=k+1:=⟨m-1,by omega⟩
   have hm:m<l.length:=by simpa using h1
   have e1:(p::l).take (m+1+1)=p::(l.take m++[l[m]]):=by
    rw [Qv,Nv hm]
   have e2:(p::l).take (m+1)=p::l.take m:=Qv ..;rw [e1,e2];show p::UZ p (l.take m++[l[m]])=(p::UZ p (l.take m))++_;rw [Nfy,QL,OQ hm,P7,Ox];have e3:(p::l.take m).getLast (by simp)=gt (p::l) m:=by
    rw [List.getLast_eq_getElem,OQ (by simp;omega)];simp only [Nm,N5,P1 (Nat.le_of_lt hm),P7];cases m with
    | zero=>rfl
    | succ k=>simp
   rw [e3]
theorem Yo {l:List Mk}:∀m,m<=l.length->(∀j,1<=j->j<m->¬Rs (gt l j) (gt l (j-1)))->Sy (l.take m)=l.take m
 | 0,_,_=>by rw [P2];rfl
 | 1,h,_=>by
   cases l with
   | nil=>simp at h
   | cons p l=>rfl
 | m+2,h,hs=>by
   rw [Yn (m:=m+1) (by omega) (by omega),Yo (m+1) (by omega) fun j h1 h2=>hs j h1 (by omega),Ng (hs (m+1) (by omega) (by omega)),Nv (i:=m+1) (by omega),OQ]
end Go.Scan



namespace Go.Proofs.YtkppjkkkdpcgiaaGreat.Fn
open Go.AM Go.AM.Sym Go.Scan Go.Sort
variable {EV S kr:List Ev} {j R c n B Mp kc tc:Nat} {Q:Value->NA->Prop} {H G:NA} {kp tp:Option Addr} {M:List Mk} {es:List ((Int×Int×Int)×Int)}
theorem Nd9 {lo:Nat} (h:lo<=n) (hn:n<2 ^ 62):TN 3 (.slice (Sa R) n (loose 3)) (some (Vi lo)) none none=some (.slice (some ⟨R,lo*3,none⟩) (n-lo) (loose 3)):=by
 have a:bounds unV n n ((some (Value.int .i64 (lo:Int))).map .const) ((none:Option Value).map .const) none=some (lo,n,n):=by
  rw [Nav];exact (Nkq (by omega) (by omega)).trans (by rw [N1])
 simp only [Ny,Oo] at a;simp only [TN,TH,Ny,Oo,if_true,a];rw [addr_add,Nx]
theorem Nyr {hi:Nat} (h:hi<=n) (hn:n<2 ^ 62):TN 3 (.slice (Sa R) n (loose 3)) none (some (Vi hi)) none=some (.slice (Sa R) hi (loose 3)):=by
 have a:bounds unV n n ((none:Option Value).map .const) ((some (Value.int .i64 (hi:Int))).map .const) none=some (0,hi,n):=by
  rw [Nav];exact (Zo (by omega) (by omega)).trans (by rw [N1])
 simp only [Ny,Oo] at a;simp only [TN,TH,Ny,Oo,if_true,a];rw [addr_add,Qi,Nat.sub_zero]
theorem Nxv {m:Nat}:((List.range (m*3)).map fun j=>[Value.int .i64 0,Vi 0,Vi 0].getD (j % 3) undef)=(List.replicate m SE).flatMap PY:=by
 have e:(List.replicate m SE).flatMap PY=List.replicate (m*3) (Vi 0):=by
  induction m with
  | zero=>rfl
  | succ m ih=>
    rw [Po,Ol,ih,show (m+1)*3=m*3+1+1+1 by omega,Po,Po,Po];rfl
 rw [e,List.eq_replicate_iff];refine ⟨by simp,fun v a=>?_⟩;obtain ⟨j,_,rfl⟩:=List.mem_map.mp a;have:j % 3<3:=P6 _ (by decide);generalize j % 3=k at this
 match k,this with
 | 0,_=>rfl
 | 1,_=>rfl
 | 2,_=>rfl
theorem Nob {d:List Mk} {k:Nat} (hk:k<=d.length):QI (d.flatMap PY) (k*3) ((List.replicate (d.length-k) SE).flatMap PY)=(d.take k++List.replicate (d.length-k) SE).flatMap PY:=by
 have h1:(d.take k).flatMap PY++(d.drop k).flatMap PY++[]=d.flatMap PY:=by rw [Na,<-Pi,Pv]
 have h2:((d.take k).flatMap PY).length=k*3:=by rw [OW OY,N5,P1 hk]
 have a:((List.replicate (d.length-k) SE).flatMap PY).length=((d.drop k).flatMap PY).length:=by rw [OW OY,OW OY];simp
 rw [<-h1,<-h2,Ws _ _ _ _ a,Na,Pi]
theorem Nrv [OB] {lim:Nat} {l:List Mk} (Y:NE H R=Vc (l.flatMap PY)) (hl:lim<=R) (hn:l.length<65536)
  (hQ:∀G,Sl G PY 3 (Sa R) (Sy l)->Chg [R] H G->Q (.slice (Sa R) (Sy l).length (loose 3)) (G++[])) :
  NQ E false lim 126 [.slice (Sa R) l.length (loose 3),.func (.func 127) #[] #[]] H Q:=by
 have t:=NM Y;refine QN (by decide) Odl rfl ?_;rw [Odr,N67];have done:Sy l=l->Q (.slice (Sa R) l.length (loose 3)) (H++[]):=fun he=>by
  have:=hQ H (by rw [he];exact Sl.row OY Y) (Chg.refl)
  rwa [he] at this
 by_cases h2:l.length<2
 ·have hc:(l.length:Int)<2:=by omega
  simp only [n126,N49,hc,SB,seval,NL,NH,reduceCtorEq,NG,NC];refine done ?_
  match l,h2 with
  | [],_=>rfl
  | [_],_=>rfl
 have hc:¬(l.length:Int)<2:=by omega
 simp only [n126,hc,SB,seval,NL,NH,reduceCtorEq,NG];refine NP (fun i=>l.length-i) (fun i fr G=>1<=i/\i<=l.length/\fr 0=.slice (Sa R) l.length (loose 3)/\fr 1=.func (.func 127) #[] #[]/\fr 5=Vi i/\G=H++[]/\∀j,1<=j->j<i->¬Rs (gt l j) (gt l (j-1))) 1
  ⟨Nf _,by omega,rfl,rfl,by rfl,rfl,fun j h1 h2=>by omega⟩ ?_
 rintro i fr G ⟨i1,i2,C,V,W,rfl,x⟩ hN;rw [NU N1d.eq_1];have z:Sl H PY 3 (Sa R) l:=Sl.row OY Y;have al:IntKind.i64.wrap ((i:Int)+1)=((i+1:Nat):Int):=OC (by omega);have O:IntKind.i64.wrap ((i:Int)-1)=((i-1:Nat):Int):=Zy (by omega) (by omega);by_cases b:i<l.length
 case neg=>
  obtain rfl:i=l.length:=by omega
  simp only [n126,N49,C,W,ND,b,SB,seval,NL,NH,reduceCtorEq,NC];refine done ?_;have:=Yo l.length (Nf _) x
  rwa [N9] at this
 have K:∀X j,j<l.length->AM.loadCells (H++X) (Vs (Sa R) 3 j) 3=some (PY (gt l j)):=fun X j hj=>(z.app X).loadCells OY hj
 have v:=fun c (k:IntKind) (H1:NA)=>z.idx (c:=c) (k:=k) (H1:=H1) b
 have o:=fun c (k:IntKind) (H1:NA)=>z.idx (c:=c) (k:=k) (H1:=H1) (show i-1<l.length by omega)
 have g:=fun X=>K X i b
 have f:=fun X=>K X (i-1) (by omega)
 by_cases a:Rs (gt l i) (gt l (i-1))
 case neg=>
  simp only [n126,C,V,W,ND,b,v,o,g,f,O,al,MU,Nw a,SB,seval,NF,NL,NH,reduceCtorEq];refine hN (i+1) _ _ ⟨by omega,by omega,C,V,rfl,rfl,fun j h1 h2=>?_⟩ (by omega);rcases (by omega:j<i\/j=i) with h | rfl
  ·exact x j h1 h
  ·exact a
 have ah:=Nd9 (R:=R) (n:=l.length) (lo:=i) (by omega) (by omega);simp only [n126,C,V,W,ND,b,v,o,g,f,O,MU,Nj a,ah,SB,seval,NF,NL,NH,reduceCtorEq];have ci:Sy (l.take (i+1))=l.take i:=by
  rw [Yn (m:=i) i1 b,Nl a,Na];exact Yo i i2 x
 refine NP (S:=Nat×Nat×List Mk) (fun s=>l.length-i-s.1) (fun s fr G=>1<=s.1/\s.1<=l.length-i/\s.2.1+1<=i+s.1/\s.2.2.length=l.length/\s.2.2.take s.2.1=Sy (l.take (i+s.1))/\(∀j,s.2.1<=j->j<l.length->gt s.2.2 j=gt l j)/\
  fr 0=.slice (Sa R) l.length (loose 3)/\fr 1=.func (.func 127) #[] #[]/\fr 5=Vi s.2.1/\fr 6=.slice (some ⟨R,i*3,none⟩) (l.length-i) (loose 3)/\fr 7=Vi s.1/\G=DH PY H R s.2.2.toArray++[]) (1,i,l)
  ⟨Nf _,by simp only;omega,Nf _,rfl,ci.symm,fun _ _ _=>rfl,C,V,W,rfl,by rfl,by rw [N7q Y]⟩ ?_
 rintro ⟨q,k,d⟩ an G ⟨q1,q2,k1,dl,A,dr,f0,f1,f5,B,U,rfl⟩ hM;simp only at q1 q2 k1 dl A dr f5 U;rw [NU N1e.eq_1];have M:∀X,Sl (DH PY H R d.toArray++X) PY 3 (Sa R) d:=fun X=>by
  have:=N9f (X:=X) (d:=d.toArray) (p:=Sa R) rfl t OY;simpa using this
 have T:IntKind.i64.wrap ((q:Int)+1)=((q+1:Nat):Int):=OC (by omega);have P:IntKind.i64.wrap ((q:Int)-1)=((q-1:Nat):Int):=Zy (by omega) (by omega);have am:IntKind.i64.wrap ((k:Int)+1)=((k+1:Nat):Int):=OC (by omega);by_cases Z:q<l.length-i
 ·have J:∀r,r<l.length-i->∀(c:Nat) (kk:IntKind) (H1:NA),Vq 3 (.slice (some ⟨R,i*3,none⟩) (l.length-i) c) (.int kk (r:Int)) H1=some (.pointer (some (Vs (Sa R) 3 (i+r))),H1):=fun r hr c kk H1=>by
   rw [Zc hr];simp only [Vs,addrOf,Pj,addr_add,Nx,P4]
  have F:=J q Z;have D:=J (q-1) (by omega);have g:=fun X=>(M X).loadCells OY (i:=i+q) (by omega)
  have f:=fun X=>(M X).loadCells OY (i:=i+(q-1)) (by omega)
  rw [dr (i+q) (by omega) (by omega)] at g;rw [dr (i+(q-1)) (by omega) (by omega)] at f;have ct:=Yn (l:=l) (m:=i+q) (by omega) (by omega);rw [show i+q-1=i+(q-1) by omega] at ct;by_cases u:Rs (gt l (i+q)) (gt l (i+(q-1)))
  ·rw [Nl u,Na] at ct;simp only [n126,f1,B,U,ND,Z,F,D,g,f,T,P,MU,Nj u,SB,seval,NF,NL,NH,RN];exact hM (q+1,k,d) _ _ ⟨by simp only;omega,by simp only;omega,by simp only;omega,dl,by rw [A];exact ct.symm,dr,f0,f1,f5,B,rfl,rfl⟩ (by simp only;omega)
  ·rw [Ng u] at ct;have N:=Odw (lim:=lim) (X:=[]) (d:=d.toArray) (p:=Sa R) (i:=k) (y:=gt l (i+q)) rfl t hl OY (by simp;omega);have ag:d.toArray.setIfInBounds k (gt l (i+q))=(d.set k (gt l (i+q))).toArray:=by simp
   rw [ag] at N;have I:=fun c (kk:IntKind) (H1:NA)=>Zc (e:=3) (n:=k) (len:=l.length) (c:=c) (p:=⟨R,0,none⟩) (k:=kk) (H:=H1) (by omega)
   have ab:(⟨R,0,none⟩:Addr).add (k*3)=Vs (Sa R) 3 k:=rfl;rw [ab] at I;simp only [n126,f0,f1,f5,B,U,ND,Z,F,D,g,f,T,P,am,MU,Nw u,I,N,OY,SB,seval,NF,NL,NH,RN,reduceCtorEq,NB];refine hM (q+1,k+1,d.set k (gt l (i+q))) _ _ ⟨by simp only;omega,by simp only;omega,by simp only;omega,by simp only [Py];exact dl, ?_,fun j h1 h2=>?_,f0,f1,rfl,B,rfl,rfl⟩ (by simp only;omega)
   ·show (d.set k (gt l (i+q))).take (k+1)=Sy (l.take (i+q+1));rw [ct,<-A,Nv (by simp;omega),List.getElem_set_self,List.take_set_of_le (Nf _)]
   ·simp only at h1⊢;have h3:j<(d.set k (gt l (i+q))).length:=by simp;omega
    rw [OQ h3,List.getElem_set_ne (by omega),<-OQ (by omega)];exact dr j (by omega) h2
 ·obtain rfl:q=l.length-i:=by omega
  rw [show i+(l.length-i)=l.length by omega,N9] at A;rw [show i+(l.length-i)=l.length by omega] at k1;have ad:(Sy l).length=k:=by rw [<-A,N5];omega
  have ai:=Nd9 (R:=R) (n:=l.length) (lo:=k) (by omega) (by omega);have ak:=Nyr (R:=R) (n:=l.length) (hi:=k) (by omega) (by omega);have ae:¬l.length-k=0:=by omega
  have aa:AM.storeAt lim (DH PY H R d.toArray++[]) ⟨R,k*3,none⟩ ((List.replicate (l.length-k) SE).flatMap PY)=some (DH PY H R (d.take k++List.replicate (d.length-k) SE).toArray++[]):=by
   have hg:=Nk1 (enc:=PY) (X:=[]) (d:=d.toArray) t;rw [Ti,hg];have L:((List.replicate (l.length-k) SE).flatMap PY).length=(l.length-k)*3:=by rw [OW OY,Pa]
   have w:(d.flatMap PY).length=l.length*3:=by rw [OW OY,dl]
   simp only [L,w];rw [Nl ⟨hl,by omega⟩,<-dl,Nob (by omega)];simp only [Na,DH,List.set_set]
  simp only [n126,N49,f0,f5,B,U,ND,Z,ai,ak,ae,Nxv,aa,SB,seval,NL,NH,reduceCtorEq,NC];have aj:Sl (DH PY H R (d.take k++List.replicate (d.length-k) SE).toArray) PY 3 (Sa R) (Sy l):=by
   have h1:=N9f (X:=[]) (d:=(d.take k++List.replicate (d.length-k) SE).toArray) (p:=Sa R) rfl t OY;rw [Na] at h1;have h2:=Sl.pre h1 OY;rw [<-A];exact h2
  have:=hQ _ aj ⟨by simp [DH],fun j hj hA=>QC (by simpa using hA)⟩
  rwa [ad] at this
theorem Nn7 [OB] {lim:Nat}:NQ E false lim 126 [Vz,.func (.func 127) #[] #[]] H Q=Q Vz H:=by
 refine NQ.eq ?_;refine QN (by decide) Odl rfl ?_;rw [Odr,N67];simp only [n126,N49,SB,seval,NL,NH,reduceCtorEq,NG,NC];exact Na H
theorem Ntt [OB] {lim:Nat}:NQ E false lim 123 [.map (some R)] H Q=Q (.func (.func 143) #[] #[Vp H.length]) (H++[Vc [.map (some R)]]):=by
 refine NQ.eq ?_;refine QN (by decide) Ofc rfl ?_;rw [Ogp,Oa9];simp only [n123,Oef,SB,seval,NL,NG,place,NB,NC]
def Vr (S:List Ev) (i:Nat):Ess:=(S.take i).foldl SY []
theorem Nir {i:Nat} (h:i<S.length):Vr S (i+1)=SY (Vr S i) (gt S i):=by
 unfold Vr;rw [Nv h,List.foldl_append,OQ h];rfl
theorem Nfr (S:List Ev):∀i,(Vr S i).length<=i
 | 0=>Nf _
 | i+1=>by
   rcases Od i S.length with h | h
   ·rw [Nir h];have:=Nfr S i;unfold SY;split
    ·rw [Nbj];have:=Nep (k:=SC (gt S i)) (v:=V3 (gt S i)) (l:=Vr S i);omega
    split
    ·rw [Nbj];have:=Nep (k:=SC (gt S i)) (v:=V3 (gt S i)) (l:=Vr S i);omega
    ·omega
   ·have e:Vr S (i+1)=Vr S i:=by unfold Vr;rw [Oc h,Oc (by omega)]
    rw [e];have:=Nfr S i;omega
theorem gather_ok [OB] {lim:Nat} {p:Option Addr} (hs:Sl H encN 6 p S) (hS:QK S) (hl:lim<=H.length)
  (hQ:∀G p' c',Sl G PY 3 p' (QZ S)->WU 3 c' (QZ S).length->Chg [] H G->Q (.slice p' (QZ S).length c') (G++[])) :
  NQ Ef false lim 93 [.slice p S.length c] H Q:=by
 have hn:=hS.1;refine Nho (by decide) rfl rfl ?_;rw [b93,c93];simp only [n93,SB,seval,NL,reduceCtorEq,NG,place];refine NP (fun i=>S.length-i) (fun i fr G=>i<=S.length/\fr 3=.map (some H.length)/\fr 12=.slice p S.length c/\fr 13=Vi S.length/\fr 14=Vi i/\NE G H.length=.map (TD kM vK (Vr S i))/\H.length<G.length/\Sl G encN 6 p S/\∀j,j<H.length->NE G j=NE H j) 0
  ⟨Np _,rfl,rfl,rfl,by rfl,by rw [NN];rfl,by simp,hs.app _,fun j w=>NS w⟩ ?_
 rintro i fr G ⟨hi,n,f,d,m,L,Z,gs,go⟩ hN;rw [NU N7z.eq_1];refine NJ ?_;have l:∀X,NE (G++X) H.length=.map (TD kM vK (Vr S i)):=fun X=>by rw [NS Z];exact L
 by_cases g:i<S.length
 ·have q:=fun X=>(gs.app X).loadCells OL g
  have h:=fun c (k:IntKind) (H1:NA)=>gs.idx (c:=c) (k:=k) (H1:=H1) g
  have r:IntKind.i64.wrap ((i:Int)+1)=((i+1:Nat):Int):=OC (by omega);have hf:RA (gt S i):=hS.2 _ (PM g);have P:=hf;unfold RA UE at P;have J:=Nir g;generalize ab:gt S i=s at *;have K:IntKind.i64.wrap (Int.tdiv s.seen 1440)=s.seen / 1440:=by
   rw [O5 (by omega)];exact NR (by omega) (by omega)
  have wd:IntKind.i64.wrap (s.seen-s.at')=s.seen-s.at':=NR (by omega) (by omega);have o:lim<=G.length:=by omega
  have hk:U6 (.ints [.i64,.i64]) (.agg #[Vi s.scanner,Vi (s.seen / 1440)])=true:=Ode (k:=SC s);have e:=Zg (vv:=vK) Odf (SC s) (Vr S i) 0;have D:kM (SC s)=.agg #[Vi s.scanner,Vi (s.seen / 1440)]:=rfl;have aa:vK (V3 s)=.agg #[Vi s.scanner,Vi s.at',Vi (s.seen-s.at')]:=rfl;rw [D] at e;have b:=Nre (SC s) (Vr S i) 0;rw [<-N17] at b;have fin:∀(es':Ess) (G1:NA) (X:NA),NE G1 H.length=.map (TD kM vK es')->es'=Vr S (i+1)->(∀j,j≠H.length->NE G1 j=NE G j)->G1.length=G.length->
    NE (G1++X) H.length=.map (TD kM vK (Vr S (i+1)))/\H.length<(G1++X).length/\Sl (G1++X) encN 6 p S/\∀j,j<H.length->NE (G1++X) j=NE H j:=by
   intro es' G1 X h1 h2 t l1;subst h2;refine ⟨by rw [NS (by omega)];exact h1,by simp;omega, ?_,fun j w=>by rw [NS (by omega),t j (by omega)];exact go j w⟩;refine (Sl.same gs fun a ha V=>?_).app _;subst ha;have:=hs.lt V;exact t _ (by omega)
  have A:∀es':List (Value×Value),∃G1,(∀X:NA,(G++X).set H.length (.map es')=G1++X)/\NE G1 H.length=.map es'/\Mut G G1 H.length:=fun es'=>OO Z _
  cases hc:fk (SC s) (Vr S i) 0 with
  | none=>
    rw [hc] at e b;simp only [Oo] at e b;have I:Vr S (i+1)=Xu (SC s) (V3 s) (Vr S i):=by rw [J];unfold SY;rw [<-b]
    obtain ⟨G1,e1,h1,t⟩:=A (TD kM vK (Vr S i)++[(.agg #[Vi s.scanner,Vi (s.seen / 1440)],.agg #[Vi s.scanner,Vi s.at',Vi (s.seen-s.at')])]);have v:NE G1 H.length=.map (TD kM vK (WI (SC s) (V3 s) (Vr S i))):=by
     rw [h1,<-Nkh (v':=V3 s) hc];simp only [TD,O7,Oj,List.map_nil];rfl
    simp only [n93,n,f,d,m,ND,g,h,q,o,OL,Sn,TC,TY,NI,K,wd,r,l,hk,e,e1,hl,SB,seval,NL,NH,RN,place,NB];obtain ⟨a1,a2,u,a4⟩:=fin _ G1 _ v (by rw [I,Nbj]) t.other t.len;exact hN (i+1) _ _ ⟨by omega,n,f,d,rfl,a1,a2,u,a4⟩ (by omega)
  | some x=>
    obtain ⟨j,old⟩:=x;rw [hc] at e b;simp only [Ny] at e b;have Y:vK old=.agg #[Vi old.scanner,Vi old.at',Vi old.off]:=rfl;rw [Y] at e;have y:Vr S (i+1)=if RG (V3 s) old then Xu (SC s) (V3 s) (Vr S i) else Vr S i:=by rw [J];unfold SY;rw [<-b]
    obtain ⟨G1,e1,h1,t⟩:=A ((TD kM vK (Vr S i)).set j (.agg #[Vi s.scanner,Vi (s.seen / 1440)],.agg #[Vi s.scanner,Vi s.at',Vi (s.seen-s.at')]));have v:NE G1 H.length=.map (TD kM vK (WI (SC s) (V3 s) (Vr S i))):=by
     rw [h1,<-(Nkg (v':=V3 s) hc).2.2];simp only [TD,List.map_set,Nat.sub_zero];rfl
    by_cases c1:s.seen-s.at'<old.off
    ·simp only [n93,n,f,d,m,ND,g,h,q,o,OL,Sn,TC,TY,NI,K,wd,r,l,hk,e,e1,hl,Nh c1,SB,seval,NL,NH,RN,place,NB];obtain ⟨a1,a2,u,a4⟩:=fin _ G1 _ v (by rw [y,Nl (.inl c1),Nbj]) t.other t.len;exact hN (i+1) _ _ ⟨by omega,n,f,d,rfl,a1,a2,u,a4⟩ (by omega)
    by_cases c2:s.seen-s.at'=old.off
    ·by_cases M:s.at'<old.at'
     ·simp only [n93,n,f,d,m,ND,g,h,q,o,OL,Sn,TC,TY,NI,K,wd,r,l,hk,e,e1,hl,Nc c1,Nh c2,Nh M,SB,seval,NL,NH,RN,place,NB];obtain ⟨a1,a2,u,a4⟩:=fin _ G1 _ v (by rw [y,Nl (.inr ⟨c2,M⟩),Nbj]) t.other t.len;exact hN (i+1) _ _ ⟨by omega,n,f,d,rfl,a1,a2,u,a4⟩ (by omega)
     ·simp only [n93,n,f,d,m,ND,g,h,q,o,OL,Sn,TC,TY,NI,K,wd,r,l,hk,e,Nc c1,Nh c2,Nc M,SB,seval,NL,NH,RN,place,NB];obtain ⟨a1,a2,u,a4⟩:=fin _ G _ L (by rw [y,Ng (by unfold RG V3;simp only;omega)]) (fun _ _=>rfl) rfl;exact hN (i+1) _ _ ⟨by omega,n,f,d,rfl,a1,a2,u,a4⟩ (by omega)
    ·simp only [n93,n,f,d,m,ND,g,h,q,o,OL,Sn,TC,TY,NI,K,wd,r,l,hk,e,Nc c1,Nc c2,SB,seval,NL,NH,RN,place,NB];obtain ⟨a1,a2,u,a4⟩:=fin _ G _ L (by rw [y,Ng (by unfold RG V3;simp only;omega)]) (fun _ _=>rfl) rfl;exact hN (i+1) _ _ ⟨by omega,n,f,d,rfl,a1,a2,u,a4⟩ (by omega)
 ·obtain rfl:i=S.length:=by omega
  have C:Vr S S.length=Vo S:=by unfold Vr Vo;rw [N9]
  rw [C] at L l;have hv:=fun (X:NA) (Q:Value->NA->Prop)=>NQ.eqF' (Q:=Q) (show NQ E false lim 123 [.map (some H.length)] (G++X) (fun v' H1=>v'=_/\H1=_) by rw [Ntt];exact ⟨rfl,rfl⟩)
  simp only [n93,n,d,m,ND,g,hv,SB,seval,NF,NL,NH];have U:=Nfr S S.length;rw [C] at U;refine Nt9 (es:=Vo S) (R:=H.length) (by simp;omega) (by rw [NN];rfl) (l _) (by omega) fun G1 p1 c1 hO hC=>?_
  have hL:(UI Si ((Vo S).map (·.2))).length=(Vo S).length:=by rw [(Tm Si _).length_eq,Nz]
  have z:∀j,j<H.length->NE G1 j=NE H j:=fun j w=>by
   rw [hC.other j (by simp;omega) (by simp),NS (by omega)];exact go j w
  have F:=hC.len;simp only [Nk,Nm,Nn] at F;rcases hO with ⟨h0,rfl,rfl⟩ | ⟨R,rfl,rfl,hR,N⟩
  ·have T:QZ S=[]:=by unfold QZ;rw [h0];rfl
   have hz:(Vo S).length=0:=by rw [<-hL,h0];rfl
   rw [hz];have O:=fun X (Q:Value->NA->Prop)=>NQ.eqF (Q:=Q) (show NQ E false lim 126 [Vz,.func (.func 127) #[] #[]] (G1++X) (fun v' H1=>v'=Vz/\H1=G1++X) by rw [Nn7];exact ⟨rfl,rfl⟩)
   simp only [n93,O,SB,seval,NF,NL,NC];have:=hQ G1 none 0 (by rw [T];rfl) (by rw [T];exact .inr ⟨Nf _,by decide⟩) ⟨by omega,fun j w _=>z j w⟩;rw [T] at this;exact this
  ·rw [<-hL];simp only [n93,SB,seval,NF,NL];simp only [Nk,Nm,Nn] at N;refine NQ.weak (E':=E) ?_;rw [Na];refine Nrv hR (by omega) (by omega) fun G2 W B=>?_
   refine NJ ?_;simp only [n93,SB,seval,NL,NC];refine hQ G2 _ _ W (.inl rfl) ⟨by have:=B.len;omega,fun j w _=>?_⟩;rw [B.other j (by omega) (by simp;omega)];exact z j w
theorem Yx {α:Type} {lim e bytes cap k b:Nat} {dest:Option Nat} {enc:α->List Value} {old:List α} {x:α} {ro:Bool} {rest:List Value} (he:∀x,(enc x).length=e) (h:e≠0) (j:NE H b=.cells ro (enc x)) (a:NE H R=Vc (old.flatMap enc++rest)) (hl:lim<=R)
  (hc:old.length+1<=cap) (hr:rest.length=(cap-old.length)*e) (f:cap<2 ^ 61) (m:(old.length+1)*bytes<=OX) :
  OP lim dest e bytes false (.slice (Sa R) old.length cap) (.slice (Sa b) 1 k) H=some (.slice (Sa R) (old.length+1) cap,H.set R (Vc ((old++[x]).flatMap enc++rest.drop e))):=by
 have g:=NM a;have d:AM.loadCells H ⟨b,0,none⟩ (1*e)=some (enc x):=by
  rw [PV,j];simp only [Nx,On,Nat.one_mul];rw [Nl (by rw [he];exact Nf _),<-he x,N9]
 have i:e<=rest.length:=by rw [hr];exact Nat.le_mul_of_pos_left e (by omega)
 have l:AM.loadCells H ⟨R,0,none⟩ (old.length*e)=some (old.flatMap enc):=by
  rw [PV,a];simp only [Nx,On];rw [Nl (by rw [Nk,OW he];omega),<-OW he,List.take_left]
 have c:AM.storeAt lim H (Addr.add ⟨R,0,none⟩ (old.length*e)) (enc x)=some (H.set R (Vc ((old++[x]).flatMap enc++rest.drop e))):=by
  simp only [addr_add,Ti,a,Nx];rw [Nl ⟨hl,by rw [Nk,OW he,he];omega⟩];have:=Ws (enc x) (old.flatMap enc) (rest.take e) (rest.drop e) (by rw [he,N5];omega);rw [No,Pv,OW he] at this;rw [this,Pi,Ol,Rp,Na]
 simp only [OP,firstCells,lenOf,d,l,c,if_false,N3,Nat.one_ne_zero];rw [Ng (by omega),Ng (by unfold loose;omega),Nl (by omega),Nl (by omega)]
def Nn2 (M:List Mk) (S:List Ev):List Ev:=S.map fun s=>{ s with time:=TL M s }
theorem X8:(Nn2 M S).length=S.length:=Nz ..
theorem N6p {i:Nat} (h:i<S.length):gt (Nn2 M S) i={ gt S i with time:=TL M (gt S i) }:=by
 rw [OQ (by rw [X8];exact h),OQ h];unfold Nn2;rw [Qw]
structure ESt (H:NA) (M:List Mk) (S:List Ev) (p pm:Option Addr) (B i:Nat) (G:NA):Prop where
 row:∃rest,rest.length=(S.length-i)*7/\NE G B=Vc (((Nn2 M S).take i).flatMap encE++rest)
 sm:Sl G PY 3 pm M
 ss:Sl G encN 6 p S
 old:∀j,j<H.length->NE G j=NE H j
 len:B<G.length
def Nl6 (p:Option Addr):List Nat:=match p with
 | none=>[]
 | some a=>[a.block]
theorem Ndm {p:Option Addr} (h:j∈Nl6 p):∃a,p=some a/\j=a.block:=by
 cases p with
 | none=>cases h
 | some a=>exact ⟨a,rfl,by simpa [Nl6] using h⟩
theorem Ndl {p:Option Addr} (h:j∉Nl6 p):∀a,p=some a->j≠a.block:=fun a e h2=>h (by rw [e];simp [Nl6,h2])
structure FSt (H:NA) (EV:List Ev) (B Mp:Nat) (kr tr:List Ev) (es:List ((Int×Int×Int)×Int)) (kp tp:Option Addr) (kc tc:Nat) (G:NA):Prop where
 mp:NE G Mp=.map (TD kS vI es)
 ev:NE G B=Vc (EV.flatMap encE)
 ko:Own (Mp+1) G encE 7 kp kc kr.reverse
 to:Own (Mp+1) G encE 7 tp tc tr.reverse
 ne:∀a b,kp=some a->tp=some b->a.block≠b.block
 old:∀j,j<H.length->NE G j=NE H j
 len:Mp<G.length
 rel:∀e,Nb0 (RD e) es=(Wx e kr).map (·.time)
 sub:∀x∈kr,x∈EV
 kn:kr=[]->kp=none
 tn:tr=[]->tp=none
theorem FSt.twice {tr:List Ev} {lim:Nat} (h:FSt H EV B Mp kr tr es kp tp kc tc G) (hl:lim<=H.length) (n:H.length<=B) (m:B<Mp) (e:Ev) (hn:tr.length<4000) (x y:Blk) :
  ∃G',OP lim none 7 56 false (.slice tp tr.length tc) (.slice (Sa (G.length+2)) 1 1) (G++[x,y,Vc (encE e)])=some (.slice (Sa (G.length+3)) (tr.length+1) (loose 7),G'++[])/\FSt H EV B Mp kr (e::tr) es kp (Sa (G.length+3)) kc (loose 7) (G'++[]):=by
 have len:=h.len;obtain ⟨G2,e2,d,_,c,g,_⟩:=h.to.step (lim':=lim) (bytes:=56) (by omega) NT (by decide) e (by rw [List.length_reverse];unfold OX;omega) (by rw [List.length_reverse];omega) (by omega) [x,y,Vc (encE e)] (G.length+2) 1 (by rw [NY];rfl);rw [List.length_reverse] at e2;simp only [Nm,Nn,Nx,Nat.reduceAdd] at e2 d g;have nt:∀j,j<=Mp->∀a,tp=some a->j≠a.block:=fun j i a f=>by have:=(h.to.block f).1;omega
 have hc:Chg (Nl6 tp) G (G2++[]):=⟨by simp;omega,fun j i l=>c j i (Ndl l)⟩
 refine ⟨G2,e2,(c _ len (nt _ (Nf _))).trans h.mp,(c _ (by omega) (nt _ (by omega))).trans h.ev,h.ko.chg hc fun a f o=>?_,by rw [List.reverse_cons];exact d,fun a b f k=>?_,fun j i=>(c j (by omega) (nt _ (by omega))).trans (h.old j i),by simp;omega,h.rel,h.sub,h.kn,fun h=>(by cases h)⟩
 ·obtain ⟨b,k,e⟩:=Ndm o;exact h.ne a b f k e
 ·cases k;have:=(h.ko.block f).2;show a.block≠G.length+3;omega
theorem Nqz {e x:Ev}:Wx e (x::kr)=if RD x=RD e then some x else Wx e kr:=by
 unfold Wx;by_cases h:RD x=RD e
 ·rw [List.find?_cons_of_pos (by simpa using h),Nl h]
 ·rw [List.find?_cons_of_neg (by simpa using h),Ng h]
theorem FSt.kept {tr:List Ev} {lim:Nat} (h:FSt H EV B Mp kr tr es kp tp kc tc G) (hl:lim<=H.length) (s:H.length<=B) (r:B<Mp) (e:Ev) (he:e∈EV) (hn:kr.length<4000) (x y:Blk) :
  ∃G1,(∀X:NA,(G++X).set Mp (.map (TD kS vI (WI (RD e) e.time es)))=G1++X)/\∃G',OP lim none 7 56 false (.slice kp kr.length kc) (.slice (Sa (G1.length+2)) 1 1) (G1++[x,y,Vc (encE e)])=some (.slice (Sa (G1.length+3)) (kr.length+1) (loose 7),G'++[])/\
   FSt H EV B Mp (e::kr) tr (WI (RD e) e.time es) (Sa (G1.length+3)) tp (loose 7) tc (G'++[])/\G1.length=G.length:=by
 have len:=h.len;obtain ⟨G1,e1,h1,k⟩:=OO (G:=G) (R:=Mp) len (.map (TD kS vI (WI (RD e) e.time es)));have u:=k.len;have nk:∀j,j<=Mp->∀a,kp=some a->j≠a.block:=fun j g a d=>by have:=(h.ko.block d).1;omega
 have nt:∀j,j<=Mp->∀a,tp=some a->j≠a.block:=fun j g a d=>by have:=(h.to.block d).1;omega
 have n:=h.ko.mut k (fun a d=>(nk Mp (Nf _) a d).symm);have o:=h.to.mut k (fun a d=>(nt Mp (Nf _) a d).symm);obtain ⟨G2,e2,f,_,c,i,_⟩:=n.step (lim':=lim) (bytes:=56) (by omega) NT (by decide) e (by rw [List.length_reverse];unfold OX;omega) (by rw [List.length_reverse];omega) (by omega) [x,y,Vc (encE e)] (G1.length+2) 1 (by rw [NY];rfl);rw [List.length_reverse] at e2;simp only [Nm,Nn,Nx,Nat.reduceAdd] at e2 f i;have hc:Chg (Nl6 kp) G1 (G2++[]):=⟨by simp;omega,fun j g p=>c j g (Ndl p)⟩
 refine ⟨G1,e1,G2,e2,⟨(c _ (by omega) (nk _ (Nf _))).trans h1,(c _ (by omega) (nk _ (by omega))).trans ((k.other _ (by omega)).trans h.ev),by rw [List.reverse_cons];exact f,o.chg hc fun a d t=>?_,fun a b d m=>?_,fun j g=>(c j (by omega) (nk _ (by omega))).trans ((k.other j (by omega)).trans (h.old j g)),by simp;omega,fun a=>?_,fun z hz=>?_,fun h=>(by cases h),h.tn⟩,u⟩
 ·obtain ⟨b,m,e⟩:=Ndm t;exact h.ne b a m d e.symm
 ·cases d;have:=(h.to.block m).2;show G1.length+3≠b.block;omega
 ·rw [Nnn,Nqz,h.rel];by_cases l:RD a=RD e
  ·rw [Nl l,Nl l.symm];rfl
  ·rw [Ng l,Ng fun q=>l q.symm]
 ·rcases Ns.mp hz with rfl | hz
  ·exact he
  ·exact h.sub z hz
theorem Nst [OB] {lim:Nat} {p:Option Addr} (hs:Sl H encN 6 p S) (hS:QK S) (hl:lim<=H.length)
  (hQ:∀G kp kc tp tc,Own H.length G encE 7 kp kc (OH S).1->Own H.length G encE 7 tp tc (OH S).2->(∀a b,kp=some a->tp=some b->a.block≠b.block)->Chg [] H G->((OH S).1=[]->kp=none)->((OH S).2=[]->tp=none)->Q (.tuple #[.slice kp (OH S).1.length kc,.slice tp (OH S).2.length tc]) (G++[])) :
  NQ Ef false lim 56 [.slice p S.length c] H Q:=by
 have hn:=hS.1;refine Nho (by decide) rfl rfl ?_;rw [b56,c56];simp only [n56,SB,seval,NF,NL,reduceCtorEq,NG];rw [Na];refine gather_ok hs hS hl fun G pm cm sm ay hC=>?_
 have a3:=Go.Scan.gather_ok hS.2;generalize hM:QZ S=M at *;have lM:M.length<=2000:=by rw [<-hM];have:=Nfj S;omega
 have b0:=hC.len;have hss:∀G',(∀j,j<H.length->NE G' j=NE H j)->Sl G' encN 6 p S:=fun G' ho=>Sl.same hs fun a ha ab=>by
  subst ha;exact ho _ (hs.lt ab)
 have a6:(S.length:Int)*56<=2 ^ 45:=by omega
 have a7:(S.length:Int)<2 ^ 62:=by omega
 have hz:(List.range (S.length*7)).length=S.length*7:=Pe;have bg:(0:Int)<=(S.length:Int):=by omega
 have ad:∀z:List Value,z.length=S.length*7->ESt H M S p pm G.length 0 (G++[Vc z]):=fun z hz=>by
  have ho:∀j,j<H.length->NE (G++[Vc z]) j=NE H j:=fun j F=>by rw [NS (by omega),hC.other j F (by simp)]
  exact ⟨⟨z,by rw [hz,Nat.sub_zero],by rw [NN];rfl⟩,sm.app _,hss _ ho,ho,by simp⟩
 simp only [n56,a6,a7,N1,Q3,bg,SB,Nat.reduceLT,NL,reduceCtorEq,NG,place,Nat.reduceAdd,Int.reduceLE];refine NP (fun i=>S.length-i) (fun i fr G2=>i<=S.length/\fr 2=Vz/\fr 3=Vz/\fr 4=.slice pm M.length cm/\fr 5=.slice (Sa G.length) i S.length/\fr 19=.slice p S.length c/\fr 20=Vi S.length/\fr 21=Vi i/\ESt H M S p pm G.length i G2) 0
  ⟨Np _,rfl,rfl,rfl,rfl,rfl,rfl,by rfl,ad _ (by rw [Nz,Pe])⟩ ?_
 ·rintro i fr G2 ⟨hi,g2,g3,g4,g5,ah,V,ai,⟨rest,J,C⟩,aw,ax,U,T⟩ hN;rw [NU N8i.eq_1];refine NJ ?_;by_cases o:i<S.length
  ·have bf:=fun X=>(ax.app X).loadCells OL o
   have ar:=fun c (k:IntKind) (H1:NA)=>ax.idx (c:=c) (k:=k) (H1:=H1) o
   have bu:IntKind.i64.wrap ((i:Int)+1)=((i+1:Nat):Int):=OC (by omega);have hf:RA (gt S i):=hS.2 _ (PM o);have a8:=fun X (mp:Bool) (lim:Nat) (Q:Value->NA->Prop)=>Nrt (mp:=mp) (lim:=lim) (Q:=Q) (aw.app X) ay (by omega) a3 hf
   have be:lim<=G2.length:=by omega
   have am:=N6p (M:=M) o;generalize b6:gt S i=s at *;generalize b8:TL M s=t at *;have bk:QI [Value.int .i64 0,Vi 0,Vi 0,.int .u8 0,Vi 0,Vi 0,Vi 0] 0 (encN s)=[Vi s.item,Vi s.place,Vi s.scanner,.int .u8 s.kind,Vi s.at',Vi s.seen,Vi 0]:=rfl;have hev:[Value.int .i64 s.item,Vi s.place,Vi s.scanner,.int .u8 s.kind,Vi s.at',Vi s.seen,Vi t]=encE { s with time:=t }:=rfl;generalize hex:{ s with time:=t }=e at *;have K:((Nn2 M S).take i).length=i:=by rw [N5,X8];omega
   obtain ⟨D,e3,h3,m3⟩:=OO (G:=G2) (R:=G.length) T (Vc ((((Nn2 M S).take i)++[e]).flatMap encE++rest.drop 7));have N:=Yx (lim:=lim) (R:=G.length) (bytes:=56) (cap:=S.length) (k:=1) (b:=G2.length+1) (dest:=some (G2.length+2)) (H:=G2++[Vc (encN s),Vc (encE e),.dead]) (enc:=encE) (old:=(Nn2 M S).take i) (x:=e) (ro:=false) (rest:=rest) NT (by decide)
    (by rw [NY];rfl) (by rw [NS T];exact C) (by omega) (by rw [K];omega) (by rw [K];exact J) (by omega) (by rw [K];unfold OX;omega)
   rw [K,e3] at N;simp only [n56,g4,g5,ah,V,ai,ND,o,ar,bf,be,OL,NK,NI,a8,bu,bk,hev,NT,N,SB,seval,NF,NL,NH,place,NB];have l3:=m3.len;have I:∀j,j<H.length->NE (D++[Vc (encN s),Vc (encE e),.dead]) j=NE H j:=fun j F=>by
    rw [NS (by omega),m3.other j (by omega)];exact U j F
   have bv:Sl D PY 3 pm M:=Sl.same aw fun a ha ab=>by
    subst ha;have:=sm.lt ab;exact m3.other _ (by omega)
   refine hN (i+1) _ _ ⟨by omega,g2,g3,g4,rfl,ah,V,rfl,⟨⟨rest.drop 7,by rw [O2,J];omega, ?_⟩,bv.app _,hss _ I,I,by simp;omega⟩⟩ (by omega);rw [NS (by omega),h3,Nv (i:=i) (by rw [X8];exact o),<-OQ,am]
  ·obtain rfl:i=S.length:=by omega
   have bh:rest=[]:=by
    rw [Qq,Qi] at J;exact List.length_eq_zero_iff.mp J
   rw [bh,Na,Oc (by rw [X8];exact Nf _)] at C;obtain ⟨D,s1,s2,s3⟩:=Nyq (lim:=lim) (cap:=S.length) C (by omega) (by rw [X8];omega);rw [X8] at s1;have an:UI QQ (Nn2 M S)=RP M S:=rfl;rw [an] at s2;simp only [n56,g5,V,ai,ND,o,s1,SB,seval,NF,NL,NH,place];have a5:OH S=TP [] [] (RP M S):=by rw [<-hM];rfl
   generalize aj:RP M S=EV at *;have ak:EV.length=S.length:=by rw [<-aj,Nfq]
   have l3:=s3.len;have I:∀j,j<H.length->NE D j=NE H j:=fun j F=>by rw [s3.other j (by omega) (by simp;omega)];exact U j F
   have aq:∀x∈EV,0<=x.time/\x.time<=1051898399:=fun x hx=>by
    rw [<-aj] at hx;obtain ⟨z,hz,rfl⟩:=Yj.mp hx;have av:=hS.2 z hz;have:=Njb (M:=M) av;unfold RA UE at av;simp only;omega
   have a0:=NM s2;refine NP (S:=Nat×List Ev×List Ev×List ((Int×Int×Int)×Int)×Option Addr×Option Addr×Nat×Nat) (fun s=>S.length-s.1) (fun s fr E=>s.1<=S.length/\TP s.2.1 s.2.2.1 (EV.drop s.1)=OH S/\s.2.1.length<=s.1/\s.2.2.1.length<=s.1/\
    fr 2=.slice s.2.2.2.2.1 s.2.1.length s.2.2.2.2.2.2.1/\fr 3=.slice s.2.2.2.2.2.1 s.2.2.1.length s.2.2.2.2.2.2.2/\fr 8=.map (some D.length)/\fr 37=.slice (Sa G.length) S.length S.length/\fr 38=Vi S.length/\fr 39=Vi s.1/\
    FSt H EV G.length D.length s.2.1 s.2.2.1 s.2.2.2.1 s.2.2.2.2.1 s.2.2.2.2.2.1 s.2.2.2.2.2.2.1 s.2.2.2.2.2.2.2 E) (0,[],[],[],none,none,0,0)
    ⟨Np _,by rw [On];exact a5.symm,Nf _,Nf _,(by simp only [g2,Nn,FB,Nat.reduceEqDiff]),(by simp only [g3,Nn,FB,Nat.reduceEqDiff]),rfl,rfl,rfl,by rfl,⟨by rw [NN];rfl,by rw [NS a0];exact s2,.inl ⟨rfl,rfl,rfl⟩,.inl ⟨rfl,rfl,rfl⟩,fun a b h=>(by cases h),fun j F=>by rw [NS (by omega)];exact I j F,by simp,fun e=>rfl,fun x hx=>(O8 hx).elim,fun _=>rfl,fun _=>rfl⟩⟩ ?_
   rintro ⟨i,kr,tr,es,kp,tp,kc,tc⟩ bz E ⟨bb,l,bd,bm,f2,f3,f8,u,m,w,st⟩ Z;simp only at bb l bd bm f2 f3 w st;rw [NU N8j.eq_1];refine NJ ?_;by_cases q:i<S.length
   ·have y:i<EV.length:=by omega
    have P:Sl E encE 7 (Sa G.length) EV:=Sl.row NT st.ev;have B:=fun X=>(P.app X).loadCells NT y
    have n:∀(c:Nat) (k:IntKind) (H1:NA),Vq 7 (.slice (Sa G.length) S.length c) (.int k (i:Int)) H1=some (.pointer (some (Vs (Sa G.length) 7 i)),H1):=fun c k H1=>by
     rw [<-ak];exact P.idx y
    have ag:IntKind.i64.wrap ((i:Int)+1)=((i+1:Nat):Int):=OC (by omega);have al:gt EV i∈EV:=PM y;have a9:EV.drop i=gt EV i::EV.drop (i+1):=by rw [Oy y,OQ y]
    rw [a9] at l;have f:=st.rel (gt EV i);generalize hex:gt EV i=e at *;have hk:U6 (.ints [.i64,.i64,.u8]) (.agg #[Vi e.item,Vi e.place,.int .u8 e.kind])=true:=Odc (k:=RD e);have g:=Zg (vv:=vI) Odd (RD e) es 0;have au:kS (RD e)=.agg #[Vi e.item,Vi e.place,.int .u8 e.kind]:=rfl;rw [au] at g;have d:=Nre (RD e) es 0;have W:∀X,NE (E++X) D.length=.map (TD kS vI es):=fun X=>by rw [NS st.len];exact st.mp
    have A:lim<=E.length:=by have:=st.len;omega
    have O:lim<=D.length:=by omega
    have L:∀(em:List (Value×Value)),em=TD kS vI (WI (RD e) e.time es)->
      ∃G1,(∀X:NA,(E++X).set D.length (.map em)=G1++X)/\(∀Y,NE (G1++Vc (encE e)::Y) E.length=Vc (encE e))/\∃G',OP lim none 7 56 false (.slice kp kr.length kc) (.slice (Sa (G1.length+2)) 1 1) (G1++[Vc (encE e),Vc [Vi e.item,Vi e.place,.int .u8 e.kind],Vc (encE e)])=some (.slice (Sa (G1.length+3)) (kr.length+1) (loose 7),G'++[])/\
       FSt H EV G.length D.length (e::kr) tr (WI (RD e) e.time es) (Sa (G1.length+3)) tp (loose 7) tc (G'++[]):=by
     intro em ba;subst ba;obtain ⟨G1,e1,G',e2,bw,l1⟩:=st.kept hl (by omega) (by omega) e al (by omega) (Vc (encE e)) (Vc [Vi e.item,Vi e.place,.int .u8 e.kind]);exact ⟨G1,e1,fun Y=>by rw [<-l1];exact NN,G',e2,bw⟩
    obtain ⟨GT,az,bx⟩:=st.twice hl (by omega) (by omega) e (by omega) (Vc (encE e)) (Vc [Vi e.item,Vi e.place,.int .u8 e.kind]);cases hc:fk (RD e) es 0 with
    | none=>
      rw [hc] at g d;simp only [Oo] at g d;have r:=Nkh (v':=e.time) hc;have htw:Uz e kr=false:=by
       unfold Uz;rw [<-d] at f;cases hq:Wx e kr with
       | none=>rfl
       | some z=>rw [hq] at f;cases f
      obtain ⟨G1,e1,R1,G',e2,fin⟩:=L (TD kS vI es++[(.agg #[Vi e.item,Vi e.place,.int .u8 e.kind],Vi e.time)]) (by rw [<-r];simp only [TD,O7,Oj,List.map_nil];rfl);simp only [n56,f2,f8,u,m,w,ND,q,n,B,A,O,NT,VP,QU,QY,QX,NK,NI,ag,W,hk,g,e1,R1,e2,SB,seval,NL,NH,place,NB];exact Z (i+1,e::kr,tr,WI (RD e) e.time es,Sa (G1.length+3),tp,loose 7,tc) _ _ ⟨by simp only;omega,by rw [<-l,TP,htw];rfl,by simp only [Nm];omega,by simp only;omega,(by simp only [Nm,FB,Nat.reduceEqDiff]),f3,f8,u,m,rfl,fin⟩ (by simp only;omega)
    | some x=>
      obtain ⟨j,v⟩:=x;rw [hc] at g d;simp only [Ny] at g d;have r:=(Nkg (v':=e.time) hc).2.2;rw [Nat.sub_zero] at r;rw [<-d] at f;cases hq:Wx e kr with
      | none=>rw [hq] at f;cases f
      | some z=>
      rw [hq] at f;have bq:v=z.time:=by simpa using f
      have hz:=aq z (st.sub z (Nqy hq).1);have b7:=aq e al;have bn:vI v=Vi z.time:=by rw [bq];rfl
      rw [bn] at g;have wd:IntKind.i64.wrap (e.time-z.time)=e.time-z.time:=NR (by omega) (by omega);by_cases hd:e.time-z.time<=10
      ·have htw:Uz e kr=true:=Nld.mpr ⟨z,hq,hd⟩;simp only [n56,f3,f8,u,m,w,ND,q,n,B,A,NT,VP,QU,QY,QX,NK,NI,ag,W,hk,g,wd,Nh hd,az,SB,seval,NL,NH,place,NB];exact Z (i+1,kr,e::tr,es,kp,Sa (E.length+3),kc,loose 7) _ _ ⟨by simp only;omega,by rw [<-l,TP,htw];rfl,by simp only;omega,by simp only [Nm];omega,f2,(by simp only [Nm,FB,Nat.reduceEqDiff]),f8,u,m,rfl,bx⟩ (by simp only;omega)
      ·have htw:Uz e kr=false:=by unfold Uz;rw [hq];exact Nw hd
       obtain ⟨G1,e1,R1,G',e2,fin⟩:=L ((TD kS vI es).set j (.agg #[Vi e.item,Vi e.place,.int .u8 e.kind],Vi e.time)) (by rw [<-r];simp only [TD,List.map_set];rfl);simp only [n56,f2,f8,u,m,w,ND,q,n,B,A,O,NT,VP,QU,QY,QX,NK,NI,ag,W,hk,g,wd,Nc hd,e1,R1,e2,SB,seval,NL,NH,place,NB];exact Z (i+1,e::kr,tr,WI (RD e) e.time es,Sa (G1.length+3),tp,loose 7,tc) _ _ ⟨by simp only;omega,by rw [<-l,TP,htw];rfl,by simp only [Nm];omega,by simp only;omega,(by simp only [Nm,FB,Nat.reduceEqDiff]),f3,f8,u,m,rfl,fin⟩ (by simp only;omega)
   ·obtain rfl:i=S.length:=by omega
    rw [<-ak,Qk] at l;have aa:kr.reverse=(OH S).1:=Q2 Prod.fst l;have ae:tr.reverse=(OH S).2:=Q2 Prod.snd l;have ko:=st.ko;have to:=st.to;have lk:kr.length=(OH S).1.length:=by rw [<-aa,List.length_reverse]
    have lt:tr.length=(OH S).2.length:=by rw [<-ae,List.length_reverse]
    rw [aa] at ko;rw [ae] at to;rw [lk] at f2;rw [lt] at f3;simp only [n56,f2,f3,m,w,ND,q,SB,seval,NL,NH,NC];refine hQ E kp kc tp tc (ko.le (by omega)) (to.le (by omega)) st.ne ⟨by have:=st.len;omega,fun j F _=>st.old j F⟩ (fun h=>st.kn (List.reverse_eq_nil_iff.1 (aa.trans h))) (fun h=>st.tn (List.reverse_eq_nil_iff.1 (ae.trans h)))
theorem MV [OB] {mp:Bool} {lim:Nat} {p:Option Addr} (hs:Sl H encN 6 p S) (hn:S.length<2 ^ 63) :
  NQ Ef mp lim 55 [.slice p S.length c] H Q=Q (.bool (decide (QK S))) H:=NQ.eqF (by rw [Nuk hs hn];exact ⟨rfl,rfl⟩)
theorem Order_ok [OB] (a:∀as H,OA.eff 36 as H=none) {lim c:Nat} {p:Option Addr} {S:List Ev} {H:NA} {Q:Value->NA->Prop} (hs:Sl H encN 6 p S) (hS:QK S) (hl:lim<=H.length)
  (d:∀G kp kc,Own H.length G encE 7 kp kc (OH S).1->Chg [] H G->((OH S).1=[]->kp=none)->Q (.tuple #[.slice kp (OH S).1.length kc,Vi 0]) (G++[])) :
  NQ Ef false lim 36 [.slice p S.length c] H Q:=by
 refine Nsu (by decide) a rfl rfl ?_;rw [b36,c36];have hr:=fun (X:NA) (mp:Bool) (lim:Nat) (Q:Value->NA->Prop)=>MV (mp:=mp) (lim:=lim) (Q:=Q) (c:=c) (hs.app X) (by have:=hS.1;omega)
 simp only [n36,hr,Nj hS,SB,seval,NF,NL,RN,reduceCtorEq,NG];rw [Na];refine Nst hs hS hl fun G kp kc tp tc h1 h2 e b h5 f=>?_
 simp only [n36,SB,seval,NL,NC];exact d G kp kc h1 b h5
theorem Order_no [OB] (a:∀as H,OA.eff 36 as H=none) {lim c:Nat} {p:Option Addr} {S:List Ev} {H:NA} {Q:Value->NA->Prop} (hs:Sl H encN 6 p S) (hn:S.length<2 ^ 63) (hS:¬QK S) :
  NQ Ef false lim 36 [.slice p S.length c] H Q=Q (.tuple #[Vz,Vi 2]) H:=by
 refine NQ.eq ?_;refine Nsu (by decide) a rfl rfl ?_;rw [b36,c36];have hr:=fun (X:NA) (mp:Bool) (lim:Nat) (Q:Value->NA->Prop)=>MV (mp:=mp) (lim:=lim) (Q:=Q) (c:=c) (hs.app X) hn
 simp only [n36,hr,Nw hS,SB,seval,NF,NL,RN,reduceCtorEq,NG,NC];exact Na H
theorem Doubled_ok [OB] (a:∀as H,OA.eff 27 as H=none) {lim c:Nat} {p:Option Addr} {S:List Ev} {H:NA} {Q:Value->NA->Prop} (hs:Sl H encN 6 p S) (hS:QK S) (hl:lim<=H.length)
  (e:∀G tp tc,Own H.length G encE 7 tp tc (OH S).2->Chg [] H G->((OH S).2=[]->tp=none)->Q (.tuple #[.slice tp (OH S).2.length tc,Vi 0]) (G++[])) :
  NQ Ef false lim 27 [.slice p S.length c] H Q:=by
 refine Nsu (by decide) a rfl rfl ?_;rw [b27,c27];have hr:=fun (X:NA) (mp:Bool) (lim:Nat) (Q:Value->NA->Prop)=>MV (mp:=mp) (lim:=lim) (Q:=Q) (c:=c) (hs.app X) (by have:=hS.1;omega)
 simp only [n27,hr,Nj hS,SB,seval,NF,NL,RN,reduceCtorEq,NG];rw [Na];refine Nst hs hS hl fun G kp kc tp tc h1 h2 f b h5 d=>?_
 simp only [n27,SB,seval,NL,NC];exact e G tp tc h2 b d
theorem Doubled_no [OB] (a:∀as H,OA.eff 27 as H=none) {lim c:Nat} {p:Option Addr} {S:List Ev} {H:NA} {Q:Value->NA->Prop} (hs:Sl H encN 6 p S) (hn:S.length<2 ^ 63) (hS:¬QK S) :
  NQ Ef false lim 27 [.slice p S.length c] H Q=Q (.tuple #[Vz,Vi 2]) H:=by
 refine NQ.eq ?_;refine Nsu (by decide) a rfl rfl ?_;rw [b27,c27];have hr:=fun (X:NA) (mp:Bool) (lim:Nat) (Q:Value->NA->Prop)=>MV (mp:=mp) (lim:=lim) (Q:=Q) (c:=c) (hs.app X) hn
 simp only [n27,hr,Nw hS,SB,seval,NF,NL,RN,reduceCtorEq,NG,NC];exact Na H
end Go.Proofs.YtkppjkkkdpcgiaaGreat.Fn



namespace Go.Proofs.YtkppjkkkdpcgiaaGreat.Fn
open Go.AM Go.AM.Sym Go.Net Go.Scan
variable {x:Stp} {n:Nat} {es:List Ev} {a:An} {ks:List Int}
def Tv (a:An):List Value:=[.int .u8 a.kind,Vi a.ev,Vi a.other,Vi a.place,Vi a.mins]
theorem RF (a:An):(Tv a).length=5:=id rfl
theorem Oap:(Tv a)[0]? = some (.int .u8 a.kind):=id rfl
theorem Oao:(Tv a)[1]? = some (Vi a.ev):=id rfl
theorem Oan:(Tv a)[2]? = some (Vi a.other):=id rfl
theorem Oam:(Tv a)[3]? = some (Vi a.place):=id rfl
theorem Oal:(Tv a)[4]? = some (Vi a.mins):=id rfl
def Nar (b:Bool):List Value:=[.bool b]
theorem ZJ (b:Bool):(Nar b).length=1:=id rfl
theorem M9:(enc3 x)[0]? = some (Vi x.1):=id rfl
theorem Yl:(enc3 x)[1]? = some (Vi x.2.1):=id rfl
theorem Nfu:(enc3 x)[2]? = some (Vi x.2.2):=id rfl
def Uo (pe:Option Addr) (n ce:Nat) (q:Option Addr) (nk cq:Nat) (r:Option Addr) (ns cr:Nat) (c:Int) (pl:Option Addr) (nl cl:Nat):List Value:=[.slice pe n ce,.slice q nk cq,.slice r ns cr,Vi c,.slice pl nl cl]
section
variable {pe q r pl:Option Addr} {n ce nk cq ns cr nl cl:Nat} {c:Int}
theorem Ur:(Uo pe n ce q nk cq r ns cr c pl nl cl).length=5:=id rfl
theorem VH:(Uo pe n ce q nk cq r ns cr c pl nl cl)[0]? = some (.slice pe n ce):=id rfl
theorem Nel:(Uo pe n ce q nk cq r ns cr c pl nl cl)[1]? = some (.slice q nk cq):=id rfl
theorem N9n:(Uo pe n ce q nk cq r ns cr c pl nl cl)[2]? = some (.slice r ns cr):=id rfl
theorem Npt:(Uo pe n ce q nk cq r ns cr c pl nl cl)[4]? = some (.slice pl nl cl):=id rfl
end
theorem N9g (n:Nat):(List.range (n*1)).map (fun j=>[Value.bool false].getD (j % 1) undef)=(List.replicate n false).flatMap Nar:=by
 have h1:∀j,[Value.bool false].getD (j % 1) undef=Value.bool false:=fun j=>by rw [Nat.mod_one];rfl
 simp only [h1];rw [List.map_const',Pe,Ps]
 induction n with
 | zero=>rfl
 | succ n ih=>
   rw [Po,Po,Ol,<-ih];rfl
def Za (n:Nat) (ks:List Int) (i:Nat):List Bool:=(ks.take i).foldl (fun l k=>l.set k.toNat true) (List.replicate n false)
def toI (n:Nat) (ss:List Stp) (i:Nat):List Stp:=(ss.take i).foldl (fun l s=>l.set s.2.1.toNat s) (List.replicate n (0,0,0))
theorem Nbr {i:Nat}:(Za n ks i).length=n:=by unfold Za;rw [Nbs,Pa]
theorem Ni9 {ks:List Stp} {i:Nat}:(toI n ks i).length=n:=by unfold toI;rw [Nja,Pa]
theorem Nv2:Za n ks ks.length=Wz n ks:=by unfold Za Wz;rw [N9]
theorem N4v {ks:List Stp}:toI n ks ks.length=toN n ks:=by unfold toI toN;rw [N9]
theorem Nq6 {i:Nat} (h:i<ks.length):Za n ks (i+1)=(Za n ks i).set (gt ks i).toNat true:=by
 unfold Za;rw [Nv h,List.foldl_append,OQ h];rfl
theorem Nyh {ks:List Stp} {i:Nat} (h:i<ks.length):toI n ks (i+1)=(toI n ks i).set (gt ks i).2.1.toNat (gt ks i):=by
 unfold toI;rw [Nv h,List.foldl_append,OQ h];rfl
theorem Npb [OB] {lim ce cq cr nl cl:Nat} {pe q r pl:Option Addr} {ss:List Stp} {c:Int} {H:NA} {Q:Value->NA->Prop} (T:Sl H encI 1 q ks) (hr:Sl H enc3 3 r ss) (hn:n<2 ^ 30) (S:ks.length<2 ^ 40) (U:ss.length<2 ^ 40) (hl:lim<=H.length)
  (hk:∀k∈ks,0<=k/\k<n) (hs:∀s∈ss,Uk n s)
  (R:∀G A B,Chg [] H G->H.length<=A->H.length<=B->NE G A=Vc ((Wz n ks).flatMap Nar)->NE G B=Vc ((toN n ss).flatMap enc3)->Q (.tuple #[.slice (Sa A) n n,.slice (Sa B) n n]) G) :
  NQ E false lim 74 [.agg (Uo pe n ce q ks.length cq r ss.length cr c pl nl cl).toArray] H Q:=by
 refine QN (by decide) rfl rfl ?_;rw [b74,c74];have Z:=N9g n;have z3:=Nxw n;have N:=Nh (show 0<=(n:Int)/\(n:Int)*1<=35184372088832/\(n:Int)<4611686018427387904 by omega);have O:=Nh (show 0<=(n:Int)/\(n:Int)*24<=35184372088832/\(n:Int)<4611686018427387904 by omega);simp only [n74,VH,Nel,N,O,Z,z3,SB,seval,NL,NG,place,NB];refine NP (fun i=>ks.length-i) (fun i fr G=>i<=ks.length/\fr 1=Vp H.length/\fr 4=.slice (Sa (H.length+1)) n n/\fr 5=.slice (Sa (H.length+2)) n n/\fr 20=.slice q ks.length cq/\fr 21=Vi ks.length/\fr 22=Vi i/\
   Chg [] H G/\NE G H.length=Vc (Uo pe n ce q ks.length cq r ss.length cr c pl nl cl)/\NE G (H.length+1)=Vc ((Za n ks i).flatMap Nar)/\NE G (H.length+2)=Vc ((toI n ss 0).flatMap enc3)) 0
  ⟨Np _,rfl,rfl,rfl,rfl,rfl,by rfl,Chg.refl.app,by rw [NN];rfl,by rw [NY];rfl,by rw [NY];rfl⟩ ?_
 intro i fr G ⟨hi,D,z,C,F,u,I,f,M,l,hB⟩ hN;rw [NU N79.eq_1];refine NJ ?_;have L:=f.len;by_cases b:i<ks.length
 ·have sK:=f.sl T (fun a _ _ h=>(by cases h));obtain ⟨m,hm⟩:∃m:Nat,gt ks i=m:=⟨(gt ks i).toNat,by have:=hk _ (PM b);omega⟩
  have e:m<n:=by have:=hk _ (PM b);omega
  have g:=S9 sK b;rw [hm] at g;have d:=fun c (k:IntKind) (H1:NA)=>sK.idx (c:=c) (k:=k) (H1:=H1) b
  have y:IntKind.i64.wrap ((i:Int)+1)=((i+1:Nat):Int):=OC (by omega);have V:Sl G Nar 1 (Sa (H.length+1)) (Za n ks i):=Sl.row ZJ l;have o:=fun c (k:IntKind) (H1:NA)=>V.idx (c:=c) (k:=k) (H1:=H1) (i:=m) (by rw [Nbr];exact e)
  rw [Nbr] at o;obtain ⟨G2,e2,h2,j⟩:=SV (lim:=lim) (p:=Sa (H.length+1)) ZJ rfl l (by omega) (i:=m) (by rw [Nbr];exact e) true;simp only [Nar] at e2;have w:(Za n ks i).set m true=Za n ks (i+1):=by rw [Nq6 b,hm];rfl
  rw [w] at h2;simp only [n74,z,F,u,I,ND,b,d,g,o,e2,y,SB,seval,NL,NH,NB];exact hN (i+1) _ _ ⟨by omega,D,z,C,F,u,rfl,(f.mut j (.inr (by omega))).app,by rw [NS (by rw [j.len];exact NM M)];exact j.cells M (by omega),by rw [NS (NM h2)];exact h2,by rw [NS (by rw [j.len];exact NM hB)];exact j.cells hB (by omega)⟩ (by omega)
 obtain rfl:i=ks.length:=by omega
 rw [Nv2] at l;have Y:=zc M;simp only [n74,D,u,I,ND,b,Y,N9n,SB,seval,NL,NH];refine NP (fun i=>ss.length-i) (fun i fr G=>i<=ss.length/\fr 1=Vp H.length/\fr 4=.slice (Sa (H.length+1)) n n/\fr 5=.slice (Sa (H.length+2)) n n/\fr 32=.slice r ss.length cr/\fr 33=Vi ss.length/\fr 34=Vi i/\
   Chg [] H G/\NE G (H.length+1)=Vc ((Wz n ks).flatMap Nar)/\NE G (H.length+2)=Vc ((toI n ss i).flatMap enc3)) 0
  ⟨Np _,D,z,C,rfl,rfl,by rfl,f.app,(OD.refl.app).cells l,(OD.refl.app).cells hB⟩ ?_
 intro i fr G ⟨hi,D,z,C,J,v,K,f,l,hB⟩ hN;rw [NU N8a.eq_1];refine NJ ?_;have L:=f.len;by_cases b:i<ss.length
 ·have sK:=f.sl hr (fun a _ _ h=>(by cases h));have P:=hs _ (PM b);unfold Uk at P;obtain ⟨m,hm⟩:∃m:Nat,(gt ss i).2.1=m:=⟨(gt ss i).2.1.toNat,by omega⟩
  have e:m<n:=by omega
  have g:=fun X=>(sK.app X).loadCells OU b
  have d:=fun c (k:IntKind) (H1:NA)=>sK.idx (c:=c) (k:=k) (H1:=H1) b
  have y:IntKind.i64.wrap ((i:Int)+1)=((i+1:Nat):Int):=OC (by omega);have W:Sl G enc3 3 (Sa (H.length+2)) (toI n ss i):=Sl.row OU hB;have t:=fun c (k:IntKind) (H1:NA)=>W.idx (c:=c) (k:=k) (H1:=H1) (i:=m) (by rw [Ni9];exact e)
  rw [Ni9] at t;obtain ⟨G2,e2,h2,j⟩:=SV (lim:=lim) (p:=Sa (H.length+2)) OU rfl hB (by omega) (i:=m) (by rw [Ni9];exact e) (gt ss i);have w:(toI n ss i).set m (gt ss i)=toI n ss (i+1):=by rw [Nyh b,hm];rfl
  rw [w] at h2;have e1:=Yl (x:=gt ss i);rw [hm] at e1;simp only [n74,C,J,v,K,ND,b,d,g,t,e1,e2,y,OU,NK,NI,show lim<=G.length by omega,SB,seval,NL,NH,place,NB];exact hN (i+1) _ _ ⟨by omega,D,z,C,J,v,rfl,(f.mut j (.inr (by omega))).app,by rw [NS (by rw [j.len];exact NM l)];exact j.cells l (by omega),by rw [NS (NM h2)];exact h2⟩ (by omega)
 obtain rfl:i=ss.length:=by omega
 rw [N4v] at hB;simp only [n74,z,C,v,K,ND,b,SB,seval,NL,NH,NC];exact R _ _ _ f.app (by omega) (by omega) ((OD.refl.app).cells l) ((OD.refl.app).cells hB)
theorem Nm1 {x:Ev} {c:Int} (hc:c<=NV):∀{l:List Ev},(∀y∈l,Y7 y x->c<y.time)->c<TR x l
 | [],_=>by unfold TR;omega
 | y::l,h=>by
   unfold TR;split
   ·rename_i a;exact h y Nu a
   ·exact Nm1 hc fun z b=>h z (Nr _ b)
theorem Nm0 {x y:Ev}:∀{l:List Ev},Yz l->y∈l->Y7 y x->TR x l<=y.time
 | [],_,h,_=>(O8 h).elim
 | z::l,hr,h,hy=>by
   obtain ⟨b,r2⟩:=List.pairwise_cons.1 hr;unfold TR;split
   ·rcases Ns.1 h with rfl | h
    ·omega
    ·exact b _ h
   ·rename_i a;rcases Ns.1 h with rfl | h
    ·exact absurd hy a
    ·exact Nm0 r2 h hy
def atE (es:List Ev) (d:Ev) (i:Nat):Prop:=Nfa (gt es i) (TR (gt es i) (es.drop (i+1))) d
instance (es:List Ev) (d:Ev) (i:Nat):Decidable (atE es d i):=by unfold atE;infer_instance
theorem Nnk {i j:Nat} (h:i<j) (a:j<es.length):gt es j∈es.drop (i+1):=by
 rw [OQ a,List.mem_iff_getElem];exact ⟨j-(i+1),by rw [O2];omega,by rw [Q8];congr 1;omega⟩
theorem Nmt {i:Nat} {y:Ev} (h:y∈es.drop (i+1)):∃j,i<j/\j<es.length/\gt es j=y:=by
 obtain ⟨k,hk,rfl⟩:=List.mem_iff_getElem.1 h;rw [O2] at hk;refine ⟨i+1+k,by omega,by omega, ?_⟩;rw [OQ (by omega),Q8]
end Go.Proofs.YtkppjkkkdpcgiaaGreat.Fn




