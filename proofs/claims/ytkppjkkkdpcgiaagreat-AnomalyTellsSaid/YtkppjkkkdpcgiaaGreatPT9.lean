/-
  Joined texts, 9 of 11. A part of the claim that the last text states.
-/
import Derived.Test.YtkppjkkkdpcgiaaGreatPT8
set_option linter.unusedVariables false
set_option linter.unusedSimpArgs false
set_option linter.defProp false
set_option linter.unusedSectionVars false
set_option maxRecDepth 100000
set_option maxHeartbeats 4000000
namespace Go.Proofs.YtkppjkkkdpcgiaaGreat.Fn
open Go.AM Go.AM.Sym Go.Net Go.Scan
variable {c1 c e R c2 b1 d1 b2 d2:Nat} {S P:List Int} {Q:Value->NA->Prop} {H:NA} {pp pl b:Option Addr} {L:List Leg} {mp:Bool}
theorem Mg {α:Type} {lim bytes cap k b:Nat} {dest:Option Nat} {enc:α->List Value} {old:List α} {x:α} {ro:Bool} {rest:List Value} (he:∀x,(enc x).length=e) (h:e≠0) (j:NE H b=.cells ro (enc x)) (a:NE H R=Vc (old.flatMap enc++rest)) (hl:lim<=R)
  (hc:old.length+1<=cap) (hr:rest.length=(cap-old.length)*e) (f:cap<2 ^ 61) (m:(old.length+1)*bytes<=OX) :
  OP lim dest e bytes false (.slice (Sa R) old.length cap) (.slice (Sa b) 1 k) H=some (.slice (Sa R) (old.length+1) cap,H.set R (Vc ((old++[x]).flatMap enc++rest.drop e))):=by
 have g:=NM a;have d:AM.loadCells H ⟨b,0,none⟩ (1*e)=some (enc x):=by
  rw [PV,j];simp only [Nx,On,Nat.one_mul];rw [Nl (by rw [he];exact Nf _),<-he x,N9]
 have i:e<=rest.length:=by rw [hr];exact Nat.le_mul_of_pos_left e (by omega)
 have l:AM.loadCells H ⟨R,0,none⟩ (old.length*e)=some (old.flatMap enc):=by
  rw [PV,a];simp only [Nx,On];rw [Nl (by rw [Nk,OW he];omega),<-OW he,List.take_left]
 have c:AM.storeAt lim H (Addr.add ⟨R,0,none⟩ (old.length*e)) (enc x)=some (H.set R (Vc ((old++[x]).flatMap enc++rest.drop e))):=by
  simp only [addr_add,Ti,a,Nx];rw [Nl ⟨hl,by rw [Nk,OW he,he];omega⟩];have:=Ws (enc x) (old.flatMap enc) (rest.take e) (rest.drop e) (by rw [he,N5];omega);rw [No,Pv,OW he] at this;rw [this,Pi,Ol,Rp,Na]
 simp only [OP,firstCells,lenOf,d,l,c,if_false,N3,Nat.one_ne_zero];rw [Ng (by omega),Ng (by unfold loose;omega),Nl (by omega),Nl (by omega)]
theorem Nfs (x:Leg):aEq (.agg [.int .i64,.int .i64,.int .i64,.int .i64,.int .i64,.int .i64,.int .i64,.int .u8]) (.agg (encL x).toArray) (.agg (encL x).toArray)=some true:=by
 rw [Njh,Nj rfl]
def Ncm (i:Nat):Int:=8000024+(i:Int)
def TB:List Int:=(List.range 12).map Ncm
theorem Wv:TB.length=12:=by simp [TB]
theorem Nh4 {i:Nat} (h:i<12):gt TB i=Ncm i:=by
 rw [OQ (by rw [Wv];exact h)];simp [TB]
def M3 (i:Nat):Leg:=⟨8000024+(i:Int),0,0,0,0,0,0,0⟩
def SF:List Leg:=(List.range 12).map M3
theorem VA:SF.length=12:=by simp [SF]
theorem Ne3 {i:Nat} (h:i<12):gt SF i=M3 i:=by
 rw [OQ (by rw [VA];exact h)];simp [SF]
theorem N0e [OA] {lim i:Nat} {k:Int} (hk:0<=k/\k<=10) (hi:i<10000000) :
  NQ E mp lim 78 [Vi k,Vi i] H Q=Q (Vi (1000003*(k+7)+(i:Int))) H:=by
 have w1:IntKind.i64.wrap (k+7)=k+7:=NR (by omega) (by omega);have w2:IntKind.i64.wrap (1000003*(k+7))=1000003*(k+7):=NR (by omega) (by omega);have a:IntKind.i64.wrap (1000003*(k+7)+(i:Int))=1000003*(k+7)+(i:Int):=NR (by omega) (by omega);refine pc (by decide) rfl rfl rfl ?_;rw [b78,c78];simp only [n78,w1,w2,a,SB,seval,NL,NH,reduceCtorEq,NG,NC]
theorem Ne4 [OA] {lim:Nat} {i:Nat} (hi:i<1000) :
  NQ E mp lim 78 [Vi 1,Vi i] H Q=Q (Vi (8000024+(i:Int))) H:=by
 rw [N0e ⟨by decide,by decide⟩ (by omega)];rfl
theorem Nh5 [OA] {lim:Nat} {i:Nat} (hi:i<1000) :
  NQ E mp lim 79 [Vi 1,Vi i] H Q=Q (.agg (encL (M3 i)).toArray) H:=by
 have hm:=fun (mp:Bool) (lim:Nat) (H:NA) (Q:Value->NA->Prop)=>Ne4 (mp:=mp) (lim:=lim) (H:=H) (Q:=Q) hi
 refine pc (by decide) rfl rfl rfl ?_;rw [b79,c79];simp only [n79,hm,SB,seval,NF,NL,reduceCtorEq,NG,place,NB,NC];rfl
theorem ZK {n k:Nat} (hc:n<=c) (h2:c<2 ^ 62) (h:k<=c):TN e (.slice (Sa R) n c) none (some (Vi k)) none=some (.slice (Sa R) k c):=by
 have a:bounds unV n c none (some (.const (Vi k))) none=some (0,k,c):=by
  have:=Zo (len:=n) (cap:=c) (k1:=.i64) (h:=(k:Int)) (by omega) (by omega);rw [N1] at this;exact this
 unfold TN TH;simp only [Ny,Oo];rw [Ng (by unfold loose;omega),Nl h2,a];simp only [addr_add,Qi,Pd,Nat.sub_zero,ite_self]
theorem N0l [OA] {lim:Nat} {p:Option Addr} (hs:Sl H encI 1 p S) (hn:S.length<=2010) (hl:lim<=H.length)
  (O:∀G,NE G H.length=Vc ((S++TB).flatMap encI)->Chg [] H G->Q (.slice (Sa H.length) S.length (S.length+12)) (G++[])) :
  NQ E false lim 40 [.slice p S.length c] H Q:=by
 refine QN (by decide) rfl rfl ?_;rw [b40,c40];have C:IntKind.i64.wrap ((S.length:Int)+12)=((S.length+12:Nat):Int):=by rw [NR (by omega) (by omega)];omega
 have u:((S.length+12:Nat):Int)*8<=2 ^ 45:=by omega
 have v:((S.length+12:Nat):Int)<2 ^ 62:=by omega
 have y:(0:Int)<=((S.length+12:Nat):Int):=by omega
 have m:∀z:List Value,z.length=(S.length+12)*1->∃G1 K,K.length=12*1/\NE G1 H.length=Vc (S.flatMap encI++K)/\Chg [] H G1/\
   OP lim none 1 8 false (.slice (Sa H.length) 0 (S.length+12)) (.slice p S.length c) (H++[Vc z])=some (.slice (Sa H.length) S.length (S.length+12),G1++[]):=fun z d=>by
  have:=Yw (lim:=lim) (R:=H.length) (bytes:=8) (cap:=S.length+12) (k:=c) (enc:=encI) (old:=[]) (l:=S) (rest:=z) OT (by decide) (hs.app [Vc z]) (by rw [NN];rfl) hl (by simp) (by rw [d];simp) (by omega) (by unfold OX;simp;omega);rw [Nn,Nx,Og] at this;refine ⟨_,z.drop (S.length*1),by rw [O2,d];omega, ?_, ?_,by rw [Na];exact this⟩
  ·exact Rv (by simp)
  ·exact Chg.refl.app.set (.inr (Nf _))
 simp only [n40,C,u,v,y,N1,Q3,SB,Nat.reduceLT,NL,Nat.reduceEqDiff,NH,reduceCtorEq,NG,place,Int.reduceLE];obtain ⟨G1,z,d,t,s,e1⟩:=m ((List.range ((S.length+12)*1)).map fun j=>[Value.int .i64 0].getD (j % 1) undef) (by rw [Nz,Pe]);simp only [n40,e1,SB,seval,NL];refine NP (fun i=>12-i) (fun i fr G=>i<=12/\fr 0=.slice p S.length c/\fr 3=.slice (Sa H.length) (S.length+i) (S.length+12)/\fr 4=Vi i/\(∃z,z.length=(12-i)*1/\NE G H.length=Vc ((S++TB.take i).flatMap encI++z))/\Chg [] H G) 0
  ⟨Np _,rfl,(by simp only [Pd,FB,Nat.reduceEqDiff]),by rfl,⟨z,d,by rw [P2,Na,Na];exact t⟩,s.app⟩ ?_
 rintro i fr G ⟨hi,D,F,I,⟨z,d,o⟩,r⟩ hN;rw [NU N8x.eq_1];refine NJ ?_;have N:=r.len;have f:=NM o;by_cases h:i<12
 ·have L:(i:Int)<12:=by omega
  have A:IntKind.i64.wrap ((i:Int)+1)=((i+1:Nat):Int):=OC (by omega);have w:=fun (mp:Bool) (lim:Nat) (H:NA) (Q:Value->NA->Prop)=>Ne4 (mp:=mp) (lim:=lim) (H:=H) (Q:=Q) (by omega:i<1000)
  have q:(S++TB.take i).length=S.length+i:=by rw [Nk,N5,Wv];omega
  obtain ⟨P,e3,M,J⟩:=OO (G:=G) (R:=H.length) f (Vc ((((S++TB.take i)++[Ncm i]).flatMap encI)++z.drop 1));have a:=Mg (lim:=lim) (R:=H.length) (bytes:=8) (cap:=S.length+12) (k:=1) (b:=G.length) (dest:=none) (H:=G++[Vc (encI (Ncm i))]) (enc:=encI) (old:=S++TB.take i) (x:=Ncm i) (ro:=false) (rest:=z) OT (by decide)
   (by rw [NN];rfl) (by rw [NS f];exact o) hl (by rw [q];omega) (by rw [q,d];congr 1;omega) (by omega) (by rw [q];unfold OX;omega)
  rw [q,e3] at a;simp only [encI,Ncm] at a;simp only [n40,F,I,Nh L,w,A,a,SB,seval,NF,NL,NH,place];refine hN (i+1) _ _ ⟨by omega,D,(by simp only [FB,Nat.reduceEqDiff]),rfl,⟨z.drop 1,by rw [O2,d];omega, ?_⟩,(r.mut J (.inr (Nf _))).app⟩ (by omega);rw [NS (by rw [J.len];exact f),M,No S,<-Nh4 h,OQ (by rw [Wv];exact h),<-Nv]
 ·obtain rfl:i=12:=by omega
  have B:z=[]:=List.length_eq_zero_iff.mp d;rw [B,Na,Oc (by rw [Wv];exact Nf _)] at o;have g:=ZK (e:=1) (R:=H.length) (n:=S.length+12) (k:=S.length) (c:=S.length+12) (Nf _) (by omega) (by omega);simp only [n40,D,F,I,g,SB,seval,NL,NH,reduceCtorEq,NC];exact O G o r
theorem N1u [OA] {lim:Nat} {p:Option Addr} (hs:Sl H encI 1 p S) (hn:S.length<=2010) (y:NE H R=Vc ((S++TB).flatMap encI)) :
  NQ E mp lim 44 [.slice (Sa R) S.length (S.length+12),.slice p S.length c] H Q=Q (.bool true) H:=by
 refine pc (by decide) rfl rfl rfl ?_;rw [b44,c44];have w:IntKind.i64.wrap ((S.length:Int)+12)=((S.length+12:Nat):Int):=by rw [NR (by omega) (by omega)];omega
 have h:=ZK (e:=1) (R:=R) (n:=S.length) (k:=S.length+12) (c:=S.length+12) (by omega) (by omega) (Nf _);simp only [n44,w,h,SB,seval,NL,NH,reduceCtorEq,NG];have z:(S++TB).length=S.length+12:=by rw [Nk,Wv]
 have x:Sl H encI 1 (Sa R) (S++TB):=Sl.row OT y;refine NP (fun i=>S.length+12-i) (fun i fr G=>i<=S.length+12/\fr 1=.slice p S.length c/\fr 5=.slice (Sa R) (S.length+12) (S.length+12)/\fr 6=Vi i/\G=H) 0
  ⟨Np _,rfl,rfl,by rfl,by simp⟩ ?_
 rintro i fr G ⟨hi,o,g,q,rfl⟩ hN;rw [NU N8v.eq_1];refine NJ ?_;by_cases d:i<S.length+12
 case neg=>
  simp only [n44,g,q,ND,d,SB,seval,NL,NH,NC]
 have m:IntKind.i64.wrap ((i:Int)+1)=((i+1:Nat):Int):=OC (by omega);have b:=S9 (i:=i) x (by omega);have f:=fun c (k:IntKind) (H1:NA)=>x.idx (c:=c) (k:=k) (H1:=H1) (by omega:i<(S++TB).length)
 rw [z] at f;by_cases a:i<S.length
 ·have v:=S9 (i:=i) hs a;have u:=fun c (k:IntKind) (H1:NA)=>hs.idx (c:=c) (k:=k) (H1:=H1) a
  rw [UM a] at b;have c2:¬S.length<=i:=by omega
  simp only [n44,o,g,q,ND,d,a,b,f,v,u,eq_self,decide_true,Qn,m,TU,c2,SB,seval,NL,NH,RN];exact hN (i+1) _ _ ⟨by omega,o,g,rfl,by simp⟩ (by omega)
 ·have j:IntKind.i64.wrap ((i:Int)-(S.length:Int))=((i-S.length:Nat):Int):=by rw [NR (by omega) (by omega)];omega
  have t:=fun (mp:Bool) (lim:Nat) (H:NA) (Q:Value->NA->Prop)=>Ne4 (mp:=mp) (lim:=lim) (H:=H) (Q:=Q) (by omega:i-S.length<1000)
  have s:gt (S++TB) i=Ncm (i-S.length):=by
   have:=Xb (l:=S) (r:=TB) (i:=i-S.length);rw [show S.length+(i-S.length)=i by omega,Nh4 (by omega)] at this;exact this
  rw [s] at b;simp only [Ncm] at b;have c2:S.length<=i:=by omega
  simp only [n44,o,g,q,ND,d,a,b,f,j,t,eq_self,decide_true,Qn,m,TU,c2,SB,seval,NF,NL,NH,RN];exact hN (i+1) _ _ ⟨by omega,o,g,rfl,by simp⟩ (by omega)
theorem N0k [OA] {lim:Nat} {p:Option Addr} {S:List Leg} (hs:Sl H encL 8 p S) (hn:S.length<=2010) (hl:lim<=H.length)
  (U:∀G,NE G H.length=Vc ((S++SF).flatMap encL)->Chg [] H G->Q (.slice (Sa H.length) S.length (S.length+12)) (G++[])) :
  NQ E false lim 41 [.slice p S.length c] H Q:=by
 refine QN (by decide) rfl rfl ?_;rw [b41,c41];have F:IntKind.i64.wrap ((S.length:Int)+12)=((S.length+12:Nat):Int):=by rw [NR (by omega) (by omega)];omega
 have v:((S.length+12:Nat):Int)*64<=2 ^ 45:=by omega
 have w:((S.length+12:Nat):Int)<2 ^ 62:=by omega
 have A:(0:Int)<=((S.length+12:Nat):Int):=by omega
 have o:∀z:List Value,z.length=(S.length+12)*8->∃G1 M,M.length=12*8/\NE G1 H.length=Vc (S.flatMap encL++M)/\Chg [] H G1/\
   OP lim none 8 64 false (.slice (Sa H.length) 0 (S.length+12)) (.slice p S.length c) (H++[Vc z])=some (.slice (Sa H.length) S.length (S.length+12),G1++[]):=fun z f=>by
  have:=Yw (lim:=lim) (R:=H.length) (bytes:=64) (cap:=S.length+12) (k:=c) (enc:=encL) (old:=[]) (l:=S) (rest:=z) NZ (by decide) (hs.app [Vc z]) (by rw [NN];rfl) hl (by simp) (by rw [f];simp) (by omega) (by unfold OX;simp;omega);rw [Nn,Nx,Og] at this;refine ⟨_,z.drop (S.length*8),by rw [O2,f];omega, ?_, ?_,by rw [Na];exact this⟩
  ·exact Rv (by simp)
  ·exact Chg.refl.app.set (.inr (Nf _))
 simp only [n41,F,v,w,A,N1,Q3,SB,Nat.reduceLT,NL,Nat.reduceEqDiff,NH,reduceCtorEq,NG,place,Nat.reduceAdd,Int.reduceLE];generalize m:List.map _ (List.range ((S.length+12)*8))=N;have D:N.length=(S.length+12)*8:=by rw [<-m,Nz,Pe]
 clear m;have a:=o N D;refine a.elim fun G1 a=>a.elim fun z a=>?_
 have f:=a.1;have u:=a.2.1;have t:=a.2.2.1;have e1:=a.2.2.2;simp only [n41,e1,SB,seval,NL];refine NP (fun i=>12-i) (fun i fr G=>i<=12/\fr 0=.slice p S.length c/\fr 3=.slice (Sa H.length) (S.length+i) (S.length+12)/\fr 4=Vi i/\(∃z,z.length=(12-i)*8/\NE G H.length=Vc ((S++SF.take i).flatMap encL++z))/\Chg [] H G) 0
  ⟨Np _,rfl,(by simp only [Pd,FB,Nat.reduceEqDiff]),by rfl,⟨z,f,by rw [P2,Na,Na];exact u⟩,t.app⟩ ?_
 rintro i fr G ⟨hi,I,J,K,⟨z,f,q⟩,s⟩ hN;rw [NU N8w.eq_1];refine NJ ?_;have T:=s.len;have g:=NM q;by_cases j:i<12
 ·have O:(i:Int)<12:=by omega
  have B:IntKind.i64.wrap ((i:Int)+1)=((i+1:Nat):Int):=OC (by omega);have y:=fun (mp:Bool) (lim:Nat) (H:NA) (Q:Value->NA->Prop)=>Nh5 (mp:=mp) (lim:=lim) (H:=H) (Q:=Q) (by omega:i<1000)
  have r:(S++SF.take i).length=S.length+i:=by rw [Nk,N5,VA];omega
  obtain ⟨V,e3,P,L⟩:=OO (G:=G) (R:=H.length) g (Vc ((((S++SF.take i)++[M3 i]).flatMap encL)++z.drop 8));have d:=Mg (lim:=lim) (R:=H.length) (bytes:=64) (cap:=S.length+12) (k:=1) (b:=G.length) (dest:=none) (H:=G++[Vc (encL (M3 i))]) (enc:=encL) (old:=S++SF.take i) (x:=M3 i) (ro:=false) (rest:=z) NZ (by decide)
   (by rw [NN];rfl) (by rw [NS g];exact q) hl (by rw [r];omega) (by rw [r,f];congr 1;omega) (by omega) (by rw [r];unfold OX;omega)
  rw [r,e3] at d;simp only [n41,J,K,Nh O,y,NZ,B,d,SB,seval,NF,NL,NH,place];refine hN (i+1) _ _ ⟨by omega,I,(by simp only [FB,Nat.reduceEqDiff]),rfl,⟨z.drop 8,by rw [O2,f];omega, ?_⟩,(s.mut L (.inr (Nf _))).app⟩ (by omega);rw [NS (by rw [L.len];exact g),P,No S,<-Ne3 j,OQ (by rw [VA];exact j),<-Nv]
 ·obtain rfl:i=12:=by omega
  have C:z=[]:=List.length_eq_zero_iff.mp f;rw [C,Na,Oc (by rw [VA];exact Nf _)] at q;have h:=ZK (e:=8) (R:=H.length) (n:=S.length+12) (k:=S.length) (c:=S.length+12) (Nf _) (by omega) (by omega);simp only [n41,I,J,K,h,SB,seval,NL,NH,reduceCtorEq,NC];exact U G q s
theorem N1t [OA] {lim:Nat} {p:Option Addr} {S:List Leg} (hs:Sl H encL 8 p S) (hn:S.length<=2010) (y:NE H R=Vc ((S++SF).flatMap encL)) :
  NQ E mp lim 45 [.slice (Sa R) S.length (S.length+12),.slice p S.length c] H Q=Q (.bool true) H:=by
 refine pc (by decide) rfl rfl rfl ?_;rw [b45,c45];have w:IntKind.i64.wrap ((S.length:Int)+12)=((S.length+12:Nat):Int):=by rw [NR (by omega) (by omega)];omega
 have h:=ZK (e:=8) (R:=R) (n:=S.length) (k:=S.length+12) (c:=S.length+12) (by omega) (by omega) (Nf _);simp only [n45,w,h,SB,seval,NL,NH,reduceCtorEq,NG];have z:(S++SF).length=S.length+12:=by rw [Nk,VA]
 have x:Sl H encL 8 (Sa R) (S++SF):=Sl.row NZ y;refine NP (fun i=>S.length+12-i) (fun i fr G=>i<=S.length+12/\fr 1=.slice p S.length c/\fr 5=.slice (Sa R) (S.length+12) (S.length+12)/\fr 6=Vi i/\G=H) 0
  ⟨Np _,rfl,rfl,by rfl,by simp⟩ ?_
 rintro i fr G ⟨hi,o,g,q,rfl⟩ hN;rw [NU N8u.eq_1];refine NJ ?_;by_cases d:i<S.length+12
 case neg=>
  simp only [n45,g,q,ND,d,SB,seval,NL,NH,NC]
 have m:IntKind.i64.wrap ((i:Int)+1)=((i+1:Nat):Int):=OC (by omega);have b:=fun X=>(x.app X).loadCells NZ (by omega:i<(S++SF).length)
 have f:=fun c (k:IntKind) (H1:NA)=>x.idx (c:=c) (k:=k) (H1:=H1) (by omega:i<(S++SF).length)
 rw [z] at f;by_cases a:i<S.length
 ·have v:=fun X=>(hs.app X).loadCells NZ a
  have u:=fun c (k:IntKind) (H1:NA)=>hs.idx (c:=c) (k:=k) (H1:=H1) a
  rw [UM a] at b;have c2:¬S.length<=i:=by omega
  simp only [n45,o,g,q,ND,d,a,b,f,v,u,Nfs,m,TU,c2,SB,seval,NL,NH,RN];exact hN (i+1) _ _ ⟨by omega,o,g,rfl,by simp⟩ (by omega)
 ·have j:IntKind.i64.wrap ((i:Int)-(S.length:Int))=((i-S.length:Nat):Int):=by rw [NR (by omega) (by omega)];omega
  have t:=fun (mp:Bool) (lim:Nat) (H:NA) (Q:Value->NA->Prop)=>Nh5 (mp:=mp) (lim:=lim) (H:=H) (Q:=Q) (by omega:i-S.length<1000)
  have s:gt (S++SF) i=M3 (i-S.length):=by
   have:=Xb (l:=S) (r:=SF) (i:=i-S.length);rw [show S.length+(i-S.length)=i by omega,Ne3 (by omega)] at this;exact this
  rw [s] at b;have c2:S.length<=i:=by omega
  simp only [n45,o,g,q,ND,d,a,b,f,j,t,Nfs,m,TU,c2,SB,seval,NF,NL,NH,RN];exact hN (i+1) _ _ ⟨by omega,o,g,rfl,by simp⟩ (by omega)
theorem Nlr [OA] {lim c':Nat} {p l:Option Addr} (hs:Sl H encL 8 p L) (f:Sl H encL 8 l L) (hn:L.length<2 ^ 62) :
  NQ E mp lim 81 [.slice p L.length c,.slice l L.length c'] H Q=Q (.bool true) H:=by
 refine pc (by decide) rfl rfl rfl ?_;rw [b81,c81];simp only [n81,SB,seval,NL,NH,reduceCtorEq,NG];refine NP (fun i=>L.length-i) (fun i fr G=>i<=L.length/\fr 0=.slice p L.length c/\fr 1=.slice l L.length c'/\fr 5=Vi i/\G=H) 0
  ⟨Np _,rfl,rfl,by rfl,by simp⟩ ?_
 rintro i fr G ⟨hi,g,m,n,rfl⟩ hN;rw [NU N75.eq_1];refine NJ ?_;by_cases a:i<L.length
 ·have h:=fun X=>(hs.app X).loadCells NZ a
  have e:=fun X=>(f.app X).loadCells NZ a
  have d:=fun c (k:IntKind) (H1:NA)=>hs.idx (c:=c) (k:=k) (H1:=H1) a
  have b:=fun c (k:IntKind) (H1:NA)=>f.idx (c:=c) (k:=k) (H1:=H1) a
  have j:IntKind.i64.wrap ((i:Int)+1)=((i+1:Nat):Int):=OC (by omega);simp only [n81,g,m,n,ND,a,d,b,h,e,Nfs,Qn,j,SB,seval,NL,NH,reduceCtorEq];exact hN (i+1) _ _ ⟨by omega,g,m,rfl,by simp⟩ (by omega)
 ·obtain rfl:i=L.length:=by omega
  simp only [n81,g,n,ND,a,SB,seval,NL,NH,reduceCtorEq,NC]
theorem Npm [OA] {lim:Nat} {d:Option Addr} (h1:NetIn H pp pl P L) (h2:NetIn H d b P L) (e:P.length<2 ^ 62) (hL:L.length<2 ^ 62) :
  NQ E mp lim 43 [.agg (netV pp P.length c1 pl L.length c2).toArray,.agg (netV d P.length d1 b L.length d2).toArray] H Q=Q (.bool true) H:=by
 refine pc (by decide) rfl rfl rfl ?_;rw [b43,c43];have a:=fun X (mp:Bool) (lim:Nat) (Q:Value->NA->Prop)=>Ncf (mp:=mp) (lim:=lim) (ca:=c1) (cb:=d1) (Q:=Q) (h1.sp.app X) (h2.sp.app X) e
 simp only [decide_true] at a;have f:=fun X (mp:Bool) (lim:Nat) (Q:Value->NA->Prop)=>Nlr (mp:=mp) (lim:=lim) (c:=c2) (c':=d2) (Q:=Q) (h1.sl.app X) (h2.sl.app X) hL
 simp only [n43,Rw,QE,a,f,SB,seval,NF,NL,NG,place,NB,NC]
structure LentN (G:NA) (b1 b2:Nat) (P:List Int) (L:List Leg):Prop where
 i:NE G b1=Vc ((P++TB).flatMap encI)
 l:NE G b2=Vc ((L++SF).flatMap encL)
theorem LentN.net {G:NA} (h:LentN G b1 b2 P L) (hn:NetIn H pp pl P L):NetIn G (Sa b1) (Sa b2) P L:=
 ⟨(Sl.row OT h.i).pre OT,(Sl.row NZ h.l).pre NZ,hn.np,hn.nl,hn.bys⟩
theorem Nq5 [OA] {lim:Nat} {a:Option Addr} (h1:LentN H b1 b2 P L) (h2:NetIn H b a P L) (f:P.length<=60) (hL:L.length<=60) :
  NQ E mp lim 21 [.agg (netV (Sa b1) P.length (P.length+12) (Sa b2) L.length (L.length+12)).toArray,.agg (netV b P.length d1 a L.length d2).toArray] H Q=Q (.bool true) H:=by
 refine pc (by decide) rfl rfl rfl ?_;rw [b21,c21];have hs:=fun X (mp:Bool) (lim:Nat) (Q:Value->NA->Prop)=>Npm (mp:=mp) (lim:=lim) (c1:=P.length+12) (c2:=L.length+12) (d1:=d1) (d2:=d2) (Q:=Q) ((h1.net h2).app X) (h2.app X) (by omega) (by omega)
 have d:=fun X (mp:Bool) (lim:Nat) (Q:Value->NA->Prop)=>N1u (mp:=mp) (lim:=lim) (c:=d1) (R:=b1) (Q:=Q) (h2.sp.app X) (by omega) ((OD.refl.app (X:=X)).cells h1.i)
 have e:=fun X (mp:Bool) (lim:Nat) (Q:Value->NA->Prop)=>N1t (mp:=mp) (lim:=lim) (c:=d2) (R:=b2) (Q:=Q) (h2.sl.app X) (by omega) ((OD.refl.app (X:=X)).cells h1.l)
 simp only [n21,OG,Rw,QE,NK,hs,d,e,SB,seval,NF,NL,NG,place,NB,NC]
theorem Nqx [OA] {lim:Nat} (hn:NetIn H pp pl P L) (R:P.length<=60) (hL:L.length<=60) (c:lim<=H.length)
  (K:∀G b1 b2,Chg [] H G->LentN G b1 b2 P L->H.length<=b1->H.length<=b2->Q (.agg (netV (Sa b1) P.length (P.length+12) (Sa b2) L.length (L.length+12)).toArray) G) :
  NQ E false lim 19 [.agg (netV pp P.length c1 pl L.length c2).toArray] H Q:=by
 refine QN (by decide) rfl rfl ?_;rw [b19,c19];simp only [n19,Rw,SB,seval,NF,NL,NG,place,NB];refine N0l (hn.sp.app _) (by omega) (by simp;omega) fun G1 h1 b=>?_
 have d:Chg [] H G1:=b.pre;have k1:NE G1 H.length=Vc (netV pp P.length c1 pl L.length c2):=b.cells (by rw [NN];rfl) (by simp);have k2:NE G1 (H.length+1)=Vc [Vz,Vz]:=b.cells (by rw [NY];rfl) (by simp);obtain ⟨G2,e2,h2,i⟩:=OO (NM k1) (Vc (netV (Sa (H.length+2)) P.length (P.length+12) pl L.length c2));have y:=zc k1;have n:=zc h2;have es:∀v,(netV pp P.length c1 pl L.length c2).set 0 v=[v,.slice pl L.length c2]:=fun v=>rfl
 have k:∀X,(G1++X).set H.length (Vc [.slice (Sa (H.length+2)) P.length (P.length+12),.slice pl L.length c2])=G2++X:=e2;refine NJ ?_;simp only [n19,OG,QE,y,es,k,n,c,SB,seval,NF,NL,NB];have w:=b.len;have M:=i.len;simp at w;have s:NE G1 (H.length+2)=Vc ((P++TB).flatMap encI):=by simpa using h1
 have t:NE G2 (H.length+2)=Vc ((P++TB).flatMap encI):=i.cells s (by omega);have e:Chg [] H G2:=d.mut i (.inr (by omega));refine N0k ((e.sl hn.sl (by simp)).app _) (by omega) (by simp;omega) fun A B q=>?_
 have a:=q.pre;have f:Chg [] H A:=e.trans a;have N:=a.len;have C:=a.cells h2 (by simp);have O:=a.cells (i.cells k2 (by omega)) (by simp);have u:=a.cells t (by simp);rw [Na] at B;obtain ⟨D,e4,J,j⟩:=OO (NM C) (Vc (netV (Sa (H.length+2)) P.length (P.length+12) (Sa G2.length) L.length (L.length+12)));have g:=j.cells O (by omega);obtain ⟨F,I,h5,z⟩:=OO (NM g) (Vc (netV (Sa (H.length+2)) P.length (P.length+12) (Sa G2.length) L.length (L.length+12)));have x:=zc C;have o:=zc J;have h:=zc g;have p:=zc h5;have m:∀v,(netV (Sa (H.length+2)) P.length (P.length+12) pl L.length c2).set 1 v=[.slice (Sa (H.length+2)) P.length (P.length+12),v]:=fun v=>rfl
 have l:∀X,(A++X).set H.length (Vc [.slice (Sa (H.length+2)) P.length (P.length+12),.slice (Sa G2.length) L.length (L.length+12)])=D++X:=e4;refine NJ ?_;simp only [n19,r19,OG,NK,x,m,l,o,h,c,I,p,SB,seval,NL,NB,NC];have r:Chg [] H F:=(f.mut j (.inr (by omega))).mut z (.inr (by omega));exact K _ _ _ r.app ⟨(OD.refl.app).cells (z.cells (j.cells u (by omega)) (by omega)),(OD.refl.app).cells (z.cells (j.cells B (by omega)) (by omega))⟩ (by omega) (by omega)
end Go.Proofs.YtkppjkkkdpcgiaaGreat.Fn



namespace Go.Net
variable {L:List Leg} {e:Int}
def VR (L:List Leg) (q e:Int) (k:Nat) (p t:Int) (l:Leg) (a:Int):Prop:=l∈L/\l.frm=p/\R7 l t=some a/\a+l.mins<=e/\∃j,j<=k/\∃v,v<=e/\Way L j l.dst (a+l.mins) q v
def Y3 (L:List Leg) (q e:Int):Nat->Int->Int->List (Leg×Int)->Prop
 | 0,_,_,w=>w=[]
 | k+1,p,t,w=>∃l a w',w=(l,a)::w'/\VR L q e k p t l a/\(∀b a',VR L q e k p t b a'->l.id<=b.id)/\Y3 L q e k l.dst (a+l.mins) w'
def Ngr (L:List Leg) (q e:Int) (k:Nat) (p t:Int):Prop:=(∃v,v<=e/\Way L k p t q v)/\∀j v,Way L j p t q v->v<=e->k<=j
theorem Ngr.can (hL:∀l∈L,Fine l) {q p t:Int} {k:Nat} (h:Ngr L q e (k+1) p t):∃l a,VR L q e k p t l a:=by
 obtain ⟨⟨v,j,m⟩,_⟩:=h;obtain ⟨l,hl,a,i,hd,f,c⟩:=m.head;cases hx:R7 l t with
 | none=>have:=XY hx a hd;omega
 | some b=>
   obtain ⟨o,r,n⟩:=Rz hx;have g:=n a hd f;have d:=c.later hL;refine ⟨l,b,hl,i,hx,by omega, ?_⟩;rcases c.early (t':=b+l.mins) (by omega) with ⟨rfl,e1,e2⟩ | h
   ·exact ⟨0,Np _,b+l.mins,by omega,by rw [e1];exact .nil _ _⟩
   ·exact ⟨k,Nf _,v,j,h⟩
theorem Ngr.step {q p t a:Int} {k:Nat} {l:Leg} (h:Ngr L q e (k+1) p t) (hc:VR L q e k p t l a):Ngr L q e k l.dst (a+l.mins):=by
 obtain ⟨hl,d,m,f,j,r,v,b,c⟩:=hc;obtain ⟨n,o,s⟩:=Rz m;have few:∀j v,Way L j l.dst (a+l.mins) q v->v<=e->k<=j:=fun i u hi g=>by
  have:=h.2 (i+1) u (.cons hl d n o hi) g;omega
 have:=few j v c b;obtain rfl:j=k:=by omega
 exact ⟨⟨v,b,c⟩,few⟩
theorem Y3.spec (hL:∀l∈L,Fine l) (n:∀a∈L,∀b∈L,a.id=b.id->a=b) {q:Int}:∀{k:Nat} {p t:Int} {w:List (Leg×Int)},Y3 L q e k p t w->Ngr L q e k p t->
  w.length=k/\(∃v,v<=e/\Su L p t w q v)/\Zv t w/\∀w' t' v',t<=t'->Su L p t' w' q v'->v'<=e->w'.length=k->¬Ng1 (Ye w') (Ye w)
 | 0,p,t,w,h,hj=>by
   cases h;obtain ⟨v,x,J⟩:=hj.1;cases J;exact ⟨rfl,⟨_,x,rfl,rfl⟩,trivial,fun w' t' v' _ _ _ hl=>by cases w' with | nil=>exact fun h=>h | cons=>simp at hl⟩
 | k+1,p,t,w,h,hj=>by
   obtain ⟨l,a,w1,rfl,hc,c,i⟩:=h;obtain ⟨K,⟨v,x,M⟩,N,O⟩:=Y3.spec hL n i (hj.step hc);obtain ⟨hl,F,A,H,_⟩:=hc;obtain ⟨P,Q,U⟩:=Rz A;refine ⟨by simp [K],⟨v,x,hl,F,P,Q,M⟩,⟨A,N⟩,fun w' t' v' I z r d=>?_⟩;cases w' with
   | nil=>simp at d
   | cons y w'=>
     obtain ⟨j,a'⟩:=y;obtain ⟨h1,h2,B,T,h5⟩:=z;have g:w'.length=k:=by simpa using d
     have C:=h5.way.later hL;intro f;simp only [Ye,Oj,Ng1] at f;cases hx':R7 j t with
     | none=>have:=XY hx' a' B;omega
     | some b=>
       obtain ⟨R,S,D⟩:=Rz hx';have E:=D a' B (by omega);have m:VR L q e k p t j b:=by
        refine ⟨h1,h2,hx',by omega, ?_⟩;rcases h5.way.early (t':=b+j.mins) (by omega) with ⟨e0,e1,e2⟩ | h
        ·exact ⟨0,Np _,b+j.mins,by omega,by rw [e1];exact .nil _ _⟩
        ·exact ⟨w'.length,by omega,v',r,h⟩
       have G:=c j b m;rcases f with o | ⟨s,o⟩
       ·omega
       ·have u:=n j h1 l hl s;subst u;rw [A] at hx';cases hx';exact O w' (a'+j.mins) v' (by omega) h5 r g o
theorem Y3.best (hL:∀l∈L,Fine l) (d:∀a∈L,∀b∈L,a.id=b.id->a=b) {p q ready v:Int} {k:Nat} {w:List (Leg×Int)} (n:Vd L p ready q v) (f:0<=v) (h:Y3 L q v k p ready w) (i:Ngr L q v k p ready):BestW L p ready q v w:=by
 obtain ⟨s,⟨u,y,o⟩,t,x⟩:=h.spec hL d i;have m:=(n.ge hL f).2;have e:u=v:=by
  have:=n.le (u:=u) ⟨⟨_,o.way⟩,by omega⟩;omega
 subst e;exact ⟨o,fun j v' r c=>by rw [s];exact i.2 j v' r c,fun w' v' g c hl=>x w' ready v' (Ow _) g c (by omega),t⟩
end Go.Net



namespace Go.Proofs.YtkppjkkkdpcgiaaGreat.Fn
open Go.AM Go.AM.Sym Go.Net Go.Scan
variable {A cp cl:Nat} {K:List AItem} {H G0:NA} {b:Option (Leg×Int)} {pp pl:Option Addr} {L:List Leg} {e v:Int} {Z:Value->NA->Prop} {l:Leg} {P:List Int} {fr:Nat->Value}
theorem Nj3 (h:NetOk 50 P L (NW P)):NetOk P.length P L (NW P):=⟨h.fine,h.frm,h.dst,h.inj,fun a b=>N4 b⟩
theorem N2a (c:∀a∈L,∀b∈L,a.id=b.id->a=b) (hl:l∈L):L.find? (fun x=>x.id=l.id)=some l:=by
 cases h:L.find? (fun x=>x.id=l.id) with
 | none=>have:=List.find?_eq_none.1 h l hl;simp at this
 | some x=>
   have h1:=Q6 h;have h2:=Rn h;simp only [N6] at h2;rw [c x h1 l hl h2]
theorem Nkt {p t q:Int} {k:Nat} (hn:NetOk 50 P L (NW P)) (hp:p∈P) (g:q∈P) (l:0<=t) (d:t<=e):0<=(QM P.length (NW P) e L p t k).getD (NW P q) (-1)↔∃j,j<=k/\∃v,v<=e/\Go.Net.Way L j p t q v:=by
 have h:=Uu (Nj3 hn) hp l d k q g;constructor
 ·intro f;obtain ⟨⟨j,b,a⟩,c⟩:=h.mem f;exact ⟨j,b,_,c,a⟩
 ·rintro ⟨j,b,v,m,a⟩;apply Oe;intro hc;exact h.none (fun u ⟨⟨i,_,a⟩,_⟩=>by have:=a.later hn.fine;omega) (by omega) v ⟨⟨j,b,a⟩,m⟩
theorem N3h {p t q:Int} {k:Nat} (hn:NetOk 50 P L (NW P)) (hp:p∈P) (e:q∈P) (f:0<=t) (l:Vd L p t q v) (b:0<=v)
  (hk:(QM P.length (NW P) v L p t k).getD (NW P q) (-1)=v) (d:∀j,j<k->(QM P.length (NW P) v L p t j).getD (NW P q) (-1)≠v):Ngr L q v k p t:=by
 obtain ⟨a,h⟩:=l.ge hn.fine b;have few:∀j u,Go.Net.Way L j p t q u->u<=v->k<=j:=fun j u c o=>by
  apply Oe;intro hc;have m:=(Nkt (k:=j) hn hp e f a).2 ⟨j,Nf _,u,o,c⟩;obtain ⟨⟨i,hi,g⟩,n⟩:=(Uu (Nj3 hn) hp f a j q e).mem m;have r:=l.le (u:=(QM P.length (NW P) v L p t j).getD (NW P q) (-1)) ⟨⟨i,g⟩,by omega⟩;exact d j (by omega) (by omega)
 have hm:=Uu (Nj3 hn) hp f a k q e;rw [hk] at hm;obtain ⟨⟨i,hi,c⟩,_⟩:=hm.mem b;have:=few i v c (Ow _);obtain rfl:i=k:=by omega
 exact ⟨⟨v,Ow _,c⟩,few⟩
theorem N3i {p t q:Int} (hn:NetOk 50 P L (NW P)) (hp:p∈P) (e:q∈P) (f:0<=t) (c:Vd L p t q v) (a:0<=v):(QM P.length (NW P) v L p t P.length).getD (NW P q) (-1)=v:=by
 obtain ⟨b,d⟩:=c.ge hn.fine a;refine (Nit hn hp f b e).uniq (.inr ⟨⟨(c.mem a).1,Ow _⟩,fun u g=>?_⟩);exact c.le ⟨g.1,by omega⟩
theorem Npa [OB] {lim:Nat} {p q t:Int} (hn:NetIn H pp pl P L) (N:QD P L=0) (hp:p∈P) (I:q∈P) (M:0<=t) (ab:t<=NV) (C:Vd L p t q v) (m:0<=v) (O:lim<=H.length) (x:Chg [] H G0)
  (U:NE G0 A=Vc (netV pp P.length cp pl L.length cl)) (f1:fr 1=Vi p) (f3:fr 3=Vi t) (f4:fr 4=Vp A) (f11:fr 11=Vi (NW P q:Int)) (f12:fr 12=Vi v) (f13:fr 13=Vi 0)
  (V:∀fr' G k,Chg [] G0 G->k<=P.length->Ngr L q v k p t->fr' 13=Vi k->(∀j,j<=12->fr' j=fr j)->PT E a91 lim K fr' G Z) :
  PT E a91 lim (.code (.loop N0q)::.inBlock 0::K) fr G0 Z:=by
 have l:=RS N;obtain ⟨v1,v2,v3,v4⟩:=Sg N;have mt:NV=1051898399:=rfl;obtain ⟨D,aa⟩:=C.ge l.fine m;refine NP (fun k=>P.length-k) (fun k fr' G=>k<=P.length/\Chg [] G0 G/\fr' 13=Vi k/\(∀j,j<=12->fr' j=fr j)/\∀j,j<k->(QM P.length (NW P) v L p t j).getD (NW P q) (-1)≠v) 0
  ⟨Np _,Chg.refl,by rw [f13];rfl,fun _ _=>rfl,fun j n=>by omega⟩ ?_
 intro k fr' G ⟨hk,u,g,a,c⟩ hN;rw [NU N0q.eq_1];have R:=(a 1 (by decide)).trans f1;have S:=(a 3 (by decide)).trans f3;have T:=(a 4 (by decide)).trans f4;have o:=(a 11 (by decide)).trans f11;have e:=(a 12 (by decide)).trans f12;have r:=x.trans u;have Y:=r.len;have Q:=u.cells U (by simp);have w:=zc Q;have F:=hn.ext r.ext;have d:∀(f:Nat->Value),(∀j,j<=12->f j=fr' j)->∀j,j<=12->f j=fr j:=fun f h j n=>(h j n).trans (a j n)
 refine NJ ?_;simp only [n91,R,S,T,e,g,w,OG,NK,SB,seval,NF,NL];refine Zj (F.app _) N hp M D (by omega) (by omega) (by simp;omega) fun G2 q2 y z=>?_
 have b:Chg [] G G2:=y.pre;have J:NW P q<P.length:=N4 I;have sT:=z.sl OT;have B:(QM P.length (NW P) v L p t k).length=P.length:=RZ;have lT:=S9 (i:=NW P q) sT (by omega);have xT:=Ux (i:=NW P q) sT J B;rw [WL (by omega)] at lT;have w1:IntKind.i64.wrap ((k:Int)+1)=((k+1:Nat):Int):=OC (by omega);refine NJ ?_;by_cases s:(QM P.length (NW P) v L p t k).getD (NW P q) (-1)=v
 ·simp only [n91,o,e,lT,xT,Nh s,SB,seval,NL,NH];exact V _ _ k (u.trans b).app hk (N3h l hp I M C m s c) g (d _ fun j n=>(by simp only [upd];repeat rw [Ng (by omega)]))
 ·have W:k<P.length:=by
   rcases Od k P.length with h | h
   ·exact h
   ·obtain rfl:k=P.length:=by omega
    exact absurd (N3i l hp I M C m) s
  simp only [n91,o,e,g,lT,xT,Nc s,w1,SB,seval,NL,NH];exact hN (k+1) _ _ ⟨by omega,(u.trans b).app,rfl,d _ fun j n=>(by simp only [upd];repeat rw [Ng (by omega)]),fun j n=>by
    rcases Od j k with h | h
    ·exact c j h
    ·obtain rfl:j=k:=by omega
     exact s⟩ (by omega)
def Nc5 (b:Option (Leg×Int)):Int×Int×Int:=match b with | some x=>Sk x | none=>(0,0,0)
def Ndb (L M:List Leg) (q e:Int) (k:Nat) (p t:Int) (b:Option (Leg×Int)):Prop:=match b with
 | some (l,a)=>VR L q e k p t l a/\∀c∈M,∀a',VR L q e k p t c a'->l.id<=c.id
 | none=>∀c∈M,∀a',¬VR L q e k p t c a'
theorem WZ {i:Nat} (hi:i<L.length):l∈L.take (i+1)↔l∈L.take i\/l=gt L i:=by
 rw [Nv hi,OQ hi,Ok,Nq]
theorem Ndb.keep {q p t:Int} {k i:Nat} (h:Ndb L (L.take i) q e k p t b) (hi:i<L.length) (c:∀a,VR L q e k p t (gt L i) a->∃x,b=some x/\x.1.id<=(gt L i).id):Ndb L (L.take (i+1)) q e k p t b:=by
 match b,h,c with
 | none,h,c=>
   intro l hl a hc;rcases (WZ hi).1 hl with hl | rfl
   ·exact h l hl a hc
   ·obtain ⟨x,f,_⟩:=c a hc;cases f
 | some (l0,a0),h,c=>
   refine ⟨h.1,fun l hl a hc=>?_⟩;rcases (WZ hi).1 hl with hl | rfl
   ·exact h.2 l hl a hc
   ·obtain ⟨x,f,d⟩:=c a hc;cases f;exact d
theorem Ndb.up {q p t a:Int} {k i:Nat} (h:Ndb L (L.take i) q e k p t b) (hi:i<L.length) (hc:VR L q e k p t (gt L i) a) (c:∀x,b=some x->(gt L i).id<=x.1.id):Ndb L (L.take (i+1)) q e k p t (some (gt L i,a)):=by
 refine ⟨hc,fun l hl a' d=>?_⟩;rcases (WZ hi).1 hl with hl | rfl
 ·match b,h,c with
  | none,h,_=>exact absurd d (h l hl a')
  | some (l0,a0),h,c=>have:=h.2 l hl a' d;have:=c _ rfl;simp only at this;omega
 ·exact Ow _
theorem Nw1 [OB] {lim R left:Nat} {q plant t:Int} (hn:NetIn H pp pl P L) (hv:QD P L=0) (hq:q∈P) (ht:0<=t) (bd:t<=NV) (be:v<=NV) (a9:left<2 ^ 40) (ba:lim<=H.length) (ar:H.length<=R) (a6:Chg [] H G0) (a5:A≠R)
  (hA:NE G0 A=Vc (netV pp P.length cp pl L.length cl)) (hB:NE G0 R=Vc [Vi 0,Vi 0,Vi 0])
  (f4:fr 4=Vp A) (f11:fr 11=Vi (NW P q:Int)) (f12:fr 12=Vi v) (ax:fr 15=Vi plant) (ay:fr 16=Vi t) (az:fr 17=Vi left) (a0:fr 18=Vp R) (a3:fr 19=Vi 0)
  (hK:∀fr' G b,Chg [] H G->Chg [R] G0 G->Ndb L L q v left plant t b->NE G R=Vc (enc3 (Nc5 b))->(∀j,j<=18->fr' j=fr j)->PT E a91 lim K fr' G Z) :
  PT E a91 lim (.code (.loop N0s)::.inBlock 4::K) fr G0 Z:=by
 have ab:=RS hv;obtain ⟨v1,v2,v3,v4⟩:=Sg hv;have mt:NV=1051898399:=rfl;refine NP (fun s:Nat×Option (Leg×Int)=>L.length-s.1) (fun s fr' G=>s.1<=L.length/\Chg [] H G/\Chg [R] G0 G/\fr' 19=Vi s.1/\(∀j,j<=18->fr' j=fr j)/\NE G R=Vc [Vi (Nc5 s.2).1,Vi (Nc5 s.2).2.1,Vi (Nc5 s.2).2.2]/\Ndb L (L.take s.1) q v left plant t s.2) (0,none)
  ⟨Np _,a6,Chg.refl,by rw [a3];rfl,fun _ _=>rfl,hB,fun l hl=>by simp at hl⟩ ?_
 rintro ⟨i,b⟩ fr' G ⟨hi,T,p,n,D,bB,hM⟩ hN;simp only at hi n bB hM;rw [NU N0s.eq_1];have g4:=(D 4 (by decide)).trans f4;have ad:=(D 11 (by decide)).trans f11;have ae:=(D 12 (by decide)).trans f12;have I:=(D 15 (by decide)).trans ax;have J:=(D 16 (by decide)).trans ay;have aq:=(D 17 (by decide)).trans az;have Y:=(D 18 (by decide)).trans a0;have bb:=T.len;have N:lim<=G.length:=by omega
 have bA:=p.cells hA (by simpa using a5);have B:=zc bA;have ai:=zc bB;have ah:=hn.ext T.ext;have g:∀(f:Nat->Value),(∀j,j<=18->f j=fr' j)->∀j,j<=18->f j=fr j:=fun f h j w=>(h j w).trans (D j w)
 refine NJ ?_;by_cases o:i<L.length
 case neg=>
  obtain rfl:i=L.length:=by omega
  rw [N9] at hM;simp only [n91,g4,n,B,QE,o,SB,seval,NL,NH];exact hK _ _ b T.app p.app hM ((OD.refl.app).cells bB) (g _ fun j w=>(by simp only [upd];repeat rw [Ng (by omega)]))
 have ag:=PM (l:=L) (i:=i) o;have lL:=fun X=>(ah.sl.app X).loadCells NZ o
 have xL:=fun c (kk:IntKind) (H1:NA)=>ah.sl.idx (c:=c) (k:=kk) (H1:=H1) o
 have w1:IntKind.i64.wrap ((i:Int)+1)=((i+1:Nat):Int):=OC (by omega);have m:=hM.keep o;have aw:=fun a=>hM.up (a:=a) o
 have hF:=ab.fine _ ag;have hd:=ab.dst _ ag;have u:=fun (H:NA) (mp:Bool) (lim:Nat) (Q:Value->NA->Prop)=>Nlx (mp:=mp) (lim:=lim) (H:=H) (Q:=Q) (l:=gt L i) (r:=t) hF ht (by omega)
 generalize gt L i=l at *;have a7:=hF;unfold Fine at a7;rcases hnd:R7 l t with _ | a
 ·have e:∀a,VR L q v left plant t l a->∃x,b=some x/\x.1.id<=l.id:=fun a hc=>by have:=hc.2.2.1;rw [hnd] at this;cases this
  rw [hnd] at u;simp only [Oo,TE] at u;by_cases hf:l.frm=plant
  ·simp only [n91,N,g4,I,J,n,B,QE,NZ,QR,NK,o,lL,xL,w1,NI,u,Nh hf,SB,seval,NF,NL,NH,RN,place,NB];exact hN (i+1,b) _ _ ⟨by show i+1<=L.length;omega,T.app,p.app,rfl,g _ fun j w=>(by simp only [upd];repeat rw [Ng (by omega)]),(OD.refl.app).cells bB,m e⟩ (by show L.length-(i+1)<L.length-i;omega)
  ·simp only [n91,N,g4,I,J,n,B,QE,NZ,QR,NK,o,lL,xL,w1,NI,u,Nc hf,SB,seval,NF,NL,NH,place,NB];exact hN (i+1,b) _ _ ⟨by show i+1<=L.length;omega,T.app,p.app,rfl,g _ fun j w=>(by simp only [upd];repeat rw [Ng (by omega)]),(OD.refl.app).cells bB,m e⟩ (by show L.length-(i+1)<L.length-i;omega)
 rw [hnd] at u;simp only [Ny,TE] at u;by_cases hf:l.frm=plant
 case neg=>
  have e:∀a,VR L q v left plant t l a->∃x,b=some x/\x.1.id<=l.id:=fun a hc=>absurd hc.2.1 hf
  simp only [n91,N,g4,I,J,n,B,QE,NZ,QR,NK,o,lL,xL,w1,NI,u,Nc hf,SB,seval,NF,NL,NH,place,NB];exact hN (i+1,b) _ _ ⟨by show i+1<=L.length;omega,T.app,p.app,rfl,g _ fun j w=>(by simp only [upd];repeat rw [Ng (by omega)]),(OD.refl.app).cells bB,m e⟩ (by show L.length-(i+1)<L.length-i;omega)
 obtain ⟨k1,k2,k3⟩:=Z8 hF hnd;by_cases O:a+l.mins<=v
 case neg=>
  have e:∀a,VR L q v left plant t l a->∃x,b=some x/\x.1.id<=l.id:=fun a' hc=>by
   have h1:=hc.2.2.1;rw [hnd] at h1;cases h1;exact absurd hc.2.2.2.1 O
  simp only [n91,N,g4,ae,I,J,n,B,QE,NZ,QR,NK,o,lL,xL,w1,NI,u,Nh hf,Nh (show v<a+l.mins by omega),SB,seval,NF,NL,NH,RN,place,NB];exact hN (i+1,b) _ _ ⟨by show i+1<=L.length;omega,T.app,p.app,rfl,g _ fun j w=>(by simp only [upd];repeat rw [Ng (by omega)]),(OD.refl.app).cells bB,m e⟩ (by show L.length-(i+1)<L.length-i;omega)
 have aa:=Nc (show ¬v<a+l.mins by omega);have au:∀x,b=some x->0<x.1.id:=fun x S=>by
  subst S;obtain ⟨y,z⟩:=x;have:=ab.fine _ hM.1.1;unfold Fine at this;show 0<y.id;omega
 by_cases hb:0<(Nc5 b).1/\(Nc5 b).1<l.id
 ·have e:∀a,VR L q v left plant t l a->∃x,b=some x/\x.1.id<=l.id:=fun a' hc=>by
   cases hbe:b with
   | none=>rw [hbe] at hb;exact absurd hb.1 (by decide)
   | some x=>rw [hbe] at hb;exact ⟨x,rfl,by have:=hb.2;change x.1.id<l.id at this;omega⟩
  simp only [n91,N,g4,ae,I,J,Y,n,B,ai,QE,NZ,RY,QR,NK,o,lL,xL,w1,NI,u,Nh hf,aa,Nh hb.1,Nh hb.2,SB,seval,NF,NL,NH,RN,place,NB];exact hN (i+1,b) _ _ ⟨by show i+1<=L.length;omega,T.app,p.app,rfl,g _ fun j w=>(by simp only [upd];repeat rw [Ng (by omega)]),(OD.refl.app).cells bB,m e⟩ (by show L.length-(i+1)<L.length-i;omega)
 have av:∀x,b=some x->l.id<=x.1.id:=fun x S=>by
  have h1:=au x S;subst S;change ¬(0<x.1.id/\x.1.id<l.id) at hb;omega
 by_cases al:0<(Nc5 b).1
 ·have a8:¬(Nc5 b).1<l.id:=fun h=>hb ⟨al,h⟩
  simp only [n91,N,g4,ae,I,J,aq,Y,n,B,ai,OG,QE,NZ,RY,QR,R3,NK,o,lL,xL,NI,u,Nh hf,aa,Nh al,Nc a8,NK,SB,seval,NF,NL,NH,RN,place,NB];refine Zj (ah.app _) hv hd (by omega) O (by omega) (by omega) (by simp;omega) fun G2 q2 M aj=>?_
  have d:Chg [] G G2:=M.pre;have F:=d.cells bB (by simp);have U:=zc F;have an:=zc (d.cells bA (by simp));have W:=zc (M.cells (j:=G.length) (ro:=false) (c:=encL l) (by rw [NN];rfl) (by simp));have V:=zc (M.cells (j:=G.length+1) (ro:=false) (c:=[Vi a,Vi (a+l.mins)]) (by rw [NY];rfl) (by simp));have am:NW P q<P.length:=N4 hq;have sT:=aj.sl OT;have ak:(QM P.length (NW P) v L l.dst (a+l.mins) left).length=P.length:=RZ;have lT:=S9 (i:=NW P q) sT (by omega);have xT:=Ux (i:=NW P q) sT am ak;have C:=Nkt (k:=left) (t:=a+l.mins) ab hd hq (by omega) O;rw [WL (by omega)] at lT;generalize (QM P.length (NW P) v L l.dst (a+l.mins) left).getD (NW P q) (-1)=x at *;refine NJ ?_;by_cases S:0<=x
  ·obtain ⟨G3,e3,k3,m3⟩:=OO (NM F) (Vc [Vi l.id,Vi a,Vi (a+l.mins)]);simp only [n91,ad,Y,n,U,W,V,RY,lT,xT,Nh S,show lim<=R by omega,e3,w1,SB,seval,NL,NH,NB];exact hN (i+1,some (l,a)) _ _ ⟨by show i+1<=L.length;omega,((T.trans d).mut m3 (.inr ar)).app,((p.trans' d fun j w=>by simp at w).mut m3 (.inl (by simp))).app,rfl,g _ fun j w=>(by simp only [upd];repeat rw [Ng (by omega)]),(OD.refl.app).cells k3,aw a ⟨ag,hf,hnd,O,C.1 S⟩ av⟩ (by show L.length-(i+1)<L.length-i;omega)
  ·have e:∀a,VR L q v left plant t l a->∃x,b=some x/\x.1.id<=l.id:=fun a' hc=>by
    have h1:=hc.2.2.1;rw [hnd] at h1;cases h1;exact absurd (C.2 hc.2.2.2.2) S
   simp only [n91,ad,n,lT,xT,Nc S,w1,SB,seval,NL,NH];exact hN (i+1,b) _ _ ⟨by show i+1<=L.length;omega,(T.trans d).app,(p.trans' d fun j w=>by simp at w).app,rfl,g _ fun j w=>(by simp only [upd];repeat rw [Ng (by omega)]),(OD.refl.app).cells F,m e⟩ (by show L.length-(i+1)<L.length-i;omega)
 ·simp only [n91,N,g4,ae,I,J,aq,Y,n,B,ai,OG,QE,NZ,QR,R3,NK,o,lL,xL,NI,u,Nh hf,aa,Nc al,NK,SB,seval,NF,NL,NH,RN,place,NB];refine Zj (ah.app _) hv hd (by omega) O (by omega) (by omega) (by simp;omega) fun G2 q2 M aj=>?_
  have d:Chg [] G G2:=M.pre;have F:=d.cells bB (by simp);have U:=zc F;have an:=zc (d.cells bA (by simp));have W:=zc (M.cells (j:=G.length) (ro:=false) (c:=encL l) (by rw [NN];rfl) (by simp));have V:=zc (M.cells (j:=G.length+1) (ro:=false) (c:=[Vi a,Vi (a+l.mins)]) (by rw [NY];rfl) (by simp));have am:NW P q<P.length:=N4 hq;have sT:=aj.sl OT;have ak:(QM P.length (NW P) v L l.dst (a+l.mins) left).length=P.length:=RZ;have lT:=S9 (i:=NW P q) sT (by omega);have xT:=Ux (i:=NW P q) sT am ak;have C:=Nkt (k:=left) (t:=a+l.mins) ab hd hq (by omega) O;rw [WL (by omega)] at lT;generalize (QM P.length (NW P) v L l.dst (a+l.mins) left).getD (NW P q) (-1)=x at *;refine NJ ?_;by_cases S:0<=x
  ·obtain ⟨G3,e3,k3,m3⟩:=OO (NM F) (Vc [Vi l.id,Vi a,Vi (a+l.mins)]);simp only [n91,ad,Y,n,U,W,V,RY,lT,xT,Nh S,show lim<=R by omega,e3,w1,SB,seval,NL,NH,NB];exact hN (i+1,some (l,a)) _ _ ⟨by show i+1<=L.length;omega,((T.trans d).mut m3 (.inr ar)).app,((p.trans' d fun j w=>by simp at w).mut m3 (.inl (by simp))).app,rfl,g _ fun j w=>(by simp only [upd];repeat rw [Ng (by omega)]),(OD.refl.app).cells k3,aw a ⟨ag,hf,hnd,O,C.1 S⟩ av⟩ (by show L.length-(i+1)<L.length-i;omega)
  ·have e:∀a,VR L q v left plant t l a->∃x,b=some x/\x.1.id<=l.id:=fun a' hc=>by
    have h1:=hc.2.2.1;rw [hnd] at h1;cases h1;exact absurd (C.2 hc.2.2.2.2) S
   simp only [n91,ad,n,lT,xT,Nc S,w1,SB,seval,NL,NH];exact hN (i+1,b) _ _ ⟨by show i+1<=L.length;omega,(T.trans d).app,(p.trans' d fun j w=>by simp at w).app,rfl,g _ fun j w=>(by simp only [upd];repeat rw [Ng (by omega)]),(OD.refl.app).cells F,m e⟩ (by show L.length-(i+1)<L.length-i;omega)
end Go.Proofs.YtkppjkkkdpcgiaaGreat.Fn



namespace Go.Proofs.YtkppjkkkdpcgiaaGreat.Fn
open Go.AM Go.AM.Sym Go.Net
theorem Nth {L:List Leg} (h:L.Pairwise (fun a b=>a.id≠b.id)):∀a∈L,∀b∈L,a.id=b.id->a=b:=by
 intro a d b f e;obtain ⟨i,hi,rfl⟩:=List.mem_iff_getElem.1 d;obtain ⟨j,c,rfl⟩:=List.mem_iff_getElem.1 f;rw [Pc] at h;rcases Nat.lt_trichotomy i j with h1 | h1 | h1
 ·exact absurd e (h i j hi c h1)
 ·subst h1;rfl
 ·exact absurd e.symm (h j i c hi h1)
end Go.Proofs.YtkppjkkkdpcgiaaGreat.Fn



namespace Go.Proofs.YtkppjkkkdpcgiaaGreat.Fn
open Go.AM Go.AM.Sym Go.Net Go.Scan
variable {cp cl:Nat} {H:NA} {pp pl:Option Addr} {L:List Leg} {P:List Int}
theorem Ntq [OB] {lim A k:Nat} {p q v ready:Int} {G0:NA} {fr:Nat->Value} {K:List AItem} {Z:Value->NA->Prop} (hn:NetIn H pp pl P L) (hv:QD P L=0) (hq:q∈P) (h0:0<=ready) (h1:ready<=NV) (aw:v<=NV) (a7:k<=50) (ae:lim<=H.length) (am:Chg [] H G0)
  (hA:NE G0 A=Vc (netV pp P.length cp pl L.length cl)) (ba:H.length<=A) (hJ:Ngr L q v k p ready) (f4:fr 4=Vp A) (f11:fr 11=Vi (NW P q:Int)) (f12:fr 12=Vi v) (f14:fr 14=Vz) (aj:fr 15=Vi p) (ak:fr 16=Vi ready) (al:fr 17=Vi ((k:Int)-1))
  (hK:∀fr' G w r c,Chg [] H G->Y3 L q v k p ready w->Own H.length G enc3 3 r c (w.map Sk)->fr' 14=.slice r w.length c->PT E a91 lim K fr' G Z) :
  PT E a91 lim (.code (.loop N0r)::.inBlock 2::K) fr G0 Z:=by
 have ag:=RS hv;obtain ⟨v1,v2,v3,v4⟩:=Sg hv;have mt:NV=1051898399:=rfl;have ab:∀a∈L,∀b∈L,a.id=b.id->a=b:=Nth (Xx v4);refine NP (fun s:Nat×(Int×Int)×List (Leg×Int)×Option Addr×Nat=>s.1) (fun s fr' G=>Chg [] H G/\NE G A=Vc (netV pp P.length cp pl L.length cl)/\fr' 4=Vp A/\fr' 11=Vi (NW P q:Int)/\fr' 12=Vi v/\fr' 14=.slice s.2.2.2.1 s.2.2.1.length s.2.2.2.2/\fr' 15=Vi s.2.1.1/\fr' 16=Vi s.2.1.2/\fr' 17=Vi ((s.1:Int)-1)/\
   Own (A+1) G enc3 3 s.2.2.2.1 s.2.2.2.2 (s.2.2.1.map Sk)/\0<=s.2.1.2/\s.2.1.2<=NV/\s.2.2.1.length+s.1=k/\Ngr L q v s.1 s.2.1.1 s.2.1.2/\∀w',Y3 L q v s.1 s.2.1.1 s.2.1.2 w'->Y3 L q v k p ready (s.2.2.1++w')) (k,(p,ready),[],none,0)
  ⟨am,hA,f4,f11,f12,f14,aj,ak,al,.nil,h0,h1,by simp,hJ,fun w' h=>h⟩ ?_
 rintro ⟨m,⟨plant,t⟩,w,pw,cw⟩ fr' G ⟨hC,F,g4,O,S,z,T,U,f,Y,ht,ah,ax,n,i⟩ hN;simp only at z T U f Y ht ah ax n i;rw [NU N0r.eq_1];have au:=hC.len;have o:lim<=G.length:=by omega
 have a9:=zc F;refine NJ ?_;cases m with
 | zero=>
   have V:fr' 17=Vi (-1):=f;have hw:=i [] rfl;rw [Na] at hw;simp only [n91,V,Nc (show ¬(0:Int)<=-1 by decide),SB,seval,NL,NH];exact hK _ _ w pw cw hC.app hw ((Y.le (by omega)).app _) z
 | succ m=>
 have e1:((m+1:Nat):Int)-1=(m:Int):=by omega
 rw [e1] at f;have c0:=Nh (show (0:Int)<=(m:Int) by omega);have w5:IntKind.i64.wrap ((m:Int)-1)=(m:Int)-1:=NR (by omega) (by omega);simp only [n91,o,f,c0,SB,seval,NL,NH,place,NB];refine Nw1 (A:=A) (R:=G.length) (cp:=cp) (cl:=cl) (left:=m) (plant:=plant) (t:=t) (v:=v) hn hv hq ht ah aw (by omega) ae au hC.app (by have:=NM F;omega) ((OD.refl.app).cells F) (by rw [NN];rfl) g4 O S T U f rfl rfl fun e G2 b B W hM d g=>?_
 have k4:e 4=Vp A:=(g 4 (by decide)).trans g4;have ay:e 11=Vi (NW P q:Int):=(g 11 (by decide)).trans O;have az:e 12=Vi v:=(g 12 (by decide)).trans S;have a0:e 14=.slice pw w.length cw:=(g 14 (by decide)).trans z;have a3:e 17=Vi m:=(g 17 (by decide)).trans f;have a5:e 18=Vp G.length:=(g 18 (by decide)).trans rfl
 match b,hM,d with
 | none,hM,d=>
   obtain ⟨l,a,hc⟩:=n.can ag.fine;exact absurd hc (hM l hc.1 a)
 | some (l,a),hM,d=>
 obtain ⟨hc,u⟩:=hM;have o:=hc.1;have hF:=ag.fine _ o;have an:=hF;unfold Fine at an;obtain ⟨q1,q2,q3⟩:=Z8 hF hc.2.2.1;have y:=W.cells ((OD.refl.app).cells F) (by have:=NM F;simp;omega);have a6:=zc y;replace d:NE G2 G.length=Vc [Vi l.id,Vi a,Vi (a+l.mins)]:=d;have M:=zc d;have aq:=(Y.app _).chg W (fun b hb=>by have:=(Y.block hb).2;simp;omega);have be:=hn.ext B.ext;have bd:=B.len;obtain ⟨G4,e4,O4,C4,ar⟩:=Own.moreF aq (lim':=lim) (bytes:=24) (by omega) OU (by decide) [Sk (l,a)] (by simp) (by simp;unfold OX;omega) (by simp;omega) [Vc [Vi l.id,Vi a,Vi (a+l.mins)]] (x:=.slice (Sa G2.length) 1 1) (str:=false)
  (SH (m:=[Sk (l,a)]) (Sl.row (ro:=false) OU (by rw [NN];rfl))) rfl
 have D:∀j,j∈YT pw->A+1<=j/\j<G.length:=fun j n=>by
  cases hpe:pw with
  | none=>rw [hpe] at n;cases n
  | some x=>rw [hpe] at n;have:=Y.block hpe;simp [YT] at n;omega
 generalize bf:(G2++[Vc [Vi l.id,Vi a,Vi (a+l.mins)]]).length=r at e4 O4 ar;generalize loose 3=c' at e4 O4;simp only [Nm,Nn,Nx,Nz] at e4;have I:=C4.cells y (fun h=>by have:=D _ h;omega);have ai:=C4.cells d (fun h=>by have:=D _ h;omega);have J:=zc I;have N:=zc ai;have C:Chg [] H G4:=B.trans' C4 fun j n bb=>by have:=D j n;omega
 have av:=hn.ext C.ext;have aa:=fun X (mp:Bool) (lim:Nat) (Q:Value->NA->Prop)=>Ny2 (mp:=mp) (lim:=lim) (cp:=cp) (cl:=cl) (a:=l.id) (Q:=Q) (av.app X)
 rw [N2a ab o] at aa;have a8:=C.len;have ad:lim<=G4.length:=by omega
 refine NJ ?_;simp only [n91,k4,a0,a3,a5,M,e4,J,N,OG,NZ,R3,NK,NK,aa,NI,w5,ad,SB,seval,NF,NL,NH,place,NB];exact hN (m,(l.dst,a+l.mins),w++[(l,a)],Sa r,c') _ _ ⟨C.app,(OD.refl.app).cells I,k4,ay,az,by simp only [Nk,Nm,Nn,Nx];exact rfl,rfl,rfl,rfl,by rw [O7];exact (O4.le (by have:=NM y;omega)).app _,by show 0<=a+l.mins;omega,q3,by rw [Nk];simp only [Nm,Nn];omega,n.step hc,fun w' h=>by
  rw [No];exact i _ ⟨l,a,w',rfl,hc,fun l' a' h'=>u l' h'.1 a' h',h⟩⟩ (Nat.lt_succ_self _)
theorem N7m [OB] {lim:Nat} {p q ready:Int} {Q:Value->NA->Prop} (hn:NetIn H pp pl P L) (f:lim<=H.length)
  (z:∀G,SI P L p q ready≠0->Chg [] H G->Q (.tuple #[Vz,Vi (SI P L p q ready)]) G)
  (n:∀G,SI P L p q ready=0->Vd L p ready q (-1)->Chg [] H G->Q (.tuple #[Vz,Vi 6]) G)
  (R:∀G v w r c,SI P L p q ready=0->Chg [] H G->0<=v->Vd L p ready q v->BestW L p ready q v w->Own H.length G enc3 3 r c (w.map Sk)->Q (.tuple #[.slice r w.length c,Vi 0]) G) :
  NQ E false lim 91 [.agg (netV pp P.length cp pl L.length cl).toArray,Vi p,Vi q,Vi ready] H Q:=by
 refine QN (by decide) rfl rfl ?_;rw [b91,c91];have l:=fun X (mp:Bool) (lim:Nat) (Q:Value->NA->Prop)=>Nhu (mp:=mp) (lim:=lim) (cp:=cp) (cl:=cl) (a:=p) (b:=q) (t:=ready) (Q:=Q) (hn.app X)
 by_cases he:SI P L p q ready=0
 case neg=>
  simp only [n91,OG,NK,l,Nc he,SB,seval,NF,NL,NH,NG,place,NB,NC];exact z _ he Chg.refl.app
 obtain ⟨F,hp,D,s,h1⟩:=VN he;obtain ⟨v1,v2,v3,v4⟩:=Sg F;have m:=RS F;have mt:NV=1051898399:=rfl;have B:∀a∈L,∀b∈L,a.id=b.id->a=b:=Nth (Xx v4);have C:=fun X (mp:Bool) (lim:Nat) (Q:Value->NA->Prop)=>Xq (mp:=mp) (lim:=lim) (cp:=cp) (cl:=cl) (p:=q) (Q:=Q) (hn.app X)
 rw [Sm,Nl D] at C;rw [he] at l;have w1:IntKind.i64.wrap (ready+86400)=ready+86400:=NR (by omega) (by omega);simp only [n91,OG,Rw,NK,l,C,w1,SB,seval,NF,NL,NH,NG,place,NB];refine Zj (hn.app _) F hp s (by omega) (by omega) (by omega) (by simp;omega) fun G q2 Z hO=>?_
 have g:Chg [] H G:=Z.pre;have J:NE G H.length=Vc (netV pp P.length cp pl L.length cl):=Z.cells NN (by simp);have aa:=zc J;have S:NW P q<P.length:=N4 D;have sT:=hO.sl OT;have O:(QM P.length (NW P) (ready+86400) L p ready P.length).length=P.length:=RZ;have lT:=S9 (i:=NW P q) sT (by omega);have xT:=Ux (i:=NW P q) sT S O;have y:=(Niu m hp s).2 q D;rw [WL (by omega)] at lT;generalize (QM P.length (NW P) (ready+86400) L p ready P.length).getD (NW P q) (-1)=v at *;refine NJ ?_;by_cases I:v<0
 ·simp only [n91,lT,xT,Nh I,SB,seval,NL,NH,NC];refine n _ he ?_ g.app;rcases y with ⟨rfl,h⟩ | ⟨⟨⟨j,U⟩,_⟩,_⟩
  ·exact .inl ⟨rfl,h⟩
  ·have:=U.later m.fine;omega
 have o:0<=v:=by omega
 have T:=Nr8 y h1 s;simp only [n91,lT,xT,Nc I,SB,seval,NL,NH];refine Npa (A:=H.length) (cp:=cp) (cl:=cl) hn F hp D s h1 y o f g.app ((OD.refl.app).cells J) rfl rfl rfl rfl rfl rfl fun d G2 k u hk hJ K e=>?_
 have k1:d 1=Vi p:=(e 1 (by decide)).trans rfl;have k3:d 3=Vi ready:=(e 3 (by decide)).trans rfl;have k4:d 4=Vp H.length:=(e 4 (by decide)).trans rfl;have V:d 11=Vi (NW P q:Int):=(e 11 (by decide)).trans rfl;have W:d 12=Vi v:=(e 12 (by decide)).trans rfl;have wk:IntKind.i64.wrap ((k:Int)-1)=(k:Int)-1:=NR (by omega) (by omega);have x:Chg [] H G2:=g.trans u.pre;refine NJ ?_;simp only [n91,k1,k3,K,wk,SB,seval,NL,NH];refine Ntq (A:=H.length) (cp:=cp) (cl:=cl) hn F D s h1 T (by omega) f x.app ((OD.refl.app).cells (u.cells ((OD.refl.app).cells J) (by simp))) (Nf _) hJ k4 V W rfl rfl rfl rfl fun ab G3 w r c M U N Y=>?_
 refine NJ ?_;simp only [n91,Y,SB,seval,NL,NC];exact R _ v w r c he M.app o y (U.best m.fine B y o hJ) (N.app _)
end Go.Proofs.YtkppjkkkdpcgiaaGreat.Fn



namespace Go.Proofs.YtkppjkkkdpcgiaaGreat.Fn
open Go.AM Go.AM.Sym Go.Scan Go.Sort
variable {A S B:List Ev} {Q:Value->NA->Prop} {M:List Mk} {c R e n f ac d bc:Nat} {H G:NA} {ap bp:Option Addr} {α:Type} {mp:Bool} {enc:α->List Value}
theorem Odg {p:Option Addr} {l:List α} (hs:Sl H enc e p l) (hl:l.length=n) (h:0<n) (k:IntKind) (H1:NA):Vq e (.slice p n c) (.int k 0) H1=some (.pointer (some (Vs p e 0)),H1):=by
 subst hl;have:=hs.idx (c:=c) (k:=k) (H1:=H1) h;exact this
theorem Nsw [OB] {lim:Nat} {e:Ev}:NQ E mp lim 85 [.agg (encN e).toArray] H Q=Q (.bool (decide (RA e))) H:=by
 refine pc (by decide) rfl rfl rfl ?_;rw [b85,c85];have no:¬RA e->decide (RA e)=false:=fun h=>Nw h
 by_cases h1:1<=e.item
 case neg=>simp only [n85,TZ,Nc h1,no (fun h=>h1 h.1.1),SB,seval,NL,NH,NG,place,NB,NC]
 by_cases h2:e.item<=999999
 case neg=>simp only [n85,TZ,Nh h1,Nc h2,no (fun h=>h2 h.1.2),SB,seval,NL,NH,NG,place,NB,NC]
 by_cases a:1<=e.place
 case neg=>simp only [n85,TZ,Tn,Nh h1,Nh h2,Nc a,no (fun h=>a h.2.1.1),SB,seval,NL,NH,NG,place,NB,NC]
 by_cases b:e.place<=999999
 case neg=>simp only [n85,TZ,Tn,Nh h1,Nh h2,Nh a,Nc b,no (fun h=>b h.2.1.2),SB,seval,NL,NH,NG,place,NB,NC]
 by_cases h5:1<=e.scanner
 case neg=>simp only [n85,TZ,Tn,Sn,Nh h1,Nh h2,Nh a,Nh b,Nc h5,no (fun h=>h5 h.2.2.1.1),SB,seval,NL,NH,NG,place,NB,NC]
 by_cases c:e.scanner<=999999
 case neg=>simp only [n85,TZ,Tn,Sn,Nh h1,Nh h2,Nh a,Nh b,Nh h5,Nc c,no (fun h=>c h.2.2.1.2),SB,seval,NL,NH,NG,place,NB,NC]
 by_cases d:1<=e.kind
 case neg=>simp only [n85,TZ,Tn,Sn,UO,Nh h1,Nh h2,Nh a,Nh b,Nh h5,Nh c,Nc d,no (fun h=>d h.2.2.2.1.1),SB,seval,NL,NH,NG,place,NB,NC]
 by_cases f:e.kind<=4
 case neg=>simp only [n85,TZ,Tn,Sn,UO,Nh h1,Nh h2,Nh a,Nh b,Nh h5,Nh c,Nh d,Nc f,no (fun h=>f h.2.2.2.1.2),SB,seval,NL,NH,NG,place,NB,NC]
 by_cases g:0<=e.at'
 case neg=>simp only [n85,TZ,Tn,Sn,UO,TC,Nh h1,Nh h2,Nh a,Nh b,Nh h5,Nh c,Nh d,Nh f,Nc g,no (fun h=>g h.2.2.2.2.1.1),SB,seval,NL,NH,NG,place,NB,NC]
 by_cases i:e.at'<=1051898399
 case neg=>simp only [n85,TZ,Tn,Sn,UO,TC,Nh h1,Nh h2,Nh a,Nh b,Nh h5,Nh c,Nh d,Nh f,Nh g,Nc i,no (fun h=>i h.2.2.2.2.1.2),SB,seval,NL,NH,NG,place,NB,NC]
 by_cases j:0<=e.seen
 case neg=>simp only [n85,TZ,Tn,Sn,UO,TC,TY,Nh h1,Nh h2,Nh a,Nh b,Nh h5,Nh c,Nh d,Nh f,Nh g,Nh i,Nc j,no (fun h=>j h.2.2.2.2.2.1),SB,seval,NL,NH,NG,place,NB,NC]
 have k:decide (RA e)=decide (e.seen<=1051898399):=by
  rw [decide_eq_decide];exact ⟨fun h=>h.2.2.2.2.2.2,fun h=>⟨⟨h1,h2⟩,⟨a,b⟩,⟨h5,c⟩,⟨d,f⟩,⟨g,i⟩,⟨j,h⟩⟩⟩
 simp only [n85,TZ,Tn,Sn,UO,TC,TY,Nh h1,Nh h2,Nh a,Nh b,Nh h5,Nh c,Nh d,Nh f,Nh g,Nh i,Nh j,k,SB,seval,NL,NH,NG,place,NB,NC]
theorem N19 [OB] {lim:Nat} {a b:Int} (h:0<b) (p:b<=2 ^ 31) (h1:-2 ^ 62<=a) (h2:a<=2 ^ 62):NQ E mp lim 138 [Vi a,Vi b] H Q=Q (Vi (a / b)) H:=by
 refine pc (by decide) Oe2 rfl rfl ?_;rw [Oge,c138];have d:¬b=0:=by omega
 have e:=N2x (a:=a) h;have r:-2 ^ 62<=Int.tdiv a b/\Int.tdiv a b<=2 ^ 62:=by
  have:=Int.natAbs_tdiv_le_natAbs a b;omega
 have w1:IntKind.i64.wrap (Int.tdiv a b)=Int.tdiv a b:=NR (by omega) (by omega);have i:a / b<=Int.tdiv a b:=by rw [e];split<;>omega
 have j:Int.tdiv a b<=a / b+1:=by rw [e];split<;>omega
 have s:=Int.emod_add_mul_ediv a b;have t:=Int.emod_nonneg a d;have u:=Int.emod_lt_of_pos a h;simp only [n138,Nc d,w1,SB,seval,NL,NH,reduceCtorEq,NG];refine NP (fun q:Int=>(q-a / b).toNat) (fun q fr G=>a / b<=q/\q<=a / b+1/\fr 0=Vi a/\fr 1=Vi b/\fr 5=Vi q) (Int.tdiv a b) ⟨i,j,rfl,rfl,rfl⟩ ?_;rintro q fr G ⟨k1,k2,f,g,l⟩ hN;rw [NU N09.eq_1];have hm:b*q=b*(a / b)\/b*q=b*(a / b)+b:=by
  rcases (by omega:q=a / b\/q=a / b+1) with rfl | rfl
  ·exact .inl rfl
  ·right;rw [Int.mul_add,Int.mul_one]
 have m:IntKind.i64.wrap (q*b)=q*b:=by rw [Int.mul_comm q b];exact NR (by omega) (by omega)
 have o:IntKind.i64.wrap (q-1)=q-1:=NR (by omega) (by omega);by_cases c:a<q*b
 ·simp only [n138,f,g,l,m,o,Nh c,SB,seval,NL,NH,reduceCtorEq];have n:q=a / b+1:=by
   rw [Int.mul_comm q b] at c;rcases (by omega:q=a / b\/q=a / b+1) with rfl | h
   ·omega
   ·exact h
  exact hN (q-1) _ _ ⟨by omega,by omega,f,g,rfl⟩ (by omega)
 ·have k:q=a / b:=by
   rw [Int.mul_comm q b] at c;rcases (by omega:q=a / b\/q=a / b+1) with h | rfl
   ·exact h
   ·rw [Int.mul_add,Int.mul_one] at c;omega
  subst k;simp only [n138,Oea,f,g,l,m,Nc c,SB,seval,NL,NH,reduceCtorEq,NC]
structure ASt (H:NA) (A B:List Mk) (ap bp:Option Addr) (ac bc:Nat) (G:NA):Prop where
 ao:Own H.length G PY 3 ap ac A
 bo:Own H.length G PY 3 bp bc B
 ne:∀a b,ap=some a->bp=some b->a.block≠b.block
 chg:Chg [] H G
theorem ASt.flip {A B:List Mk} (h:ASt H A B ap bp ac bc G):ASt H B A bp ap bc ac G:=⟨h.bo,h.ao,fun a b c d e=>h.ne b a d c e.symm,h.chg⟩
theorem ASt.app {A B:List Mk} (h:ASt H A B ap bp ac bc G):ASt H A B ap bp ac bc (G++[]):=by rw [Na];exact h
theorem ASt.step {A B:List Mk} {lim:Nat} (h:ASt H A B ap bp ac bc G) (hl:lim<=H.length) (o:A.length<1000000) (m:Mk) :
  ∃G2,OP lim none 3 24 false (.slice ap A.length ac) (.slice (Sa G.length) 1 1) (G++[Vc (PY m)])=some (.slice (Sa (G.length+1)) (A.length+1) (loose 3),G2++[])/\ASt H (A++[m]) B (Sa (G.length+1)) bp (loose 3) bc (G2++[]):=by
 have p:=h.chg;have g:=p.len;obtain ⟨G2,e2,c,l,d,f,_⟩:=h.ao.step (lim':=lim) (bytes:=24) hl OY (by decide) m (by unfold OX;omega) (by omega) g [Vc (PY m)] G.length 1 (by rw [NN];rfl);simp only [Nm,Nn,Nx] at e2 c f;have n:Chg (Nl6 ap) G (G2++[]):=⟨by simp;omega,fun j r o=>d j r (Ndl o)⟩
 refine ⟨G2,e2,c,h.bo.chg n fun a i q=>?_,fun a b i k=>?_,l _ _ (Nf _) p⟩
 ·obtain ⟨b,k,e⟩:=Ndm q;exact h.ne b a k i e.symm
 ·cases i;have:=(h.bo.block k).2;show G.length+1≠b.block;omega
theorem N45 [OB] {lim:Nat} {p:Option Addr} {sc t:Int} (hs:Sl H PY 3 p M) (hn:M.length<1000000) (hM:Wh M) (ht:0<=t/\t<=UE) :
  NQ E mp lim 112 [.slice p M.length c,Vi sc,Vi t] H Q=Q (Vi (XW M sc t)) H:=by
 rw [Nzl hM];refine pc (by decide) Ofo rfl rfl ?_;rw [Og0,Obh];simp only [n112,SB,seval,NL];refine NP (S:=Nat×(List Mk×List Mk)×(Option Addr×Option Addr)×Nat×Nat) (fun s=>M.length-s.1) (fun s fr G=>s.1<=M.length/\s.2.1.1=Tp t (ofN (M.take s.1) sc)/\s.2.1.2=Sd t (ofN (M.take s.1) sc)/\s.2.1.1.length<=s.1/\s.2.1.2.length<=s.1/\fr 0=.slice p M.length c/\fr 1=Vi sc/\fr 2=Vi t/\fr 7=.slice s.2.2.1.1 s.2.1.1.length s.2.2.2.1/\fr 8=.slice s.2.2.1.2 s.2.1.2.length s.2.2.2.2/\fr 9=Vi s.1/\ASt H s.2.1.1 s.2.1.2 s.2.2.1.1 s.2.2.1.2 s.2.2.2.1 s.2.2.2.2 G) (0,([],[]),(none,none),0,0)
  ⟨Np _,rfl,rfl,Nf _,Nf _,rfl,rfl,rfl,(by simp only [Nn,FB,Nat.reduceEqDiff]),(by simp only [Nn,FB,Nat.reduceEqDiff]),by rfl,.inl ⟨rfl,rfl,rfl⟩,.inl ⟨rfl,rfl,rfl⟩,fun a b h=>(by cases h),Chg.refl.app⟩ ?_
 rintro ⟨i,⟨A,B⟩,⟨ap,bp⟩,ac,bc⟩ fr G ⟨hi,z,hB,lA,lB,q,F,I,r,u,v,st⟩ hN;simp only at hi z hB lA lB r u v st;rw [NU N1k.eq_1];refine NJ ?_;have hC:=st.chg;have aa:=hC.len;have V:=hC.sl hs (fun a _ _ h=>(by cases h));by_cases d:i<M.length
 ·have O:=fun X=>(V.app X).loadCells OY d
  have o:=fun X=>(V.app X).loadCell OY d (show 0<3 by decide)
  have w:=fun X=>(V.app X).loadCell OY d (show 1<3 by decide)
  have j:=fun c (k:IntKind) (H1:NA)=>V.idx (c:=c) (k:=k) (H1:=H1) d
  have C:IntKind.i64.wrap ((i:Int)+1)=((i+1:Nat):Int):=OC (by omega);have ab:M.take (i+1)=M.take i++[gt M i]:=by rw [Nv d,OQ d]
  have e:ofN (M.take (i+1)) sc=if (gt M i).scanner=sc then ofN (M.take i) sc++[gt M i] else ofN (M.take i) sc:=by
   rw [ab];unfold ofN;rw [List.filter_append];by_cases h:(gt M i).scanner=sc
   ·rw [Nl h,Ou (by simpa using h)];rfl
   ·rw [Ng h,Ov (by simpa using h)];simp
  generalize gt M i=m at *;by_cases d1:m.scanner=sc
  case neg=>
   rw [Ng d1] at e;simp only [n112,q,F,v,ND,d,j,o,Xf,C,Nc d1,SB,seval,NL,NH,reduceCtorEq];exact hN (i+1,(A,B),(ap,bp),ac,bc) _ _ ⟨by simp only;omega,by rw [e];exact z,by rw [e];exact hB,by simp only;omega,by simp only;omega,q,F,I,r,u,rfl,st.app⟩ (by simp only;omega)
  rw [Nl d1] at e;by_cases d2:m.at'<=t
  ·obtain ⟨G2,e2,D⟩:=st.step (lim:=H.length) (Nf _) (by omega) m;have U:Tp t (ofN (M.take (i+1)) sc)=A++[m]:=by
    rw [e,z];unfold Tp;rw [List.filter_append,Ou (by simpa using d2)];rfl
   have f:Sd t (ofN (M.take (i+1)) sc)=B:=by
    rw [e,hB];unfold Sd;rw [List.filter_append,Ov (by simpa using d2)];simp
   simp only [n112,q,F,I,r,v,ND,d,j,O,o,w,OY,Xf,Xe,NI,C,Nh d1,Nh d2,e2,SB,seval,NL,NH,reduceCtorEq,place];exact hN (i+1,(A++[m],B),(Sa (G.length+1),bp),loose 3,bc) _ _ ⟨by simp only;omega,U.symm,f.symm,by simp only [Nk,Nm,Nn];omega,by simp only;omega,q,F,I,(by simp only [Nk,Nm,Nn,Nx,FB,Nat.reduceEqDiff]),u,rfl,D⟩ (by simp only;omega)
  ·obtain ⟨G2,e2,D⟩:=st.flip.step (lim:=H.length) (Nf _) (by omega) m;have U:Tp t (ofN (M.take (i+1)) sc)=A:=by
    rw [e,z];unfold Tp;rw [List.filter_append,Ov (by simpa using d2)];simp
   have f:Sd t (ofN (M.take (i+1)) sc)=B++[m]:=by
    rw [e,hB];unfold Sd;rw [List.filter_append,Ou (by simp;omega)];rfl
   simp only [n112,q,F,I,u,v,ND,d,j,O,o,w,OY,Xf,Xe,NI,C,Nh d1,Nc d2,e2,SB,seval,NL,NH,reduceCtorEq,place];exact hN (i+1,(A,B++[m]),(ap,Sa (G.length+1)),ac,loose 3) _ _ ⟨by simp only;omega,U.symm,f.symm,by simp only;omega,by simp only [Nk,Nm,Nn];omega,q,F,I,r,(by simp only [Nk,Nm,Nn,Nx,FB,Nat.reduceEqDiff]),rfl,D.flip⟩ (by simp only;omega)
 ·obtain rfl:i=M.length:=by omega
  rw [N9] at z hB;have sA:=st.ao.sl OY;have W:=st.bo.sl OY;have mA:∀x∈A,X7 x/\x.at'<=t:=fun x T=>by
   rw [z] at T;obtain ⟨h1,h2⟩:=O0.mp T;exact ⟨hM.1 x (O0.mp h1).1,by simpa using h2⟩
  have mB:∀x∈B,X7 x/\t<x.at':=fun x T=>by
   rw [hB] at T;obtain ⟨h1,h2⟩:=O0.mp T;exact ⟨hM.1 x (O0.mp h1).1,by simpa using h2⟩
  rw [<-z,<-hB];have Z:∀{l:List Mk},l≠[]->0<l.length:=fun h=>List.length_pos_iff.mpr h
  have N:H.length<=G.length:=aa;by_cases L:A=[]
  ·subst L;have z1:((([]:List Mk).length:Int)=0)=True:=Nh rfl;by_cases g:B=[]
   ·subst g;simp only [n112,N5a,q,r,u,v,ND,d,SB,seval,NL,NH,reduceCtorEq,NC];rfl
   ·have f:=Z g;have Y:((B.length:Int)=0)=False:=Nc (by omega);have ib:=fun (c:Nat) (k:IntKind) (H1:NA)=>Odg (c:=c) W rfl f k H1
    have lb:=fun X=>(W.app X).loadCell OY f (show 2<3 by decide)
    have hh:B.head? = some (gt B 0):=by rw [List.head?_eq_getElem?,Ni f,OQ f]
    have P:Njo t SE ([]:List Mk).getLast? B.head? = (gt B 0).off:=by rw [hh];rfl
    rw [P];simp only [n112,N5a,q,r,u,v,ND,d,Zi,Y,ib,lb,SB,seval,NL,NH,reduceCtorEq,NC]
  ·have U:=Z L;have z1:((A.length:Int)=0)=False:=Nc (by omega);have R:IntKind.i64.wrap ((A.length:Int)-1)=((A.length-1:Nat):Int):=Zy (by omega) (by omega);have n:A.length-1<A.length:=by omega
   have ia:=fun (c:Nat) (k:IntKind) (H1:NA)=>sA.idx (c:=c) (k:=k) (H1:=H1) n
   have la:=fun X=>(sA.app X).loadCells OY n
   have hl:A.getLast? = some (gt A (A.length-1)):=by rw [List.getLast?_eq_getElem?,Ni n,OQ n]
   have fa:=mA _ (PM n);rw [hl];generalize gt A (A.length-1)=x at *;by_cases g:B=[]
   ·subst g;have Y:((([]:List Mk).length:Int)=0)=True:=Nh rfl;have P:Njo t SE (some x) ([]:List Mk).head? = x.off:=rfl;rw [P];simp only [n112,N5a,q,r,u,v,ND,d,OY,Zi,NI,z1,R,ia,la,N,SB,seval,NL,NH,reduceCtorEq,place,NB,NC]
   ·have f:=Z g;have Y:((B.length:Int)=0)=False:=Nc (by omega);have ib:=fun (c:Nat) (k:IntKind) (H1:NA)=>Odg (c:=c) W rfl f k H1
    have lb:=fun X=>(W.app X).loadCells OY f
    have hh:B.head? = some (gt B 0):=by rw [List.head?_eq_getElem?,Ni f,OQ f]
    have fb:=mB _ (PM f);rw [hh];generalize gt B 0=y at *;have P:Njo t SE (some x) (some y)=x.off+(y.off-x.off)*(t-x.at') / (y.at'-x.at'):=rfl;rw [P];obtain ⟨J,ae⟩:=fa;obtain ⟨K,ag⟩:=fb;unfold X7 at J K;unfold UE at J K ht;have ah:=Nh1 (a:=y.off-x.off) (b:=t-x.at') (A:=2103796798) (B:=1051898399) (by omega) (by omega) (by omega) (by omega);have hd:0<y.at'-x.at':=by omega
    have hq:-2 ^ 62<=(y.off-x.off)*(t-x.at') / (y.at'-x.at')/\(y.off-x.off)*(t-x.at') / (y.at'-x.at')<=2 ^ 62:=by
     constructor
     ·refine Int.le_ediv_of_mul_le hd ?_;have:-2 ^ 62*(y.at'-x.at')<=-2 ^ 62*1:=Int.mul_le_mul_of_nonpos_left (by decide) (by omega);omega
     ·refine Int.ediv_le_of_le_mul hd ?_;have:2 ^ 62*1<=2 ^ 62*(y.at'-x.at'):=Int.mul_le_mul_of_nonneg_left (by omega) (by decide);omega
    have w1:IntKind.i64.wrap (y.off-x.off)=y.off-x.off:=NR (by omega) (by omega);have w2:IntKind.i64.wrap (t-x.at')=t-x.at':=NR (by omega) (by omega);have w3:IntKind.i64.wrap ((y.off-x.off)*(t-x.at'))=(y.off-x.off)*(t-x.at'):=NR (by omega) (by omega);have w4:IntKind.i64.wrap (y.at'-x.at')=y.at'-x.at':=NR (by omega) (by omega);have w5:IntKind.i64.wrap (x.off+(y.off-x.off)*(t-x.at') / (y.at'-x.at'))=x.off+(y.off-x.off)*(t-x.at') / (y.at'-x.at'):=NR (by omega) (by omega);have ad:=fun (mp:Bool) (lim:Nat) (H:NA) (Q:Value->NA->Prop)=>N19 (mp:=mp) (lim:=lim) (H:=H) (Q:=Q) (a:=(y.off-x.off)*(t-x.at')) hd (by omega) (by omega) (by omega)
    simp only [n112,N5a,q,I,r,u,v,ND,d,OY,Xe,Zi,NI,z1,Y,R,ia,la,ib,lb,N,w1,w2,w3,w4,w5,ad,SB,seval,NF,NL,NH,reduceCtorEq,place,NB,NC]
theorem Nyy [OB] {lim:Nat} {p:Option Addr} {s:Ev} (hs:Sl H PY 3 p M) (hn:M.length<1000000) (hM:Wh M) (d:RA s) :
  NQ E mp lim 87 [.slice p M.length c,.agg (encN s).toArray] H Q=Q (Vi (TL M s)) H:=by
 have a:=d;unfold RA at a;have f:=Ne0 (sc:=s.scanner) (t:=s.at') hM;have ho:=fun (X:NA) (mp:Bool) (lim:Nat) (Q:Value->NA->Prop)=>N45 (mp:=mp) (lim:=lim) (Q:=Q) (c:=c) (sc:=s.scanner) (t:=s.at') ((OD.refl.app (X:=X)).sl hs) hn hM a.2.2.2.2.1
 have w1:IntKind.i64.wrap (s.at'+XW M s.scanner s.at')=s.at'+XW M s.scanner s.at':=by unfold UE at *;exact NR (by omega) (by omega)
 refine pc (by decide) rfl rfl rfl ?_;rw [b87,c87];have e:TL M s=min (max (s.at'+XW M s.scanner s.at') 0) s.seen:=rfl;rw [e];generalize XW M s.scanner s.at'=o at *;by_cases c1:s.at'+o<0
 ·by_cases c2:s.seen<0
  ·omega
  ·have b:min (max (s.at'+o) 0) s.seen=0:=by omega
   rw [b];simp only [n87,Sn,TC,TY,ho,w1,Nh c1,Nc c2,SB,seval,NF,NL,NH,reduceCtorEq,NG,place,NB,NC]
 ·by_cases c2:s.seen<s.at'+o
  ·have b:min (max (s.at'+o) 0) s.seen=s.seen:=by omega
   rw [b];simp only [n87,Sn,TC,TY,ho,w1,Nc c1,Nh c2,SB,seval,NF,NL,NH,reduceCtorEq,NG,place,NB,NC]
  ·have b:min (max (s.at'+o) 0) s.seen=s.at'+o:=by omega
   rw [b];simp only [n87,Sn,TC,TY,ho,w1,Nc c1,Nc c2,SB,seval,NF,NL,NH,reduceCtorEq,NG,place,NB,NC]
theorem Nuf [OB] {lim:Nat} {p:Option Addr} (hs:Sl H encN 6 p S) (hn:S.length<2 ^ 62) :
  NQ E mp lim 47 [.slice p S.length c] H Q=Q (.bool (decide (QK S))) H:=by
 refine pc (by decide) rfl rfl rfl ?_;rw [b47,c47];simp only [n47,SB,seval,NL];refine NP (fun i=>S.length-i) (fun i fr G=>i<=S.length/\i<=2000/\fr 0=.slice p S.length c/\fr 3=Vi i/\Sl G encN 6 p S/\∀j,j<i->RA (gt S j)) 0 ⟨Np _,Np _,rfl,by rfl,hs.app _,fun j h=>absurd h (Nat.not_lt_zero j)⟩ ?_;intro i fr G ⟨hi,n,d,g,m,r⟩ hN;rw [NU N8r.eq_1];refine NJ ?_;by_cases a:i<S.length
 ·have f:=fun X=>(m.app X).loadCells OL a
  have b:=fun c (k:IntKind) (H1:NA)=>m.idx (c:=c) (k:=k) (H1:=H1) a
  have q:IntKind.i64.wrap ((i:Int)+1)=((i+1:Nat):Int):=OC (by omega);by_cases t:i=2000
  ·have c1:(2000:Int)<=(i:Int):=by omega
   have no:¬QK S:=fun h=>by have:=h.1;omega
   simp only [n47,d,g,ND,a,Nh c1,Nw no,SB,seval,NL,NH,reduceCtorEq,NC]
  ·have c1:¬(2000:Int)<=(i:Int):=by omega
   by_cases l:RA (gt S i)
   ·simp only [n47,d,g,ND,a,b,f,q,Nsw,Nj l,Nc c1,SB,seval,NF,NL,NH,RN,reduceCtorEq];refine hN (i+1) _ _ ⟨by omega,by omega,d,rfl,m.app _,fun j o=>?_⟩ (by omega);rcases (by omega:j<i\/j=i) with h | rfl
    ·exact r j h
    ·exact l
   ·simp only [n47,d,g,ND,a,b,f,Nsw,Nw l,Nc c1,Nw (show ¬QK S from fun h=>l (h.2 _ (PM a))),SB,seval,NF,NL,NH,RN,reduceCtorEq,NC]
 ·obtain rfl:i=S.length:=by omega
  have e:QK S:=⟨n,fun s hs=>by
   obtain ⟨j,o,rfl⟩:=List.mem_iff_getElem.mp hs;have:=r j o
   rwa [OQ o] at this⟩
  simp only [n47,d,g,ND,a,Nj e,SB,seval,NL,NH,reduceCtorEq,NC]
theorem Nui [OB] {lim:Nat} {p:Option Addr} {s:Ev} (hs:Sl H encN 6 p S) (hS:QK S) (I:RA s) :
  NQ E mp lim 111 [.slice p S.length c,.agg (encN s).toArray] H Q=Q (.bool (VJ S s)) H:=by
 have hn:=hS.1;have y:=I;unfold RA UE at y;refine pc (by decide) Ofp rfl rfl ?_;rw [Og1,Obi];simp only [n111,SB,seval,NL,NG,place,NB];have v:IntKind.i64.wrap (Int.tdiv s.seen 1440)=s.seen / 1440:=by
  rw [O5 (by omega)];exact NR (by omega) (by omega)
 have wd:IntKind.i64.wrap (s.seen-s.at')=s.seen-s.at':=NR (by omega) (by omega);refine NP (fun i=>S.length-i) (fun i fr G=>i<=S.length/\fr 0=.slice p S.length c/\fr 3=Vp H.length/\fr 5=Vi i/\H.length<=G.length/\NE G H.length=Vc (encN s)/\Sl G encN 6 p S/\∀j,j<i->¬(SC (gt S j)=SC s/\RG (V3 (gt S j)) (V3 s))) 0
  ⟨Np _,rfl,rfl,by rfl,by simp,NN,hs.app _,fun j h=>absurd h (Nat.not_lt_zero j)⟩ ?_
 intro i fr G ⟨hi,g,m,h5,hL,hB,q,C⟩ hN;rw [NU N1l.eq_1];refine NJ ?_;have b:=zc hB;by_cases a:i<S.length
 ·have f:=fun X=>(q.app X).loadCells OL a
  have d:=fun c (k:IntKind) (H1:NA)=>q.idx (c:=c) (k:=k) (H1:=H1) a
  have n:IntKind.i64.wrap ((i:Int)+1)=((i+1:Nat):Int):=OC (by omega);have z:=hS.2 _ (PM a);have B:=PM a;unfold RA UE at z;have nx:¬(SC (gt S i)=SC s/\RG (V3 (gt S i)) (V3 s))->∀j,j<i+1->¬(SC (gt S j)=SC s/\RG (V3 (gt S j)) (V3 s)):=fun h j A=>by
   rcases (by omega:j<i\/j=i) with h1 | rfl
   ·exact C j h1
   ·exact h
  have r:SC (gt S i)=SC s->RG (V3 (gt S i)) (V3 s)->VJ S s=false:=fun h1 h2=>by
   cases hm:VJ S s with
   | false=>rfl
   | true=>exact absurd h2 (XZ.mp hm _ B h1)
  generalize D:gt S i=x at *;have l:IntKind.i64.wrap (Int.tdiv x.seen 1440)=x.seen / 1440:=by
   rw [O5 (by omega)];exact NR (by omega) (by omega)
  have o:IntKind.i64.wrap (x.seen-x.at')=x.seen-x.at':=NR (by omega) (by omega);have e:H.length<=G.length:=hL;have key:SC x=SC s↔x.scanner=s.scanner/\x.seen / 1440=s.seen / 1440:=by unfold SC;simp
  by_cases c1:x.scanner=s.scanner
  case neg=>
   simp only [n111,g,m,h5,ND,a,d,f,OL,Sn,b,NI,n,e,Nc c1,SB,seval,NL,NH,reduceCtorEq,place,NB];exact hN (i+1) _ _ ⟨by omega,g,m,rfl,by simp;omega,b _,q.app _,nx fun h=>c1 (key.mp h.1).1⟩ (by omega)
  by_cases c2:x.seen / 1440=s.seen / 1440
  case neg=>
   simp only [n111,g,m,h5,ND,a,d,f,OL,Sn,TY,b,NI,n,v,l,e,Nh c1,Nc c2,SB,seval,NL,NH,reduceCtorEq,place,NB];exact hN (i+1) _ _ ⟨by omega,g,m,rfl,by simp;omega,b _,q.app _,nx fun h=>c2 (key.mp h.1).2⟩ (by omega)
  have hk:=key.mpr ⟨c1,c2⟩;by_cases t:x.seen-x.at'<s.seen-s.at'
  ·simp only [n111,N9t,g,m,h5,ND,a,d,f,OL,Sn,TC,TY,b,NI,v,wd,l,o,e,Nh c1,Nh c2,Nh t,r hk (.inl t),SB,seval,NL,NH,reduceCtorEq,place,NB,NC]
  by_cases c4:x.seen-x.at'=s.seen-s.at'
  ·by_cases w:x.at'<s.at'
   ·simp only [n111,N9t,g,m,h5,ND,a,d,f,OL,Sn,TC,TY,b,NI,v,wd,l,o,e,Nh c1,Nh c2,Nc t,Nh c4,Nh w,r hk (.inr ⟨c4,w⟩),SB,seval,NL,NH,reduceCtorEq,place,NB,NC]
   ·simp only [n111,g,m,h5,ND,a,d,f,OL,Sn,TC,TY,b,NI,n,v,wd,l,o,e,Nh c1,Nh c2,Nc t,Nh c4,Nc w,SB,seval,NL,NH,reduceCtorEq,place,NB];exact hN (i+1) _ _ ⟨by omega,g,m,rfl,by simp;omega,b _,q.app _,nx fun h=>by
     have:=h.2;unfold RG V3 at this;simp only at this;omega⟩ (by omega)
  ·simp only [n111,g,m,h5,ND,a,d,f,OL,Sn,TC,TY,b,NI,n,v,wd,l,o,e,Nh c1,Nh c2,Nc t,Nc c4,SB,seval,NL,NH,reduceCtorEq,place,NB];exact hN (i+1) _ _ ⟨by omega,g,m,rfl,by simp;omega,b _,q.app _,nx fun h=>by
    have:=h.2;unfold RG V3 at this;simp only at this;omega⟩ (by omega)
 ·obtain rfl:i=S.length:=by omega
  have u:VJ S s=true:=XZ.mpr fun x D hk F=>by
   obtain ⟨j,A,rfl⟩:=List.mem_iff_getElem.mp D;have:=C j A;rw [OQ A] at this;exact this ⟨hk,F⟩
  simp only [n111,N9t,g,h5,ND,a,u,SB,seval,NL,NH,reduceCtorEq,NC]
theorem N6e {bytes lim:Nat} (he:∀x,(enc x).length=e) (i:e≠0) (hb:bytes<=2 ^ 20) {O:List α} {q:Option Addr} {k:Nat} (K:Own f G enc e q d O) (hk:k<=O.length) (aa:lim<=f) (N:f<=G.length) (hn:O.length<1000000) (x:α) :
  ∃(D E s w I:Option Addr) (ca cb d1 d2 F:Nat) (G1 G2 z:NA),
   TN e (.slice q O.length d) none (some (Vi k)) none=some (.slice D k ca)/\
   OP lim none e bytes false (.slice (Sa G.length) 0 0) (.slice D k ca) (G++[Vc []])=some (.slice s k d1,G1++[])/\
   OP lim none e bytes false (.slice s k d1) (.slice (Sa G1.length) 1 1) (G1++[Vc (enc x)])=some (.slice w (k+1) d2,G2++[])/\
   TN e (.slice q O.length d) (some (Vi k)) none none=some (.slice E (O.length-k) cb)/\
   OP lim none e bytes false (.slice w (k+1) d2) (.slice E (O.length-k) cb) (G2++[])=some (.slice I (O.length+1) F,z++[])/\
   Own f z enc e I F (O.take k++x::O.drop k)/\(∀H0:NA,H0.length<=f->Chg [] H0 G->Chg [] H0 z)/\OD G G1:=by
 have r:∀n,n<=1000001->n*bytes<=OX:=fun n hn=>by
  have:=Nat.mul_le_mul hn hb;unfold OX;omega
 have hs:=K.sl he;have hc:=K.capOk;obtain ⟨D,ca,R,V,ka,ma,_⟩:=Vj (vlo:=none) (vhi:=some (Vi k)) (lo:=0) (hi:=k) hs hc he (fun cap C=>by rw [Zo (by omega) (by omega),N1]) (Np _) hk (by omega);obtain ⟨E,cb,Y,W,kb,mb,_⟩:=Vj (vlo:=some (Vi k)) (vhi:=none) (lo:=k) (hi:=O.length) hs hc he (fun cap C=>by rw [Nkq (by omega) (by omega),N1]) hk (Nf _) (by omega);rw [N9] at W;rw [On] at V;rw [Nat.sub_zero] at R;have lT:(O.take k).length=k:=by rw [N5];omega
 have P:(O.drop k).length=O.length-k:=O2 ..;obtain ⟨s,d1,G1,e1,u,g⟩:∃(s:Option Addr) (d1:Nat) (G1:NA),OP lim none e bytes false (.slice (Sa G.length) 0 0) (.slice D k ca) (G++[Vc []])=some (.slice s k d1,G1++[])/\OD G G1/\
   (k=0/\s=Sa G.length/\d1=0/\NE G1 G.length=Vc []\/0<k/\Own G.length G1 enc e s d1 (O.take k)):=by
  by_cases J:k=0
  ·subst J;refine ⟨_,_,G++[Vc []],by rw [Na];exact Noj i,⟨_,rfl⟩,.inl ⟨rfl,rfl,rfl,by rw [NN];rfl⟩⟩
  ·have:=WR (lim:=lim) (b:=G.length) (bytes:=bytes) (c:=ca) (by rw [NN];rfl) (V.app [Vc []]) i (by rw [lT];exact r _ (by omega)) (by rw [lT];omega) (by intro h;rw [h] at lT;simp at lT;omega);rw [lT] at this;refine ⟨_,_,_,by rw [Na];exact this,⟨[Vc [],Vc ((O.take k).flatMap enc)],by simp⟩,.inr ⟨by omega,Own.new (by rw [NN];rfl) (by simp)⟩⟩
 have ad:=u.len;obtain ⟨w,d2,G2,e2,t,v,U⟩:∃(w:Option Addr) (d2:Nat) (G2:NA),OP lim none e bytes false (.slice s k d1) (.slice (Sa G1.length) 1 1) (G1++[Vc (enc x)])=some (.slice w (k+1) d2,G2++[])/\
   Own G.length G2 enc e w d2 (O.take k++[x])/\(∀j,j<G.length->NE G2 j=NE G1 j)/\G1.length<=G2.length:=by
  rcases g with ⟨rfl,rfl,rfl,h1⟩ | ⟨J,g⟩
  ·have:=WR (lim:=lim) (b:=G.length) (bytes:=bytes) (c:=1) (H:=G1++[Vc (enc x)]) (p:=Sa G1.length) (l:=[x]) (by rw [NS (NM h1)];exact h1) (Sl.row he (ro:=false) (by rw [NN];simp)) i (by exact r 1 (by omega)) (by simp) (by simp);refine ⟨_,_,G1++[Vc (enc x)]++[Vc ([x].flatMap enc)],by rw [Na];exact this,Own.new (by rw [NN];simp) (by simp;omega),fun j y=>?_,by simp⟩;rw [No,NS (by omega)]
  ·obtain ⟨G2,e2,o2,_,h2,U,_⟩:=g.step (lim':=lim) (bytes:=bytes) (by omega) he i x (by rw [lT];exact r _ (by omega)) (by rw [lT];omega) (by omega) [Vc (enc x)] G1.length 1 (by rw [NN];rfl);rw [lT] at e2;rw [Na] at o2 h2;refine ⟨_,_,G2,e2,o2,fun j y=>h2 j (by omega) fun a B=>?_,by rw [U];simp;omega⟩;have:=(g.block B).1;omega
 have A:∀j,j<G.length->NE G2 j=NE G j:=fun j y=>by
  rw [v j y];obtain ⟨X,rfl⟩:=u;exact NS y
 have Q:Sl G2 enc e E (O.drop k):=Sl.same W fun a B ab=>by
  obtain ⟨a0,L,M⟩:=mb a B;rw [M];exact A _ (K.block L).2
 obtain ⟨z,I,F,e3,o,T,m,l3⟩:=t.more (lim':=lim) (bytes:=bytes) (by omega) he i (O.drop k) (by rw [Nk,lT,P];exact r _ (by simp;omega)) (by rw [Nk,lT,P];simp;omega) (by omega) [] (SH (k:=cb) (by rw [Na];exact Q)) rfl;rw [Nk,lT,P0,P,show k+1+(O.length-k)=O.length+1 by omega] at e3;rw [Na] at o m;refine ⟨D,E,s,w,I,ca,cb,d1,d2,F,G1,G2,z,R,e1,e2,Y,e3, ?_,fun H0 J S=>⟨by have:=S.len;omega,fun j y Z=>?_⟩,u⟩
 ·rw [No,List.singleton_append] at o;exact o.le N
 ·rw [m j (by omega) fun a B=>by have:=(t.block B).1;omega,A j (by omega)];exact S.other j y Z
theorem Ob7 {lim B:Nat} {c:List Value} (hB:NE G B=Vc c) (hl:lim<=B) (v:Value) (b:f<c.length) :
  ∃G',(∀X,AM.storeAt lim (G++X) ⟨B,f,none⟩ [v]=some (G'++X))/\NE G' B=Vc (QI c f [v])/\Mut G G' B:=by
 obtain ⟨G',h1,h2,a⟩:=OO (NM hB) (Vc (QI c f [v]));refine ⟨G',fun X=>?_,h2,a⟩;rw [Ti,NS (NM hB),hB];simp only [Nm,Nn];rw [Nl ⟨hl,by omega⟩,h1]
theorem N42 {l:List Mk} {i:Nat} {v:Int} (h:i<l.length):QI (l.flatMap PY) (i*3+2) [Vi v]=(l.set i { gt l i with off:=v }).flatMap PY:=by
 have h1:l=l.take i++gt l i::l.drop (i+1):=by
  rw [OQ h,<-Oy h,Pv]
 have h2:l.set i { gt l i with off:=v }=l.take i++{ gt l i with off:=v }::l.drop (i+1):=List.set_eq_take_append_cons_drop .. |>.trans (Nl h);have a:((l.take i).flatMap PY).length=i*3:=by rw [OW OY,N5,P1 (by omega)]
 generalize c:gt l i=x at *;have b:PY x=(PY x).take 2++[Vi x.off]:=rfl;have h5:PY { x with off:=v }=(PY x).take 2++[Vi v]:=rfl;have:=Ws [Value.int .i64 v] ((l.take i).flatMap PY++(PY x).take 2) [Vi x.off] ((l.drop (i+1)).flatMap PY) rfl;rw [Nk,a] at this;rw [h2,Pi,Ol,h5]
 conv=>lhs;rw [h1,Pi,Ol,b]
 simp only [No] at this⊢;exact this
theorem N5o {lim a:Nat} {O:List Mk} {q:Option Addr} {k:Nat} (g:Own a G PY 3 q d O) (hk:k<O.length) (h:lim<=a) (v:Int) :
  ∃G',(∀X,AM.storeAt lim (G++X) ((Vs q 3 k).add 2) [Vi v]=some (G'++X))/\Own a G' PY 3 q d (O.set k { gt O k with off:=v })/\(∀H0:NA,H0.length<=a->Chg [] H0 G->Chg [] H0 G')/\G'.length=G.length:=by
 rcases g with ⟨h1,_,_⟩ | ⟨R,rfl,rfl,b,c⟩
 ·rw [h1] at hk;simp at hk
 ·obtain ⟨G',e1,e2,e3⟩:=Ob7 b (show lim<=R by omega) (f:=k*3+2) (Vi v) (by rw [OW OY];omega);refine ⟨G',fun X=>?_,.inr ⟨R,rfl,rfl,by rw [e2,N42 hk],c⟩,fun H0 i e=>e.mut e3 (.inr (by omega)),e3.len⟩;have:(Vs (Sa R) 3 k).add 2=⟨R,k*3+2,none⟩:=by simp only [Vs,addrOf,Pj,addr_add,Nx]
  rw [this];exact e1 X
theorem Npq [OB] {lim:Nat} {p:Option Addr} (hs:Sl H encN 6 p S) (hS:QK S) (hl:lim<=H.length)
  (hQ:∀G q d,Own H.length G PY 3 q d (QZ S)->Chg [] H G->Q (.slice q (QZ S).length d) (G++[])) :
  NQ E false lim 86 [.slice p S.length c] H Q:=by
 have hn:=hS.1;refine QN (by decide) rfl rfl ?_;rw [b86,c86];simp only [n86,SB,seval,NL];refine NP (S:=Nat×Option Addr×Nat) (fun s=>S.length-s.1) (fun s fr G=>s.1<=S.length/\fr 0=.slice p S.length c/\fr 3=.slice s.2.1 (Wu S s.1).length s.2.2/\fr 4=Vi s.1/\Own H.length G PY 3 s.2.1 s.2.2 (Wu S s.1)/\Chg [] H G) (0,none,0)
  ⟨Np _,rfl,(by simp only [Npu,Nn,FB,Nat.reduceEqDiff]),by rfl,.inl ⟨rfl,rfl,rfl⟩,Chg.refl.app⟩ ?_
 rintro ⟨i,q,d⟩ fr G ⟨hi,V,W,Y,hO,hC⟩ hN;simp only at hi W Y hO;rw [NU N72.eq_1];refine NJ ?_;have ak:=hC.len;by_cases e:i<S.length
 case neg=>
  obtain rfl:i=S.length:=by omega
  rw [Nun,Nlz] at W hO;simp only [n86,V,W,Y,ND,e,SB,seval,NL,NH,reduceCtorEq,NC];exact hQ G q d hO hC
 have M:=hC.sl hs (fun a _ _ h=>(by cases h));have N:=fun X=>(M.app X).loadCells OL e
 have aa:=fun X=>(M.app X).loadCell OL e (show 2<6 by decide)
 have ab:=fun X=>(M.app X).loadCell OL e (show 4<6 by decide)
 have ad:=fun X=>(M.app X).loadCell OL e (show 5<6 by decide)
 have F:=fun c (k:IntKind) (H1:NA)=>M.idx (c:=c) (k:=k) (H1:=H1) e
 have u:IntKind.i64.wrap ((i:Int)+1)=((i+1:Nat):Int):=OC (by omega);have hf:=hS.2 _ (PM e);have P:=fun (X:NA) (mp:Bool) (lim:Nat) (Q:Value->NA->Prop)=>Nui (mp:=mp) (lim:=lim) (Q:=Q) (c:=c) (M.app X) hS hf
 have t:=Nem e;have an:=Nht S i hi;generalize hx:gt S i=s at *;unfold RA UE at hf;have wd:IntKind.i64.wrap (s.seen-s.at')=s.seen-s.at':=NR (by omega) (by omega);have am:lim<=G.length:=by omega
 cases hm:VJ S s with
 | false=>
   rw [hm,Ng (by decide)] at t;simp only [n86,V,Y,ND,e,F,N,P,hm,u,SB,seval,NF,NL,NH,RN,reduceCtorEq];exact hN (i+1,q,d) _ _ ⟨by simp only;omega,V,(by simp only [W,t,FB,Nat.reduceEqDiff]),rfl,by simp only;rw [t,Na];exact hO,by rw [Na];exact hC⟩ (by simp only;omega)
 | true=>
   rw [hm,Nl rfl] at t;simp only [n86,V,Y,ND,e,F,N,aa,ab,ad,Sn,TC,TY,P,hm,wd,am,SB,seval,NF,NL,NH,RN,reduceCtorEq,place,NB];have aq:H.length<=G.length:=ak;obtain ⟨G1,o⟩:∃G1,G1=G++[Vc (PY (V3 s))]:=⟨_,rfl⟩
   have A:G++[Vc [Vi s.scanner,Vi s.at',Vi (s.seen-s.at')]] = G1:=o.symm;have Z:NE G1 G.length=Vc (PY (V3 s)):=by rw [o];exact NN
   have l:Own H.length G1 PY 3 q d (Wu S i):=by rw [o];exact hO.app _
   have f:Chg [] H G1:=by rw [o];exact hC.app
   have l1:G1.length=G.length+1:=by rw [o];simp
   rw [A];clear o A P N aa ab ad M;generalize V3 s=m at *;generalize Wu S i=O at *;have s1:=l.sl OY;have n:=zc Z;refine NP (fun k=>O.length-k) (fun k fr1 Gx=>k<=O.length/\Gx=G1/\fr1 0=.slice p S.length c/\fr1 3=.slice q O.length d/\fr1 4=Vi i/\fr1 5=Vp G.length/\fr1 6=Vi k/\∀j,j<k->VW (gt O j) m) 0
    ⟨Np _,rfl,V,W,Y,rfl,by rfl,fun j h=>absurd h (Nat.not_lt_zero j)⟩ ?_
   rintro k fr1 Gx ⟨hk,rfl,J,w,K,C,L,z⟩ hM;rw [NU N73.eq_1];refine NJ ?_;have ae:IntKind.i64.wrap ((k:Int)+1)=((k+1:Nat):Int):=OC (by omega);obtain ⟨pa,pb,q1,q2,q3,ca,cb,d1,d2,d3,G2,G3,G4,ea,e1,e2,eb,e3,ai,v,al⟩:=N6e (lim:=lim) (bytes:=24) OY (by decide) (by decide) l hk hl (by omega) (by omega) m;have x:=fun X=>(al.app (X:=X)).cells Z
   have B:(k=O.length\/¬VW (gt O k) m)->¬(k<O.length/\Rs (gt O k) m)->Own H.length G4 PY 3 q3 d3 (Wu S (i+1))/\(Wu S (i+1)).length=O.length+1:=fun h1 h2=>by
    have:=Nkd hk z h1;rw [Ng h2] at this;rw [t,this];exact ⟨ai,by simp;omega⟩
   by_cases b:k<O.length
   case neg=>
    obtain rfl:k=O.length:=by omega
    obtain ⟨f1,f2⟩:=B (.inl rfl) (fun h=>b h.1);simp only [n86,w,K,C,L,ND,OY,NK,u,b,ea,e1,e2,eb,e3,x,SB,seval,NL,NH,place];exact hN (i+1,q3,d3) _ _ ⟨by simp only;omega,J,(by simp only [f2,FB,Nat.reduceEqDiff]),rfl,by simp only;rw [Na];exact f1,by rw [Na];exact v H (Nf _) f⟩ (by simp only;omega)
   have R:=fun X=>(s1.app X).loadCell OY b (show 0<3 by decide)
   have D:=fun X=>(s1.app X).loadCell OY b (show 1<3 by decide)
   have ag:=fun X=>(s1.app X).loadCell OY b (show 2<3 by decide)
   have r:=fun c (kk:IntKind) (H1:NA)=>s1.idx (c:=c) (k:=kk) (H1:=H1) b
   generalize hy:gt O k=y at *;have next:VW y m->∀j,j<k+1->VW (gt O j) m:=fun h j hj=>by
    rcases (by omega:j<k\/j=k) with h1 | rfl
    ·exact z j h1
    ·rw [hy];exact h
   by_cases c1:y.scanner<m.scanner
   ·simp only [n86,w,C,L,ND,n,Xf,ae,b,R,r,Nh c1,SB,seval,NL,NH];exact hM (k+1) _ _ ⟨by omega,Na _,J,w,K,C,rfl,next (.inl c1)⟩ (by omega)
   by_cases c2:y.scanner=m.scanner
   case neg=>
    obtain ⟨f1,f2⟩:=B (.inr fun h=>by unfold VW at h;omega) (fun h=>c2 h.2.1);simp only [n86,w,K,C,L,ND,n,OY,Xf,NK,u,b,R,r,Nc c1,Nc c2,ea,e1,e2,eb,e3,x,SB,seval,NL,NH,place];exact hN (i+1,q3,d3) _ _ ⟨by simp only;omega,J,(by simp only [f2,FB,Nat.reduceEqDiff]),rfl,by simp only;rw [Na];exact f1,by rw [Na];exact v H (Nf _) f⟩ (by simp only;omega)
   by_cases T:y.at'<m.at'
   ·simp only [n86,w,C,L,ND,n,Xf,Xe,ae,b,R,D,r,Nc c1,Nh c2,Nh T,SB,seval,NL,NH];exact hM (k+1) _ _ ⟨by omega,Na _,J,w,K,C,rfl,next (.inr ⟨c2,T⟩)⟩ (by omega)
   have ah:¬VW y m:=fun h=>by unfold VW at h;omega
   by_cases c4:y.at'=m.at'
   case neg=>
    obtain ⟨f1,f2⟩:=B (.inr ah) (fun h=>c4 h.2.2);simp only [n86,w,K,C,L,ND,n,OY,Xf,Xe,NK,u,b,R,D,r,Nc c1,Nh c2,Nc T,Nc c4,ea,e1,e2,eb,e3,x,SB,seval,NL,NH,place];exact hN (i+1,q3,d3) _ _ ⟨by simp only;omega,J,(by simp only [f2,FB,Nat.reduceEqDiff]),rfl,by simp only;rw [Na];exact f1,by rw [Na];exact v H (Nf _) f⟩ (by simp only;omega)
   have g:=Nkd hk z (.inr (by rw [hy];exact ah));rw [Nl ⟨b,by rw [hy];exact ⟨c2,c4⟩⟩,<-t,hy] at g;by_cases c5:m.off<y.off
   ·rw [Nl c5] at g;obtain ⟨G5,aj,I,U,_⟩:=N5o (lim:=lim) l b hl m.off;rw [hy] at I;simp only [n86,w,K,C,L,ND,n,Xf,Xe,Zi,u,b,R,D,ag,r,Nc c1,Nh c2,Nc T,Nh c4,Nh c5,aj,SB,seval,NL,NH,NB];exact hN (i+1,q,d) _ _ ⟨by simp only;omega,J,(by simp only [w,g,Py,FB,Nat.reduceEqDiff]),rfl,by simp only;rw [Na,g];exact I,by rw [Na];exact U H (Nf _) f⟩ (by simp only;omega)
   ·rw [Ng c5] at g;simp only [n86,w,K,C,L,ND,n,Xf,Xe,Zi,u,b,R,D,ag,r,Nc c1,Nh c2,Nc T,Nh c4,Nc c5,SB,seval,NL,NH];exact hN (i+1,q,d) _ _ ⟨by simp only;omega,J,(by simp only [w,g,FB,Nat.reduceEqDiff]),rfl,by simp only;rw [Na,g];exact l,by rw [Na];exact f⟩ (by simp only;omega)
theorem Nw4 [OB] {lim:Nat} {a b:Ev} (D:0<=a.kind/\a.kind<=255) (F:0<=b.kind/\b.kind<=255) :
  NQ E mp lim 88 [.agg (encE a).toArray,.agg (encE b).toArray] H Q=Q (.bool (decide (ZP a b))) H:=by
 refine pc (by decide) rfl rfl rfl ?_;rw [b88,c88];have B:IntKind.i64.wrap a.kind=a.kind:=NR (by omega) (by omega);have C:IntKind.i64.wrap b.kind=b.kind:=NR (by omega) (by omega);simp only [n88,VP,QU,Nro,QY,Nrn,Nrm,QX,B,C,SB,seval,NL,NG,place,NB];obtain ⟨G,r⟩:∃G,G=H++[Vc (encE a),Vc (encE b),Vc ((QQ a).flatMap encI),Vc ((QQ b).flatMap encI)]:=⟨_,rfl⟩
 have w:Sl G encI 1 (Sa (H.length+2)) (QQ a):=Sl.row OT (ro:=false) (by rw [r,NY];rfl);have x:Sl G encI 1 (Sa (H.length+3)) (QQ b):=Sl.row OT (ro:=false) (by rw [r,NY];rfl);have t:(QQ a).length=7:=rfl;have u:(QQ b).length=7:=rfl;unfold ZP;refine NP (fun i=>7-i) (fun i fr v=>i<=7/\v=G/\fr 5=.slice (Sa (H.length+2)) 7 7/\fr 6=.slice (Sa (H.length+3)) 7 7/\fr 7=Vi i/\∀j,j<i->gt (QQ a) j=gt (QQ b) j) 0
  ⟨Np _,by rw [r];rfl,rfl,rfl,by rfl,fun j h=>absurd h (Nat.not_lt_zero j)⟩ ?_
 rintro i fr v ⟨hi,rfl,g,l,m,d⟩ hN;rw [NU N71.eq_1];refine NJ ?_;by_cases z:i<7
 case neg=>
  have e0:=Nm5 (t.trans u.symm) (fun j y=>d j (by omega));have no:¬RX (QQ a) (QQ b)<0:=by omega
  have f:¬(i:Int)<7:=by omega
  simp only [n88,g,m,Nc f,Nw no,SB,seval,NL,NH,NC]
 have f:(i:Int)<7:=by omega
 have s:IntKind.i64.wrap ((i:Int)+1)=((i+1:Nat):Int):=OC (by omega);have p:=fun A=>(w.app A).loadCell0 OT (by omega:i<(QQ a).length) (by decide)
 have q:=fun A=>(x.app A).loadCell0 OT (by omega:i<(QQ b).length) (by decide)
 have n:=fun c (kk:IntKind) (H1:NA)=>w.idx (c:=c) (k:=kk) (H1:=H1) (by omega:i<(QQ a).length)
 have o:=fun c (kk:IntKind) (H1:NA)=>x.idx (c:=c) (k:=kk) (H1:=H1) (by omega:i<(QQ b).length)
 rw [t] at n;rw [u] at o;simp only [encI,Oq] at p q;by_cases he:gt (QQ a) i=gt (QQ b) i
 ·simp only [n88,g,l,m,Nh f,n,o,p,q,s,Nh he,SB,seval,NL,NH];refine hN (i+1) _ _ ⟨by omega,Na _,g,l,rfl,fun j y=>?_⟩ (by omega);rcases (by omega:j<i\/j=i) with h | rfl
  ·exact d j h
  ·exact he
 ·have e:=Ns6 (t.trans u.symm) (by omega:i<(QQ a).length) d he;by_cases hl:gt (QQ a) i<gt (QQ b) i
  ·simp only [n88,g,l,m,Nh f,n,o,p,q,Nc he,Nh hl,Nj (e.mpr hl),SB,seval,NL,NH,NC]
  ·simp only [n88,g,l,m,Nh f,n,o,p,q,Nc he,Nc hl,Nw (fun h=>hl (e.mp h)),SB,seval,NL,NH,NC]
structure ETw (H:NA) (A B:List Ev) (ap bp:Option Addr) (ac bc:Nat) (G:NA):Prop where
 ao:Own H.length G encE 7 ap ac A
 bo:Own H.length G encE 7 bp bc B
 ne:∀a b,ap=some a->bp=some b->a.block≠b.block
 chg:Chg [] H G
theorem ETw.flip (h:ETw H A B ap bp ac bc G):ETw H B A bp ap bc ac G:=⟨h.bo,h.ao,fun a b c d e=>h.ne b a d c e.symm,h.chg⟩
theorem ETw.app (h:ETw H A B ap bp ac bc G) (X:NA):ETw H A B ap bp ac bc (G++X):=⟨h.ao.app X,h.bo.app X,h.ne,h.chg.app⟩
theorem ETw.step {lim:Nat} (h:ETw H A B ap bp ac bc G) (hl:lim<=H.length) (o:A.length<1000000) (m:Ev) :
  ∃G2,OP lim none 7 56 false (.slice ap A.length ac) (.slice (Sa G.length) 1 1) (G++[Vc (encE m)])=some (.slice (Sa (G.length+1)) (A.length+1) (loose 7),G2++[])/\ETw H (A++[m]) B (Sa (G.length+1)) bp (loose 7) bc G2:=by
 have p:=h.chg;have i:=p.len;obtain ⟨G2,e2,d,f,c,g,_⟩:=h.ao.step (lim':=lim) (bytes:=56) hl NT (by decide) m (by unfold OX;omega) (by omega) i [Vc (encE m)] G.length 1 (by rw [NN];rfl);simp only [Nm,Nn,Nx,Na] at e2 d g c f;have n:Chg (Nl6 ap) G G2:=⟨by omega,fun j r o=>c j r (Ndl o)⟩
 refine ⟨G2,by rw [Na];exact e2,d,h.bo.chg n fun a k q=>?_,fun a b k l=>?_,f _ _ (Nf _) p⟩
 ·obtain ⟨b,l,e⟩:=Ndm q;exact h.ne b a l k e.symm
 ·cases k;have:=(h.bo.block l).2;show G.length+1≠b.block;omega
theorem ETw.stepX {lim:Nat} (h:ETw H A B ap bp ac bc G) (hl:lim<=H.length) (a:A.length<1000000) (m:Ev) (X:NA) :
  ∃G2,OP lim none 7 56 false (.slice ap A.length ac) (.slice (Sa (G.length+X.length)) 1 1) (G++(X++[Vc (encE m)]))=some (.slice (Sa (G.length+X.length+1)) (A.length+1) (loose 7),G2++[])/\ETw H (A++[m]) B (Sa (G.length+X.length+1)) bp (loose 7) bc G2:=by
 have:=(h.app X).step hl a m;rw [Nk,No] at this;exact this
theorem Nuw [OB] {lim:Nat} {p:Option Addr} (hs:Sl H encN 6 p S) (hS:QK S) (hl:lim<=H.length)
  (hQ:∀G kp kc tp tc,ETw H (OH S).1 (OH S).2 kp tp kc tc G->Q (.tuple #[.slice kp (OH S).1.length kc,.slice tp (OH S).2.length tc]) (G++[])) :
  NQ E false lim 48 [.slice p S.length c] H Q:=by
 have hn:=hS.1;refine QN (by decide) rfl rfl ?_;rw [b48,c48];simp only [n48,SB,seval,NF,NL,reduceCtorEq,NG];rw [Na];refine Npq hs hS hl fun G0 q d cf au=>?_
 have ch:=Go.Scan.gather_ok hS.2;generalize hM:QZ S=M at *;have lM:M.length<=2000:=by rw [<-hM];have:=Nfj S;omega
 have dd:=au.len;have s0:=au.sl hs (fun a _ _ h=>(by cases h));have sM:=cf.sl OY;simp only [n48,SB,seval,NL];refine NP (S:=Nat×Option Addr×Nat) (fun s=>S.length-s.1) (fun s fr G=>s.1<=S.length/\fr 0=.slice p S.length c/\fr 4=.slice q M.length d/\fr 5=.slice s.2.1 s.1 s.2.2/\fr 6=Vi s.1/\Own G0.length G encE 7 s.2.1 s.2.2 (Ndc M S s.1)/\Chg [] G0 G) (0,none,0)
  ⟨Np _,rfl,rfl,rfl,by rfl,.inl ⟨rfl,rfl,rfl⟩,Chg.refl.app⟩ ?_
 rintro ⟨i,ap,ac⟩ fr G ⟨hi,h0,h4,h5,h6,hO,hC⟩ hN;simp only at hi h5 h6 hO;rw [NU N8n.eq_1];refine NJ ?_;have dc:=hC.len;have lU:=Nx8 (M:=M) hi;by_cases F:i<S.length
 ·have sS:=hC.sl s0 (fun a _ _ h=>(by cases h));have c9:=hC.sl sM (fun a _ _ h=>(by cases h));have cw:=fun X=>(sS.app X).loadCells OL F
  have bm:=fun c (k:IntKind) (H1:NA)=>sS.idx (c:=c) (k:=k) (H1:=H1) F
  have bv:IntKind.i64.wrap ((i:Int)+1)=((i+1:Nat):Int):=OC (by omega);have hf:=hS.2 _ (PM F);have cy:=fun (X:NA) (mp:Bool) (lim:Nat) (Q:Value->NA->Prop)=>Nyy (mp:=mp) (lim:=lim) (Q:=Q) (c:=d) (c9.app X) (by omega) ch hf
  have c5:=Ntx (M:=M) F;have bq:=fun y=>Nx7 (M:=M) (S:=S) (i:=i) (y:=y)
  generalize hx:gt S i=s at *;have hev:[Value.int .i64 s.item,Vi s.place,Vi s.scanner,.int .u8 s.kind,Vi s.at',Vi s.seen,Vi (TL M s)]=encE { s with time:=TL M s }:=rfl;have cz:QI [Value.int .i64 0,Vi 0,Vi 0,.int .u8 0,Vi 0,Vi 0,Vi 0] 0 (encN s)=[Vi s.item,Vi s.place,Vi s.scanner,.int .u8 s.kind,Vi s.at',Vi s.seen,Vi 0]:=rfl;have cu:0<=({ s with time:=TL M s }:Ev).kind/\({ s with time:=TL M s }:Ev).kind<=255:=by unfold RA at hf;simp only;omega
  generalize df:({ s with time:=TL M s }:Ev)=x at *;generalize Ndc M S i=L at *;have co:∀y∈L,0<=y.kind/\y.kind<=255:=fun y hy=>by
   obtain ⟨z,hz,rfl⟩:=bq y hy;have:=hS.2 z hz;unfold RA at this;simp only;omega
  obtain ⟨G2,e2,an,bh,_,am,bf⟩:=hO.step (lim':=lim) (bytes:=56) (by omega) NT (by decide) x (by rw [lU];unfold OX;omega) (by rw [lU];omega) (by omega) [Vc (encE x),Vc (encE x)] (G.length+1) 1 (by rw [NY];rfl);rw [lU] at e2;simp only [Nm,Nn,Nx,Nat.reduceAdd,Na] at e2 an am bf bh;have b7:NE G2 G.length=Vc (encE x):=bf 0 (by decide);have hR:NE G2 (G.length+2)=Vc ((L++[x]).flatMap encE):=by
   rcases an with ⟨h,_⟩ | ⟨R,h1,_,h3,_⟩
   ·simp at h
   ·cases h1;exact h3
  have b8:=bh [] G0 (Nf _) hC;have cv:lim<=G.length:=by omega
  simp only [n48,h0,h4,h5,h6,ND,F,bm,cw,cv,OL,NK,NI,cy,cz,hev,NT,e2,SB,seval,NF,NL,NH,reduceCtorEq,place,NB];have dh:G2.length=G.length+3:=am;generalize hB:G.length=B at *;refine NP (S:=Nat×Ev) (fun s=>s.1) (fun s fr V=>s.1<=i/\fr 0=.slice p S.length c/\fr 4=.slice q M.length d/\fr 5=.slice (Sa (B+2)) (i+1) (loose 7)/\fr 6=Vi i/\fr 7=Vp B/\fr 8=Vi s.1/\
    NE V (B+2)=Vc ((L.take s.1++s.2::L.drop s.1).flatMap encE)/\NE V B=Vc (encE x)/\Chg [] G0 V/\∀j,s.1<=j->j<i->ZP x (gt L j)) (i,x)
   ⟨Nf _,h0,h4,rfl,h6,rfl,rfl,by simp only;rw [Oc (by omega),P8 (by omega)];exact hR,b7,b8,fun j h1 h2=>absurd h2 (by simp only at h1;omega)⟩ ?_
  rintro ⟨a,z⟩ fr1 V ⟨ha,g0,g4,g5,g6,g7,g8,Y,ba,bb,Z⟩ cg;simp only at ha g8 Y Z;rw [NU N8o.eq_1];refine NJ ?_;obtain ⟨C,g⟩:∃C,C=L.take a++z::L.drop a:=⟨_,rfl⟩
  rw [<-g] at Y;have lC:C.length=i+1:=by rw [g,Nk,Nm,N5,O2];omega
  have sC:Sl V encE 7 (Sa (B+2)) C:=Sl.row NT Y;have ar:=zc ba;have ah:=fun c (kk:IntKind) (H1:NA)=>sC.idx (c:=c) (k:=kk) (H1:=H1) (by omega:a<C.length)
  rw [lC] at ah;have aq:∀y:Ev,C.set a y=L.take a++y::L.drop a:=fun y=>by
   have:(L.take a).length=a:=by rw [N5];omega
   rw [g,Qe _ _ (by omega),this,Qq,List.set_cons_zero]
  obtain ⟨G5,a8,ci,J⟩:=SV (enc:=encE) (l:=C) (p:=Sa (B+2)) (lim:=lim) NT rfl Y (by omega) (i:=a) (by omega) x;have fin:a=0\/¬ZP x (gt L (a-1))->Own G0.length G5 encE 7 (Sa (B+2)) (loose 7) (Ndc M S (i+1))/\Chg [] G0 G5:=fun h2=>by
   refine ⟨.inr ⟨_,rfl,rfl, ?_,by omega⟩,bb.mut J (.inr (by omega))⟩;rw [ci,aq,c5,N1z (by omega) (fun j h3 h4=>Z j h3 (by omega)) h2]
  by_cases b6:a=0
  ·subst b6;obtain ⟨f1,f2⟩:=fin (.inl rfl);have c8:∀(c:Nat) (kk:IntKind) (H1:NA),Vq 7 (.slice (Sa (B+2)) (i+1) c) (.int kk 0) H1=some (.pointer (some (Vs (Sa (B+2)) 7 0)),H1):=fun c kk H1=>ah c kk H1
   simp only [n48,g5,g6,g7,g8,ar,NT,NK,bv,c8,a8,SB,seval,NL,NH,NB];exact hN (i+1,Sa (B+2),loose 7) _ _ ⟨by simp only;omega,g0,g4,g5,rfl,by simp only;rw [Na];exact f1,by rw [Na];exact f2⟩ (by simp only;omega)
  ·have c0:(0:Int)<(a:Int):=by omega
   have bw:IntKind.i64.wrap ((a:Int)-1)=((a-1:Nat):Int):=Zy (by omega) (by omega);have cn:gt C (a-1)=gt L (a-1):=by
    rw [g,UM (by rw [N5];omega),OQ (by rw [N5];omega),OQ (by omega),List.getElem_take]
   have a6:=fun X=>(sC.app X).loadCells NT (by omega:a-1<C.length)
   rw [cn] at a6;have a5:=fun c (kk:IntKind) (H1:NA)=>sC.idx (c:=c) (k:=kk) (H1:=H1) (by omega:a-1<C.length)
   rw [lC] at a5;have c7:=co _ (PM (by omega:a-1<L.length));obtain ⟨G6,a9,be,m6⟩:=SV (enc:=encE) (l:=C) (p:=Sa (B+2)) (lim:=lim) NT rfl Y (by omega) (i:=a) (by omega) (gt L (a-1));have ax:L.drop (a-1)=gt L (a-1)::L.drop a:=by
    rw [Oy (by omega:a-1<L.length),OQ (by omega),show a-1+1=a by omega]
   have az:L.take a=L.take (a-1)++[gt L (a-1)]:=by
    conv=>lhs;rw [show a=a-1+1 by omega,Nv (by omega:a-1<L.length)]
    rw [OQ (by omega)]
   have bu:C.set a (gt L (a-1))=L.take (a-1)++gt L (a-1)::L.drop (a-1):=by
    rw [aq,ax,az,No,List.singleton_append]
   rw [bu] at be;generalize hy:gt L (a-1)=y at *;have bg:=fun (mp:Bool) (lim:Nat) (H:NA) (Q:Value->NA->Prop)=>Nw4 (mp:=mp) (lim:=lim) (H:=H) (Q:=Q) cu c7
   by_cases hb:ZP x y
   ·simp only [n48,g5,g7,g8,ar,NT,NK,ah,bw,a6,a5,c0,bg,Nj hb,a9,SB,seval,NF,NL,NH,NB];refine cg (a-1,y) _ _ ⟨by simp only;omega,g0,g4,g5,g6,g7,rfl,by simp only;rw [Na];exact be,by rw [Na,m6.other _ (by omega)];exact ba,by rw [Na];exact bb.mut m6 (.inr (by omega)),fun j h1 h2=>?_⟩ (by simp only;omega);simp only at h1;rcases (by omega:j=a-1\/a<=j) with rfl | h3
    ·rw [hy];exact hb
    ·exact Z j h3 h2
   ·obtain ⟨f1,f2⟩:=fin (.inr hb);simp only [n48,g5,g6,g7,g8,ar,NT,NK,ah,bv,bw,a6,a5,c0,bg,Nw hb,a8,SB,seval,NF,NL,NH,NB];exact hN (i+1,Sa (B+2),loose 7) _ _ ⟨by simp only;omega,g0,g4,g5,rfl,by simp only;rw [Na];exact f1,by rw [Na];exact f2⟩ (by simp only;omega)
 ·obtain rfl:i=S.length:=by omega
  have bd:=Nx9 M S;rw [bd] at hO;have b9:OH S=((Sw [] [] (RP M S)).1.reverse,(Sw [] [] (RP M S)).2.reverse):=by rw [<-Mt,<-hM];rfl
  have lE:=Nfq M S;have bk:∀x∈RP M S,0<=x.time/\x.time<=1051898399:=fun x hx=>by
   obtain ⟨z,hz,rfl⟩:=Yj.mp hx;have bx:=hS.2 z hz;have:=Njb (M:=M) bx;unfold RA UE at bx;simp only;omega
  rw [b9] at hQ;generalize RP M S=EV at *;clear bd;have sE:=hO.sl NT;simp only [n48,h0,h6,ND,F,SB,seval,NL,NH,reduceCtorEq];obtain ⟨n,cx⟩:∃n,n=S.length:=⟨_,rfl⟩
  rw [<-cx] at lE h5 hn⊢;clear F hi;refine NP (S:=Nat×Option Addr×Option Addr×Nat×Nat) (fun s=>n-s.1) (fun s fr Gx=>s.1<=n/\fr 5=.slice ap n ac/\fr 9=.slice s.2.1 (Sw [] [] (EV.take s.1)).1.reverse.length s.2.2.2.1/\fr 10=.slice s.2.2.1 (Sw [] [] (EV.take s.1)).2.reverse.length s.2.2.2.2/\fr 11=Vi s.1/\
    ETw G (Sw [] [] (EV.take s.1)).1.reverse (Sw [] [] (EV.take s.1)).2.reverse s.2.1 s.2.2.1 s.2.2.2.1 s.2.2.2.2 Gx) (0,none,none,0,0)
   ⟨Np _,h5,(by simp only [P2,Sw,List.reverse_nil,Nn,FB,Nat.reduceEqDiff]),(by simp only [P2,Sw,List.reverse_nil,Nn,FB,Nat.reduceEqDiff]),by rfl,⟨.inl ⟨rfl,rfl,rfl⟩,.inl ⟨rfl,rfl,rfl⟩,(fun a b h=>(by cases h)),Chg.refl.app⟩⟩ ?_
  rintro ⟨j,kp,tp,kc,tc⟩ db Gx ⟨hj,k5,k9,N,ai,W⟩ aw;simp only at hj k9 N ai W;rw [NU N8p.eq_1];refine NJ ?_;by_cases bn:j<n
  case neg=>
   obtain rfl:j=n:=by omega
   rw [Oc (by omega)] at k9 N W;simp only [n48,k5,k9,N,ai,ND,bn,SB,seval,NL,NH,NC];exact hQ Gx kp kc tp tc ⟨W.ao.le (by omega),W.bo.le (by omega),W.ne,(au.trans hC).trans W.chg⟩
  have f:=Ms (gt EV j) (EV.take j) [] [];rw [show EV.take j++[gt EV j]=EV.take (j+1) by rw [Nv (by omega),OQ (by omega)]] at f;have o:=Nbe (EV.take j) [] [];have ad:=fun y=>(Nbd (EV.take j) [] [] (y:=y)).1
  rw [N5] at o;simp only [Nn,Nx] at o;generalize Sw [] [] (EV.take j)=A at *;obtain ⟨A1,A2⟩:=A;simp only at f o ad k9 N W;obtain ⟨K,rfl⟩:∃K,A1=List.reverse K:=⟨A1.reverse,(List.reverse_reverse _).symm⟩
  obtain ⟨T,rfl⟩:∃T,A2=List.reverse T:=⟨A2.reverse,(List.reverse_reverse _).symm⟩
  rw [List.reverse_reverse] at k9 N W;rw [List.reverse_reverse] at W;rw [List.length_reverse,List.length_reverse] at o;have cd:∀y∈K,y∈EV:=fun y hy=>by
   rcases ad y (List.mem_reverse.mpr hy) with h | h
   ·cases h
   ·exact Rf h
  have ab:j<EV.length:=by omega
  have de:=bk _ (PM ab);have dj:=W.chg.sl sE (fun a _ _ h=>(by cases h));have c6:IntKind.i64.wrap ((K.length:Int)-1)=(K.length:Int)-1:=NR (by omega) (by omega);have a3:IntKind.i64.wrap ((j:Int)+1)=((j+1:Nat):Int):=OC (by omega);generalize he:gt EV j=e at *;simp only [n48,k5,k9,ai,ND,bn,c6,SB,seval,NL,NH];rw [Na];refine NP (fun b=>b) (fun b fr V=>b<=K.length/\fr 5=.slice ap n ac/\fr 9=.slice kp K.length kc/\fr 10=.slice tp T.length tc/\fr 11=Vi j/\fr 12=.bool false/\fr 13=Vi ((b:Int)-1)/\ETw G K T kp tp kc tc V/\∀D,b<=D->D<K.length->RD (gt K D)≠RD e) K.length
   ⟨Nf _,k5,k9,N,ai,rfl,rfl,W,fun D h1 h2=>absurd h2 (by omega)⟩ ?_
  rintro b b0 V ⟨hb,J,m9,U,r,ak,t,m,ay⟩ av;rw [NU N8q.eq_1];refine NJ ?_;have al:=m.chg.sl sE (fun a _ _ h=>(by cases h));have aj:=fun X=>(al.app X).loadCells NT ab
  have O:=fun X=>(al.app X).loadSub NT ab (j:=0) (n:=6) (by decide)
  have a7:=fun X=>(al.app X).loadCell NT ab (show 6<7 by decide)
  have I:=fun c (kk:IntKind) (H1:NA)=>al.idx (c:=c) (k:=kk) (H1:=H1) ab
  rw [lE] at I;simp only [he,On,Uf] at aj O a7;have da:=f;by_cases cj:b=0
  ·subst cj;have htw:=Nya (e:=e) (K:=K) (fun D h=>ay D (Np _) h);rw [htw,Ng (by decide)] at f;obtain ⟨G6,e6,u⟩:=m.stepX (lim:=lim) (by omega) (by omega) e [];simp only [Nn,Pd,Og] at e6 u;replace t:b0 13=Vi (-1):=t;simp only [n48,J,m9,r,ak,t,aj,I,NT,a3,NI,e6,SB,seval,NL,NH,place];refine aw (j+1,Sa (V.length+1),tp,loose 7,tc) _ _ ⟨by simp only;omega,J,(by simp only [f,List.reverse_cons,List.reverse_reverse,Nk,Nm,Nn,Nx,FB,Nat.reduceEqDiff]),(by simp only [U,f,List.reverse_reverse,FB,Nat.reduceEqDiff]),rfl,by simp only;rw [f,Na];simp only [List.reverse_cons,List.reverse_reverse];exact u⟩ (by simp only;omega)
  ·have ck:((b:Int)-1)=((b-1:Nat):Int):=by omega
   rw [ck] at t;have aa:b-1<K.length:=by omega
   have a0:IntKind.i64.wrap (((b-1:Nat):Int)-1)=((b-1:Nat):Int)-1:=NR (by omega) (by omega);have sK:=m.ao.sl NT;have P:=fun X=>(sK.app X).loadSub NT aa (j:=0) (n:=6) (by decide)
   have bz:=fun X=>(sK.app X).loadCell NT aa (show 6<7 by decide)
   have ag:=fun c (kk:IntKind) (H1:NA)=>sK.idx (c:=c) (k:=kk) (H1:=H1) aa
   have hy:=bk _ (cd _ (PM aa));have ae:RD (gt K (b-1))≠RD e->∀D,b-1<=D->D<K.length->RD (gt K D)≠RD e:=fun h D h1 h2=>by
    rcases (by omega:D=b-1\/b<=D) with rfl | h3
    ·exact h
    ·exact ay D h3 h2
   have htw:RD (gt K (b-1))=RD e->Uz e K.reverse=decide (e.time-(gt K (b-1)).time<=10):=fun h=>Nyb aa (fun D h1 h2=>ay D (by omega) h2) h
   generalize dg:gt K (b-1)=y at *;have wd:IntKind.i64.wrap (e.time-y.time)=e.time-y.time:=NR (by omega) (by omega);simp only [On,Uf] at P;have w:(0:Int)<=((b-1:Nat):Int):=Int.natCast_nonneg _;have v:lim<=V.length:=by have:=m.chg.len;omega
   have key:RD y=RD e↔y.item=e.item/\y.place=e.place/\y.kind=e.kind:=by unfold RD;simp
   by_cases c1:y.item=e.item
   case neg=>
    simp only [n48,J,m9,r,t,O,I,OL,TZ,NI,w,a0,P,ag,v,Nc c1,SB,seval,NL,NH,place,NB];exact av (b-1) _ _ ⟨by omega,J,m9,U,r,ak,rfl,m.app _,ae fun h=>c1 (key.mp h).1⟩ (by omega)
   by_cases c2:y.place=e.place
   case neg=>
    simp only [n48,J,m9,r,t,O,I,OL,TZ,Tn,NI,w,a0,P,ag,v,Nh c1,Nc c2,SB,seval,NL,NH,place,NB];exact av (b-1) _ _ ⟨by omega,J,m9,U,r,ak,rfl,m.app _,ae fun h=>c2 (key.mp h).2.1⟩ (by omega)
   by_cases c3:y.kind=e.kind
   case neg=>
    simp only [n48,J,m9,r,t,O,I,OL,TZ,Tn,UO,NI,w,a0,P,ag,v,Nh c1,Nh c2,Nc c3,SB,seval,NL,NH,place,NB];exact av (b-1) _ _ ⟨by omega,J,m9,U,r,ak,rfl,m.app _,ae fun h=>c3 (key.mp h).2.2⟩ (by omega)
   rw [htw (key.mpr ⟨c1,c2,c3⟩)] at f;by_cases c4:e.time-y.time<=10
   ·rw [Nj c4,Nl rfl] at f;obtain ⟨G6,e6,u⟩:=m.flip.stepX (lim:=lim) (by omega) (by omega) e [Vc (encN y),Vc (encN e)];simp only [Nm,Nn,Nx,Nat.reduceAdd,Ox,Og,Pq] at e6 u;simp only [n48,J,m9,U,r,t,aj,O,a7,I,NT,QX,OL,TZ,Tn,UO,a3,NI,w,P,bz,ag,wd,v,Nh c1,Nh c2,Nh c3,c4,e6,SB,seval,NL,NH,place,NB];refine aw (j+1,kp,Sa (V.length+3),kc,loose 7) _ _ ⟨by simp only;omega,J,(by simp only [m9,f,List.reverse_reverse,FB,Nat.reduceEqDiff]),(by simp only [f,List.reverse_cons,List.reverse_reverse,Nk,Nm,Nn,Nx,FB,Nat.reduceEqDiff]),rfl,by simp only;rw [f,Na];simp only [List.reverse_cons,List.reverse_reverse];exact u.flip⟩ (by simp only;omega)
   ·rw [Nw c4,Ng (by decide)] at f;obtain ⟨G6,e6,u⟩:=m.stepX (lim:=lim) (by omega) (by omega) e [Vc (encN y),Vc (encN e)];simp only [Nm,Nn,Nx,Nat.reduceAdd,Ox,Og,Pq] at e6 u;simp only [n48,J,m9,r,t,aj,O,a7,I,NT,QX,OL,TZ,Tn,UO,a3,NI,w,P,bz,ag,wd,v,Nh c1,Nh c2,Nh c3,c4,e6,SB,seval,NL,NH,place,NB];refine aw (j+1,Sa (V.length+3),tp,loose 7,tc) _ _ ⟨by simp only;omega,J,(by simp only [f,List.reverse_cons,List.reverse_reverse,Nk,Nm,Nn,Nx,FB,Nat.reduceEqDiff]),(by simp only [U,f,List.reverse_reverse,FB,Nat.reduceEqDiff]),rfl,by simp only;rw [f,Na];simp only [List.reverse_cons,List.reverse_reverse];exact u⟩ (by simp only;omega)
theorem Nn3 (x:Ev):aEq (.agg [.int .i64,.int .i64,.int .i64,.int .u8,.int .i64,.int .i64]) (.agg (encN x).toArray) (.agg (encN x).toArray)=some true:=by
 simp [aEq,encN,PH,SQ]
def Ne5 (i:Nat):Ev:=⟨8000024+(i:Int),0,0,0,0,0,0⟩
def TA:List Ev:=(List.range 12).map Ne5
theorem Vn:TA.length=12:=by simp [TA]
theorem Nh3 {i:Nat} (h:i<12):gt TA i=Ne5 i:=by
 rw [OQ (by rw [Vn];exact h)];simp [TA]
theorem Ns3 [OB] {lim:Nat} {i:Nat} (hi:i<1000) :
  NQ E mp lim 42 [Vi 1,Vi i] H Q=Q (.agg (encN (Ne5 i)).toArray) H:=by
 have w1:IntKind.i64.wrap (1+7)=8:=by decide
 have w2:IntKind.i64.wrap (1000003*8)=8000024:=by decide
 have a:IntKind.i64.wrap (8000024+(i:Int))=8000024+(i:Int):=NR (by omega) (by omega);have hm:∀(mp:Bool) (lim:Nat) (H:NA) (Q:Value->NA->Prop),NQ E mp lim 78 [Vi 1,Vi i] H Q=Q (Vi (8000024+(i:Int))) H:=fun mp lim H Q=>by
  refine pc (by decide) rfl rfl rfl ?_;rw [b78,c78];simp only [n78,w1,w2,a,SB,Nat.reduceLT,NL,Nat.reduceEqDiff,NH,reduceCtorEq,NG,NC]
 refine pc (by decide) rfl rfl rfl ?_;rw [b42,c42];simp only [n42,hm,SB,Nat.reduceLT,NF,NL,Nat.reduceEqDiff,reduceCtorEq,NG,place,NB,Nat.reduceAdd,NC];rfl
theorem Nfx {k:Nat} (hc:n<=c) (h2:c<2 ^ 62) (h:k<=c):TN e (.slice (Sa R) n c) none (some (Vi k)) none=some (.slice (Sa R) k c):=by
 have a:bounds unV n c none (some (.const (Vi k))) none=some (0,k,c):=by
  have:=Zo (len:=n) (cap:=c) (k1:=.i64) (h:=(k:Int)) (by omega) (by omega);rw [N1] at this;exact this
 unfold TN TH;simp only [Ny,Oo];rw [Ng (by unfold loose;omega),Nl h2,a];simp only [addr_add,Qi,Pd,Nat.sub_zero,ite_self]
theorem N56 [OB] {lim:Nat} {p:Option Addr} (hs:Sl H encN 6 p S) (hn:S.length<=2010) (hl:lim<=H.length)
  (O:∀G,NE G H.length=Vc ((S++TA).flatMap encN)->Chg [] H G->Q (.slice (Sa H.length) S.length (S.length+12)) (G++[])) :
  NQ E false lim 20 [.slice p S.length c] H Q:=by
 refine QN (by decide) rfl rfl ?_;rw [b20,c20];have C:IntKind.i64.wrap ((S.length:Int)+12)=((S.length+12:Nat):Int):=by rw [NR (by omega) (by omega)];omega
 have u:((S.length+12:Nat):Int)*48<=2 ^ 45:=by omega
 have v:((S.length+12:Nat):Int)<2 ^ 62:=by omega
 have y:(0:Int)<=((S.length+12:Nat):Int):=by omega
 have m:∀z:List Value,z.length=(S.length+12)*6->∃G1 K,K.length=12*6/\NE G1 H.length=Vc (S.flatMap encN++K)/\Chg [] H G1/\
   OP lim none 6 48 false (.slice (Sa H.length) 0 (S.length+12)) (.slice p S.length c) (H++[Vc z])=some (.slice (Sa H.length) S.length (S.length+12),G1++[]):=fun z d=>by
  have:=Yw (lim:=lim) (R:=H.length) (bytes:=48) (cap:=S.length+12) (k:=c) (enc:=encN) (old:=[]) (l:=S) (rest:=z) OL (by decide) (hs.app [Vc z]) (by rw [NN];rfl) hl (by simp) (by rw [d];simp) (by omega) (by unfold OX;simp;omega);rw [Nn,Nx,Og] at this;refine ⟨_,z.drop (S.length*6),by rw [O2,d];omega, ?_, ?_,by rw [Na];exact this⟩
  ·exact Rv (by simp)
  ·exact Chg.refl.app.set (.inr (Nf _))
 simp only [n20,C,u,v,y,N1,Q3,SB,Nat.reduceLT,NL,Nat.reduceEqDiff,NH,reduceCtorEq,NG,place,Nat.reduceAdd,Int.reduceLE];obtain ⟨G1,z,d,t,s,e1⟩:=m ((List.range ((S.length+12)*6)).map fun j=>[Value.int .i64 0,Vi 0,Vi 0,.int .u8 0,Vi 0,Vi 0].getD (j % 6) undef) (by rw [Nz,Pe]);simp only [n20,e1,SB,Nat.reduceLT,NL];refine NP (fun i=>12-i) (fun i fr G=>i<=12/\fr 0=.slice p S.length c/\fr 3=.slice (Sa H.length) (S.length+i) (S.length+12)/\fr 4=Vi i/\(∃z,z.length=(12-i)*6/\NE G H.length=Vc ((S++TA.take i).flatMap encN++z))/\Chg [] H G) 0
  ⟨Np _,rfl,(by simp only [Pd,FB,Nat.reduceEqDiff]),by rfl,⟨z,d,by rw [P2,Na,Na];exact t⟩,s.app⟩ ?_
 rintro i fr G ⟨hi,D,F,I,⟨z,d,o⟩,r⟩ hN;rw [NU N87.eq_1];refine NJ ?_;have N:=r.len;have f:=NM o;by_cases h:i<12
 ·have L:(i:Int)<12:=by omega
  have A:IntKind.i64.wrap ((i:Int)+1)=((i+1:Nat):Int):=OC (by omega);have w:=fun (mp:Bool) (lim:Nat) (H:NA) (Q:Value->NA->Prop)=>Ns3 (mp:=mp) (lim:=lim) (H:=H) (Q:=Q) (by omega:i<1000)
  have q:(S++TA.take i).length=S.length+i:=by rw [Nk,N5,Vn];omega
  obtain ⟨P,e3,M,J⟩:=OO (G:=G) (R:=H.length) f (Vc ((((S++TA.take i)++[Ne5 i]).flatMap encN)++z.drop 6));have a:=Yx (lim:=lim) (R:=H.length) (bytes:=48) (cap:=S.length+12) (k:=1) (b:=G.length) (dest:=none) (H:=G++[Vc (encN (Ne5 i))]) (enc:=encN) (old:=S++TA.take i) (x:=Ne5 i) (ro:=false) (rest:=z) OL (by decide)
   (by rw [NN];rfl) (by rw [NS f];exact o) hl (by rw [q];omega) (by rw [q,d];congr 1;omega) (by omega) (by rw [q];unfold OX;omega)
  rw [q,e3] at a;simp only [n20,F,I,Nh L,w,OL,A,a,SB,Nat.reduceLT,NF,NL,Nat.reduceEqDiff,NH,place,Nat.reduceAdd];refine hN (i+1) _ _ ⟨by omega,D,(by simp only [FB,Nat.reduceEqDiff]),rfl,⟨z.drop 6,by rw [O2,d];omega, ?_⟩,(r.mut J (.inr (Nf _))).app⟩ (by omega);rw [NS (by rw [J.len];exact f),M,No S,<-Nh3 h,OQ (by rw [Vn];exact h),<-Nv]
 ·obtain rfl:i=12:=by omega
  have B:z=[]:=List.length_eq_zero_iff.mp d;rw [B,Na,Oc (by rw [Vn];exact Nf _)] at o;have g:=Nfx (e:=6) (R:=H.length) (n:=S.length+12) (k:=S.length) (c:=S.length+12) (Nf _) (by omega) (by omega);simp only [n20,r20,D,F,I,g,SB,Nat.reduceLT,NL,Nat.reduceEqDiff,NH,reduceCtorEq,NC,Int.reduceLT];exact O G o r
theorem N6a [OB] {lim:Nat} {p:Option Addr} (hs:Sl H encN 6 p S) (hn:S.length<=2010) (y:NE H R=Vc ((S++TA).flatMap encN)) :
  NQ E mp lim 22 [.slice (Sa R) S.length (S.length+12),.slice p S.length c] H Q=Q (.bool true) H:=by
 refine pc (by decide) rfl rfl rfl ?_;rw [b22,c22];have w:IntKind.i64.wrap ((S.length:Int)+12)=((S.length+12:Nat):Int):=by rw [NR (by omega) (by omega)];omega
 have h:=Nfx (e:=6) (R:=R) (n:=S.length) (k:=S.length+12) (c:=S.length+12) (by omega) (by omega) (Nf _);simp only [n22,w,h,SB,Nat.reduceLT,NL,Nat.reduceEqDiff,NH,reduceCtorEq,NG];have z:(S++TA).length=S.length+12:=by rw [Nk,Vn]
 have x:Sl H encN 6 (Sa R) (S++TA):=Sl.row OL y;refine NP (fun i=>S.length+12-i) (fun i fr G=>i<=S.length+12/\fr 1=.slice p S.length c/\fr 5=.slice (Sa R) (S.length+12) (S.length+12)/\fr 6=Vi i/\G=H) 0
  ⟨Np _,rfl,rfl,by rfl,by simp⟩ ?_
 rintro i fr G ⟨hi,o,g,q,rfl⟩ hN;rw [NU N86.eq_1];refine NJ ?_;by_cases d:i<S.length+12
 case neg=>
  simp only [n22,g,q,ND,d,SB,Nat.reduceLT,NL,Nat.reduceEqDiff,NH,NC]
 have m:IntKind.i64.wrap ((i:Int)+1)=((i+1:Nat):Int):=OC (by omega);have b:=fun X=>(x.app X).loadCells OL (by omega:i<(S++TA).length)
 have f:=fun c (k:IntKind) (H1:NA)=>x.idx (c:=c) (k:=k) (H1:=H1) (by omega:i<(S++TA).length)
 rw [z] at f;by_cases a:i<S.length
 ·have v:=fun X=>(hs.app X).loadCells OL a
  have u:=fun c (k:IntKind) (H1:NA)=>hs.idx (c:=c) (k:=k) (H1:=H1) a
  rw [UM a] at b;have c2:¬S.length<=i:=by omega
  simp only [n22,o,g,q,ND,d,a,b,f,v,u,Nn3,m,TU,c2,SB,Nat.reduceLT,NL,Nat.reduceEqDiff,NH,RN];exact hN (i+1) _ _ ⟨by omega,o,g,rfl,by simp⟩ (by omega)
 ·have j:IntKind.i64.wrap ((i:Int)-(S.length:Int))=((i-S.length:Nat):Int):=by rw [NR (by omega) (by omega)];omega
  have t:=fun (mp:Bool) (lim:Nat) (H:NA) (Q:Value->NA->Prop)=>Ns3 (mp:=mp) (lim:=lim) (H:=H) (Q:=Q) (by omega:i-S.length<1000)
  have s:gt (S++TA) i=Ne5 (i-S.length):=by
   have:=Xb (l:=S) (r:=TA) (i:=i-S.length);rw [show S.length+(i-S.length)=i by omega,Nh3 (by omega)] at this;exact this
  rw [s] at b;have c2:S.length<=i:=by omega
  simp only [n22,o,g,q,ND,d,a,b,f,j,t,Nn3,m,TU,c2,SB,Nat.reduceLT,NF,NL,Nat.reduceEqDiff,NH,RN];exact hN (i+1) _ _ ⟨by omega,o,g,rfl,by simp⟩ (by omega)
end Go.Proofs.YtkppjkkkdpcgiaaGreat.Fn



namespace Go.Proofs.YtkppjkkkdpcgiaaGreat.Fn
open Go.AM Go.AM.Sym Go.Net Go.Scan
section
variable {lim n ce cq cr cl B:Nat} {pe q r pl:Option Addr} {ks:List Int} {ss:List Stp} {c:Int} {A:List An} {H:NA} {Q:Value->NA->Prop}
end
theorem N9i (S:List Ev) (item:Int):(Sz (OH S).2 item).length<=S.length:=by
 have h1:=(XX (OH S).2 item).length_le;have h2:=MQ S;omega
end Go.Proofs.YtkppjkkkdpcgiaaGreat.Fn



namespace Go.Scan
section
variable {item:Int}
end
end Go.Scan



namespace Go.Proofs.YtkppjkkkdpcgiaaGreat.Fn
open Go.AM Go.AM.Sym Go.Net Go.Scan
variable {d:Ev} {c cp cl j:Nat} {es K:List Ev} {Q:Value->NA->Prop} {ss:List Stp} {H:NA} {pp pl:Option Addr} {L:List Leg} {W:List (Int×Int×Int)} {mp:Bool} {P:List Int} {item:Int}
theorem XJ [OB] (h:OA.on 18=true) {lim:Nat}:NQ E mp lim 18 [] H Q=Q (.bool true) H:=
 Nxs (E:=E) (by simp [E,orc,h]) rfl rfl
structure F7 (p r2 sp:Option Addr) (n m s ca cm sc B:Nat) (item now:Int) (fr:Nat->Value):Prop where
 f0:fr 0=.slice p n ca
 f2:fr 2=.slice r2 m cm
 f4:fr 4=.int .u8 item
 f5:fr 5=.int .u16 now
 f13:fr 13=Vp B
 f14:fr 14=.slice sp s sc
theorem eqE (x:Ev):aEq (.agg [.int .i64,.int .i64,.int .i64,.int .u8,.int .i64,.int .i64,.int .i64]) (.agg (encE x).toArray) (.agg (encE x).toArray)=some true:=by
 simp [aEq,encE,PH,SQ]
def evK (p t k:Int):Ev:=⟨7,p,p,k,t,t,0⟩
def Ofz (d t:Int):Int:=if t / 1440*1440+d*5<t then t / 1440+1 else t / 1440
def tmC (ds:List Int) (mn:Int):Nat->Int
 | 0=>14400
 | i+1=>Ofz (gt ds i) (tmC ds mn i)*1440+gt ds i*5+(1+mn)
def lgC (ds:List Int) (mn:Int) (i:Nat):Leg:=⟨(i:Int)+1,(i:Int)+1,(i:Int)+2,gt ds i*5,1+mn,0,1,127⟩
def Oc7 (ds:List Int) (mn:Int) (m:Nat):List Leg:=(List.range m).map (lgC ds mn)
def plC (m:Nat):List Int:=(List.range (m+1)).map fun (i:Nat)=>(i:Int)+1
def scC (ds:List Int) (mn:Int) (m:Nat):List Ev:=(List.range (m+1)).map fun (i:Nat)=>evK ((i:Int)+1) (tmC ds mn i) 1
section
variable {ds:List Int} {mn:Int} {m:Nat}
variable (hd:∀d∈ds,0<=d/\d<=255) (hm:0<=mn/\mn<=255)
include hd hm
end
section
variable {ds:List Int} {mn:Int} {m:Nat} (hd:∀d∈ds,0<=d/\d<=255) (hm:0<=mn/\mn<=255) (h5:ds.length<=5)
include hd hm h5
end
section
variable {P:List Int} {L:List Leg} {es:List Ev} {k:Nat} {now:Int}
end
section
variable {ds:List Int} {mn:Int} {m:Nat} (hd:∀d∈ds,0<=d/\d<=255) (hm:0<=mn/\mn<=255) (h5:ds.length<=5) (hk:m<=ds.length)
include hd hm h5 hk
end
section
variable {ds:List Int} {mn now:Int} {m:Nat} (hd:∀d∈ds,0<=d/\d<=255) (hm:0<=mn/\mn<=255) (h5:ds.length<=5) (hk:m<=ds.length)
include hd hm h5 hk
end
section
variable {ds:List Int} {mn now:Int} {m:Nat} (hd:∀d∈ds,0<=d/\d<=255) (hm:0<=mn/\mn<=255) (h5:ds.length<=5) (hk:m<=ds.length) (h1:1<=m)
include hd hm h5 hk h1
end
def Nky {α:Type} (lim:Nat) (G:NA) (enc:α->List Value) (e:Nat) (p:Option Addr) (cap:Nat) (l:List α):Prop:=Own lim G enc e p cap l\/∃R,p=Sa R/\cap=l.length/\NE G R=Vc (l.flatMap enc)/\lim<=R/\l≠[]
section
variable {α:Type} {lim lim' e bytes cap b d k:Nat} {G G':NA} {enc:α->List Value} {p:Option Addr} {l:List α}
theorem Nky.block (h:Nky lim G enc e p cap l) {a:Addr} (b:p=some a):lim<=a.block/\a.block<G.length:=by
 rcases h with h | ⟨R,h1,_,h2,c,_⟩
 ·exact h.block b
 ·rw [h1] at b;cases b;exact ⟨c,NM h2⟩
theorem Nky.sl (h:Nky lim G enc e p cap l) (he:∀x,(enc x).length=e):Sl G enc e p l:=by
 rcases h with h | ⟨R,rfl,_,h2,_,_⟩
 ·exact h.sl he
 ·exact Sl.row he h2
theorem Nky.step (h:Nky lim G enc e p cap l) (t:lim'<=lim) (he:∀x,(enc x).length=e) (q:e≠0) (o:(l.length+1)*bytes<=OX) (hn:l.length+1<2 ^ 61) :
  ∃G',G'.length=G.length/\(∀j,j∉YT p->NE G' j=NE G j)/\∀(X:NA) (b k:Nat) (x:α) (dest:Option Nat),NE (G++X) b=Vc (enc x)->OP lim' dest e bytes false (.slice p l.length cap) (.slice (Sa b) 1 k) (G++X)=some (.slice (Sa ((place dest (Vc ((l++[x]).flatMap enc)) (G'++X)).1)) (l.length+1) (loose e),(place dest (Vc ((l++[x]).flatMap enc)) (G'++X)).2):=by
 have h1:∀(X:NA) (b k:Nat) (x:α),NE (G++X) b=Vc (enc x)->firstCells (G++X) e false (.slice (Sa b) 1 k)=some ([x].flatMap enc):=fun X b k x d=>SH (m:=[x]) (Sl.row (ro:=false) he (by rw [d];simp))
 have h2:∀b k,lenOf (.slice (Sa b) 1 k)=some 1:=fun _ _=>rfl
 rcases h with (⟨rfl,rfl,rfl⟩ | ⟨R,rfl,rfl,f,n⟩) | ⟨R,rfl,rfl,f,n,h5⟩
 ·refine ⟨G,rfl,fun _ _=>rfl,fun X b k x dest d=>?_⟩;simp only [Nn,Nx] at o hn⊢;simp only [OP,h1 X b k x d,h2,Nat.one_ne_zero,if_false,Nx];rw [Ng (by omega)];simp
 ·have c:=NM f;have g:∀X,NE (G++X) R=Vc (l.flatMap enc):=fun X=>by rw [NS c];exact f
  have a:∀X,AM.loadCells (G++X) ⟨R,0,none⟩ (l.length*e)=some (l.flatMap enc):=fun X=>by
   simp only [PV,g,Nx,OW he,Nf,if_true,On];rw [Oc (by rw [OW he];exact Nf _)]
  refine ⟨G.set R .dead,by simp,fun j r=>QC (by simpa [YT] using r),fun X b k x dest d=>?_⟩;simp only [OP,h1 X b k x d,h2,a,g,Nat.one_ne_zero,if_false,if_true];rw [Ng (by unfold loose;omega)];simp [show lim'<=R by omega,Qj _ _ c]
 ·have c:=NM f;have a:∀X,AM.loadCells (G++X) ⟨R,0,none⟩ (l.length*e)=some (l.flatMap enc):=fun X=>by
   simp only [PV,NS c,f,Nx,OW he,Nf,if_true,On];rw [Oc (by rw [OW he];exact Nf _)]
  have i:¬l.length=loose e:=by unfold loose;omega
  have s:0<l.length:=List.length_pos_iff.2 h5;refine ⟨G,rfl,fun _ _=>rfl,fun X b k x dest d=>?_⟩;simp only [OP,h1 X b k x d,h2,a,i,Nat.one_ne_zero,if_false];rw [Ng (by omega),Nl (by omega),Ng (by omega)];simp
end
structure C8 (B7 bp bs cp cs cl:Nat) (pl:Option Addr) (dl:List Int) (mn:Int) (j:Nat) (M:Nat) (G:NA):Prop where
 k7:NE G B7=Vc [.slice (Sa bp) (j+1) cp,.slice pl j cl]
 hp:Nky M G encI 1 (Sa bp) cp (plC j)
 hL:Own M G encL 8 pl cl (Oc7 dl mn j)
 hs:Nky M G encN 6 (Sa bs) cs (scC dl mn j)
 n1:bp≠B7
 n2:bs≠B7
 n3:bp≠bs
 n4:∀a,pl=some a->a.block≠B7/\a.block≠bp/\a.block≠bs
 hM:M<=B7
theorem Nzn (hi:item≠0) (a:j<K.length):Sz (K.take (j+1)) item=if (gt K j).item=item then Sz (K.take j) item++[gt K j] else Sz (K.take j) item:=by
 unfold Sz;rw [Nv a,List.filter_append,OQ a];have b:(item == 0)=false:=by simpa using hi
 by_cases h:K[j].item=item
 ·rw [Nl h,Ou (by simp [h]),List.filter_nil]
 ·rw [Ng h,Ov (by simp [h,b]),List.filter_nil,Na]
theorem Nsv [OB] {lim:Nat} {p:Option Addr} (hs:Sl H encE 7 p K) (hn:K.length<4000) (hi:item≠0) (hl:lim<=H.length)
  (B:∀G q k,Chg [] H G->Own H.length G encE 7 q k (Sz K item)->Q (.slice q (Sz K item).length k) G):NQ E false lim 49 [.slice p K.length c,Vi item] H Q:=by
 refine QN (by decide) rfl rfl ?_;rw [b49,c49];simp only [n49,SB,seval,NL];refine NP (fun s:Nat×Option Addr×Nat=>K.length-s.1) (fun s fr G=>s.1<=K.length/\fr 0=.slice p K.length c/\fr 1=Vi item/\fr 5=.slice s.2.1 (Sz (K.take s.1) item).length s.2.2/\fr 6=Vi s.1/\Chg [] H G/\Own H.length G encE 7 s.2.1 s.2.2 (Sz (K.take s.1) item)) (0,none,0)
  ⟨Np _,rfl,rfl,rfl,by rfl,Chg.refl.app,.nil⟩ ?_
 rintro ⟨j,q,k⟩ fr G ⟨C,g,u,l,v,m,n⟩ hN;simp only at C l v n;rw [NU N8m.eq_1];refine NJ ?_;have w:=m.len;by_cases b:j<K.length
 case neg=>
  obtain rfl:j=K.length:=by omega
  rw [N9] at l n;simp only [n49,g,l,v,ND,b,SB,seval,NL,NH,reduceCtorEq,NC];exact B _ _ _ m.app (n.app _)
 have sK:=m.sl hs (fun a _ _ h=>(by cases h));have y:=fun X=>(sK.app X).loadCells NT b
 have r:∀X,AM.loadCell (G++X) (((Vs p 7 j).add 0).add 0)=some (Vi (gt K j).item):=fun X=>(sK.app X).loadCell (i:=j) (j:=0) NT b (by decide)
 have o:=fun c (k:IntKind) (H1:NA)=>sK.idx (c:=c) (k:=k) (H1:=H1) b
 have t:IntKind.i64.wrap ((j:Int)+1)=((j+1:Nat):Int):=OC (by omega);have d:=Nzn hi b;have D:(Sz (K.take j) item).length<=j:=by
  unfold Sz;refine Pt (Pn ..) ?_;rw [N5];omega
 have z:lim<=G.length:=by omega
 generalize F:gt K j=x at *;by_cases c1:x.item=item
 ·rw [Nl c1] at d;obtain ⟨G2,e2,e,f,_,A,_⟩:=n.step (lim':=lim) (bytes:=56) hl NT (by decide) x (by unfold OX;omega) (by omega) w [Vc (encE x)] G.length 1 (by rw [NN];rfl);simp only [Nm,Nn,Nx] at e2 e;simp only [n49,g,u,l,v,ND,b,o,y,r,NT,NI,t,Nh c1,e2,SB,seval,NL,NH,reduceCtorEq,place];exact hN (j+1,Sa (G.length+1),loose 7) _ _ ⟨by show j+1<=K.length;omega,g,u,by simp only [d,Nk,P0];exact rfl,rfl,f [] H (Nf _) m,by simp only [d];exact e⟩ (by show K.length-(j+1)<K.length-j;omega)
 ·rw [Ng c1] at d;simp only [n49,g,u,v,ND,b,o,r,t,Nc c1,SB,seval,NL,NH,reduceCtorEq];exact hN (j+1,q,k) _ _ ⟨by show j+1<=K.length;omega,g,u,by simp only [d];exact l,rfl,m.app,by simp only [d];exact n.app _⟩ (by show K.length-(j+1)<K.length-j;omega)
def Tu (es:List Ev) (d:Ev) (i:Nat):Prop:=((gt es i).place=d.place/\(gt es i).kind=d.kind)/\(gt es i).time<=d.time
instance (es:List Ev) (d:Ev) (i:Nat):Decidable (Tu es d i):=by unfold Tu;infer_instance
def U2 (es:List Ev) (d:Ev) (k:Nat):Bool:=(List.range es.length).all fun i=>decide (¬((i=k/\¬Tu es d i)\/(k<i/\Tu es d i)))
theorem N3l [OB] {lim k:Nat} {p:Option Addr} (hs:Sl H encE 7 p es) (hn:es.length<4000) (hk:k<4000) :
  NQ E mp lim 52 [.slice p es.length c,.agg (encE d).toArray,Vi k] H Q=Q (.bool (U2 es d k)) H:=by
 refine pc (by decide) rfl rfl rfl ?_;rw [b52,c52];simp only [n52,SB,seval,NL,NG,place,NB];refine NP (fun j=>es.length-j) (fun j fr G=>j<=es.length/\fr 0=.slice p es.length c/\fr 2=Vi k/\fr 4=Vp H.length/\fr 7=Vi j/\OD (H++[Vc (encE d)]) G/\∀i,i<j->¬((i=k/\¬Tu es d i)\/(k<i/\Tu es d i))) 0
  ⟨Np _,rfl,rfl,rfl,by rfl,OD.refl,fun i hi=>absurd hi (Nat.not_lt_zero _)⟩ ?_
 intro j fr G ⟨C,l,m,n,s,w,z⟩ hN;rw [NU N8l.eq_1];refine NJ ?_;by_cases a:j<es.length
 case neg=>
  obtain rfl:j=es.length:=by omega
  have B:U2 es d k=true:=N7.2 fun i hi=>Nj (z i (List.mem_range.1 hi))
  rw [B];simp only [n52,l,s,ND,a,SB,seval,NL,NH,reduceCtorEq,NC]
 have sK:=w.sl (hs.app _);have u:∀X,AM.loadCell (G++X) (((Vs p 7 j).add 0).add 1)=some (Vi (gt es j).place):=fun X=>(sK.app X).loadCell (i:=j) (j:=1) NT a (by decide)
 have y:∀X,AM.loadCell (G++X) (((Vs p 7 j).add 0).add 3)=some (.int .u8 (gt es j).kind):=fun X=>(sK.app X).loadCell (i:=j) (j:=3) NT a (by decide)
 have A:∀X,AM.loadCell (G++X) ((Vs p 7 j).add 6)=some (Vi (gt es j).time):=fun X=>(sK.app X).loadCell (i:=j) (j:=6) NT a (by decide)
 have g:=fun c (k:IntKind) (H1:NA)=>sK.idx (c:=c) (k:=k) (H1:=H1) a
 have v:=zc (w.cells (b:=H.length) (ro:=false) (c:=encE d) (by rw [NN];rfl));have o:IntKind.i64.wrap ((j:Int)+1)=((j+1:Nat):Int):=OC (by omega);have x:((j=k/\¬Tu es d j)\/(k<j/\Tu es d j))->U2 es d k=false:=fun h=>List.all_eq_false.2 ⟨j,List.mem_range.2 a,fun h'=>Ri h' h⟩
 have f:¬((j=k/\¬Tu es d j)\/(k<j/\Tu es d j))->∀i,i<j+1->¬((i=k/\¬Tu es d i)\/(k<i/\Tu es d i)):=fun h i hi=>by
  by_cases e:i=j
  ·subst e;exact h
  ·exact z i (by omega)
 have t:((j:Int)=(k:Int))=(j=k):=by rw [eq_iff_iff];omega
 have el:((k:Int)<(j:Int))=(k<j):=by rw [eq_iff_iff];omega
 by_cases c4:k<j
 ·have q:¬j=k:=by omega
  by_cases c1:(gt es j).place=d.place
  case neg=>
   have hL:¬Tu es d j:=fun h=>c1 h.1.1
   simp only [n52,l,m,n,s,ND,a,g,u,v,QU,o,t,el,Nh c4,Nc q,Nc c1,SB,seval,NL,NH,reduceCtorEq];exact hN (j+1) _ _ ⟨by omega,l,m,n,rfl,w.trans OD.refl.app,f (by rintro (⟨h1,h2⟩ | ⟨h1,h2⟩)<;>first | omega | exact h2 hL | exact hL h2)⟩ (by omega)
  by_cases c2:(gt es j).kind=d.kind
  case neg=>
   have hL:¬Tu es d j:=fun h=>c2 h.1.2
   simp only [n52,l,m,n,s,ND,a,g,u,y,v,QU,QY,o,t,el,Nh c4,Nc q,Nh c1,Nc c2,SB,seval,NL,NH,reduceCtorEq];exact hN (j+1) _ _ ⟨by omega,l,m,n,rfl,w.trans OD.refl.app,f (by rintro (⟨h1,h2⟩ | ⟨h1,h2⟩)<;>first | omega | exact h2 hL | exact hL h2)⟩ (by omega)
  by_cases r:(gt es j).time<=d.time
  case neg=>
   have hL:¬Tu es d j:=fun h=>r h.2
   simp only [n52,l,m,n,s,ND,a,g,u,y,A,v,QU,QY,QX,o,t,el,Nh c4,Nc q,Nh c1,Nh c2,Nc r,SB,seval,NL,NH,reduceCtorEq];exact hN (j+1) _ _ ⟨by omega,l,m,n,rfl,w.trans OD.refl.app,f (by rintro (⟨h1,h2⟩ | ⟨h1,h2⟩)<;>first | omega | exact h2 hL | exact hL h2)⟩ (by omega)
  have hL:Tu es d j:=⟨⟨c1,c2⟩,r⟩
  rw [x (.inr ⟨c4,hL⟩)];simp only [n52,l,m,n,s,ND,a,g,u,y,A,v,QU,QY,QX,t,el,Nh c4,Nc q,Nh c1,Nh c2,Nh r,SB,seval,NL,NH,reduceCtorEq,NC]
 by_cases q:j=k
 ·by_cases c1:(gt es j).place=d.place
  case neg=>
   have hL:¬Tu es d j:=fun h=>c1 h.1.1
   rw [x (.inl ⟨q,hL⟩)];simp only [n52,l,m,n,s,ND,a,g,u,v,QU,t,Nh q,Nc c1,SB,seval,NL,NH,RN,reduceCtorEq,NC]
  by_cases c2:(gt es j).kind=d.kind
  case neg=>
   have hL:¬Tu es d j:=fun h=>c2 h.1.2
   rw [x (.inl ⟨q,hL⟩)];simp only [n52,l,m,n,s,ND,a,g,u,y,v,QU,QY,t,Nh q,Nh c1,Nc c2,SB,seval,NL,NH,RN,reduceCtorEq,NC]
  by_cases r:(gt es j).time<=d.time
  case neg=>
   have hL:¬Tu es d j:=fun h=>r h.2
   rw [x (.inl ⟨q,hL⟩)];simp only [n52,l,m,n,s,ND,a,g,u,y,A,v,QU,QY,QX,t,Nh q,Nh c1,Nh c2,Nc r,SB,seval,NL,NH,RN,reduceCtorEq,NC]
  have hL:Tu es d j:=⟨⟨c1,c2⟩,r⟩
  simp only [n52,l,m,n,s,ND,a,g,u,y,A,v,QU,QY,QX,o,t,el,Nc c4,Nh q,Nh c1,Nh c2,Nh r,SB,seval,NL,NH,RN,reduceCtorEq];exact hN (j+1) _ _ ⟨by omega,l,m,n,rfl,w.trans OD.refl.app,f (by rintro (⟨h1,h2⟩ | ⟨h1,h2⟩)<;>first | omega | exact h2 hL | exact hL h2)⟩ (by omega)
 ·by_cases c1:(gt es j).place=d.place
  case neg=>
   have hL:¬Tu es d j:=fun h=>c1 h.1.1
   simp only [n52,l,m,n,s,ND,a,g,u,v,QU,o,t,el,Nc c4,Nc q,Nc c1,SB,seval,NL,NH,reduceCtorEq];exact hN (j+1) _ _ ⟨by omega,l,m,n,rfl,w.trans OD.refl.app,f (by rintro (⟨h1,h2⟩ | ⟨h1,h2⟩)<;>first | omega | exact h2 hL | exact hL h2)⟩ (by omega)
  by_cases c2:(gt es j).kind=d.kind
  case neg=>
   have hL:¬Tu es d j:=fun h=>c2 h.1.2
   simp only [n52,l,m,n,s,ND,a,g,u,y,v,QU,QY,o,t,el,Nc c4,Nc q,Nh c1,Nc c2,SB,seval,NL,NH,reduceCtorEq];exact hN (j+1) _ _ ⟨by omega,l,m,n,rfl,w.trans OD.refl.app,f (by rintro (⟨h1,h2⟩ | ⟨h1,h2⟩)<;>first | omega | exact h2 hL | exact hL h2)⟩ (by omega)
  by_cases r:(gt es j).time<=d.time
  case neg=>
   have hL:¬Tu es d j:=fun h=>r h.2
   simp only [n52,l,m,n,s,ND,a,g,u,y,A,v,QU,QY,QX,o,t,el,Nc c4,Nc q,Nh c1,Nh c2,Nc r,SB,seval,NL,NH,reduceCtorEq];exact hN (j+1) _ _ ⟨by omega,l,m,n,rfl,w.trans OD.refl.app,f (by rintro (⟨h1,h2⟩ | ⟨h1,h2⟩)<;>first | omega | exact h2 hL | exact hL h2)⟩ (by omega)
  have hL:Tu es d j:=⟨⟨c1,c2⟩,r⟩
  simp only [n52,l,m,n,s,ND,a,g,u,y,A,v,QU,QY,QX,o,t,el,Nc c4,Nc q,Nh c1,Nh c2,Nh r,SB,seval,NL,NH,reduceCtorEq];exact hN (j+1) _ _ ⟨by omega,l,m,n,rfl,w.trans OD.refl.app,f (by rintro (⟨h1,h2⟩ | ⟨h1,h2⟩)<;>first | omega | exact h2 hL | exact hL h2)⟩ (by omega)
theorem Nnx:∀{L:List Leg},L.Pairwise (fun a b=>a.id≠b.id)->∀{x:Leg},x∈L->L.filter (fun l=>decide (l.id=x.id))=[x]
 | [],_,_,hx=>by cases hx
 | a::l,h,x,hx=>by
   rw [List.pairwise_cons] at h;rcases Ns.1 hx with rfl | hx
   ·rw [Ou (by simp),List.filter_eq_nil_iff.2 (fun y c=>by simpa using fun e=>h.1 y c e.symm)]
   ·rw [Ov (by simpa using h.1 x hx),Nnx h.2 hx]
theorem Won.len {p q t:Int} {w:List (Leg×Int)} (h:Won P L p q t w):w.length<=50:=by
 obtain ⟨he,v,g,k,a⟩:=h;obtain ⟨h1,hp,i,j,_⟩:=VN he;obtain ⟨d,e,f,b,c⟩:=Na5 (RS h1) hp _ _ a.way.way;have:=a.few d e c b;have:=(Sg h1).1;omega
theorem N2v {d:Int} (h:j<L.length):((L.take (j+1)).filter fun l=>decide (l.id=d)).map (·.dst)=if (gt L j).id=d then ((L.take j).filter fun l=>decide (l.id=d)).map (·.dst)++[(gt L j).dst] else ((L.take j).filter fun l=>decide (l.id=d)).map (·.dst):=by
 rw [Nv h,List.filter_append,<-OQ h];by_cases a:(gt L j).id=d
 ·rw [Nl a,Ou (by simpa using a),List.filter_nil,O7];rfl
 ·rw [Ng a,Ov (by simpa using a),List.filter_nil,Na]
theorem N6i [OB] {lim B M i cr:Nat} {r:Option Addr} {A:List Int} {q:Option Addr} {k:Nat} {G0 G:NA} {fr:Nat->Value} {K:List AItem} (hn:NetIn G0 pp pl P L) (hL:L.length<=200) (k4:NE G0 B=Vc (netV pp P.length cp pl L.length cl)) (sw:Sl G0 enc3 3 r W) (hi:i<W.length) (hA:A.length<=50) (hl:lim<=M) (hM:G0.length=M)
  (f4:fr 4=Vp B) (f9:fr 9=.slice q A.length k) (f10:fr 10=.slice r W.length cr) (f12:fr 12=Vi i) (f13:fr 13=Vi ((0:Nat):Int)) (f:Chg [] G0 G) (n:Own M G encI 1 q k A)
  (I:∀fr' G' q' k',Chg [] G0 G'->Own M G' encI 1 q' k' (A++(L.filter fun l=>decide (l.id=(gt W i).1)).map (·.dst))->(∀t,t<13->t≠9->fr' t=fr t)->fr' 9=.slice q' (A++(L.filter fun l=>decide (l.id=(gt W i).1)).map (·.dst)).length k'->PT E a51 lim K fr' G' Q) :
  PT E a51 lim (.code (.loop N0w)::.inBlock 2::K) fr G Q:=by
 obtain ⟨D,hD⟩:∃D:Nat->List Int,D=fun j=>((L.take j).filter fun l=>decide (l.id=(gt W i).1)).map (·.dst):=⟨_,rfl⟩
 have e:∀j,D j=((L.take j).filter fun l=>decide (l.id=(gt W i).1)).map (·.dst):=fun j=>by rw [hD]
 have v:A++D 0=A:=by rw [e];simp
 have z:D L.length=(L.filter fun l=>decide (l.id=(gt W i).1)).map (·.dst):=by rw [e,N9]
 have C:∀j,j<=L.length->(D j).length<=j:=fun j J=>by
  rw [e,Nz];refine Pt (Pn ..) ?_;rw [N5];omega
 rw [<-z] at I;refine NP (fun s:Nat×Option Addr×Nat=>L.length-s.1) (fun s fr' G=>s.1<=L.length/\(∀t,t<13->t≠9->fr' t=fr t)/\fr' 9=.slice s.2.1 (A++D s.1).length s.2.2/\fr' 13=Vi s.1/\Chg [] G0 G/\Own M G encI 1 s.2.1 s.2.2 (A++D s.1)) (0,q,k)
  ⟨Np _,fun _ _ _=>rfl,by rw [v];exact f9,f13,f,by rw [v];exact n⟩ ?_
 clear f n;clear G;rintro ⟨j,q,k⟩ fr' G ⟨J,keep,x,g,f,n⟩ hN;simp only at J x g n;rw [NU N0w.eq_1];refine NJ ?_;have aa:=f.len;have H:=zc (f.cells k4 (by simp));have y:=(keep 4 (by decide) (by decide)).trans f4;have p:=(keep 10 (by decide) (by decide)).trans f10;have u:=(keep 12 (by decide) (by decide)).trans f12;by_cases b:j<L.length
 case neg=>
  obtain rfl:j=L.length:=by omega
  simp only [n51,y,g,H,QE,ND,b,SB,seval,NL,NH];exact I _ _ q k f.app (n.app _) (fun t h1 h2=>by simp only [upd];repeat (first | rw [Ng (by omega)] | exact keep t h1 h2)) x
 have F:=f.sl hn.sl (fun a _ _ h=>(by cases h));have V:=f.sl sw (fun a _ _ h=>(by cases h));have Z:∀X,AM.loadCell (G++X) ((Vs pl 8 j).add 0)=some (Vi (gt L j).id):=fun X=>(F.app X).loadCell (i:=j) (j:=0) NZ b (by decide)
 have v2:∀X,AM.loadCell (G++X) ((Vs pl 8 j).add 2)=some (Vi (gt L j).dst):=fun X=>(F.app X).loadCell (i:=j) (j:=2) NZ b (by decide)
 have Y:∀X,AM.loadCell (G++X) ((Vs r 3 i).add 0)=some (Vi (gt W i).1):=fun X=>(V.app X).loadCell (i:=i) (j:=0) OU hi (by decide)
 have T:=fun c (k:IntKind) (H1:NA)=>F.idx (c:=c) (k:=k) (H1:=H1) b
 have S:=fun c (k:IntKind) (H1:NA)=>V.idx (c:=c) (k:=k) (H1:=H1) hi
 have w:IntKind.i64.wrap ((j:Int)+1)=((j+1:Nat):Int):=OC (by omega);have d:A++D (j+1)=if (gt L j).id=(gt W i).1 then (A++D j)++[(gt L j).dst] else A++D j:=by
  rw [e (j+1),N2v b,<-e j];split
  ·rw [No]
  ·rfl
 have R:(A++D j).length<=250:=by rw [Nk];have:=C j (by omega);omega
 have N:lim<=G.length:=by omega
 generalize A++D j=O at *;by_cases c1:(gt L j).id=(gt W i).1
 ·rw [Nl c1] at d;obtain ⟨G2,e2,m,o,_,U,_⟩:=n.step (lim':=lim) (bytes:=8) hl OT (by decide) (gt L j).dst (by unfold OX;omega) (by omega) (by omega) [Vc [Vi (gt L j).dst]] G.length 1 (by rw [NN];rfl);simp only [Nm,Nn,Nx] at e2 m;simp only [n51,y,x,p,u,g,H,QE,ND,b,Z,v2,Y,T,S,w,Nh c1,e2,SB,seval,NL,NH,place];exact hN (j+1,Sa (G.length+1),loose 1) _ _ ⟨by show j+1<=L.length;omega,fun t h1 h2=>by simp only [upd];repeat (first | rw [Ng (by omega)] | exact keep t h1 h2),by simp only [d,Nk,P0];exact rfl,rfl,o [] G0 (Nat.le_of_eq hM) f,by simp only [d];exact m⟩ (by show L.length-(j+1)<L.length-j;omega)
 ·rw [Ng c1] at d;simp only [n51,y,p,u,g,H,QE,ND,b,Z,Y,T,S,w,Nc c1,SB,seval,NL,NH];exact hN (j+1,q,k) _ _ ⟨by show j+1<=L.length;omega,fun t h1 h2=>by simp only [upd];repeat (first | rw [Ng (by omega)] | exact keep t h1 h2),by simp only [d];exact x,rfl,f.app,by simp only [d];exact n.app _⟩ (by show L.length-(j+1)<L.length-j;omega)
theorem Npp [OB] {lim:Nat} {p q' ready:Int} (hn:NetIn H pp pl P L) (hl:lim<=H.length)
  (R:∀G q k,Chg [] H G->Own H.length G encI 1 q k ((WW P L p q' ready).dropLast.map fun x=>x.1.dst)->(WW P L p q' ready).length<=50->Q (.slice q ((WW P L p q' ready).dropLast.map fun x=>x.1.dst).length k) G) :
  NQ E false lim 51 [.agg (netV pp P.length cp pl L.length cl).toArray,Vi p,Vi q',Vi ready] H Q:=by
 refine QN (by decide) rfl rfl ?_;rw [b51,c51];simp only [n51,OG,NK,SB,seval,NF,NL,NG,place,NB];have m:∀(fr:Nat->Value) (G:NA),fr 9=Vz->fr 10=Vz->fr 12=Vi 0->Chg [] H G->WW P L p q' ready=[]->PT E a51 lim [.code (.loop Nta),.inBlock 0,.code ((ACode.ops [mT 57 9,mT 8 57]).seq .ret)] fr G Q:=fun fr G f9 f10 f12 n C=>by
  have h:=R G none 0 n (by rw [C];exact .nil) (by rw [C];exact Np _);rw [C] at h;have h:Q Vz G:=h;refine NP (fun _=>0) (fun _ fr' G'=>fr' 9=Vz/\fr' 10=Vz/\fr' 12=Vi 0/\G'=G) () ⟨f9,f10,f12,rfl⟩ ?_;rintro _ fr' G' ⟨D,e,f,rfl⟩ hN;rw [NU Nta.eq_1];refine NJ ?_;have w1:IntKind.i64.wrap (-1)=-1:=by decide
  simp only [n51,D,e,f,w1,SB,seval,NL,NH,NC];rw [Na];exact h
 refine N7m (lim:=lim) (hn.app _) (by simp;omega) (fun G he n=>?_) (fun G he h1 n=>?_) (fun G v w r c he n h0 hv C hO=>?_)
 ·refine NJ ?_;simp only [n51,SB,seval,NL];exact m _ _ rfl rfl rfl n.pre.app (Nk4 he)
 ·refine NJ ?_;simp only [n51,SB,seval,NL];exact m _ _ rfl rfl rfl n.pre.app (Nhg h1)
 have t:Won P L p q' ready w:=⟨he,v,h0,hv,C⟩
 have ad:=t.len;rw [YG t] at R;have F:=Sg (VN he).1;have y:=F.2.1;have K:=Xx F.2.2.2;have O:=Nbt C.way;have k4:=n.cells (j:=H.length) (NN (X:=[Vc (netV pp P.length cp pl L.length cl)])) (by simp);have Z:=(hn.app [Vc (netV pp P.length cp pl L.length cl)]).sim fun b ro x hb=>n.cells hb (by simp)
 have sw:=hO.sl OU;have U:=n.len;simp at U;refine NJ ?_;simp only [n51,SB,seval,NL];have d:(w.map Sk).length=w.length:=Nz ..;refine NP (fun s:Nat×Option Addr×Nat=>w.length-s.1) (fun s fr G'=>s.1<=w.length-1/\fr 4=Vp H.length/\fr 10=.slice r (w.map Sk).length c/\fr 9=.slice s.2.1 s.1 s.2.2/\fr 12=Vi s.1/\Chg [] G G'/\Own G.length G' encI 1 s.2.1 s.2.2 ((w.take s.1).map fun x=>x.1.dst)) (0,none,0)
  ⟨Np _,rfl,by rw [d];exact rfl,rfl,by rfl,Chg.refl.app,.nil⟩ ?_
 rintro ⟨j,q,k⟩ fr G' ⟨hj,g4,e,D,f,u,z⟩ hN;simp only at hj D f z;rw [NU Nta.eq_1];refine NJ ?_;have ag:=u.len;have w1:IntKind.i64.wrap ((w.length:Int)-1)=(w.length:Int)-1:=NR (by omega) (by omega);have B:((w.take j).map fun x=>x.1.dst).length=j:=by rw [Nz,N5];omega
 by_cases N:(j:Int)<(w.length:Int)-1
 case neg=>
  have hd:w.dropLast=w.take j:=by rw [List.dropLast_eq_take];congr 1;omega
  rw [hd,B] at R;rw [d] at e;simp only [n51,D,e,f,w1,Nc N,SB,seval,NL,NH,NC];exact R _ q k (n.pre.trans u).app ((z.le (by omega)).app _) ad
 have a:j<w.length:=by omega
 have V:(gt (w.map Sk) j).1=(gt w j).1.id:=by rw [OQ (by rw [d];exact a),Qw,<-OQ a];rfl
 have J:L.filter (fun l=>decide (l.id=(gt (w.map Sk) j).1))=[(gt w j).1]:=by rw [V];exact Nnx K (O _ (PM a))
 have o:=e;rw [d] at o;simp only [n51,o,f,w1,Nh N,SB,seval,NL,NH];refine N6i (G0:=G) (M:=G.length) (W:=w.map Sk) (i:=j) (A:=(w.take j).map fun x=>x.1.dst) (q:=q) (k:=k) Z y k4 sw (by rw [d];exact a) (by rw [B];omega) (by omega) rfl g4 (by rw [B];exact D) e f rfl u.app (z.app _) fun ae G2 q2 k2 T I g f9=>?_
 have aa:((w.take j).map fun x=>x.1.dst)++(L.filter fun l=>decide (l.id=(gt (w.map Sk) j).1)).map (·.dst)=(w.take (j+1)).map fun x=>x.1.dst:=by
  rw [J,Nv a,O7,OQ a];rfl
 rw [aa] at I f9;have ab:IntKind.i64.wrap ((j:Int)+1)=((j+1:Nat):Int):=OC (by omega);have S:=(g 12 (by decide) (by decide)).trans f;refine NJ ?_;simp only [n51,S,ab,SB,seval,NL,NH];have Y:((w.take (j+1)).map fun x=>x.1.dst).length=j+1:=by rw [Nz,N5];omega
 rw [Y] at f9;exact hN (j+1,q2,k2) _ _ ⟨by show j+1<=w.length-1;omega,(by simp only [g 4 (by decide) (by decide),g4,FB,Nat.reduceEqDiff]),(by simp only [g 10 (by decide) (by decide),e,FB,Nat.reduceEqDiff]),f9,rfl,T.app,I.app _⟩ (by show w.length-(j+1)<w.length-j;omega)
theorem Nxa {k:Nat} (hr:Yz es) (hk:k<es.length) (hd:d.time<=NV):U2 es d k=true↔atE es d k:=by
 unfold U2;rw [N7];constructor
 ·intro h;have a:Tu es d k:=Om fun hn=>Ri (h k (List.mem_range.2 hk)) (.inl ⟨rfl,hn⟩)
  refine ⟨⟨a.1.1.symm,a.1.2.symm⟩,a.2,Nm1 hd fun y c hl=>?_⟩;obtain ⟨j,h1,h2,rfl⟩:=Nmt c;apply Om;intro hn;refine Ri (h j (List.mem_range.2 h2)) (.inr ⟨h1,⟨hl.1.trans a.1.1,hl.2.trans a.1.2⟩,by omega⟩)
 ·intro ⟨h1,h2,e⟩ i hi;have hi:=List.mem_range.1 hi;refine Nj ?_;rintro (⟨rfl,hn⟩ | ⟨b,hl⟩)
  ·exact hn ⟨⟨h1.1.symm,h1.2.symm⟩,h2⟩
  ·have:=Nm0 (x:=gt es k) (y:=gt es i) (hr.sublist (List.drop_sublist _ _)) (Nnk b hi) ⟨hl.1.1.trans h1.1,hl.1.2.trans h1.2⟩;have:=hl.2;omega
theorem Nc1:∀{ss:List Stp},Na3 ss->∀{s:Stp},s∈ss->ss.filter (fun x=>decide (x.2.1=s.2.1))=[s]
 | [],_,_,hx=>by cases hx
 | a::l,h,x,hx=>by
   unfold Na3 at h;rw [List.pairwise_cons] at h;rcases Ns.1 hx with rfl | hx
   ·rw [Ou (by simp),List.filter_eq_nil_iff.2 (fun y b=>by simpa using fun e=>h.1 y b e.symm)]
   ·rw [Ov (by simpa using h.1 x hx),Nc1 h.2 hx]
theorem Nym {n:Nat} (h:∀s∈ss,Uk n s) (hd:Na3 ss) {i:Nat} (hi:i<n) (f:Stp->List An) :
  (ss.filter fun s=>decide (s.2.1=(i:Int))).flatMap f=if (gt (toN n ss) i).1<(gt (toN n ss) i).2.1 then f (gt (toN n ss) i) else []:=by
 by_cases he:∃s∈ss,s.2.1=(i:Int)
 ·obtain ⟨s,hs,e⟩:=he;have h1:=Nyf h hd hs;have h2:=h s hs;rw [e,N1] at h1;rw [h1,Nl h2.2.1,<-e,Nc1 hd hs];simp
 ·have hn:∀s∈ss,s.2.1≠(i:Int):=fun s hs e=>he ⟨s,hs,e⟩
  rw [Nye h hi hn,Ng (by decide),List.filter_eq_nil_iff.2 fun s hs=>by simpa using hn s hs];rfl
noncomputable def atR (P:List Int) (L:List Leg) (es tw:List Ev) (ks:List Int) (ss:List Stp) (i:Nat):List An:=
 (if (i:Int)∈ks then [] else [⟨1,(i:Int),0,(gt es i).place,0⟩])++((ss.filter fun s=>decide (s.2.1=(i:Int))).flatMap (Ru P L es)++(tw.filter fun d=>U2 es d i).map (Ym (gt es i) i))
theorem Obu {tw:List Ev} {ks:List Int} (hk:∀k∈ks,0<=k/\k<es.length) (h:∀s∈ss,Uk es.length s) (hd:Na3 ss) (hr:Yz es) (a:∀d∈tw,d.time<=NV) {i:Nat} (hi:i<es.length):atR P L es tw ks ss i=atN P L es tw ks ss i:=by
 unfold atR atN;rw [Nym h hd hi,N1s hk hi];congr 1
 ·by_cases hm:(i:Int)∈ks
  ·rw [Nl hm,Nl (Nj hm)]
  ·rw [Ng hm,Ng (by simpa using hm)]
 ·congr 1;unfold R9;congr 1;refine List.filter_congr fun d hd=>?_
  rw [Qt,Nxa hr hi (a d hd),decide_eq_true_iff];rfl
def R8 (a:An):List Value:=[Vi a.kind,Vi a.ev,Vi a.other,Vi a.place,Vi a.mins]
theorem X9 (a:An):(R8 a).length=5:=id rfl
section
variable {lim B4 B8 B13 cp cL ce cq cr ct:Nat} {pp pL pe q r pt:Option Addr} {P:List Int} {L:List Leg} {es tw:List Ev} {ks:List Int} {ss:List Stp} {c now item:Int} {G0 G:NA} {pl:Option Addr} {cl:Nat} {A:List An} {fr:Nat->Value} {K:List AItem} {Q:Value->NA->Prop}
structure D24 (lim B4 B8 B13 cp cL ce cq cr ct:Nat) (pp pL pe q r pt:Option Addr) (P:List Int) (L:List Leg) (es tw:List Ev) (ks:List Int) (ss:List Stp) (G0:NA):Prop where
 hN:NetIn G0 pp pL P L
 k4:NE G0 B4=Vc (netV pp P.length cp pL L.length cL)
 k8:NE G0 B8=Vc [Vz,Vz,Vz,Vi 0,Vz]
 sE:Sl G0 encE 7 pe es
 sK:Sl G0 encI 1 q ks
 sS:Sl G0 enc3 3 r ss
 sT:Sl G0 encE 7 pt tw
 n4:B4≠B13
 n8:B8≠B13
 nP:∀a,pp=some a->P≠[]->a.block≠B13
 nL:∀a,pL=some a->L≠[]->a.block≠B13
 nE:∀a,pe=some a->a.block≠B13
 nK:∀a,q=some a->a.block≠B13
 nS:∀a,r=some a->a.block≠B13
 nT:∀a,pt=some a->a.block≠B13
 lB:lim<=B13
 l8:lim<=B8
 bl:B13<G0.length
 le:es.length<=40
 lt:tw.length<=60
 lk:ks.length<=40
 ls:ss.length<=40
 hks:∀k∈ks,0<=k/\k<es.length
 hss:∀s∈ss,Uk es.length s
 te:TI es
 tt:TI tw
structure S24 (B13 ce cq cr:Nat) (pe q r:Option Addr) (es:List Ev) (ks:List Int) (ss:List Stp) (c:Int) (G0 G:NA) (pl:Option Addr) (cl:Nat) (A:List An):Prop where
 chg:Chg [B13] G0 G
 k13:NE G B13=Vc [.slice pe es.length ce,.slice q ks.length cq,.slice r ss.length cr,Vi c,.slice pl A.length cl]
 own:Own G0.length G R8 5 pl cl A
theorem S24.app (S:S24 B13 ce cq cr pe q r es ks ss c G0 G pl cl A) (X:NA):S24 B13 ce cq cr pe q r es ks ss c G0 (G++X) pl cl A:=⟨S.chg.app,(OD.refl.app).cells S.k13,S.own.app X⟩
theorem S24.push (D:D24 lim B4 B8 B13 cp cL ce cq cr ct pp pL pe q r pt P L es tw ks ss G0) (S:S24 B13 ce cq cr pe q r es ks ss c G0 G pl cl A) (o:A.length<=1000000) :
  ∃(G1:NA) (G2:Nat->NA),G1.length=G.length/\(∀R,(G2 R).length=G.length)/\
   (∀(X:NA) (b k:Nat) (a:An) (dest:Option Nat),NE (G++X) b=Vc (R8 a)->OP lim dest 5 40 false (.slice pl A.length cl) (.slice (Sa b) 1 k) (G++X)=some (.slice (Sa ((place dest (Vc ((A++[a]).flatMap R8)) (G1++X)).1)) (A.length+1) (loose 5),(place dest (Vc ((A++[a]).flatMap R8)) (G1++X)).2))/\
   (∀X,NE (G1++X) B13=Vc [.slice pe es.length ce,.slice q ks.length cq,.slice r ss.length cr,Vi c,.slice pl A.length cl])/\
   (∀R X,(G1++X).set B13 (Vc [.slice pe es.length ce,.slice q ks.length cq,.slice r ss.length cr,Vi c,.slice (Sa R) (A.length+1) (loose 5)])=G2 R++X)/\
   (∀R Y a,NE (G2 R++Y) R=Vc ((A++[a]).flatMap R8)->G0.length<=R->S24 B13 ce cq cr pe q r es ks ss c G0 (G2 R++Y) (Sa R) (loose 5) (A++[a]))/\
   (∀R Y,Chg (B13::YT pl) G (G2 R++Y)):=by
 have hl:=S.chg.len;have l:Nky G0.length G R8 5 pl cl A:=.inl S.own;obtain ⟨G1,d,i,e1⟩:=l.step (lim':=lim) (bytes:=40) (by have:=D.lB;have:=D.bl;omega) X9 (by decide) (by unfold OX;omega) (by omega);have h:∀a,pl=some a->G0.length<=a.block/\a.block<G.length:=fun a n=>S.own.block n
 have f:∀j,j<G0.length->j∉YT pl:=fun j g hm=>by
  cases hpe:pl with
  | none=>rw [hpe] at hm;cases hm
  | some a=>rw [hpe] at hm;have:=(h a hpe).1;simp [YT] at hm;omega
 have k1:NE G1 B13=_:=(i _ (f _ D.bl)).trans S.k13;have hB:=NM k1;have key:∀R,∃G',(∀X:NA,(G1++X).set B13 (Vc [.slice pe es.length ce,.slice q ks.length cq,.slice r ss.length cr,Vi c,.slice (Sa R) (A.length+1) (loose 5)])=G'++X)/\NE G' B13=Vc [.slice pe es.length ce,.slice q ks.length cq,.slice r ss.length cr,Vi c,.slice (Sa R) (A.length+1) (loose 5)]/\Mut G1 G' B13:=fun R=>OO hB _
 refine ⟨G1,fun R=>(key R).choose,d,fun R=>?_,e1,zc k1,fun R=>(key R).choose_spec.1,fun R Y a m hM=>?_,fun R Y=>?_⟩
 ·rw [(key R).choose_spec.2.2.len,d]
 ·obtain ⟨_,h2,e⟩:=(key R).choose_spec;refine ⟨Chg.app ⟨by rw [e.len,d];exact hl,fun j g hm=>?_⟩,(OD.refl.app).cells (by rw [h2,Nk];rfl),Own.new m hM⟩;rw [e.other j (by simpa using hm),i j (f j g)];exact S.chg.other j g hm
 ·obtain ⟨_,h2,e⟩:=(key R).choose_spec;refine Chg.app ⟨by rw [e.len,d];exact Nf _,fun j g hm=>?_⟩;rw [Ns,not_or] at hm;rw [e.other j hm.1,i j hm.2]
theorem N4w [OB] (D:D24 lim B4 B8 B13 cp cL ce cq cr ct pp pL pe q r pt P L es tw ks ss G0) (S:S24 B13 ce cq cr pe q r es ks ss c G0 G pl cl A) {i:Nat} (hi:i<es.length) (f13:fr 13=Vp B13) (f14:fr 14=Vi i) (v:fr 16=.bool true) (w:fr 17=Vi ((0:Nat):Int))
  (z:∀fr' G',OD G G'->(∀t,t<16->fr' t=fr t)->fr' 16=.bool (decide ((i:Int)∉ks))->PT E a24 lim K fr' G' Q):PT E a24 lim (.code (.loop N03)::.inBlock 2::K) fr G Q:=by
 refine NP (fun j=>ks.length-j) (fun j fr' G'=>j<=ks.length/\(∀t,t<16->fr' t=fr t)/\fr' 16=.bool (decide ((i:Int)∉ks.take j))/\fr' 17=Vi j/\OD G G') 0
  ⟨Np _,fun _ _=>rfl,by rw [v];rfl,w,OD.refl⟩ ?_
 intro j fr' G' ⟨C,keep,g,l,o⟩ hN;rw [NU N03.eq_1];refine NJ ?_;have m:=zc (o.cells S.k13);have f:=(keep 13 (by decide)).trans f13;have n:=(keep 14 (by decide)).trans f14;have u:IntKind.i64.wrap ((j:Int)+1)=((j+1:Nat):Int):=OC (by have:=D.lk;omega);by_cases d:j<ks.length
 case neg=>
  obtain rfl:j=ks.length:=by omega
  rw [N9] at g;simp only [n24,f,l,m,ND,d,SB,seval,NL,NH];exact z _ _ (o.trans OD.refl.app) (fun t s=>by simp only [upd];repeat (first | rw [Ng (by omega)] | exact keep t s)) g
 have sK:=o.sl (S.chg.sl D.sK (fun a B _=>by simpa using D.nK a B));have y:=fun X=>S9 sK d X
 have x:=fun c (k:IntKind) (H1:NA)=>sK.idx (c:=c) (k:=k) (H1:=H1) d
 have p:((i:Int)∉ks.take (j+1))↔((i:Int)∉ks.take j/\gt ks j≠(i:Int)):=by
  rw [Nv d,<-OQ d,Ok,Nq,not_or,eq_comm (a:=(i:Int)) (b:=gt ks j)]
 by_cases c1:gt ks j=(i:Int)
 ·simp only [n24,f,n,l,m,ND,d,y,x,u,Nh c1,SB,seval,NL,NH];exact hN (j+1) _ _ ⟨by omega,(fun t s=>by simp only [upd];repeat (first | rw [Ng (by omega)] | exact keep t s)),by rw [Nw (fun h=>(p.1 h).2 c1)];exact rfl,rfl,o.trans OD.refl.app⟩ (by omega)
 ·have e:decide ((i:Int)∉ks.take (j+1))=decide ((i:Int)∉ks.take j):=by rw [decide_eq_decide,p];exact ⟨fun h=>h.1,fun h=>⟨h,c1⟩⟩
  simp only [n24,f,n,l,m,ND,d,y,x,u,Nc c1,SB,seval,NL,NH];exact hN (j+1) _ _ ⟨by omega,(fun t s=>by simp only [upd];repeat (first | rw [Ng (by omega)] | exact keep t s)),by rw [e];exact g,rfl,o.trans OD.refl.app⟩ (by omega)
end
section
variable {lim B4 B8 B13 cp cL ce cq cr ct:Nat} {pp pL pe q r pt:Option Addr} {P:List Int} {L:List Leg} {es tw:List Ev} {ks:List Int} {ss:List Stp} {c now item:Int} {G0 G:NA} {pl:Option Addr} {cl:Nat} {A:List An} {fr:Nat->Value} {K:List AItem} {Q:Value->NA->Prop}
theorem Odq [OB] (D:D24 lim B4 B8 B13 cp cL ce cq cr ct pp pL pe q r pt P L es tw ks ss G0) (S:S24 B13 ce cq cr pe q r es ks ss c G0 G pl cl A) (hA:A.length<=900000) {i:Nat} (hi:i<es.length)
  (f12:fr 12=.slice pt tw.length ct) (f13:fr 13=Vp B13) (f14:fr 14=Vi i) (z:fr 15=Vi (gt es i).place) (B:fr 23=Vi ((0:Nat):Int))
  (V:∀fr' G' pl' cl',S24 B13 ce cq cr pe q r es ks ss c G0 G' pl' cl' (A++(tw.filter fun d=>U2 es d i).map (Ym (gt es i) i))->(∀t,t<23->fr' t=fr t)->PT E a24 lim K fr' G' Q):PT E a24 lim (.code (.loop Ntc)::.inBlock 8::K) fr G Q:=by
 obtain ⟨T,hT⟩:∃T:Nat->List An,T=fun j=>((tw.take j).filter fun d=>U2 es d i).map (Ym (gt es i) i):=⟨_,rfl⟩
 have g:∀j,T j=((tw.take j).filter fun d=>U2 es d i).map (Ym (gt es i) i):=fun j=>by rw [hT]
 have F:A++T 0=A:=by rw [g];simp
 have H:T tw.length=(tw.filter fun d=>U2 es d i).map (Ym (gt es i) i):=by rw [g,N9]
 have I:∀j,(T j).length<=60:=fun j=>by
  rw [g,Nz];refine Pt (Pn ..) ?_;rw [N5];have:=D.lt;omega
 rw [<-H] at V;refine NP (fun s:Nat×Option Addr×Nat=>tw.length-s.1) (fun s fr' G=>s.1<=tw.length/\(∀t,t<23->fr' t=fr t)/\fr' 23=Vi s.1/\S24 B13 ce cq cr pe q r es ks ss c G0 G s.2.1 s.2.2 (A++T s.1)) (0,pl,cl)
  ⟨Np _,fun _ _=>rfl,B,by rw [F];exact S⟩ ?_
 clear S;rintro ⟨j,pl,cl⟩ fr' G ⟨hj,keep,h,S⟩ hN;simp only at hj h S;rw [NU Ntc.eq_1];refine NJ ?_;have p:=zc S.k13;have m:=(keep 12 (by decide)).trans f12;have u:=(keep 13 (by decide)).trans f13;have v:=(keep 14 (by decide)).trans f14;have C:=(keep 15 (by decide)).trans z;have y:IntKind.i64.wrap ((j:Int)+1)=((j+1:Nat):Int):=OC (by have:=D.lt;omega);by_cases e:j<tw.length
 case neg=>
  obtain rfl:j=tw.length:=by omega
  simp only [n24,m,h,ND,e,SB,seval,NL,NH];exact V _ _ pl cl (S.app _) fun t x=>by simp only [upd];repeat (first | rw [Ng (by omega)] | exact keep t x)
 have sT:=S.chg.sl D.sT (fun a J _=>by simpa using D.nT a J);have sE:=S.chg.sl D.sE (fun a J _=>by simpa using D.nE a J);have Z:=fun X=>(sT.app X).loadCells NT e
 have Y:=fun c (k:IntKind) (H1:NA)=>sT.idx (c:=c) (k:=k) (H1:=H1) e
 have iE:=fun c (k:IntKind) (H1:NA)=>sE.idx (c:=c) (k:=k) (H1:=H1) hi
 have v6:∀X,AM.loadCell (G++X) ((Vs pt 7 j).add 6)=some (Vi (gt tw j).time):=fun X=>(sT.app X).loadCell (i:=j) (j:=6) NT e (by decide)
 have u6:∀X,AM.loadCell (G++X) ((Vs pe 7 i).add 6)=some (Vi (gt es i).time):=fun X=>(sE.app X).loadCell (i:=i) (j:=6) NT hi (by decide)
 have n:=fun X (mp:Bool) (lim:Nat) (Q:Value->NA->Prop)=>N3l (mp:=mp) (lim:=lim) (c:=ce) (k:=i) (d:=gt tw j) (Q:=Q) (sE.app X) (by have:=D.le;omega) (by have:=D.le;omega)
 have t1:=D.tt _ (PM e);have t2:=D.te _ (PM hi);unfold NV at t1 t2;have w2:IntKind.i64.wrap ((gt tw j).time-(gt es i).time)=(gt tw j).time-(gt es i).time:=NR (by omega) (by omega);have f:A++T (j+1)=if U2 es (gt tw j) i=true then (A++T j)++[Ym (gt es i) i (gt tw j)] else A++T j:=by
  rw [g (j+1),Nv e,List.filter_append,<-OQ e,O7,<-g j];by_cases o:U2 es (gt tw j) i=true
  ·rw [Nl o,Ou (by simpa using o),List.filter_nil,No];rfl
  ·rw [Ng o,Ov (by simpa using o),List.filter_nil,List.map_nil,Na]
 have w:(A++T j).length<=1000000:=by rw [Nk];have:=I j;omega
 obtain ⟨O,hO⟩:∃O,A++T j=O:=⟨_,rfl⟩
 rw [hO] at f w S p;have hl:=S.chg.len;have aa:lim<=G.length:=by have:=D.lB;have:=D.bl;omega
 have R:=D.lB;obtain ⟨b,o⟩:∃b,U2 es (gt tw j) i=b:=⟨_,rfl⟩
 rw [o] at f;rw [o] at n;cases b
 ·rw [Ng (by decide)] at f;simp only [n24,m,u,v,h,p,ND,e,Z,Y,n,y,SB,seval,NF,NL,NH];exact hN (j+1,pl,cl) _ _ ⟨by show j+1<=tw.length;omega,fun t x=>by simp only [upd];repeat (first | rw [Ng (by omega)] | exact keep t x),rfl,by simp only [f];exact S.app _⟩ (by show tw.length-(j+1)<tw.length-j;omega)
 ·rw [Nl rfl] at f;obtain ⟨G1,G2,M,N,e1,x1,e2,fin,U⟩:=S.push D w;have ea:R8 (Ym (gt es i) i (gt tw j))=[Vi 6,Vi i,Vi 0,Vi (gt es i).place,Vi ((gt tw j).time-(gt es i).time)]:=rfl;have l:=e1 [Vc (R8 (Ym (gt es i) i (gt tw j))),.dead] G.length 1 (Ym (gt es i) i (gt tw j)) (some (G.length+1)) (by rw [NN];rfl);have W:=fin (G.length+1) [Vc (R8 (Ym (gt es i) i (gt tw j))),Vc ((O++[Ym (gt es i) i (gt tw j)]).flatMap R8)] (Ym (gt es i) i (gt tw j)) ((Ue (N (G.length+1))).2.1 _ 1) (by omega);rw [ea] at l W;simp only [place] at l;simp only [n24,m,u,v,C,h,p,ND,e,Z,Y,iE,v6,u6,n,y,w2,R,l,x1,e2,Ue M,SB,seval,NF,NL,NH,place,NB];exact hN (j+1,Sa (G.length+1),loose 5) _ _ ⟨by show j+1<=tw.length;omega,fun t x=>by simp only [upd];repeat (first | rw [Ng (by omega)] | exact keep t x),rfl,by simp only [f];exact W⟩ (by show tw.length-(j+1)<tw.length-j;omega)
theorem Ny6 [OB] (D:D24 lim B4 B8 B13 cp cL ce cq cr ct pp pL pe q r pt P L es tw ks ss G0) (S:S24 B13 ce cq cr pe q r es ks ss c G0 G pl cl A) (hA:A.length<=900000) {i B19 cm:Nat} {pm:Option Addr} {M:List Int} {s:Stp} {G9:NA} (n:Chg (B13::YT pl) G9 G) (hp:∀a,pl=some a->a.block<G9.length) (ae:NE G9 B19=Vc (enc3 s)) (R:B19∉B13::YT pl) (sM:Sl G9 encI 1 pm M) (nM:∀a,pm=some a->a.block∉B13::YT pl) (hM:M.length<=60)
  (f13:fr 13=Vp B13) (f14:fr 14=Vi i) (C:fr 19=Vp B19) (F:fr 21=.slice pm M.length cm) (H:fr 22=Vi ((0:Nat):Int))
  (hR:∀fr' G' pl' cl',S24 B13 ce cq cr pe q r es ks ss c G0 G' pl' cl' (A++M.map fun x=>(⟨5,(i:Int),s.1,x,0⟩:An))->(∀t,t<19->fr' t=fr t)->PT E a24 lim K fr' G' Q):PT E a24 lim (.code (.loop N04)::.inBlock 6::K) fr G Q:=by
 obtain ⟨T,hT⟩:∃T:Nat->List An,T=fun j=>(M.take j).map fun x=>(⟨5,(i:Int),s.1,x,0⟩:An):=⟨_,rfl⟩
 have e:∀j,T j=(M.take j).map fun x=>(⟨5,(i:Int),s.1,x,0⟩:An):=fun j=>by rw [hT]
 have U:A++T 0=A:=by rw [e];simp
 have V:T M.length=M.map fun x=>(⟨5,(i:Int),s.1,x,0⟩:An):=by rw [e,N9]
 have W:∀j,(T j).length<=60:=fun j=>by
  rw [e,Nz,N5];omega
 rw [<-V] at hR;refine NP (fun s:Nat×Option Addr×Nat=>M.length-s.1) (fun s fr' G=>s.1<=M.length/\(∀t,t<22->fr' t=fr t)/\fr' 22=Vi s.1/\Chg (B13::YT pl) G9 G/\(∀a,s.2.1=some a->a.block∈YT pl\/G9.length<=a.block)/\S24 B13 ce cq cr pe q r es ks ss c G0 G s.2.1 s.2.2 (A++T s.1)) (0,pl,cl)
  ⟨Np _,fun _ _=>rfl,H,n,fun a f=>by have f:pl=some a:=f;exact .inl (by rw [f];simp [YT]),by rw [U];exact S⟩ ?_
 clear S n;rintro ⟨j,pl',cl'⟩ fr' G ⟨hj,keep,m,n,g,S⟩ hN;simp only at hj m S g;rw [NU N04.eq_1];refine NJ ?_;have z:=zc S.k13;have I:=(keep 13 (by decide)).trans f13;have J:=(keep 14 (by decide)).trans f14;have N:=(keep 19 (by decide)).trans C;have u:=(keep 21 (by decide)).trans F;have ad:IntKind.i64.wrap ((j:Int)+1)=((j+1:Nat):Int):=OC (by omega);by_cases d:j<M.length
 case neg=>
  obtain rfl:j=M.length:=by omega
  simp only [n24,u,m,ND,d,SB,seval,NL,NH];exact hR _ _ pl' cl' (S.app _) fun t ht=>by simp only [upd];repeat (first | rw [Ng (by omega)] | exact keep t (by omega))
 have y:=n.sl sM (fun a f _=>nM a f);have w:=n.cells ae R;have B:=zc w;have ld:=fun X=>S9 y d X
 have ix:=fun c (k:IntKind) (H1:NA)=>y.idx (c:=c) (k:=k) (H1:=H1) d
 have o:A++T (j+1)=(A++T j)++[⟨5,(i:Int),s.1,gt M j,0⟩]:=by
  rw [e (j+1),Nv d,<-OQ d,O7,<-e j,No];rfl
 have v:(A++T j).length<=1000000:=by rw [Nk];have:=W j;omega
 obtain ⟨O,hO⟩:∃O,A++T j=O:=⟨_,rfl⟩
 rw [hO] at o v S z;have hl:=S.chg.len;have ah:lim<=G.length:=by have:=D.lB;have:=D.bl;omega
 have ab:=D.lB;obtain ⟨a,f⟩:∃a:An,a=⟨5,(i:Int),s.1,gt M j,0⟩:=⟨_,rfl⟩
 rw [<-f] at o;obtain ⟨G1,G2,Z,aa,e1,x1,e2,fin,p⟩:=S.push D v;have ea:R8 a=[Vi 5,Vi i,Vi s.1,Vi (gt M j),Vi 0]:=by rw [f];rfl
 have l:=e1 [Vc (R8 a),.dead] G.length 1 a (some (G.length+1)) (by rw [NN];rfl);have hf:=fin (G.length+1) [Vc (R8 a),Vc ((O++[a]).flatMap R8)] a ((Ue (aa (G.length+1))).2.1 _ 1) (by omega);rw [ea] at l hf;simp only [place] at l;simp only [enc3] at B;have Y:=n.trans' (p (G.length+1) [Vc [Vi 5,Vi i,Vi s.1,Vi (gt M j),Vi 0],Vc ((O++[a]).flatMap R8)]) fun b hb ag=>by
  rcases Ns.1 hb with h | h
  ·rw [h];exact Nu ..
  ·cases hpe:pl' with
   | none=>rw [hpe] at h;cases h
   | some x=>
     rw [hpe] at h;simp only [YT,Nq] at h;rcases g x hpe with h1 | h1
     ·rw [h];exact Nr _ h1
     ·omega
 simp only [n24,I,J,N,u,m,z,B,ND,d,ld,ix,ad,ab,l,x1,e2,Ue Z,SB,seval,NL,NH,place,NB];exact hN (j+1,Sa (G.length+1),loose 5) _ _ ⟨by show j+1<=M.length;omega,(fun t ht=>by simp only [upd];repeat (first | rw [Ng (by omega)] | exact keep t ht)),rfl,Y,(fun x hx=>by cases hx;exact .inr (by have:=n.len;show G9.length<=G.length+1;omega)),by simp only [o];exact hf⟩ (by show M.length-(j+1)<M.length-j;omega)
end
section
variable {lim B4 B8 B13 cp cL ce cq cr ct:Nat} {pp pL pe q r pt:Option Addr} {P:List Int} {L:List Leg} {es tw:List Ev} {ks:List Int} {ss:List Stp} {c now item:Int} {G0 G:NA} {pl:Option Addr} {cl:Nat} {A:List An} {fr:Nat->Value} {K:List AItem} {Q:Value->NA->Prop}
theorem S24.next {G':NA} (S:S24 B13 ce cq cr pe q r es ks ss c G0 G pl cl A) (h:OD G G'):S24 B13 ce cq cr pe q r es ks ss c G0 G' pl cl A:=
 ⟨S.chg.trans h.chg,h.cells S.k13,S.own.chg (A:=[]) h.chg (fun _ _ a=>(by cases a))⟩
theorem S24.net (D:D24 lim B4 B8 B13 cp cL ce cq cr ct pp pL pe q r pt P L es tw ks ss G0) (S:S24 B13 ce cq cr pe q r es ks ss c G0 G pl cl A):NetIn G pp pL P L:=
 ⟨S.chg.sl D.hN.sp (fun a b hn=>by simpa using D.nP a b hn),S.chg.sl D.hN.sl (fun a b hn=>by simpa using D.nL a b hn),D.hN.np,D.hN.nl,D.hN.bys⟩
theorem Nql {s:Stp}:(SS P L es s).length<=50:=by
 unfold SS;rw [Nz,List.length_dropLast];by_cases h:∃w,Won P L (gt es s.1.toNat).place (gt es s.2.1.toNat).place (gt es s.1.toNat).time w
 ·obtain ⟨w,a⟩:=h;rw [YG a];have:=a.len;omega
 ·unfold WW;rw [dif_neg h];exact Np _
theorem M0 {s:Stp}:(Ru P L es s).length<=50:=by
 unfold Ru;simp only;split
 ·simp
 split
 ·simp
 split
 ·simp
 split
 ·exact Nql
 ·simp
theorem N4z [OB] (D:D24 lim B4 B8 B13 cp cL ce cq cr ct pp pL pe q r pt P L es tw ks ss G0) (S:S24 B13 ce cq cr pe q r es ks ss c G0 G pl cl A) (hA:A.length<=800000) {i:Nat} (hi:i<es.length)
  (f4:fr 4=Vp B4) (f13:fr 13=Vp B13) (f14:fr 14=Vi i) (ad:fr 15=Vi (gt es i).place) (ae:fr 18=Vi ((0:Nat):Int))
  (hR:∀fr' G' pl' cl',S24 B13 ce cq cr pe q r es ks ss c G0 G' pl' cl' (A++(ss.filter fun s=>decide (s.2.1=(i:Int))).flatMap (Ru P L es))->(∀t,t<16->fr' t=fr t)->PT E a24 lim K fr' G' Q):PT E a24 lim (.code (.loop Nnb)::.inBlock 4::K) fr G Q:=by
 obtain ⟨T,hT⟩:∃T:Nat->List An,T=fun j=>((ss.take j).filter fun s=>decide (s.2.1=(i:Int))).flatMap (Ru P L es):=⟨_,rfl⟩
 have w:∀j,T j=((ss.take j).filter fun s=>decide (s.2.1=(i:Int))).flatMap (Ru P L es):=fun j=>by rw [hT]
 have ah:A++T 0=A:=by rw [w];simp
 have ai:T ss.length=(ss.filter fun s=>decide (s.2.1=(i:Int))).flatMap (Ru P L es):=by rw [w,N9]
 have I:∀j,j<ss.length->T (j+1)=if (gt ss j).2.1=(i:Int) then T j++Ru P L es (gt ss j) else T j:=fun j d=>by
  rw [w (j+1),Nv d,List.filter_append,<-OQ d,Pi,<-w j];by_cases hb:(gt ss j).2.1=(i:Int)
  ·rw [Nl hb,Ou (by simpa using hb),List.filter_nil];simp
  ·rw [Ng hb,Ov (by simpa using hb),List.filter_nil];simp
 have aj:∀j,j<=ss.length->(T j).length<=50*j:=fun j=>by
  induction j with
  | zero=>intro _;rw [w];simp
  | succ j ih=>
    intro hj;have h1:=ih (by omega);have h2:=M0 (P:=P) (L:=L) (es:=es) (s:=gt ss j);rw [I j (by omega)];split
    ·rw [Nk];omega
    ·omega
 rw [<-ai] at hR;refine NP (fun s:Nat×Option Addr×Nat=>ss.length-s.1) (fun s fr' G=>s.1<=ss.length/\(∀t,t<16->fr' t=fr t)/\fr' 18=Vi s.1/\S24 B13 ce cq cr pe q r es ks ss c G0 G s.2.1 s.2.2 (A++T s.1)) (0,pl,cl)
  ⟨Np _,fun _ _=>rfl,ae,by rw [ah];exact S⟩ ?_
 clear S;rintro ⟨j,pl,cl⟩ fr' G ⟨hj,keep,g,S⟩ hN;simp only at hj g S;rw [NU Nnb.eq_1];refine NJ ?_;have m:=zc S.k13;have g4:=(keep 4 (by decide)).trans f4;have l:=(keep 13 (by decide)).trans f13;have n:=(keep 14 (by decide)).trans f14;have v:=(keep 15 (by decide)).trans ad;have u:IntKind.i64.wrap ((j:Int)+1)=((j+1:Nat):Int):=OC (by have:=D.ls;omega);by_cases d:j<ss.length
 case neg=>
  obtain rfl:j=ss.length:=by omega
  simp only [n24,l,g,m,ND,d,SB,seval,NL,NH];exact hR _ _ pl cl (S.app _) fun t p=>by simp only [upd];repeat (first | rw [Ng (by omega)] | exact keep t p)
 have sS:=S.chg.sl D.sS (fun a N _=>by simpa using D.nS a N);have sE:=S.chg.sl D.sE (fun a N _=>by simpa using D.nE a N);have U:=fun X=>(sS.app X).loadCells OU d
 have V:=fun c (k:IntKind) (H1:NA)=>sS.idx (c:=c) (k:=k) (H1:=H1) d
 have y:=D.hss _ (PM d);have av:=I j d;have aq:(A++T j).length<=803000:=by rw [Nk];have:=aj j (by omega);have:=D.ls;omega
 obtain ⟨O,hO⟩:∃O,A++T j=O:=⟨_,rfl⟩
 have hl:=S.chg.len;have o:lim<=G.length:=by have:=D.lB;have:=D.bl;omega
 have R:=D.lB;rw [hO] at S aq m;have b:A++T (j+1)=if (gt ss j).2.1=(i:Int) then O++Ru P L es (gt ss j) else O:=by
  rw [av,<-hO];split
  ·rw [No]
  ·rfl
 obtain ⟨s,ar⟩:∃s,gt ss j=s:=⟨_,rfl⟩
 rw [ar] at b y U;obtain ⟨f,aa⟩:∃f,gt es s.1.toNat=f:=⟨_,rfl⟩
 have h1:s.1.toNat<es.length:=by have:=y.1;have:=y.2.1;have:=y.2.2;omega
 have au:s.1=((s.1.toNat:Nat):Int):=by have:=y.1;omega
 have iE:∀(c:Nat) (kk:IntKind) (H1:NA),Vq 7 (.slice pe es.length c) (.int kk s.1) H1=some (.pointer (some (Vs pe 7 s.1.toNat)),H1):=fun c kk H1=>by
  have h:=sE.idx (c:=c) (k:=kk) (H1:=H1) h1;rw [<-au] at h;exact h
 have W:=fun X=>(sE.app X).loadCells NT h1
 rw [aa] at W;have x4:=zc (S.chg.cells D.k4 (by simpa using D.n4));by_cases z:s.2.1=(i:Int)
 case neg=>
  rw [Ng z] at b;simp only [n24,l,n,g,m,ND,d,U,V,u,OU,Yl,NI,o,Nc z,SB,seval,NL,NH,place,NB];exact hN (j+1,pl,cl) _ _ ⟨by show j+1<=ss.length;omega,fun t p=>by simp only [upd];repeat (first | rw [Ng (by omega)] | exact keep t p),rfl,by simp only [b];exact S.app _⟩ (by show ss.length-(j+1)<ss.length-j;omega)
 rw [Nl z] at b;have e:Ru P L es s=if f.kind=4 then [⟨2,(i:Int),s.1,(gt es i).place,0⟩] else if s.2.2=80 then [⟨3,(i:Int),s.1,(gt es i).place,0⟩] else if 0<s.2.2 then [⟨4,(i:Int),s.1,(gt es i).place,s.2.2⟩] else if f.place≠(gt es i).place then (WW P L f.place (gt es i).place f.time).dropLast.map (fun x=>(⟨5,(i:Int),s.1,x.1.dst,0⟩:An)) else []:=by
  unfold Ru SS Y6;rw [z,N1,aa]
 obtain ⟨G1,G2,al,am,e1,x1,e2,fin,ay⟩:=S.push D (by omega);have B:=fun a=>e1 [Vc (enc3 s),Vc (encE f),Vc (R8 a)] (G.length+2) 1 a none (by rw [NY];rfl)
 have hf:=fun a=>fin (G.length+3) [Vc (enc3 s),Vc (encE f),Vc (R8 a),Vc ((O++[a]).flatMap R8)] a ((Ue (am (G.length+3))).2.1 _ 3) (by omega)
 simp only [place,Nk,Nm,Nn,Nx,Nat.reduceAdd,al,No,Ox,Og] at B;have done:∀(a:An) (C:Nat->Value),Ru P L es s=[a]->(∀t,t<16->C t=fr' t)->C 18=Vi ((j:Int)+1)->PT E a24 lim (.inLoop Nnb::.inBlock 4::K) C (G2 (G.length+3)++[Vc (enc3 s),Vc (encE f),Vc (R8 a),Vc ((O++[a]).flatMap R8)]) Q:=fun a C h1 h2 h3=>by
  rw [h1] at b;exact hN (j+1,Sa (G.length+3),loose 5) _ _ ⟨by show j+1<=ss.length;omega,fun t p=>(h2 t p).trans (keep t p),h3,by simp only [b];exact hf a⟩ (by show ss.length-(j+1)<ss.length-j;omega)
 by_cases c1:f.kind=4
 ·rw [Nl c1] at e;have H:=B ⟨2,(i:Int),s.1,(gt es i).place,0⟩;have F:=done ⟨2,(i:Int),s.1,(gt es i).place,0⟩;simp only [R8] at H F;simp only [n24,l,n,v,g,m,ND,d,U,V,iE,W,u,NT,QY,OU,M9,Yl,NI,o,R,Nh z,Nh c1,H,x1,e2,SB,seval,NL,NH,place,NB];exact F _ e (fun t p=>by simp only [upd];repeat rw [Ng (by omega)]) rfl
 rw [Ng c1] at e;by_cases c2:s.2.2=80
 ·rw [Nl c2] at e;have H:=B ⟨3,(i:Int),s.1,(gt es i).place,0⟩;have F:=done ⟨3,(i:Int),s.1,(gt es i).place,0⟩;simp only [R8] at H F;simp only [n24,l,n,v,g,m,ND,d,U,V,iE,W,u,NT,QY,OU,M9,Yl,Nfu,NI,o,R,Nh z,Nc c1,Nh c2,H,x1,e2,SB,seval,NL,NH,place,NB];exact F _ e (fun t p=>by simp only [upd];repeat rw [Ng (by omega)]) rfl
 rw [Ng c2] at e;by_cases Y:0<s.2.2
 ·rw [Nl Y] at e;have H:=B ⟨4,(i:Int),s.1,(gt es i).place,s.2.2⟩;have F:=done ⟨4,(i:Int),s.1,(gt es i).place,s.2.2⟩;simp only [R8] at H F;simp only [n24,l,n,v,g,m,ND,d,U,V,iE,W,u,NT,QY,OU,M9,Yl,Nfu,NI,o,R,Nh z,Nc c1,Nc c2,Nh Y,H,x1,e2,SB,seval,NL,NH,place,NB];exact F _ e (fun t p=>by simp only [upd];repeat rw [Ng (by omega)]) rfl
 rw [Ng Y] at e;by_cases c4:f.place=(gt es i).place
 ·rw [Ng (by simpa using c4)] at e;rw [e,Na] at b;simp only [n24,l,n,v,g,m,ND,d,U,V,iE,W,u,NT,QU,QY,OU,M9,Yl,Nfu,NI,o,Nh z,Nc c1,Nc c2,Nc Y,Nh c4,SB,seval,NL,NH,place,NB];exact hN (j+1,pl,cl) _ _ ⟨by show j+1<=ss.length;omega,fun t p=>by simp only [upd];repeat (first | rw [Ng (by omega)] | exact keep t p),rfl,by simp only [b];exact S.app _⟩ (by show ss.length-(j+1)<ss.length-j;omega)
 rw [Nl c4] at e;simp only [n24,g4,l,n,v,g,m,x4,ND,d,U,V,iE,W,NT,QU,QY,QX,OU,M9,Yl,Nfu,OG,NK,NI,o,Nh z,Nc c1,Nc c2,Nc Y,Nc c4,SB,seval,NF,NL,NH,place,NB];refine Npp (lim:=lim) ((S.net D).app _) (by simp;omega) fun G5 qm km J Z a3=>?_
 have ak:OD G G5:=OD.refl.app.trans J.ext;have aw:=J.cells (j:=G.length) (ro:=false) (c:=enc3 s) (by rw [NN];rfl) (by simp);have an:=J.len;simp at an;have az:=NM S.k13;refine NJ ?_;simp only [n24,SB,seval,NL];refine Ny6 D ((S.next ak).app []) (by omega) (i:=i) (s:=s) (G9:=G5) (B19:=G.length) (M:=(WW P L f.place (gt es i).place f.time).dropLast.map fun x=>x.1.dst) (pm:=qm) (cm:=km) Chg.refl.app (fun a N=>by have:=(S.own.block N).2;omega) aw (fun hm=>?_) (Z.sl OT) (fun a N hm=>?_) (by rw [Nz,List.length_dropLast];omega) l n rfl rfl rfl fun a0 G6 ax ab S6 k6=>?_
 ·rcases Ns.1 hm with h | h
  ·omega
  ·cases hpe:pl with
   | none=>rw [hpe] at h;cases h
   | some x=>rw [hpe] at h;have:=(S.own.block hpe).2;simp [YT] at h;omega
 ·have h5:=(Z.block N).1;simp at h5;rcases Ns.1 hm with h | h
  ·omega
  ·cases hpe:pl with
   | none=>rw [hpe] at h;cases h
   | some x=>rw [hpe] at h;have:=(S.own.block hpe).2;simp [YT] at h;omega
 have ag:=(k6 18 (by decide)).trans g;rw [List.map_map] at S6;rw [e] at b;refine NJ ?_;simp only [n24,ag,u,SB,seval,NL,NH];refine hN (j+1,ax,ab) _ _ ⟨by show j+1<=ss.length;omega,fun t p=>?_,rfl,by simp only [b];exact S6.app _⟩ (by show ss.length-(j+1)<ss.length-j;omega);have h6:=k6 t (by omega);simp only [upd] at h6⊢
 repeat rw [Ng (by omega)]
 repeat rw [Ng (by omega)] at h6
 exact h6.trans (keep t p)
end
section
variable {lim B4 B8 B13 cp cL ce cq cr ct:Nat} {pp pL pe q r pt:Option Addr} {P:List Int} {L:List Leg} {es tw:List Ev} {ks:List Int} {ss:List Stp} {c now item:Int} {G0 G:NA} {pl:Option Addr} {cl:Nat} {A:List An} {fr:Nat->Value} {K:List AItem} {Q:Value->NA->Prop}
theorem VC {α β:Type} {f:α->List β} {n:Nat} (h:∀x,(f x).length<=n):∀l:List α,(l.flatMap f).length<=n*l.length
 | []=>by simp
 | a::l=>by
   rw [Ol,Nk,Nm,Nat.mul_succ];have:=VC h l;have:=h a;omega
theorem Ntl (hs:ss.length<=40) (c:tw.length<=60) {i:Nat}:(atR P L es tw ks ss i).length<=2061:=by
 unfold atR;rw [Nk,Nk,Nz];have h1:=VC (f:=Ru P L es) (n:=50) (fun s=>M0) (ss.filter fun s=>decide (s.2.1=(i:Int)));have h2:=Pn (fun s:Stp=>decide (s.2.1=(i:Int))) ss;have a:=Pn (fun d=>U2 es d i) tw;have b:(if (i:Int)∈ks then ([]:List An) else [⟨1,(i:Int),0,(gt es i).place,0⟩]).length<=1:=by split<;>simp
 have h5:50*(ss.filter fun s=>decide (s.2.1=(i:Int))).length<=50*40:=Nat.mul_le_mul_left _ (by omega);omega
theorem N5i [OB] (D:D24 lim B4 B8 B13 cp cL ce cq cr ct pp pL pe q r pt P L es tw ks ss G0) (S:S24 B13 ce cq cr pe q r es ks ss c G0 G pl cl [])
  (f4:fr 4=Vp B4) (f12:fr 12=.slice pt tw.length ct) (f13:fr 13=Vp B13) (f14:fr 14=Vi ((0:Nat):Int))
  (hR:∀fr' G' pl' cl',S24 B13 ce cq cr pe q r es ks ss c G0 G' pl' cl' ((List.range es.length).flatMap (atR P L es tw ks ss))->(∀t,t<14->fr' t=fr t)->PT E a24 lim K fr' G' Q):PT E a24 lim (.code (.loop Ntb)::.inBlock 0::K) fr G Q:=by
 obtain ⟨T,hT⟩:∃T:Nat->List An,T=fun i=>(List.range i).flatMap (atR P L es tw ks ss):=⟨_,rfl⟩
 have g:∀i,T i=(List.range i).flatMap (atR P L es tw ks ss):=fun j=>by rw [hT]
 have V:T 0=[]:=by rw [g];rfl
 have W:∀i,i<=40->(T i).length<=100000:=fun i hi=>by
  rw [g];have:=VC (f:=atR P L es tw ks ss) (n:=2061) (fun i=>Ntl D.ls D.lt) (List.range i);rw [Pe] at this;omega
 have Y:∀i,T (i+1)=T i++atR P L es tw ks ss i:=fun i=>by rw [g,g,Qg,Pi];simp
 rw [<-g] at hR;refine NP (fun s:Nat×Option Addr×Nat=>es.length-s.1) (fun s fr' G=>s.1<=es.length/\(∀t,t<14->fr' t=fr t)/\fr' 14=Vi s.1/\S24 B13 ce cq cr pe q r es ks ss c G0 G s.2.1 s.2.2 (T s.1)) (0,pl,cl)
  ⟨Np _,fun _ _=>rfl,f14,by rw [V];exact S⟩ ?_
 clear S;rintro ⟨i,pl,cl⟩ fr' G ⟨hj,keep,e,S⟩ hN;simp only at hj e S;rw [NU Ntb.eq_1];refine NJ ?_;have I:=zc S.k13;have g4:=(keep 4 (by decide)).trans f4;have U:=(keep 12 (by decide)).trans f12;have m:=(keep 13 (by decide)).trans f13;have av:=D.le;have ag:IntKind.i64.wrap ((i:Int)+1)=((i+1:Nat):Int):=OC (by omega);by_cases b:i<es.length
 case neg=>
  obtain rfl:i=es.length:=by omega
  simp only [n24,m,e,I,ND,b,SB,seval,NL,NH];exact hR _ _ pl cl (S.app _) fun t u=>by simp only [upd];repeat (first | rw [Ng (by omega)] | exact keep t u)
 have sE:=S.chg.sl D.sE (fun a ha _=>by simpa using D.nE a ha);have iE:=fun c (k:IntKind) (H1:NA)=>sE.idx (c:=c) (k:=k) (H1:=H1) b
 have u1:∀X,AM.loadCell (G++X) (((Vs pe 7 i).add 0).add 1)=some (Vi (gt es i).place):=fun X=>(sE.app X).loadCell (i:=i) (j:=1) NT b (by decide)
 simp only [n24,m,e,I,ND,b,iE,u1,SB,seval,NL,NH];refine N4w D (S.app []) b m e rfl rfl fun fr1 G1 Z k1 o=>?_
 have z:=(S.app []).next Z;have v:=(k1 13 (by decide)).trans m;have w:=(k1 14 (by decide)).trans e;have x:=(k1 15 (by decide)).trans rfl;have q4:=(k1 4 (by decide)).trans g4;have aj:=(k1 12 (by decide)).trans U;have au:=W i (by omega);have ah:∀t,t<14->fr1 t=fr t:=fun t u=>by
  have h:=k1 t (by omega);simp only [upd] at h
  repeat rw [Ng (by omega)] at h
  exact h.trans (keep t u)
 have rest:∀(l:Nat->Value) (G2:NA) (F:Option Addr) (A:Nat),S24 B13 ce cq cr pe q r es ks ss c G0 G2 F A (T i++if (i:Int)∈ks then [] else [⟨1,(i:Int),0,(gt es i).place,0⟩])->(∀t,t<16->l t=fr1 t)->l 18=Vi ((0:Nat):Int)->
   PT E a24 lim (.code (.loop Nnb)::.inBlock 4::.code (Oz [Sym.Zm 23 0] (Bl 8 Ntc))::.inBlock 1::.code (.ops [mT 84 14,Sym.i 85 (.bin .add (Sym.t 84) (zT 1)),mT 14 85])::.inLoop Ntb::.inBlock 0::K) l G2 Q:=by
  intro l G2 F A S2 k2 R;refine N4z D S2 (by rw [Nk];have:(if (i:Int)∈ks then ([]:List An) else [⟨1,(i:Int),0,(gt es i).place,0⟩]).length<=1:=(by split<;>simp);omega) b ((k2 4 (by decide)).trans q4) ((k2 13 (by decide)).trans v) ((k2 14 (by decide)).trans w) ((k2 15 (by decide)).trans x) R fun aq G3 aw an S3 k3=>?_
  have H:=(k3 14 (by decide)).trans ((k2 14 (by decide)).trans w);have r13:=(k3 13 (by decide)).trans ((k2 13 (by decide)).trans v);have ak:=(k3 15 (by decide)).trans ((k2 15 (by decide)).trans x);have r12:=(k3 12 (by decide)).trans ((k2 12 (by decide)).trans aj);refine NJ ?_;simp only [n24,SB,seval,NL];have h2:=VC (f:=Ru P L es) (n:=50) (fun s=>M0) (ss.filter fun s=>decide (s.2.1=(i:Int)));have h3:=Pn (fun s:Stp=>decide (s.2.1=(i:Int))) ss;have h4:50*(ss.filter fun s=>decide (s.2.1=(i:Int))).length<=50*40:=Nat.mul_le_mul_left _ (by have:=D.ls;omega);have h5:(if (i:Int)∈ks then ([]:List An) else [⟨1,(i:Int),0,(gt es i).place,0⟩]).length<=1:=(by split<;>simp)
  refine Odq D (S3.app []) (by rw [Nk,Nk];omega) b r12 r13 H ak rfl fun ar G4 ai M S4 k4=>?_
  have aa:T (i+1)=T i++(if (i:Int)∈ks then [] else [⟨1,(i:Int),0,(gt es i).place,0⟩])++(ss.filter fun s=>decide (s.2.1=(i:Int))).flatMap (Ru P L es)++(tw.filter fun d=>U2 es d i).map (Ym (gt es i) i):=by
   rw [Y];unfold atR;simp only [No]
  rw [<-aa] at S4;have B:=(k4 14 (by decide)).trans H;refine NJ ?_;simp only [n24,B,ag,SB,seval,NL,NH];refine hN (i+1,ai,M) _ _ ⟨by show i+1<=es.length;omega,fun t u=>?_,rfl,S4.app _⟩ (by show es.length-(i+1)<es.length-i;omega);have p:=k4 t (by omega);simp only [upd] at p⊢
  repeat rw [Ng (by omega)]
  repeat rw [Ng (by omega)] at p
  exact p.trans ((k3 t (by omega)).trans ((k2 t (by omega)).trans (ah t u)))
 have J:=zc z.k13;have am:lim<=G1.length:=by have:=z.chg.len;have:=D.lB;have:=D.bl;omega
 have ae:=D.lB;refine NJ ?_;by_cases hk:(i:Int)∈ks
 ·rw [Nw (fun h=>h hk)] at o;simp only [n24,o,SB,seval,NL];refine rest _ _ pl cl (by rw [Nl hk,Na (T i)];exact z.app _) (fun t u=>by simp only [upd];repeat rw [Ng (by omega)]) rfl
 ·rw [Nj hk] at o;obtain ⟨Ga,Gb,ab,ad,e1,x1,e2,fin,al⟩:=z.push D (by omega);obtain ⟨y,C⟩:∃a:An,a=⟨1,(i:Int),0,(gt es i).place,0⟩:=⟨_,rfl⟩
  have O:R8 y=[Vi 1,Vi i,Vi 0,Vi (gt es i).place,Vi 0]:=by rw [C];rfl
  have N:=e1 [Vc (R8 y)] G1.length 1 y none (by rw [NN];rfl);have hf:=fin (G1.length+1) [Vc (R8 y),Vc ((T i++[y]).flatMap R8)] y ((Ue (ad (G1.length+1))).2.1 _ 1) (by have:=z.chg.len;omega);simp only [place,Nk,Nm,Nn,Nx,ab,No,Ox,Og] at N;rw [O] at N hf;simp only [n24,o,v,w,x,J,N,x1,e2,ae,SB,seval,NL,place,NB];refine rest _ _ (Sa (G1.length+1)) (loose 5) (by rw [Ng hk,<-C];exact hf) (fun t u=>by simp only [upd];repeat rw [Ng (by omega)]) rfl
end
def Obx:ACode:=QP (QP (QP (QP (QP (QP (QP (QP (QP (QP c24)))))))))
theorem N65:c24=.seq (UF c24) (.seq (UF (QP c24)) (.seq (UF (QP (QP c24))) (.seq (UF (QP (QP (QP c24)))) (.seq (UF (QP (QP (QP (QP c24))))) (.seq (UF (QP (QP (QP (QP (QP c24)))))) (.seq (UF (QP (QP (QP (QP (QP (QP c24))))))) (.seq (UF (QP (QP (QP (QP (QP (QP (QP c24)))))))) (.seq (UF (QP (QP (QP (QP (QP (QP (QP (QP c24))))))))) (.seq (UF (QP (QP (QP (QP (QP (QP (QP (QP (QP c24)))))))))) Obx))))))))):=rfl
section
variable {lim B4 B8 B13 cp cL ce cq cr ct:Nat} {pp pL pe q r pt:Option Addr} {P:List Int} {L:List Leg} {es tw:List Ev} {ks:List Int} {ss:List Stp} {c now item:Int} {G0 G:NA} {pl:Option Addr} {cl:Nat} {A:List An} {fr:Nat->Value} {Q:Value->NA->Prop}
theorem N9k [OB] (D:D24 lim B4 B8 B13 cp cL ce cq cr ct pp pL pe q r pt P L es tw ks ss G0) (S:S24 B13 ce cq cr pe q r es ks ss c G0 G pl cl []) (M:ks≠[]) (hd:Na3 ss) (hr:Yz es) (R:0<=now/\now<=NV)
  (f3:fr 3=Vi now) (f4:fr 4=Vp B4) (f8:fr 8=Vp B8) (f12:fr 12=.slice pt tw.length ct) (f13:fr 13=Vp B13)
  (hR:∀G' pl' cl',Chg [B13,B8] G0 G'->Sl G' R8 5 pl' (SX P L es tw ks ss now)->Q (.tuple #[.agg (Uo pe es.length ce q ks.length cq r ss.length cr c pl' (SX P L es tw ks ss now).length cl').toArray,Vi 0]) G'):PT E a24 lim [.code Obx] fr G Q:=by
 refine NJ ?_;simp only [QP,Obx,c24,n24,SB,seval,NL];refine N5i D (S.app []) f4 f12 f13 rfl fun fr1 G1 t K l k1=>?_
 have hA:(List.range es.length).flatMap (atR P L es tw ks ss)=(List.range es.length).flatMap (atN P L es tw ks ss):=by
  show ((List.range es.length).map _).flatten=((List.range es.length).map _).flatten;rw [P9 fun i hi=>Obu D.hks D.hss hd hr (fun d hd=>(D.tt d hd).2) (List.mem_range.1 hi)]
 have am:((List.range es.length).flatMap (atR P L es tw ks ss)).length<=100000:=by
  have:=VC (f:=atR P L es tw ks ss) (n:=2061) (fun i=>Ntl D.ls D.lt) (List.range es.length);rw [Pe] at this;have:=D.le;omega
 have b:SX P L es tw ks ss now=(List.range es.length).flatMap (atR P L es tw ks ss)++UX es ks now:=by rw [hA];rfl
 generalize (List.range es.length).flatMap (atR P L es tw ks ss)=A at *;have g3:=(k1 3 (by decide)).trans f3;have g8:=(k1 8 (by decide)).trans f8;have w:=(k1 13 (by decide)).trans f13;have aq:0<ks.length:=List.length_pos_iff.2 M;have lk:=D.lk;have sK:=l.chg.sl D.sK (fun a s _=>by simpa using D.nK a s);have sE:=l.chg.sl D.sE (fun a s _=>by simpa using D.nE a s);have W:=fun X=>S9 sK (i:=ks.length-1) (by omega) X
 have iK:∀(c:Nat) (kk:IntKind) (H1:NA),Vq 1 (.slice q ks.length c) (.int kk ((ks.length:Int)-1)) H1=some (.pointer (some (Vs q 1 (ks.length-1))),H1):=fun c kk H1=>by
  have h:=sK.idx (c:=c) (k:=kk) (H1:=H1) (i:=ks.length-1) (by omega);rw [show ((ks.length-1:Nat):Int)=(ks.length:Int)-1 by omega] at h;exact h
 obtain ⟨k,hk⟩:∃k,gt ks (ks.length-1)=k:=⟨_,rfl⟩
 have ag:=D.hks _ (PM (show ks.length-1<ks.length by omega));rw [hk] at W ag;have ae:k=((k.toNat:Nat):Int):=by omega
 have z:k.toNat<es.length:=by omega
 have iE:∀(c:Nat) (kk:IntKind) (H1:NA),Vq 7 (.slice pe es.length c) (.int kk k) H1=some (.pointer (some (Vs pe 7 k.toNat)),H1):=fun c kk H1=>by
  have h:=sE.idx (c:=c) (k:=kk) (H1:=H1) z;rw [<-ae] at h;exact h
 have lE:=fun X=>(sE.app X).loadCells NT z
 have ak:=D.te _ (PM z);have g:UX es ks now=if (gt es k.toNat).kind=4\/now-(gt es k.toNat).time<=20160 then [] else [⟨7,k,0,(gt es k.toNat).place,now-(gt es k.toNat).time⟩]:=by
  unfold UX;rw [Nfh M,hk]
 generalize gt es k.toNat=x at *;have I:=zc l.k13;have N:=l.chg.len;have C:lim<=G1.length:=by have:=D.lB;have:=D.bl;omega
 have ai:=D.lB;have B:=D.l8;have w1:IntKind.i64.wrap ((ks.length:Int)-1)=(ks.length:Int)-1:=NR (by omega) (by omega);unfold NV at R ak;have w2:IntKind.i64.wrap (now-x.time)=now-x.time:=NR (by omega) (by omega);have k8:=l.chg.cells D.k8 (by simpa using D.n8);have an:=NM D.k8;have x8:=zc k8;refine NJ ?_;by_cases o:x.kind=4\/now-x.time<=20160
 ·rw [Nl o] at g;rw [g,Na] at b;obtain ⟨Z,U,s,H⟩:=OO (NM k8) (Vc [.slice pe es.length ce,.slice q ks.length cq,.slice r ss.length cr,Vi c,.slice t A.length K]);have Y:=zc s;have V:=b;have fin:Q (.tuple #[.agg (Uo pe es.length ce q ks.length cq r ss.length cr c t A.length K).toArray,Vi 0]) (Z++[Vc (encE x)]):=by
   rw [<-b];refine hR _ _ _ (Chg.app ⟨by rw [H.len];exact N,fun j hj hm=>?_⟩) (by
    rw [b];exact ((l.own.mut H fun a s e=>by have:=(l.own.block s).1;omega).sl X9).app _)
   simp only [Ns,O8,or_false,not_or] at hm;rw [H.other j hm.2];exact l.chg.other j hj (by simpa using hm.1)
  by_cases c1:x.kind=4
  ·simp only [n24,g8,w,iK,W,iE,lE,NT,QY,NI,C,B,w1,I,x8,U,Y,Nh c1,SB,seval,NL,NH,place,NB,NC];exact fin
  ·have c2:¬20160<now-x.time:=by rcases o with h | h;exact absurd h c1;omega
   simp only [n24,g3,g8,w,iK,W,iE,lE,NT,QY,QX,NI,C,B,w1,w2,I,x8,U,Y,Nc c1,Nc c2,SB,seval,NL,NH,place,NB,NC];exact fin
 rw [Ng o] at g;have c1:¬x.kind=4:=fun h=>o (.inl h)
 have c2:20160<now-x.time:=by have:=fun h=>o (.inr h);omega
 obtain ⟨a,s⟩:∃a:An,a=⟨7,k,0,x.place,now-x.time⟩:=⟨_,rfl⟩
 rw [g,<-s] at b;have aa:R8 a=[Vi 7,Vi k,Vi 0,Vi x.place,Vi (now-x.time)]:=by rw [s];rfl
 obtain ⟨G2,G3,ah,m,e1,x1,e2,fin,J⟩:=l.push D (by omega);have v:=e1 [Vc (encE x),Vc (R8 a)] (G1.length+1) 1 a none (by rw [NY];rfl);have hf:=fin (G1.length+2) [Vc (encE x),Vc (R8 a),Vc ((A++[a]).flatMap R8)] a ((Ue (m (G1.length+2))).2.1 _ 2) (by omega);simp only [place,Nk,Nm,Nn,Nx,Nat.reduceAdd,ah,No,Ox,Og] at v;have ab:=NM l.k13;have p:=hf.k13;rw [NS (by rw [m];exact ab)] at p;have aj:B8∉B13::YT t:=fun hm=>by
  rcases Ns.1 hm with h | h
  ·exact D.n8 h
  ·cases hpe:t with
   | none=>rw [hpe] at h;cases h
   | some y=>rw [hpe] at h;have:=(l.own.block hpe).1;simp [YT] at h;omega
 have F:=(J (G1.length+2) []).cells k8 aj;rw [Na] at F;obtain ⟨Z,U,ad,H⟩:=OO (NM F) (Vc [.slice pe es.length ce,.slice q ks.length cq,.slice r ss.length cr,Vi c,.slice (Sa (G1.length+2)) (A.length+1) (loose 5)]);have Y:=zc ad;have al:=zc F;rw [Nk,P0] at p;have T:=zc p;rw [aa] at v;simp only [n24,g3,g8,w,iK,W,iE,lE,NT,QU,QY,QX,NI,C,ai,B,w1,w2,I,Nc c1,Nh c2,v,x1,e2,T,al,U,Y,SB,seval,NL,NH,place,NB,NC];have O:(SX P L es tw ks ss now).length=A.length+1:=by rw [b];simp
 have u:=hR (Z++[Vc (encE x),Vc [Vi 7,Vi k,Vi 0,Vi x.place,Vi (now-x.time)],Vc ((A++[a]).flatMap R8)]) (Sa (G1.length+2)) (loose 5) (Chg.app ⟨by rw [H.len,m];exact N,fun j hj hm=>?_⟩) (by
  rw [b];exact Sl.row (ro:=false) X9 (by rw [<-m (G1.length+2),<-H.len,NY];rfl))
 ·rw [O] at u;exact u
 ·simp only [Ns,O8,or_false,not_or] at hm;have h:=hf.chg.other j hj (by simpa using hm.1);rw [NS (by rw [m];omega)] at h;rw [H.other j hm.2];exact h
end
theorem Ny1 [OB] {lim cL:Nat} {p pL:Option Addr} {S:List Ev} {now:Int} (hN:NetIn H pp pL P L) (hs:Sl H encN 6 p S) (hn:S.length<=50) (hl:lim<=H.length)
  (d:∀G,TQ P L S item now≠0->Chg [] H G->Q (.tuple #[.agg N48.toArray,Vi (TQ P L S item now)]) G)
  (a5:∀G pe ce q cq r cr pl cl (es tw:List Ev) (ks:List Int) (ss:List Stp),es=Sz (OH S).1 item->tw=Sz (OH S).2 item->ks=PU P L es->ss=QG P L es ks->TQ P L S item now=0->Chg [] H G->Sl G encE 7 pe es->Sl G encI 1 q ks->Sl G enc3 3 r ss->Sl G R8 5 pl (SX P L es tw ks ss now)->
   Q (.tuple #[.agg (Uo pe es.length ce q ks.length cq r ss.length cr (Sr P L es ks) pl (SX P L es tw ks ss now).length cl).toArray,Vi 0]) G) :
  NQ E false lim 24 [.agg (netV pp P.length cp pL L.length cL).toArray,.slice p S.length c,Vi item,Vi now] H Q:=by
 refine QN (by decide) rfl rfl ?_;rw [b24,N65];rw [Njl] at d;have hv:=fun X (mp:Bool) (lim:Nat) (Q:Value->NA->Prop)=>Nhn (mp:=mp) (lim:=lim) (cp:=cp) (cl:=cL) (Q:=Q) (hN.app X)
 have s:=fun X (mp:Bool) (lim:Nat) (Q:Value->NA->Prop)=>Nuf (mp:=mp) (lim:=lim) (c:=c) (Q:=Q) (hs.app X) (by omega)
 have k:lim<=H.length+1:=by omega
 by_cases M:QD P L=0
 case neg=>
  rw [Nh8 M] at d;simp only [UF,QP,c24,n24,OG,NK,k,hv,Nc M,SB,seval,NF,NL,NH,NG,place,NB,NC];exact d _ M Chg.refl.app
 simp only [UF,QP,c24,n24,OG,NK,hv,Nh M,SB,seval,NF,NL,NH,NG,place,NB];have m:=fun h=>Nbp (P:=P) (L:=L) (S:=S) (item:=item) (now:=now) M h
 by_cases hS:QK S
 case neg=>
  rw [m (.inl hS)] at d;simp only [n24,k,s,Nw hS,SB,seval,NL,RN,NB,NC];exact d _ (by decide) Chg.refl.app
 have m:=fun h=>m (.inr h)
 unfold NV at m;by_cases c1:item<1
 ·rw [m (.inl c1)] at d;simp only [n24,n24,s,Nj hS,k,Nh c1,SB,seval,NL,NH,RN,NG,NB,NC];exact d _ (by decide) Chg.refl.app
 by_cases c2:999999<item
 ·rw [m (.inr (.inl c2))] at d;simp only [n24,n24,s,Nj hS,k,Nc c1,Nh c2,SB,seval,NL,NH,RN,NG,NB,NC];exact d _ (by decide) Chg.refl.app
 by_cases c3:now<0
 ·rw [m (.inr (.inr (.inl c3)))] at d;simp only [n24,n24,s,Nj hS,k,Nc c1,Nc c2,Nh c3,SB,seval,NL,NH,RN,NG,NB,NC];exact d _ (by decide) Chg.refl.app
 by_cases c4:1051898399<now
 ·rw [m (.inr (.inr (.inr c4)))] at d;simp only [n24,n24,s,Nj hS,k,Nc c1,Nc c2,Nc c3,Nh c4,SB,seval,NL,NH,RN,NG,NB,NC];exact d _ (by decide) Chg.refl.app
 simp only [n24,n24,s,Nj hS,Nc c1,Nc c2,Nc c3,Nc c4,SB,seval,NF,NL,NH,RN,NG];have n:=Nh7 (P:=P) (L:=L) (S:=S) (item:=item) (now:=now) M hS (by omega) (by omega) (by omega) (by unfold NV;omega);have b6:=MQ S;have ag:item≠0:=by omega
 refine Nuw (lim:=lim) (hs.app _) hS (by simp;omega) fun G1 kp kc tp tc T=>?_
 have ai:=T.chg.len;simp at ai;have au:=T.chg.pre;have k4:=T.chg.cells (j:=H.length) (ro:=false) (c:=netV pp P.length cp pL L.length cL) (by rw [NN];rfl) (by simp);have k8:=T.chg.cells (j:=H.length+1) (ro:=false) (c:=[Vz,Vz,Vz,Vi 0,Vz]) (by rw [NY];rfl) (by simp);refine NJ ?_;simp only [n24,SB,seval,NF,NL,NG,place];refine Nsv (lim:=lim) ((T.ao.sl NT).app _) (by omega) ag (by simp;omega) fun G2 z n2 N R=>?_
 have k13:=N.cells (j:=G1.length) (ro:=false) (c:=[Vz,Vz,Vz,Vi 0,Vz]) (by rw [NN];rfl) (by simp);have a0:=N.len;simp at a0;have B:Chg [] G1 G2:=N.pre;generalize U:Sz (OH S).1 item=es at *;obtain ⟨G3,e3,h3,m3⟩:=OO (NM k13) (Vc [.slice z es.length n2,Vz,Vz,Vi 0,Vz]);have bf:=zc k13;have V:lim<=G1.length:=by omega
 have o:∀a,z=some a->a.block≠G1.length:=fun a f=>by have:=(R.block f).1;simp at this;omega
 refine NJ ?_;simp only [n24,bf,e3,V,SB,seval,NF,NL,NG,NB];have be:Sl G3 encE 7 tp (OH S).2:=m3.sl (B.sl (T.bo.sl NT) (fun a _ _ h=>(by cases h))) fun a f _=>by have:=(T.bo.block f).2;omega
 refine Nsv (lim:=lim) (be.app _) (by omega) ag (by have:=m3.len;simp;omega) fun G4 q4 n4 ab ae=>?_
 have bx:=m3.len;have a3:=ab.len;simp at a3;have t:Chg [] G3 G4:=ab.pre;generalize htw:Sz (OH S).2 item=tw at *;have I:=t.cells h3 (by simp);have w:=zc I;have H2:Chg [] G1 G4:=⟨by omega,fun j hj _=>by rw [t.other j (by omega) (by simp),m3.other j (by omega),B.other j hj (by simp)]⟩
 have am:=H2.cells k4 (by simp);have aa:=H2.cells k8 (by simp);have bg:=zc am;have ar:=zc aa;have u:Chg [] H G4:=au.trans H2;obtain ⟨G8,e8,h8,m8⟩:=OO (NM aa) (Vc [Vz,Vz,Vz,Vi 0,Vz]);have x8:=zc h8;refine NJ ?_;by_cases d1:es=[]
 ·rw [Nl d1] at n;rw [n] at d;subst d1;simp only [n24,w,ar,e8,x8,k,Nn,SB,seval,NL,NH,NB,NC];exact d _ (by decide) ((u.mut m8 (.inr (by omega))).app)
 have bu:0<es.length:=List.length_pos_iff.2 d1;have aj:¬((es.length:Nat):Int)=0:=by omega
 rw [Ng d1] at n;have bk:es.length<=50:=by
  have:=(XX (OH S).1 item).length_le;rw [U] at this;omega
 by_cases d2:40<es.length
 ·rw [Nl d2] at n;rw [n] at d;simp only [n24,w,ar,e8,x8,k,Nc aj,Nh (show (40:Int)<(es.length:Int) by omega),SB,seval,NL,NH,NB,NC];exact d _ (by decide) ((u.mut m8 (.inr (by omega))).app)
 rw [Ng d2] at n;have al:TI es:=fun e he=>by rw [<-U] at he;exact ⟨(Nbl hS (by omega) he).2.1,(Nbl hS (by omega) he).2.2.1⟩
 have a7:Yz es:=by rw [<-U];exact Neq S item
 have ba:TI tw:=fun e he=>by
  rw [<-htw] at he;have hm:=((Njx (show item≠0 by omega)).1 he).1;have ht:=Nbc hS.2 (.inr hm);obtain ⟨s0,a8,e0⟩:=MP (.inr hm);have h6:=(hS.2 s0 a8).2.2.2.2.2.2;have e6:e.seen=s0.seen:=by rw [<-e0]
  unfold UE at h6;unfold NV;omega
 have a9:tw.length<=60:=by
  have:=(XX (OH S).2 item).length_le;rw [htw] at this;omega
 have an:Sl G4 encE 7 z es:=t.sl (m3.sl (R.sl NT) fun a f _=>o a f) (fun a _ _ h=>(by cases h));simp only [n24,w,bg,OG,NK,Nc aj,Nc (show ¬(40:Int)<(es.length:Int) by omega),SB,seval,NF,NL,NH];refine Ny4 (lim:=lim) ((hN.sim fun b ro x hb=>u.cells hb (by simp)).app _) M (an.app _) (by omega) (fun i hi=>al _ (PM hi)) (by simp;omega) fun G5 q5 n5 r5 m5 av hq hr=>?_
 have v:=XI (P:=P) (L:=L) (es:=es);obtain ⟨ks,hks⟩:∃ks,ks=PU P L es:=⟨_,rfl⟩
 rw [<-hks] at hq hr v⊢;obtain ⟨ss,hss⟩:∃ss,ss=QG P L es ks:=⟨_,rfl⟩
 rw [<-hss] at hr⊢;have bw:ks.length<=es.length:=Naw v.2;have ah:ks≠[]:=fun h=>by have:=v.1 (by rw [h];rfl);omega
 have Z:=Nli (P:=P) (L:=L) v;rw [<-hss] at Z;have bm:ss.length<=ks.length:=by rw [hss];unfold QG;rw [Nz,Pe];omega
 have g:Chg [] G4 G5:=av.pre;have bz:=g.len;have J:=g.cells I (by simp);have aq:=zc J;obtain ⟨A,e6,h6,K⟩:=OO (NM J) (Vc [.slice z es.length n2,.slice q5 ks.length n5,.slice r5 ss.length m5,Vi (Sr P L es ks),Vz]);have bh:=NM k13;have W:∀a,q5=some a->a.block≠G1.length:=fun a f=>by have:=hq.2 a f;simp at this;omega
 have Y:∀a,r5=some a->a.block≠G1.length:=fun a f=>by have:=hr.2 a f;simp at this;omega
 have F:∀a,q4=some a->a.block≠G1.length:=fun a f=>by have:=(ae.block f).1;simp at this;omega
 have bq:=hN.sim fun b ro x hb=>u.cells hb (by simp)
 have ad:Chg [] H G5:=u.trans g;have bn:H.length<G1.length:=by omega
 have C:Chg [] H A:=ad.mut K (.inr (by omega));have a6:∀a,pp=some a->P≠[]->a.block≠G1.length:=fun a f hP=>by have:=hN.sp;rw [f] at this;have:=this.lt hP;omega
 have ax:∀a,pL=some a->L≠[]->a.block≠G1.length:=fun a f hP=>by have:=hN.sl;rw [f] at this;have:=this.lt hP;omega
 refine NJ ?_;simp only [n24,aq,e6,V,SB,seval,NL,NB];have b0:=K.len;have bb:=K.cells (g.cells am (by simp)) (by omega);have bd:=K.cells (g.cells aa (by simp)) (by omega);have ay:=hN.sim fun b ro x hb=>C.cells hb (by simp)
 have D:D24 lim H.length (H.length+1) G1.length cp cL n2 n5 m5 n4 pp pL z q5 r5 q4 P L es tw ks ss A:=⟨ay,bb,bd,K.sl (g.sl an (fun a _ _ h=>(by cases h))) (fun a f _=>o a f),K.sl hq.1 (fun a f _=>W a f),K.sl hr.1 (fun a f _=>Y a f),K.sl (g.sl (ae.sl NT) (fun a _ _ h=>(by cases h))) (fun a f _=>F a f),by omega,by omega,a6,ax,o,W,Y,F,V,k,by omega,by omega,a9,by omega,by omega,v.mem,Z.1,al,ba⟩
 have S0:S24 G1.length n2 n5 m5 z q5 r5 es ks ss (Sr P L es ks) A A none 0 []:=⟨Chg.refl,h6,.nil⟩
 have aw:D24 lim H.length (H.length+1) G1.length cp cL n2 n5 m5 n4 pp pL z q5 r5 q4 P L es tw ks ss (A++[]):=by rw [Na];exact D
 have az:S24 G1.length n2 n5 m5 z q5 r5 es ks ss (Sr P L es ks) (A++[]) (A++[]) none 0 []:=by rw [Na];exact S0
 have ak:0<=now/\now<=NV:=⟨by omega,by unfold NV;omega⟩
 refine N9k aw az ah Z.2 a7 ak rfl rfl rfl rfl rfl fun G7 pl cl O hA=>?_
 rw [Na] at O;have key:∀{α:Type} {enc:α->List Value} {e:Nat} {a:Option Addr} {l:List α},Sl A enc e a l->(∀x,a=some x->x.block≠G1.length/\x.block≠H.length+1)->Sl G7 enc e a l:=fun hs y=>O.sl hs fun x f _ hm=>by
  have:=y x f;simp only [Ns,O8,or_false] at hm;omega
 refine a5 _ z n2 q5 n5 r5 m5 pl cl es tw ks ss rfl rfl hks hss n (C.trans' O fun j hj bv=>by simp only [Ns,O8,or_false] at hj;omega) (key D.sE fun x y=>⟨o x y,by have:=(R.block y).1;simp at this;omega⟩) (key D.sK fun x y=>⟨W x y,by have:=hq.2 x y;simp at this;omega⟩) (key D.sS fun x y=>⟨Y x y,by have:=hr.2 x y;simp at this;omega⟩) hA
end Go.Proofs.YtkppjkkkdpcgiaaGreat.Fn




