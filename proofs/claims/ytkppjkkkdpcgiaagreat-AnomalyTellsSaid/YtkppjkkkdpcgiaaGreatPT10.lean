/-
  Joined texts, 10 of 11. A part of the claim that the last text states.
-/
import Derived.Test.YtkppjkkkdpcgiaaGreatPT9
set_option linter.unusedVariables false
set_option linter.unusedSimpArgs false
set_option linter.defProp false
set_option linter.unusedSectionVars false
set_option maxRecDepth 100000
set_option maxHeartbeats 4000000
namespace Go.Proofs.YtkppjkkkdpcgiaaGreat.Fn
open Go.AM Go.AM.Sym Go.Net Go.Scan
variable {S:List Ev} {G H:NA} {Q:Value->NA->Prop} {n c cp cL:Nat} {enc:An->List Value} {pp pL:Option Addr} {L:List Leg} {item now:Int} {V:List Value} {mp:Bool} {P:List Int} {fr:Nat->Value}
section
variable {mp:Bool} {lim n cq cr cq' cr' ce ce' cl cl':Nat} {pe pe' pl pl' q r q' r':Option Addr} {es:List Ev} {ks:List Int} {ss:List Stp} {c:Int} {A:List An} {H:NA} {Q:Value->NA->Prop}
variable {a:An}
theorem Nyv [OB] (u:Sl H encI 1 q ks) (m:Sl H encI 1 q' ks) (hr:Sl H enc3 3 r ss) (i:Sl H enc3 3 r' ss) (n1:ks.length<2 ^ 60) (n2:ss.length<2 ^ 60) :
  NQ E mp lim 53 [.agg #[.slice q ks.length cq,.slice r ss.length cr,Vi c],.agg #[.slice q' ks.length cq',.slice r' ss.length cr',Vi c]] H Q=Q (.bool true) H:=by
 refine pc (by decide) rfl rfl rfl ?_;rw [b53,c53];obtain ⟨Va,s⟩:∃Va,[Value.slice q ks.length cq,.slice r ss.length cr,Vi c]=Va:=⟨_,rfl⟩
 obtain ⟨Vb,t⟩:∃Vb,[Value.slice q' ks.length cq',.slice r' ss.length cr',Vi c]=Vb:=⟨_,rfl⟩
 have l:=fun X (mp:Bool) (lim:Nat) (Q:Value->NA->Prop)=>Ncf (mp:=mp) (lim:=lim) (ca:=cq) (cb:=cq') (Q:=Q) (u.app X) (m.app X) (by omega)
 simp only [decide_true] at l;simp only [n53,l,SB,seval,NF,NL,NH,RN,NG,place,NB];refine NP (fun j=>ss.length-j) (fun j fr G=>j<=ss.length/\fr 2=Vp H.length/\fr 3=Vp (H.length+1)/\fr 30=Vi ss.length/\fr 31=Vi j/\OD (H++[Vc [.slice q ks.length cq,.slice r ss.length cr,Vi c],Vc [.slice q' ks.length cq',.slice r' ss.length cr',Vi c]]) G) 0
  ⟨Np _,rfl,rfl,rfl,by rfl,OD.refl⟩ ?_
 intro j fr G ⟨B,o,p,e,g,h⟩ hN;rw [NU N8k.eq_1];refine NJ ?_;have z:=zc (h.cells (b:=H.length) (ro:=false) (c:=[.slice q ks.length cq,.slice r ss.length cr,Vi c]) (by rw [NN];rfl));have A:=zc (h.cells (b:=H.length+1) (ro:=false) (c:=[.slice q' ks.length cq',.slice r' ss.length cr',Vi c]) (by rw [NY];rfl));by_cases d:j<ss.length
 case neg=>simp only [n53,e,g,ND,d,SB,seval,NL,NH,NC]
 have x:=fun X=>((h.sl (hr.app _)).app X).loadCells OU d
 have y:=fun X=>((h.sl (i.app _)).app X).loadCells OU d
 have v:=fun c (kk:IntKind) (H1:NA)=>hr.idx (c:=c) (k:=kk) (H1:=H1) d
 have w:=fun c (kk:IntKind) (H1:NA)=>i.idx (c:=c) (k:=kk) (H1:=H1) d
 have n:IntKind.i64.wrap ((j:Int)+1)=((j+1:Nat):Int):=OC (by omega);have f:=Nyl (a:=gt ss j) (b:=gt ss j);rw [Nj rfl] at f;simp only [n53,o,p,e,g,ND,d,z,A,x,y,v,w,n,f,SB,seval,NL,NH];exact hN (j+1) _ _ ⟨by omega,o,p,e,rfl,h.trans OD.refl.app⟩ (by omega)
theorem N60:(R8 a)[0]? = some (Vi a.kind):=id rfl
theorem N6z:(R8 a)[1]? = some (Vi a.ev):=id rfl
theorem N6y:(R8 a)[2]? = some (Vi a.other):=id rfl
theorem N6x:(R8 a)[3]? = some (Vi a.place):=id rfl
theorem N6w:(R8 a)[4]? = some (Vi a.mins):=id rfl
theorem Nhm [OB] (M:Sl H encE 7 pe es) (s:Sl H encE 7 pe' es) (O:Sl H encI 1 q ks) (x:Sl H encI 1 q' ks) (hr:Sl H enc3 3 r ss) (y:Sl H enc3 3 r' ss) (K:Sl H Tv 5 pl A) (p:Sl H R8 5 pl' A)
  (n0:es.length<2 ^ 60) (n1:ks.length<2 ^ 60) (n2:ss.length<2 ^ 60) (n3:A.length<2 ^ 60) (hk:∀a∈A,0<=a.kind/\a.kind<=255) :
  NQ E mp lim 25 [.agg (Uo pe es.length ce q ks.length cq r ss.length cr c pl A.length cl).toArray,.agg (Uo pe' es.length ce' q' ks.length cq' r' ss.length cr' c pl' A.length cl').toArray] H Q=Q (.bool true) H:=by
 refine pc (by decide) rfl rfl rfl ?_;rw [b25,c25];have z:=fun X (mp:Bool) (lim:Nat) (Q:Value->NA->Prop)=>Nyv (mp:=mp) (lim:=lim) (cq:=cq) (cr:=cr) (cq':=cq') (cr':=cr') (c:=c) (Q:=Q) (O.app X) (x.app X) (hr.app X) (y.app X) n1 n2
 simp only [n25,Uo,z,SB,seval,NF,NL,NH,RN,NG,place,NB];refine NP (fun j=>es.length-j) (fun j fr G=>j<=es.length/\fr 2=Vp H.length/\fr 3=Vp (H.length+1)/\fr 35=Vi es.length/\fr 36=Vi j/\OD (H++[Vc [Value.slice pe es.length ce,.slice q ks.length cq,.slice r ss.length cr,Vi c,.slice pl A.length cl],Vc [Value.slice pe' es.length ce',.slice q' ks.length cq',.slice r' ss.length cr',Vi c,.slice pl' A.length cl']]) G) 0
  ⟨Np _,rfl,rfl,rfl,by rfl,OD.refl⟩ ?_
 intro j fr G ⟨L,t,h,f,i,e⟩ hN;rw [NU N83.eq_1];refine NJ ?_;have k2:=e.cells (b:=H.length) (ro:=false) (c:=[Value.slice pe es.length ce,.slice q ks.length cq,.slice r ss.length cr,Vi c,.slice pl A.length cl]) (by rw [NN];rfl);have k3:=e.cells (b:=H.length+1) (ro:=false) (c:=[Value.slice pe' es.length ce',.slice q' ks.length cq',.slice r' ss.length cr',Vi c,.slice pl' A.length cl']) (by rw [NY];rfl);have J:=zc k2;have u:=zc k3;have g:=e.len;simp at g;by_cases d:j<es.length
 ·have F:=fun X=>((e.sl (M.app _)).app X).loadCells NT d
  have I:=fun X=>((e.sl (s.app _)).app X).loadCells NT d
  have C:=fun c (kk:IntKind) (H1:NA)=>M.idx (c:=c) (k:=kk) (H1:=H1) d
  have D:=fun c (kk:IntKind) (H1:NA)=>s.idx (c:=c) (k:=kk) (H1:=H1) d
  have m:IntKind.i64.wrap ((j:Int)+1)=((j+1:Nat):Int):=OC (by omega);have v:=eqE (gt es j);simp only [n25,t,h,f,i,ND,d,J,u,F,I,C,D,m,v,SB,seval,NL,NH];exact hN (j+1) _ _ ⟨by omega,t,h,f,rfl,e.trans OD.refl.app⟩ (by omega)
 simp only [n25,t,f,i,ND,d,J,SB,seval,NL,NH];refine NP (fun j=>A.length-j) (fun j fr G=>j<=A.length/\fr 3=Vp (H.length+1)/\fr 52=.slice pl A.length cl/\fr 53=Vi A.length/\fr 54=Vi j/\OD (H++[Vc [Value.slice pe es.length ce,.slice q ks.length cq,.slice r ss.length cr,Vi c,.slice pl A.length cl],Vc [Value.slice pe' es.length ce',.slice q' ks.length cq',.slice r' ss.length cr',Vi c,.slice pl' A.length cl']]) G) 0
  ⟨Np _,h,rfl,rfl,by rfl,e.trans OD.refl.app⟩ ?_
 clear hN t h f i e k2 k3 J u g d L;intro j fr G ⟨L,h,n,l,o,e⟩ hN;rw [NU N84.eq_1];refine NJ ?_;have k3:=e.cells (b:=H.length+1) (ro:=false) (c:=[Value.slice pe' es.length ce',.slice q' ks.length cq',.slice r' ss.length cr',Vi c,.slice pl' A.length cl']) (by rw [NY];rfl);have u:=zc k3;have g:=e.len;simp at g;have w:H.length<=G.length:=by omega
 by_cases d:j<A.length
 ·have F:=fun X=>((e.sl (K.app _)).app X).loadCells RF d
  have I:=fun X=>((e.sl (p.app _)).app X).loadCells X9 d
  have C:=fun c (kk:IntKind) (H1:NA)=>K.idx (c:=c) (k:=kk) (H1:=H1) d
  have D:=fun c (kk:IntKind) (H1:NA)=>p.idx (c:=c) (k:=kk) (H1:=H1) d
  have m:IntKind.i64.wrap ((j:Int)+1)=((j+1:Nat):Int):=OC (by omega);have N:=hk _ (PM d);have B:IntKind.i64.wrap (gt A j).kind=(gt A j).kind:=NR (by omega) (by omega);simp only [n25,h,n,l,o,ND,d,u,F,I,C,D,m,B,NI,w,RF,Oap,Oao,Oan,Oam,Oal,X9,N60,N6z,N6y,N6x,N6w,SB,seval,NL,NH,place,NB];exact hN (j+1) _ _ ⟨by omega,h,n,l,rfl,e.trans OD.refl.app⟩ (by omega)
 simp only [n25,l,o,ND,d,SB,seval,NL,NH,NC]
end
def Nqq (i:Nat):Ev:=⟨9000027+(i:Int),0,0,0,0,0,0⟩
theorem N0f [OB] {lim:Nat} {i:Nat} (hi:i<1000) :
  NQ E mp lim 42 [Vi 2,Vi i] H Q=Q (.agg (encN (Nqq i)).toArray) H:=by
 have w1:IntKind.i64.wrap (2+7)=9:=by decide
 have w2:IntKind.i64.wrap (1000003*9)=9000027:=by decide
 have a:IntKind.i64.wrap (9000027+(i:Int))=9000027+(i:Int):=NR (by omega) (by omega);have hm:∀(mp:Bool) (lim:Nat) (H:NA) (Q:Value->NA->Prop),NQ E mp lim 78 [Vi 2,Vi i] H Q=Q (Vi (9000027+(i:Int))) H:=fun mp lim H Q=>by
  refine pc (by decide) rfl rfl rfl ?_;rw [b78,c78];simp only [n78,w1,w2,a,SB,Nat.reduceLT,NL,Nat.reduceEqDiff,NH,reduceCtorEq,NG,NC]
 refine pc (by decide) rfl rfl rfl ?_;rw [b42,c42];simp only [n42,hm,SB,Nat.reduceLT,NF,NL,Nat.reduceEqDiff,reduceCtorEq,NG,place,NB,Nat.reduceAdd,NC];rfl
theorem Nuy [OB] {lim R:Nat} (u:NE H R=Vc ((S++TA).flatMap encN)) (hn:S.length<=60) (hl:lim<=R)
  (t:∀G,Chg [R] H G->Q (.tuple #[]) G) :
  NQ E false lim 23 [.slice (Sa R) S.length (S.length+12)] H Q:=by
 refine QN (by decide) rfl rfl ?_;rw [b23,c23];have m:IntKind.i64.wrap ((S.length:Int)+12)=((S.length+12:Nat):Int):=by rw [NR (by omega) (by omega)];omega
 have a:=Nfx (e:=6) (R:=R) (n:=S.length) (k:=S.length+12) (c:=S.length+12) (by omega) (by omega) (Nf _);have d:min ((S.length+12:Nat):Int) ((S.length+12:Nat):Int)=((S.length+12:Nat):Int):=by omega
 have j:=Nh (show S.length+12<2 ^ 62 by omega);simp only [n23,m,Nz9,d,a,j,SB,Nat.reduceLT,NL,Nat.reduceEqDiff,NH,reduceCtorEq,NG];have v:(S++TA).length=S.length+12:=by rw [Nk,Vn]
 refine NP (fun i=>S.length+12-i) (fun i fr G=>i<=S.length+12/\fr 2=.slice (Sa R) (S.length+12) (S.length+12)/\fr 3=Vi i/\Chg [R] H G/\∃T:List Ev,T.length=S.length+12/\NE G R=Vc (T.flatMap encN)) 0
  ⟨Np _,rfl,by rfl,Chg.refl.app,_,v,(OD.refl.app).cells u⟩ ?_
 rintro i fr G ⟨hi,g,o,q,T,s,r⟩ hN;rw [NU N85.eq_1];refine NJ ?_;by_cases b:i<S.length+12
 case neg=>
  simp only [n23,g,o,ND,b,SB,Nat.reduceLT,NL,Nat.reduceEqDiff,NH];exact t _ q.app
 have l:IntKind.i64.wrap ((i:Int)+1)=((i+1:Nat):Int):=OC (by omega);have f:=fun (mp:Bool) (lim:Nat) (H:NA) (Q:Value->NA->Prop)=>N0f (mp:=mp) (lim:=lim) (H:=H) (Q:=Q) (i:=i) (by omega)
 have xT:∀(c:Nat) (kk:IntKind) (H1:NA),Vq 6 (.slice (Sa R) (S.length+12) c) (.int kk (i:Int)) H1=some (.pointer (some (Vs (Sa R) 6 i)),H1):=fun c kk H1=>by
  have h:=(Sl.row (ro:=false) OL r:Sl G encN 6 (Sa R) T).idx (c:=c) (k:=kk) (H1:=H1) (i:=i) (by omega);rw [s] at h;exact h
 obtain ⟨G2,e2,k2,w⟩:=SV (lim:=lim) (p:=Sa R) (i:=i) OL rfl r hl (by omega) (Nqq i);generalize Nqq i=mk at f e2 k2;simp only [n23,g,o,ND,b,l,f,xT,OL,e2,SB,Nat.reduceLT,NF,NL,Nat.reduceEqDiff,NH,NB];exact hN (i+1) _ _ ⟨by omega,g,rfl,(q.mut w (.inl (by simp))).app,_,by rw [Py];exact s,(OD.refl.app).cells k2⟩ (by omega)
theorem Nqw {es tw:List Ev} {ks:List Int} {ss:List Stp}:∀a∈SX P L es tw ks ss now,0<=a.kind/\a.kind<=255:=by
 have c:∀s,∀a∈Ru P L es s,0<=a.kind/\a.kind<=255:=fun s a b=>by
  unfold Ru at b;simp only at b;split at b
  ·rw [Nq] at b;subst b;exact (by decide:(0:Int)<=2/\(2:Int)<=255)
  split at b
  ·rw [Nq] at b;subst b;exact (by decide:(0:Int)<=3/\(3:Int)<=255)
  split at b
  ·rw [Nq] at b;subst b;exact (by decide:(0:Int)<=4/\(4:Int)<=255)
  split at b
  ·unfold SS at b;obtain ⟨x,_,rfl⟩:=List.mem_map.1 b;exact (by decide:(0:Int)<=5/\(5:Int)<=255)
  ·cases b
 intro a b;unfold SX at b;rcases Ok.1 b with h | h
 ·obtain ⟨i,_,h⟩:=List.mem_flatMap.1 h;unfold atN at h;rcases Ok.1 h with h | h
  ·split at h
   ·cases h
   ·rw [Nq] at h;subst h;exact (by decide:(0:Int)<=1/\(1:Int)<=255)
  ·rcases Ok.1 h with h | h
   ·split at h
    ·exact c _ a h
    ·cases h
   ·unfold R9 at h;obtain ⟨x,_,rfl⟩:=List.mem_map.1 h;exact (by decide:(0:Int)<=6/\(6:Int)<=255)
 ·rcases Ne7 (es:=es) (ks:=ks) (now:=now) with e | ⟨k,_,e,_⟩
  ·rw [e] at h;cases h
  ·rw [e,Nq] at h;subst h;exact (by decide:(0:Int)<=7/\(7:Int)<=255)
def TL4:ACode:=QP (QP (QP (QP (QP (QP (QP (QP c4)))))))
theorem Ob6 [OB] (c:OA.on 18=true) {lim:Nat} {kind:Int} (hk:0<=kind/\kind<=255) (f4:fr 4=.int .u8 kind):PT E a4 lim [.code TL4] fr G fun v _=>v=.bool true:=by
 obtain ⟨n,hn⟩:∃n:Nat,kind=(n:Int):=⟨kind.toNat,by omega⟩
 subst hn;have a:=fun (mp:Bool) (lim:Nat) (H:NA) (Q:Value->NA->Prop)=>Ndn (mp:=mp) (lim:=lim) (H:=H) (Q:=Q) (n:=n) (by omega)
 have l:IntKind.u8.wrap 0=0:=by decide
 have m:IntKind.u8.wrap 1=1:=by decide
 have o:IntKind.u8.wrap 2=2:=by decide
 have p:IntKind.u8.wrap 3=3:=by decide
 have q:IntKind.u8.wrap 4=4:=by decide
 have r:IntKind.u8.wrap 5=5:=by decide
 have s:IntKind.u8.wrap 6=6:=by decide
 have f:∀(b:Nat) (H1:NA),Vq 1 (.slice (Sa b) 7 7) (.int .u8 1) H1=some (.pointer (some ⟨b,1,none⟩),H1):=fun _ _=>rfl
 have g:∀(b:Nat) (H1:NA),Vq 1 (.slice (Sa b) 7 7) (.int .u8 2) H1=some (.pointer (some ⟨b,2,none⟩),H1):=fun _ _=>rfl
 have h:∀(b:Nat) (H1:NA),Vq 1 (.slice (Sa b) 7 7) (.int .u8 3) H1=some (.pointer (some ⟨b,3,none⟩),H1):=fun _ _=>rfl
 have i:∀(b:Nat) (H1:NA),Vq 1 (.slice (Sa b) 7 7) (.int .u8 4) H1=some (.pointer (some ⟨b,4,none⟩),H1):=fun _ _=>rfl
 have j:∀(b:Nat) (H1:NA),Vq 1 (.slice (Sa b) 7 7) (.int .u8 5) H1=some (.pointer (some ⟨b,5,none⟩),H1):=fun _ _=>rfl
 have k:∀(b:Nat) (H1:NA),Vq 1 (.slice (Sa b) 7 7) (.int .u8 6) H1=some (.pointer (some ⟨b,6,none⟩),H1):=fun _ _=>rfl
 have d:∀x:ByteArray,(x.toList == x.toList)=true:=fun x=>by simp
 refine NJ ?_;by_cases t:n<=7
 case neg=>
  have e:YV n=.string ⟨#[]⟩:=by unfold YV;rw [Nb,N0 (by rw [Xw];omega)];rfl
  rw [e] at a;simp only [QP,TL4,c4,n4,r4,f4,a,d,Nh (show (1:Int)<=(n:Int) by omega),Nc (show ¬(n:Int)<=7 by omega),XJ c,SB,seval,NF,NL,NH,NC]
 have cases:n=0\/n=1\/n=2\/n=3\/n=4\/n=5\/n=6\/n=7:=by omega
 rcases cases with rfl | rfl | rfl | rfl | rfl | rfl | rfl | rfl
 all_goals
  simp only [YV,Ncl,List.getD_cons_zero,List.getD_cons_succ,Rg] at a f4;simp only [QP,TL4,c4,n4,r4,f4,a,d,l,m,o,p,q,r,s,f,g,h,i,j,k,XJ c,SB,seval,NF,NL,NH,place,NC]
def Told (n:Nat) (P:List Int) (L:List Leg) (S:List Ev) (item now:Int) (enc:An->List Value) (G:NA) (V:List Value):Prop:=
 (TQ P L S item now≠0/\V=N48)\/(TQ P L S item now=0/\∃pe ce q cq r cr pl cl,V=Uo pe (Sz (OH S).1 item).length ce q (PU P L (Sz (OH S).1 item)).length cq r (QG P L (Sz (OH S).1 item) (PU P L (Sz (OH S).1 item))).length cr (Sr P L (Sz (OH S).1 item) (PU P L (Sz (OH S).1 item))) pl (SX P L (Sz (OH S).1 item) (Sz (OH S).2 item) (PU P L (Sz (OH S).1 item)) (QG P L (Sz (OH S).1 item) (PU P L (Sz (OH S).1 item))) now).length cl/\
  U3 n G encE 7 pe (Sz (OH S).1 item)/\U3 n G encI 1 q (PU P L (Sz (OH S).1 item))/\U3 n G enc3 3 r (QG P L (Sz (OH S).1 item) (PU P L (Sz (OH S).1 item)))/\U3 n G enc 5 pl (SX P L (Sz (OH S).1 item) (Sz (OH S).2 item) (PU P L (Sz (OH S).1 item)) (QG P L (Sz (OH S).1 item) (PU P L (Sz (OH S).1 item))) now))
theorem Told.len (h:Told n P L S item now enc G V):V.length=5:=by
 rcases h with ⟨_,rfl⟩ | ⟨_,_,_,_,_,_,_,_,_,rfl,_⟩<;>rfl
theorem Told.chg {G':NA} {A:List Nat} (h:Told n P L S item now enc G V) (hc:Chg A G G') (a:∀j∈A,j<n):Told n P L S item now enc G' V:=by
 rcases h with h | ⟨b,pe,ce,q,cq,r,cr,pl,cl,e,h1,h2,c,d⟩
 ·exact .inl h
 ·exact .inr ⟨b,pe,ce,q,cq,r,cr,pl,cl,e,h1.chg hc a,h2.chg hc a,c.chg hc a,d.chg hc a⟩
theorem N0i [OB] (h:EffOk) {lim:Nat} {p:Option Addr} (hN:NetIn H pp pL P L) (hs:Sl H encN 6 p S) (hn:S.length<2 ^ 63) (hl:lim<=H.length) :
  NQ E false lim 17 [.agg (netV pp P.length cp pL L.length cL).toArray,.slice p S.length c,Vi item,Vi now] H fun v G=>Chg [] H G/\∃V,v=.tuple #[.agg V.toArray,Vi (TQ P L S item now)]/\Told H.length P L S item now Tv G V:=
 Nkz h hN hs hn hl (fun G a b=>⟨b,_,rfl,.inl ⟨a,rfl⟩⟩) fun G pe ce q cq r cr pl cl es tw ks ss e1 e2 e3 e4 a b d _ e f g=>by
  subst e1 e2 e3 e4;exact ⟨b,_,by rw [a],.inr ⟨a,pe,ce,q,cq,r,cr,pl,cl,rfl,d,e,f,g⟩⟩
theorem Nuj [OB] {lim:Nat} {p:Option Addr} (hN:NetIn H pp pL P L) (hs:Sl H encN 6 p S) (hn:S.length<=50) (hl:lim<=H.length) :
  NQ E false lim 24 [.agg (netV pp P.length cp pL L.length cL).toArray,.slice p S.length c,Vi item,Vi now] H fun v G=>Chg [] H G/\∃V,v=.tuple #[.agg V.toArray,Vi (TQ P L S item now)]/\Told 0 P L S item now R8 G V:=
 Ny1 hN hs hn hl (fun G a b=>⟨b,_,rfl,.inl ⟨a,rfl⟩⟩) fun G pe ce q cq r cr pl cl es tw ks ss e1 e2 e3 e4 a b d e f g=>by
  subst e1 e2 e3 e4;exact ⟨b,_,by rw [a],.inr ⟨a,pe,ce,q,cq,r,cr,pl,cl,rfl,⟨d,fun _ _=>Np _⟩,⟨e,fun _ _=>Np _⟩,⟨f,fun _ _=>Np _⟩,⟨g,fun _ _=>Np _⟩⟩⟩
theorem Ntz [OB] {d:List Value} (h:Told n P L S item now Tv G V) (h':Told 0 P L S item now R8 G d) (hS:S.length<=50) (X:NA) (mp:Bool) (lim:Nat) (Q:Value->NA->Prop) :
  NQ E mp lim 25 [.agg V.toArray,.agg d.toArray] (G++X) Q=Q (.bool true) (G++X):=by
 rcases h with ⟨b,rfl⟩ | ⟨b,pe,ce,q,cq,r,cr,pl,cl,rfl,h1,h2,f,g⟩
 ·rcases h' with ⟨_,rfl⟩ | ⟨a,_⟩
  ·exact Nhm (es:=[]) (ks:=[]) (ss:=[]) (A:=[]) (pe:=none) (pe':=none) (q:=none) (q':=none) (r:=none) (r':=none) (pl:=none) (pl':=none) rfl rfl rfl rfl rfl rfl rfl rfl (by decide) (by decide) (by decide) (by decide) (fun _ h=>by cases h)
  ·exact absurd a b
 ·rcases h' with ⟨a,_⟩ | ⟨_,pe',ce',q',cq',r',cr',pl',cl',rfl,i,j,l,m⟩
  ·exact absurd b a
  ·have o:(Sz (OH S).1 item).length<=S.length:=Nsx;have p:=N9i S item;have c:=XI (P:=P) (L:=L) (es:=Sz (OH S).1 item);have s:(PU P L (Sz (OH S).1 item)).length<=(Sz (OH S).1 item).length:=Naw c.2;have t:(QG P L (Sz (OH S).1 item) (PU P L (Sz (OH S).1 item))).length<=(PU P L (Sz (OH S).1 item)).length:=by unfold QG;rw [Nz,Pe];omega
   have u:(SX P L (Sz (OH S).1 item) (Sz (OH S).2 item) (PU P L (Sz (OH S).1 item)) (QG P L (Sz (OH S).1 item) (PU P L (Sz (OH S).1 item))) now).length<=100000:=by
    generalize Sz (OH S).1 item=es at *;generalize Sz (OH S).2 item=tw at *;generalize PU P L es=ks at *;generalize QG P L es ks=ss at *;have e:SX P L es tw ks ss now=Ngy P L es tw ks ss es.length++UX es ks now:=rfl;have f:=Naa (P:=P) (L:=L) (es:=es) (tw:=tw) (ks:=ks) (ss:=ss) es.length;have g:es.length*(51+tw.length)<=50*101:=Nat.mul_le_mul (by omega) (by omega);have h5:(UX es ks now).length<=1:=by
     rcases Ne7 (es:=es) (ks:=ks) (now:=now) with h | ⟨k,_,h,_⟩<;>rw [h]<;>simp
    rw [e,Nk];omega
   exact Nhm (h1.1.app X) (i.1.app X) (h2.1.app X) (j.1.app X) (f.1.app X) (l.1.app X) (g.1.app X) (m.1.app X) (by omega) (by omega) (by omega) (by omega) Nqw
def X4:ACode:=QP (QP c4)
theorem Of0:c4=.seq (UF c4) (.seq (UF (QP c4)) X4):=rfl
theorem Obv:X4=(.seq (UF (QP (QP c4))) (.seq (UF (QP (QP (QP c4)))) (.seq (UF (QP (QP (QP (QP c4))))) (.seq (UF (QP (QP (QP (QP (QP c4)))))) (.seq (UF (QP (QP (QP (QP (QP (QP c4))))))) (.seq (UF (QP (QP (QP (QP (QP (QP (QP c4)))))))) TL4)))))):=rfl
theorem N7w [OB] (hE:EffOk) (W:OA.on 18=true) {lim B5:Nat} {p:Option Addr} {kind:Int} (hN:NetIn G pp pL P L) (hs:Sl G encN 6 p S) (hP:P.length<=60) (hL:L.length<=20) (hS:S.length<=50) (hk:0<=kind/\kind<=255) (hl:lim<=G.length)
  (f1:fr 1=.slice p S.length c) (f2:fr 2=Vi item) (f3:fr 3=Vi now) (f4:fr 4=.int .u8 kind) (f5:fr 5=Vp B5) (k5:NE G B5=Vc (netV pp P.length cp pL L.length cL)) :
  PT E a4 lim [.code X4] fr G fun v _=>v=.bool true:=by
 rw [Obv];refine NJ ?_;have x5:=zc k5;simp only [UF,QP,c4,n4,OG,NK,f5,x5,SB,seval,NF,NL];refine Nqx (lim:=lim) (hN.app _) hP (by omega) (by simp;omega) fun G1 b1 b2 F y ar au=>?_
 have g:Chg [] G G1:=F.pre;have aw:=g.len;refine NJ ?_;simp only [n4,f1,SB,seval,NF,NL];refine N56 (lim:=lim) ((g.sl hs (fun a _ _ h=>(by cases h))).app _) (by omega) (by simp;omega) fun G2 t H=>?_
 have d:Chg [] G1 G2:=H.pre;have ax:=d.len;rw [Na] at t;have s:LentN G2 b1 b2 P L:=⟨d.cells y.i (by simp),d.cells y.l (by simp)⟩
 have J:=s.net hN;refine NJ ?_;simp only [n4,OG,NK,NI,f2,f3,show lim<=G2.length by omega,SB,seval,NF,NL,place,NB];have ah:Sl G2 encN 6 (Sa G1.length) S:=(Sl.row OL t).pre OL;refine NQ.mono (N0i hE (lim:=lim) (P:=P) (L:=L) (S:=S) (J.app _) (ah.app _) (by omega) (by simp;omega)) fun v n Z=>?_
 obtain ⟨q,V,rfl,hT⟩:=Z;have B:=hT.len;have T:=q.len;simp at T;have e:Chg [] G2 n:=q.pre;have aa:=q.cells (j:=G2.length) (ro:=false) (c:=netV (Sa b1) P.length (P.length+12) (Sa b2) L.length (L.length+12)) (by rw [NN];rfl) (by simp);have ak:=zc aa;have f:Chg [] G n:=(g.trans d).trans e;have ab:=f.cells k5 (by simp);have al:=zc ab;have z:LentN n b1 b2 P L:=⟨e.cells s.i (by simp),e.cells s.l (by simp)⟩
 have K:=hN.sim fun b ro x R=>f.cells R (by simp)
 have u:=e.cells t (by simp);have ai:=f.sl hs (fun a _ _ h=>(by cases h));have kn:=fun X (mp:Bool) (lim:Nat) (Q:Value->NA->Prop)=>Nq5 (mp:=mp) (lim:=lim) (d1:=cp) (d2:=cL) (Q:=Q) (⟨(OD.refl.app (X:=X)).cells z.i,(OD.refl.app (X:=X)).cells z.l⟩:LentN (n++X) b1 b2 P L) (K.app X) hP (by omega)
 have ag:=fun X (mp:Bool) (lim:Nat) (Q:Value->NA->Prop)=>N6a (mp:=mp) (lim:=lim) (c:=c) (Q:=Q) (ai.app X) (by omega) ((OD.refl.app (X:=X)).cells u)
 refine NJ ?_;simp only [n4,OG,NK,NI,f1,f5,B,ak,al,kn,ag,show lim<=n.length by omega,SB,seval,NF,NL,RN,place,NB];have aq:G1.length<n.length:=NM u;refine Nuy (lim:=lim) ((OD.refl.app).cells u) (by omega) (by omega) fun D r=>?_
 have U:=r.len;simp at U;have kV:=r.cells (j:=n.length) (ro:=false) (c:=V) (by rw [NN];rfl) (by simp;omega);have xV:=zc kV;have o:Chg [G1.length] n D:=r.pre;have N:=hT.chg o (fun j w=>by simp only [Nq] at w;subst w;simp;omega);have m:Chg [] G D:=f.trans' o fun j w av=>by simp only [Nq] at w;omega
 have ad:=m.cells k5 (by simp);have am:=zc ad;have M:=hN.sim fun b ro x R=>m.cells R (by simp)
 have aj:=m.sl hs (fun a _ _ h=>(by cases h));refine NJ ?_;simp only [n4,OG,NK,f1,f2,f3,f5,am,SB,seval,NF,NL];refine NQ.mono (Nuj (lim:=lim) (P:=P) (L:=L) (S:=S) (M.app _) (aj.app _) hS (by simp;omega)) fun v G6 Z=>?_
 obtain ⟨I,V',rfl,A⟩:=Z;have C:=A.len;have k:Chg [] D G6:=I.pre;have ay:=k.len;have ae:=k.cells kV (by simp);have an:=zc ae;have O:=N.chg k (fun j w=>by cases w);have Y:=Ntz O A hS;refine NJ ?_;simp only [n4,NK,NI,B,C,an,Y,show lim<=G6.length by omega,SB,seval,NF,NL,NH,RN,place,NB];exact Ob6 W hk f4
theorem AnomalyTells_ok [OB] (j:EffOk) (b:OA.on 18=true) {lim:Nat} {p:Option Addr} {kind:Int} (hN:NetIn H pp pL P L) (hs:Sl H encN 6 p S) (hk:0<=kind/\kind<=255) :
  NQ E mp lim 4 [.agg (netV pp P.length cp pL L.length cL).toArray,.slice p S.length c,Vi item,Vi now,.int .u8 kind] H Q=Q (.bool true) H:=by
 refine pc (by decide) rfl rfl rfl ?_;rw [b4,Of0];by_cases a:(60:Int)<(P.length:Int)
 ·simp only [UF,QP,c4,n4,r4,Rw,XJ b,Nh a,SB,seval,NF,NL,NH,NG,place,NB,NC]
 by_cases d:(20:Int)<(L.length:Int)
 ·simp only [UF,QP,c4,n4,r4,Rw,QE,XJ b,Nc a,Nh d,SB,seval,NF,NL,NH,NG,place,NB,NC]
 by_cases g:(50:Int)<(S.length:Int)
 ·simp only [UF,QP,c4,n4,r4,Rw,QE,XJ b,Nc a,Nc d,Nh g,Nh (show (24:Int)<(S.length:Int) by omega),Nc (show ¬(S.length:Int)<41 by omega),SB,seval,NF,NL,NH,NG,place,NB,NC]
 by_cases e:(24:Int)<(S.length:Int)/\(S.length:Int)<41
 ·simp only [UF,QP,c4,n4,r4,Rw,QE,XJ b,Nc a,Nc d,Nh e.1,Nh e.2,SB,seval,NF,NL,NH,NG,place,NB,NC]
 by_cases f:(24:Int)<(S.length:Int)
 ·have i:¬(S.length:Int)<41:=fun h=>e ⟨f,h⟩
  simp only [UF,QP,c4,n4,Rw,QE,Nc a,Nc d,Nc g,Nh f,Nc i,SB,seval,NL,NH,NG,place,NB];exact N7w j b (hN.app _) (hs.app _) (by omega) (by omega) (by omega) hk (by simp) rfl rfl rfl rfl rfl (by rw [NN];rfl)
 ·simp only [UF,QP,c4,n4,Rw,QE,Nc a,Nc d,Nc g,Nc f,SB,seval,NL,NH,NG,place,NB];exact N7w j b (hN.app _) (hs.app _) (by omega) (by omega) (by omega) hk (by simp) rfl rfl rfl rfl rfl (by rw [NN];rfl)
end Go.Proofs.YtkppjkkkdpcgiaaGreat.Fn




