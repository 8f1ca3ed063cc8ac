/-
  Joined texts, 6 of 10. A part of the claim that the last text states.
-/
import Derived.Test.YtohnaffmcjbpoaaGreatPS5
set_option linter.unusedVariables false
set_option linter.unusedSimpArgs false
set_option linter.defProp false
set_option linter.unusedSectionVars false
set_option maxRecDepth 100000
set_option maxHeartbeats 4000000
namespace Go.Proofs.YtohnaffmcjbpoaaGreat.Fn
open Go.AM Go.AM.Sym Go.Net Go.Flow
theorem N0w (n:Nat):n ^^^ 1=tw n:=by
 have h1:(n ^^^ 1) / 2=n / 2:=by rw [Nat.xor_div_two];simp
 have h2:(n ^^^ 1) % 2=(n+1) % 2:=by
  have a:=Nat.testBit_xor n 1 0
  rw [Rx,Rx,Rx] at a
  rcases R2 n with h | h<;>rcases R2 (n ^^^ 1) with h4 | h4<;>rw [h,h4] at a<;>first | omega | simp at a
 unfold tw
 split<;>omega
theorem Nzr {n:Nat} (h:n<2 ^ 60):IntKind.i64.wrap ((BitVec.ofInt 64 (n:Int) ^^^ BitVec.ofInt 64 1).toNat:Int)=(tw n:Int):=by
 have e1:BitVec.ofInt 64 (n:Int)=BitVec.ofNat 64 n:=by simp
 have e2:BitVec.ofInt 64 1=BitVec.ofNat 64 1:=rfl
 have h1:tw n<2 ^ 61:=by unfold tw;split<;>omega
 rw [e1,e2,BitVec.toNat_xor,Qv,Qv,Qj (by omega),Qj (by omega),N0w]
 exact NY (by omega) (by omega)
theorem Nqh {H:NB} {q:Option Addr} {T:List Nat} {i:Nat} (h:Sl H Tq 1 q T) (hi:i<T.length):∀X,AM.loadCell (H++X) (SX q 1 i)=some (Vi ((gt T i:Nat):Int)):=fun X=>by
 rw [(h.app X).loadCell0 RZ hi (by decide)];rfl
theorem QN {α:Type} {enc:α->List Value} {e:Nat} {H:NB} {q:Option Addr} {T:List α} {i n:Nat} (h:Sl H enc e q T) (hi:i<n) (a:T.length=n):∀(c:Nat) (k:IntKind) (H1:NB),Vh e (.slice q n c) (.int k (i:Int)) H1=some (.pointer (some (SX q e i)),H1):=fun c k H1=>by
 subst a;exact h.idx hi
theorem Nt8 {H:NB} {q:Option Addr} {T:List Yo} {i:Nat} (h:Sl H Ncw 1 q T) (hi:i<T.length):∀X,AM.loadCell (H++X) (SX q 1 i)=some (.slice (gt T i).1 (gt T i).2.1 (gt T i).2.2):=fun X=>by
 rw [(h.app X).loadCell0 VK hi (by decide)];rfl
section
variable {lim Ba Bn A:Nat} {w:List Value} {pv po:Option Addr} {cv co:Nat} {ols:List Yo} {out:List (List Nat)} {L:List Int} {na ca nn cn:Nat} {M:Int}
theorem Nxl [OB] (ap:lim<=Ba) (aq:lim<=Bn) (C:Ba≠Bn) (hM:∀v,RJ L v<=M) (bk:∀v,-20000<=RJ L v) (bw:out.length<2 ^ 40) :
  ∀(m:Nat) (v:Nat) (g:Int) (l:List Pr) (nx:List Nat) (G:NB) (Q:Value->NB->Prop),(M-RJ L v).toNat<m->v<out.length->0<g->g<=VW->OutOk l out->Uz out (RJ L) l nx->(∀i,i / 2<l.length->0<=rm l i/\rm l i+rm l (tw i)<=VW)->nx.length=out.length->nn=nx.length->na=2*l.length->l.length<2 ^ 40->(∀u,(gt out u).length<2 ^ 40)->(∀u,gt nx u<=(gt out u).length)->
   Stays Ba Bn A G w pv po cv co ols out L na ca nn cn->NC G Ba=Vc ((SF l).flatMap enc2)->NC G Bn=Vc (nx.flatMap Tq)->
   (∀s l' nx' G',Sent out (RJ L) v g l nx s l' nx'->Chg [Ba,Bn] G G'->NC G' Ba=Vc ((SF l').flatMap enc2)->NC G' Bn=Vc (nx'.flatMap Tq)->Q (Vi s) G')->
   NR E false lim 64 [Vp A,Vi v,Vi g] G Q:=by
 intro m
 induction m with
 | zero=>intro v g l nx G Q hm;omega
 | succ m ih=>
   intro v g l nx G Q hm hv hg b3 ho hD hr b8 bl b6 bt W V hS hA hN hQ
   refine Te (by decide) e64 rfl ?_
   rw [b64,c64]
   by_cases h1:v=1
   ·have Z:(v:Int)=1:=by omega
    simp only [n64,r64,Nq Z,SB,seval,NJ,NF,NH,NG]
    subst h1
    exact hQ g l nx _ (.fin _ _ (by omega) (fun i hi=>(hr i hi).1) hD) Chg.refl.app ((NZ.refl.app).cells hA) ((NZ.refl.app).cells hN)
   have Z:¬(v:Int)=1:=by omega
   simp only [n64,Nn Z,SB,seval,NJ,NF,reduceCtorEq,NH]
   obtain ⟨w8,w2,w3,w4,w5⟩:=hS.hdr
   have bp:VW=1152921504606846976:=rfl
   refine NM (fun x:Int×List Pr×List Nat=>(gt out v).length-gt x.2.2 v) (fun x fr G'=>fr 0=Vp A/\fr 1=Vi v/\fr 2=Vi g/\fr 7=.func (.func 64) #[Vp A] #[]/\fr 8=Vi x.1/\Chg [Ba,Bn] G G'/\NC G' Ba=Vc ((SF x.2.1).flatMap enc2)/\NC G' Bn=Vc (x.2.2.flatMap Tq)/\Mid out (RJ L) v g l nx x.1 x.2.1 x.2.2) (0,l,nx)
    ⟨rfl,rfl,rfl,rfl,by rfl,Chg.refl.app,(NZ.refl.app).cells hA,(NZ.refl.app).cells hN,.start _ _ hg (fun i hi=>(hr i hi).1) hD⟩ ?_
   rintro ⟨s,l1,nx1⟩ fr G1 ⟨J,f1,f2,f7,f8,hC,f,t,d⟩ ad
   simp only at f8 f t d
   rw [NQ Nuo.eq_1]
   have B:=hS.chg hC
   obtain ⟨bA,sV,sO,sU⟩:=B.keep G1 Chg.refl
   obtain ⟨ay,bx⟩:=hS.len
   have I:=fun X=>(NZ.refl.app (X:=X)).cells bA
   have sN:Sl G1 Tq 1 (Sa Bn) nx1:=Sl.row RZ t
   have sA:Sl G1 enc2 2 (Sa Ba) (SF l1):=Sl.row PO f
   have az:nx1.length=nn:=by rw [d.nxlen,bl]
   have cg:l1.length=l.length:=d.same.len
   have lN:=Nqh (i:=v) sN (by omega)
   have xN:=QN (i:=v) (n:=nn) sN (by omega) az
   have lO:=Nt8 (i:=v) sO (by omega)
   have xO:=QN (i:=v) (n:=out.length) sO hv ay
   have ak:=hS.cut v hv
   rw [ak] at lO
   have b2:gt nx1 v<=(gt out v).length:=by have:=d.bnd v;have:=V v;unfold outs at *;omega
   generalize hk:gt nx1 v=k at *
   refine NI ?_
   by_cases q:k<(gt out v).length
   case neg=>
    have bu:¬(k:Int)<((gt out v).length:Int):=by omega
    simp only [n64,r64,J,f1,f8,I,w3,w5,lN,xN,lO,xO,q,SB,seval,NJ,NF,reduceCtorEq,NG]
    exact hQ s l1 nx1 _ (d.stop h1 (by unfold outs;omega)) hC.app ((NZ.refl.app).cells f) ((NZ.refl.app).cells t)
   obtain ⟨a,ae⟩:∃a,a=gt (gt out v) k:=⟨_,rfl⟩
   have bf:a∈Flow.outs out v:=by rw [ae];exact PK q
   have ao:gt (Flow.outs out v) k=a:=ae.symm
   have av:=ho.alike d.same
   obtain ⟨o1,o2,o3⟩:=av.ok v a bf
   have O:a / 2<l.length:=by omega
   have lU:=Nqh (sU v hv) q
   have xU:=QN (sU v hv) q rfl
   rw [<-ae] at lU
   have lA:=fun X=>(sA.app X).loadCells PO (i:=a) (by rw [RV];omega)
   have xA:=QN (i:=a) (n:=na) sA (by omega) (by rw [RV];omega)
   simp only [VP o1,enc2] at lA
   have D:lim<=G1.length:=by have:=ND f;omega
   have ah:=TT (i:=hd l1 a) sV (by omega)
   have ba:=QN (i:=hd l1 a) (n:=L.length) sV (by omega) rfl
   have ai:=TT (i:=v) sV (by omega)
   have bb:=QN (i:=v) (n:=L.length) sV (by omega) rfl
   rw [Ngm (by omega)] at ah ai
   have ce:=hr a O
   have bq:rm l1 a+rm l1 (tw a)=rm l a+rm l (tw a):=d.same.cap a O
   have ck:=d.nn a O
   have cm:=d.nn (tw a) (by rw [VX];exact O)
   have wk:IntKind.i64.wrap ((k:Int)+1)=((k+1:Nat):Int):=NS (by have:=W v;omega)
   by_cases ag:0<rm l1 a/\RJ L v<RJ L (hd l1 a)
   case neg=>
    have au:=d.skip (k:=k) (by omega) hk (by unfold Flow.outs;omega) (by rw [ao];exact ag)
    obtain ⟨G3,e3,k3,m3⟩:=Uq (lim:=lim) (p:=Sa Bn) (i:=v) RZ rfl t aq (by omega) (k+1)
    simp only [Tq] at e3
    have z:Chg [Ba,Bn] G G3:=hC.mut m3 (.inl (by simp))
    by_cases y:0<rm l1 a
    ·have F:¬RJ L v<RJ L (hd l1 a):=fun h=>ag ⟨y,h⟩
     simp only [n64,J,f1,I,w2,w3,w4,w5,lN,xN,lO,xO,q,lU,xU,lA,xA,D,ah,ba,ai,bb,wk,Nq y,Nn F,e3,SB,seval,NJ,NF,reduceCtorEq,place,NA]
     exact ad (s,l1,nx1.set v (k+1)) _ _ ⟨J,f1,f2,f7,f8,z.app,(NZ.refl.app).cells (m3.cells f C),(NZ.refl.app).cells k3,au⟩ (by show (gt out v).length-gt (nx1.set v (k+1)) v<(gt out v).length-k;rw [gt_set (by omega),Nk rfl];omega)
    ·simp only [n64,J,f1,I,w2,w3,w5,lN,xN,lO,xO,q,lU,xU,lA,xA,D,wk,Nn y,e3,SB,seval,NJ,NF,reduceCtorEq,place,NA]
     exact ad (s,l1,nx1.set v (k+1)) _ _ ⟨J,f1,f2,f7,f8,z.app,(NZ.refl.app).cells (m3.cells f C),(NZ.refl.app).cells k3,au⟩ (by show (gt out v).length-gt (nx1.set v (k+1)) v<(gt out v).length-k;rw [gt_set (by omega),Nk rfl];omega)
   obtain ⟨y,F⟩:=ag
   have ci:=d.lo
   have cj:=d.lt
   have bm:IntKind.i64.wrap (g-s)=g-s:=NY (by omega) (by omega)
   simp only [n64,J,f1,f2,f7,f8,I,w2,w3,w4,w5,lN,xN,lO,xO,q,lU,xU,lA,xA,D,ah,ba,ai,bb,Nq y,Nq F,bm,N3o,SB,seval,NE,NJ,NF,reduceCtorEq,place,NA]
   have S:Chg [Ba,Bn] G1 (G1++[Vc [Vi (hd l1 a:Int),Vi (rm l1 a)]]):=Chg.refl.app
   refine ih (hd l1 a) (min (g-s) (rm l1 a)) l1 nx1 _ _ (by have:=hM (hd l1 a);have:=bk v;omega) o3 (by omega) (by omega) av d.done (fun i hi=>⟨d.nn i (by omega),by rw [d.same.cap i (by omega)];exact (hr i (by omega)).2⟩) (by omega) (by omega) (by omega) (by omega) W (fun u=>by have:=d.bnd u;have:=V u;unfold Flow.outs at *;omega) (B.chg S) ((NZ.refl.app).cells f) ((NZ.refl.app).cells t) fun b e r G2 o an am be=>?_
   obtain ⟨t1,t2,t3,t4,t5⟩:=d.take ho (k:=k) (i:=a) (by omega) hk (by unfold Flow.outs;omega) ao y F o
   have T:Chg [Ba,Bn] G1 G2:=S.trans an
   obtain ⟨bc,cz,cx,cy⟩:=B.keep G2 T
   have P:=fun X=>(NZ.refl.app (X:=X)).cells bc
   have b5:e.length=l1.length:=o.same.len
   have b0:=fun X=>(NZ.refl.app (X:=X)).cells (an.cells (j:=G1.length) (ro:=false) (c:=[Vi (hd l1 a:Int),Vi (rm l1 a)]) (by rw [NN];rfl) (by have:=ND f;have:=ND t;simp;omega))
   have a0:Sl G2 enc2 2 (Sa Ba) (SF e):=Sl.row PO am
   have a6:=QN (i:=a) (n:=na) a0 (by omega) (by rw [RV];omega)
   have cf:tw a / 2=a / 2:=VX a
   have K:=fun X=>(a0.app X).loadCell PO (i:=a) (j:=1) (by rw [RV];omega) (by decide)
   rw [VP (by omega)] at K
   simp only [enc2,O8,Rn] at K
   have br:rm e a+rm e (tw a)=rm l1 a+rm l1 (tw a):=o.same.cap a (by omega)
   have cr:=o.nn a (by omega)
   have cu:=o.nn (tw a) (by omega)
   have a2:IntKind.i64.wrap (rm e a-b)=rm e a-b:=NY (by omega) (by omega)
   have a3:IntKind.i64.wrap (rm e (tw a)+b)=rm e (tw a)+b:=NY (by omega) (by omega)
   have a5:IntKind.i64.wrap (s+b)=s+b:=NY (by omega) (by omega)
   obtain ⟨G3,e3,k3,m3⟩:=UO (lim:=lim) (i:=a) (j:=1) (v:=Vi (rm e a-b)) PO am ap (by rw [RV];omega) (by decide) ((hd e a:Int),rm e a-b) (by rw [VP (by omega)];rfl)
   have a1:Sl G3 enc2 2 (Sa Ba) ((SF e).set a ((hd e a:Int),rm e a-b)):=Sl.row PO k3
   have bh:((SF e).set a ((hd e a:Int),rm e a-b)).length=2*e.length:=by rw [Pd,RV]
   have a8:=QN (i:=tw a) (n:=na) a1 (by omega) (by omega)
   have N:=fun X=>(a1.app X).loadCell PO (i:=tw a) (j:=1) (by omega) (by decide)
   have g3:gt ((SF e).set a ((hd e a:Int),rm e a-b)) (tw a)=((hd e (tw a):Int),rm e (tw a)):=by rw [gt_set (by rw [RV];omega),Nf (Nzt a),VP (by omega)]
   rw [g3] at N
   simp only [enc2,O8,Rn] at N
   obtain ⟨G4,e4,k4,m4⟩:=UO (lim:=lim) (i:=tw a) (j:=1) (v:=Vi (rm e (tw a)+b)) PO k3 ap (by omega) (by decide) ((hd e (tw a):Int),rm e (tw a)+b) (by rw [g3];rfl)
   rw [Nfm (by omega)] at k4
   have z:Chg [Ba,Bn] G1 G3:=T.mut m3 (.inl (by simp))
   have aa:Chg [Ba,Bn] G1 G4:=z.mut m4 (.inl (by simp))
   have R:=fun X=>(NZ.refl.app (X:=X)).cells (B.keep G3 z).1
   have aj:=fun X=>(NZ.refl.app (X:=X)).cells (B.keep G4 aa).1
   have ac:NC G4 Bn=Vc (r.flatMap Tq):=m4.cells (m3.cells be (Ne.symm C)) (Ne.symm C)
   have Y:IntKind.i64.wrap (((BitVec.ofInt IntKind.i64.bits (a:Int) ^^^ BitVec.ofInt IntKind.i64.bits 1).toNat:Nat):Int)=((tw a:Nat):Int):=Nzr (n:=a) (by omega)
   refine NI ?_
   by_cases H:s+b=g
   ·simp only [n64,r64,J,f2,f8,P,R,w2,a6,K,a2,e3,Y,a8,N,a3,e4,a5,Nq H,SB,seval,NJ,NF,reduceCtorEq,NA,NG]
    exact hQ (s+b) _ r _ (by rw [H];exact t1 H) (hC.trans aa).app ((NZ.refl.app).cells k4) ((NZ.refl.app).cells ac)
   ·have U:Sl G4 Tq 1 (Sa Bn) r:=Sl.row RZ ac
    have bz:r.length=nx1.length:=o.nxlen
    have bg:gt r v=k:=(o.keep v F).trans hk
    have aw:=Nqh (i:=v) U (by omega)
    have bo:=QN (i:=v) (n:=nn) U (by omega) (by omega)
    rw [bg] at aw
    obtain ⟨G5,e5,k5,m5⟩:=Uq (lim:=lim) (p:=Sa Bn) (i:=v) RZ rfl ac aq (by omega) (k+1)
    simp only [Tq] at e5
    simp only [n64,J,f1,f2,f8,P,R,aj,w2,w5,a6,K,a2,e3,Y,a8,N,a3,e4,a5,Nn H,aw,bo,wk,e5,SB,seval,NJ,NF,reduceCtorEq,NA]
    have bd:Chg [Ba,Bn] G G5:=(hC.trans aa).mut m5 (.inl (by simp))
    exact ad (s+b,RB e a b,r.set v (k+1)) _ _ ⟨J,f1,f2,f7,rfl,bd.app,(NZ.refl.app).cells (m5.cells k4 C),(NZ.refl.app).cells k5,t2 H⟩ (by show (gt out v).length-gt (r.set v (k+1)) v<(gt out v).length-k;rw [gt_set (by omega),Nk rfl];omega)
end
theorem N1n [OB] {mp:Bool} {lim n:Nat} {H:NB} {Q:Value->NB->Prop} (hn:n<2 ^ 32):NR E mp lim 106 [.int .u64 1,.int .u64 (n:Int)] H Q=Q (.tuple #[.int .u64 0,.int .u64 (n:Int)]) H:=by
 have key:∀(mp:Bool) (lim:Nat) (H:NB) (Q:Value->NB->Prop),NR E mp lim 130 [.int .u64 1,.int .u64 (n:Int)] H Q=Q (.tuple #[.int .u64 0,.int .u64 (n:Int)]) H:=by
  intro mp lim H Q
  refine pc (by decide) N5j rfl rfl ?_
  rw [N5z,c130]
  simp only [n130,N5a,SB,Nat.reduceLT,NJ,Nat.reduceEqDiff,NF,reduceCtorEq,NH,NG,Int.reduceLT]
  have a:∀m:Nat,m<2 ^ 32->IntKind.u64.wrap (((BitVec.ofInt IntKind.u64.bits (m:Int) &&& BitVec.ofInt IntKind.u64.bits 4294967295).toNat:Nat):Int)=(m:Int):=fun m e=>by
   have e1:BitVec.ofInt IntKind.u64.bits (m:Int)=BitVec.ofNat 64 m:=by show BitVec.ofInt 64 (m:Int)=_;simp
   have e2:BitVec.ofInt IntKind.u64.bits 4294967295=BitVec.ofNat 64 4294967295:=rfl
   rw [e1,e2]
   show IntKind.u64.wrap (((BitVec.ofNat 64 m &&& BitVec.ofNat 64 4294967295).toNat:Nat):Int)=_
   rw [Ry,Qv,Qv,Qj (by omega),Qj (by omega),show (4294967295:Nat)=2 ^ 32-1 by rfl,Nat.and_two_pow_sub_one_eq_mod,Qj e]
   simp only [IntKind.wrap,IntKind.bits,IntKind.signed]
   simp;omega
  have b:∀m:Nat,m<2 ^ 32->Int.fdiv (m:Int) (2 ^ min (Int.toNat 32) IntKind.u64.bits)=0:=fun m e=>by
   show Int.fdiv (m:Int) 4294967296=0
   rw [Rg _ (by decide)]
   omega
  have h:IntKind.u64.wrap (n:Int)=(n:Int):=by
   simp only [IntKind.wrap,IntKind.bits,IntKind.signed]
   simp;omega
  have g:IntKind.u64.wrap 0=0:=by decide
  have d:=a 1 (by decide)
  have c:=a 0 (by decide)
  have s1:=b 1 (by decide)
  have f:=b 0 (by decide)
  simp only [Int.ofNat_one,Int.ofNat_zero] at d c s1 f
  simp only [d,c,a n hn,s1,f,b n hn,Int.zero_mul,Int.one_mul,Ox,h,g]
 refine pc (by decide) N5k rfl rfl ?_
 rw [N50,N2j]
 simp only [n106,N5b,key,SB,Nat.reduceLT,NE,NJ,Nat.reduceEqDiff,reduceCtorEq,NH,NG]
theorem Nv2 {n:Nat} {x:Int}:(List.replicate n x).flatMap encI=List.replicate n (Vi x):=by
 induction n with
 | zero=>rfl
 | succ n ih=>rw [O9,N2,ih,O9];rfl
theorem Nnh {n:Nat} {v:Value}:List.map (fun j=>[v].getD (j % 1) undef) (List.range (n*1))=List.replicate n v:=by
 rw [Qw]
 apply Qo (by simp)
 intro i h1 h2
 simp [Nat.mod_one]
theorem Nf1 {e n c lo hi:Nat} {a:Addr} {vlo vhi:Option Value} (hc:c<2 ^ 62) (b:U7 n c vlo vhi none=some (lo,hi,c)):Ua e (.slice (some a) n c) vlo vhi none=some (.slice (some (if c=lo then a else a.add (lo*e))) (hi-lo) (c-lo)):=by
 unfold U7 at b
 simp only [Ua,Uj]
 rw [Nf (by unfold loose;omega),Nk hc]
 simp only [Ov] at b⊢
 have d:bounds unV n c (vlo.map Operand.const) (vhi.map Operand.const) none=some (lo,hi,c):=b
 rw [d]
 simp only
 split<;>rfl
theorem Nwg {lim B k r c c':Nat} {a b:Value} {H:NB} (hB:NC H B=Vc (List.replicate k a++List.replicate r b)) (hl:lim<=B) (d:0<k) (hr:0<r) :
  copyV lim 1 (.slice (some ⟨B,k,none⟩) r c) (.slice (Sa B) k c') H=some (Vi ((min k r:Nat):Int),H.set B (Vc (List.replicate (k+min k r) a++List.replicate (r-min k r) b))):=by
 have e1:AM.loadCells H ⟨B,0,none⟩ (min k r*1)=some (List.replicate (min k r) a):=by
  simp only [QM,hB,Qw,N0,Po]
  rw [Nk (by simp;omega),Rd (by simp;omega),List.take_replicate,Pa (by omega)]
 simp only [copyV,lenOf,TC,e1]
 rw [Nf (by omega)]
 simp only [Ur,hB,Oy]
 rw [Nk ⟨hl,by simp;omega⟩]
 simp only [Nz]
 congr 4
 have h:=Nkf (List.replicate (min k r) a) (List.replicate k a) (List.replicate (min k r) b) (List.replicate (r-min k r) b) (by simp)
 rw [Oy,Nr,R1,show min k r+(r-min k r)=r by omega] at h
 rw [h,R1]
theorem No7 [OB] {lim n c:Nat} {x:Int} {p:Option Addr} {H:NB} {Q:Value->NB->Prop} (d:lim<=H.length) (h1:1<=n) (hn:n<2 ^ 30) (l:Sl H encI 1 p [x])
  (t:∀H',Chg [] H H'->NC H' H.length=Vc ((List.replicate n x).flatMap encI)->H.length<H'.length->Q (.slice (Sa H.length) n n) H'):NR E false lim 86 [.slice p 1 c,Vi n] H Q:=by
 refine Te (by decide) e86 rfl ?_
 rw [b86,c86]
 have y:=fun (H:NB) (mp:Bool) (lim:Nat) (Q:Value->NB->Prop)=>N1n (mp:=mp) (lim:=lim) (n:=n) (H:=H) (Q:=Q) (by omega)
 have J:IntKind.u64.wrap (n:Int)=(n:Int):=by
  simp only [IntKind.wrap,IntKind.bits,IntKind.signed]
  simp;omega
 have D:IntKind.u64.wrap 1=1:=by decide
 have F:IntKind.i64.wrap (n:Int)=(n:Int):=NY (by omega) (by omega)
 have A:=Nn (show ¬(n:Int)<0 by omega)
 have nb:=Nn (show ¬(9223372036854775807:Int)<(n:Int) by omega)
 have j:=Nq (show 0<=(n:Int)/\(n:Int)*8<=2 ^ 45/\(n:Int)<2 ^ 62 by omega)
 have h:∀X,copyV lim 1 (.slice (Sa H.length) n n) (.slice p 1 c) (H++Vc (List.replicate n (Vi 0))::X)=some (Vi 1,H++Vc (List.replicate 1 (Vi x)++List.replicate (n-1) (Vi 0))::X):=fun X=>by
  have u:NC (H++Vc (List.replicate n (Vi 0))::X) H.length=Vc (List.replicate n (Vi 0)):=NN
  obtain ⟨a,rfl⟩:=l.some (by simp)
  have e1:AM.loadCells (H++Vc (List.replicate n (Vi 0))::X) a 1=some [Vi x]:=by
   have:=(l.app (Vc (List.replicate n (Vi 0))::X)).loadCells OU (i:=0) (by simp)
   have e0:SX (some a) 1 0=a:=by
    have h1:=l.1
    obtain ⟨b,o,sp⟩:=a
    simp only at h1
    subst h1
    simp [SX,addrOf,addr_add]
   rw [e0] at this
   exact this
  simp only [copyV,lenOf,TC,Pa h1,Qw,e1]
  rw [Nf (by omega)]
  simp only [Ur,u,Oy]
  rw [Nk ⟨d,by simp;omega⟩]
  simp only [Nz]
  rw [Nb0,Qr]
  congr 5
  obtain ⟨m,rfl⟩:∃m,n=m+1:=⟨n-1,by omega⟩
  rw [O9]
  rfl
 simp only [n86,y,J,D,F,A,nb,j,Nnh,h,SB,Nat.reduceLT,NE,NJ,Nat.reduceEqDiff,NF,reduceCtorEq,NH,place,Int.reduceLT]
 refine NM (fun k=>n-k) (fun k fr G=>1<=k/\k<=n/\fr 7=.slice (Sa H.length) n n/\fr 8=Vi k/\Chg [] H G/\NC G H.length=Vc (List.replicate k (Vi x)++List.replicate (n-k) (Vi 0))) 1
  ⟨Ng _,h1,rfl,by rfl,Chg.refl.app,NN⟩ ?_
 intro k fr G ⟨v,w,f,q,r,hB⟩ s
 rw [NQ Nzy.eq_1]
 refine NI ?_
 by_cases e:k<n
 case neg=>
  obtain rfl:k=n:=by omega
  rw [Q2,List.replicate_zero,Na] at hB
  simp only [n86,r86,f,q,e,SB,Nat.reduceLT,NJ,Nat.reduceEqDiff,NF,NG]
  exact t _ r.app (by rw [Nv2];exact (NZ.refl.app).cells hB) (by have:=ND hB;simp;omega)
 have g:NC (G++[]) H.length=Vc (List.replicate k (Vi x)++List.replicate (n-k) (Vi 0)):=(NZ.refl.app).cells hB
 have hc:=Nwg (lim:=lim) (c:=n-k) (c':=n) g d (by omega) (by omega)
 have B:Ua 1 (.slice (Sa H.length) n n) (some (Vi k)) none none=some (.slice (some ⟨H.length,k,none⟩) (n-k) (n-k)):=by
  rw [Nf1 (lo:=k) (hi:=n) (by omega) (by rw [Nda (by omega) (by omega),O0]),Nf (by omega)];simp [addr_add]
 have C:Ua 1 (.slice (Sa H.length) n n) none (some (Vi k)) none=some (.slice (Sa H.length) k n):=by
  rw [Nf1 (lo:=0) (hi:=k) (by omega) (by rw [Nmb (by omega) (by omega),O0]),Nf (by omega)];simp [addr_add]
 obtain ⟨K,e2,k2,z⟩:=OO (ND hB) (Vc (List.replicate (k+min k (n-k)) (Vi x)++List.replicate (n-k-min k (n-k)) (Vi 0)))
 have I:IntKind.i64.wrap ((k:Int)+((min k (n-k):Nat):Int))=((k+min k (n-k):Nat):Int):=by rw [NY (by omega) (by omega)];omega
 simp only [n86,f,q,e,B,C,hc,e2,I,SB,Nat.reduceLT,NJ,Nat.reduceEqDiff,NF]
 exact s (k+min k (n-k)) _ _ ⟨by omega,by omega,f,rfl,(r.mut z (.inr (Ng _))).app,by rw [show n-(k+min k (n-k))=n-k-min k (n-k) by omega];exact (NZ.refl.app).cells k2⟩ (by omega)
def Que (lo:Nat) (G:NB) (p:Option Addr) (c:Nat) (q:List Nat):Prop:=∃R o cs,p=some ⟨R,o,none⟩/\NC G R=Vc cs/\o+q.length<=cs.length/\(cs.drop o).take q.length=q.flatMap Tq/\lo<=R/\(c=loose 1\/c=q.length)
theorem Que.sl {lo c:Nat} {G:NB} {p:Option Addr} {q:List Nat} (h:Que lo G p c q):Sl G Tq 1 p q:=by
 obtain ⟨R,o,cs,rfl,h1,h2,a,_⟩:=h
 exact ⟨rfl,fun _=>⟨false,cs,h1,by rw [Qw];exact h2,by rw [Qw];exact a⟩⟩
theorem Que.chg {lo c:Nat} {S:List Nat} {G G':NB} {p:Option Addr} {q:List Nat} (h:Que lo G p c q) (hc:Chg S G G') (hS:∀b∈S,b<lo):Que lo G' p c q:=by
 obtain ⟨R,o,cs,a,h1,h2,d,e,f⟩:=h
 exact ⟨R,o,cs,a,hc.cells h1 (fun g=>by have:=hS R g;omega),h2,d,e,f⟩
theorem Nxj {e n lo hi:Nat} {a:Addr} {vlo vhi:Option Value} (b:U7 n n vlo vhi none=some (lo,hi,n)):Ua e (.slice (some a) n (loose e)) vlo vhi none=some (.slice (some (a.add (lo*e))) (hi-lo) (loose e)):=by
 unfold U7 at b
 simp only [Ua,Uj,if_true]
 simp only [Ov] at b⊢
 have c:bounds unV n n (vlo.map Operand.const) (vhi.map Operand.const) none=some (lo,hi,n):=b
 rw [c]
 rfl
theorem Que.tail {lo c x:Nat} {G:NB} {p:Option Addr} {r:List Nat} (h:Que lo G p c (x::r)) (hl:r.length<2 ^ 60):∃i c',Ua 1 (.slice p (r.length+1) c) (some (Vi 1)) none none=some (.slice i r.length c')/\Que lo G i c' r:=by
 obtain ⟨R,o,cs,rfl,h1,h2,b,d,g⟩:=h
 simp only [Nj] at h2 b g
 have a:(cs.drop (o+1)).take r.length=r.flatMap Tq:=by
  have e:(x::r).flatMap Tq=Vi x::r.flatMap Tq:=rfl
  rw [e,Pk (by omega),Pt] at b
  exact (List.cons.inj b).2
 rcases g with rfl | rfl
 ·refine ⟨_,_,Nxj (e:=1) (lo:=1) (hi:=r.length+1) (by rw [Nda (by omega) (by omega)];rfl), ?_⟩
  exact ⟨R,o+1,cs,by simp [addr_add],h1,by omega,a,d,.inl rfl⟩
 ·refine ⟨_,_,Nf1 (e:=1) (lo:=1) (hi:=r.length+1) (by omega) (by rw [Nda (by omega) (by omega)];rfl), ?_⟩
  by_cases hr:r.length+1=1
  ·have f:r=[]:=List.length_eq_zero_iff.1 (by omega)
   subst f
   exact ⟨R,o,cs,by simp,h1,by omega,by simp,d,.inr rfl⟩
  ·exact ⟨R,o+1,cs,by rw [Nf hr];simp [addr_add],h1,by omega,a,d,.inr (by omega)⟩
theorem Que.push {lo lim c x:Nat} {G:NB} {p:Option Addr} {q:List Nat} (h:Que lo G p c q) (n:lim<=lo) (m:lo<=G.length) (hl:q.length<2 ^ 30):∃a,OW lim none 1 8 false (.slice p q.length c) (.slice (Sa G.length) 1 1) (G++[Vc [Vi x]])=some (.slice (Sa (G.length+1)) (q.length+1) (loose 1),a++[])/\Que lo a (Sa (G.length+1)) (loose 1) (q++[x])/\(∀b,b<lo->NC a b=NC G b)/\G.length<=a.length:=by
 obtain ⟨R,o,cs,rfl,h1,h2,i,r,j⟩:=h
 have e:=ND h1
 have d:NC (G++[Vc [Vi x]]) R=Vc cs:=by rw [NK e];exact h1
 have e1:AM.loadCells (G++[Vc [Vi x]]) ⟨R,o,none⟩ (q.length*1)=some (q.flatMap Tq):=by
  simp only [QM,d,Qw]
  rw [Nk h2,i]
 have e2:AM.loadCells (G++[Vc [Vi x]]) ⟨G.length,0,none⟩ (1*1)=some [Vi x]:=by
  simp only [QM,NN,Qw];rfl
 have f1:firstCells (G++[Vc [Vi x]]) 1 false (.slice (Sa G.length) 1 1)=some [Vi x]:=by
  simp only [firstCells,Oe,if_false]
  rw [Nf (by decide),e2]
 have f2:lenOf (.slice (Sa G.length) 1 1)=some 1:=rfl
 have g:¬(1:Nat)=0:=by decide
 have e3:q.flatMap Tq++[Vi x]=(q++[x]).flatMap Tq:=by rw [Pc];rfl
 have f:∀a:NB,NC a (G.length+1)=Vc ((q++[x]).flatMap Tq)->Que lo a (Sa (G.length+1)) (loose 1) (q++[x]):=fun a l=>by
  refine ⟨G.length+1,0,_,rfl,l, ?_, ?_,by omega,.inl rfl⟩
  ·rw [QW RZ];omega
  ·rw [Po,Oo (by rw [QW RZ];omega)]
 rcases j with rfl | rfl
 ·refine ⟨G.set R .dead++[Vc [Vi x],Vc ((q++[x]).flatMap Tq)], ?_,f _ (by rw [show G.length=(G.set R .dead).length by simp,OL];rfl),fun b k=>?_,by simp⟩
  ·simp only [OW,f1,f2,e1,g,if_false,if_true,d]
   rw [Nf (by unfold PM loose;rw [false_or];omega)]
   simp only [show lim<=R by omega,if_true,place,e3,P9 _ _ e,Nr,Na]
   simp
  ·rw [NK (by simp;omega)];exact OQ (by omega)
 ·refine ⟨G++[Vc [Vi x],Vc ((q++[x]).flatMap Tq)], ?_,f _ (by rw [OL];rfl),fun b k=>NK (by omega),by simp⟩
  simp only [OW,f1,f2,e1,g,if_false]
  rw [Nf (by unfold PM;rw [false_or];omega),Nf (by unfold loose;omega),Nk (by omega),Nf (by omega)]
  simp [place,e3]
structure Firm (A:Nat) (pa:Option Addr) (Lb:Nat) (G1:NB) (w:List Value) (po:Option Addr) (ols:List Yo) (out:List (List Nat)) (l:List Pr) (co ca cv:Nat):Prop where
 hdr:w[2]? = some (.slice pa (2*l.length) ca)/\w[3]? = some (.slice po out.length co)/\w[4]? = some (.slice (Sa Lb) out.length cv)
 keep:∀G,Chg [Lb] G1 G->NC G A=Vc w/\Sl G Ncw 1 po ols/\(∀v,v<out.length->Sl G Tq 1 (gt ols v).1 (gt out v))/\Sl G enc2 2 pa (SF l)
 len:ols.length=out.length
 cut:∀v,v<out.length->(gt ols v).2.1=(gt out v).length
 lb:Lb<G1.length
section
variable {lim A Lb:Nat} {pa:Option Addr} {G1:NB} {w:List Value} {po:Option Addr} {ols:List Yo} {out:List (List Nat)} {l:List Pr} {co ca cv:Nat} {G:NB} {fr:Nat->Value} {K:List AItem} {Z:Value->NB->Prop}
theorem Nsw [OB] {L:List Int} {q:List Nat} {p:Option Addr} {c v cc:Nat} (V:Firm A pa Lb G1 w po ols out l co ca cv) (ho:OutOk l out) (am:lim<=Lb) (aq:out.length<2 ^ 29) (ap:(gt out v).length<2 ^ 40) (aw:l.length<2 ^ 40)
  (hB:Bfs l out L q (some v) 0) (hQ:Que G1.length G p c q) (ay:q.length+UY L<2 ^ 29) (hC:Chg [Lb] G1 G) (hL:NC G Lb=Vc (L.flatMap encI))
  (f0:fr 0=Vp A) (f3:fr 3=.slice p q.length c) (f4:fr 4=Vi v) (ac:fr 47=.slice (gt ols v).1 (gt out v).length cc) (ad:fr 48=Vi ((gt out v).length:Int)) (ae:fr 49=Vi 0)
  (hK:∀fr' G' d z N c',Chg [Lb] G1 G'->NC G' Lb=Vc (d.flatMap encI)->Que G1.length G' N c' z->Bfs l out d z (some v) (gt out v).length->z.length+UY d=q.length+UY L->fr' 0=Vp A->fr' 3=.slice N z.length c'->PI E a63 lim K fr' G' Z) :
  PI E a63 lim (.code (.loop Nuq)::.inBlock 2::K) fr G Z:=by
 refine NM (fun s:Nat×List Int×List Nat×Option Addr×Nat=>(gt out v).length-s.1) (fun s fr' G'=>s.1<=(gt out v).length/\Chg [Lb] G1 G'/\NC G' Lb=Vc (s.2.1.flatMap encI)/\Que G1.length G' s.2.2.2.1 s.2.2.2.2 s.2.2.1/\Bfs l out s.2.1 s.2.2.1 (some v) s.1/\s.2.2.1.length+UY s.2.1=q.length+UY L/\
   fr' 0=Vp A/\fr' 3=.slice s.2.2.2.1 s.2.2.1.length s.2.2.2.2/\fr' 4=Vi v/\fr' 47=.slice (gt ols v).1 (gt out v).length cc/\fr' 48=Vi ((gt out v).length:Int)/\fr' 49=Vi s.1) (0,L,q,p,c)
  ⟨Nv _,hC,hL,hQ,hB,rfl,f0,f3,f4,ac,ad,by rw [ae];rfl⟩ ?_
 rintro ⟨k,d,z,N,c'⟩ fr' G' ⟨hk,m,t,y,g,o,g0,P,U,r,f,u⟩ hN
 simp only at hk t y g o P u
 rw [NQ Nuq.eq_1]
 refine NI ?_
 by_cases e:k<(gt out v).length
 case neg=>
  obtain rfl:k=(gt out v).length:=by omega
  simp only [n63,f,u,e,SB,seval,NJ,NF]
  exact hK _ _ d z N c' m.app ((NZ.refl.app).cells t) (y.chg (S:=[]) Chg.refl.app (fun b C=>by cases C)) g o g0 P
 obtain ⟨w2,w3,w4⟩:=V.hdr
 obtain ⟨bA,sO,sU,bB⟩:=V.keep G' m
 have Q:=V.lb
 obtain ⟨a,D⟩:∃a,a=gt (gt out v) k:=⟨_,rfl⟩
 have aj:a∈Flow.outs out v:=by rw [D];exact PK e
 obtain ⟨o1,o2,o3⟩:=ho.ok v a aj
 obtain ⟨hv,a0,_⟩:=g.cur v rfl
 have H:=fun X=>(NZ.refl.app (X:=X)).cells bA
 have Y:=Nqh (sU v hv) e
 have xU:=QN (sU v hv) e rfl
 rw [<-D] at Y
 have sA:Sl G' enc2 2 pa (SF l):=bB
 have W:=fun X=>(sA.app X).loadCells PO (i:=a) (by rw [RV];omega)
 have xA:=QN (i:=a) (n:=2*l.length) sA (by omega) RV
 simp only [VP o1,enc2] at W
 have F:=g.len
 have sL:Sl G' encI 1 (Sa Lb) d:=Sl.row OU t
 have M:=TT (i:=hd l a) sL (by omega)
 have T:=QN (i:=hd l a) (n:=out.length) sL o3 F
 have R:=TT (i:=v) sL (by omega)
 have an:=QN (i:=v) (n:=out.length) sL hv F
 rw [Ngm (by omega)] at M R
 have av:=m.len
 have J:lim<=G'.length:=by omega
 have wk:IntKind.i64.wrap ((k:Int)+1)=((k+1:Nat):Int):=NS (by omega)
 by_cases hm:0<rm l a/\RJ d (hd l a)<0
 case neg=>
  have B:Bfs l out d z (some v) (k+1):=g.next (by unfold Flow.outs;rw [<-D];exact hm)
  by_cases h1:0<rm l a
  ·have h2:¬RJ d (hd l a)<0:=fun h=>hm ⟨h1,h⟩
   simp only [n63,g0,r,f,u,e,H,w2,w4,Y,xU,W,xA,J,M,T,wk,Nq h1,Nn h2,SB,seval,NJ,NF,reduceCtorEq,place,NA]
   exact hN (k+1,d,z,N,c') _ _ ⟨by show k+1<=_;omega,m.app,(NZ.refl.app).cells t,y.chg (S:=[]) Chg.refl.app (fun b C=>by cases C),B,o,g0,P,U,r,f,rfl⟩ (by show (gt out v).length-(k+1)<(gt out v).length-k;omega)
  ·simp only [n63,g0,r,f,u,e,H,w2,Y,xU,W,xA,J,wk,Nn h1,SB,seval,NJ,NF,reduceCtorEq,place,NA]
   exact hN (k+1,d,z,N,c') _ _ ⟨by show k+1<=_;omega,m.app,(NZ.refl.app).cells t,y.chg (S:=[]) Chg.refl.app (fun b C=>by cases C),B,o,g0,P,U,r,f,rfl⟩ (by show (gt out v).length-(k+1)<(gt out v).length-k;omega)
 obtain ⟨h1,h2⟩:=hm
 have B:=g.met ho (k:=k) (i:=a) e D.symm h1 h2
 have az:=Nek (L:=d) (v:=hd l a) (x:=RJ d v+1) (by omega) h2 (by omega)
 have au:=g.hi v
 have wl:IntKind.i64.wrap (RJ d v+1)=RJ d v+1:=NY (by omega) (by omega)
 obtain ⟨O,e2,k2,m2⟩:=Uq (lim:=lim) (p:=Sa Lb) (i:=hd l a) OU rfl t am (by omega) (RJ d v+1)
 simp only [encI] at e2
 have I:Chg [Lb] G1 (O++[Vc [Vi (hd l a:Int),Vi (rm l a)]]):=(m.mut m2 (.inl (by simp))).app
 have ak:Chg [Lb] G' (O++[Vc [Vi (hd l a:Int),Vi (rm l a)]]):=(Chg.refl.mut m2 (.inl (by simp))).app
 have ai:=y.chg ak (fun b C=>by rw [Ni] at C;omega)
 obtain ⟨G3,e3,Q3,K3,l3⟩:=Que.push (lim:=lim) (x:=hd l a) ai (by omega) I.len (by omega)
 simp only [Nr,Oc,Ob,Nb,Nj,Nl,N0,P4,Nat.reduceAdd] at e3 Q3
 have ao:=fun X=>(NZ.refl.app (X:=X)).cells (V.keep O (m.mut m2 (.inl (by simp)))).1
 have el:=m2.len
 have aa:∀X,NC (O++Vc [Vi (hd l a:Int),Vi (rm l a)]::X) G'.length=Vc [Vi (hd l a:Int),Vi (rm l a)]:=fun X=>by rw [<-el,NN];rfl
 have ag:Chg [Lb] G1 G3:=⟨Rc I.len l3,fun j hj hA=>(K3 j hj).trans (I.other j hj hA)⟩
 have ah:NC G3 Lb=Vc ((d.set (hd l a) (RJ d v+1)).flatMap encI):=by rw [K3 Lb Q,NK (ND k2)];exact k2
 simp only [n63,g0,P,U,r,f,u,e,H,w2,w4,Y,xU,W,xA,J,M,T,R,an,wk,Nq h1,Nq h2,wl,e2,aa,e3,SB,seval,NJ,NF,reduceCtorEq,place,NA]
 exact hN (k+1,d.set (hd l a) (RJ d v+1),z++[hd l a],Sa (O.length+2),loose 1) _ _ ⟨by show k+1<=_;omega,ag.app,(NZ.refl.app).cells ah,Q3.chg (S:=[]) Chg.refl.app (fun b C=>by cases C),B,by simp only [Nb,Nj,Nl];omega,g0,by simp only [Nb,Nj,Nl,N0];exact rfl,U,r,f,rfl⟩ (by show (gt out v).length-(k+1)<(gt out v).length-k;omega)
end
section
variable {lim A Lb:Nat} {pa:Option Addr} {G1:NB} {w:List Value} {po:Option Addr} {ols:List Yo} {out:List (List Nat)} {l:List Pr} {co ca cv:Nat} {G:NB} {fr:Nat->Value} {K:List AItem} {Z:Value->NB->Prop}
theorem No9 [OB] {L:List Int} {q:List Nat} {p:Option Addr} {c:Nat} (k:Firm A pa Lb G1 w po ols out l co ca cv) (ho:OutOk l out) (H:lim<=Lb) (t:out.length<2 ^ 29) (o:∀v,(gt out v).length<2 ^ 40) (I:l.length<2 ^ 40)
  (hB:Bfs l out L q none 0) (hQ:Que G1.length G p c q) (J:q.length+UY L<2 ^ 29) (hC:Chg [Lb] G1 G) (hL:NC G Lb=Vc (L.flatMap encI))
  (W:fr 0=Vp A) (f3:fr 3=.slice p q.length c)
  (hK:∀fr' G' j,Chg [Lb] G1 G'->NC G' Lb=Vc (j.flatMap encI)->Bfs l out j [] none 0->fr' 0=Vp A->PI E a63 lim K fr' G' Z) :
  PI E a63 lim (.code (.loop Nup)::.inBlock 0::K) fr G Z:=by
 refine NM (fun s:List Int×List Nat×Option Addr×Nat=>s.2.1.length+UY s.1) (fun s fr' G'=>Chg [Lb] G1 G'/\NC G' Lb=Vc (s.1.flatMap encI)/\Que G1.length G' s.2.2.1 s.2.2.2 s.2.1/\Bfs l out s.1 s.2.1 none 0/\s.2.1.length+UY s.1<2 ^ 29/\fr' 0=Vp A/\fr' 3=.slice s.2.2.1 s.2.1.length s.2.2.2) (L,q,p,c)
  ⟨hC,hL,hQ,hB,J,W,f3⟩ ?_
 rintro ⟨j,q',P,c'⟩ fr' G' ⟨g,h,e,d,a,g0,f⟩ x
 simp only at h e d a f
 rw [NQ Nup.eq_1]
 refine NI ?_
 match q',e,d,a,f,x with
 | [],e,d,a,f,x=>
   rw [Nl] at f
   simp only [n63,f,Nn (show ¬(0:Int)<0 by decide),SB,Nat.reduceLT,NJ,NF]
   exact hK _ _ j g.app ((NZ.refl.app).cells h) d g0
 | v::r,e,d,a,f,x=>
   simp only [Nj] at f a
   obtain ⟨w2,w3,w4⟩:=k.hdr
   obtain ⟨T,Q,sU,bB⟩:=k.keep G' g
   have y:=fun X=>(NZ.refl.app (X:=X)).cells T
   obtain ⟨p2,U,e2,R⟩:=e.tail (by omega)
   have O:=Nqh (i:=0) e.sl (by simp)
   have xQ:∀(H1:NB),Vh 1 (.slice P (r.length+1) c') (Vi 0) H1=some (.pointer (some (SX P 1 0)),H1):=fun H1=>QN (i:=0) (n:=r.length+1) e.sl (by omega) rfl c' .i64 H1
   rw [ZP] at O
   have M:=(d.qin v Nm).1
   have m:=k.cut v M
   have N:=Nt8 (i:=v) Q (by rw [k.len];exact M)
   have xO:=QN (i:=v) (n:=out.length) Q M k.len
   rw [m] at N
   have u:(0:Int)<((r.length+1:Nat):Int):=by omega
   simp only [n63,g0,f,Nq u,y,w3,O,xQ,e2,N,xO,SB,Nat.reduceLT,NJ,Nat.reduceEqDiff,NF,reduceCtorEq]
   refine Nsw (A:=A) (pa:=pa) (G1:=G1) (v:=v) (cc:=(gt ols v).2.2) (q:=r) (p:=p2) (c:=U) (L:=j) k ho H t (o v) I d.pop (R.chg (S:=[]) Chg.refl.app (fun b F=>by cases F)) (by omega) g.app ((NZ.refl.app).cells h) g0 rfl rfl rfl rfl rfl fun Y G2 L2 q2 p3 V B C D z aa k0 k3=>?_
   refine NI ?_
   simp only [SB]
   exact x (L2,q2,p3,V) _ _ ⟨B.app,(NZ.refl.app).cells C,D.chg (S:=[]) Chg.refl.app (fun b F=>by cases F),z.done (by unfold Flow.outs;omega),by show q2.length+UY L2<2 ^ 29;omega,k0,k3⟩ (by show q2.length+UY L2<(v::r).length+UY j;simp only [Nj];omega)
end
theorem Nqs {n:Nat}:(List.replicate n 0).flatMap Tq=List.replicate n (Value.int IntKind.i64 0):=by
 induction n with
 | zero=>rfl
 | succ n ih=>rw [O9,N2,ih,O9];rfl
theorem Nsi (L:List Int):UY L<=L.length:=Ro _ _
theorem Nsv [OB] {lim A:Nat} {pa:Option Addr} {G:NB} {vp vm vw vmost v4 v5:Value} {po:Option Addr} {ols:List Yo} {out:List (List Nat)} {l:List Pr} {co ca:Nat} {Q:Value->NB->Prop}
  (R:NC G A=Vc [vp,vm,.slice pa (2*l.length) ca,.slice po out.length co,v4,v5,vw,vmost]) (C:lim<=A) (ag:lim<=G.length)
  (g:∀G',Chg [A] G G'->Sl G' Ncw 1 po ols/\(∀v,v<out.length->Sl G' Tq 1 (gt ols v).1 (gt out v))/\Sl G' enc2 2 pa (SF l))
  (D:ols.length=out.length) (z:∀v,v<out.length->(gt ols v).2.1=(gt out v).length) (ho:OutOk l out) (h2:2<=out.length) (ah:out.length<2 ^ 28) (F:∀v,(gt out v).length<2 ^ 40) (Y:l.length<2 ^ 40)
  (hQ:∀G' Lb Bn cv cn L,Chg [A] G G'->G.length<=Lb->G.length<=Bn->Lb≠Bn->NC G' A=Vc [vp,vm,.slice pa (2*l.length) ca,.slice po out.length co,.slice (Sa Lb) out.length cv,.slice (Sa Bn) out.length cn,vw,vmost]->NC G' Lb=Vc (L.flatMap encI)->NC G' Bn=Vc ((List.replicate out.length 0).flatMap Tq)->L.length=out.length->LevOk l out (RJ L)->(∀v,-1<=RJ L v/\RJ L v<out.length)->Q (.bool (decide (0<=RJ L 1))) G') :
  NR E false lim 63 [Vp A] G Q:=by
 refine Te (by decide) e63 rfl ?_
 rw [b63,c63]
 generalize hn:out.length=n at *
 have Z:=Nq (show 0<=(n:Int)/\(n:Int)*8<=2 ^ 45/\(n:Int)<2 ^ 62 by omega)
 have N:=fun X=>(NZ.refl.app (X:=X)).cells R
 obtain ⟨G1,e1,k1,m1⟩:=OO (ND R) (Vc [vp,vm,.slice pa (2*l.length) ca,.slice po n co,v4,.slice (Sa G.length) n n,vw,vmost])
 have aa:=fun X=>(NZ.refl.app (X:=X)).cells k1
 have aj:=ND R
 simp only [n63,N,Z,Nnh,C,e1,aa,SB,Nat.reduceLT,NE,NJ,Nat.reduceEqDiff,reduceCtorEq,NH,place,NA,Nat.reduceAdd,Nat.reduceLeDiff]
 obtain ⟨Lb,w⟩:∃Lb,Lb=(G1++[Vc (List.replicate n (Value.int IntKind.i64 0)),Vc [Value.int IntKind.i64 (-1)]]).length:=⟨_,rfl⟩
 have U:G1.length=G.length:=m1.len
 have ae:Lb=G.length+2:=by rw [w];simp;omega
 refine No7 (x:=-1) (by simp;omega) (by omega) (by omega) (Sl.row (ro:=false) OU (by rw [OL];rfl)) fun H2 e k V=>?_
 rw [<-w] at k V⊢
 have k2:=e.cells ((NZ.refl.app).cells k1) (by simp)
 have ac:=fun X=>(NZ.refl.app (X:=X)).cells k2
 have O:NC H2 G.length=Vc (List.replicate n (Value.int IntKind.i64 0)):=e.cells (by rw [<-U,NN];rfl) (by simp)
 obtain ⟨H3,e3,k3,m3⟩:=OO (ND k2) (Vc [vp,vm,.slice pa (2*l.length) ca,.slice po n co,.slice (Sa Lb) n n,.slice (Sa G.length) n n,vw,vmost])
 have ad:=fun X=>(NZ.refl.app (X:=X)).cells k3
 have h:=m3.cells k (show Lb≠A by omega)
 obtain ⟨d,e4,k4,m4⟩:=Uq (lim:=lim) (p:=Sa Lb) (i:=0) OU rfl h (by omega) (by simp;omega) (0:Int)
 simp only [encI] at e4
 have xZ:∀(H1:NB),Vh 1 (.slice (Sa Lb) n n) (Vi 0) H1=some (.pointer (some (SX (Sa Lb) 1 0)),H1):=fun H1=>QN (i:=0) (n:=n) (Sl.row (ro:=false) OU h) (by omega) (by simp) n .i64 H1
 have H:NC d A=Vc [vp,vm,.slice pa (2*l.length) ca,.slice po n co,.slice (Sa Lb) n n,.slice (Sa G.length) n n,vw,vmost]:=m4.cells k3 (by omega)
 have r:Chg [A] G G1:=Chg.refl.mut m1 (.inl (by simp))
 have s:Chg [A] G H2:=(r.app).trans' e fun j B=>by cases B
 have a:Chg [A] G d:=(s.mut m3 (.inl (by simp))).mut m4 (.inr (by omega))
 refine NI ?_
 simp only [n63,ac,e3,ad,C,xZ,e4,SB,Nat.reduceLT,NJ,Nat.reduceEqDiff,reduceCtorEq,NH,place,NA,Nat.reduceAdd,Nat.reduceLeDiff]
 have ak:=a.len
 have y:Lb<d.length:=ND k4
 have hF:Firm A pa Lb d [vp,vm,.slice pa (2*l.length) ca,.slice po n co,.slice (Sa Lb) n n,.slice (Sa G.length) n n,vw,vmost] po ols out l co ca n:=by
  refine ⟨by rw [hn];exact ⟨rfl,rfl,rfl⟩,fun G' t=>?_,by rw [hn];exact D,by rw [hn];exact z,y⟩
  have S:Chg [A] G G':=a.trans' t fun j B T=>by rw [Ni] at B;omega
  obtain ⟨a1,a2,a3⟩:=g G' S
  exact ⟨t.cells H (by rw [Ni];omega),a1,by rw [hn];exact a2,a3⟩
 have m:=Bfs.start (l:=l) (out:=out) (by omega)
 rw [hn] at m
 refine No9 (A:=A) (pa:=pa) (Lb:=Lb) (G1:=d) (L:=(List.replicate n (-1)).set 0 0) (q:=[0]) (p:=Sa d.length) (c:=1) hF ho (by omega) (by omega) F Y m ⟨d.length,0,[Vi 0],rfl,by rw [NN];rfl,by simp,rfl,Ng _,.inr rfl⟩ ?_ Chg.refl.app ((NZ.refl.app).cells k4) rfl (by simp only [Nj,Nl,N0,FB]) fun ai M L5 f u b g0=>?_
 ·have:=Nsi ((List.replicate n (-1:Int)).set 0 0)
  simp at this⊢;omega
 have W:=b.len
 have I:=f.cells H (by rw [Ni];omega)
 have J:=fun X=>(NZ.refl.app (X:=X)).cells I
 have K:Sl M encI 1 (Sa Lb) L5:=Sl.row OU u
 have lV:=TT (i:=1) K (by omega)
 rw [Ngm (by omega)] at lV
 have xV:∀(H1:NB),Vh 1 (.slice (Sa Lb) n n) (Vi 1) H1=some (.pointer (some (SX (Sa Lb) 1 1)),H1):=fun H1=>QN (i:=1) (n:=n) K (by omega) (by omega) n .i64 H1
 refine NI ?_
 simp only [n63,r63,g0,J,lV,xV,SB,Nat.reduceLT,NJ,NF,NG]
 have o:Chg [A] G M:=a.trans' f fun j B T=>by rw [Ni] at B;omega
 have P:NC M G.length=Vc (List.replicate n (Value.int IntKind.i64 0)):=f.cells (m4.cells (m3.cells O (by omega)) (by omega)) (by rw [Ni];omega)
 refine hQ _ Lb G.length n n L5 o.app (by omega) (Ng _) (by omega) ((NZ.refl.app).cells I) ((NZ.refl.app).cells u) ?_ (by omega) b.end fun v=>⟨b.lo v,by have:=b.hi v;omega⟩
 rw [Nqs]
 exact (NZ.refl.app).cells P
structure OS (Bo:Nat) (Y:List Nat) (G:NB) (ols:List Yo) (out:List (List Nat)):Prop where
 ou:NC G Bo=Vc (ols.flatMap Ncw)
 us:∀v,v<out.length->Own (Bo+1) G Tq 1 (gt ols v).1 (gt ols v).2.2 (gt out v)/\(gt ols v).2.1=(gt out v).length
 len:ols.length=out.length
 s1:∀u v a b,u<out.length->v<out.length->u≠v->(gt ols u).1=some a->(gt ols v).1=some b->a.block≠b.block
 sy:∀b∈Y,b<G.length/\b≠Bo/\∀u a,u<out.length->(gt ols u).1=some a->a.block≠b
theorem NT {p:Option Addr} {b:Nat}:b∈PZ p↔∃a,p=some a/\a.block=b:=by
 cases p with
 | none=>simp [PZ]
 | some a=>simp [PZ];exact eq_comm
theorem RN {α:Type} {lo e c:Nat} {G G':NB} {enc:α->List Value} {p:Option Addr} {q:List α} (h:Own lo G enc e p c q) (f:∀a,p=some a->NC G' a.block=NC G a.block):Own lo G' enc e p c q:=by
 rcases h with h | ⟨R,h1,h2,b,d⟩
 ·exact .inl h
 ·exact .inr ⟨R,h1,h2,by rw [f _ h1];exact b,d⟩
theorem OS.sim {Bo:Nat} {Y:List Nat} {G G':NB} {ols:List Yo} {out:List (List Nat)} (h:OS Bo Y G ols out) (f:NC G' Bo=NC G Bo) (g:∀u a,u<out.length->(gt ols u).1=some a->NC G' a.block=NC G a.block) (hl:G.length<=G'.length):OS Bo Y G' ols out:=
 ⟨by rw [f];exact h.ou,fun v d=>⟨RN (h.us v d).1 fun a e=>g v a d e,(h.us v d).2⟩,h.len,h.s1,fun b c=>⟨Nat.lt_of_lt_of_le (h.sy b c).1 hl,(h.sy b c).2⟩⟩
theorem OS.push {lim Bo f x:Nat} {Y:List Nat} {G:NB} {ols:List Yo} {out:List (List Nat)} (h:OS Bo Y G ols out) (hl:lim<=Bo) (o:f<out.length) (hb:(gt out f).length<2 ^ 30) :
  ∃n l c',VQ lim (some (G.length+1)) 1 8 false (.slice (gt ols f).1 (gt out f).length (gt ols f).2.2) (.slice (Sa G.length) 1 1) (G++[Vc [Vi x],.dead])=some (.slice (Sa (G.length+1)) ((gt out f).length+1) c',n++[])/\
   (∀Z,AM.storeAt lim (n++Z) (SX (Sa Bo) 1 f) [.slice (Sa (G.length+1)) ((gt out f).length+1) c']=some (l++Z))/\
   OS Bo Y l (ols.set f (Sa (G.length+1),(gt out f).length+1,c')) (out.set f (gt out f++[x]))/\(∀b,b<Bo\/b∈Y->NC l b=NC G b)/\(∀b,b<Bo->NC n b=NC G b)/\G.length+2<=l.length:=by
 obtain ⟨r,N⟩:=h.us f o
 have D:=ND h.ou
 have S:∀j,(∀a,(gt ols f).1=some a->j≠a.block)\/¬(∀a,(gt ols f).1=some a->j≠a.block):=fun _=>Classical.em _
 obtain ⟨n,W,c',e4,z,V,t,R,J,_⟩:=Own.moreD r (lim':=lim) (d:=G.length+1) (bytes:=8) (by omega) RZ (by decide) [x] (by simp;unfold PM;omega) (by simp;omega) (by omega) [Vc [Vi x],.dead] (by omega) (by simp) (x:=.slice (Sa G.length) 1 1) (str:=false)
  (QG (m:=[x]) (Sl.row (ro:=false) RZ (by rw [NN];rfl))) rfl
 simp only [Nj,Nl,N0,Na] at e4 z t
 have hp:=J (by simp)
 subst hp
 have A:=(z.block rfl).2
 simp only at A
 have U:NC n Bo=Vc (ols.flatMap Ncw):=(t Bo D fun a c=>by have:=(r.block c).1;omega).trans h.ou
 obtain ⟨l,P,T,w⟩:=Uq (lim:=lim) (p:=Sa Bo) (i:=f) VK rfl U hl (by rw [h.len];exact o) (Sa (G.length+1),(gt out f).length+1,c')
 have I:f<ols.length:=by rw [h.len];exact o
 have y:∀j,j<G.length->j≠Bo->(∀a,(gt ols f).1=some a->j≠a.block)->NC l j=NC G j:=fun j Q hB hn=>(w.other j hB).trans (t j Q hn)
 have B:∀u,gt (ols.set f (Sa (G.length+1),(gt out f).length+1,c')) u=if u=f then (Sa (G.length+1),(gt out f).length+1,c') else gt ols u:=fun u=>gt_set I
 have C:∀u,gt (out.set f (gt out f++[x])) u=if u=f then gt out f++[x] else gt out u:=fun u=>gt_set o
 refine ⟨n,l,c', ?_,P,⟨T,fun v k=>?_,by simp [h.len],fun u v a b q k K c hb=>?_,fun b F=>?_⟩,fun b hb=>?_,fun b hb=>t b (by omega) fun a c=>by have:=(r.block c).1;omega,by have:=w.len;omega⟩
 ·rw [Own.appL r,Na];exact e4
 ·rw [Pd] at k
  rw [B,C]
  by_cases g:v=f
  ·subst g
   rw [Nk rfl,Nk rfl]
   refine ⟨z.mut w fun a c e=>by cases c;simp only at e;omega,by simp⟩
  ·rw [Nf g,Nf g]
   refine ⟨RN (h.us v k).1 fun a c=>?_,(h.us v k).2⟩
   have H:=(h.us v k).1.block c
   exact y a.block H.2 (by omega) fun a' E=>h.s1 v f a a' k o g c E
 ·rw [Pd] at q k
  rw [B] at c hb
  by_cases s:u=f
  ·rw [Nk s] at c
   rw [Nf (by omega)] at hb
   cases c
   have:=((h.us v k).1.block hb).2
   simp only;omega
  ·rw [Nf s] at c
   by_cases g:v=f
   ·rw [Nk g] at hb
    cases hb
    have:=((h.us u q).1.block c).2
    simp only;omega
   ·rw [Nf g] at hb
    exact h.s1 u v a b q k K c hb
 ·obtain ⟨O,L,M⟩:=h.sy b F
  refine ⟨by have:=w.len;omega,L,fun u a q c=>?_⟩
  rw [Pd] at q
  rw [B] at c
  split at c
  ·cases c;simp only;omega
  ·exact M u a q c
 ·rcases hb with hb | hb
  ·exact y b (by omega) (by omega) fun a c=>by have:=(r.block c).1;omega
  ·obtain ⟨O,L,M⟩:=h.sy b hb
   exact y b O L fun a c e=>M f a o c e.symm
structure JS (A Bo:Nat) (X:List Nat) (G:NB) (vp vm v4 v5 vw vmost:Value) (pa:Option Addr) (ca co:Nat) (ols:List Yo) (out:List (List Nat)) (l:List Pr):Prop where
 hdr:NC G A=Vc [vp,vm,.slice pa (2*l.length) ca,.slice (Sa Bo) out.length co,v4,v5,vw,vmost]
 ar:Own (Bo+1) G enc2 2 pa ca (SF l)
 os:OS Bo (PZ pa++X) G ols out
 ab:A<Bo
 ax:∀b∈X,b∉PZ pa/\b≠A
theorem OS.withY {Bo:Nat} {Y c:List Nat} {G:NB} {ols:List Yo} {out:List (List Nat)} (h:OS Bo Y G ols out) (d:∀b∈c,b<G.length/\b≠Bo/\∀u a,u<out.length->(gt ols u).1=some a->a.block≠b):OS Bo c G ols out:=⟨h.ou,h.us,h.len,h.s1,d⟩
theorem Nrq {l m:List Pr}:SF (l++m)=SF l++SF m:=Pc
theorem Ngr [OB] {lim A Bo f t:Nat} {r:Int} {X:List Nat} {G:NB} {vp vm v4 v5 vw vmost:Value} {pa:Option Addr} {ca co:Nat} {ols:List Yo} {out:List (List Nat)} {l:List Pr} {Q:Value->NB->Prop}
  (h:JS A Bo X G vp vm v4 v5 vw vmost pa ca co ols out l) (ac:lim<=A) (L:f<out.length) (ht:t<out.length) (hb:∀v,(gt out v).length<2 ^ 29) (a1:l.length<2 ^ 29)
  (hQ:∀G' ao P D,JS A Bo X G' vp vm v4 v5 vw vmost ao P co D (Vg out f t (2*l.length)) (l++[⟨t,f,r,0⟩])->(∀b,(b<Bo/\b≠A)\/b∈X->NC G' b=NC G b)->G.length<=G'.length->Q (Vi ((2*l.length:Nat):Int)) G') :
  NR E false lim 61 [Vp A,Vi f,Vi t,Vi r] G Q:=by
 refine Te (by decide) e61 rfl ?_
 rw [b61,c61]
 have j:=h.ab
 have O:=fun X=>(NZ.refl.app (X:=X)).cells h.hdr
 obtain ⟨G2,e2,O2,C2,aa⟩:=Own.moreF h.ar (lim':=lim) (bytes:=16) (by omega) PO (by decide) [((t:Int),r),((f:Int),0)] (by simp) (by rw [RV];simp;unfold PM;omega) (by rw [RV];simp;omega) [Vc [Vi t,Vi r,Vi f,Vi 0]] (x:=.slice (Sa G.length) 2 2) (str:=false)
  (QG (m:=[((t:Int),r),((f:Int),(0:Int))]) (Sl.row (ro:=false) PO (by rw [NN];rfl))) rfl
 rw [RV] at e2
 simp only [Nb,Nj,Nl,N0,Nat.reduceAdd] at e2 O2 aa
 have p:∀b∈PZ pa,Bo<b/\b<G.length:=fun b hb=>by
  obtain ⟨a,rfl,rfl⟩:=NT.1 hb
  have:=h.ar.block rfl;omega
 have k2:=C2.cells h.hdr (fun k=>by have:=p _ k;omega)
 have ae:=fun X=>(NZ.refl.app (X:=X)).cells k2
 obtain ⟨c,e3,k3,m3⟩:=OO (ND k2) (Vc [vp,vm,.slice (Sa (G.length+1)) (2*l.length+2) (loose 2),.slice (Sa Bo) out.length co,v4,v5,vw,vmost])
 have ag:=fun X=>(NZ.refl.app (X:=X)).cells k3
 have aw:=ND h.hdr
 have T:=ND h.os.ou
 have ay:G.length+1<c.length:=by have:=m3.len;omega
 have d:∀b,b<G.length->b≠A->b∉PZ pa->NC c b=NC G b:=fun b hb hA hp=>(m3.other b hA).trans (C2.other b hb hp)
 have F:OS Bo (PZ (Sa (G.length+1))++X) c ols out:=by
  refine (h.os.sim (d Bo T (by omega) fun k=>by have:=p _ k;omega) (fun u a M o=>?_) (by omega)).withY fun b hb=>?_
  ·have Y:=(h.os.us u M).1.block o
   exact d a.block Y.2 (by omega) fun k=>(h.os.sy a.block (Ny _ k)).2.2 u a M o rfl
  ·rcases Nw.1 hb with hb | hb
   ·simp only [PZ,Ni] at hb
    subst hb
    exact ⟨by omega,by omega,fun u a M o=>by have:=(h.os.us u M).1.block o;omega⟩
   ·obtain ⟨y1,y2,y3⟩:=h.os.sy b (N1 _ hb)
    exact ⟨by omega,y2,y3⟩
 obtain ⟨s,g,c5,e5,e6,q,J,K4,az⟩:=F.push (lim:=lim) (f:=f) (x:=2*l.length) (by omega) L (by have:=hb f;omega)
 have H:Sl c Ncw 1 (Sa Bo) ols:=Sl.row VK F.ou
 have z:=h.os.len
 have B:=Nt8 (i:=f) H (by omega)
 rw [(h.os.us f L).2] at B
 have au:=QN (i:=f) (n:=out.length) H L z
 have ah:=fun X=>(NZ.refl.app (X:=X)).cells ((K4 A j).trans k3)
 have k5:NC g A=_:=(J A (.inl j)).trans k3
 have ai:=fun X=>(NZ.refl.app (X:=X)).cells k5
 have ad:(out.set f (gt out f++[2*l.length])).length=out.length:=Pd ..
 have S:gt (out.set f (gt out f++[2*l.length])) t=if t=f then gt out f++[2*l.length] else gt out t:=gt_set L
 have V:(gt (out.set f (gt out f++[2*l.length])) t).length<2 ^ 30:=by
  rw [S]
  have:=hb f;have:=hb t
  split<;>simp<;>omega
 obtain ⟨w,N,c7,e7,e8,an,K,K6,a0⟩:=q.push (lim:=lim) (f:=t) (x:=2*l.length+1) (by omega) (by omega) V
 have I:Sl g Ncw 1 (Sa Bo) (ols.set f (Sa (c.length+1),(gt out f).length+1,c5)):=Sl.row VK q.ou
 have C:=Nt8 (i:=t) I (by simp;omega)
 rw [(q.us t (by omega)).2] at C
 have av:=QN (i:=t) (n:=out.length) I ht (by simp;omega)
 have aj:=fun X=>(NZ.refl.app (X:=X)).cells ((K6 A j).trans k5)
 have k7:NC N A=_:=(K A (.inl j)).trans k5
 have wl:IntKind.i64.wrap (((2*l.length:Nat):Int)+1)=((2*l.length+1:Nat):Int):=NS (by omega)
 have ak:NC (((s++[]).set c.length Blk.dead).set (c.length+1) Blk.dead) A=Vc [vp,vm,.slice (Sa (G.length+1)) (2*l.length+2) (loose 2),.slice (Sa Bo) out.length co,v4,v5,vw,vmost]:=by rw [OQ (by omega),OQ (by omega)];exact ah []
 have ap:((((s++[]).set c.length Blk.dead).set (c.length+1) Blk.dead).set c.length (NC (s++[]) c.length)).set (c.length+1) (NC (s++[]) (c.length+1))=s++[]:=Sw c.length [0,1] (s++[])
 have am:NC (((w++[]).set g.length Blk.dead).set (g.length+1) Blk.dead) A=Vc [vp,vm,.slice (Sa (G.length+1)) (2*l.length+2) (loose 2),.slice (Sa Bo) out.length co,v4,v5,vw,vmost]:=by rw [OQ (by omega),OQ (by omega)];exact aj []
 have aq:((((w++[]).set g.length Blk.dead).set (g.length+1) Blk.dead).set g.length (NC (w++[]) g.length)).set (g.length+1) (NC (w++[]) (g.length+1))=w++[]:=Sw g.length [0,1] (w++[])
 simp only [n61,r61,ak,ap,am,aq,O,e2,ae,ac,e3,ag,au,B,e5,e6,ai,av,C,wl,e7,e8,SB,seval,NJ,NF,reduceCtorEq,NH,place,NA,NG]
 have R:2*(l++[(⟨t,f,r,0⟩:Pr)]).length=2*l.length+2:=by simp;omega
 have U:SF (l++[(⟨t,f,r,0⟩:Pr)])=SF l++[((t:Int),r),((f:Int),0)]:=Nrq
 have hY:G.length+1∈PZ (some (⟨G.length+1,0,none⟩:Addr))++X:=Ny _ (by simp [PZ])
 have O7:Own (Bo+1) N enc2 2 (Sa (G.length+1)) (loose 2) (SF l++[((t:Int),r),((f:Int),0)]):=RN ((O2.mut m3 fun a o e=>by cases o;simp only at e;omega).le (by omega)) fun a o=>by
  cases o
  exact (K _ (.inr hY)).trans (J _ (.inr hY))
 refine hQ (N++[]) (Sa (G.length+1)) (loose 2) ((ols.set f (Sa (c.length+1),(gt out f).length+1,c5)).set t (Sa (g.length+1),(gt (out.set f (gt out f++[2*l.length])) t).length+1,c7)) ⟨?_, ?_, ?_,j,fun b y=>⟨fun k=>?_,(h.ax b y).2⟩⟩ (fun b hb=>?_) (by simp;omega)
 ·rw [R,WQ]
  exact (NZ.refl.app).cells k7
 ·rw [U];exact O7.app _
 ·rw [Na];exact an
 ·simp only [PZ,Ni] at k
  have:=(h.os.sy b (N1 _ y)).1
  omega
 ·rw [Na]
  rcases hb with ⟨hb,W⟩ | hb
  ·exact (K b (.inl hb)).trans ((J b (.inl hb)).trans (d b (by omega) W fun k=>by have:=p _ k;omega))
  ·have Z:=h.os.sy b (N1 _ hb)
   exact (K b (.inr (N1 _ hb))).trans ((J b (.inr (N1 _ hb))).trans (d b Z.1 (h.ax b hb).2 (h.ax b hb).1))
def YK (l:Leg) (dl:Int):Nat->Nat->List (Leg×Int)
 | 0,_=>[]
 | k+1,d=>UQ l dl d++YK l dl k (d+1)
theorem range_split {f:Nat->List (Leg×Int)}:∀(k d:Nat),(List.range (d+k)).flatMap f=(List.range d).flatMap f++(List.range k).flatMap fun j=>f (d+j)
 | 0,d=>by simp
 | k+1,d=>by rw [<-P4,Ra,Pc,range_split k d,Ra,Pc,Nr];simp
theorem Nca {l:Leg} {dl:Int}:∀(k d:Nat),YK l dl k d=(List.range k).flatMap fun j=>UQ l dl (d+j)
 | 0,d=>rfl
 | k+1,d=>by
   have:=range_split (f:=fun j=>UQ l dl (d+j)) k 1
   rw [Qk 1 k] at this
   rw [YK,Nca k (d+1),this]
   simp [Qk,Nat.add_left_comm]
theorem Nqg {l:Leg} {dl:Int} (hl:Fine l) {d0 n:Nat} (a:(d0:Int)=max 0 (dl-20160) / 1440) (hn:d0+n=(dl / 1440+1).toNat):Nlk l dl=YK l dl n d0:=by
 unfold Nlk
 rw [<-hn,range_split,Nca]
 have:(List.range d0).flatMap (UQ l dl)=[]:=by
  rw [List.flatMap_eq_nil_iff]
  intro d hd
  rw [List.mem_range] at hd
  exact Nc2 hl (by omega)
 rw [this,Ob]
theorem Xp [OB] {lim Y Bd Bn Bt:Nat} {pp pl:Option Addr} {cp cl np:Nat} {L:List Leg} {to dl:Int} {H:NB} {Q:Value->NB->Prop} (I:List (Leg×Int)->List Nat->NB->Prop) (K:List Nat)
  (B:∀rest X X' H H',I rest X H->Chg [] H H'->(∀b∈X',b∈X\/H.length<=b/\b<H'.length)->I rest X' H')
  (O:∀x rest X H,lim<=H.length->x∈NP L to dl->(∀j∈K,j∈X)->I (x::rest) X H->YS E false lim Y [.agg (QO x.1).toArray,.agg #[Vi x.2,Vi (x.2+x.1.mins)]] H fun v H'=>v=.bool true/\I rest X H'/\H.length<=H'.length/\∀j∈X,NC H' j=NC H j)
  (ag:NC H Bd=Vc [Vi dl]) (ap:NC H Bn=Vc (QJ pp np cp pl L.length cl)) (aq:NC H Bt=Vc [Vi to]) (hs:Sl H QO 8 pl L) (hK:Bd∈K/\Bn∈K/\Bt∈K/\∀a,pl=some a->L≠[]->a.block∈K) (av:∀j∈K,j<H.length) (hF:∀l∈L,Fine l) (ba:L.length<2 ^ 40) (ay:0<=dl) (bb:dl<=OP) (a6:lim<=H.length)
  (h0:I (NP L to dl) K H) (hQ:∀H',I [] K H'->(∀j∈K,NC H' j=NC H j)->H.length<=H'.length->Q (.tuple #[]) H') :
  NR E false lim 74 [.func (.yield Y) #[] #[],Vp Bd,Vp Bn,Vp Bt] H Q:=by
 refine Te (by decide) e74 rfl ?_
 rw [b74,c74]
 have mt:OP=1051898399:=rfl
 have ah:=fun X=>(NZ.refl.app (X:=X)).cells ag
 have ai:=fun X=>(NZ.refl.app (X:=X)).cells ap
 have wd:IntKind.i64.wrap (dl-20160)=dl-20160:=NY (by omega) (by omega)
 simp only [n74,ah,ai,Sr,wd,N3q,SB,seval,NJ,NF,NH]
 generalize az:max 0 (dl-20160)=fm
 have W:∀G,(∀j∈K,NC G j=NC H j)->NC G Bd=Vc [Vi dl]/\NC G Bt=Vc [Vi to]/\Sl G QO 8 pl L:=fun G hG=>by
  refine ⟨by rw [hG _ hK.1];exact ag,by rw [hG _ hK.2.2.1];exact aq, ?_⟩
  cases hp:pl with
  | none=>rw [hp] at hs;exact hs
  | some a=>
    rw [hp] at hs
    refine ⟨hs.1,fun N=>?_⟩
    obtain ⟨ro,c,k1,k2⟩:=hs.2 N
    exact ⟨ro,c,by rw [hG _ (hK.2.2.2 a hp N)];exact k1,k2⟩
 have grow:∀(G:NB) Z,H.length<=G.length->(∀j∈K,NC G j=NC H j)->∀j∈K,NC (G++Z) j=NC H j:=fun G Z hl hG j S=>by
  rw [NK (by have:=av j S;omega)];exact hG j S
 refine NM (fun i=>L.length-i) (fun i fr G=>i<=L.length/\fr 0=.func (.yield Y) #[] #[]/\fr 1=Vp Bd/\fr 3=Vp Bt/\fr 5=Vi fm/\fr 15=.slice pl L.length cl/\fr 16=Vi L.length/\fr 17=Vi i/\H.length<=G.length/\(∀j∈K,NC G j=NC H j)/\I ((L.drop i).flatMap (Xe to dl)) K G) 0
  ⟨Nv _,rfl,rfl,rfl,rfl,rfl,rfl,by rfl,by simp,grow H _ (Ng _) fun _ _=>rfl,B _ _ _ _ _ h0 Chg.refl.app fun b hb=>.inl hb⟩ ?_
 intro i fr G ⟨hi,g0,g1,g3,g5,D,t,F,ad,J,q⟩ hN
 rw [NQ Nz4.eq_1]
 obtain ⟨bd,bt,sL⟩:=W G J
 refine NI ?_
 by_cases p:i<L.length
 case neg=>
  obtain rfl:i=L.length:=by omega
  rw [R3,Qz] at q
  simp only [n74,r74,t,F,p,SB,seval,NJ,NF]
  exact hQ _ (B _ _ _ _ _ q Chg.refl.app fun b hb=>.inl hb) (grow G _ ad J) (by simp;omega)
 have an:=PK (l:=L) (i:=i) p
 have ac:(L.drop i).flatMap (Xe to dl)=Xe to dl (gt L i)++(L.drop (i+1)).flatMap (Xe to dl):=by rw [Pk p,N2,OJ p]
 have T:∀x∈Xe to dl (gt L i),x∈NP L to dl:=fun x hx=>List.mem_flatMap.2 ⟨_,an,hx⟩
 have lL:=fun X=>(sL.app X).loadCells NV p
 have xL:=fun c (kk:IntKind) (H1:NB)=>sL.idx (c:=c) (k:=kk) (H1:=H1) p
 have w1:IntKind.i64.wrap ((i:Int)+1)=((i+1:Nat):Int):=NS (by omega)
 have aj:=hF _ an
 have ae:=fun X=>(NZ.refl.app (X:=X)).cells bt
 have am:lim<=G.length:=by omega
 rw [ac] at q
 generalize gt L i=l at *
 generalize u:(L.drop (i+1)).flatMap (Xe to dl)=rest at *
 by_cases hf:l.frm=to
 ·have e0:Xe to dl l=[]:=Nk hf
  rw [e0,Ob] at q
  simp only [n74,g3,D,t,F,p,lL,xL,w1,NV,PY,NL,am,ae,Nq hf,SB,seval,NJ,NF,place,NA]
  exact hN (i+1) _ _ ⟨by omega,g0,g1,g3,g5,D,t,rfl,by simp;omega,grow G _ ad J,by rw [u];exact B _ _ _ _ _ q Chg.refl.app fun b hb=>.inl hb⟩ (by omega)
 obtain ⟨d0,R⟩:∃d0:Nat,(d0:Int)=fm / 1440:=⟨(fm / 1440).toNat,by omega⟩
 obtain ⟨n,N⟩:∃n,d0+n=(dl / 1440+1).toNat:=⟨(dl / 1440+1).toNat-d0,by omega⟩
 have e1:Xe to dl l=YK l dl n d0:=by
  have:Xe to dl l=Nlk l dl:=Nf hf
  rw [this,Nqg aj (by rw [az];exact R) N]
 rw [e1] at q T
 have wq:IntKind.i64.wrap (Int.tdiv fm 1440)=(d0:Int):=by rw [Pv (by omega),R];exact NY (by omega) (by omega)
 simp only [n74,g3,g5,D,t,F,p,lL,xL,NV,PY,NL,am,ae,Nn hf,wq,SB,seval,NJ,NF,place,NA]
 refine NM (fun j=>n-j) (fun j f s=>j<=n/\f 0=.func (.yield Y) #[] #[]/\f 1=Vp Bd/\f 3=Vp Bt/\f 5=Vi fm/\f 7=Vp G.length/\f 8=Vi ((d0+j:Nat):Int)/\f 15=.slice pl L.length cl/\f 16=Vi L.length/\f 17=Vi i/\G.length<s.length/\(∀j∈K,NC s j=NC H j)/\NC s G.length=Vc (QO l)/\I (YK l dl (n-j) (d0+j)++rest) (G.length::K) s) 0
  ⟨Nv _,g0,g1,g3,g5,rfl,by rfl,D,t,F,by simp,grow G _ ad J,by rw [NN];rfl,B _ _ _ _ _ q Chg.refl.app fun b hb=>by
   rcases Nu.1 hb with rfl | hb
   ·exact .inr ⟨Ng _,by simp⟩
   ·exact .inl hb⟩ ?_
 intro j f s ⟨S,q0,q1,q3,U,V,q8,w,y,z,a5,g,b7,e⟩ M
 rw [NQ Nz5.eq_1]
 obtain ⟨ao,a8,bc⟩:=W s g
 have o:=fun X=>(NZ.refl.app (X:=X)).cells ao
 have C:=fun X=>(NZ.refl.app (X:=X)).cells b7
 have A:IntKind.i64.wrap (Int.tdiv dl 1440)=dl / 1440:=by rw [Pv ay];exact NY (by omega) (by omega)
 have r:lim<=s.length:=by omega
 refine NI ?_
 by_cases a1:j<n
 case neg=>
  obtain rfl:j=n:=by omega
  have hc:¬((d0+j:Nat):Int)<=dl / 1440:=by omega
  rw [Q2,YK,Ob] at e
  simp only [n74,q1,q8,z,o,A,Nn hc,w1,SB,seval,NJ,NF]
  exact hN (i+1) _ _ ⟨by omega,q0,q1,q3,U,w,y,rfl,by simp;omega,grow s _ (by omega) g,by rw [u];exact B _ _ _ _ _ e Chg.refl.app fun b hb=>.inl (Nh _ hb)⟩ (by omega)
 have hc:((d0+j:Nat):Int)<=dl / 1440:=by omega
 have aa:YK l dl (n-j) (d0+j)=UQ l dl (d0+j)++YK l dl (n-(j+1)) (d0+(j+1)):=by rw [show n-j=n-(j+1)+1 by omega,YK];rfl
 rw [aa,Nr] at e
 have m:=fun (H:NB) (mp:Bool) (lim:Nat) (Q:Value->NB->Prop)=>N3j (mp:=mp) (lim:=lim) (d:=((d0+j:Nat):Int)) (H:=H) (Q:=Q) aj
 rw [Nk ⟨by omega,by omega⟩,O0] at m
 have wj:IntKind.i64.wrap (((d0+j:Nat):Int)+1)=((d0+(j+1):Nat):Int):=by rw [NY (by omega) (by omega)];omega
 by_cases hg:goes l (d0+j)=true
 case neg=>
  have P:UQ l dl (d0+j)=[]:=Nf fun h=>hg h.1
  rw [P,Ob] at e
  have ed:U4 l (d0+j)=none:=Nf hg
  rw [ed] at m
  simp only [WR] at m
  simp only [n74,NV,OH,q1,V,q8,o,C,A,Nq hc,m,r,wj,SB,seval,NE,NJ,NF,PW,place,NA]
  exact M (j+1) _ _ ⟨by omega,q0,q1,q3,U,V,rfl,w,y,z,by simp;omega,grow s _ (by omega) g,(NZ.refl.app).cells b7,B _ _ _ _ _ e Chg.refl.app fun b hb=>.inl hb⟩ (by omega)
 have ed:U4 l (d0+j)=some (1440*((d0+j:Nat):Int)+l.dep,1440*((d0+j:Nat):Int)+l.dep+l.mins):=Nk hg
 rw [ed] at m
 simp only [WR] at m
 by_cases h1:1440*((d0+j:Nat):Int)+l.dep<fm
 ·have P:UQ l dl (d0+j)=[]:=Nf fun h=>by have:=h.2.1;omega
  rw [P,Ob] at e
  simp only [n74,NV,OH,q1,U,V,q8,o,C,A,Nq hc,m,r,wj,Nq h1,SB,seval,NE,NJ,NF,PW,place,NA]
  exact M (j+1) _ _ ⟨by omega,q0,q1,q3,U,V,rfl,w,y,z,by simp;omega,grow s _ (by omega) g,(NZ.refl.app).cells b7,B _ _ _ _ _ e Chg.refl.app fun b hb=>.inl hb⟩ (by omega)
 by_cases h2:dl<1440*((d0+j:Nat):Int)+l.dep+l.mins
 ·have P:UQ l dl (d0+j)=[]:=Nf fun h=>by have:=h.2.2;omega
  rw [P,Ob] at e
  simp only [n74,NV,OH,q1,U,V,q8,o,C,A,Nq hc,m,r,wj,Nn h1,Nq h2,SB,seval,NE,NJ,NF,PW,place,NA]
  exact M (j+1) _ _ ⟨by omega,q0,q1,q3,U,V,rfl,w,y,z,by simp;omega,grow s _ (by omega) g,(NZ.refl.app).cells b7,B _ _ _ _ _ e Chg.refl.app fun b hb=>.inl hb⟩ (by omega)
 have P:UQ l dl (d0+j)=[(l,1440*((d0+j:Nat):Int)+l.dep)]:=Nk ⟨hg,by omega,by omega⟩
 have a0:(l,1440*((d0+j:Nat):Int)+l.dep)∈NP L to dl:=T _ (by
  rw [Nca]
  exact List.mem_flatMap.2 ⟨j,List.mem_range.2 a1,by rw [P];exact Rl _⟩)
 rw [P] at e
 generalize 1440*((d0+j:Nat):Int)+l.dep=a at *
 simp only [n74,NV,OH,q0,q1,U,V,q8,o,C,A,Nq hc,m,r,Nn h1,Nn h2,SB,seval,NE,NJ,NF,PW,reduceCtorEq,place,NA]
 refine YS.mono (O (l,a) _ (G.length::K) _ (by simp;omega) a0 (fun j S=>Nh _ S) (B _ _ _ _ _ e Chg.refl.app fun b hb=>.inl hb)) fun v G3 ⟨hv,au,a3,ak⟩=>?_
 subst hv
 simp only [Nb,Nj,Nl,N0] at a3
 have a2:∀j∈K,NC G3 j=NC H j:=fun j S=>(ak j (Nh _ S)).trans (grow s _ (by omega) g j S)
 have aw:NC G3 G.length=Vc (QO l):=(ak _ Nm).trans ((NZ.refl.app).cells b7)
 refine NI ?_
 simp only [n74,q8,wj,SB,seval,NJ,NF,PW]
 exact M (j+1) _ _ ⟨by omega,q0,q1,q3,U,V,rfl,w,y,z,by simp;omega,grow G3 _ (by omega) a2,(NZ.refl.app).cells aw,B _ _ _ _ _ au Chg.refl.app fun b hb=>.inl hb⟩ (by omega)
theorem Zl [OB] {lim:Nat} {a:List Value} {to dl:Int} {H:NB} {Q:Value->NB->Prop} (b:Q (.func (.func 74) #[] #[Vp (H.length+2),Vp H.length,Vp (H.length+1)]) (H++[Vc a,Vc [Vi to],Vc [Vi dl]])) :
  NR E false lim 45 [.agg a.toArray,Vi to,Vi dl] H Q:=by
 refine Te (by decide) e45 rfl ?_
 rw [b45,c45]
 simp only [n45,r45,SB,seval,NJ,NH,place,NA,NG]
 exact b
end Go.Proofs.YtohnaffmcjbpoaaGreat.Fn


namespace Go.Proofs.YtohnaffmcjbpoaaGreat.Fn
open Go.AM Go.AM.Sym
section
variable {κ ν:Type} [DecidableEq κ]
def TK (k:κ):List (κ×ν)->Option ν
 | []=>none
 | (k',v)::l=>if k'=k then some v else TK k l
def XE (k:κ) (v:ν):List (κ×ν)->List (κ×ν)
 | []=>[(k,v)]
 | (k',v')::l=>if k'=k then (k',v)::l else (k',v')::XE k v l
def fk (k:κ):List (κ×ν)->Nat->Option (Nat×ν)
 | [],_=>none
 | (k',v)::l,i=>if k'=k then some (i,v) else fk k l (i+1)
theorem Wz (k:κ):∀(l:List (κ×ν)) (i:Nat),(fk k l i).map (·.2)=TK k l
 | [],_=>rfl
 | (k',v)::l,i=>by
   unfold fk TK
   by_cases h:k'=k
   ·rw [Nk h,Nk h];rfl
   ·rw [Nf h,Nf h];exact Wz k l (i+1)
theorem Ngu {k:κ} {v v':ν}:∀{l:List (κ×ν)} {i j:Nat},fk k l i=some (j,v)->i<=j/\j-i<l.length/\l.set (j-i) (k,v')=XE k v' l
 | [],_,_,h=>by cases h
 | (k2,v2)::l,i,j,h=>by
   unfold fk at h
   unfold XE
   by_cases h2:k2=k
   ·rw [Nk h2] at h
    cases h
    rw [Nk h2,Q2,h2]
    exact ⟨Ng _,by simp,rfl⟩
   ·rw [Nf h2] at h
    obtain ⟨b,c,a⟩:=Ngu (v':=v') h
    rw [Nf h2]
    have e:j-i=(j-(i+1))+1:=by omega
    rw [e,Ph,a]
    exact ⟨by omega,by simp only [Nj];omega,rfl⟩
theorem Ngv {k:κ} {v':ν}:∀{l:List (κ×ν)} {i:Nat},fk k l i=none->l++[(k,v')]=XE k v' l
 | [],_,_=>rfl
 | (k2,v2)::l,i,h=>by
   unfold fk at h
   unfold XE
   by_cases h2:k2=k
   ·rw [Nk h2] at h;cases h
   ·rw [Nf h2] at h
    rw [Nf h2,<-Ngv h,Oc]
theorem Ya {k k':κ} {v:ν}:∀{l:List (κ×ν)},TK k' (XE k v l)=if k'=k then some v else TK k' l
 | []=>by
   unfold XE TK
   by_cases h:k'=k
   ·rw [Nk h.symm,Nk h]
   ·rw [Nf fun q=>h q.symm,Nf h];rfl
 | (k2,v2)::l=>by
   unfold XE
   by_cases h2:k2=k
   ·rw [Nk h2]
    subst h2
    by_cases h:k'=k2
    ·rw [Nk h];unfold TK;rw [Nk h.symm]
    ·rw [Nf h];unfold TK;rw [Nf fun q=>h q.symm,Nf fun q=>h q.symm]
   ·rw [Nf h2]
    by_cases h:k2=k'
    ·have:¬k'=k:=fun q=>h2 (h.trans q)
     rw [Nf this];unfold TK;rw [Nk h,Nk h]
    ·unfold TK;rw [Nf h,Nf h];exact Ya
def Sz (kv:κ->Value) (vv:ν->Value) (es:List (κ×ν)):List (Value×Value):=es.map fun x=>(kv x.1,vv x.2)
def Nog (kv:κ->Value):Prop:=∀a b,VI (kv a) (kv b)=some (decide (a=b))
variable {kv:κ->Value} {vv:ν->Value}
theorem TM (a:Nog kv) (k:κ):∀(es:List (κ×ν)) (i:Nat),findKey (kv k) (Sz kv vv es) i=some ((fk k es i).map fun x=>(x.1,vv x.2))
 | [],_=>rfl
 | (k',v)::l,i=>by
   unfold Sz
   rw [Pi]
   unfold findKey fk
   rw [a]
   by_cases h:k'=k
   ·rw [Nk h,No h.symm];rfl
   ·rw [Nf h,Nx fun q=>h q.symm]
    exact TM a k l (i+1)
end
def kM (k:Int×Int):Value:=.agg #[Vi k.1,Vi k.2]
def vI (n:Int):Value:=Vi n
theorem Nvl:Nog kM:=fun a b=>by
 obtain ⟨c,d⟩:=a;obtain ⟨b1,e⟩:=b
 simp only [kM,VI,UN,if_true,Nz,Bool.and_true,Prod.mk.injEq,Bool.decide_and]
 rfl
theorem Nvk {k:Int×Int}:TW (.ints [.i64,.i64]) (kM k)=true:=by simp [kM,TW,Tg]
end Go.Proofs.YtohnaffmcjbpoaaGreat.Fn


namespace Go.Proofs.YtohnaffmcjbpoaaGreat.Fn
open Go.AM Go.AM.Sym Go.Net Go.Flow
def UA (PL:List (Int×Int)) (p:Int×Int) (w:Bool):List (Int×Int):=if w=true/\p∉PL then PL++[p] else PL
def esZ (PL:List (Int×Int)):List ((Int×Int)×Int):=PL.map fun p=>(p,0)
theorem Nbd {p:Int×Int}:∀{PL:List (Int×Int)},TK p (esZ PL)=if p∈PL then some 0 else none
 | []=>rfl
 | a::PL=>by
   have ih:=Nbd (p:=p) (PL:=PL)
   unfold esZ at ih⊢
   rw [Pi]
   unfold TK
   by_cases h:a=p
   ·rw [Nk h,Nk (by rw [h];exact Nm)]
   ·rw [Nf h,ih]
    by_cases h2:p∈PL
    ·rw [Nk h2,Nk (Nh _ h2)]
    ·rw [Nf h2,Nf (by rw [Nu,not_or];exact ⟨fun e=>h e.symm,h2⟩)]
theorem N13 {p:Int×Int} {PL:List (Int×Int)} (h:p∉PL) (i:Nat):fk p (esZ PL) i=none:=by
 have:=Wz p (esZ PL) i
 rw [Nbd,Nf h] at this
 cases hf:fk p (esZ PL) i with
 | none=>rfl
 | some x=>rw [hf] at this;cases this
theorem Njf {p:Int×Int} {PL:List (Int×Int)} (h:p∈PL) (i:Nat):∃j,fk p (esZ PL) i=some (j,0):=by
 have:=Wz p (esZ PL) i
 rw [Nbd,Nk h] at this
 cases hf:fk p (esZ PL) i with
 | none=>rw [hf] at this;cases this
 | some x=>
   obtain ⟨j,v⟩:=x
   rw [hf] at this
   cases this
   exact ⟨j,rfl⟩
structure PS (A M:Nat) (X:List Nat) (G:NB) (pp:Option Addr) (cp:Nat) (vs:List Value) (PL:List (Int×Int)):Prop where
 hdr:NC G A=Vc (.slice pp PL.length cp::.map (some M)::vs)
 own:Own (A+1) G enc2 2 pp cp PL
 mp:NC G M=.map (Sz kM vI (esZ PL))
 ma:M<A
 nd:PL.Nodup
 sx:∀b∈X,b<G.length/\b≠A/\b≠M/\b∉PZ pp
theorem Ndi [OB] {lim A M:Nat} {X:List Nat} {G:NB} {pp:Option Addr} {cp:Nat} {vs:List Value} {PL:List (Int×Int)} {p:Int×Int} {w:Bool} {Q:Value->NB->Prop} (h:PS A M X G pp cp vs PL) (P:lim<=M) (hl:PL.length<2 ^ 29) (hv:vs.length=6)
  (D:∀G' T I,PS A M X G' T I vs (UA PL p w)->(∀b∈X,NC G' b=NC G b)->G.length<=G'.length->Q (.tuple #[]) G') :
  NR E false lim 59 [Vp A,.agg #[Vi p.1,Vi p.2],.bool w] G Q:=by
 refine Te (by decide) e59 rfl ?_
 rw [b59,c59]
 have s:=h.ma
 have g:=fun X=>(NZ.refl.app (X:=X)).cells h.hdr
 have z:M<G.length:=by
  rcases Om M G.length with h1 | h1
  ·exact h1
  ·have:=h.mp;unfold NC at this;rw [Nc,N8 h1] at this;cases this
 have i:∀X,NC (G++X) M=.map (Sz kM vI (esZ PL)):=fun X=>by rw [NK z];exact h.mp
 have f:findKey (.agg #[Vi p.1,Vi p.2]) (Sz kM vI (esZ PL)) 0=some ((fk p (esZ PL) 0).map fun x=>(x.1,vI x.2)):=TM (vv:=vI) Nvl p (esZ PL) 0
 have r:TW (.ints [.i64,.i64]) (.agg #[Vi p.1,Vi p.2])=true:=Nvk (k:=p)
 have ac:(PL.length:Int)=PL.length:=rfl
 by_cases o:p∈PL
 ·obtain ⟨j,hj⟩:=Njf o 0
  rw [hj] at f
  simp only [Nz,vI] at f
  have u:UA PL p w=PL:=Nf fun N=>N.2 o
  have q:∀Z,PS A M X (G++Z) pp cp vs PL:=fun Z=>⟨g Z,h.own.app Z,i Z,s,h.nd,fun b c=>⟨by have:=(h.sx b c).1;simp;omega,(h.sx b c).2⟩⟩
  cases w with
  | true=>
    simp only [n59,r59,g,i,f,r,SB,seval,NJ,PW,reduceCtorEq,NH,place,NA]
    exact D _ pp cp (by rw [u];exact q _) (fun b c=>NK (h.sx b c).1) (by simp)
  | false=>
    simp only [n59,r59,g,i,f,r,SB,seval,NJ,reduceCtorEq,NH,place,NA]
    exact D _ pp cp (by rw [u];exact q _) (fun b c=>NK (h.sx b c).1) (by simp)
 rw [N13 o 0] at f
 simp only [Ov] at f
 cases w with
 | false=>
   have u:UA PL p false=PL:=Nf fun N=>by cases N.1
   simp only [n59,r59,g,i,f,r,SB,seval,NJ,reduceCtorEq,NH,place,NA]
   exact D _ pp cp (by rw [u];exact ⟨g _,h.own.app _,i _,s,h.nd,fun b c=>⟨by have:=(h.sx b c).1;simp;omega,(h.sx b c).2⟩⟩) (fun b c=>NK (h.sx b c).1) (by simp)
 | true=>
   have u:UA PL p true=PL++[p]:=Nk ⟨rfl,o⟩
   obtain ⟨l,e2,k2,F⟩:=OO z (.map (Sz kM vI (esZ PL)++[(.agg #[Vi p.1,Vi p.2],Vi 0)]))
   have aa:=ND h.hdr
   have el:=F.len
   have v:=(F.other A (by omega)).trans h.hdr
   have y:=fun X=>(NZ.refl.app (X:=X)).cells v
   have L:=(h.own.mut F fun a n e=>by have:=(h.own.block n).1;omega).app [Vc [Vi p.1,Vi p.2]]
   obtain ⟨W,p',c',e4,O4,C4,K4,O,S,_⟩:=Own.moreD L (lim':=lim) (d:=l.length+2) (bytes:=16) (by omega) PO (by decide) [p] (by simp;unfold PM;omega) (by simp;omega) (by simp;omega) [Vc [Vi p.1,Vi p.2],.dead] (by simp) (by simp) (x:=.slice (Sa (l.length+1)) 1 1) (str:=false)
    (QG (m:=[p]) (Sl.row (ro:=false) PO (by rw [Nr,OL];rfl))) rfl
   simp only [Nr,Oc,Ob,Nb,Nj,Nl,N0,Na] at e4 O4 C4 K4 O
   have hp:=S (by simp)
   subst hp
   have J:OW lim (some (l.length+2)) 2 16 false (.slice pp PL.length cp) (.slice (Sa (l.length+1)) 1 1) (l++[Vc [Vi p.1,Vi p.2],Vc [Vi p.1,Vi p.2],.dead])=some (.slice (Sa (l.length+2)) (PL.length+1) c',W++[]):=by rw [Na];exact e4
   have kk:∀b,b<l.length->(∀a,pp=some a->b≠a.block)->NC W b=NC l b:=fun b c R=>(K4 b (by omega) R).trans (NK c)
   have B:=(kk A (by omega) fun a n=>by have:=(h.own.block n).1;omega).trans v
   have C:=fun X=>(NZ.refl.app (X:=X)).cells B
   obtain ⟨Y,e5,k5,t⟩:=OO (ND B) (Vc (.slice (Sa (l.length+2)) (PL.length+1) c'::.map (some M)::vs))
   have H:∀X,NC (l++Vc [Vi p.1,Vi p.2]::X) G.length=Vc [Vi p.1,Vi p.2]:=fun X=>by rw [<-el,NN];rfl
   simp only [n59,r59,g,i,f,r,P,e2,y,H,J,C,show lim<=A by omega,e5,SB,seval,NJ,PW,reduceCtorEq,NH,place,NA]
   have ez:esZ (PL++[p])=esZ PL++[(p,0)]:=by unfold esZ;rw [Pe];rfl
   have K:NC Y M=.map (Sz kM vI (esZ (PL++[p]))):=by
    rw [t.other M (by omega),kk M (by omega) fun a n=>by have:=(h.own.block n).1;omega,k2,ez]
    unfold Sz
    rw [Pe];rfl
   have q:PS A M X (Y++[]) (Sa (l.length+2)) c' vs (PL++[p]):=by
    refine ⟨by rw [Nb];exact (NZ.refl.app).cells k5,(O4.mut t fun a n e=>by cases n;simp only at e;omega).app _,by rw [NK (by have:=t.len;omega)];exact K,s, ?_,fun b c=>?_⟩
    ·rw [Qa]
     exact ⟨h.nd,by simp,fun a n b c e=>by rw [Ni] at c;subst c;subst e;exact o n⟩
    ·obtain ⟨x1,U,V,x4⟩:=h.sx b c
     exact ⟨by have:=t.len;simp;omega,U,V,fun hm=>by simp only [PZ,Ni] at hm;omega⟩
   refine D _ (Sa (l.length+2)) c' (by rw [u];exact q) (fun b c=>?_) (by have:=t.len;simp;omega)
   obtain ⟨x1,U,V,x4⟩:=h.sx b c
   rw [NK (by have:=t.len;omega),t.other b U,kk b (by omega) fun a n e=>x4 (NT.2 ⟨a,n,e.symm⟩),F.other b V]
end Go.Proofs.YtohnaffmcjbpoaaGreat.Fn


namespace Go.Proofs.YtohnaffmcjbpoaaGreat.Fn
open Go.AM Go.AM.Sym Go.Net
theorem Nvo [OB] {mp:Bool} {lim:Nat} {n:Int} {H:NB} {Q:Value->NB->Prop}:NR E mp lim 97 [Vi n] H Q=Q (.bool false) H:=by
 refine pc (by decide) e97 rfl rfl ?_
 rw [b97,c97]
 simp only [n97,r97,SB,seval,NJ,NF,reduceCtorEq,NH,NG]
def UE (a b:Int):Int:=if a<b then -1 else if b<a then 1 else 0
theorem Nl5 [OB] {mp:Bool} {lim:Nat} {a b:Int} {H:NB} {Q:Value->NB->Prop}:NR E mp lim 68 [Vi a,Vi b] H Q=Q (Vi (UE a b)) H:=by
 refine pc (by decide) e68 rfl rfl ?_
 rw [b68,c68]
 simp only [n68,Nvo,SB,seval,NE,NJ,NF,reduceCtorEq,NH]
 repeat' ((first | refine Yu (fun hw=>?_) (fun hw=>?_) | refine Y8 (fun hw=>?_) (fun hw=>?_) | refine Yv (fun hw=>?_) (fun hw=>?_) | refine Y9 (fun hw=>?_) (fun hw=>?_))<;>(try simp only [hw,n68,r68,SB,Nat.reduceLT,NJ,Nat.reduceEqDiff,NF,reduceCtorEq,NH,NG]))
 all_goals simp [UE, *]
def orL:List Int->Int
 | []=>0
 | x::l=>if x≠0 then x else orL l
theorem Ns7 {l:List Int} {i:Nat} (h:i<l.length):orL (l.drop i)=if gt l i≠0 then gt l i else orL (l.drop (i+1)):=by
 rw [Pk h,orL,OJ h]
theorem N3h [OB] (mp:Bool) (lim:Nat) {p:Option Addr} {l:List Int} {cap:Nat} {H:NB} {Q:Value->NB->Prop} (q:Sl H encI 1 p l) (hn:l.length<2 ^ 62) :
  NR E mp lim 67 [.slice p l.length cap] H Q=Q (Vi (orL l)) H:=by
 refine pc (by decide) e67 rfl rfl ?_
 rw [b67,c67]
 simp only [n67,SB,seval,NJ,reduceCtorEq,NH]
 refine NM (fun i=>l.length-i) (fun i fr G=>i<=l.length/\fr 6=.slice p l.length cap/\fr 7=Vi l.length/\fr 8=Vi i/\fr 3=Vi 0/\Sl G encI 1 p l/\
  orL l=orL (l.drop i)) 0 ⟨Nv _,rfl,rfl,by rfl,rfl,q.app _,rfl⟩ ?_
 intro i fr G ⟨hi,n,f,g,e,h,b⟩ o
 rw [NQ Nz6.eq_1]
 refine NI ?_
 by_cases a:i<l.length
 ·have j:=(h.app []).loadCell0 (fun _=>rfl) a (by decide)
  have d:=fun c (k:IntKind) (H1:NB)=>h.idx (c:=c) (k:=k) (H1:=H1) a
  have m:IntKind.i64.wrap ((i:Int)+1)=((i+1:Nat):Int):=NS (by omega)
  rw [Ns7 a] at b
  simp only [n67,n,f,g,e,a,d,j,encI,SB,seval,NJ,NF]
  repeat' ((first | refine Yu (fun hw=>?_) (fun hw=>?_) | refine Y8 (fun hw=>?_) (fun hw=>?_) | refine Yv (fun hw=>?_) (fun hw=>?_) | refine Y9 (fun hw=>?_) (fun hw=>?_))<;>(try simp only [hw,n67,r67,g,m,SB,Nat.reduceLT,NJ,Nat.reduceEqDiff,NF,NG]))
  ·rw [b,Nk hw]
  ·refine o (i+1) _ _ ⟨by omega,n,f,rfl,e,h.app _, ?_⟩ (by omega)
   rw [b,Nf hw]
 ·obtain rfl:i=l.length:=by omega
  rw [R3,orL] at b
  simp only [n67,r67,f,g,e,a,b,SB,seval,NJ,NF,NG]
def Zd:List Value->List Int
 | .int _ a::r=>a::Zd r
 | _=>[]
def M5:List Value->Bool
 | .int .i64 _::r=>M5 r
 | []=>true
 | _=>false
theorem Wh {j:IntKind} {a:Int} {r:List Value}:Zd (.int j a::r)=a::Zd r:=rfl
theorem Zc:Zd []=[]:=rfl
theorem XU {a:Int} {r:List Value}:M5 (Vi a::r)=M5 r:=id rfl
theorem YZ:M5 []=true:=id rfl
theorem Ne9:∀c:List Value,M5 c=true->c=(Zd c).flatMap encI
 | [],_=>rfl
 | .int .i64 a::r,h=>by
   rw [Wh,N2,<-Ne9 r h];rfl
theorem Nkv [OB] {mp:Bool} {lim b n cap:Nat} {H:NB} {Q:Value->NB->Prop} (h1:isCells (NC H b)=true) (h2:M5 (cellsOf (NC H b))=true) (a:(Zd (cellsOf (NC H b))).length=n) (c:n<2 ^ 62) :
  NR E mp lim 67 [.slice (Sa b) n cap] H Q=Q (Vi (orL (Zd (cellsOf (NC H b))))) H:=by
 subst a
 rw [N3h mp lim (Sl.lit (fun _=>rfl) h1 (Ne9 _ h2)) c]
end Go.Proofs.YtohnaffmcjbpoaaGreat.Fn


namespace Go.AM.Srt
open Go.AM Go.AM.Sym Go.Sort
variable {E:Env} {iz:Ids} [DT E E] [SortAt E iz] {α:Type} [Inhabited α] {enc:α->List Value} [EncOk enc iz]
def ltC {α:Type} (c:α->α->Int) (x y:α):Bool:=decide (c x y<0)
theorem N1y {G X:NB} {B lim cap n:Nat} {p:Option Addr} {c:α->α->Int} {cl:FuncId} {cs:List Value} {Q:Value->NB->Prop} (hp:p=Sa B) (hB:B<G.length) (hl:lim<=B) (T:n<2 ^ 61) (hc:∀(mp:Bool) (lim:Nat) (x y:α) (H:NB) (Q:Value->NB->Prop),NR E mp lim cl (.agg (enc x).toArray::.agg (enc y).toArray::cs) H Q=Q (Vi (c x y)) H) {d:Array α} {a b:Nat} (hd:d.size=n) (V:b<=n) (R:a<=b) :
  NR E false lim iz.INS [.slice p n cap,Vi a,Vi b,.func (.func cl) #[] cs.toArray] (DH enc G B d++X) Q=Q (.tuple #[]) (DH enc G B (insertionSort (ltC c) d a b)++X):=by
 refine runs (SortAt.INS (E:=E) (z:=iz)) ?_
 rw [N33,Nzb]
 have F:IntKind.i64.wrap ((a:Int)+1)=((a+1:Nat):Int):=NS (by omega)
 simp only [Niq,F,SB,seval,NJ,NF,NH]
 refine NM (S:=Nat×Array α) (fun s=>b+1-s.1) (fun s fr H=>a<=s.1/\s.1<=b+1/\fr 0=.slice p n cap/\fr 1=Vi a/\fr 2=Vi b/\fr 3=.func (.func cl) #[] cs.toArray/\fr 8=Vi s.1/\
  H=DH enc G B s.2++X/\s.2.size=n/\insertionSort (ltC c) d a b=insOuter (ltC c) a b s.1 s.2) (a+1,d) ⟨by simp,by simp;omega,rfl,rfl,rfl,rfl,rfl,rfl,hd,rfl⟩ ?_
 rintro ⟨i,d1⟩ fr H ⟨h1,h2,g0,g1,D,O,A,rfl,q,he⟩ K
 simp only at h1 h2 A q he
 rw [NQ (Nlo.eq_1 iz)]
 unfold insOuter at he
 by_cases m:i<b
 ·rw [Nk m] at he
  simp only [Niq,D,A,m,SB,seval,NJ,NF]
  refine NM (S:=Nat×Array α) (fun s=>s.1) (fun s fr H=>s.1<=i/\fr 0=.slice p n cap/\fr 1=Vi a/\fr 2=Vi b/\fr 3=.func (.func cl) #[] cs.toArray/\fr 8=Vi i/\fr 9=Vi s.1/\
   H=DH enc G B s.2++X/\s.2.size=n/\insInner (ltC c) a i d1=insInner (ltC c) a s.1 s.2) (i,d1) ⟨Ng _,g0,g1,D,O,A,rfl,by simp,q,rfl⟩ ?_
  rintro ⟨j,l⟩ N U ⟨k1,w,q1,q2,q3,I,C,rfl,f,hi⟩ P
  simp only at k1 C f hi
  rw [NQ (Nuh.eq_1 iz)]
  have r:IntKind.i64.wrap ((i:Int)+1)=((i+1:Nat):Int):=NS (by omega)
  by_cases g:a<j
  ·obtain ⟨j,rfl⟩:∃j',j=j'+1:=⟨j-1,by omega⟩
   have t:IntKind.i64.wrap (((j+1:Nat):Int)-1)=(j:Int):=QY (n:=j+1) (by omega) (by omega)
   have ld:=fun (X:NB) (d:Array α) (hd:d.size=n)=>Yt (X:=X) (d:=d) (i:=j) hp hB (EncOk.len (enc:=enc) (z:=iz)) (by omega)
   have v:=fun (X:NB) (d:Array α) (hd:d.size=n)=>Yt (X:=X) (d:=d) (i:=j+1) hp hB (EncOk.len (enc:=enc) (z:=iz)) (by omega)
   have st:=fun (X:NB) (d:Array α) (hd:d.size=n) (y:α)=>Yr (X:=X) (d:=d) (i:=j) (y:=y) hp hB hl (EncOk.len (enc:=enc) (z:=iz)) (by omega)
   have J:=fun (X:NB) (d:Array α) (hd:d.size=n) (y:α)=>Yr (X:=X) (d:=d) (i:=j+1) (y:=y) hp hB hl (EncOk.len (enc:=enc) (z:=iz)) (by omega)
   have M:=fun c (k:IntKind) (H:NB)=>VT (e:=iz.e) (i:=j) (n:=n) (c:=c) (k:=k) (H:=H) hp (by omega)
   have u:=fun c (k:IntKind) (H:NB)=>VT (e:=iz.e) (i:=j+1) (n:=n) (c:=c) (k:=k) (H:=H) hp (by omega)
   rw [insInner] at hi
   by_cases o:ltC c l[j+1]! l[j]! = true
   ·have h:c l[j+1]! l[j]!<0:=by simpa [ltC] using o
    simp only [Niq,w,q1,q3,C,g,t,ld,v,st,J,M,u,f,hc,h,N4,(EncOk.len (enc:=enc) (z:=iz)),SB,seval,NE,NJ,NF,reduceCtorEq,NA]
    refine P (j,swp l (j+1) j) _ _ ⟨by simp only;omega,w,q1,q2,q3,I,rfl,by simp [swp],by simp [swp,f], ?_⟩ (by simp only;omega)
    rw [hi];simp [g,o]
   ·have h:¬c l[j+1]! l[j]!<0:=by simpa [ltC] using o
    simp only [Niq,w,q1,q3,I,C,g,t,ld,v,M,u,f,hc,h,r,SB,seval,NE,NJ,NF,reduceCtorEq]
    refine K (i+1,l) _ _ ⟨by simp only;omega,by simp only;omega,w,q1,q2,q3,rfl,by simp,f, ?_⟩ (by simp only;omega)
    rw [he,hi];simp [g,o]
  ·have L:¬(a:Int)<(j:Int):=by omega
   simp only [Niq,q1,I,C,g,r,SB,seval,NJ,NF]
   refine K (i+1,l) _ _ ⟨by simp only;omega,by simp only;omega,w,q1,q2,q3,rfl,by simp,f, ?_⟩ (by simp only;omega)
   rw [he,hi]
   cases j with
   | zero=>rfl
   | succ j=>rw [insInner];simp [show ¬j+1 > a by omega]
 ·rw [Nf m] at he
  simp only [Niq,N26,D,A,m,he,SB,seval,NJ,NF]
theorem N04 {G X:NB} {B lim cap n:Nat} {p:Option Addr} {c:α->α->Int} {cl:FuncId} {cs:List Value} {Q:Value->NB->Prop} (hp:p=Sa B) (hB:B<G.length) (hl:lim<=B) (v:n<2 ^ 61) (hc:∀(mp:Bool) (lim:Nat) (x y:α) (H:NB) (Q:Value->NB->Prop),NR E mp lim cl (.agg (enc x).toArray::.agg (enc y).toArray::cs) H Q=Q (Vi (c x y)) H) {d:Array α} {a b:Nat} (hd:d.size=n) (A:b<=n) (t:a<b) :
  NR E false lim iz.REV [.slice p n cap,Vi a,Vi b,.func (.func cl) #[] cs.toArray] (DH enc G B d++X) Q=Q (.tuple #[]) (DH enc G B (reverseRange d a b)++X):=by
 refine runs (SortAt.REV (E:=E) (z:=iz)) ?_
 rw [N5t,N2d]
 have m:IntKind.i64.wrap ((b:Int)-1)=((b-1:Nat):Int):=QY (by omega) (by omega)
 simp only [N1m,m,SB,seval,NJ,NF,NH]
 have ld:=fun (i:Nat) (X:NB) (d:Array α) (hd:d.size=n) (hi:i<n)=>Yt (X:=X) (d:=d) (i:=i) hp hB (EncOk.len (enc:=enc) (z:=iz)) (by omega);have st:=fun (i:Nat) (X:NB) (d:Array α) (hd:d.size=n) (hi:i<n) (y:α)=>Yr (X:=X) (d:=d) (i:=i) (y:=y) hp hB hl (EncOk.len (enc:=enc) (z:=iz)) (by omega);have w:=fun (i:Nat) (hi:i<n) c (k:IntKind) (H:NB)=>VT (e:=iz.e) (i:=i) (n:=n) (c:=c) (k:=k) (H:=H) hp hi
 refine NM (S:=(Nat×Nat)×Array α) (fun s=>s.1.2+1-s.1.1) (fun s fr H=>s.1.1<=b/\s.1.2<b/\fr 0=.slice p n cap/\fr 8=Vi s.1.1/\fr 9=Vi s.1.2/\
  H=DH enc G B s.2++X/\s.2.size=n/\reverseRange d a b=reverseLoop s.1.1 s.1.2 s.2) ((a,b-1),d) ⟨by simp;omega,by simp;omega,rfl,rfl,rfl,rfl,hd,rfl⟩ ?_
 rintro ⟨⟨i,j⟩,d1⟩ fr H ⟨h1,h2,g0,h,l,rfl,g,he⟩ r
 simp only at h1 h2 h l g he
 rw [NQ (Nua.eq_1 iz)]
 unfold reverseLoop at he
 by_cases f:i<j
 ·rw [Nk f] at he
  have o:IntKind.i64.wrap ((i:Int)+1)=((i+1:Nat):Int):=NS (by omega)
  have q:IntKind.i64.wrap ((j:Int)-1)=((j-1:Nat):Int):=QY (by omega) (by omega)
  have hi:i<n:=by omega
  have u:j<n:=by omega
  simp only [N1m,g0,h,l,f,o,q,ld,st,w,Na,N4,(EncOk.len (enc:=enc) (z:=iz)),g,hi,u,SB,seval,NJ,NF,reduceCtorEq,NA]
  refine r ((i+1,j-1),swp d1 i j) _ _ ⟨by simp only;omega,by simp only;omega,g0,rfl,rfl,by simp [swp],by simp [swp,g],he⟩ (by simp only;omega)
 ·rw [Nf f] at he
  simp only [N1m,N45,h,l,f,he,SB,seval,NJ,NF]
theorem Nxk {G X:NB} {B lim cap n:Nat} {p:Option Addr} {c:α->α->Int} {cl:FuncId} {cs:List Value} {Q:Value->NB->Prop} (hp:p=Sa B) (hB:B<G.length) (hl:lim<=B) (R:n<2 ^ 61) (hc:∀(mp:Bool) (lim:Nat) (x y:α) (H:NB) (Q:Value->NB->Prop),NR E mp lim cl (.agg (enc x).toArray::.agg (enc y).toArray::cs) H Q=Q (Vi (c x y)) H) {d:Array α} {lo hi first:Nat} (hd:d.size=n) (U:first+hi<=n) (O:lo<=hi) :
  NR E false lim iz.SIFT [.slice p n cap,Vi lo,Vi hi,Vi first,.func (.func cl) #[] cs.toArray] (DH enc G B d++X) Q=Q (.tuple #[]) (DH enc G B (siftDown (ltC c) hi first lo d)++X):=by
 refine runs (SortAt.SIFT (E:=E) (z:=iz)) ?_
 rw [N3y,Nwr]
 generalize P:siftDown (ltC c) hi first lo d=T
 simp only [Naa,SB,seval,NJ,NH]
 have ld:=fun (i:Nat) (X:NB) (d:Array α) (hd:d.size=n) (hi:i<n)=>Yt (X:=X) (d:=d) (i:=i) hp hB (EncOk.len (enc:=enc) (z:=iz)) (by omega);have st:=fun (i:Nat) (X:NB) (d:Array α) (hd:d.size=n) (hi:i<n) (y:α)=>Yr (X:=X) (d:=d) (i:=i) (y:=y) hp hB hl (EncOk.len (enc:=enc) (z:=iz)) (by omega);have J:=fun (i:Nat) (hi:i<n) c (k:IntKind) (H:NB)=>VT (e:=iz.e) (i:=i) (n:=n) (c:=c) (k:=k) (H:=H) hp hi
 refine NM (S:=Nat×Array α) (fun s=>hi-s.1) (fun s fr H=>s.1<=hi/\fr 0=.slice p n cap/\fr 2=Vi hi/\fr 3=Vi first/\fr 4=.func (.func cl) #[] cs.toArray/\fr 10=Vi s.1/\
  H=DH enc G B s.2++X/\s.2.size=n/\T=siftDown (ltC c) hi first s.1 s.2) (lo,d) ⟨O,rfl,rfl,rfl,rfl,rfl,rfl,hd,P.symm⟩ ?_
 rintro ⟨r,d1⟩ fr H ⟨h1,g0,q,t,u,f,rfl,a,he⟩ N
 simp only at h1 f a he
 rw [NQ (Nnm.eq_1 iz)]
 unfold siftDown at he
 have g:IntKind.i64.wrap (2*(r:Int))=((2*r:Nat):Int):=by rw [NY (by omega) (by omega)];omega
 have j:IntKind.i64.wrap (((2*r:Nat):Int)+1)=((2*r+1:Nat):Int):=NS (by omega)
 have l:IntKind.i64.wrap (((2*r+1:Nat):Int)+1)=((2*r+2:Nat):Int):=NS (by omega)
 have m:IntKind.i64.wrap ((first:Int)+((2*r+1:Nat):Int))=((first+(2*r+1):Nat):Int):=by rw [NY (by omega) (by omega)];omega
 have v:IntKind.i64.wrap (((first+(2*r+1):Nat):Int)+1)=((first+(2*r+2):Nat):Int):=NS (by omega)
 have L:IntKind.i64.wrap ((first:Int)+((2*r+2:Nat):Int))=((first+(2*r+2):Nat):Int):=by rw [NY (by omega) (by omega)];omega
 have o:IntKind.i64.wrap ((first:Int)+(r:Int))=((first+r:Nat):Int):=by rw [NY (by omega) (by omega)];omega
 by_cases M:2*r+1>=hi
 ·rw [Rz M] at he
  have b:hi<=2*r+1:=M
  simp only [Naa,Nm3,q,f,g,j,b,he,SB,seval,NJ,NF,reduceCtorEq]
 ·rw [dif_neg M] at he
  have b:¬hi<=2*r+1:=M
  have D:first+(2*r+1)<n:=by omega
  have F:first+r<n:=by omega
  by_cases C:2*r+1+1<hi/\c d1[first+(2*r+1)]! d1[first+(2*r+2)]!<0
  ·obtain ⟨C,A⟩:=C
   have I:first+(2*r+2)<n:=by omega
   have w:2*r+2<hi:=by omega
   rw [Nk (by simp only [N9,N3,ltC];exact ⟨C,by rw [show first+(2*r+1)+1=first+(2*r+2) by omega];exact A⟩)] at he
   by_cases c4:c d1[first+r]! d1[first+(2*r+2)]!<0
   ·rw [Nf (by simp [ltC,c4]),Rz w] at he
    simp only [Naa,g0,q,t,u,f,g,j,l,m,v,L,o,b,w,A,c4,ld,st,J,Na,N4,(EncOk.len (enc:=enc) (z:=iz)),a,D,F,I,hc,SB,seval,NE,NJ,NF,PW,reduceCtorEq,NA]
    refine N (2*r+2,swp d1 (first+r) (first+(2*r+2))) _ _ ⟨by simp only;omega,g0,q,t,u,rfl,by simp [swp],by simp [swp,a],he⟩ (by simp only;omega)
   ·rw [Nk (by simp [ltC,c4])] at he
    simp only [Naa,Nm3,g0,q,t,u,f,g,j,l,m,v,L,o,b,w,A,c4,ld,J,Na,a,D,F,I,hc,he,SB,seval,NE,NJ,NF,PW,reduceCtorEq]
  ·rw [Nf (by simp only [N9,N3,ltC];rw [show first+(2*r+1)+1=first+(2*r+2) by omega];exact C)] at he
   by_cases c4:c d1[first+r]! d1[first+(2*r+1)]!<0
   ·rw [Nf (by simp [ltC,c4])] at he
    by_cases K:2*r+2<hi
    ·have A:¬c d1[first+(2*r+1)]! d1[first+(2*r+2)]!<0:=fun h=>C ⟨by omega,h⟩
     have I:first+(2*r+2)<n:=by omega
     simp only [Naa,g0,q,t,u,f,g,j,l,m,v,o,b,K,A,c4,ld,st,J,Na,N4,(EncOk.len (enc:=enc) (z:=iz)),a,D,F,I,hc,SB,seval,NE,NJ,NF,PW,reduceCtorEq,NA]
     refine N (2*r+1,swp d1 (first+r) (first+(2*r+1))) _ _ ⟨by simp only;omega,g0,q,t,u,rfl,by simp [swp],by simp [swp,a],he⟩ (by simp only;omega)
    ·simp only [Naa,g0,q,t,u,f,g,j,l,m,o,b,K,c4,ld,st,J,Na,N4,(EncOk.len (enc:=enc) (z:=iz)),a,D,F,hc,SB,seval,NE,NJ,NF,PW,reduceCtorEq,NA]
     refine N (2*r+1,swp d1 (first+r) (first+(2*r+1))) _ _ ⟨by simp only;omega,g0,q,t,u,rfl,by simp [swp],by simp [swp,a],he⟩ (by simp only;omega)
   ·rw [Nk (by simp [ltC,c4])] at he
    by_cases K:2*r+2<hi
    ·have A:¬c d1[first+(2*r+1)]! d1[first+(2*r+2)]!<0:=fun h=>C ⟨by omega,h⟩
     have I:first+(2*r+2)<n:=by omega
     simp only [Naa,Nm3,g0,q,t,u,f,g,j,l,m,v,o,b,K,A,c4,ld,J,Na,a,D,F,I,hc,he,SB,seval,NE,NJ,NF,PW,reduceCtorEq]
    ·simp only [Naa,Nm3,g0,q,t,u,f,g,j,l,m,o,b,K,c4,ld,J,Na,a,D,F,hc,he,SB,seval,NE,NJ,NF,PW,reduceCtorEq]
variable {E:Env} {iz:Ids} [DT E E] [SortAt E iz] {α:Type} [Inhabited α] {enc:α->List Value} [EncOk enc iz]
theorem Nj7 {α:Type} [Inhabited α] {d:Array α} {i j:Nat}:(swp d i j).size=d.size:=by simp [swp]
theorem VY {α:Type} [Inhabited α] {lt:α->α->Bool} {hi first:Nat}:∀(m r:Nat) (d:Array α),hi-r<=m->(siftDown lt hi first r d).size=d.size
 | 0,r,d,h=>by
   rw [siftDown,Rz (by omega)]
 | m+1,r,d,h=>by
   rw [siftDown]
   split
   ·rfl
   ·split
    ·split
     ·rfl
     ·split
      ·rw [VY m _ _ (by omega),Nj7]
      ·rfl
    ·split
     ·rfl
     ·rw [VY m _ _ (by omega),Nj7]
theorem Nyl {G X:NB} {B lim cap n:Nat} {p:Option Addr} {c:α->α->Int} {cl:FuncId} {cs:List Value} {Q:Value->NB->Prop} (hp:p=Sa B) (hB:B<G.length) (hl:lim<=B) (I:n<2 ^ 61) (hc:∀(mp:Bool) (lim:Nat) (x y:α) (H:NB) (Q:Value->NB->Prop),NR E mp lim cl (.agg (enc x).toArray::.agg (enc y).toArray::cs) H Q=Q (Vi (c x y)) H) {d:Array α} {a b:Nat} (hd:d.size=n) (hb:b<=n) (aa:a<=b) :
  NR E false lim iz.HEAP [.slice p n cap,Vi a,Vi b,.func (.func cl) #[] cs.toArray] (DH enc G B d++X) Q=Q (.tuple #[]) (DH enc G B (heapSort (ltC c) d a b)++X):=by
 refine runs (SortAt.HEAP (E:=E) (z:=iz)) ?_
 rw [N34,Nwv]
 obtain ⟨h,rfl⟩:∃h,b=a+h:=⟨b-a,by omega⟩
 have J:IntKind.i64.wrap (((a+h:Nat):Int)-(a:Int))=(h:Int):=by rw [NY (by omega) (by omega)];omega
 have v:IntKind.i64.wrap ((h:Int)-1)=(h:Int)-1:=NY (by omega) (by omega)
 have K:IntKind.i64.wrap (((h:Int)-1).tdiv 2)=(((h-1) / 2+1:Nat):Int)-1:=by
  rcases Rq h with rfl | h0
  ·decide
  ·rw [Pv (by omega),NY (by omega) (by omega)];omega
 generalize O:heapSort (ltC c) d a (a+h)=T
 rw [heapSort,show a+h-a=h by omega] at O
 have ld:=fun (i:Nat) (X:NB) (d:Array α) (hd:d.size=n) (hi:i<n)=>Yt (X:=X) (d:=d) (i:=i) hp hB (EncOk.len (enc:=enc) (z:=iz)) (by omega);have st:=fun (i:Nat) (X:NB) (d:Array α) (hd:d.size=n) (hi:i<n) (y:α)=>Yr (X:=X) (d:=d) (i:=i) (y:=y) hp hB hl (EncOk.len (enc:=enc) (z:=iz)) (by omega);have ix:=fun (i:Nat) (hi:i<n) c (k:IntKind) (H:NB)=>VT (e:=iz.e) (i:=i) (n:=n) (c:=c) (k:=k) (H:=H) hp hi
 have g:=fun (X:NB) (d:Array α) (lo hi:Nat) (hd:d.size=n) (P:hi<=h) (F:lo<=hi) Q=>Nxk (X:=X) (d:=d) (lo:=lo) (hi:=hi) (first:=a) (cap:=cap) (Q:=Q) hp hB hl I hc hd (by omega) F
 simp only [Nir,J,v,K,SB,seval,NJ,NF,NH]
 refine NM (S:=Nat×Array α) (fun s=>s.1) (fun s fr H=>s.1<=h+1/\(h=0->s.1<=1)/\(0<h->s.1<=h)/\fr 0=.slice p n cap/\fr 3=.func (.func cl) #[] cs.toArray/\fr 8=Vi a/\fr 9=Vi 0/\fr 10=Vi h/\fr 11=Vi ((s.1:Int)-1)/\
  H=DH enc G B s.2++X/\s.2.size=n/\T=heapPop (ltC c) a h (heapBuild (ltC c) h a s.1 s.2)) ((h-1) / 2+1,d) ⟨by simp only;omega,by simp only;omega,by simp only;omega,rfl,rfl,rfl,rfl,rfl,rfl,rfl,hd,O.symm⟩ ?_
 rintro ⟨k,d1⟩ fr H ⟨h1,h2,Z,g0,A,C,M,o,j,rfl,l,he⟩ N
 simp only at h1 h2 Z j l he
 rw [NQ (Nns.eq_1 iz)]
 cases k with
 | succ k=>
   have D:((k+1:Nat):Int)-1=(k:Int):=by omega
   rw [D] at j
   have u:IntKind.i64.wrap ((k:Int)-1)=(k:Int)-1:=NY (by omega) (by omega)
   have t:k<=h:=by omega
   have r:(0:Int)<=(k:Int):=by omega
   simp only [Nir,g0,A,C,o,j,r,u,g,l,t,SB,seval,NE,NJ,NF,reduceCtorEq]
   refine N (k,siftDown (ltC c) h a k d1) _ _ ⟨by simp only;omega,by simp only;omega,by simp only;omega,g0,A,C,M,o,rfl,by simp,by simp only;rw [VY _ _ _ (Ng _),l],he⟩ (by simp only;omega)
 | zero=>
   clear N
   rw [heapBuild] at he
   simp only [Nir,o,j,v,Qu,Int.zero_sub,Int.reduceNeg,SB,seval,NJ,NF]
   refine NM (S:=Nat×Array α) (fun s=>s.1) (fun s fr H=>s.1<=h/\fr 0=.slice p n cap/\fr 3=.func (.func cl) #[] cs.toArray/\fr 8=Vi a/\fr 9=Vi 0/\fr 12=Vi ((s.1:Int)-1)/\
    H=DH enc G B s.2++X/\s.2.size=n/\T=heapPop (ltC c) a s.1 s.2) (h,d1) ⟨Ng _,g0,A,C,M,rfl,by simp,l,he⟩ ?_
   rintro ⟨k,W⟩ Y H2 ⟨k1,R,q3,U,V,m,rfl,q,w⟩ hM
   simp only at k1 m q w
   rw [NQ (Nnt.eq_1 iz)]
   cases k with
   | succ k=>
     have D:((k+1:Nat):Int)-1=(k:Int):=by omega
     rw [D] at m
     have u:IntKind.i64.wrap ((k:Int)-1)=(k:Int)-1:=NY (by omega) (by omega)
     have L:IntKind.i64.wrap ((a:Int)+(k:Int))=((a+k:Nat):Int):=by rw [NY (by omega) (by omega)];omega
     have i1:a<n:=by omega
     have i2:a+k<n:=by omega
     have t:k<=h:=by omega
     have r:(0:Int)<=(k:Int):=by omega
     have f:=fun (X:NB) (d:Array α) (hi:Nat) (hd:d.size=n) (P:hi<=h) Q=>g X d 0 hi hd P (Nv _) Q
     simp only [show ((0:Nat):Int)=0 from rfl] at f
     simp only [Nir,R,q3,U,V,m,r,u,L,f,q,t,ld,st,ix,Na,N4,(EncOk.len (enc:=enc) (z:=iz)),i1,i2,SB,seval,NE,NJ,NF,reduceCtorEq,NA]
     refine hM (k,siftDown (ltC c) k a 0 (swp W a (a+k))) _ _ ⟨by simp only;omega,R,q3,U,V,rfl,by simp [swp],by simp only;rw [VY _ _ _ (Ng _),Nj7,q],w⟩ (by simp only;omega)
   | zero=>
     rw [heapPop] at w
     simp only [Nir,N27,m,w,Int.zero_sub,Int.reduceNeg,SB,seval,NJ,NF]
variable {E:Env} {iz:Ids} [DT E E] [SortAt E iz] {α:Type} [Inhabited α] {enc:α->List Value} [EncOk enc iz]
theorem XP {α:Type} [Inhabited α] {p:α->Bool} {d:Array α} {j i:Nat} (h:i<=j) (hp:p d[i]! = true):scanUp p d j i=scanUp p d j (i+1):=by
 rw [scanUp];simp [h,hp]
theorem XO {α:Type} [Inhabited α] {p:α->Bool} {d:Array α} {j i:Nat} (h:i<=j->p d[i]! = false):scanUp p d j i=i:=by
 rw [scanUp]
 by_cases q:i<=j
 ·simp [h q]
 ·simp [q]
theorem Ws {α:Type} [Inhabited α] {p:α->Bool} {d:Array α} {j i:Nat} (h:i<=j) (a:0<j) (hp:p d[j]! = true):scanDown p d i j=scanDown p d i (j-1):=by
 obtain ⟨j,rfl⟩:∃j',j=j'+1:=⟨j-1,by omega⟩
 rw [scanDown];simp [h,hp]
theorem Wq {α:Type} [Inhabited α] {p:α->Bool} {d:Array α} {j i:Nat} (h:i<=j->p d[j]! = false):scanDown p d i j=j:=by
 cases j with
 | zero=>rfl
 | succ j=>
   rw [scanDown]
   by_cases q:i<=j+1
   ·simp [h q]
   ·simp [q]
theorem Nh5 {α:Type} [Inhabited α] {lt:α->α->Bool} {a i j b c:Nat} {d:Array α} (h1:scanUp (fun x=>!lt d[a]! x) d j i=b) (h2:scanDown (fun x=>lt d[a]! x) d b j=c) (h:b > c):partEqLoop lt a i j d=(b,d):=by
 rw [partEqLoop];simp only [h1,h2];rw [Nk h]
theorem Nh6 {α:Type} [Inhabited α] {lt:α->α->Bool} {a i j b c:Nat} {d:Array α} (h1:scanUp (fun x=>!lt d[a]! x) d j i=b) (h2:scanDown (fun x=>lt d[a]! x) d b j=c) (h:¬b > c) (g1:i<=b) (e:c<=j) (f:0<b):partEqLoop lt a i j d=partEqLoop lt a (b+1) (c-1) (swp d b c):=by
 rw [partEqLoop];simp only [h1,h2];rw [Nf h,Rz (by omega)]
theorem N08 {G X:NB} {B lim cap n:Nat} {p:Option Addr} {c:α->α->Int} {cl:FuncId} {cs:List Value} {Q:Value->NB->Prop} (hp:p=Sa B) (hB:B<G.length) (hl:lim<=B) (ad:n<2 ^ 61) (hc:∀(mp:Bool) (lim:Nat) (x y:α) (H:NB) (Q:Value->NB->Prop),NR E mp lim cl (.agg (enc x).toArray::.agg (enc y).toArray::cs) H Q=Q (Vi (c x y)) H) {d:Array α} {a b v:Nat} (hd:d.size=n) (hb:b<=n) (ac:a<=v) (ae:v<b) :
  NR E false lim iz.PEQ [.slice p n cap,Vi a,Vi b,Vi v,.func (.func cl) #[] cs.toArray] (DH enc G B d++X) Q=Q (Vi ((partitionEqual (ltC c) d a b v).1:Nat)) (DH enc G B (partitionEqual (ltC c) d a b v).2++X):=by
 refine runs (SortAt.PEQ (E:=E) (z:=iz)) ?_
 rw [N5v,N2f]
 have O:IntKind.i64.wrap ((b:Int)-1)=((b-1:Nat):Int):=QY (by omega) (by omega)
 have P:IntKind.i64.wrap ((a:Int)+1)=((a+1:Nat):Int):=NS (by omega)
 generalize W:partitionEqual (ltC c) d a b v=T
 rw [partitionEqual] at W
 have ld:=fun (i:Nat) (X:NB) (d:Array α) (hd:d.size=n) (hi:i<n)=>Yt (X:=X) (d:=d) (i:=i) hp hB (EncOk.len (enc:=enc) (z:=iz)) (by omega);have st:=fun (i:Nat) (X:NB) (d:Array α) (hd:d.size=n) (hi:i<n) (y:α)=>Yr (X:=X) (d:=d) (i:=i) (y:=y) hp hB hl (EncOk.len (enc:=enc) (z:=iz)) (by omega);have J:=fun (i:Nat) (hi:i<n) c (k:IntKind) (H:NB)=>VT (e:=iz.e) (i:=i) (n:=n) (c:=c) (k:=k) (H:=H) hp hi
 have I:a<n:=by omega
 have i2:v<n:=by omega
 simp only [Nla,O,P,ld,st,J,Na,N4,(EncOk.len (enc:=enc) (z:=iz)),hd,I,i2,SB,seval,NJ,NF,reduceCtorEq,NH,NA]
 refine NM (S:=(Nat×Nat)×Array α) (fun s=>s.1.2+1-s.1.1) (fun s fr H=>a<s.1.1/\s.1.1<=b/\s.1.2<b/\fr 0=.slice p n cap/\fr 1=Vi a/\fr 4=.func (.func cl) #[] cs.toArray/\fr 11=Vi s.1.1/\fr 12=Vi s.1.2/\
  H=DH enc G B s.2++X/\s.2.size=n/\T=partEqLoop (ltC c) a s.1.1 s.1.2 s.2) ((a+1,b-1),swp d a v) ⟨by simp only;omega,by simp only;omega,by simp only;omega,rfl,rfl,rfl,rfl,rfl,by simp [swp],by simp [swp,hd],W.symm⟩ ?_
 rintro ⟨⟨i,j⟩,d1⟩ fr H ⟨h1,h2,h3,g0,g1,g4,u,w,rfl,g,he⟩ hN
 simp only at h1 h2 h3 u w g he
 rw [NQ (Nue.eq_1 iz)]
 simp only [SB,seval]
 refine NM (S:=Nat) (fun s=>b+1-s) (fun s fr H=>i<=s/\s<=b/\fr 0=.slice p n cap/\fr 1=Vi a/\fr 4=.func (.func cl) #[] cs.toArray/\fr 11=Vi s/\fr 12=Vi j/\
  H=DH enc G B d1++X/\scanUp (fun x=>!ltC c d1[a]! x) d1 j i=scanUp (fun x=>!ltC c d1[a]! x) d1 j s) i ⟨Ng _,h2,g0,g1,g4,u,w,rfl,rfl⟩ ?_
 rintro f fr1 H1 ⟨k1,k2,M,q1,N,m,h,rfl,Y⟩ A
 rw [NQ (Nuf.eq_1 iz)]
 by_cases t:f<=j/\¬c d1[a]! d1[f]!<0
 ·obtain ⟨t,c2⟩:=t
  have R:IntKind.i64.wrap ((f:Int)+1)=((f+1:Nat):Int):=NS (by omega)
  have i3:f<n:=by omega
  simp only [Nla,M,q1,N,m,h,t,c2,R,ld,J,Na,g,I,i3,hc,SB,seval,NE,NJ,NF,PW,reduceCtorEq]
  exact A (f+1) _ _ ⟨by omega,by omega,M,q1,N,rfl,h,rfl,by rw [Y,XP t (by simp [ltC,c2])]⟩ (by omega)
 have D:scanUp (fun x=>!ltC c d1[a]! x) d1 j i=f:=by
  rw [Y,XO]
  intro q
  by_cases q2:c d1[a]! d1[f]!<0
  ·simp [ltC,q2]
  ·exact absurd ⟨q,q2⟩ t
 clear A
 have hx:(f<=j/\c d1[a]! d1[f]!<0)\/¬f<=j:=by
  by_cases q:f<=j
  ·exact .inl ⟨q,Ns fun q2=>t ⟨q,q2⟩⟩
  ·exact .inr q
 have i0:f<=j->f<n:=fun q=>by omega
 rcases hx with ⟨c2,c3⟩ | c2
 case' inl=>simp only [Nla,M,q1,N,m,h,c2,c3,ld,J,Na,g,I,i0 c2,hc,SB,seval,NE,NJ,NF,PW,reduceCtorEq]
 case' inr=>simp only [Nla,m,h,c2,Na,SB,seval,NJ,NF]
 all_goals
  refine NM (S:=Nat) (fun s=>s) (fun s fr H=>s<=j/\fr 0=.slice p n cap/\fr 1=Vi a/\fr 4=.func (.func cl) #[] cs.toArray/\fr 11=Vi f/\fr 12=Vi s/\
   H=DH enc G B d1++X/\scanDown (fun x=>ltC c d1[a]! x) d1 f j=scanDown (fun x=>ltC c d1[a]! x) d1 f s) j ⟨Ng _,M,q1,N,m,h,rfl,rfl⟩ ?_
  rintro j' aa H2 ⟨m1,L,p1,p4,l,r,rfl,C⟩ A
  rw [NQ (Nug.eq_1 iz)]
  have Z:j'<n:=by omega
  by_cases c4:f<=j'/\c d1[a]! d1[j']!<0
  ·obtain ⟨c4,V⟩:=c4
   have o:IntKind.i64.wrap ((j':Int)-1)=((j'-1:Nat):Int):=QY (by omega) (by omega)
   simp only [Nla,L,p1,p4,l,r,c4,V,o,ld,J,Na,g,I,Z,hc,SB,seval,NE,NJ,NF,reduceCtorEq]
   exact A (j'-1) _ _ ⟨by omega,L,p1,p4,l,rfl,rfl,by rw [C,Ws c4 (by omega) (by simp [ltC,V])]⟩ (by omega)
  have F:scanDown (fun x=>ltC c d1[a]! x) d1 f j=j':=by
   rw [C,Wq]
   intro q
   have q2:¬c d1[a]! d1[j']!<0:=fun q2=>c4 ⟨q,q2⟩
   simp [ltC,q2]
  clear A
  by_cases K:j'<f
  ·have c7:¬f<=j':=by omega
   rw [Nh5 D F K] at he
   simp only [Nla,N46,l,r,c7,K,Na,he,SB,seval,NJ,NF,reduceCtorEq,NG]
  ·have c7:f<=j':=by omega
   have c8:¬c d1[a]! d1[j']!<0:=fun q=>c4 ⟨c7,q⟩
   rw [Nh6 D F K k1 m1 (by omega)] at he
   have i5:f<n:=by omega
   have o:IntKind.i64.wrap ((j':Int)-1)=((j'-1:Nat):Int):=QY (by omega) (by omega)
   have U:IntKind.i64.wrap ((f:Int)+1)=((f+1:Nat):Int):=NS (by omega)
   simp only [Nla,L,p1,p4,l,r,c7,K,c8,o,U,ld,st,J,Na,N4,(EncOk.len (enc:=enc) (z:=iz)),g,I,Z,i5,hc,SB,seval,NE,NJ,NF,reduceCtorEq,NA]
   exact hN ((f+1,j'-1),swp d1 f j') _ _ ⟨by simp only;omega,by simp only;omega,by simp only;omega,L,p1,p4,rfl,rfl,by simp [swp],by simp [swp,g],he⟩ (by simp only;omega)
variable {E:Env} {iz:Ids} [DT E E] [SortAt E iz] {α:Type} [Inhabited α] {enc:α->List Value} [EncOk enc iz]
theorem Npk {α:Type} [Inhabited α] {lt:α->α->Bool} {a i j b c:Nat} {d:Array α} (h1:scanUp (fun x=>lt x d[a]!) d j i=b) (h2:scanDown (fun x=>!lt x d[a]!) d b j=c) (h:b > c):partLoop lt a i j d=(c,d):=by
 rw [partLoop];simp only [h1,h2];rw [Nk h]
theorem Npm {α:Type} [Inhabited α] {lt:α->α->Bool} {a i j b c:Nat} {d:Array α} (h1:scanUp (fun x=>lt x d[a]!) d j i=b) (h2:scanDown (fun x=>!lt x d[a]!) d b j=c) (h:¬b > c) (g1:i<=b) (e:c<=j) (f:0<b):partLoop lt a i j d=partLoop lt a (b+1) (c-1) (swp d b c):=by
 rw [partLoop];simp only [h1,h2];rw [Nf h,Rz (by omega)]
theorem Npl {G X:NB} {B lim cap n:Nat} {p:Option Addr} {c:α->α->Int} {cl:FuncId} {cs:List Value} {Q:Value->NB->Prop} (hp:p=Sa B) (hB:B<G.length) (hl:lim<=B) (aq:n<2 ^ 61) (hc:∀(mp:Bool) (lim:Nat) (x y:α) (H:NB) (Q:Value->NB->Prop),NR E mp lim cl (.agg (enc x).toArray::.agg (enc y).toArray::cs) H Q=Q (Vi (c x y)) H) {d:Array α} {a b v:Nat} (hd:d.size=n) (hb:b<=n) (ap:a<=v) (au:v<b) :
  NR E false lim iz.PART [.slice p n cap,Vi a,Vi b,Vi v,.func (.func cl) #[] cs.toArray] (DH enc G B d++X) Q=Q (.tuple #[Vi ((Sort.partition (ltC c) d a b v).1:Nat),.bool (Sort.partition (ltC c) d a b v).2.1]) (DH enc G B (Sort.partition (ltC c) d a b v).2.2++X):=by
 refine runs (SortAt.PART (E:=E) (z:=iz)) ?_
 rw [N3z,Nwt]
 have ai:IntKind.i64.wrap ((b:Int)-1)=((b-1:Nat):Int):=QY (by omega) (by omega)
 have aj:IntKind.i64.wrap ((a:Int)+1)=((a+1:Nat):Int):=NS (by omega)
 generalize I:Sort.partition (ltC c) d a b v=T
 rw [Sort.partition] at I
 have ld:=fun (i:Nat) (X:NB) (d:Array α) (hd:d.size=n) (hi:i<n)=>Yt (X:=X) (d:=d) (i:=i) hp hB (EncOk.len (enc:=enc) (z:=iz)) (by omega);have st:=fun (i:Nat) (X:NB) (d:Array α) (hd:d.size=n) (hi:i<n) (y:α)=>Yr (X:=X) (d:=d) (i:=i) (y:=y) hp hB hl (EncOk.len (enc:=enc) (z:=iz)) (by omega);have F:=fun (i:Nat) (hi:i<n) c (k:IntKind) (H:NB)=>VT (e:=iz.e) (i:=i) (n:=n) (c:=c) (k:=k) (H:=H) hp hi
 have D:a<n:=by omega
 have i2:v<n:=by omega
 simp only [WP,ai,aj,ld,st,F,Na,N4,(EncOk.len (enc:=enc) (z:=iz)),hd,D,i2,SB,seval,NJ,NF,reduceCtorEq,NH,NA]
 have m:(swp d a v).size=n:=by simp [swp,hd]
 have aa:(d.setIfInBounds a d[v]!).setIfInBounds v d[a]! = swp d a v:=rfl
 rw [aa]
 generalize swp d a v=d1 at I m
 have k0:a+1<=b:=by omega
 refine NM (S:=Nat) (fun s=>b+1-s) (fun s fr H=>(a+1)<=s/\s<=(b-1)+1/\fr 0=.slice p n cap/\fr 1=Vi a/\fr 4=.func (.func cl) #[] cs.toArray/\fr 12=Vi s/\fr 13=Vi ((b-1:Nat):Int)/\
  H=DH enc G B d1++X/\scanUp (fun x=>ltC c x d1[a]!) d1 (b-1) (a+1)=scanUp (fun x=>ltC c x d1[a]!) d1 (b-1) s) (a+1) ⟨Ng _,by omega,rfl,rfl,rfl,rfl,rfl,rfl,rfl⟩ ?_
 rintro f fr1 H1 ⟨x1,k2,K,q1,M,l,h,rfl,hs⟩ A
 rw [NQ (Nnn.eq_1 iz)]
 by_cases c1:f<=(b-1)/\c d1[f]! d1[a]!<0
 ·obtain ⟨r,cc2⟩:=c1
  have U:IntKind.i64.wrap ((f:Int)+1)=((f+1:Nat):Int):=NS (by omega)
  have i3:f<n:=by omega
  simp only [WP,K,q1,M,l,h,r,cc2,U,ld,F,Na,m,D,i3,hc,SB,seval,NE,NJ,NF,reduceCtorEq]
  exact A (f+1) _ _ ⟨by omega,by omega,K,q1,M,rfl,h,rfl,by rw [hs,XP r (by simp [ltC,cc2])]⟩ (by omega)
 have P:scanUp (fun x=>ltC c x d1[a]!) d1 (b-1) (a+1)=f:=by
  rw [hs,XO]
  intro q
  have q2:¬c d1[f]! d1[a]!<0:=fun q2=>c1 ⟨q,q2⟩
  simp [ltC,q2]
 clear A
 have hx:(f<=(b-1)/\¬c d1[f]! d1[a]!<0)\/¬f<=(b-1):=by
  by_cases q:f<=(b-1)
  ·exact .inl ⟨q,fun q2=>c1 ⟨q,q2⟩⟩
  ·exact .inr q
 have i0:f<=(b-1)->f<n:=fun q=>by omega
 have ac:=hx
 rcases hx with ⟨cc2,N⟩ | cc2
 case' inl=>simp only [WP,K,q1,M,l,h,cc2,N,ld,F,Na,m,D,i0 cc2,hc,SB,seval,NE,NJ,NF,reduceCtorEq]
 case' inr=>simp only [WP,l,h,cc2,Na,SB,seval,NJ,NF]
 all_goals
  clear cc2
  refine NM (S:=Nat) (fun s=>s) (fun s fr H=>s<=(b-1)/\f<=s+1/\fr 0=.slice p n cap/\fr 1=Vi a/\fr 4=.func (.func cl) #[] cs.toArray/\fr 12=Vi f/\fr 13=Vi s/\
   H=DH enc G B d1++X/\scanDown (fun x=>!ltC c x d1[a]!) d1 f (b-1)=scanDown (fun x=>!ltC c x d1[a]!) d1 f s) (b-1) ⟨Ng _,by omega,K,q1,M,l,h,rfl,rfl⟩ ?_
  rintro j' ah H2 ⟨y1,y2,p0,p1,p4,J,W,rfl,O⟩ A
  rw [NQ (Nno.eq_1 iz)]
  have i4:j'<n:=by omega
  by_cases c4:f<=j'/\¬c d1[j']! d1[a]!<0
  ·obtain ⟨t,w⟩:=c4
   have C:IntKind.i64.wrap ((j':Int)-1)=((j'-1:Nat):Int):=QY (by omega) (by omega)
   simp only [WP,p0,p1,p4,J,W,t,w,C,ld,F,Na,m,D,i4,hc,SB,seval,NE,NJ,NF,PW,reduceCtorEq]
   exact A (j'-1) _ _ ⟨by omega,by omega,p0,p1,p4,J,rfl,rfl,by rw [O,Ws t (by omega) (by simp [ltC,w])]⟩ (by omega)
  have R:scanDown (fun x=>!ltC c x d1[a]!) d1 f (b-1)=j':=by
   rw [O,Wq]
   intro q
   have q2:c d1[j']! d1[a]!<0:=Ns fun q2=>c4 ⟨q,q2⟩
   simp [ltC,q2]
  clear A
  by_cases c6:j'<f
  ·have c7:¬f<=j':=by omega
   have V:j'<n:=by omega
   simp only [P,R] at I
   rw [Nk (show f > j' from c6)] at I
   simp only [WP,Nzv,p0,p1,J,W,c7,c6,ld,st,F,Na,N4,(EncOk.len (enc:=enc) (z:=iz)),m,D,V,SB,seval,NJ,NF,reduceCtorEq,NA,NG]
   rw [<-I]
   exact ⟨rfl,rfl⟩
  ·have c7:f<=j':=by omega
   have c8:c d1[j']! d1[a]!<0:=Ns fun q=>c4 ⟨c7,q⟩
   have c9:f≠j':=by
    rintro rfl
    rcases ac with q | q
    ·exact q.2 c8
    ·exact q (by omega)
   simp only [P,R] at I
   rw [Nf (show ¬f > j' from c6)] at I
   have i5:f<n:=by omega
   have V:j'<n:=by omega
   have C:IntKind.i64.wrap ((j':Int)-1)=((j'-1:Nat):Int):=QY (by omega) (by omega)
   have ak:IntKind.i64.wrap ((f:Int)+1)=((f+1:Nat):Int):=NS (by omega)
   simp only [WP,p0,p1,p4,J,W,c7,c6,c8,C,ak,ld,st,F,Na,N4,(EncOk.len (enc:=enc) (z:=iz)),m,D,V,i5,hc,SB,seval,NE,NJ,NF,PW,reduceCtorEq,NA]
   generalize hL:partLoop (ltC c) a (f+1) (j'-1) (swp d1 f j')=L at I
   refine NM (S:=(Nat×Nat)×Array α) (fun s=>s.1.2+1-s.1.1) (fun s fr H=>a<s.1.1/\s.1.1<=s.1.2+1/\s.1.2<b/\fr 0=.slice p n cap/\fr 1=Vi a/\fr 4=.func (.func cl) #[] cs.toArray/\fr 12=Vi s.1.1/\fr 13=Vi s.1.2/\
    H=DH enc G B s.2++X/\s.2.size=n/\L=partLoop (ltC c) a s.1.1 s.1.2 s.2) ((f+1,j'-1),swp d1 f j') ⟨by simp only;omega,by simp only;omega,by simp only;omega,p0,p1,p4,rfl,rfl,by simp [swp],by simp [swp,m],hL.symm⟩ ?_
   clear P R hs O c1 c4 ac i0 hL
   rintro ⟨⟨i,j⟩,g⟩ fr H ⟨h1,h2,h3,g0,g1,g4,Y,Z,rfl,o,he⟩ hN
   simp only at h1 h2 h3 Y Z o he
   rw [NQ (Nnp.eq_1 iz)]
   simp only [SB,seval]
   refine NM (S:=Nat) (fun s=>b+1-s) (fun s fr H=>i<=s/\s<=j+1/\fr 0=.slice p n cap/\fr 1=Vi a/\fr 4=.func (.func cl) #[] cs.toArray/\fr 12=Vi s/\fr 13=Vi j/\
    H=DH enc G B g++X/\scanUp (fun u=>ltC c u g[a]!) g j i=scanUp (fun u=>ltC c u g[a]!) g j s) i ⟨Ng _,by omega,g0,g1,g4,Y,Z,rfl,rfl⟩ ?_
   rintro x fr1 H1 ⟨x1,k2,K,q1,M,l,h,rfl,us⟩ A
   rw [NQ (Nnq.eq_1 iz)]
   by_cases z1:x<=j/\c g[x]! g[a]!<0
   ·obtain ⟨r,cc2⟩:=z1
    have U:IntKind.i64.wrap ((x:Int)+1)=((x+1:Nat):Int):=NS (by omega)
    have i3:x<n:=by omega
    simp only [WP,K,q1,M,l,h,r,cc2,U,ld,F,Na,o,D,i3,hc,SB,seval,NE,NJ,NF,reduceCtorEq]
    exact A (x+1) _ _ ⟨by omega,by omega,K,q1,M,rfl,h,rfl,by rw [us,XP r (by simp [ltC,cc2])]⟩ (by omega)
   have ae:scanUp (fun u=>ltC c u g[a]!) g j i=x:=by
    rw [us,XO]
    intro q
    have q2:¬c g[x]! g[a]!<0:=fun q2=>z1 ⟨q,q2⟩
    simp [ltC,q2]
   clear A
   have hz:(x<=j/\¬c g[x]! g[a]!<0)\/¬x<=j:=by
    by_cases q:x<=j
    ·exact .inl ⟨q,fun q2=>z1 ⟨q,q2⟩⟩
    ·exact .inr q
   have i0:x<=j->x<n:=fun q=>by omega
   have ao:=hz
   rcases hz with ⟨cc2,N⟩ | cc2
   case' inl=>simp only [WP,K,q1,M,l,h,cc2,N,ld,F,Na,o,D,i0 cc2,hc,SB,seval,NE,NJ,NF,reduceCtorEq]
   case' inr=>simp only [WP,l,h,cc2,Na,SB,seval,NJ,NF]
   all_goals
    clear cc2
    refine NM (S:=Nat) (fun s=>s) (fun s fr H=>s<=j/\x<=s+1/\fr 0=.slice p n cap/\fr 1=Vi a/\fr 4=.func (.func cl) #[] cs.toArray/\fr 12=Vi x/\fr 13=Vi s/\
     H=DH enc G B g++X/\scanDown (fun u=>!ltC c u g[a]!) g x j=scanDown (fun u=>!ltC c u g[a]!) g x s) j ⟨Ng _,by omega,K,q1,M,l,h,rfl,rfl⟩ ?_
    rintro y ah H2 ⟨y1,y2,t0,t1,t4,t12,t13,rfl,ad⟩ A
    rw [NQ (Nnr.eq_1 iz)]
    have i4:y<n:=by omega
    by_cases z4:x<=y/\¬c g[y]! g[a]!<0
    ·obtain ⟨t,w⟩:=z4
     have C:IntKind.i64.wrap ((y:Int)-1)=((y-1:Nat):Int):=QY (by omega) (by omega)
     simp only [WP,t0,t1,t4,t12,t13,t,w,C,ld,F,Na,o,D,i4,hc,SB,seval,NE,NJ,NF,PW,reduceCtorEq]
     exact A (y-1) _ _ ⟨by omega,by omega,t0,t1,t4,t12,rfl,rfl,by rw [ad,Ws t (by omega) (by simp [ltC,w])]⟩ (by omega)
    have ag:scanDown (fun u=>!ltC c u g[a]!) g x j=y:=by
     rw [ad,Wq]
     intro q
     have q2:c g[y]! g[a]!<0:=Ns fun q2=>z4 ⟨q,q2⟩
     simp [ltC,q2]
    clear A
    by_cases z6:y<x
    ·have z7:¬x<=y:=by omega
     have V:y<n:=by omega
     rw [Npk ae ag z6] at he
     simp only [WP,Nzv,t0,t1,t12,t13,z7,z6,ld,st,F,Na,N4,(EncOk.len (enc:=enc) (z:=iz)),o,D,V,SB,seval,NJ,NF,reduceCtorEq,NA,NG]
     rw [<-I,he]
     exact ⟨rfl,rfl⟩
    ·have z7:x<=y:=by omega
     have z8:c g[y]! g[a]!<0:=Ns fun q=>z4 ⟨z7,q⟩
     have z9:x≠y:=by
      rintro rfl
      rcases ao with q | q
      ·exact q.2 z8
      ·exact q (by omega)
     rw [Npm ae ag z6 x1 y1 (by omega)] at he
     have i5:x<n:=by omega
     have V:y<n:=by omega
     have am:IntKind.i64.wrap ((y:Int)-1)=((y-1:Nat):Int):=QY (by omega) (by omega)
     have an:IntKind.i64.wrap ((x:Int)+1)=((x+1:Nat):Int):=NS (by omega)
     simp only [WP,t0,t1,t4,t12,t13,z7,z6,z8,am,an,ld,st,F,Na,N4,(EncOk.len (enc:=enc) (z:=iz)),o,D,V,i5,hc,SB,seval,NE,NJ,NF,PW,reduceCtorEq,NA]
     exact hN ((x+1,y-1),swp g x y) _ _ ⟨by simp only;omega,by simp only;omega,by simp only;omega,t0,t1,t4,rfl,rfl,by simp [swp],by simp [swp,o],he⟩ (by simp only;omega)
variable {E:Env} {iz:Ids} [DT E E] [SortAt E iz] {α:Type} [Inhabited α] {enc:α->List Value} [EncOk enc iz]
theorem Nkg {α:Type} [Inhabited α] {lt:α->α->Bool} {d:Array α} {b i:Nat} (h:i<b) (hp:lt d[i]! d[i-1]! = false):scanSorted lt d b i=scanSorted lt d b (i+1):=by
 rw [scanSorted];simp [h,hp]
theorem Nb5 {α:Type} [Inhabited α] {lt:α->α->Bool} {d:Array α} {b i:Nat} (h:i<b->lt d[i]! d[i-1]! = true):scanSorted lt d b i=i:=by
 rw [scanSorted]
 by_cases q:i<b
 ·simp [h q]
 ·simp [q]
def VJ {α:Type} [Inhabited α] (lt:α->α->Bool) (a i:Nat) (d:Array α):Array α:=if 2<=i-a then shiftDown lt (i-1) d else d
def W9 {α:Type} [Inhabited α] (lt:α->α->Bool) (b i:Nat) (d:Array α):Array α:=if 2<=b-i then shiftUp lt b (i+1) d else d
theorem Naw {α:Type} [Inhabited α] {lt:α->α->Bool} {a b k i c:Nat} {d:Array α} (e:scanSorted lt d b i=c) (h1:¬c=b) (h2:¬b-a<50):partialIns lt a b (k+1) i d=partialIns lt a b k c (W9 lt b c (VJ lt a c (swp d c (c-1)))):=by
 rw [partialIns]
 simp only [e]
 rw [Nf h1,Nf h2]
 rfl
theorem N07 {G X:NB} {B lim cap n:Nat} {p:Option Addr} {c:α->α->Int} {cl:FuncId} {cs:List Value} {Q:Value->NB->Prop} (hp:p=Sa B) (hB:B<G.length) (hl:lim<=B) (az:n<2 ^ 61) (hc:∀(mp:Bool) (lim:Nat) (x y:α) (H:NB) (Q:Value->NB->Prop),NR E mp lim cl (.agg (enc x).toArray::.agg (enc y).toArray::cs) H Q=Q (Vi (c x y)) H) {d:Array α} {a b:Nat} (hd:d.size=n) (hb:b<=n) (ay:a<b) :
  NR E false lim iz.PIS [.slice p n cap,Vi a,Vi b,.func (.func cl) #[] cs.toArray] (DH enc G B d++X) Q=Q (.bool (partialInsertionSort (ltC c) d a b).2) (DH enc G B (partialInsertionSort (ltC c) d a b).1++X):=by
 refine runs (SortAt.PIS (E:=E) (z:=iz)) ?_
 rw [N5u,N2e]
 have av:IntKind.i64.wrap ((a:Int)+1)=((a+1:Nat):Int):=NS (by omega)
 generalize hT:partialInsertionSort (ltC c) d a b=T
 rw [partialInsertionSort] at hT
 have ld:=fun (i:Nat) (X:NB) (d:Array α) (hd:d.size=n) (hi:i<n)=>Yt (X:=X) (d:=d) (i:=i) hp hB (EncOk.len (enc:=enc) (z:=iz)) (by omega);have st:=fun (i:Nat) (X:NB) (d:Array α) (hd:d.size=n) (hi:i<n) (y:α)=>Yr (X:=X) (d:=d) (i:=i) (y:=y) hp hB hl (EncOk.len (enc:=enc) (z:=iz)) (by omega);have Y:=fun (i:Nat) (hi:i<n) c (k:IntKind) (H:NB)=>VT (e:=iz.e) (i:=i) (n:=n) (c:=c) (k:=k) (H:=H) hp hi
 simp only [VH,av,SB,seval,NJ,NF,NH]
 refine NM (S:=Nat×Nat×Array α) (fun s=>s.1) (fun s fr H=>s.1<=5/\a<s.2.1/\s.2.1<=b/\fr 0=.slice p n cap/\fr 1=Vi a/\fr 2=Vi b/\fr 3=.func (.func cl) #[] cs.toArray/\fr 9=Vi s.2.1/\fr 10=Vi (5-(s.1:Int))/\
  H=DH enc G B s.2.2++X/\s.2.2.size=n/\T=partialIns (ltC c) a b s.1 s.2.1 s.2.2) (5,a+1,d) ⟨by simp only;omega,by simp only;omega,by simp only;omega,rfl,rfl,rfl,rfl,rfl,by rfl,rfl,hd,hT.symm⟩ ?_
 rintro ⟨k,i,d1⟩ fr H ⟨h1,h2,h3,g0,g1,g2,g3,g9,ad,rfl,t,he⟩ hN
 simp only at h1 h2 h3 g9 ad t he
 rw [NQ (Nub.eq_1 iz)]
 cases k with
 | zero=>
   have au:fr 10=Vi 5:=by simpa using ad
   clear hN ad
   simp only [VH,N05,au,SB,seval,NJ,NF,NG]
   rw [he,partialIns]
   exact ⟨rfl,rfl⟩
 | succ k=>
   have hk:(5:Int)-((k+1:Nat):Int)<5:=by omega
   have C:IntKind.i64.wrap ((5:Int)-((k+1:Nat):Int)+1)=5-(k:Int):=by rw [NY (by omega) (by omega)];omega
   simp only [VH,ad,hk,SB,seval,NJ,NF]
   refine NM (S:=Nat) (fun s=>b+1-s) (fun s fr H=>i<=s/\s<=b/\fr 0=.slice p n cap/\fr 1=Vi a/\fr 2=Vi b/\fr 3=.func (.func cl) #[] cs.toArray/\fr 9=Vi s/\fr 10=Vi (5-((k+1:Nat):Int))/\
    H=DH enc G B d1++X/\scanSorted (ltC c) d1 b i=scanSorted (ltC c) d1 b s) i ⟨Ng _,h3,g0,g1,g2,g3,g9,ad,rfl,rfl⟩ ?_
   rintro f fr1 H1 ⟨x1,x2,q0,q1,q2,q3,q9,am,rfl,hs⟩ hM
   rw [NQ (Nuc.eq_1 iz)]
   have ae:IntKind.i64.wrap ((f:Int)-1)=((f-1:Nat):Int):=QY (by omega) (by omega)
   have W:IntKind.i64.wrap ((f:Int)+1)=((f+1:Nat):Int):=NS (by omega)
   have an:IntKind.i64.wrap ((f:Int)-(a:Int))=((f-a:Nat):Int):=by rw [NY (by omega) (by omega)];omega
   have Z:IntKind.i64.wrap ((b:Int)-(f:Int))=((b-f:Nat):Int):=by rw [NY (by omega) (by omega)];omega
   have ak:IntKind.i64.wrap ((b:Int)-(a:Int))=((b-a:Nat):Int):=by rw [NY (by omega) (by omega)];omega
   have i6:f-1<n:=by omega
   by_cases c1:f=b
   ·subst c1
    have aj:scanSorted (ltC c) d1 f i=f:=by rw [hs,Nb5 (fun q=>absurd q (R6 _))]
    have c2:¬f<f:=R6 _
    have e:partialIns (ltC c) a f (k+1) i d1=(d1,true):=by
     rw [partialIns];simp only [aj];simp
    simp only [VH,N05,q2,q9,c2,Na,SB,seval,NJ,NF,NG]
    rw [he,e]
    exact ⟨rfl,rfl⟩
   have c2:f<b:=by omega
   have i5:f<n:=by omega
   have ah:¬((f:Int)=(b:Int)):=by omega
   by_cases c3:c d1[f]! d1[f-1]!<0
   case neg=>
    simp only [VH,q0,q2,q3,q9,c2,c3,ae,W,ld,Y,Na,t,i5,i6,hc,SB,seval,NE,NJ,NF,PW,reduceCtorEq]
    exact hM (f+1) _ _ ⟨by omega,by omega,q0,q1,q2,q3,rfl,am,rfl,by rw [hs,Nkg c2 (by simp [ltC,c3])]⟩ (by omega)
   clear hM
   have aj:scanSorted (ltC c) d1 b i=f:=by rw [hs,Nb5 (fun _=>by simp [ltC,c3])]
   by_cases c4:b-a<50
   ·have aa:((b-a:Nat):Int)<50:=by omega
    simp only [VH,N05,q0,q1,q2,q3,q9,c2,c3,ah,aa,ae,ak,ld,Y,Na,t,i5,i6,hc,SB,seval,NE,NJ,NF,PW,reduceCtorEq,NG]
    have e:partialIns (ltC c) a b (k+1) i d1=(d1,false):=by
     rw [partialIns];simp only [aj];rw [Nf c1,Nk c4]
    rw [he,e]
    exact ⟨rfl,rfl⟩
   have aa:¬((b-a:Nat):Int)<50:=by omega
   rw [Naw aj c1 c4] at he
   by_cases hA:2<=f-a
   ·have ai:(2:Int)<=((f-a:Nat):Int):=by omega
    simp only [VH,q0,q1,q2,q3,q9,c2,c3,ah,aa,ae,ak,an,ai,ld,st,Y,Na,N4,(EncOk.len (enc:=enc) (z:=iz)),t,i5,i6,hc,SB,seval,NE,NJ,NF,PW,reduceCtorEq,NA]
    refine NM (S:=Nat×Array α) (fun s=>s.1) (fun s fr H=>s.1<f/\fr 0=.slice p n cap/\fr 1=Vi a/\fr 2=Vi b/\fr 3=.func (.func cl) #[] cs.toArray/\fr 9=Vi f/\fr 10=Vi (5-((k+1:Nat):Int))/\fr 11=Vi s.1/\
     H=DH enc G B s.2++X/\s.2.size=n/\shiftDown (ltC c) (f-1) (swp d1 f (f-1))=shiftDown (ltC c) s.1 s.2) (f-1,swp d1 f (f-1)) ⟨by simp only;omega,q0,q1,q2,q3,q9,am,rfl,by simp [swp],by simp [swp,t],rfl⟩ ?_
    rintro ⟨v,dv⟩ aw Hv ⟨v1,N,ag,D,P,F,O,v11,rfl,A,J⟩ hV
    simp only at v1 v11 A J
    rw [NQ (Nud.eq_1 iz)]
    cases v with
    | succ v=>
      have iv:v+1<n:=by omega
      have ap:v<n:=by omega
      have ao:IntKind.i64.wrap (((v+1:Nat):Int)-1)=(v:Int):=QY (n:=v+1) (by omega) (by omega)
      have cv:(1:Int)<=((v+1:Nat):Int):=by omega
      rw [shiftDown] at J
      by_cases ac:c dv[v+1]! dv[v]!<0
      ·rw [Nf (by simp [ltC,ac])] at J
       simp only [VH,N,P,v11,cv,ac,ao,ld,st,Y,Na,N4,(EncOk.len (enc:=enc) (z:=iz)),A,iv,ap,hc,SB,seval,NE,NJ,NF,PW,reduceCtorEq,NA]
       exact hV (v,swp dv (v+1) v) _ _ ⟨by simp only;omega,N,ag,D,P,F,O,rfl,by simp [swp],by simp [swp,A],J⟩ (by simp only;omega)
      ·rw [Nk (by simp [ltC,ac])] at J
       clear hV
       have o:VJ (ltC c) a f (swp d1 f (f-1))=dv:=by rw [VJ,Nk hA,J]
       by_cases hB:2<=b-f
       ·have m:(2:Int)<=((b-f:Nat):Int):=by omega
        simp only [VH,N,D,P,F,Z,m,W,v11,cv,ac,ao,A,iv,ap,hc,ld,Y,Na,SB,seval,NE,NJ,NF,PW,reduceCtorEq]
        generalize hU:shiftUp (ltC c) b (f+1) (dv)=U
        refine NM (S:=Nat×Array α) (fun s=>b+1-s.1) (fun s fr H=>f+1<=s.1/\s.1<=b/\fr 0=.slice p n cap/\fr 1=Vi a/\fr 2=Vi b/\fr 3=.func (.func cl) #[] cs.toArray/\fr 9=Vi f/\fr 10=Vi (5-((k+1:Nat):Int))/\fr 12=Vi s.1/\
         H=DH enc G B s.2++X/\s.2.size=n/\U=shiftUp (ltC c) b s.1 s.2) (f+1,dv) ⟨by simp only;omega,by simp only;omega,N,ag,D,P,F,O,rfl,by simp [],by simp [A],hU.symm⟩ ?_
        rintro ⟨w,I⟩ aq Hw ⟨w1,w2,R,w4,u,V,w9,r,l,rfl,h,g⟩ hW
        simp only at w1 w2 l h g
        rw [NQ (Ngq.eq_1 iz)]
        unfold shiftUp at g
        by_cases cw:w<b
        ·have iw:w<n:=by omega
         have M:w-1<n:=by omega
         have K:IntKind.i64.wrap ((w:Int)-1)=((w-1:Nat):Int):=QY (by omega) (by omega)
         have L:IntKind.i64.wrap ((w:Int)+1)=((w+1:Nat):Int):=NS (by omega)
         by_cases j:c I[w]! I[w-1]!<0
         ·rw [Nk cw,Nf (by simp [ltC,j])] at g
          simp only [VH,R,u,V,l,cw,j,K,L,ld,st,Y,Na,N4,(EncOk.len (enc:=enc) (z:=iz)),h,iw,M,hc,SB,seval,NE,NJ,NF,PW,reduceCtorEq,NA]
          exact hW (w+1,swp I w (w-1)) _ _ ⟨by simp only;omega,by simp only;omega,R,w4,u,V,w9,r,rfl,by simp [swp],by simp [swp,h],g⟩ (by simp only;omega)
         ·rw [Nk cw,Nk (by simp [ltC,j])] at g
          clear hW
          simp only [VH,R,u,V,r,l,cw,j,K,ld,Y,Na,h,iw,M,hc,C,SB,seval,NE,NJ,NF,PW,reduceCtorEq]
          exact hN (k,f,I) _ _ ⟨by simp only;omega,by simp only;omega,by simp only;omega,R,w4,u,V,w9,rfl,by simp,h,by rw [he,o,W9,Nk hB,hU,g]⟩ (by simp only;omega)
        ·rw [Nf cw] at g
         clear hW
         simp only [VH,u,r,l,cw,C,SB,seval,NJ,NF]
         exact hN (k,f,I) _ _ ⟨by simp only;omega,by simp only;omega,by simp only;omega,R,w4,u,V,w9,rfl,by simp,h,by rw [he,o,W9,Nk hB,hU,g]⟩ (by simp only;omega)
       ·have m:¬(2:Int)<=((b-f:Nat):Int):=by omega
        simp only [VH,N,D,P,F,O,Z,m,C,v11,cv,ac,ao,A,iv,ap,hc,ld,Y,Na,SB,seval,NE,NJ,NF,PW,reduceCtorEq]
        exact hN (k,f,dv) _ _ ⟨by simp only;omega,by simp only;omega,by simp only;omega,N,ag,D,P,F,rfl,by simp [],by simp [A],by rw [he,o,W9,Nf hB]⟩ (by simp only;omega)
    | zero=>
      have cv:¬(1:Int)<=((0:Nat):Int):=by omega
      rw [shiftDown] at J
      clear hV
      have o:VJ (ltC c) a f (swp d1 f (f-1))=dv:=by rw [VJ,Nk hA,J]
      by_cases hB:2<=b-f
      ·have m:(2:Int)<=((b-f:Nat):Int):=by omega
       simp only [VH,D,F,Z,m,W,v11,SB,seval,NJ,NF]
       generalize hU:shiftUp (ltC c) b (f+1) (dv)=U
       refine NM (S:=Nat×Array α) (fun s=>b+1-s.1) (fun s fr H=>f+1<=s.1/\s.1<=b/\fr 0=.slice p n cap/\fr 1=Vi a/\fr 2=Vi b/\fr 3=.func (.func cl) #[] cs.toArray/\fr 9=Vi f/\fr 10=Vi (5-((k+1:Nat):Int))/\fr 12=Vi s.1/\
        H=DH enc G B s.2++X/\s.2.size=n/\U=shiftUp (ltC c) b s.1 s.2) (f+1,dv) ⟨by simp only;omega,by simp only;omega,N,ag,D,P,F,O,rfl,by simp [],by simp [A],hU.symm⟩ ?_
       rintro ⟨w,I⟩ aq Hw ⟨w1,w2,R,w4,u,V,w9,r,l,rfl,h,g⟩ hW
       simp only at w1 w2 l h g
       rw [NQ (Ngq.eq_1 iz)]
       unfold shiftUp at g
       by_cases cw:w<b
       ·have iw:w<n:=by omega
        have M:w-1<n:=by omega
        have K:IntKind.i64.wrap ((w:Int)-1)=((w-1:Nat):Int):=QY (by omega) (by omega)
        have L:IntKind.i64.wrap ((w:Int)+1)=((w+1:Nat):Int):=NS (by omega)
        by_cases j:c I[w]! I[w-1]!<0
        ·rw [Nk cw,Nf (by simp [ltC,j])] at g
         simp only [VH,R,u,V,l,cw,j,K,L,ld,st,Y,Na,N4,(EncOk.len (enc:=enc) (z:=iz)),h,iw,M,hc,SB,seval,NE,NJ,NF,PW,reduceCtorEq,NA]
         exact hW (w+1,swp I w (w-1)) _ _ ⟨by simp only;omega,by simp only;omega,R,w4,u,V,w9,r,rfl,by simp [swp],by simp [swp,h],g⟩ (by simp only;omega)
        ·rw [Nk cw,Nk (by simp [ltC,j])] at g
         clear hW
         simp only [VH,R,u,V,r,l,cw,j,K,ld,Y,Na,h,iw,M,hc,C,SB,seval,NE,NJ,NF,PW,reduceCtorEq]
         exact hN (k,f,I) _ _ ⟨by simp only;omega,by simp only;omega,by simp only;omega,R,w4,u,V,w9,rfl,by simp,h,by rw [he,o,W9,Nk hB,hU,g]⟩ (by simp only;omega)
       ·rw [Nf cw] at g
        clear hW
        simp only [VH,u,r,l,cw,C,SB,seval,NJ,NF]
        exact hN (k,f,I) _ _ ⟨by simp only;omega,by simp only;omega,by simp only;omega,R,w4,u,V,w9,rfl,by simp,h,by rw [he,o,W9,Nk hB,hU,g]⟩ (by simp only;omega)
      ·have m:¬(2:Int)<=((b-f:Nat):Int):=by omega
       simp only [VH,D,F,O,Z,m,C,v11,SB,seval,NJ,NF]
       exact hN (k,f,dv) _ _ ⟨by simp only;omega,by simp only;omega,by simp only;omega,N,ag,D,P,F,rfl,by simp [],by simp [A],by rw [he,o,W9,Nf hB]⟩ (by simp only;omega)
   ·have ai:¬(2:Int)<=((f-a:Nat):Int):=by omega
    have o:VJ (ltC c) a f (swp d1 f (f-1))=swp d1 f (f-1):=by rw [VJ,Nf hA]
    have a0:(swp d1 f (f-1)).size=n:=by simp [swp,t]
    by_cases hB:2<=b-f
    ·have m:(2:Int)<=((b-f:Nat):Int):=by omega
     simp only [VH,q0,q1,q2,q3,q9,Z,m,W,c2,c3,ah,aa,ae,ak,an,ai,t,i5,i6,hc,ld,st,Y,Na,N4,(EncOk.len (enc:=enc) (z:=iz)),SB,seval,NE,NJ,NF,PW,reduceCtorEq,NA]
     generalize hU:shiftUp (ltC c) b (f+1) (swp d1 f (f-1))=U
     refine NM (S:=Nat×Array α) (fun s=>b+1-s.1) (fun s fr H=>f+1<=s.1/\s.1<=b/\fr 0=.slice p n cap/\fr 1=Vi a/\fr 2=Vi b/\fr 3=.func (.func cl) #[] cs.toArray/\fr 9=Vi f/\fr 10=Vi (5-((k+1:Nat):Int))/\fr 12=Vi s.1/\
      H=DH enc G B s.2++X/\s.2.size=n/\U=shiftUp (ltC c) b s.1 s.2) (f+1,swp d1 f (f-1)) ⟨by simp only;omega,by simp only;omega,q0,q1,q2,q3,q9,am,rfl,by simp [swp],by simp [swp,t],hU.symm⟩ ?_
     rintro ⟨w,I⟩ aq Hw ⟨w1,w2,R,w4,u,V,w9,r,l,rfl,h,g⟩ hW
     simp only at w1 w2 l h g
     rw [NQ (Ngq.eq_1 iz)]
     unfold shiftUp at g
     by_cases cw:w<b
     ·have iw:w<n:=by omega
      have M:w-1<n:=by omega
      have K:IntKind.i64.wrap ((w:Int)-1)=((w-1:Nat):Int):=QY (by omega) (by omega)
      have L:IntKind.i64.wrap ((w:Int)+1)=((w+1:Nat):Int):=NS (by omega)
      by_cases j:c I[w]! I[w-1]!<0
      ·rw [Nk cw,Nf (by simp [ltC,j])] at g
       simp only [VH,R,u,V,l,cw,j,K,L,ld,st,Y,Na,N4,(EncOk.len (enc:=enc) (z:=iz)),h,iw,M,hc,SB,seval,NE,NJ,NF,PW,reduceCtorEq,NA]
       exact hW (w+1,swp I w (w-1)) _ _ ⟨by simp only;omega,by simp only;omega,R,w4,u,V,w9,r,rfl,by simp [swp],by simp [swp,h],g⟩ (by simp only;omega)
      ·rw [Nk cw,Nk (by simp [ltC,j])] at g
       clear hW
       simp only [VH,R,u,V,r,l,cw,j,K,ld,Y,Na,h,iw,M,hc,C,SB,seval,NE,NJ,NF,PW,reduceCtorEq]
       exact hN (k,f,I) _ _ ⟨by simp only;omega,by simp only;omega,by simp only;omega,R,w4,u,V,w9,rfl,by simp,h,by rw [he,o,W9,Nk hB,hU,g]⟩ (by simp only;omega)
     ·rw [Nf cw] at g
      clear hW
      simp only [VH,u,r,l,cw,C,SB,seval,NJ,NF]
      exact hN (k,f,I) _ _ ⟨by simp only;omega,by simp only;omega,by simp only;omega,R,w4,u,V,w9,rfl,by simp,h,by rw [he,o,W9,Nk hB,hU,g]⟩ (by simp only;omega)
    ·have m:¬(2:Int)<=((b-f:Nat):Int):=by omega
     simp only [VH,q0,q1,q2,q3,q9,am,Z,m,C,c2,c3,ah,aa,ae,ak,an,ai,t,i5,i6,hc,ld,st,Y,Na,N4,(EncOk.len (enc:=enc) (z:=iz)),SB,seval,NE,NJ,NF,PW,reduceCtorEq,NA]
     exact hN (k,f,swp d1 f (f-1)) _ _ ⟨by simp only;omega,by simp only;omega,by simp only;omega,q0,q1,q2,q3,q9,rfl,by simp [swp],by simp [swp,t],by rw [he,o,W9,Nf hB]⟩ (by simp only;omega)
variable {E:Env} {iz:Ids} [DT E E] [SortAt E iz] {α:Type} [Inhabited α] {enc:α->List Value} [EncOk enc iz]
section
variable {α:Type} {enc:α->List Value} {G X:NB} {B:Nat} {d:Array α} {c:Blk}
theorem Nn5:(DH enc G B d++X).length=G.length+X.length:=by rw [Nb,WG]
theorem V7:NC (DH enc G B d++(X++[c])) (G.length+X.length)=c:=by
 rw [<-Nr,<-Nn5 (enc:=enc) (B:=B) (d:=d)];exact NN
theorem Ng2 {c':Blk}:(DH enc G B d++(X++[c])).set (G.length+X.length) c'=DH enc G B d++(X++[c']):=by
 rw [<-Nr,<-Nn5 (enc:=enc) (B:=B) (d:=d),Nb0];simp
end
theorem Nku {G X:NB} {B lim cap n:Nat} {p:Option Addr} {c:α->α->Int} {cl:FuncId} {cs:List Value} (hp:p=Sa B) (hB:B<G.length) (hl:lim<=B) (o:n<2 ^ 61) (hc:∀(mp:Bool) (lim:Nat) (x y:α) (H:NB) (Q:Value->NB->Prop),NR E mp lim cl (.agg (enc x).toArray::.agg (enc y).toArray::cs) H Q=Q (Vi (c x y)) H) {d:Array α} {a b s:Nat} (hd:d.size=n) (h:a<n) (j:b<n) (q:s<100) :
  ∃x y m:Nat,(x=a/\y=b\/x=b/\y=a)/\m<=s+1/\∀Q,NR E false lim iz.ORD [.slice p n cap,Vi a,Vi b,Vp (G.length+X.length),.func (.func cl) #[] cs.toArray] (DH enc G B d++(X++[Vc [Vi s]])) Q =
   Q (.tuple #[Vi x,Vi y]) (DH enc G B d++(X++[Vc [Vi m]])):=by
 have ld:=fun (i:Nat) (X:NB) (d:Array α) (hd:d.size=n) (hi:i<n)=>Yt (X:=X) (d:=d) (i:=i) hp hB (EncOk.len (enc:=enc) (z:=iz)) (by omega);have st:=fun (i:Nat) (X:NB) (d:Array α) (hd:d.size=n) (hi:i<n) (y:α)=>Yr (X:=X) (d:=d) (i:=i) (y:=y) hp hB hl (EncOk.len (enc:=enc) (z:=iz)) (by omega);have l:=fun (i:Nat) (hi:i<n) c (k:IntKind) (H:NB)=>VT (e:=iz.e) (i:=i) (n:=n) (c:=c) (k:=k) (H:=H) hp hi
 have hw:IntKind.i64.wrap ((s:Int)+1)=((s+1:Nat):Int):=NS (by omega)
 have f:lim<=G.length+X.length:=by omega
 by_cases g:c d[b]! d[a]!<0
 ·refine ⟨b,a,s+1,.inr ⟨rfl,rfl⟩,Ng _,fun Q=>runs (SortAt.ORD (E:=E) (z:=iz)) ?_⟩
  rw [N30,Ny9]
  simp only [N3l,N23,ld,l,Na,hd,h,j,hc,g,V7,Ng2,hw,f,SB,seval,NE,NJ,NF,reduceCtorEq,NH,NA,NG]
 ·refine ⟨a,b,s,.inl ⟨rfl,rfl⟩,by omega,fun Q=>runs (SortAt.ORD (E:=E) (z:=iz)) ?_⟩
  rw [N30,Ny9]
  simp only [N3l,N23,ld,l,Na,hd,h,j,hc,g,SB,seval,NE,NJ,NF,reduceCtorEq,NH,NG]
theorem Ntw {G X:NB} {B lim cap n:Nat} {p:Option Addr} {c:α->α->Int} {cl:FuncId} {cs:List Value} (hp:p=Sa B) (hB:B<G.length) (hl:lim<=B) (f:n<2 ^ 61) (hc:∀(mp:Bool) (lim:Nat) (x y:α) (H:NB) (Q:Value->NB->Prop),NR E mp lim cl (.agg (enc x).toArray::.agg (enc y).toArray::cs) H Q=Q (Vi (c x y)) H) {d:Array α} {a b e s:Nat} (hd:d.size=n) (h:a<n) (i:b<n) (he:e<n) (v:s<90) :
  ∃x g:Nat,(x=a\/x=b\/x=e)/\g<=s+3/\∀Q,NR E false lim iz.MED [.slice p n cap,Vi a,Vi b,Vi e,Vp (G.length+X.length),.func (.func cl) #[] cs.toArray] (DH enc G B d++(X++[Vc [Vi s]])) Q =
   Q (Vi x) (DH enc G B d++(X++[Vc [Vi g]])):=by
 obtain ⟨o,r,s1,h1,k1,j⟩:=Nku (X:=X) (cap:=cap) (lim:=lim) hp hB hl f hc hd h i (show s<100 by omega)
 obtain ⟨q,A,s2,h2,k2,k⟩:=Nku (X:=X) (cap:=cap) (lim:=lim) hp hB hl f hc hd (show r<n by omega) he (show s1<100 by omega)
 obtain ⟨w,t,m,u,k3,l⟩:=Nku (X:=X) (cap:=cap) (lim:=lim) hp hB hl f hc hd (show o<n by omega) (show q<n by omega) (show s2<100 by omega)
 refine ⟨t,m,by omega,by omega,fun Q=>runs (SortAt.MED (E:=E) (z:=iz)) ?_⟩
 rw [N5x,N2h]
 simp only [N5i,N48,j,k,l,SB,seval,NE,NJ,reduceCtorEq,NH,NG]
theorem Ngl {G X:NB} {B lim cap n:Nat} {p:Option Addr} {c:α->α->Int} {cl:FuncId} {cs:List Value} (hp:p=Sa B) (hB:B<G.length) (hl:lim<=B) (f:n<2 ^ 61) (hc:∀(mp:Bool) (lim:Nat) (x y:α) (H:NB) (Q:Value->NB->Prop),NR E mp lim cl (.agg (enc x).toArray::.agg (enc y).toArray::cs) H Q=Q (Vi (c x y)) H) {d:Array α} {a s:Nat} (hd:d.size=n) (m:0<a) (o:a+1<n) (j:s<90) :
  ∃x i:Nat,a<=x+1/\x<=a+1/\i<=s+3/\∀Q,NR E false lim iz.MEDA [.slice p n cap,Vi a,Vp (G.length+X.length),.func (.func cl) #[] cs.toArray] (DH enc G B d++(X++[Vc [Vi s]])) Q =
   Q (Vi x) (DH enc G B d++(X++[Vc [Vi i]])):=by
 obtain ⟨l,s1,h1,k1,k⟩:=Ntw (X:=X) (cap:=cap) (lim:=lim) (a:=a-1) (b:=a) (e:=a+1) hp hB hl f hc hd (by omega) (by omega) (by omega) j
 have g:IntKind.i64.wrap ((a:Int)-1)=((a-1:Nat):Int):=QY (by omega) (by omega)
 have h:IntKind.i64.wrap ((a:Int)+1)=((a+1:Nat):Int):=NS (by omega)
 refine ⟨l,s1,by omega,by omega,k1,fun Q=>runs (SortAt.MEDA (E:=E) (z:=iz)) ?_⟩
 rw [N31,Nwu]
 simp only [N3m,N24,g,h,k,SB,seval,NE,NJ,NF,reduceCtorEq,NH,NG]
theorem QA {m:Int} {k:Nat} (h:m=(k:Int)) (a:k<2 ^ 62):IntKind.i64.wrap m=(k:Int):=by
 subst h;exact NY (by omega) (by omega)
theorem Nbr {a b:Nat}:(a:Int).tdiv (b:Int)=((a / b:Nat):Int):=by
 rw [Pv (by omega)];rfl
theorem N2a {G X:NB} {B lim cap n:Nat} {p:Option Addr} {c:α->α->Int} {cl:FuncId} {cs:List Value} (hp:p=Sa B) (hB:B<G.length) (hl:lim<=B) (u:n<2 ^ 61) (hc:∀(mp:Bool) (lim:Nat) (x y:α) (H:NB) (Q:Value->NB->Prop),NR E mp lim cl (.agg (enc x).toArray::.agg (enc y).toArray::cs) H Q=Q (Vi (c x y)) H) {d:Array α} {a b:Nat} (hd:d.size=n) (hb:b<=n) (P:a+12<b) :
  ∃v h s:Nat,a<=v/\v<b/\h<=2/\∀Q,NR E false lim iz.CHO [.slice p n cap,Vi a,Vi b,.func (.func cl) #[] cs.toArray] (DH enc G B d++X) Q =
   Q (.tuple #[Vi v,Vi h]) (DH enc G B d++(X++[Vc [Vi s]])):=by
 obtain ⟨l,rfl⟩:∃l,b=a+l:=⟨b-a,by omega⟩
 have i:IntKind.i64.wrap (((a+l:Nat):Int)-(a:Int))=(l:Int):=QA (by omega) (by omega)
 have D:(l:Int).tdiv 4=((l / 4:Nat):Int):=Nbr (b:=4)
 have j:IntKind.i64.wrap ((l / 4:Nat):Int)=((l / 4:Nat):Int):=QA rfl (by omega)
 have k:IntKind.i64.wrap (((l / 4:Nat):Int)*1)=((l / 4:Nat):Int):=QA (by omega) (by omega)
 have m:IntKind.i64.wrap (((l / 4:Nat):Int)*2)=((l / 4*2:Nat):Int):=QA (by omega) (by omega)
 have o:IntKind.i64.wrap (((l / 4:Nat):Int)*3)=((l / 4*3:Nat):Int):=QA (by omega) (by omega)
 have q:IntKind.i64.wrap ((a:Int)+((l / 4:Nat):Int))=((a+l / 4:Nat):Int):=QA (by omega) (by omega)
 have r:IntKind.i64.wrap ((a:Int)+((l / 4*2:Nat):Int))=((a+l / 4*2:Nat):Int):=QA (by omega) (by omega)
 have t:IntKind.i64.wrap ((a:Int)+((l / 4*3:Nat):Int))=((a+l / 4*3:Nat):Int):=QA (by omega) (by omega)
 have C:(8:Int)<=(l:Int):=by omega
 have key:∀(x y z s:Nat),a<=x->x<a+l->a<=y->y<a+l->a<=z->z<a+l->s<80->∃v g:Nat,a<=v/\v<a+l/\∀Q,NR E false lim iz.MED [.slice p n cap,Vi x,Vi y,Vi z,Vp (G.length+X.length),.func (.func cl) #[] cs.toArray] (DH enc G B d++(X++[Vc [Vi s]])) Q =
   Q (Vi v) (DH enc G B d++(X++[Vc [Vi g]])):=by
  intro x y z s q1 q2 q3 q4 q5 q6 q7
  obtain ⟨v,g,K,_,F⟩:=Ntw (X:=X) (cap:=cap) (lim:=lim) (a:=x) (b:=y) (e:=z) hp hB hl u hc hd (by omega) (by omega) (by omega) (show s<90 by omega)
  exact ⟨v,g,by omega,by omega,F⟩
 have fin:∀(v g:Nat) ,∃h:Nat,h<=2/\((g=0/\h=1)\/(¬(g:Int)=0/\g=12/\h=2)\/(¬(g:Int)=0/\¬(g:Int)=12/\h=0)):=by
  intro v g
  by_cases z:g=0
  ·exact ⟨1,by omega,.inl ⟨z,rfl⟩⟩
  ·by_cases J:g=12
   ·exact ⟨2,by omega,.inr (.inl ⟨by omega,J,rfl⟩)⟩
   ·exact ⟨0,by omega,.inr (.inr ⟨by omega,by omega,rfl⟩)⟩
 by_cases c50:50<=l
 ·have f:(50:Int)<=(l:Int):=by omega
  obtain ⟨S,s1,h1,h2,V,L⟩:=Ngl (X:=X) (cap:=cap) (lim:=lim) (a:=a+l / 4) (s:=0) hp hB hl u hc hd (by omega) (by omega) (by omega)
  obtain ⟨T,s2,W,Y,Z,N⟩:=Ngl (X:=X) (cap:=cap) (lim:=lim) (a:=a+l / 4*2) (s:=s1) hp hB hl u hc hd (by omega) (by omega) (by omega)
  obtain ⟨U,R,h7,h8,h9,O⟩:=Ngl (X:=X) (cap:=cap) (lim:=lim) (a:=a+l / 4*3) (s:=s2) hp hB hl u hc hd (by omega) (by omega) (by omega)
  obtain ⟨v,g,K,F,w⟩:=key S T U R (by omega) (by omega) (by omega) (by omega) (by omega) (by omega) (by omega)
  obtain ⟨h,M,A⟩:=fin v g
  refine ⟨v,h,g,K,F,M,fun Q=>runs (SortAt.CHO (E:=E) (z:=iz)) ?_⟩
  rw [N35,Nzc]
  simp only [show ((0:Nat):Int)=0 from rfl] at L
  rcases A with ⟨rfl,rfl⟩ | ⟨I,rfl,rfl⟩ | ⟨I,J,rfl⟩
  ·simp only [Nqa,Npc,i,D,j,k,m,o,q,r,t,C,f,L,N,O,w,V7,WG,SB,seval,NE,NJ,NF,reduceCtorEq,NH,place,NG]
  ·simp only [Nqa,Npc,i,D,j,k,m,o,q,r,t,C,f,L,N,O,w,V7,WG,SB,seval,NE,NJ,NF,reduceCtorEq,NH,place,NG]
  ·simp only [Nqa,Npc,i,D,j,k,m,o,q,r,t,C,f,L,N,O,w,I,J,V7,WG,SB,seval,NE,NJ,NF,reduceCtorEq,NH,place,NG]
 ·have f:¬(50:Int)<=(l:Int):=by omega
  obtain ⟨v,g,K,F,w⟩:=key (a+l / 4) (a+l / 4*2) (a+l / 4*3) 0 (by omega) (by omega) (by omega) (by omega) (by omega) (by omega) (by omega)
  obtain ⟨h,M,A⟩:=fin v g
  refine ⟨v,h,g,K,F,M,fun Q=>runs (SortAt.CHO (E:=E) (z:=iz)) ?_⟩
  rw [N35,Nzc]
  simp only [show ((0:Nat):Int)=0 from rfl] at w
  rcases A with ⟨rfl,rfl⟩ | ⟨I,rfl,rfl⟩ | ⟨I,J,rfl⟩
  ·simp only [Nqa,Npc,i,D,j,k,m,o,q,r,t,C,f,w,V7,WG,SB,seval,NE,NJ,NF,reduceCtorEq,NH,place,NG]
  ·simp only [Nqa,Npc,i,D,j,k,m,o,q,r,t,C,f,w,V7,WG,SB,seval,NE,NJ,NF,reduceCtorEq,NH,place,NG]
  ·simp only [Nqa,Npc,i,D,j,k,m,o,q,r,t,C,f,w,I,J,V7,WG,SB,seval,NE,NJ,NF,reduceCtorEq,NH,place,NG]
variable {E:Env} {iz:Ids} [DT E E] [SortAt E iz] {α:Type} [Inhabited α] {enc:α->List Value} [EncOk enc iz]
def len8:List UInt8:=[0,1,2,2,3,3,3,3,4,4,4,4,4,4,4,4,5,5,5,5,5,5,5,5,5,5,5,5,5,5,5,5,6,6,6,6,6,6,6,6,6,6,6,6,6,6,6,6,6,6,6,6,6,6,6,6,6,6,6,6,6,6,6,6,7,7,7,7,7,7,7,7,7,7,7,7,7,7,7,7,7,7,7,7,7,7,7,7,7,7,7,7,7,7,7,7,7,7,7,7,7,7,7,7,7,7,7,7,7,7,7,7,7,7,7,7,7,7,7,7,7,7,7,7,7,7,7,7,8,8,8,8,8,8,8,8,8,8,8,8,8,8,8,8,8,8,8,8,8,8,8,8,8,8,8,8,8,8,8,8,8,8,8,8,8,8,8,8,8,8,8,8,8,8,8,8,8,8,8,8,8,8,8,8,8,8,8,8,8,8,8,8,8,8,8,8,8,8,8,8,8,8,8,8,8,8,8,8,8,8,8,8,8,8,8,8,8,8,8,8,8,8,8,8,8,8,8,8,8,8,8,8,8,8,8,8,8,8,8,8,8,8,8,8,8,8,8,8,8,8,8,8,8,8,8,8]
theorem Nt5:len8.length=256:=by decide
theorem Nnj:∀m,m<256->m<2 ^ (len8.getD m 0).toNat/\(m=0\/2 ^ (len8.getD m 0).toNat<=2*m)/\(len8.getD m 0).toNat<=8:=by decide +kernel
theorem len8_get {m:Nat} (h:m<256):len8[m]? = some (len8.getD m 0):=by
 rw [Nc,Np (by rw [Nt5];exact h)];rfl
theorem wrap64 {n:Int}:IntKind.u64.wrap n=n % 2 ^ 64:=by simp [IntKind.wrap,IntKind.bits,IntKind.signed]
theorem Nzs {n:Int}:IntKind.u8.wrap n=n % 2 ^ 8:=by simp [IntKind.wrap,IntKind.bits,IntKind.signed]
theorem fd8 {a:Int}:a.fdiv (2 ^ min (Int.toNat 8) IntKind.u64.bits)=a / 256:=by
 rw [show (2:Int) ^ min (Int.toNat 8) IntKind.u64.bits=256 from by decide,Rg _ (by decide)]
theorem Nt4 {x:Nat} (t:x<65536) (s:0<x):∃L:Nat,x<2 ^ L/\2 ^ L<=2*x/\L<=16/\∀(mp:Bool) (lim:Nat) (H:NB) (Q:Value->NB->Prop),NR E mp lim iz.LEN [.int .u64 (x:Int)] H Q=Q (Vi L) H:=by
 have key:∃L:Nat,x<2 ^ L/\2 ^ L<=2*x/\L<=16/\∀(mp:Bool) (lim:Nat) (H:NB) (Q:Value->NB->Prop),NR E mp lim iz.LEN64 [.int .u64 (x:Int)] H Q=Q (Vi L) H:=by
  have f:¬(4294967296:Int)<=(x:Int):=by omega
  have d:¬(65536:Int)<=(x:Int):=by omega
  by_cases r:256<=x
  ·obtain ⟨h1,h2,g⟩:=Nnj (x / 256) (by omega)
   have c:=len8_get (m:=x / 256) (by omega)
   generalize o:len8.getD (x / 256) 0=b at h1 h2 g c
   have l:2 ^ b.toNat<=2*(x / 256):=by rcases h2 with h | h<;>omega
   have e:(2:Nat) ^ (8+b.toNat)=256*2 ^ b.toNat:=by rw [Nat.pow_add]
   refine ⟨8+b.toNat,by rw [e];omega,by rw [e];omega,by omega,fun mp lim H Q=>?_⟩
   refine pcG (SortAt.LEN64 (E:=E) (z:=iz)) rfl ?_
   rw [Nmd,Nc8]
   unfold len8 at c
   have a:(256:Int)<=(x:Int):=by omega
   have u:IntKind.u64.wrap ((x:Int) / 256)=((x / 256:Nat):Int):=by rw [wrap64];omega
   have i:IntKind.u8.wrap ((x:Int) / 256)=((x / 256:Nat):Int):=by rw [Nzs];omega
   have j:IntKind.i64.wrap ((b.toNat:Nat):Int)=(b.toNat:Int):=QA rfl (by omega)
   have p:IntKind.i64.wrap (8+(b.toNat:Int))=((8+b.toNat:Nat):Int):=QA (by omega) (by omega)
   have q:IntKind.i64.wrap 8=8:=by decide
   have k:(0:Int)<=((x / 256:Nat):Int):=by omega
   simp only [Nlb,Nkl,f,d,a,fd8,i,j,p,q,k,c,O0,Qp,SB,Nat.reduceLT,NJ,Nat.reduceEqDiff,NF,reduceCtorEq,NH,NG,Int.reduceLT]
  ·obtain ⟨h1,h2,g⟩:=Nnj x (by omega)
   have c:=len8_get (m:=x) (by omega)
   generalize o:len8.getD x 0=b at h1 h2 g c
   refine ⟨b.toNat,h1,by rcases h2 with h | h<;>omega,by omega,fun mp lim H Q=>?_⟩
   refine pcG (SortAt.LEN64 (E:=E) (z:=iz)) rfl ?_
   rw [Nmd,Nc8]
   unfold len8 at c
   have a:¬(256:Int)<=(x:Int):=by omega
   have i:IntKind.u8.wrap (x:Int)=(x:Int):=by rw [Nzs];omega
   have j:IntKind.i64.wrap ((b.toNat:Nat):Int)=(b.toNat:Int):=QA rfl (by omega)
   have k:(0:Int)<=(x:Int):=by omega
   simp only [Nlb,Nkl,f,d,a,i,j,k,c,O0,Qp,SB,Nat.reduceLT,NJ,Nat.reduceEqDiff,NF,reduceCtorEq,NH,NG]
 obtain ⟨L,h1,h2,g,n⟩:=key
 refine ⟨L,h1,h2,g,fun mp lim H Q=>?_⟩
 refine pcG (SortAt.LEN (E:=E) (z:=iz)) rfl ?_
 rw [N32,Nza]
 simp only [N3n,N25,n,SB,Nat.reduceLT,NE,NJ,reduceCtorEq,NH,NG]
theorem N1k {x:Nat} (d:x<65536) (b:0<x):∃m:Nat,0<m/\m<=2*x/\∀(mp:Bool) (lim:Nat) (H:NB) (Q:Value->NB->Prop),NR E mp lim iz.NPT [Vi x] H Q=Q (.int .u64 (m:Int)) H:=by
 obtain ⟨L,h1,h2,h,c⟩:=Nt4 (E:=E) (iz:=iz) d b
 refine ⟨2 ^ L,Nat.pow_pos (by decide),h2,fun mp lim H Q=>?_⟩
 refine pcG (SortAt.NPT (E:=E) (z:=iz)) rfl ?_
 rw [N5w,N2g]
 have e:IntKind.u64.wrap (x:Int)=(x:Int):=by rw [wrap64];omega
 have f:min L IntKind.u64.bits=L:=by simp only [IntKind.bits];omega
 have hp:(2:Nat) ^ L<2 ^ 18:=by omega
 have g:IntKind.u64.wrap (1*2 ^ L)=((2 ^ L:Nat):Int):=by
  rw [wrap64,Int.one_mul]
  have:((2:Int) ^ L)=((2 ^ L:Nat):Int):=by simp
  rw [this];omega
 have a:¬(L:Int)<0:=by omega
 simp only [N5h,N47,e,c,a,O0,f,g,SB,Nat.reduceLT,NE,NJ,NF,reduceCtorEq,NH,NG]
theorem N0x {α:Type} {enc:α->List Value} {G X:NB} {B lim:Nat} {d:Array α} {s:Int} (hl:lim<=B) (hB:B<G.length) :
  ∃a:Int,(0<=a/\a<2 ^ 64)/\∀Q,NR E false lim iz.XOR [Vp (G.length+X.length)] (DH enc G B d++(X++[Vc [.int .u64 s]])) Q=Q (.int .u64 a) (DH enc G B d++(X++[Vc [.int .u64 a]])):=by
 have b:lim<=G.length+X.length:=by omega
 have hw:∀m:Int,0<=IntKind.u64.wrap m/\IntKind.u64.wrap m<2 ^ 64:=by intro m;rw [wrap64];omega
 have key:NR E false lim iz.XOR [Vp (G.length+X.length)] (DH enc G B d++(X++[Vc [.int .u64 s]])) fun v H'=>∃a,(0<=a/\a<2 ^ 64)/\v=.int .u64 a/\H'=DH enc G B d++(X++[Vc [.int .u64 a]]):=by
  rw [UV (E:=E) (g:=iz.XOR) (af:=(aXOR iz)) ((SortAt.XOR (E:=E) (z:=iz)).2.2 _) (SortAt.XOR (E:=E) (z:=iz)).1 (SortAt.XOR (E:=E) (z:=iz)).2.1 rfl]
  rw [N5s,N2c]
  simp only [N5g,N44,V7,Ng2,b,Na,SB,Nat.reduceLT,NJ,Nat.reduceEqDiff,NF,reduceCtorEq,NH,NA,NG,Int.reduceLT]
  exact ⟨_,hw _,rfl,rfl⟩
 obtain ⟨k,v,H',c,a,h1,rfl,rfl⟩:=oneG (SortAt.dt (E:=E) (z:=iz)) key
 exact ⟨a,h1,fun Q=>NR.det c⟩
theorem N2t {a b:Int} (c:0<=b/\b<2 ^ 64):0<=IntKind.u64.wrap ((BitVec.ofInt IntKind.u64.bits a &&& BitVec.ofInt IntKind.u64.bits b).toNat:Int)/\IntKind.u64.wrap ((BitVec.ofInt IntKind.u64.bits a &&& BitVec.ofInt IntKind.u64.bits b).toNat:Int)<=b:=by
 rw [wrap64]
 have h1:(BitVec.ofInt IntKind.u64.bits a &&& BitVec.ofInt IntKind.u64.bits b).toNat<=(BitVec.ofInt IntKind.u64.bits b).toNat:=by
  rw [Ry];exact Nat.and_le_right
 have h2:((BitVec.ofInt IntKind.u64.bits b).toNat:Int)=b:=by
  rw [BitVec.toNat_ofInt]
  simp only [IntKind.bits]
  omega
 omega
variable {E:Env} {iz:Ids} [DT E E] [SortAt E iz] {α:Type} [Inhabited α] {enc:α->List Value} [EncOk enc iz]
theorem N2o {G X:NB} {B lim cap n:Nat} {p:Option Addr} {c:α->α->Int} {cl:FuncId} {cs:List Value} (hp:p=Sa B) (hB:B<G.length) (hl:lim<=B) (ae:n<2 ^ 61) (hc:∀(mp:Bool) (lim:Nat) (x y:α) (H:NB) (Q:Value->NB->Prop),NR E mp lim cl (.agg (enc x).toArray::.agg (enc y).toArray::cs) H Q=Q (Vi (c x y)) H) {d:Array α} {a b:Nat} (hd:d.size=n) (hb:b<=n) (aa:a+12<b) (ag:n<65536) :
  ∃o s,o.size=n/\PermIn a b d o/\∀Q,NR E false lim iz.BRK [.slice p n cap,Vi a,Vi b,.func (.func cl) #[] cs.toArray] (DH enc G B d++X) Q=Q (.tuple #[]) (DH enc G B o++(X++[Vc [.int .u64 s]])):=by
 have key:NR E false lim iz.BRK [.slice p n cap,Vi a,Vi b,.func (.func cl) #[] cs.toArray] (DH enc G B d++X) fun v H'=>∃o s,o.size=n/\PermIn a b d o/\v=.tuple #[]/\H'=DH enc G B o++(X++[Vc [.int .u64 s]]):=by
  rw [UV (E:=E) (g:=iz.BRK) (af:=(aBRK iz)) ((SortAt.BRK (E:=E) (z:=iz)).2.2 _) (SortAt.BRK (E:=E) (z:=iz)).1 (SortAt.BRK (E:=E) (z:=iz)).2.1 rfl]
  rw [N5y,N2i]
  have ld:=fun (i:Nat) (X:NB) (d:Array α) (hd:d.size=n) (hi:i<n)=>Yt (X:=X) (d:=d) (i:=i) hp hB (EncOk.len (enc:=enc) (z:=iz)) (by omega);have st:=fun (i:Nat) (X:NB) (d:Array α) (hd:d.size=n) (hi:i<n) (y:α)=>Yr (X:=X) (d:=d) (i:=i) (y:=y) hp hB hl (EncOk.len (enc:=enc) (z:=iz)) (by omega);have ix:=fun (i:Nat) (hi:i<n) c (k:IntKind) (H:NB)=>VT (e:=iz.e) (i:=i) (n:=n) (c:=c) (k:=k) (H:=H) hp hi
  have U:lim<=G.length+X.length:=by omega
  obtain ⟨l,rfl⟩:∃l,b=a+l:=⟨b-a,by omega⟩
  obtain ⟨m,ac,ad,F⟩:=N1k (E:=E) (iz:=iz) (x:=l) (by omega) (by omega)
  have V:IntKind.i64.wrap (((a+l:Nat):Int)-(a:Int))=(l:Int):=QA (by omega) (by omega)
  have N:(l:Int).tdiv 4=((l / 4:Nat):Int):=Nbr (b:=4)
  have u:IntKind.i64.wrap ((l / 4:Nat):Int)=((l / 4:Nat):Int):=QA rfl (by omega)
  have w:IntKind.i64.wrap (((l / 4:Nat):Int)*2)=((l / 4*2:Nat):Int):=QA (by omega) (by omega)
  have A:IntKind.i64.wrap ((a:Int)+((l / 4*2:Nat):Int))=((a+l / 4*2:Nat):Int):=QA (by omega) (by omega)
  have W:IntKind.i64.wrap (((a+l / 4*2:Nat):Int)-1)=((a+l / 4*2-1:Nat):Int):=QA (by omega) (by omega)
  have C:IntKind.i64.wrap (((a+l / 4*2:Nat):Int)+1)=((a+l / 4*2+1:Nat):Int):=QA (by omega) (by omega)
  have J:IntKind.u64.wrap ((m:Int)-1)=((m-1:Nat):Int):=by rw [wrap64];omega
  have c8:(8:Int)<=(l:Int):=by omega
  simp only [Nx7,V,N,u,w,A,W,c8,F,V7,Ng2,WG,U,SB,seval,NE,NJ,NF,NH,place,NA]
  refine NM (S:=Nat×Array α×Int) (fun s=>a+l+5-s.1) (fun s fr H=>a<s.1/\s.1<=a+l / 4*2+2/\fr 0=.slice p n cap/\fr 1=Vi a/\fr 8=Vi l/\fr 9=Vp (G.length+X.length)/\fr 10=.int .u64 (m:Int)/\fr 11=Vi s.1/\
   H=DH enc G B s.2.1++(X++[Vc [.int .u64 s.2.2]])/\s.2.1.size=n/\PermIn a (a+l) d s.2.1) (a+l / 4*2-1,d,IntKind.u64.wrap (l:Int)) ⟨by simp only;omega,by simp only;omega,rfl,rfl,rfl,rfl,rfl,rfl,rfl,hd,permIn_refl _ _ _⟩ ?_
  rintro ⟨i,d1,s⟩ fr H ⟨h1,h2,g0,g1,D,L,q,t,rfl,h,M⟩ T
  simp only at h1 h2 t h M
  rw [NQ (Nui.eq_1 iz)]
  by_cases R:i<=a+(l / 4*2+1)
  ·obtain ⟨P,_,O⟩:=N0x (E:=E) (iz:=iz) (X:=X) (d:=d1) (s:=s) (enc:=enc) hl hB
   have hA:=N2t (a:=P) (b:=((m-1:Nat):Int)) (by omega)
   generalize hr:IntKind.u64.wrap ((BitVec.ofInt IntKind.u64.bits P &&& BitVec.ofInt IntKind.u64.bits ((m-1:Nat):Int)).toNat:Int)=r at hA
   obtain ⟨f,rfl⟩:∃f:Nat,r=(f:Int):=⟨r.toNat,by omega⟩
   have K:IntKind.i64.wrap (f:Int)=(f:Int):=QA rfl (by omega)
   have I:IntKind.i64.wrap ((i:Int)+1)=((i+1:Nat):Int):=NS (by omega)
   have i1:i<n:=by omega
   by_cases c2:l<=f
   ·have Y:IntKind.i64.wrap ((f:Int)-(l:Int))=((f-l:Nat):Int):=QA (by omega) (by omega)
    have j:IntKind.i64.wrap ((a:Int)+((f-l:Nat):Int))=((a+(f-l):Nat):Int):=QA (by omega) (by omega)
    have Z:a+(f-l)<n:=by omega
    simp only [Nx7,g0,g1,D,L,q,t,N,u,w,A,C,R,O,J,hr,K,c2,Y,j,ld,st,ix,Na,N4,(EncOk.len (enc:=enc) (z:=iz)),h,i1,Z,I,SB,seval,NE,NJ,NF,reduceCtorEq,NA]
    exact T (i+1,swp d1 i (a+(f-l)),P) _ _ ⟨by simp only;omega,by simp only;omega,g0,g1,D,L,q,rfl,by simp [swp],by simp [swp,h],permIn_trans _ _ _ _ _ M (swp_permIn _ _ _ _ _ (by omega) (by omega) (by omega) (by omega) (by omega))⟩ (by simp only;omega)
   ·have j:IntKind.i64.wrap ((a:Int)+(f:Int))=((a+f:Nat):Int):=QA (by omega) (by omega)
    have Z:a+f<n:=by omega
    simp only [Nx7,g0,g1,D,L,q,t,N,u,w,A,C,R,O,J,hr,K,c2,j,ld,st,ix,Na,N4,(EncOk.len (enc:=enc) (z:=iz)),h,i1,Z,I,SB,seval,NE,NJ,NF,reduceCtorEq,NA]
    exact T (i+1,swp d1 i (a+f),P) _ _ ⟨by simp only;omega,by simp only;omega,g0,g1,D,L,q,rfl,by simp [swp],by simp [swp,h],permIn_trans _ _ _ _ _ M (swp_permIn _ _ _ _ _ (by omega) (by omega) (by omega) (by omega) (by omega))⟩ (by simp only;omega)
  ·clear T
   simp only [Nx7,N49,g1,D,t,N,u,w,A,C,R,SB,seval,NJ,NF]
   exact ⟨d1,s,h,M,rfl⟩
 obtain ⟨k,v,H',O,o,s,h1,h2,rfl,rfl⟩:=oneG (SortAt.dt (E:=E) (z:=iz)) key
 exact ⟨o,s,h1,h2,fun Q=>NR.det O⟩
variable {E:Env} {iz:Ids} [DT E E] [SortAt E iz] {α:Type} [Inhabited α] {enc:α->List Value} [EncOk enc iz]
def tlc:ACode->ACode
 | .seq _ b=>b
 | x=>x
def unb:ACode->ACode
 | .block _ b=>b
 | x=>x
def q1 (iz:Ids):ACode:=tlc (tlc (tlc (tlc (unb (TD iz)))))
def q2 (iz:Ids):ACode:=tlc (tlc (q1 iz))
def q3 (iz:Ids):ACode:=tlc (q2 iz)
def hdc:ACode->ACode
 | .seq a _=>a
 | x=>x
def p1 (iz:Ids):ACode:=hdc (unb (TD iz))
def p2 (iz:Ids):ACode:=hdc (tlc (unb (TD iz)))
def p3 (iz:Ids):ACode:=hdc (tlc (tlc (unb (TD iz))))
def p4 (iz:Ids):ACode:=hdc (tlc (tlc (tlc (unb (TD iz)))))
theorem Nn8:(TD iz)=.block 1 (.seq (p1 iz) (.seq (p2 iz) (.seq (p3 iz) (.seq (p4 iz) (q1 iz))))):=rfl
def p5 (iz:Ids):ACode:=hdc (q2 iz)
theorem Nsz:(q2 iz)=.seq (p5 iz) (q3 iz):=rfl
def p6 (iz:Ids):ACode:=hdc (q1 iz)
def p7 (iz:Ids):ACode:=hdc (tlc (q1 iz))
theorem Nzw:(q1 iz)=.seq (p6 iz) (.seq (p7 iz) (q2 iz)):=rfl
def Uz (enc:α->List Value) (G:NB) (B n:Nat) (c:α->α->Int) (a b:Nat) (d:Array α) (X:NB) (v:Value) (H':NB):Prop:=
 ∃e Y,e.size=n/\PermIn a b d e/\SortedIn (ltC c) a b e/\v=.tuple #[]/\H'=DH enc G B e++(X++Y)
theorem Uz.perm {G:NB} {B n:Nat} {c:α->α->Int} {a b:Nat} {d d1:Array α} {X Y:NB} {v:Value} {H':NB} (h:Uz enc G B n c a b d1 (X++Y) v H') (j:PermIn a b d d1):Uz enc G B n c a b d X v H':=by
 obtain ⟨e,Z,h1,h2,f,g,i⟩:=h
 exact ⟨e,Y++Z,h1,permIn_trans _ _ _ _ _ j h2,f,g,by rw [i];simp⟩
theorem N5d {G X:NB} {B lim cap n:Nat} {p:Option Addr} {c:α->α->Int} {cl:FuncId} {cs:List Value} (hp:p=Sa B) (hB:B<G.length) (hl:lim<=B) (V:n<2 ^ 61) (hc:∀(mp:Bool) (lim:Nat) (x y:α) (H:NB) (Q:Value->NB->Prop),NR E mp lim cl (.agg (enc x).toArray::.agg (enc y).toArray::cs) H Q=Q (Vi (c x y)) H) (hS:SWO (ltC c)) {d:Array α} {a b v lm m:Nat} {wb wp:Bool} {fr:Nat->Value} {L:List AItem} (U:∀(a b lm:Nat) (wb wp:Bool) (d:Array α) (X:NB) (fr:Nat->Value),b-a<m->a<=b->b<=n->d.size=n->Below (ltC c) a b d->lm<2 ^ 60->fr 0=.slice p n cap->fr 1=Vi a->fr 2=Vi b->fr 3=Vi lm->fr 4=.func (.func cl) #[] cs.toArray->fr 10=.bool wb->fr 11=.bool wp->PI E (aPDQ iz) lim L fr (DH enc G B d++X) (Uz enc G B n c a b d X)) (hC:∀(a b lm:Nat) (d:Array α) (X:NB),b-a<m->a<=b->b<=n->d.size=n->Below (ltC c) a b d->lm<2 ^ 60->∃g Y,g.size=n/\PermIn a b d g/\SortedIn (ltC c) a b g/\∀Q,NR E false lim iz.PDQ [.slice p n cap,Vi a,Vi b,Vi lm,.func (.func cl) #[] cs.toArray] (DH enc G B d++X) Q=Q (.tuple #[]) (DH enc G B g++(X++Y))) (hm:b-a<=m) (hd:d.size=n) (S:b<=n) (N:a<=v/\v<b) (l:lm<2 ^ 60) (T:Below (ltC c) a b d) (g0:fr 0=.slice p n cap) (g1:fr 1=Vi a) (M:fr 2=Vi b) (A:fr 3=Vi lm) (u:fr 4=.func (.func cl) #[] cs.toArray) (ac:fr 10=.bool wb) (ad:fr 11=.bool wp) (w:fr 12=Vi ((b-a:Nat):Int)) (t:fr 13=Vi v) :
  PI E (aPDQ iz) lim (.code (q3 iz)::.inBlock 1::L) fr (DH enc G B d++X) (Uz enc G B n c a b d X):=by
 simp only [q3,q2,q1,tlc,unb,TD]
 have ld:=fun (i:Nat) (X:NB) (d:Array α) (hd:d.size=n) (hi:i<n)=>Yt (X:=X) (d:=d) (i:=i) hp hB (EncOk.len (enc:=enc) (z:=iz)) (by omega);have st:=fun (i:Nat) (X:NB) (d:Array α) (hd:d.size=n) (hi:i<n) (y:α)=>Yr (X:=X) (d:=d) (i:=i) (y:=y) hp hB hl (EncOk.len (enc:=enc) (z:=iz)) (by omega);have ix:=fun (i:Nat) (hi:i<n) c (k:IntKind) (H:NB)=>VT (e:=iz.e) (i:=i) (n:=n) (c:=c) (k:=k) (H:=H) hp hi
 have P:0<a->IntKind.i64.wrap ((a:Int)-1)=((a-1:Nat):Int):=fun h=>QY h (by omega)
 have i1:v<n:=by omega
 by_cases R:0<a/\¬c d[a-1]! d[v]!<0
 ·obtain ⟨R,c2⟩:=R
  have i2:a-1<n:=by omega
  have aa:=fun Q=>N08 (X:=X) (cap:=cap) (a:=a) (b:=b) (v:=v) (Q:=Q) hp hB hl V hc hd S N.1 N.2
  generalize hx:partitionEqual (ltC c) d a b v=r at aa
  obtain ⟨f,d4⟩:=r
  obtain ⟨r1,r2,r3,r4,r5⟩:=round_eq hS (partitionEqual_holds (ltC c)) R N.1 N.2 (by omega) T (by simp [ltC,c2]) hx
  have j:=P R
  simp only [WO,g0,g1,M,u,t,R,c2,j,ld,ix,Na,hd,i1,i2,hc,aa,SB,seval,NE,NJ,NF,PW,reduceCtorEq]
  exact (U f b lm wb wp d4 X _ (by omega) r2 S (by omega) r4 l (by exact g0) (by rfl) (by exact M) (by exact A) (by exact u) (by exact ac) (by exact ad)).mono fun v H' ⟨g,Y,s1,s2,o,J,K⟩=>⟨g,Y,s1,(r5 g s2 o).1,(r5 g s2 o).2,J,K⟩
 ·have s:=fun Q=>Npl (X:=X) (cap:=cap) (a:=a) (b:=b) (v:=v) (Q:=Q) hp hB hl V hc hd S N.1 N.2
  generalize hx:Sort.partition (ltC c) d a b v=r at s
  obtain ⟨f,ap,d4⟩:=r
  obtain ⟨r1,r2,r3,r4,r5,r6,r7⟩:=round_part hS (partition_holds (ltC c)) N.1 N.2 (by omega) T hx
  simp only at s
  have C:IntKind.i64.wrap ((f:Int)-(a:Int))=((f-a:Nat):Int):=QA (by omega) (by omega)
  have D:IntKind.i64.wrap ((b:Int)-(f:Int))=((b-f:Nat):Int):=QA (by omega) (by omega)
  have F:IntKind.i64.wrap ((f:Int)+1)=((f+1:Nat):Int):=NS (by omega)
  have hq:((b-a:Nat):Int).tdiv 8=(((b-a) / 8:Nat):Int):=Nbr (b:=8)
  have I:IntKind.i64.wrap (((b-a) / 8:Nat):Int)=(((b-a) / 8:Nat):Int):=QA rfl (by omega)
  have W:(0<a/\c d[a-1]! d[v]!<0)\/¬0<a:=by
   by_cases q:0<a
   ·exact .inl ⟨q,Ns fun q2=>R ⟨q,q2⟩⟩
   ·exact .inr q
  by_cases c5:f-a<b-f
  ·obtain ⟨O,Y,l1,l2,l3,l4⟩:=hC a f lm d4 X (by omega) r1 (by omega) (by omega) r4 l
   obtain ⟨k1,k2⟩:=r6 O l2 l3
   rcases W with ⟨c2,c3⟩ | c2
   ·have j:=P c2
    have i2:a-1<n:=by omega
    simp only [WO,g0,g1,M,A,u,w,t,c2,c3,j,ld,ix,Na,hd,i1,i2,hc,s,C,D,F,hq,I,c5,l4,SB,seval,NE,NJ,NF,PW,reduceCtorEq]
    exact (U (f+1) b lm (decide ((b-a) / 8<=f-a)) ap O (X++Y) _ (by omega) (by omega) S l1 k1 l (by exact g0) (by rfl) (by exact M) (by exact A) (by exact u) (by rfl) (by rfl)).mono fun v H' ⟨g,Z,s1,s2,o,J,K⟩=>⟨g,Y++Z,s1,(k2 g s2 o).1,(k2 g s2 o).2,J,by rw [K];simp⟩
   ·simp only [WO,g0,g1,M,A,u,w,t,c2,Na,s,C,D,F,hq,I,c5,l4,SB,seval,NE,NJ,NF,reduceCtorEq]
    exact (U (f+1) b lm (decide ((b-a) / 8<=f-a)) ap O (X++Y) _ (by omega) (by omega) S l1 k1 l (by exact g0) (by rfl) (by exact M) (by exact A) (by exact u) (by rfl) (by rfl)).mono fun v H' ⟨g,Z,s1,s2,o,J,K⟩=>⟨g,Y++Z,s1,(k2 g s2 o).1,(k2 g s2 o).2,J,by rw [K];simp⟩
  ·obtain ⟨O,Y,l1,l2,l3,l4⟩:=hC (f+1) b lm d4 X (by omega) (by omega) S (by omega) r5 l
   obtain ⟨k1,k2⟩:=r7 O l2 l3
   rcases W with ⟨c2,c3⟩ | c2
   ·have j:=P c2
    have i2:a-1<n:=by omega
    simp only [WO,g0,g1,M,A,u,w,t,c2,c3,j,ld,ix,Na,hd,i1,i2,hc,s,C,D,F,hq,I,c5,l4,SB,seval,NE,NJ,NF,PW,reduceCtorEq]
    exact (U a f lm (decide ((b-a) / 8<=b-f)) ap O (X++Y) _ (by omega) r1 (by omega) l1 k1 l (by exact g0) (by exact g1) (by rfl) (by exact A) (by exact u) (by rfl) (by rfl)).mono fun v H' ⟨g,Z,s1,s2,o,J,K⟩=>⟨g,Y++Z,s1,(k2 g s2 o).1,(k2 g s2 o).2,J,by rw [K];simp⟩
   ·simp only [WO,g0,g1,M,A,u,w,t,c2,Na,s,C,D,F,hq,I,c5,l4,SB,seval,NE,NJ,NF,reduceCtorEq]
    exact (U a f lm (decide ((b-a) / 8<=b-f)) ap O (X++Y) _ (by omega) r1 (by omega) l1 k1 l (by exact g0) (by exact g1) (by rfl) (by exact A) (by exact u) (by rfl) (by rfl)).mono fun v H' ⟨g,Z,s1,s2,o,J,K⟩=>⟨g,Y++Z,s1,(k2 g s2 o).1,(k2 g s2 o).2,J,by rw [K];simp⟩
theorem N3a {G X:NB} {B lim cap n:Nat} {p:Option Addr} {c:α->α->Int} {cl:FuncId} {cs:List Value} (hp:p=Sa B) (hB:B<G.length) (hl:lim<=B) (z:n<2 ^ 61) (hc:∀(mp:Bool) (lim:Nat) (x y:α) (H:NB) (Q:Value->NB->Prop),NR E mp lim cl (.agg (enc x).toArray::.agg (enc y).toArray::cs) H Q=Q (Vi (c x y)) H) (hS:SWO (ltC c)) {d:Array α} {a b v h lm m:Nat} {wb wp:Bool} {fr:Nat->Value} {L:List AItem} (S:∀(a b lm:Nat) (wb wp:Bool) (d:Array α) (X:NB) (fr:Nat->Value),b-a<m->a<=b->b<=n->d.size=n->Below (ltC c) a b d->lm<2 ^ 60->fr 0=.slice p n cap->fr 1=Vi a->fr 2=Vi b->fr 3=Vi lm->fr 4=.func (.func cl) #[] cs.toArray->fr 10=.bool wb->fr 11=.bool wp->PI E (aPDQ iz) lim L fr (DH enc G B d++X) (Uz enc G B n c a b d X)) (R:∀(a b lm:Nat) (d:Array α) (X:NB),b-a<m->a<=b->b<=n->d.size=n->Below (ltC c) a b d->lm<2 ^ 60->∃C Y,C.size=n/\PermIn a b d C/\SortedIn (ltC c) a b C/\∀Q,NR E false lim iz.PDQ [.slice p n cap,Vi a,Vi b,Vi lm,.func (.func cl) #[] cs.toArray] (DH enc G B d++X) Q=Q (.tuple #[]) (DH enc G B C++(X++Y))) (T:b-a<=m) (hd:d.size=n) (O:b<=n) (V:a<=v/\v<b) (K:lm<2 ^ 60) (W:h<=2) (g:Below (ltC c) a b d) (g0:fr 0=.slice p n cap) (g1:fr 1=Vi a) (s:fr 2=Vi b) (F:fr 3=Vi lm) (t:fr 4=.func (.func cl) #[] cs.toArray) (e:fr 10=.bool wb) (f:fr 11=.bool wp) (i:fr 12=Vi ((b-a:Nat):Int)) (j:fr 13=Vi v) (u:fr 14=Vi h) :
  PI E (aPDQ iz) lim (.code (q2 iz)::.inBlock 1::L) fr (DH enc G B d++X) (Uz enc G B n c a b d X):=by
 have I:=fun d fr hd g=>N5d (X:=X) (d:=d) (fr:=fr) (a:=a) (b:=b) (v:=v) (lm:=lm) (wb:=wb) (wp:=wp) hp hB hl z hc hS S R T hd O V K g
 by_cases N:wb=true/\wp=true/\h=1
 ·obtain ⟨rfl,rfl,rfl⟩:=N
  have k:=fun Q=>N07 (X:=X) (cap:=cap) (a:=a) (b:=b) (Q:=Q) hp hB hl z hc hd O (by omega)
  have A:=partialInsertionSort_holds hS d a b (by omega) (by omega) g
  generalize partialInsertionSort (ltC c) d a b=r at k A
  obtain ⟨D,fl⟩:=r
  obtain ⟨P3,M⟩:=A
  simp only at k P3 M
  have l:fr 14=Vi 1:=u
  have w:D.size=n:=by rw [P3.1];exact hd
  cases fl with
  | true=>
    rw [NQ Nsz];simp only [p5,hdc,tlc,unb,q1,q2,TD]
    simp only [WO,Nxp,g0,g1,s,t,e,f,l,k,SB,seval,NE,NJ,NF,reduceCtorEq]
    exact ⟨D,[],w,P3,M rfl,rfl,by simp⟩
  | false=>
    have J:=g.perm (by omega) P3
    have:=I D
    rw [NQ Nsz];simp only [p5,hdc,tlc,unb,q1,q2,TD]
    simp only [WO,g0,g1,s,t,e,f,l,k,SB,seval,NE,NJ,NF,reduceCtorEq]
    refine PI.mono (I D _ w J (by exact g0) (by exact g1) (by exact s) (by exact F) (by exact t) (by exact e) (by exact f) (by exact i) (by exact j)) fun v' H' U=>?_
    exact Uz.perm (Y:=[]) (by rw [Na];exact U) P3
 ·have o:=I d
  rw [NQ Nsz];simp only [p5,hdc,tlc,unb,q1,q2,TD]
  cases wb with
  | false=>
    simp only [WO,e,SB,seval,NJ]
    exact o _ hd g (by exact g0) (by exact g1) (by exact s) (by exact F) (by exact t) (by exact e) (by exact f) (by exact i) (by exact j)
  | true=>
    cases wp with
    | false=>
      simp only [WO,e,f,SB,seval,NJ]
      exact o _ hd g (by exact g0) (by exact g1) (by exact s) (by exact F) (by exact t) (by exact e) (by exact f) (by exact i) (by exact j)
    | true=>
      have P:¬(h:Int)=1:=fun q=>N ⟨rfl,rfl,by omega⟩
      simp only [WO,e,f,u,P,SB,seval,NJ,NF]
      exact o _ hd g (by exact g0) (by exact g1) (by exact s) (by exact F) (by exact t) (by exact e) (by exact f) (by exact i) (by exact j)
theorem N5e {G X:NB} {B lim cap n:Nat} {p:Option Addr} {c:α->α->Int} {cl:FuncId} {cs:List Value} (hp:p=Sa B) (hB:B<G.length) (hl:lim<=B) (e:n<2 ^ 61) (hc:∀(mp:Bool) (lim:Nat) (x y:α) (H:NB) (Q:Value->NB->Prop),NR E mp lim cl (.agg (enc x).toArray::.agg (enc y).toArray::cs) H Q=Q (Vi (c x y)) H) (hS:SWO (ltC c)) {d:Array α} {a b lm m:Nat} {wb wp:Bool} {fr:Nat->Value} {L:List AItem} (N:∀(a b lm:Nat) (wb wp:Bool) (d:Array α) (X:NB) (fr:Nat->Value),b-a<m->a<=b->b<=n->d.size=n->Below (ltC c) a b d->lm<2 ^ 60->fr 0=.slice p n cap->fr 1=Vi a->fr 2=Vi b->fr 3=Vi lm->fr 4=.func (.func cl) #[] cs.toArray->fr 10=.bool wb->fr 11=.bool wp->PI E (aPDQ iz) lim L fr (DH enc G B d++X) (Uz enc G B n c a b d X)) (M:∀(a b lm:Nat) (d:Array α) (X:NB),b-a<m->a<=b->b<=n->d.size=n->Below (ltC c) a b d->lm<2 ^ 60->∃q Y,q.size=n/\PermIn a b d q/\SortedIn (ltC c) a b q/\∀Q,NR E false lim iz.PDQ [.slice p n cap,Vi a,Vi b,Vi lm,.func (.func cl) #[] cs.toArray] (DH enc G B d++X) Q=Q (.tuple #[]) (DH enc G B q++(X++Y))) (O:b-a<=m) (hd:d.size=n) (u:b<=n) (z:a+12<b) (o:lm<2 ^ 60) (l:Below (ltC c) a b d) (g0:fr 0=.slice p n cap) (g1:fr 1=Vi a) (r:fr 2=Vi b) (K:fr 3=Vi lm) (t:fr 4=.func (.func cl) #[] cs.toArray) (i:fr 10=.bool wb) (j:fr 11=.bool wp) (k:fr 12=Vi ((b-a:Nat):Int)) :
  PI E (aPDQ iz) lim (.code (q1 iz)::.inBlock 1::L) fr (DH enc G B d++X) (Uz enc G B n c a b d X):=by
 obtain ⟨v,h,s,v1,v2,S,f⟩:=N2a (X:=X) (cap:=cap) (lim:=lim) hp hB hl e hc hd u z
 by_cases P:h=2
 ·subst P
  have hr:=fun Q=>N04 (X:=X++[Vc [Vi s]]) (cap:=cap) (a:=a) (b:=b) (Q:=Q) hp hB hl e hc hd u (by omega)
  have P2:=reverseRange_holds d a b (by omega) (by omega)
  generalize reverseRange d a b=J at hr P2
  have A:J.size=n:=by rw [P2.1];exact hd
  have w:=l.perm (by omega) P2
  have h2:=fun fr=>N3a (X:=X++[Vc [Vi s]]) (d:=J) (fr:=fr) (a:=a) (b:=b) (v:=b-1-(v-a)) (h:=1) (lm:=lm) (wb:=wb) (wp:=wp) hp hB hl e hc hS N M O A u (by omega) o (by omega) w
  have D:IntKind.i64.wrap ((b:Int)-1)=((b-1:Nat):Int):=QA (by omega) (by omega)
  have F:IntKind.i64.wrap ((v:Int)-(a:Int))=((v-a:Nat):Int):=QA (by omega) (by omega)
  have I:IntKind.i64.wrap (((b-1:Nat):Int)-((v-a:Nat):Int))=((b-1-(v-a):Nat):Int):=QA (by omega) (by omega)
  have g:∀Q,NR E false lim iz.CHO [.slice p n cap,Vi a,Vi b,.func (.func cl) #[] cs.toArray] (DH enc G B d++X) Q=Q (.tuple #[Vi v,Vi 2]) (DH enc G B d++(X++[Vc [Vi s]])):=f
  rw [NQ Nzw];simp only [p6,p7,hdc,tlc,unb,q1,TD]
  simp only [WO,g0,g1,r,t,g,hr,D,F,I,SB,seval,NE,NJ,NF,reduceCtorEq]
  refine PI.mono (h2 _ (by exact g0) (by exact g1) (by exact r) (by exact K) (by exact t) (by exact i) (by exact j) (by exact k) (by rfl) (by simp only [upd_same];rfl)) fun v' H' C=>?_
  exact Uz.perm C P2
 ·have R:¬(h:Int)=2:=by omega
  have h2:=fun fr=>N3a (X:=X++[Vc [Vi s]]) (d:=d) (fr:=fr) (a:=a) (b:=b) (v:=v) (h:=h) (lm:=lm) (wb:=wb) (wp:=wp) hp hB hl e hc hS N M O hd u (by omega) o (by omega) l
  rw [NQ Nzw];simp only [p6,p7,hdc,tlc,unb,q1,TD]
  simp only [WO,g0,g1,r,t,f,R,SB,seval,NE,NJ,NF]
  refine PI.mono (h2 _ (by exact g0) (by exact g1) (by exact r) (by exact K) (by exact t) (by exact i) (by exact j) (by exact k) (by rfl) (by rfl)) fun v' H' C=>?_
  exact Uz.perm C (permIn_refl _ _ _)
theorem Ns4 {G X:NB} {B lim cap n:Nat} {p:Option Addr} {c:α->α->Int} {cl:FuncId} {cs:List Value} (hp:p=Sa B) (hB:B<G.length) (hl:lim<=B) (o:n<2 ^ 61) (hc:∀(mp:Bool) (lim:Nat) (x y:α) (H:NB) (Q:Value->NB->Prop),NR E mp lim cl (.agg (enc x).toArray::.agg (enc y).toArray::cs) H Q=Q (Vi (c x y)) H) (hS:SWO (ltC c)) (J:n<65536):∀(m a b lm:Nat) (wb wp:Bool) (d:Array α) (X:NB) (fr:Nat->Value),b-a<m->a<=b->b<=n->d.size=n->Below (ltC c) a b d->lm<2 ^ 60->fr 0=.slice p n cap->fr 1=Vi a->fr 2=Vi b->fr 3=Vi lm->fr 4=.func (.func cl) #[] cs.toArray->fr 10=.bool wb->fr 11=.bool wp->
  PI E (aPDQ iz) lim (.inLoop (TD iz)::.inBlock 0::[]) fr (DH enc G B d++X) (Uz enc G B n c a b d X):=by
 intro m
 induction m with
 | zero=>intro a b lm wb wp d X fr h;omega
 | succ m ih=>
   intro a b lm wb wp d X fr R e D hd l r g0 g1 u C A j w
   have O:∀(a b lm:Nat) (d:Array α) (X:NB),b-a<m->a<=b->b<=n->d.size=n->Below (ltC c) a b d->lm<2 ^ 60->∃t Y,t.size=n/\PermIn a b d t/\SortedIn (ltC c) a b t/\∀Q,NR E false lim iz.PDQ [.slice p n cap,Vi a,Vi b,Vi lm,.func (.func cl) #[] cs.toArray] (DH enc G B d++X) Q=Q (.tuple #[]) (DH enc G B t++(X++Y)):=by
    intro a b lm d X k1 k2 k3 V W Z
    have key:NR E false lim iz.PDQ [.slice p n cap,Vi a,Vi b,Vi lm,.func (.func cl) #[] cs.toArray] (DH enc G B d++X) (Uz enc G B n c a b d X):=by
     rw [UV (E:=E) (g:=iz.PDQ) (af:=(aPDQ iz)) ((SortAt.PDQ (E:=E) (z:=iz)).2.2 _) (SortAt.PDQ (E:=E) (z:=iz)).1 (SortAt.PDQ (E:=E) (z:=iz)).2.1 rfl]
     rw [N2r,Nws]
     simp only [WO,SB,seval,NJ]
     rw [Ym,<-UU]
     exact ih a b lm true true d X _ k1 k2 k3 V W Z (by rfl) (by rfl) (by rfl) (by rfl) (by rfl) (by rfl) (by rfl)
    obtain ⟨k,v,H',U,t,Y,h1,h2,N,rfl,rfl⟩:=oneG (SortAt.dt (E:=E) (z:=iz)) key
    exact ⟨t,Y,h1,h2,N,fun Q=>NR.det U⟩
   have h1:=fun d X fr lm hd l e r=>N5e (X:=X) (d:=d) (fr:=fr) (a:=a) (b:=b) (lm:=lm) (wb:=wb) (wp:=wp) (m:=m) (L:=.inLoop (TD iz)::.inBlock 0::[]) hp hB hl o hc hS ih O (by omega) hd D e r l
   rw [UU]
   generalize (AItem.inLoop (TD iz)::[AItem.inBlock 0])=L at h1
   rw [NQ Nn8];simp only [p1,p2,p3,p4,hdc,tlc,unb,TD]
   have q:IntKind.i64.wrap ((b:Int)-(a:Int))=((b-a:Nat):Int):=QA (by omega) (by omega)
   by_cases c1:b-a<=12
   ·have f:((b-a:Nat):Int)<=12:=by omega
    have hi:=fun Q=>N1y (X:=X) (cap:=cap) (a:=a) (b:=b) (Q:=Q) hp hB hl o hc hd D e
    obtain ⟨P,S⟩:=insertionSort_holds hS d a b e (by omega)
    simp only [WO,Nxp,g0,g1,u,A,q,f,hi,SB,seval,NE,NJ,NF,reduceCtorEq]
    exact ⟨_,[],by rw [P.1];exact hd,P,S,rfl,by simp⟩
   have f:¬((b-a:Nat):Int)<=12:=by omega
   by_cases c2:lm=0
   ·have i:(lm:Int)=0:=by omega
    have hi:=fun Q=>Nyl (X:=X) (cap:=cap) (a:=a) (b:=b) (Q:=Q) hp hB hl o hc hd D e
    obtain ⟨P,S⟩:=heapSort_holds hS d a b e (by omega)
    simp only [WO,Nxp,g0,g1,u,C,A,q,f,i,hi,SB,seval,NE,NJ,NF,reduceCtorEq]
    exact ⟨_,[],by rw [P.1];exact hd,P,S,rfl,by simp⟩
   have i:¬(lm:Int)=0:=by omega
   cases wb with
   | true=>
     simp only [WO,g1,u,C,j,q,f,i,SB,seval,NJ,NF,PW]
     exact h1 d X _ lm hd l (by omega) r (by exact g0) (by exact g1) (by exact u) (by exact C) (by exact A) (by exact j) (by exact w) (by rfl)
   | false=>
     obtain ⟨d1,s,I,M,F⟩:=N2o (X:=X) (cap:=cap) (lim:=lim) hp hB hl o hc hd D (show a+12<b by omega) J
     have K:IntKind.i64.wrap ((lm:Int)-1)=((lm-1:Nat):Int):=QA (by omega) (by omega)
     simp only [WO,g0,g1,u,C,A,j,q,f,i,F,K,SB,seval,NE,NJ,NF,PW,reduceCtorEq]
     refine PI.mono (h1 d1 (X++[Vc [.int .u64 s]]) _ (lm-1) I (l.perm (by omega) M) (by omega) (by omega) (by exact g0) (by exact g1) (by exact u) (by rfl) (by exact A) (by exact j) (by exact w) (by rfl)) fun v' H' T=>?_
     exact Uz.perm T M
variable {E:Env} {iz:Ids} [DT E E] [SortAt E iz] {α:Type} [Inhabited α] {enc:α->List Value} [EncOk enc iz]
theorem Nnk {mp:Bool} {lim:Nat} {H:NB} {Q:Value->NB->Prop}:NR E mp lim iz.LEN [.int .u64 0] H Q=Q (Vi 0) H:=by
 have key:∀(mp:Bool) (lim:Nat) (H:NB) (Q:Value->NB->Prop),NR E mp lim iz.LEN64 [.int .u64 0] H Q=Q (Vi 0) H:=by
  intro mp lim H Q
  refine pcG (SortAt.LEN64 (E:=E) (z:=iz)) rfl ?_
  rw [Nmd,Nc8]
  have a:IntKind.u8.wrap 0=0:=by decide
  have b:IntKind.i64.wrap 0=0:=by decide
  simp only [Nlb,Nkl,a,b,Int.toNat_zero,O8,Nz,UInt8.toNat_ofNat,Nat.reduceMod,Nat.reducePow,Qu,Ox,SB,seval,NJ,NF,reduceCtorEq,NH,NG]
 refine pcG (SortAt.LEN (E:=E) (z:=iz)) rfl ?_
 rw [N32,Nza]
 simp only [N3n,N25,key,SB,seval,NE,NJ,reduceCtorEq,NH,NG]
theorem Nh4 {G X:NB} {B lim cap n:Nat} {p:Option Addr} {c:α->α->Int} {cl:FuncId} {cs:List Value} (hp:p=Sa B) (hB:B<G.length) (hl:lim<=B) (f:n<2 ^ 61) (hc:∀(mp:Bool) (lim:Nat) (x y:α) (H:NB) (Q:Value->NB->Prop),NR E mp lim cl (.agg (enc x).toArray::.agg (enc y).toArray::cs) H Q=Q (Vi (c x y)) H) (hS:SWO (ltC c)) (h:n<65536) {d:Array α} {lm:Nat} (hd:d.size=n) (e:lm<2 ^ 60) :
  ∃a Y,a.size=n/\PermIn 0 n d a/\SortedIn (ltC c) 0 n a/\∀Q,NR E false lim iz.PDQ [.slice p n cap,Vi 0,Vi n,Vi lm,.func (.func cl) #[] cs.toArray] (DH enc G B d++X) Q=Q (.tuple #[]) (DH enc G B a++(X++Y)):=by
 have b:Below (ltC c) 0 n d:=by simp [Below]
 have key:NR E false lim iz.PDQ [.slice p n cap,Vi 0,Vi n,Vi lm,.func (.func cl) #[] cs.toArray] (DH enc G B d++X) (Uz enc G B n c 0 n d X):=by
  rw [UV (E:=E) (g:=iz.PDQ) (af:=(aPDQ iz)) ((SortAt.PDQ (E:=E) (z:=iz)).2.2 _) (SortAt.PDQ (E:=E) (z:=iz)).1 (SortAt.PDQ (E:=E) (z:=iz)).2.1 rfl]
  rw [N2r,Nws]
  simp only [WO,SB,seval,NJ]
  rw [Ym,<-UU]
  exact Ns4 (X:=X) (cap:=cap) hp hB hl f hc hS h (n+1) 0 n lm true true d X _ (by omega) (by omega) (by omega) hd b e rfl (by simp only [Qu,FB,Nat.reduceEqDiff]) rfl rfl rfl rfl rfl
 obtain ⟨k,v,H',j,a,Y,h1,h2,i,rfl,rfl⟩:=oneG (SortAt.dt (E:=E) (z:=iz)) key
 exact ⟨a,Y,h1,h2,i,fun Q=>NR.det j⟩
theorem sort_ok {G X:NB} {B lim cap n:Nat} {p:Option Addr} {c:α->α->Int} {cl:FuncId} {cs:List Value} (hp:p=Sa B) (hB:B<G.length) (hl:lim<=B) (e:n<2 ^ 61) (hc:∀(mp:Bool) (lim:Nat) (x y:α) (H:NB) (Q:Value->NB->Prop),NR E mp lim cl (.agg (enc x).toArray::.agg (enc y).toArray::cs) H Q=Q (Vi (c x y)) H) (hS:SWO (ltC c)) (b:n<65536) {d:Array α} (hd:d.size=n) :
  ∃a Y,a.size=n/\PermIn 0 n d a/\SortedIn (ltC c) 0 n a/\∀Q,NR E false lim iz.SORT [.slice p n cap,.func (.func cl) #[] cs.toArray] (DH enc G B d++X) Q=Q (.tuple #[]) (DH enc G B a++(X++Y)):=by
 have key:NR E false lim iz.SORT [.slice p n cap,.func (.func cl) #[] cs.toArray] (DH enc G B d++X) (Uz enc G B n c 0 n d X):=by
  rw [UV (E:=E) (g:=iz.SORT) (af:=(aSORT iz)) ((SortAt.SORT (E:=E) (z:=iz)).2.2 _) (SortAt.SORT (E:=E) (z:=iz)).1 (SortAt.SORT (E:=E) (z:=iz)).2.1 rfl]
  rw [N0u,Nn7]
  have q:IntKind.u64.wrap (n:Int)=(n:Int):=by rw [wrap64];omega
  by_cases i:n=0
  ·subst i
   obtain ⟨a,Y,k1,k2,k3,f⟩:=Nh4 (X:=X) (lm:=0) (cap:=cap) hp hB hl e hc hS b hd (by omega)
   have h:∀Q,NR E false lim iz.PDQ [.slice p 0 cap,Vi 0,Vi 0,Vi 0,.func (.func cl) #[] cs.toArray] (DH enc G B d++X) Q=Q (.tuple #[]) (DH enc G B a++(X++Y)):=f
   have o:IntKind.u64.wrap 0=0:=by decide
   simp only [Ntv,Nsy,o,Nnk,h,SB,seval,NE,NJ,reduceCtorEq,NH]
   exact ⟨_,_,k1,k2,k3,rfl,rfl⟩
  ·obtain ⟨L,l1,r,s,m⟩:=Nt4 (E:=E) (iz:=iz) (x:=n) b (by omega)
   obtain ⟨a,Y,k1,k2,k3,f⟩:=Nh4 (X:=X) (lm:=L) (cap:=cap) hp hB hl e hc hS b hd (by omega)
   simp only [Ntv,Nsy,q,m,f,SB,seval,NE,NJ,reduceCtorEq,NH]
   exact ⟨_,_,k1,k2,k3,rfl,rfl⟩
 obtain ⟨k,v,H',l,a,Y,h1,h2,j,rfl,rfl⟩:=oneG (SortAt.dt (E:=E) (z:=iz)) key
 exact ⟨a,Y,h1,h2,j,fun Q=>NR.det l⟩
theorem sort_nil {lim cap:Nat} {p:Option Addr} {cl:FuncId} {cs:List Value} {H:NB} {Q:Value->NB->Prop}:NR E false lim iz.SORT [.slice p 0 cap,.func (.func cl) #[] cs.toArray] H Q=Q (.tuple #[]) H:=by
 have hi:∀Q,NR E false lim iz.INS [.slice p 0 cap,Vi 0,Vi 0,.func (.func cl) #[] cs.toArray] H Q=Q (.tuple #[]) H:=by
  intro Q
  refine runs (SortAt.INS (E:=E) (z:=iz)) ?_
  rw [N33,Nzb]
  have a:IntKind.i64.wrap 1=1:=by decide
  simp only [Niq,a,Qp,SB,seval,NJ,NF,NH]
  rw [Ym,NQ (Nlo.eq_1 iz)]
  simp only [Niq,N26,SB,seval,NJ,NF,NH]
 have b:∀Q,NR E false lim iz.PDQ [.slice p 0 cap,Vi 0,Vi 0,Vi 0,.func (.func cl) #[] cs.toArray] H Q=Q (.tuple #[]) H:=by
  intro Q
  refine runs (SortAt.PDQ (E:=E) (z:=iz)) ?_
  rw [N2r,Nws]
  simp only [WO,SB,seval,NJ]
  rw [Ym,NQ Nn8]
  simp only [p1,p2,hdc,tlc,unb,TD]
  have a:IntKind.i64.wrap 0=0:=by decide
  simp only [WO,Nxp,a,hi,Int.sub_self,SB,seval,NE,NJ,NF,reduceCtorEq,NH]
 refine runs (SortAt.SORT (E:=E) (z:=iz)) ?_
 rw [N0u,Nn7]
 have c:IntKind.u64.wrap 0=0:=by decide
 simp only [Ntv,Nsy,c,Nnk,b,SB,seval,NE,NJ,reduceCtorEq,NH]
end Go.AM.Srt


namespace Go.Proofs.YtohnaffmcjbpoaaGreat.Fn
open Go.AM Go.AM.Sym Go.Net Go.Flow Go.Sort
theorem kn [OB] [OB] {g:FuncId} {af:AFunc} {p:Bool} (h1:tr g=some af) (h2:pf g=p) (a:g≠7/\g≠999):Srt.Knows E g af p:=⟨h1,h2,fun as=>by simp [E,orc,a]⟩
instance sortP [OB]:Srt.SortAt E zP:=⟨rfl,kn rfl rfl (by decide),kn rfl rfl (by decide),kn rfl rfl (by decide),kn rfl rfl (by decide),kn rfl rfl (by decide),kn rfl rfl (by decide),kn rfl rfl (by decide),kn rfl rfl (by decide),kn rfl rfl (by decide),kn rfl rfl (by decide),kn rfl rfl (by decide),kn rfl rfl (by decide),kn rfl rfl (by decide),kn rfl rfl (by decide),kn rfl rfl (by decide),kn rfl rfl (by decide),kn rfl rfl (by decide),kn rfl rfl (by decide)⟩
instance encP:Srt.EncOk enc2 zP:=⟨fun _=>rfl⟩
instance (a b:Int×Int):Decidable (Vm a b):=by unfold Vm;infer_instance
def Nq8 (a b:Int×Int):Int:=orL [UE a.1 b.1,UE a.2 b.2]
theorem Ny6 [OB] (mp:Bool) (lim:Nat) (a b:Int×Int) (H:NB) (Q:Value->NB->Prop):NR E mp lim 85 [.agg (enc2 a).toArray,.agg (enc2 b).toArray] H Q=Q (Vi (Nq8 a b)) H:=by
 refine pc (by decide) e85 rfl rfl ?_
 rw [b85,c85]
 simp only [n85,r85,enc2,Nl5,Nkv,Wv,WB,Wh,Zc,XU,YZ,Nat.reducePow,SB,seval,NE,NJ,NH,place,NA,NG]
 rfl
theorem Zo {a b:Int} (h:a<b):UE a b=-1:=Nk h
theorem Zn {a b:Int} (h:b<a):UE a b=1:=by unfold UE;rw [Nf (by omega),Nk h]
theorem Zp {a b:Int} (h:a=b):UE a b=0:=by unfold UE;rw [Nf (by omega),Nf (by omega)]
theorem Nbg {a b:Int×Int}:Srt.ltC Nq8 a b=decide (Vm a b):=by
 unfold Srt.ltC
 have e:Nq8 a b<0↔Vm a b:=by
  have e0:Nq8 a b=if UE a.1 b.1≠0 then UE a.1 b.1 else if UE a.2 b.2≠0 then UE a.2 b.2 else 0:=rfl
  rw [e0]
  unfold Vm
  rcases Qh a.1 b.1 with h | h | h
  ·rw [Zo h];simp [h]
  ·rw [Zp h]
   rcases Qh a.2 b.2 with h2 | h2 | h2
   ·rw [Zo h2];simp [h,h2]
   ·rw [Zp h2];simp [h,h2]
   ·rw [Zn h2];simp [h];omega
  ·rw [Zn h];simp;omega
 rw [Rb,N3,N3]
 exact e
theorem Nwo:SWO (Srt.ltC Nq8):=by
 refine ⟨fun x=>?_,fun x y z h1 h2=>?_,fun x y z h1 h2=>?_⟩
 ·rw [Nbg];simp [Vm]
 ·rw [Nbg,N3] at h1 h2⊢
  unfold Vm at *;omega
 ·rw [Nbg,decide_eq_false_iff_not] at h1 h2⊢
  unfold Vm at *;omega
section
variable {α:Type} [Inhabited α]
theorem Nj2 {enc:α->List Value} {G:NB} {B:Nat} {l:List α} (hB:NC G B=Vc (l.flatMap enc)):DH enc G B l.toArray=G:=by
 have hl:=ND hB
 unfold DH
 apply Qo
 ·simp
 intro i h1 h2
 rw [List.getElem_set]
 split
 ·rename_i e;subst e
  unfold NC at hB
  rw [Nc,Np hl] at hB
  exact hB.symm
 ·rfl
theorem Nce {n:Nat} {d b:Array α} (hd:d.size=n) (h:PermIn 0 n d b):b.toList.Perm d.toList:=by
 obtain ⟨h1,h2,a⟩:=h
 subst hd
 rw [Array.extract_size] at a
 rw [<-h1,Array.extract_size] at a
 exact a
end
theorem Nsn [OB] {lim cp:Nat} {pp:Option Addr} {lo:Nat} {PL:List (Int×Int)} {G:NB} {Q:Value->NB->Prop} (z:Own lo G enc2 2 pp cp PL) (A:lim<=lo) (hn:PL.length<65536) (r:PL.Nodup)
  (t:∀G' SL,Own lo G' enc2 2 pp cp SL->SL.Perm PL->SL.Pairwise Vm->(∀b,b<G.length->b∉PZ pp->NC G' b=NC G b)->G.length<=G'.length->Q (.tuple #[]) G') :
  NR E false lim 84 [.slice pp PL.length cp,.func (.func 85) #[] #[]] G Q:=by
 rcases z with ⟨v,rfl,rfl⟩ | ⟨R,rfl,rfl,o,q⟩
 ·subst v
  have C:NR E false lim 84 [Vz,.func (.func 85) #[] #[]] G Q=Q (.tuple #[]) G:=Srt.sort_nil (iz:=zP) (cs:=[])
  rw [Nl,C]
  exact t G [] .nil (List.Perm.refl _) List.Pairwise.nil (fun _ _ _=>rfl) (Ng _)
 ·obtain ⟨d,Y,h1,h2,w,l⟩:=Srt.sort_ok (E:=E) (iz:=zP) (enc:=enc2) (X:=[]) (G:=G) (B:=R) (lim:=lim) (cap:=loose 2) (n:=PL.length) (p:=Sa R) (c:=Nq8) (cl:=85) (cs:=[]) rfl (ND o) (by omega) (by omega) (fun mp lim x y H Q=>Ny6 mp lim x y H Q) Nwo (by omega) (d:=PL.toArray) (by simp)
  rw [Nj2 o] at l
  have hp:d.toList.Perm PL:=Nce (d:=PL.toArray) (n:=PL.length) (by simp) h2
  simp only [Ob,Na] at l
  have m:NR E false lim 84 [.slice (Sa R) PL.length (loose 2),.func (.func 85) #[] #[]] G Q=Q (.tuple #[]) (DH enc2 G R d++Y):=l Q
  rw [m]
  have f:=ND o
  have k:Mut G (DH enc2 G R d) R:=⟨by simp [DH],fun j h=>OQ h⟩
  refine t _ d.toList (.inr ⟨R,rfl,rfl, ?_,q⟩) hp ?_ (fun b D hn=>?_) (by have:=k.len;simp;omega)
  ·rw [NK (by have:=k.len;omega)]
   have:=Ndy (X:=[]) (enc:=enc2) (d:=d) f
   rw [Na] at this
   exact this
  ·rw [N5]
   intro i j hi h g
   have q1:=w i j (Nv _) g (by simpa [h1] using h)
   rw [Nbg] at q1
   have e1:d[i]! = d.toList[i]:=by rw [getElem!_pos d i (by simpa using hi)];simp
   have e2:d[j]! = d.toList[j]:=by rw [getElem!_pos d j (by simpa using h)];simp
   rw [e1,e2] at q1
   have s:d.toList[i]≠d.toList[j]:=fun e=>by
    have:=(N5.1 (hp.nodup_iff.2 r)) i j hi h g
    exact this e
   rw [decide_eq_false_iff_not] at q1
   unfold Vm at q1
   have u:¬(d.toList[i].1=d.toList[j].1/\d.toList[i].2=d.toList[j].2):=fun ⟨a,b⟩=>s (R4 a b)
   unfold Vm;omega
  ·rw [NK (by have:=k.len;omega)]
   exact k.other b fun e=>hn (NT.2 ⟨_,rfl,e.symm⟩)
end Go.Proofs.YtohnaffmcjbpoaaGreat.Fn


namespace Go.Proofs.YtohnaffmcjbpoaaGreat.Fn
open Go.AM Go.AM.Sym Go.Net Go.Flow
theorem Nap:∀(l:List (Int×Int)) (a b:Int×Int) (k:Nat),PG (l++[a,b]) k=PG (l++[a]) k++if a.1=b.1 then [⟨k+l.length+1,k+l.length,VW,0⟩] else []
 | [],a,b,k=>by simp [PG]
 | [x],a,b,k=>by
   simp only [Oc,Ob,PG,Na,Nj,Nl,N0]
 | x::y::l,a,b,k=>by
   have ih:=Nap (y::l) a b (k+1)
   simp only [Oc] at ih⊢
   rw [PG,PG,ih,Nr]
   simp only [Nj]
   rw [show k+1+(l.length+1)=k+(l.length+1+1) by omega]
theorem Nao {SL:List (Int×Int)} {i:Nat} (a:0<i) (hi:i<SL.length):PG (SL.take (i+1)) 2=PG (SL.take i) 2++if (gt SL (i-1)).1=(gt SL i).1 then [⟨i+2,i+1,VW,0⟩] else []:=by
 obtain ⟨m,rfl⟩:∃m,i=m+1:=⟨i-1,by omega⟩
 have e1:SL.take (m+1+1)=SL.take m++[gt SL m,gt SL (m+1)]:=by
  rw [Pu hi,Pu (by omega),Nr,OJ hi,OJ (by omega)];rfl
 have e2:SL.take (m+1)=SL.take m++[gt SL m]:=by rw [Pu (by omega),OJ (by omega)]
 rw [e1,e2,Nap,N6,Pa (by omega)]
 simp only [Rf]
 congr 1
 split<;>simp<;>omega
theorem Nl9 {SL:List (Int×Int)}:PG (SL.take 1) 2=[]:=by
 cases SL with
 | nil=>rfl
 | cons a l=>rfl
theorem XX {out:List (List Nat)} {f t i v:Nat} (a:f<out.length) (b:t<out.length):(gt (Vg out f t i) v).length<=(gt out v).length+2:=by
 unfold Vg
 rw [gt_set (by simpa using b),gt_set a,gt_set a]
 split<;>split<;>(try split)<;>simp<;>(try subst_vars)<;>(try simp)<;>omega
def Nof (SL:List (Int×Int)) (es:List ((Int×Int)×Int)):Prop:=∀j,j<SL.length->TK (gt SL j) es=some ((j+2:Nat):Int)
theorem JS.keep {A Bo:Nat} {X:List Nat} {G G':NB} {vp vm v4 v5 vw vmost:Value} {pa:Option Addr} {ca co:Nat} {ols:List Yo} {out:List (List Nat)} {l:List Pr} (h:JS A Bo X G vp vm v4 v5 vw vmost pa ca co ols out l) (c:∀b,b=A\/Bo<=b->b<G.length->NC G' b=NC G b) (hl:G.length<=G'.length):JS A Bo X G' vp vm v4 v5 vw vmost pa ca co ols out l:=by
 have d:=ND h.hdr
 have e:=ND h.os.ou
 refine ⟨(c A (.inl rfl) d).trans h.hdr,RN h.ar fun a f=>?_,h.os.sim (c Bo (.inr (Ng _)) e) (fun u a g f=>?_) hl,h.ab,h.ax⟩
 ·have:=h.ar.block f
  exact c _ (.inr (by omega)) this.2
 ·have:=(h.os.us u g).1.block f
  exact c _ (.inr (by omega)) this.2
theorem Nqt {κ ν:Type} [DecidableEq κ] {k:κ} {l:List (κ×ν)} (h:TK k l≠none):∃j v,fk k l 0=some (j,v):=by
 have:=Wz k l 0
 cases hf:fk k l 0 with
 | none=>rw [hf] at this;exact absurd this.symm h
 | some x=>exact ⟨x.1,x.2,rfl⟩
theorem Ns6 [OB] {lim A M:Nat} {X:List Nat} {G:NB} {pp:Option Addr} {cp:Nat} {v2 v3 v4 v5 vw vmost:Value} {PL:List (Int×Int)} {Q:Value->NB->Prop} (h:PS A M X G pp cp [Vz,v3,v4,v5,vw,vmost] PL) (cj:lim<=M) (hl:PL.length<60000)
  (hQ:∀G' aj ao SL Bo pa ca co ols out es,JS A Bo [] G' (.slice aj SL.length ao) (.map (some M)) v4 v5 vw vmost pa ca co ols out (PG SL 2)->SL.Perm PL->SL.Pairwise Vm->OutOk (PG SL 2) out->out.length=SL.length+2->(∀v,(gt out v).length<=2*(PG SL 2).length)->(PG SL 2).length<=SL.length->Own (A+1) G' enc2 2 aj ao SL->(∀a,aj=some a->a.block<Bo)->G.length<=Bo->NC G' M=.map (Sz kM vI es)->Nof SL es->(∀b∈X,NC G' b=NC G b)->G.length<=G'.length->Q (.tuple #[]) G') :
  NR E false lim 60 [Vp A] G Q:=by
 refine Te (by decide) e60 rfl ?_
 rw [b60,c60]
 have ck:=h.ma
 have ba:=fun X=>(NZ.refl.app (X:=X)).cells h.hdr
 simp only [n60,ba,SB,Nat.reduceLT,NE,NJ,NH]
 rw [Na]
 refine Nsn h.own (by omega) (by omega) h.nd fun G1 SL O1 y L ae cf=>?_
 have bm:SL.length=PL.length:=y.length_eq
 have bg:=ND h.hdr
 have aq:M<G.length:=by omega
 have nA:A∉PZ pp:=fun hm=>by obtain ⟨a,m,e⟩:=NT.1 hm;have:=(h.own.block m).1;omega
 have nM:M∉PZ pp:=fun hm=>by obtain ⟨a,m,e⟩:=NT.1 hm;have:=(h.own.block m).1;omega
 have V:=(ae A bg nA).trans h.hdr
 rw [<-bm] at V
 have b6:=(ae M aq nM).trans h.mp
 have am:=fun X=>(NZ.refl.app (X:=X)).cells V
 have w2:IntKind.i64.wrap ((SL.length:Int)+2)=((SL.length+2:Nat):Int):=NS (by omega)
 have bz:=Nq (show 0<=((SL.length+2:Nat):Int)/\((SL.length+2:Nat):Int)*24<=2 ^ 45/\((SL.length+2:Nat):Int)<2 ^ 62 by omega)
 obtain ⟨G2,e2,k2,m2⟩:=OO (ND V) (Vc [.slice pp SL.length cp,.map (some M),Vz,.slice (Sa G1.length) (SL.length+2) (SL.length+2),v4,v5,vw,vmost])
 have a3:=fun X=>(NZ.refl.app (X:=X)).cells k2
 refine NI ?_
 simp only [n60,am,w2,bz,Nnh,show lim<=A by omega,e2,a3,SB,Nat.reduceLT,NJ,Nat.reduceEqDiff,NF,reduceCtorEq,NH,place,NA,Nat.reduceAdd,Nat.reduceLeDiff]
 obtain ⟨Bo,ap⟩:∃Bo,Bo=G1.length:=⟨_,rfl⟩
 rw [<-ap] at k2 a3
 have bd:=m2.len
 have bf:A<Bo:=by omega
 have a0:List.replicate (SL.length+2) (Value.slice none 0 0)=(List.replicate (SL.length+2) ((none,0,0):Yo)).flatMap Ncw:=by
  generalize SL.length+2=n
  induction n with
  | zero=>rfl
  | succ n ih=>rw [O9,O9,N2,<-ih];rfl
 have aw:∀v,v<SL.length+2->gt (List.replicate (SL.length+2) ((none,0,0):Yo)) v=(none,0,0):=fun v hv=>by rw [OJ (by simpa using hv)];simp
 have av:∀v,gt (List.replicate (SL.length+2) ([]:List Nat)) v=[]:=fun v=>by
  unfold gt
  rw [Nc,P0];split<;>rfl
 have T:∀b,b<G.length->b≠A->b∉PZ pp->NC (G2++[Vc (List.replicate (SL.length+2) (Value.slice none 0 0))]) b=NC G b:=fun b g br bu=>by
  rw [NK (by omega),m2.other b br,ae b g bu]
 have ai:JS A Bo [] (G2++[Vc (List.replicate (SL.length+2) (Value.slice none 0 0))]) (.slice pp SL.length cp) (.map (some M)) v4 v5 vw vmost none 0 (SL.length+2) (List.replicate (SL.length+2) (none,0,0)) (List.replicate (SL.length+2) []) (PG (SL.take 0) 2):=by
  refine ⟨?_,.nil,⟨?_,fun v hv=>?_,by simp,fun u v a b hu hv cm m g=>?_,fun b g=>by simp [PZ] at g⟩,bf,fun b g=>by cases g⟩
  ·rw [Oy]
   exact (NZ.refl.app).cells k2
  ·rw [<-a0,ap,<-bd,NN];rfl
  ·rw [Oy] at hv
   rw [aw v hv,av]
   exact ⟨.nil,rfl⟩
  ·rw [Oy] at hu
   rw [aw u hu] at m;cases m
 have O3:Own (A+1) (G2++[Vc (List.replicate (SL.length+2) (Value.slice none 0 0))]) enc2 2 pp cp SL:=(O1.mut m2 fun a m e=>by have:=(O1.block m).1;omega).app _
 have a2:∀a,pp=some a->a.block<Bo/\a.block≠A:=fun a m=>by have:=O1.block m;omega
 have bb:NC (G2++[Vc (List.replicate (SL.length+2) (Value.slice none 0 0))]) M=.map (Sz kM vI (esZ PL)):=by rw [T M aq (by omega) nM];exact h.mp
 have bo:∀b∈X,NC (G2++[Vc (List.replicate (SL.length+2) (Value.slice none 0 0))]) b=NC G b:=fun b g=>by
  obtain ⟨x1,x2,x3,x4⟩:=h.sx b g
  exact T b x1 x2 x4
 generalize G2++[Vc (List.replicate (SL.length+2) (Value.slice none 0 0))]=G3 at *
 refine NM (fun s:Nat×(Option Addr×Nat)×(List Yo×List (List Nat))×List ((Int×Int)×Int)=>SL.length-s.1) (fun s fr G'=>s.1<=SL.length/\fr 0=Vp A/\fr 22=.slice pp SL.length cp/\fr 23=Vi SL.length/\fr 24=Vi s.1/\JS A Bo [] G' (.slice pp SL.length cp) (.map (some M)) v4 v5 vw vmost s.2.1.1 s.2.1.2 (SL.length+2) s.2.2.1.1 s.2.2.1.2 (PG (SL.take s.1) 2)/\
   OutOk (PG (SL.take s.1) 2) s.2.2.1.2/\s.2.2.1.2.length=SL.length+2/\(∀v,(gt s.2.2.1.2 v).length<=2*(PG (SL.take s.1) 2).length)/\(PG (SL.take s.1) 2).length<=s.1/\Own (A+1) G' enc2 2 pp cp SL/\NC G' M=.map (Sz kM vI s.2.2.2)/\(∀j,j<s.1->TK (gt SL j) s.2.2.2=some ((j+2:Nat):Int))/\(∀j,j<SL.length->TK (gt SL j) s.2.2.2≠none)/\(∀b∈X,NC G' b=NC G b)/\G.length<=G'.length)
  (0,(none,0),(List.replicate (SL.length+2) (none,0,0),List.replicate (SL.length+2) []),esZ PL)
  ⟨Nv _,rfl,rfl,rfl,by rfl,ai,.none,by simp,fun v=>by rw [av];simp,by simp [PG],O3,bb,fun j hj=>by omega,fun j hj=>?_,bo,by have:=ND ai.hdr;have:=ND ai.os.ou;omega⟩ ?_
 ·rw [Nbd,Nk (y.mem_iff.1 (PK hj))];simp
 rintro ⟨i,⟨pa,ca⟩,⟨ols,out⟩,es⟩ fr G' ⟨hi,f0,C,p,D,P,l,K,w,ad,H,aa,J,z,hX,ci⟩ hN
 simp only at hi D P l K w ad aa J z
 rw [NQ Nz8.eq_1]
 refine NI ?_
 by_cases d:i<SL.length
 case neg=>
  obtain rfl:i=SL.length:=by omega
  rw [Of] at P l w ad
  simp only [n60,r60,p,D,d,SB,Nat.reduceLT,NJ,NF]
  have bh:=ND P.os.ou
  exact hQ _ pp cp SL Bo pa ca _ ols out es (P.keep (fun b _ g=>NK g) (by simp)) y L l K w ad (H.app _) (fun a m=>(a2 a m).1) (by omega) (by rw [NK (by omega)];exact aa) J (fun b g=>by rw [NK (by have:=(h.sx b g).1;omega)];exact hX b g) (by simp;omega)
 have ce:gt SL i∈SL:=PK d
 have ak:=H.sl PO
 have lS:∀X,AM.loadCells (G'++X) (SX pp 2 i) 2=some [Vi (gt SL i).1,Vi (gt SL i).2]:=fun X=>by rw [(ak.app X).loadCells PO d];rfl
 have xS:=QN ak d rfl
 have F:=fun X=>(NZ.refl.app (X:=X)).cells P.hdr
 have S:M<G'.length:=by omega
 have bh:=ND P.os.ou
 have b5:=ND P.hdr
 have W:∀X,NC (G'++X) M=.map (Sz kM vI es):=fun X=>by rw [NK S];exact aa
 obtain ⟨j,v,hj⟩:=Nqt (z i d)
 have I:findKey (.agg #[Vi (gt SL i).1,Vi (gt SL i).2]) (Sz kM vI es) 0=some ((fk (gt SL i) es 0).map fun x=>(x.1,vI x.2)):=TM (vv:=vI) Nvl (gt SL i) es 0
 rw [hj] at I
 simp only [Nz] at I
 have ah:TW (.ints [.i64,.i64]) (.agg #[Vi (gt SL i).1,Vi (gt SL i).2])=true:=Nvk (k:=gt SL i)
 obtain ⟨G4,e4,k4,m4⟩:=OO S (.map ((Sz kM vI es).set j (.agg #[Vi (gt SL i).1,Vi (gt SL i).2],Vi ((i+2:Nat):Int))))
 have w3:IntKind.i64.wrap ((i:Int)+2)=((i+2:Nat):Int):=NS (by omega)
 have w4:IntKind.i64.wrap ((i:Int)+1)=((i+1:Nat):Int):=NS (by omega)
 have be:=m4.len
 have an:∀x X,NC (G4++x::X) G'.length=x:=fun x X=>by rw [<-be,NN];rfl
 have b8:G.length<=Bo:=by omega
 have a1:∀a,pp=some a->a.block≠M:=fun a m=>by have:=(H.block m).1;omega
 obtain ⟨U,q⟩:∃U,U=G4++[Vc [Value.int IntKind.i64 (gt SL i).1,Value.int IntKind.i64 (gt SL i).2]]:=⟨_,rfl⟩
 have bx:G'.length<=U.length:=by rw [q];simp;omega
 have N:∀b,b<G'.length->b≠M->NC U b=NC G' b:=fun b g bt=>by rw [q,NK (by omega),m4.other b bt]
 have Y:=P.keep (G':=U) (fun b g bq=>N b bq (by omega)) bx
 have B:=RN H fun a m=>N a.block (H.block m).2 (a1 a m)
 have Z:NC U M=.map (Sz kM vI (XE (gt SL i) ((i+2:Nat):Int) es)):=by
  rw [q,NK (by omega),k4,<-(Ngu (v':=((i+2:Nat):Int)) hj).2.2]
  simp [Sz,List.map_set,kM,vI]
 have ac:∀b∈X,NC U b=NC G b:=fun b g=>by
  obtain ⟨x1,x2,x3,x4⟩:=h.sx b g
  rw [N b (by omega) x3];exact hX b g
 have b0:∀j,j<i->gt SL j≠gt SL i:=fun j az e=>by
  have hp:=N5.1 L j i (by omega) d az
  rw [<-OJ,<-OJ,e] at hp
  unfold Vm at hp;omega
 have r:∀j,j<i+1->TK (gt SL j) (XE (gt SL i) ((i+2:Nat):Int) es)=some ((j+2:Nat):Int):=fun j az=>by
  rw [Ya]
  by_cases ay:j=i
  ·subst ay;rw [Nk rfl]
  ·rw [Nf (b0 j (by omega))];exact J j (by omega)
 have o:∀j,j<SL.length->TK (gt SL j) (XE (gt SL i) ((i+2:Nat):Int) es)≠none:=fun j bw=>by
  rw [Ya];split
  ·simp
  ·exact z j bw
 have R:=fun X=>(NZ.refl.app (X:=X)).cells ((m4.other A (by omega)).trans P.hdr)
 by_cases h0:0<i
 case neg=>
  have O:¬(0:Int)<(i:Int):=by omega
  have c:PG (SL.take (i+1)) 2=PG (SL.take i) 2:=by
   obtain rfl:i=0:=by omega
   rw [Nl9];rfl
  simp only [n60,f0,C,p,D,d,lS,xS,F,W,I,ah,e4,w3,w4,show lim<=M by omega,show lim<=G'.length by omega,O,SB,Nat.reduceLT,NJ,Nat.reduceEqDiff,NF,reduceCtorEq,place,NA,Nat.reduceAdd]
  rw [<-q]
  exact hN (i+1,(pa,ca),(ols,out),XE (gt SL i) ((i+2:Nat):Int) es) _ _ ⟨by show i+1<=_;omega,f0,C,p,rfl,by rw [c];exact Y,by rw [c];exact l,K,by rw [c];exact w,by rw [c];show _<=i+1;omega,B,Z,r,o,ac,by omega⟩ (by show SL.length-(i+1)<SL.length-i;omega)
 have O:(0:Int)<(i:Int):=by omega
 have b3:=B.sl PO
 have a5:AM.loadCell (G4++[Vc [Value.int IntKind.i64 (gt SL i).1,Value.int IntKind.i64 (gt SL i).2]]) ((SX pp 2 (i-1)).add 0)=some (Vi (gt SL (i-1)).1):=by
  rw [<-q,b3.loadCell PO (by omega) (by decide)];rfl
 have a8:=QN (i:=i-1) ak (show i-1<SL.length by omega) rfl
 have w5:IntKind.i64.wrap ((i:Int)-1)=((i-1:Nat):Int):=by rw [NY (by omega) (by omega)];omega
 by_cases hs:(gt SL (i-1)).1=(gt SL i).1
 ·have c:PG (SL.take (i+1)) 2=PG (SL.take i) 2++[⟨i+2,i+1,VW,0⟩]:=by rw [Nao h0 d,Nk hs]
  simp only [n60,f0,C,p,D,d,lS,xS,F,W,I,ah,e4,w3,w4,show lim<=M by omega,show lim<=G'.length by omega,an,O,R,a5,a8,w5,hs,SB,Nat.reduceLT,NE,NJ,Nat.reduceEqDiff,NF,reduceCtorEq,place,NA,Nat.reduceAdd]
  rw [<-q]
  refine Ngr (f:=i+1) (t:=i+2) Y (by omega) (by omega) (by omega) (fun v=>by have:=w v;omega) (by omega) fun G7 b2 bc a6 bk ag cg=>?_
  have bl:=(ag M (.inl ⟨by omega,by omega⟩)).trans Z
  have au:=RN B fun a m=>ag a.block (.inl (a2 a m))
  have bp:∀b∈X,NC G7 b=NC G b:=fun b g=>by
   obtain ⟨x1,x2,x3,x4⟩:=h.sx b g
   rw [ag b (.inl ⟨by omega,x2⟩)];exact ac b g
  simp only [n60,D,w4,SB,Nat.reduceLT,NJ,Nat.reduceEqDiff,NF]
  exact hN (i+1,(b2,bc),(a6,Vg out (i+1) (i+2) (2*(PG (SL.take i) 2).length)),XE (gt SL i) ((i+2:Nat):Int) es) _ _ ⟨by show i+1<=_;omega,f0,C,p,rfl,by rw [c];exact bk,by rw [c];exact l.join (by omega) (by omega),by show (Vg _ _ _ _).length=_;rw [WQ];exact K,fun v=>by
   show (gt (Vg _ _ _ _) v).length<=_
   rw [c,Nb]
   have:=XX (out:=out) (f:=i+1) (t:=i+2) (i:=2*(PG (SL.take i) 2).length) (v:=v) (by omega) (by omega)
   have:=w v
   simp only [Nj,Nl];omega,by rw [c,Nb];show _+1<=i+1;omega,au,bl,r,o,bp,by omega⟩ (by show SL.length-(i+1)<SL.length-i;omega)
 ·have c:PG (SL.take (i+1)) 2=PG (SL.take i) 2:=by rw [Nao h0 d,Nf hs,Na]
  simp only [n60,f0,C,p,D,d,lS,xS,F,W,I,ah,e4,w3,w4,show lim<=M by omega,show lim<=G'.length by omega,an,O,R,a5,a8,w5,hs,SB,Nat.reduceLT,NJ,Nat.reduceEqDiff,NF,reduceCtorEq,place,NA,Nat.reduceAdd]
  rw [<-q]
  exact hN (i+1,(pa,ca),(ols,out),XE (gt SL i) ((i+2:Nat):Int) es) _ _ ⟨by show i+1<=_;omega,f0,C,p,rfl,by rw [c];exact Y,by rw [c];exact l,K,by rw [c];exact w,by rw [c];show _<=i+1;omega,B,Z,r,o,ac,by omega⟩ (by show SL.length-(i+1)<SL.length-i;omega)
theorem Npj [OB] {mp:Bool} {lim c:Nat} {p:Option Addr} {P:List Int} {a:Int} {H:NB} {Q:Value->NB->Prop} (o:Sl H encI 1 p P) (hn:P.length<2 ^ 63) :
  NR E mp lim 83 [.slice p P.length c,Vi a] H Q=Q (Vi (Ncd P a)) H:=by
 refine pc (by decide) e83 rfl rfl ?_
 rw [b83,c83]
 simp only [n83,SB,seval,NJ,reduceCtorEq,NH]
 refine NM (fun j=>P.length-j) (fun j fr G=>j<=P.length/\fr 0=.slice p P.length c/\fr 1=Vi a/\fr 7=Vi P.length/\fr 8=Vi j/\NZ H G/\∀i,i<j->gt P i≠a) 0 ⟨Nv _,rfl,rfl,rfl,by rfl,NZ.refl.app,fun i hi=>by omega⟩ ?_
 intro j fr G ⟨s,l,f1,f7,f8,m,d⟩ q
 rw [NQ Nzz.eq_1]
 refine NI ?_
 by_cases b:j<P.length
 case neg=>
  obtain rfl:j=P.length:=by omega
  simp only [n83,r83,f7,f8,b,SB,seval,NJ,NF,NG]
  rw [Ncd,Nf fun g=>?_]
  obtain ⟨i,hi,he⟩:=List.mem_iff_getElem.1 g
  exact d i hi (by rw [OJ hi];exact he)
 have f:=fun X=>((m.sl o).app X).loadCell0 OU b (by decide)
 simp only [encI,O8] at f
 have e:=fun c (k:IntKind) (H1:NB)=>(m.sl o).idx (c:=c) (k:=k) (H1:=H1) b
 have n:IntKind.i64.wrap ((j:Int)+1)=((j+1:Nat):Int):=NS (by omega)
 by_cases he:a=gt P j
 ·simp only [n83,r83,l,f1,f7,f8,b,e,f,Nq he,SB,seval,NJ,NF,reduceCtorEq,NG]
  have g:a∈P:=he▸PK b
  rw [Ncd,Nk g]
  congr 1
  have h1:Nkp P a<=j:=by
   unfold Nkp
   apply Oq;intro hc
   have:=List.not_of_lt_findIdx (xs:=P) (p:=(· == a)) (i:=j) (by unfold List.idxOf at hc;omega)
   rw [OJ b] at he
   simp [he] at this
  rcases Om (Nkp P a) j with h3 | h3
  ·exfalso
   have hl:Nkp P a<P.length:=Qd g
   have:=Qs hl
   refine d _ h3 ?_
   rw [OJ hl];exact this
  ·omega
 ·simp only [n83,l,f1,f7,f8,b,e,f,n,Nn he,SB,seval,NJ,NF,reduceCtorEq]
  exact q (j+1) _ _ ⟨by omega,l,f1,f7,rfl,m.app,fun i hi=>by
   rcases Om i j with h | h
   ·exact d i h
   ·obtain rfl:i=j:=by omega
    exact fun r=>he r.symm⟩ (by omega)
theorem Nvu [OB] {mp:Bool} {lim c:Nat} {p:Option Addr} {P:List Int} {a:Int} {H:NB} {Q:Value->NB->Prop} (d:Sl H encI 1 p P) (hn:P.length<2 ^ 63) :
  NR E mp lim 57 [.slice p P.length c,Vi a] H Q=Q (.bool (decide (a∈P))) H:=by
 refine pc (by decide) e57 rfl rfl ?_
 rw [b57,c57]
 have e:=fun X (mp:Bool) (lim:Nat) (Q:Value->NB->Prop)=>Npj (mp:=mp) (lim:=lim) (c:=c) (a:=a) (Q:=Q) (d.app X) hn
 simp only [n57,r57,e,SB,seval,NE,NJ,NF,reduceCtorEq,NH,NG]
 by_cases h:a∈P
 ·rw [No (Ne2.2 h),No h]
 ·rw [Nx fun b=>h (Ne2.1 b),Nx h]
def encS (x:Flow.Src):List Value:=[Vi x.pl,Vi x.rd,Vi x.gr]
theorem OI (x:Flow.Src):(encS x).length=3:=id rfl
theorem SS {x:Flow.Src}:(encS x)[0]? = some (Vi x.pl):=id rfl
theorem Tn {x:Flow.Src}:(encS x)[1]? = some (Vi x.rd):=id rfl
theorem Vu {x:Flow.Src}:(encS x)[2]? = some (Vi x.gr):=id rfl
def SOk (P:List Int) (x:Flow.Src):Prop:=x.pl∈P/\0<=x.rd/\x.rd<=OP/\0<=x.gr/\x.gr<=1000000000
instance {P:List Int} {x:Flow.Src}:Decidable (SOk P x):=by unfold SOk;infer_instance
def OC (P:List Int) (L:List Leg) (s:List Flow.Src) (to dl:Int):Int:=
 if QB P L≠0 then QB P L else if ¬(to∈P/\0<=dl/\dl<=OP) then 2 else if 50<s.length then 5 else if ∀x∈s,SOk P x then 0 else 340
theorem TQ [OB] {mp:Bool} {lim:Nat} {pp pl ps:Option Addr} {P:List Int} {L:List Leg} {s:List Flow.Src} {cp cl cs:Nat} {to dl:Int} {H:NB} {Q:Value->NB->Prop} (hn:NetIn H pp pl P L) (O:Sl H encS 3 ps s) (R:s.length<2 ^ 63) :
  NR E mp lim 38 [.agg (QJ pp P.length cp pl L.length cl).toArray,.slice ps s.length cs,Vi to,Vi dl] H Q=Q (Vi (OC P L s to dl)) H:=by
 refine pc (by decide) e38 rfl rfl ?_
 rw [b38,c38]
 have mt:OP=1051898399:=rfl
 have v:=fun X (mp:Bool) (lim:Nat) (Q:Value->NB->Prop)=>Nsh (mp:=mp) (lim:=lim) (cp:=cp) (cl:=cl) (Q:=Q) (hn.app X)
 have t:=fun X (mp:Bool) (lim:Nat) (a:Int) (Q:Value->NB->Prop)=>Nvu (mp:=mp) (lim:=lim) (c:=cp) (a:=a) (Q:=Q) (hn.sp.app X) (by have:=hn.np;omega)
 by_cases p:QB P L=0
 case neg=>
  simp only [n38,r38,OG,v,p,SB,seval,NE,NJ,NF,NH,place,NA,NG]
  rw [OC,Nk p]
 have key:OC P L s to dl=if ¬(to∈P/\0<=dl/\dl<=OP) then 2 else if 50<s.length then 5 else if ∀x∈s,SOk P x then 0 else 340:=Nf fun h=>h p
 rw [key]
 by_cases m:to∈P
 case neg=>
  simp only [n38,r38,OG,QE,v,p,t,Nn m,SB,seval,NE,NJ,NF,PW,NH,place,NA,NG]
 by_cases o:dl<0
 ·simp only [n38,r38,OG,QE,v,p,t,Nq m,Nq o,SB,seval,NE,NJ,NF,PW,NH,place,NA,NG]
  rw [Nk fun h=>by omega]
 by_cases r:1051898399<dl
 ·simp only [n38,r38,OG,QE,v,p,t,Nq m,Nn o,Nq r,SB,seval,NE,NJ,NF,PW,NH,place,NA,NG]
  rw [Nk fun h=>by omega]
 rw [Nf fun h=>h ⟨m,by omega,by omega⟩]
 by_cases A:50<(s.length:Int)
 ·simp only [n38,r38,OG,QE,v,p,t,Nq m,Nn o,Nn r,A,SB,seval,NE,NJ,NF,PW,NH,place,NA,NG]
  rw [Nk (by omega)]
 rw [Nf (by omega)]
 simp only [n38,OG,QE,v,p,t,Nq m,Nn o,Nn r,A,SB,seval,NE,NJ,NF,PW,NH,place,NA]
 refine NM (fun i=>s.length-i) (fun i fr G=>i<=s.length/\fr 4=Vp H.length/\fr 33=.slice ps s.length cs/\fr 34=Vi s.length/\fr 35=Vi i/\H.length<G.length/\NZ H G/\NC G H.length=Vc (QJ pp P.length cp pl L.length cl)/\∀j,j<i->SOk P (gt s j)) 0
  ⟨Nv _,rfl,rfl,rfl,by rfl,by simp,NZ.refl.app,NN,fun j C=>by omega⟩ ?_
 intro i fr G ⟨hi,f4,g,e,k,N,F,hB,q⟩ M
 rw [NQ N0h.eq_1]
 refine NI ?_
 by_cases b:i<s.length
 case neg=>
  obtain rfl:i=s.length:=by omega
  simp only [n38,r38,e,k,b,SB,seval,NJ,NF,NG]
  rw [Nk]
  intro x S
  obtain ⟨j,C,rfl⟩:=List.mem_iff_getElem.1 S
  rw [<-OJ C];exact q j C
 have K:=F.sl O
 have w:=fun X=>(K.app X).loadCells OI b
 have y:=QN K b rfl
 have u:=fun X=>(NZ.refl.app (X:=X)).cells hB
 have l:=fun X (mp:Bool) (lim:Nat) (a:Int) (Q:Value->NB->Prop)=>Nvu (mp:=mp) (lim:=lim) (c:=cp) (a:=a) (Q:=Q) (((F.sl hn.sp)).app X) (by have:=hn.np;omega)
 have T:IntKind.i64.wrap ((i:Int)+1)=((i+1:Nat):Int):=NS (by omega)
 have I:gt s i∈s:=PK b
 have n:¬SOk P (gt s i)->¬∀x∈s,SOk P x:=fun h t=>h (t _ I)
 have f:SOk P (gt s i)↔(gt s i).pl∈P/\0<=(gt s i).rd/\(gt s i).rd<=OP/\0<=(gt s i).gr/\(gt s i).gr<=1000000000:=Iff.rfl
 have d:H.length<=G.length:=by omega
 by_cases g1:(gt s i).pl∈P
 case neg=>
  simp only [n38,r38,f4,g,e,k,b,w,y,u,l,QE,OI,SS,NL,d,Nn g1,SB,seval,NE,NJ,NF,PW,place,NA,NG]
  rw [Nf (n fun h=>g1 h.1)]
 by_cases z:(gt s i).rd<0
 ·simp only [n38,r38,f4,g,e,k,b,w,y,u,l,QE,OI,SS,Tn,NL,d,Nq g1,Nq z,SB,seval,NE,NJ,NF,PW,place,NA,NG]
  rw [Nf (n fun h=>by have:=f.1 h;omega)]
 by_cases B:1051898399<(gt s i).rd
 ·simp only [n38,r38,f4,g,e,k,b,w,y,u,l,QE,OI,SS,Tn,NL,d,Nq g1,Nn z,Nq B,SB,seval,NE,NJ,NF,PW,place,NA,NG]
  rw [Nf (n fun h=>by have:=f.1 h;omega)]
 by_cases D:(gt s i).gr<0
 ·simp only [n38,r38,f4,g,e,k,b,w,y,u,l,QE,OI,SS,Tn,Vu,NL,d,Nq g1,Nn z,Nn B,Nq D,SB,seval,NE,NJ,NF,PW,place,NA,NG]
  rw [Nf (n fun h=>by have:=f.1 h;omega)]
 by_cases J:1000000000<(gt s i).gr
 ·simp only [n38,r38,f4,g,e,k,b,w,y,u,l,QE,OI,SS,Tn,Vu,NL,d,Nq g1,Nn z,Nn B,Nn D,Nq J,SB,seval,NE,NJ,NF,PW,place,NA,NG]
  rw [Nf (n fun h=>by have:=f.1 h;omega)]
 simp only [n38,f4,g,e,k,b,w,y,u,l,QE,OI,SS,Tn,Vu,NL,d,Nq g1,Nn z,Nn B,Nn D,Nn J,T,SB,seval,NE,NJ,NF,PW,place,NA]
 exact M (i+1) _ _ ⟨by omega,f4,g,e,rfl,by simp;omega,F.app,(NZ.refl.app).cells hB,fun j C=>by
  rcases Om j i with hji | hji
  ·exact q j hji
  ·obtain rfl:j=i:=by omega
   exact f.2 ⟨g1,by omega,by omega,by omega,by omega⟩⟩ (by omega)
theorem Ngf [OB] {mp:Bool} {lim A M Bt Bg:Nat} {G:NB} {to:Int} {v0:Value} {vs:List Value} {es:List ((Int×Int)×Int)} {p:Int×Int} {Q:Value->NB->Prop} (n:NC G Bt=Vc [Vi to]) (hB:NC G Bg=Vc [Vp A]) (m:NC G A=Vc (v0::.map (some M)::vs)) (l:NC G M=.map (Sz kM vI es)) :
  NR E mp lim 58 [.agg #[Vi p.1,Vi p.2],Vp Bt,Vp Bg] G Q=Q (Vi (if p.1=to then 1 else (TK p es).getD 0)) G:=by
 refine pc (by decide) e58 rfl rfl ?_
 rw [b58,c58]
 have b:=fun X=>(NZ.refl.app (X:=X)).cells n
 have e:=fun X=>(NZ.refl.app (X:=X)).cells hB
 have d:=fun X=>(NZ.refl.app (X:=X)).cells m
 have i:M<G.length:=by
  rcases Om M G.length with h1 | h1
  ·exact h1
  ·have:=l;unfold NC at this;rw [Nc,N8 h1] at this;cases this
 have f:∀X,NC (G++X) M=.map (Sz kM vI es):=fun X=>by rw [NK i];exact l
 have a:findKey (.agg #[Vi p.1,Vi p.2]) (Sz kM vI es) 0=some ((fk p es 0).map fun x=>(x.1,vI x.2)):=TM (vv:=vI) Nvl p es 0
 have g:TW (.ints [.i64,.i64]) (.agg #[Vi p.1,Vi p.2])=true:=Nvk (k:=p)
 have c:=Wz p es 0
 by_cases h:p.1=to
 ·simp only [n58,r58,b,Nq h,SB,Nat.reduceLT,NJ,Nat.reduceEqDiff,NF,NH,place,NA,NG]
 cases hf:fk p es 0 with
 | none=>
   rw [hf] at a c
   simp only [Ov] at a c
   rw [<-c]
   simp only [n58,r58,b,e,d,f,a,g,Nn h,Option.getD_none,SB,Nat.reduceLT,NJ,Nat.reduceEqDiff,NF,NH,place,NA,Nat.reduceAdd,NG]
 | some x=>
   obtain ⟨j,v⟩:=x
   rw [hf] at a c
   simp only [Nz,vI] at a c
   rw [<-c]
   simp only [n58,r58,b,e,d,f,a,g,Nn h,Pq,SB,Nat.reduceLT,NJ,Nat.reduceEqDiff,NF,NH,place,NA,Nat.reduceAdd,NG]
theorem Nxo [OB] {lim A Bo:Nat} {X:List Nat} {G:NB} {vm w4 w5 vw vmost:Value} {pp pa:Option Addr} {cp ca co:Nat} {ols:List Yo} {out:List (List Nat)} {l:List Pr} {SL:List (Int×Int)} {Q:Value->NB->Prop}
  (h:JS A Bo X G (.slice pp SL.length cp) vm w4 w5 vw vmost pa ca co ols out l) (aa:lim<=A) (hS:Own (A+1) G enc2 2 pp cp SL) (hn:out.length=SL.length+2) (hl:SL.length<60000) (V:∀x∈SL,-10080<=x.2/\x.2<=OP)
  (hQ:∀(G':NB) (Lv:List Int),JS A Bo X G' (.slice pp SL.length cp) vm (.slice (Sa (G.length+1)) out.length out.length) (.slice (Sa G.length) out.length out.length) vw vmost pa ca co ols out l->NC G' G.length=Vc ((List.replicate out.length 0).flatMap Tq)->NC G' (G.length+1)=Vc (Lv.flatMap encI)->Lv.length=out.length->(∀x∈Lv,-20000<=x/\x<=1051898401)->(∀b,b<G.length->b≠A->NC G' b=NC G b)->G.length+2<=G'.length->Q (.tuple #[]) G') :
  NR E false lim 62 [Vp A] G Q:=by
 refine Te (by decide) e62 rfl ?_
 rw [b62,c62]
 have R:=ND h.hdr
 have S:=ND h.os.ou
 have W:=h.ab
 have mt:OP=1051898399:=rfl
 have L:=fun X=>(NZ.refl.app (X:=X)).cells h.hdr
 have ac:=Nq (show 0<=(out.length:Int)/\(out.length:Int)*8<=2 ^ 45/\(out.length:Int)<2 ^ 62 by omega)
 obtain ⟨G1,e1,k1,m1⟩:=OO R (Vc [.slice pp SL.length cp,vm,.slice pa (2*l.length) ca,.slice (Sa Bo) out.length co,w4,.slice (Sa G.length) out.length out.length,vw,vmost])
 have ad:=fun X=>(NZ.refl.app (X:=X)).cells k1
 obtain ⟨G2,e2,k2,m2⟩:=OO (ND k1) (Vc [.slice pp SL.length cp,vm,.slice pa (2*l.length) ca,.slice (Sa Bo) out.length co,.slice (Sa (G.length+1)) out.length out.length,.slice (Sa G.length) out.length out.length,vw,vmost])
 have ae:=fun X=>(NZ.refl.app (X:=X)).cells k2
 have M:=m1.len
 have ag:=m2.len
 simp only [n62,L,ac,Nnh,aa,e1,ad,e2,ae,M,SB,Nat.reduceLT,NJ,Nat.reduceEqDiff,reduceCtorEq,NH,place,NA,Nat.reduceAdd,Nat.reduceLeDiff]
 have z:∀n,List.replicate n (Value.int IntKind.i64 0)=(List.replicate n (0:Nat)).flatMap Tq:=fun n=>by
  induction n with
  | zero=>rfl
  | succ n ih=>rw [O9,O9,N2,<-ih];rfl
 have y:∀n,List.replicate n (Value.int IntKind.i64 0)=(List.replicate n (0:Int)).flatMap encI:=fun n=>by
  induction n with
  | zero=>rfl
  | succ n ih=>rw [O9,O9,N2,<-ih];rfl
 obtain ⟨m,d⟩:∃m,m=G2++[Vc (List.replicate out.length (Value.int IntKind.i64 0)),Vc (List.replicate out.length (Value.int IntKind.i64 0))]:=⟨_,rfl⟩
 rw [<-d]
 have H:G2.length=G.length:=by omega
 have P:NC m A=Vc [.slice pp SL.length cp,vm,.slice pa (2*l.length) ca,.slice (Sa Bo) out.length co,.slice (Sa (G.length+1)) out.length out.length,.slice (Sa G.length) out.length out.length,vw,vmost]:=by rw [d];exact (NZ.refl.app).cells k2
 have U:NC m G.length=Vc ((List.replicate out.length 0).flatMap Tq):=by rw [d,<-z,<-H,NN];rfl
 have T:NC m (G.length+1)=Vc ((List.replicate out.length 0).flatMap encI):=by rw [d,<-y,<-H,OL];rfl
 have Y:∀b,b<G.length->b≠A->NC m b=NC G b:=fun b v e=>by rw [d,NK (by omega),m2.other b e,m1.other b e]
 have Z:G.length+2<=m.length:=by rw [d];simp;omega
 clear d
 refine NM (fun s:Nat×List Int=>SL.length-s.1) (fun s fr G'=>s.1<=SL.length/\fr 0=Vp A/\fr 25=.slice pp SL.length cp/\fr 26=Vi SL.length/\fr 27=Vi s.1/\NC G' A=Vc [.slice pp SL.length cp,vm,.slice pa (2*l.length) ca,.slice (Sa Bo) out.length co,.slice (Sa (G.length+1)) out.length out.length,.slice (Sa G.length) out.length out.length,vw,vmost]/\
   NC G' G.length=Vc ((List.replicate out.length 0).flatMap Tq)/\NC G' (G.length+1)=Vc (s.2.flatMap encI)/\s.2.length=out.length/\(∀x∈s.2,-20000<=x/\x<=1051898401)/\(∀b,b<G.length->b≠A->NC G' b=NC G b)/\G.length+2<=G'.length) (0,List.replicate out.length 0)
  ⟨Nv _,rfl,rfl,rfl,by rfl,P,U,T,by simp,fun x hx=>by rw [List.eq_of_mem_replicate hx];omega,Y,Z⟩ ?_
 rintro ⟨i,Lv⟩ fr G' ⟨hi,O,I,o,q,r,J,f,g,t,w,ah⟩ hN
 simp only at hi q f g t
 rw [NQ Nz7.eq_1]
 refine NI ?_
 have k:=fun X=>(NZ.refl.app (X:=X)).cells r
 by_cases j:i<SL.length
 case neg=>
  obtain rfl:i=SL.length:=by omega
  obtain ⟨G5,F,k5,C⟩:=Uq (lim:=lim) (p:=Sa (G.length+1)) (i:=1) OU rfl f (by omega) (by omega) (1051898401:Int)
  simp only [encI] at F
  have sL:=Sl.row (ro:=false) OU f
  have K:=QN (i:=1) sL (show 1<out.length by omega) g
  simp only [Qu] at K
  simp only [n62,r62,O,o,q,j,k,K,F,SB,Nat.reduceLT,NJ,NF,reduceCtorEq,NA]
  have B:=fun b (v:b≠G.length+1)=>C.other b v
  have N:=C.len
  have c:∀b,b<G.length->b≠A->NC (G5++[]) b=NC G b:=fun b v e=>by rw [Na,B b (by omega)];exact w b v e
  refine hQ _ (Lv.set 1 1051898401) ⟨?_,RN h.ar fun a D=>?_,h.os.sim ?_ (fun u a hu D=>?_) (by simp;omega),W,h.ax⟩ ?_ ?_ (by simpa using g) ?_ c (by simp;omega)
  ·rw [Na,B A (by omega)];exact r
  ·have:=h.ar.block D
   exact c _ this.2 (by omega)
  ·exact c Bo S (by omega)
  ·have:=(h.os.us u hu).1.block D
   exact c _ this.2 (by omega)
  ·rw [Na,B G.length (by omega)];exact J
  ·rw [Na];exact k5
  ·intro x hx
   rcases Rh hx with hx | hx
   ·exact t x hx
   ·omega
 have sS:Sl G' enc2 2 pp SL:=(RN hS fun a D=>w a.block (hS.block D).2 (by have:=(hS.block D).1;omega)).sl PO
 have lS:∀X,AM.loadCells (G'++X) (SX pp 2 i) 2=some [Vi (gt SL i).1,Vi (gt SL i).2]:=fun X=>by rw [(sS.app X).loadCells PO j];rfl
 have xS:=QN sS j rfl
 have v:=V _ (PK j)
 have w1:IntKind.i64.wrap ((i:Int)+1)=((i+1:Nat):Int):=NS (by omega)
 have w2:IntKind.i64.wrap ((i:Int)+2)=((i+2:Nat):Int):=by rw [NY (by omega) (by omega)];omega
 have w3:IntKind.i64.wrap ((gt SL i).2+1)=(gt SL i).2+1:=NY (by omega) (by omega)
 have sL:=Sl.row (ro:=false) OU f
 have K:=QN (i:=i+2) sL (show i+2<out.length by omega) g
 obtain ⟨G5,F,k5,C⟩:=Uq (lim:=lim) (p:=Sa (G.length+1)) (i:=i+2) OU rfl f (by omega) (by omega) ((gt SL i).2+1)
 simp only [encI] at F
 have N:=C.len
 simp only [n62,O,I,o,q,j,k,lS,xS,K,F,w1,w2,w3,show lim<=G'.length by omega,SB,Nat.reduceLT,NJ,Nat.reduceEqDiff,NF,reduceCtorEq,place,NA,Nat.reduceAdd]
 exact hN (i+1,Lv.set (i+2) ((gt SL i).2+1)) _ _ ⟨by show i+1<=_;omega,O,I,o,rfl,(NZ.refl.app).cells ((C.other A (by omega)).trans r),(NZ.refl.app).cells ((C.other _ (by omega)).trans J),(NZ.refl.app).cells k5,by simpa using g,fun x hx=>by
  rcases Rh hx with hx | hx
  ·exact t x hx
  ·omega,fun b v e=>by rw [NK (by omega),C.other b (by omega)];exact w b v e,by simp;omega⟩ (by show SL.length-(i+1)<SL.length-i;omega)
end Go.Proofs.YtohnaffmcjbpoaaGreat.Fn


