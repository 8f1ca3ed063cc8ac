/-
  Joined texts, 6 of 10. A part of the claim that the last text states.
-/
import Derived.Test.YtohnaffmcjbpoaaGreatPT5
set_option linter.unusedVariables false
set_option linter.unusedSimpArgs false
set_option linter.defProp false
set_option linter.unusedSectionVars false
set_option maxRecDepth 100000
set_option maxHeartbeats 4000000
namespace Go.Proofs.YtohnaffmcjbpoaaGreat.Fn
open Go.AM Go.AM.Sym Go.Net Go.Flow
theorem N1o (n:Nat):n ^^^ 1=tw n:=by
 have h1:(n ^^^ 1) / 2=n / 2:=by rw [Nat.xor_div_two];simp
 have h2:(n ^^^ 1) % 2=(n+1) % 2:=by
  have a:=Nat.testBit_xor n 1 0
  rw [Rx,Rx,Rx] at a
  rcases R2 n with h | h<;>rcases R2 (n ^^^ 1) with h4 | h4<;>rw [h,h4] at a<;>first | omega | simp at a
 unfold tw
 split<;>omega
theorem N0d {n:Nat} (h:n<2 ^ 60):IntKind.i64.wrap ((BitVec.ofInt 64 (n:Int) ^^^ BitVec.ofInt 64 1).toNat:Int)=(tw n:Int):=by
 have e1:BitVec.ofInt 64 (n:Int)=BitVec.ofNat 64 n:=by simp
 have e2:BitVec.ofInt 64 1=BitVec.ofNat 64 1:=rfl
 have h1:tw n<2 ^ 61:=by unfold tw;split<;>omega
 rw [e1,e2,BitVec.toNat_xor,Qz,Qz,Qk (by omega),Qk (by omega),N1o]
 exact NY (by omega) (by omega)
theorem Nq1 {H:NA} {q:Option Addr} {T:List Nat} {i:Nat} (h:Sl H Tn 1 q T) (hi:i<T.length):∀X,AM.loadCell (H++X) (Tk q 1 i)=some (Vi ((gt T i:Nat):Int)):=fun X=>by
 rw [(h.app X).loadCell0 RX hi (by decide)];rfl
theorem QM {α:Type} {enc:α->List Value} {e:Nat} {H:NA} {q:Option Addr} {T:List α} {i n:Nat} (h:Sl H enc e q T) (hi:i<n) (a:T.length=n):∀(c:Nat) (k:IntKind) (H1:NA),Wx e (.slice q n c) (.int k (i:Int)) H1=some (.pointer (some (Tk q e i)),H1):=fun c k H1=>by
 subst a;exact h.idx hi
theorem Nuy {H:NA} {q:Option Addr} {T:List Yn} {i:Nat} (h:Sl H Nc5 1 q T) (hi:i<T.length):∀X,AM.loadCell (H++X) (Tk q 1 i)=some (.slice (gt T i).1 (gt T i).2.1 (gt T i).2.2):=fun X=>by
 rw [(h.app X).loadCell0 VK hi (by decide)];rfl
section
variable {lim Ba Bn A:Nat} {w:List Value} {pv po:Option Addr} {cv co:Nat} {ols:List Yn} {out:List (List Nat)} {L:List Int} {na ca nn cn:Nat} {M:Int}
theorem Nx9 [OB] (ap:lim<=Ba) (aq:lim<=Bn) (C:Ba≠Bn) (hM:∀v,RH L v<=M) (bm:∀v,-20000<=RH L v) (bz:out.length<2 ^ 40) :
  ∀(m:Nat) (v:Nat) (g:Int) (l:List Pr) (nx:List Nat) (G:NA) (Q:Value->NA->Prop),(M-RH L v).toNat<m->v<out.length->0<g->g<=VW->OutOk l out->U0 out (RH L) l nx->(∀i,i / 2<l.length->0<=rm l i/\rm l i+rm l (tw i)<=VW)->nx.length=out.length->nn=nx.length->na=2*l.length->l.length<2 ^ 40->(∀u,(gt out u).length<2 ^ 40)->(∀u,gt nx u<=(gt out u).length)->
   Stays Ba Bn A G w pv po cv co ols out L na ca nn cn->NC G Ba=Vc ((SC l).flatMap enc2)->NC G Bn=Vc (nx.flatMap Tn)->
   (∀s l' nx' G',Sent out (RH L) v g l nx s l' nx'->Chg [Ba,Bn] G G'->NC G' Ba=Vc ((SC l').flatMap enc2)->NC G' Bn=Vc (nx'.flatMap Tn)->Q (Vi s) G')->
   NR E false lim 64 [Vp A,Vi v,Vi g] G Q:=by
 intro m
 induction m with
 | zero=>intro v g l nx G Q hm;omega
 | succ m ih=>
   intro v g l nx G Q hm hv hg ce ho hD hr ci bo cg bw W V hS hA hN hQ
   refine SE (by decide) e64 rfl ?_
   rw [b64,c64]
   by_cases h1:v=1
   ·have Z:(v:Int)=1:=by omega
    simp only [n64,r64,Nq Z,SB,seval,NG,NF,NK,NH]
    subst h1
    exact hQ g l nx _ (.fin _ _ (by omega) (fun i hi=>(hr i hi).1) hD) Chg.refl.app ((NZ.refl.app).cells hA) ((NZ.refl.app).cells hN)
   have Z:¬(v:Int)=1:=by omega
   simp only [n64,Nm Z,SB,seval,NG,NF,reduceCtorEq,NK]
   obtain ⟨w8,w2,w3,w4,w5⟩:=hS.hdr
   have br:VW=1152921504606846976:=rfl
   refine NL (fun x:Int×List Pr×List Nat=>(gt out v).length-gt x.2.2 v) (fun x fr G'=>fr 0=Vp A/\fr 1=Vi v/\fr 2=Vi g/\fr 7=.func (.func 64) #[Vp A] #[]/\fr 8=Vi x.1/\Chg [Ba,Bn] G G'/\NC G' Ba=Vc ((SC x.2.1).flatMap enc2)/\NC G' Bn=Vc (x.2.2.flatMap Tn)/\Mid out (RH L) v g l nx x.1 x.2.1 x.2.2) (0,l,nx)
    ⟨rfl,rfl,rfl,rfl,by rfl,Chg.refl.app,(NZ.refl.app).cells hA,(NZ.refl.app).cells hN,.start _ _ hg (fun i hi=>(hr i hi).1) hD⟩ ?_
   rintro ⟨s,l1,nx1⟩ fr G1 ⟨J,f1,f2,f7,f8,hC,f,t,d⟩ ad
   simp only at f8 f t d
   rw [NP Nvd.eq_1]
   have B:=hS.chg hC
   obtain ⟨bA,sV,sO,sU⟩:=B.keep G1 Chg.refl
   obtain ⟨ay,b0⟩:=hS.len
   have I:=fun X=>(NZ.refl.app (X:=X)).cells bA
   have sN:Sl G1 Tn 1 (Sa Bn) nx1:=Sl.row RX t
   have sA:Sl G1 enc2 2 (Sa Ba) (SC l1):=Sl.row PN f
   have az:nx1.length=nn:=by rw [d.nxlen,bo]
   have cm:l1.length=l.length:=d.same.len
   have lN:=Nq1 (i:=v) sN (by omega)
   have xN:=QM (i:=v) (n:=nn) sN (by omega) az
   have lO:=Nuy (i:=v) sO (by omega)
   have xO:=QM (i:=v) (n:=out.length) sO hv ay
   have ak:=hS.cut v hv
   rw [ak] at lO
   have b5:gt nx1 v<=(gt out v).length:=by have:=d.bnd v;have:=V v;unfold outs at *;omega
   generalize hk:gt nx1 v=k at *
   refine NI ?_
   by_cases q:k<(gt out v).length
   case neg=>
    have bx:¬(k:Int)<((gt out v).length:Int):=by omega
    simp only [n64,r64,J,f1,f8,I,w3,w5,lN,xN,lO,xO,q,SB,seval,NG,NF,reduceCtorEq,NH]
    exact hQ s l1 nx1 _ (d.stop h1 (by unfold outs;omega)) hC.app ((NZ.refl.app).cells f) ((NZ.refl.app).cells t)
   obtain ⟨a,ae⟩:∃a,a=gt (gt out v) k:=⟨_,rfl⟩
   have bh:a∈Flow.outs out v:=by rw [ae];exact PW q
   have ao:gt (Flow.outs out v) k=a:=ae.symm
   have av:=ho.alike d.same
   obtain ⟨o1,o2,o3⟩:=av.ok v a bh
   have O:a / 2<l.length:=by omega
   have lU:=Nq1 (sU v hv) q
   have xU:=QM (sU v hv) q rfl
   rw [<-ae] at lU
   have lA:=fun X=>(sA.app X).loadCells PN (i:=a) (by rw [RQ];omega)
   have xA:=QM (i:=a) (n:=na) sA (by omega) (by rw [RQ];omega)
   simp only [VP o1,enc2] at lA
   have D:lim<=G1.length:=by have:=ND f;omega
   have ah:=Um (i:=hd l1 a) sV (by omega)
   have bc:=QM (i:=hd l1 a) (n:=L.length) sV (by omega) rfl
   have ai:=Um (i:=v) sV (by omega)
   have bd:=QM (i:=v) (n:=L.length) sV (by omega) rfl
   rw [Ng0 (by omega)] at ah ai
   have cj:=hr a O
   have bt:rm l1 a+rm l1 (tw a)=rm l a+rm l (tw a):=d.same.cap a O
   have cx:=d.nn a O
   have cy:=d.nn (tw a) (by rw [VX];exact O)
   have wk:IntKind.i64.wrap ((k:Int)+1)=((k+1:Nat):Int):=NS (by have:=W v;omega)
   by_cases ag:0<rm l1 a/\RH L v<RH L (hd l1 a)
   case neg=>
    have au:=d.skip (k:=k) (by omega) hk (by unfold Flow.outs;omega) (by rw [ao];exact ag)
    obtain ⟨G3,e3,k3,m3⟩:=Uv (lim:=lim) (p:=Sa Bn) (i:=v) RX rfl t aq (by omega) (k+1)
    simp only [Tn] at e3
    have z:Chg [Ba,Bn] G G3:=hC.mut m3 (.inl (by simp))
    by_cases y:0<rm l1 a
    ·have F:¬RH L v<RH L (hd l1 a):=fun h=>ag ⟨y,h⟩
     simp only [n64,J,f1,I,w2,w3,w4,w5,lN,xN,lO,xO,q,lU,xU,lA,xA,D,ah,bc,ai,bd,wk,Nq y,Nm F,e3,SB,seval,NG,NF,reduceCtorEq,place,NB]
     exact ad (s,l1,nx1.set v (k+1)) _ _ ⟨J,f1,f2,f7,f8,z.app,(NZ.refl.app).cells (m3.cells f C),(NZ.refl.app).cells k3,au⟩ (by show (gt out v).length-gt (nx1.set v (k+1)) v<(gt out v).length-k;rw [gt_set (by omega),Nh rfl];omega)
    ·simp only [n64,J,f1,I,w2,w3,w5,lN,xN,lO,xO,q,lU,xU,lA,xA,D,wk,Nm y,e3,SB,seval,NG,NF,reduceCtorEq,place,NB]
     exact ad (s,l1,nx1.set v (k+1)) _ _ ⟨J,f1,f2,f7,f8,z.app,(NZ.refl.app).cells (m3.cells f C),(NZ.refl.app).cells k3,au⟩ (by show (gt out v).length-gt (nx1.set v (k+1)) v<(gt out v).length-k;rw [gt_set (by omega),Nh rfl];omega)
   obtain ⟨y,F⟩:=ag
   have cr:=d.lo
   have cu:=d.lt
   have bp:IntKind.i64.wrap (g-s)=g-s:=NY (by omega) (by omega)
   simp only [n64,J,f1,f2,f7,f8,I,w2,w3,w4,w5,lN,xN,lO,xO,q,lU,xU,lA,xA,D,ah,bc,ai,bd,Nq y,Nq F,bp,N36,SB,seval,NE,NG,NF,reduceCtorEq,place,NB]
   have S:Chg [Ba,Bn] G1 (G1++[Vc [Vi (hd l1 a:Int),Vi (rm l1 a)]]):=Chg.refl.app
   refine ih (hd l1 a) (min (g-s) (rm l1 a)) l1 nx1 _ _ (by have:=hM (hd l1 a);have:=bm v;omega) o3 (by omega) (by omega) av d.done (fun i hi=>⟨d.nn i (by omega),by rw [d.same.cap i (by omega)];exact (hr i (by omega)).2⟩) (by omega) (by omega) (by omega) (by omega) W (fun u=>by have:=d.bnd u;have:=V u;unfold Flow.outs at *;omega) (B.chg S) ((NZ.refl.app).cells f) ((NZ.refl.app).cells t) fun b e r G2 o an am bg=>?_
   obtain ⟨t1,t2,t3,t4,t5⟩:=d.take ho (k:=k) (i:=a) (by omega) hk (by unfold Flow.outs;omega) ao y F o
   have T:Chg [Ba,Bn] G1 G2:=S.trans an
   obtain ⟨be,db,c5,da⟩:=B.keep G2 T
   have P:=fun X=>(NZ.refl.app (X:=X)).cells be
   have cf:e.length=l1.length:=o.same.len
   have b10:=fun X=>(NZ.refl.app (X:=X)).cells (an.cells (j:=G1.length) (ro:=false) (c:=[Vi (hd l1 a:Int),Vi (rm l1 a)]) (by rw [NQ];rfl) (by have:=ND f;have:=ND t;simp;omega))
   have a0:Sl G2 enc2 2 (Sa Ba) (SC e):=Sl.row PN am
   have ba:=QM (i:=a) (n:=na) a0 (by omega) (by rw [RQ];omega)
   have ck:tw a / 2=a / 2:=VX a
   have K:=fun X=>(a0.app X).loadCell PN (i:=a) (j:=1) (by rw [RQ];omega) (by decide)
   rw [VP (by omega)] at K
   simp only [enc2,Pc,Ro] at K
   have bu:rm e a+rm e (tw a)=rm l1 a+rm l1 (tw a):=o.same.cap a (by omega)
   have cz:=o.nn a (by omega)
   have c0:=o.nn (tw a) (by omega)
   have a2:IntKind.i64.wrap (rm e a-b)=rm e a-b:=NY (by omega) (by omega)
   have a4:IntKind.i64.wrap (rm e (tw a)+b)=rm e (tw a)+b:=NY (by omega) (by omega)
   have a5:IntKind.i64.wrap (s+b)=s+b:=NY (by omega) (by omega)
   obtain ⟨G3,e3,k3,m3⟩:=UM (lim:=lim) (i:=a) (j:=1) (v:=Vi (rm e a-b)) PN am ap (by rw [RQ];omega) (by decide) ((hd e a:Int),rm e a-b) (by rw [VP (by omega)];rfl)
   have a1:Sl G3 enc2 2 (Sa Ba) ((SC e).set a ((hd e a:Int),rm e a-b)):=Sl.row PN k3
   have bl:((SC e).set a ((hd e a:Int),rm e a-b)).length=2*e.length:=by rw [Ph,RQ]
   have bb:=QM (i:=tw a) (n:=na) a1 (by omega) (by omega)
   have N:=fun X=>(a1.app X).loadCell PN (i:=tw a) (j:=1) (by omega) (by decide)
   have g3:gt ((SC e).set a ((hd e a:Int),rm e a-b)) (tw a)=((hd e (tw a):Int),rm e (tw a)):=by rw [gt_set (by rw [RQ];omega),Nf (N0f a),VP (by omega)]
   rw [g3] at N
   simp only [enc2,Pc,Ro] at N
   obtain ⟨G4,e4,k4,m4⟩:=UM (lim:=lim) (i:=tw a) (j:=1) (v:=Vi (rm e (tw a)+b)) PN k3 ap (by omega) (by decide) ((hd e (tw a):Int),rm e (tw a)+b) (by rw [g3];rfl)
   rw [Nfx (by omega)] at k4
   have z:Chg [Ba,Bn] G1 G3:=T.mut m3 (.inl (by simp))
   have aa:Chg [Ba,Bn] G1 G4:=z.mut m4 (.inl (by simp))
   have R:=fun X=>(NZ.refl.app (X:=X)).cells (B.keep G3 z).1
   have aj:=fun X=>(NZ.refl.app (X:=X)).cells (B.keep G4 aa).1
   have ac:NC G4 Bn=Vc (r.flatMap Tn):=m4.cells (m3.cells bg (Ne.symm C)) (Ne.symm C)
   have Y:IntKind.i64.wrap (((BitVec.ofInt IntKind.i64.bits (a:Int) ^^^ BitVec.ofInt IntKind.i64.bits 1).toNat:Nat):Int)=((tw a:Nat):Int):=N0d (n:=a) (by omega)
   refine NI ?_
   by_cases H:s+b=g
   ·simp only [n64,r64,J,f2,f8,P,R,w2,ba,K,a2,e3,Y,bb,N,a4,e4,a5,Nq H,SB,seval,NG,NF,reduceCtorEq,NB,NH]
    exact hQ (s+b) _ r _ (by rw [H];exact t1 H) (hC.trans aa).app ((NZ.refl.app).cells k4) ((NZ.refl.app).cells ac)
   ·have U:Sl G4 Tn 1 (Sa Bn) r:=Sl.row RX ac
    have b4:r.length=nx1.length:=o.nxlen
    have bk:gt r v=k:=(o.keep v F).trans hk
    have aw:=Nq1 (i:=v) U (by omega)
    have bq:=QM (i:=v) (n:=nn) U (by omega) (by omega)
    rw [bk] at aw
    obtain ⟨G5,e5,k5,m5⟩:=Uv (lim:=lim) (p:=Sa Bn) (i:=v) RX rfl ac aq (by omega) (k+1)
    simp only [Tn] at e5
    simp only [n64,J,f1,f2,f8,P,R,aj,w2,w5,ba,K,a2,e3,Y,bb,N,a4,e4,a5,Nm H,aw,bq,wk,e5,SB,seval,NG,NF,reduceCtorEq,NB]
    have bf:Chg [Ba,Bn] G G5:=(hC.trans aa).mut m5 (.inl (by simp))
    exact ad (s+b,QZ e a b,r.set v (k+1)) _ _ ⟨J,f1,f2,f7,rfl,bf.app,(NZ.refl.app).cells (m5.cells k4 C),(NZ.refl.app).cells k5,t2 H⟩ (by show (gt out v).length-gt (r.set v (k+1)) v<(gt out v).length-k;rw [gt_set (by omega),Nh rfl];omega)
end
theorem N2e [OB] {mp:Bool} {lim n:Nat} {H:NA} {Q:Value->NA->Prop} (hn:n<2 ^ 32):NR E mp lim 106 [.int .u64 1,.int .u64 (n:Int)] H Q=Q (.tuple #[.int .u64 0,.int .u64 (n:Int)]) H:=by
 have key:∀(mp:Bool) (lim:Nat) (H:NA) (Q:Value->NA->Prop),NR E mp lim 130 [.int .u64 1,.int .u64 (n:Int)] H Q=Q (.tuple #[.int .u64 0,.int .u64 (n:Int)]) H:=by
  intro mp lim H Q
  refine pc (by decide) N52 rfl rfl ?_
  rw [N6i,c130]
  simp only [n130,N5t,SB,Nat.reduceLT,NG,Nat.reduceEqDiff,NF,reduceCtorEq,NK,NH,Int.reduceLT]
  have a:∀m:Nat,m<2 ^ 32->IntKind.u64.wrap (((BitVec.ofInt IntKind.u64.bits (m:Int) &&& BitVec.ofInt IntKind.u64.bits 4294967295).toNat:Nat):Int)=(m:Int):=fun m d=>by
   have e1:BitVec.ofInt IntKind.u64.bits (m:Int)=BitVec.ofNat 64 m:=by show BitVec.ofInt 64 (m:Int)=_;simp
   have e2:BitVec.ofInt IntKind.u64.bits 4294967295=BitVec.ofNat 64 4294967295:=rfl
   rw [e1,e2]
   show IntKind.u64.wrap (((BitVec.ofNat 64 m &&& BitVec.ofNat 64 4294967295).toNat:Nat):Int)=_
   rw [Ry,Qz,Qz,Qk (by omega),Qk (by omega),show (4294967295:Nat)=2 ^ 32-1 by rfl,Nat.and_two_pow_sub_one_eq_mod,Qk d]
   simp only [IntKind.wrap,IntKind.bits,IntKind.signed]
   simp;omega
  have b:∀m:Nat,m<2 ^ 32->Int.fdiv (m:Int) (2 ^ min (Int.toNat 32) IntKind.u64.bits)=0:=fun m d=>by
   show Int.fdiv (m:Int) 4294967296=0
   rw [Rf _ (by decide)]
   omega
  have g:IntKind.u64.wrap (n:Int)=(n:Int):=by
   simp only [IntKind.wrap,IntKind.bits,IntKind.signed]
   simp;omega
  have f:IntKind.u64.wrap 0=0:=by decide
  have c1:=a 1 (by decide)
  have c:=a 0 (by decide)
  have s1:=b 1 (by decide)
  have e:=b 0 (by decide)
  simp only [Int.ofNat_one,Int.ofNat_zero] at c1 c s1 e
  simp only [c1,c,a n hn,s1,e,b n hn,Int.zero_mul,Int.one_mul,Ox,g,f]
 refine pc (by decide) N53 rfl rfl ?_
 rw [N6j,N23]
 simp only [n106,N5u,key,SB,Nat.reduceLT,NE,NG,Nat.reduceEqDiff,reduceCtorEq,NK,NH]
theorem Nwq {n:Nat} {x:Int}:(List.replicate n x).flatMap encI=List.replicate n (Vi x):=by
 induction n with
 | zero=>rfl
 | succ n ih=>rw [Pd,N2,ih,Pd];rfl
theorem Nn0 {n:Nat} {v:Value}:List.map (fun j=>[v].getD (j % 1) undef) (List.range (n*1))=List.replicate n v:=by
 rw [Q0]
 apply Qg (by simp)
 intro i h1 h2
 simp [Nat.mod_one]
theorem Nge {e n c lo hi:Nat} {a:Addr} {vlo vhi:Option Value} (hc:c<2 ^ 62) (b:U7 n c vlo vhi none=some (lo,hi,c)):Uc e (.slice (some a) n c) vlo vhi none=some (.slice (some (if c=lo then a else a.add (lo*e))) (hi-lo) (c-lo)):=by
 unfold U7 at b
 simp only [Uc,TW]
 rw [Nf (by unfold loose;omega),Nh hc]
 simp only [Ou] at b⊢
 have d:bounds unV n c (vlo.map Operand.const) (vhi.map Operand.const) none=some (lo,hi,c):=b
 rw [d]
 simp only
 split<;>rfl
theorem Nw5 {lim B k r c c':Nat} {a b:Value} {H:NA} (hB:NC H B=Vc (List.replicate k a++List.replicate r b)) (hl:lim<=B) (d:0<k) (hr:0<r) :
  copyV lim 1 (.slice (some ⟨B,k,none⟩) r c) (.slice (Sa B) k c') H=some (Vi ((min k r:Nat):Int),H.set B (Vc (List.replicate (k+min k r) a++List.replicate (r-min k r) b))):=by
 have e1:AM.loadCells H ⟨B,0,none⟩ (min k r*1)=some (List.replicate (min k r) a):=by
  simp only [PT,hB,Q0,Ny,Pa]
  rw [Nh (by simp;omega),Rc (by simp;omega),List.take_replicate,Pw (by omega)]
 simp only [copyV,lenOf,TC,e1]
 rw [Nf (by omega)]
 simp only [Tq,hB,O9]
 rw [Nh ⟨hl,by simp;omega⟩]
 simp only [N0]
 congr 4
 have h:=YW (List.replicate (min k r) a) (List.replicate k a) (List.replicate (min k r) b) (List.replicate (r-min k r) b) (by simp)
 rw [O9,Nr,R1,show min k r+(r-min k r)=r by omega] at h
 rw [h,R1]
theorem Npt [OB] {lim n c:Nat} {x:Int} {p:Option Addr} {H:NA} {Q:Value->NA->Prop} (d:lim<=H.length) (h1:1<=n) (hn:n<2 ^ 30) (l:Sl H encI 1 p [x])
  (t:∀H',Chg [] H H'->NC H' H.length=Vc ((List.replicate n x).flatMap encI)->H.length<H'.length->Q (.slice (Sa H.length) n n) H'):NR E false lim 86 [.slice p 1 c,Vi n] H Q:=by
 refine SE (by decide) e86 rfl ?_
 rw [b86,c86]
 have y:=fun (H:NA) (mp:Bool) (lim:Nat) (Q:Value->NA->Prop)=>N2e (mp:=mp) (lim:=lim) (n:=n) (H:=H) (Q:=Q) (by omega)
 have J:IntKind.u64.wrap (n:Int)=(n:Int):=by
  simp only [IntKind.wrap,IntKind.bits,IntKind.signed]
  simp;omega
 have D:IntKind.u64.wrap 1=1:=by decide
 have F:IntKind.i64.wrap (n:Int)=(n:Int):=NY (by omega) (by omega)
 have A:=Nm (show ¬(n:Int)<0 by omega)
 have nb:=Nm (show ¬(9223372036854775807:Int)<(n:Int) by omega)
 have j:=Nq (show 0<=(n:Int)/\(n:Int)*8<=2 ^ 45/\(n:Int)<2 ^ 62 by omega)
 have h:∀X,copyV lim 1 (.slice (Sa H.length) n n) (.slice p 1 c) (H++Vc (List.replicate n (Vi 0))::X)=some (Vi 1,H++Vc (List.replicate 1 (Vi x)++List.replicate (n-1) (Vi 0))::X):=fun X=>by
  have u:NC (H++Vc (List.replicate n (Vi 0))::X) H.length=Vc (List.replicate n (Vi 0)):=NQ
  obtain ⟨a,rfl⟩:=l.some (by simp)
  have e1:AM.loadCells (H++Vc (List.replicate n (Vi 0))::X) a 1=some [Vi x]:=by
   have:=(l.app (Vc (List.replicate n (Vi 0))::X)).loadCells PG (i:=0) (by simp)
   have e0:Tk (some a) 1 0=a:=by
    have h1:=l.1
    obtain ⟨b,o,sp⟩:=a
    simp only at h1
    subst h1
    simp [Tk,addrOf,addr_add]
   rw [e0] at this
   exact this
  simp only [copyV,lenOf,TC,Pw h1,Q0,e1]
  rw [Nf (by omega)]
  simp only [Tq,u,O9]
  rw [Nh ⟨d,by simp;omega⟩]
  simp only [N0]
  rw [Nb6,Qq]
  congr 5
  obtain ⟨m,rfl⟩:∃m,n=m+1:=⟨n-1,by omega⟩
  rw [Pd]
  rfl
 simp only [n86,y,J,D,F,A,nb,j,Nn0,h,SB,Nat.reduceLT,NE,NG,Nat.reduceEqDiff,NF,reduceCtorEq,NK,place,Int.reduceLT]
 refine NL (fun k=>n-k) (fun k fr G=>1<=k/\k<=n/\fr 7=.slice (Sa H.length) n n/\fr 8=Vi k/\Chg [] H G/\NC G H.length=Vc (List.replicate k (Vi x)++List.replicate (n-k) (Vi 0))) 1
  ⟨Ng _,h1,rfl,by rfl,Chg.refl.app,NQ⟩ ?_
 intro k fr G ⟨v,w,f,q,r,hB⟩ s
 rw [NP N0l.eq_1]
 refine NI ?_
 by_cases e:k<n
 case neg=>
  obtain rfl:k=n:=by omega
  rw [Q4,List.replicate_zero,Na] at hB
  simp only [n86,r86,f,q,e,SB,Nat.reduceLT,NG,Nat.reduceEqDiff,NF,NH]
  exact t _ r.app (by rw [Nwq];exact (NZ.refl.app).cells hB) (by have:=ND hB;simp;omega)
 have g:NC (G++[]) H.length=Vc (List.replicate k (Vi x)++List.replicate (n-k) (Vi 0)):=(NZ.refl.app).cells hB
 have hc:=Nw5 (lim:=lim) (c:=n-k) (c':=n) g d (by omega) (by omega)
 have B:Uc 1 (.slice (Sa H.length) n n) (some (Vi k)) none none=some (.slice (some ⟨H.length,k,none⟩) (n-k) (n-k)):=by
  rw [Nge (lo:=k) (hi:=n) (by omega) (by rw [Nhm (by omega) (by omega),Ov]),Nf (by omega)];simp [addr_add]
 have C:Uc 1 (.slice (Sa H.length) n n) none (some (Vi k)) none=some (.slice (Sa H.length) k n):=by
  rw [Nge (lo:=0) (hi:=k) (by omega) (by rw [Nmv (by omega) (by omega),Ov]),Nf (by omega)];simp [addr_add]
 obtain ⟨K,e2,k2,z⟩:=OO (ND hB) (Vc (List.replicate (k+min k (n-k)) (Vi x)++List.replicate (n-k-min k (n-k)) (Vi 0)))
 have I:IntKind.i64.wrap ((k:Int)+((min k (n-k):Nat):Int))=((k+min k (n-k):Nat):Int):=by rw [NY (by omega) (by omega)];omega
 simp only [n86,f,q,e,B,C,hc,e2,I,SB,Nat.reduceLT,NG,Nat.reduceEqDiff,NF]
 exact s (k+min k (n-k)) _ _ ⟨by omega,by omega,f,rfl,(r.mut z (.inr (Ng _))).app,by rw [show n-(k+min k (n-k))=n-k-min k (n-k) by omega];exact (NZ.refl.app).cells k2⟩ (by omega)
def Que (lo:Nat) (G:NA) (p:Option Addr) (c:Nat) (q:List Nat):Prop:=∃R o cs,p=some ⟨R,o,none⟩/\NC G R=Vc cs/\o+q.length<=cs.length/\(cs.drop o).take q.length=q.flatMap Tn/\lo<=R/\(c=loose 1\/c=q.length)
theorem Que.sl {lo c:Nat} {G:NA} {p:Option Addr} {q:List Nat} (h:Que lo G p c q):Sl G Tn 1 p q:=by
 obtain ⟨R,o,cs,rfl,h1,h2,a,_⟩:=h
 exact ⟨rfl,fun _=>⟨false,cs,h1,by rw [Q0];exact h2,by rw [Q0];exact a⟩⟩
theorem Que.chg {lo c:Nat} {S:List Nat} {G G':NA} {p:Option Addr} {q:List Nat} (h:Que lo G p c q) (hc:Chg S G G') (hS:∀b∈S,b<lo):Que lo G' p c q:=by
 obtain ⟨R,o,cs,a,h1,h2,d,e,f⟩:=h
 exact ⟨R,o,cs,a,hc.cells h1 (fun g=>by have:=hS R g;omega),h2,d,e,f⟩
theorem Nx7 {e n lo hi:Nat} {a:Addr} {vlo vhi:Option Value} (b:U7 n n vlo vhi none=some (lo,hi,n)):Uc e (.slice (some a) n (loose e)) vlo vhi none=some (.slice (some (a.add (lo*e))) (hi-lo) (loose e)):=by
 unfold U7 at b
 simp only [Uc,TW,if_true]
 simp only [Ou] at b⊢
 have c:bounds unV n n (vlo.map Operand.const) (vhi.map Operand.const) none=some (lo,hi,n):=b
 rw [c]
 rfl
theorem Que.tail {lo c x:Nat} {G:NA} {p:Option Addr} {r:List Nat} (h:Que lo G p c (x::r)) (hl:r.length<2 ^ 60):∃i c',Uc 1 (.slice p (r.length+1) c) (some (Vi 1)) none none=some (.slice i r.length c')/\Que lo G i c' r:=by
 obtain ⟨R,o,cs,rfl,h1,h2,b,d,g⟩:=h
 simp only [Nk] at h2 b g
 have a:(cs.drop (o+1)).take r.length=r.flatMap Tn:=by
  have e:(x::r).flatMap Tn=Vi x::r.flatMap Tn:=rfl
  rw [e,Pn (by omega),Pt] at b
  exact (List.cons.inj b).2
 rcases g with rfl | rfl
 ·refine ⟨_,_,Nx7 (e:=1) (lo:=1) (hi:=r.length+1) (by rw [Nhm (by omega) (by omega)];rfl), ?_⟩
  exact ⟨R,o+1,cs,by simp [addr_add],h1,by omega,a,d,.inl rfl⟩
 ·refine ⟨_,_,Nge (e:=1) (lo:=1) (hi:=r.length+1) (by omega) (by rw [Nhm (by omega) (by omega)];rfl), ?_⟩
  by_cases hr:r.length+1=1
  ·have f:r=[]:=List.length_eq_zero_iff.1 (by omega)
   subst f
   exact ⟨R,o,cs,by simp,h1,by omega,by simp,d,.inr rfl⟩
  ·exact ⟨R,o+1,cs,by rw [Nf hr];simp [addr_add],h1,by omega,a,d,.inr (by omega)⟩
theorem Que.push {lo lim c x:Nat} {G:NA} {p:Option Addr} {q:List Nat} (h:Que lo G p c q) (n:lim<=lo) (m:lo<=G.length) (hl:q.length<2 ^ 30):∃a,OJ lim none 1 8 false (.slice p q.length c) (.slice (Sa G.length) 1 1) (G++[Vc [Vi x]])=some (.slice (Sa (G.length+1)) (q.length+1) (loose 1),a++[])/\Que lo a (Sa (G.length+1)) (loose 1) (q++[x])/\(∀b,b<lo->NC a b=NC G b)/\G.length<=a.length:=by
 obtain ⟨R,o,cs,rfl,h1,h2,i,r,j⟩:=h
 have e:=ND h1
 have d:NC (G++[Vc [Vi x]]) R=Vc cs:=by rw [NJ e];exact h1
 have e1:AM.loadCells (G++[Vc [Vi x]]) ⟨R,o,none⟩ (q.length*1)=some (q.flatMap Tn):=by
  simp only [PT,d,Q0]
  rw [Nh h2,i]
 have e2:AM.loadCells (G++[Vc [Vi x]]) ⟨G.length,0,none⟩ (1*1)=some [Vi x]:=by
  simp only [PT,NQ,Q0];rfl
 have f1:firstCells (G++[Vc [Vi x]]) 1 false (.slice (Sa G.length) 1 1)=some [Vi x]:=by
  simp only [firstCells,N8,if_false]
  rw [Nf (by decide),e2]
 have f2:lenOf (.slice (Sa G.length) 1 1)=some 1:=rfl
 have g:¬(1:Nat)=0:=by decide
 have e3:q.flatMap Tn++[Vi x]=(q++[x]).flatMap Tn:=by rw [Oy];rfl
 have f:∀a:NA,NC a (G.length+1)=Vc ((q++[x]).flatMap Tn)->Que lo a (Sa (G.length+1)) (loose 1) (q++[x]):=fun a l=>by
  refine ⟨G.length+1,0,_,rfl,l, ?_, ?_,by omega,.inl rfl⟩
  ·rw [PX RX];omega
  ·rw [Pa,Ol (by rw [PX RX];omega)]
 rcases j with rfl | rfl
 ·refine ⟨G.set R .dead++[Vc [Vi x],Vc ((q++[x]).flatMap Tn)], ?_,f _ (by rw [show G.length=(G.set R .dead).length by simp,OM];rfl),fun b k=>?_,by simp⟩
  ·simp only [OJ,f1,f2,e1,g,if_false,if_true,d]
   rw [Nf (by unfold OT loose;rw [false_or];omega)]
   simp only [show lim<=R by omega,if_true,place,e3,P9 _ _ e,Nr,Na]
   simp
  ·rw [NJ (by simp;omega)];exact OU (by omega)
 ·refine ⟨G++[Vc [Vi x],Vc ((q++[x]).flatMap Tn)], ?_,f _ (by rw [OM];rfl),fun b k=>NJ (by omega),by simp⟩
  simp only [OJ,f1,f2,e1,g,if_false]
  rw [Nf (by unfold OT;rw [false_or];omega),Nf (by unfold loose;omega),Nh (by omega),Nf (by omega)]
  simp [place,e3]
structure Firm (A:Nat) (pa:Option Addr) (Lb:Nat) (G1:NA) (w:List Value) (po:Option Addr) (ols:List Yn) (out:List (List Nat)) (l:List Pr) (co ca cv:Nat):Prop where
 hdr:w[2]? = some (.slice pa (2*l.length) ca)/\w[3]? = some (.slice po out.length co)/\w[4]? = some (.slice (Sa Lb) out.length cv)
 keep:∀G,Chg [Lb] G1 G->NC G A=Vc w/\Sl G Nc5 1 po ols/\(∀v,v<out.length->Sl G Tn 1 (gt ols v).1 (gt out v))/\Sl G enc2 2 pa (SC l)
 len:ols.length=out.length
 cut:∀v,v<out.length->(gt ols v).2.1=(gt out v).length
 lb:Lb<G1.length
section
variable {lim A Lb:Nat} {pa:Option Addr} {G1:NA} {w:List Value} {po:Option Addr} {ols:List Yn} {out:List (List Nat)} {l:List Pr} {co ca cv:Nat} {G:NA} {fr:Nat->Value} {K:List AItem} {Z:Value->NA->Prop}
theorem Ntj [OB] {L:List Int} {q:List Nat} {p:Option Addr} {c v cc:Nat} (V:Firm A pa Lb G1 w po ols out l co ca cv) (ho:OutOk l out) (am:lim<=Lb) (aq:out.length<2 ^ 29) (ap:(gt out v).length<2 ^ 40) (aw:l.length<2 ^ 40)
  (hB:Bfs l out L q (some v) 0) (hQ:Que G1.length G p c q) (ay:q.length+UW L<2 ^ 29) (hC:Chg [Lb] G1 G) (hL:NC G Lb=Vc (L.flatMap encI))
  (f0:fr 0=Vp A) (f3:fr 3=.slice p q.length c) (f4:fr 4=Vi v) (ac:fr 47=.slice (gt ols v).1 (gt out v).length cc) (ad:fr 48=Vi ((gt out v).length:Int)) (ae:fr 49=Vi 0)
  (hK:∀fr' G' d z N c',Chg [Lb] G1 G'->NC G' Lb=Vc (d.flatMap encI)->Que G1.length G' N c' z->Bfs l out d z (some v) (gt out v).length->z.length+UW d=q.length+UW L->fr' 0=Vp A->fr' 3=.slice N z.length c'->PQ E a63 lim K fr' G' Z) :
  PQ E a63 lim (.code (.loop Nvf)::.inBlock 2::K) fr G Z:=by
 refine NL (fun s:Nat×List Int×List Nat×Option Addr×Nat=>(gt out v).length-s.1) (fun s fr' G'=>s.1<=(gt out v).length/\Chg [Lb] G1 G'/\NC G' Lb=Vc (s.2.1.flatMap encI)/\Que G1.length G' s.2.2.2.1 s.2.2.2.2 s.2.2.1/\Bfs l out s.2.1 s.2.2.1 (some v) s.1/\s.2.2.1.length+UW s.2.1=q.length+UW L/\
   fr' 0=Vp A/\fr' 3=.slice s.2.2.2.1 s.2.2.1.length s.2.2.2.2/\fr' 4=Vi v/\fr' 47=.slice (gt ols v).1 (gt out v).length cc/\fr' 48=Vi ((gt out v).length:Int)/\fr' 49=Vi s.1) (0,L,q,p,c)
  ⟨Nx _,hC,hL,hQ,hB,rfl,f0,f3,f4,ac,ad,by rw [ae];rfl⟩ ?_
 rintro ⟨k,d,z,N,c'⟩ fr' G' ⟨hk,m,t,y,g,o,g0,P,U,r,f,u⟩ hN
 simp only at hk t y g o P u
 rw [NP Nvf.eq_1]
 refine NI ?_
 by_cases e:k<(gt out v).length
 case neg=>
  obtain rfl:k=(gt out v).length:=by omega
  simp only [n63,f,u,e,SB,seval,NG,NF]
  exact hK _ _ d z N c' m.app ((NZ.refl.app).cells t) (y.chg (S:=[]) Chg.refl.app (fun b C=>by cases C)) g o g0 P
 obtain ⟨w2,w3,w4⟩:=V.hdr
 obtain ⟨bA,sO,sU,bB⟩:=V.keep G' m
 have Q:=V.lb
 obtain ⟨a,D⟩:∃a,a=gt (gt out v) k:=⟨_,rfl⟩
 have aj:a∈Flow.outs out v:=by rw [D];exact PW e
 obtain ⟨o1,o2,o3⟩:=ho.ok v a aj
 obtain ⟨hv,a0,_⟩:=g.cur v rfl
 have H:=fun X=>(NZ.refl.app (X:=X)).cells bA
 have Y:=Nq1 (sU v hv) e
 have xU:=QM (sU v hv) e rfl
 rw [<-D] at Y
 have sA:Sl G' enc2 2 pa (SC l):=bB
 have W:=fun X=>(sA.app X).loadCells PN (i:=a) (by rw [RQ];omega)
 have xA:=QM (i:=a) (n:=2*l.length) sA (by omega) RQ
 simp only [VP o1,enc2] at W
 have F:=g.len
 have sL:Sl G' encI 1 (Sa Lb) d:=Sl.row PG t
 have M:=Um (i:=hd l a) sL (by omega)
 have T:=QM (i:=hd l a) (n:=out.length) sL o3 F
 have R:=Um (i:=v) sL (by omega)
 have an:=QM (i:=v) (n:=out.length) sL hv F
 rw [Ng0 (by omega)] at M R
 have av:=m.len
 have J:lim<=G'.length:=by omega
 have wk:IntKind.i64.wrap ((k:Int)+1)=((k+1:Nat):Int):=NS (by omega)
 by_cases hm:0<rm l a/\RH d (hd l a)<0
 case neg=>
  have B:Bfs l out d z (some v) (k+1):=g.next (by unfold Flow.outs;rw [<-D];exact hm)
  by_cases h1:0<rm l a
  ·have h2:¬RH d (hd l a)<0:=fun h=>hm ⟨h1,h⟩
   simp only [n63,g0,r,f,u,e,H,w2,w4,Y,xU,W,xA,J,M,T,wk,Nq h1,Nm h2,SB,seval,NG,NF,reduceCtorEq,place,NB]
   exact hN (k+1,d,z,N,c') _ _ ⟨by show k+1<=_;omega,m.app,(NZ.refl.app).cells t,y.chg (S:=[]) Chg.refl.app (fun b C=>by cases C),B,o,g0,P,U,r,f,rfl⟩ (by show (gt out v).length-(k+1)<(gt out v).length-k;omega)
  ·simp only [n63,g0,r,f,u,e,H,w2,Y,xU,W,xA,J,wk,Nm h1,SB,seval,NG,NF,reduceCtorEq,place,NB]
   exact hN (k+1,d,z,N,c') _ _ ⟨by show k+1<=_;omega,m.app,(NZ.refl.app).cells t,y.chg (S:=[]) Chg.refl.app (fun b C=>by cases C),B,o,g0,P,U,r,f,rfl⟩ (by show (gt out v).length-(k+1)<(gt out v).length-k;omega)
 obtain ⟨h1,h2⟩:=hm
 have B:=g.met ho (k:=k) (i:=a) e D.symm h1 h2
 have az:=Nes (L:=d) (v:=hd l a) (x:=RH d v+1) (by omega) h2 (by omega)
 have au:=g.hi v
 have wl:IntKind.i64.wrap (RH d v+1)=RH d v+1:=NY (by omega) (by omega)
 obtain ⟨O,e2,k2,m2⟩:=Uv (lim:=lim) (p:=Sa Lb) (i:=hd l a) PG rfl t am (by omega) (RH d v+1)
 simp only [encI] at e2
 have I:Chg [Lb] G1 (O++[Vc [Vi (hd l a:Int),Vi (rm l a)]]):=(m.mut m2 (.inl (by simp))).app
 have ak:Chg [Lb] G' (O++[Vc [Vi (hd l a:Int),Vi (rm l a)]]):=(Chg.refl.mut m2 (.inl (by simp))).app
 have ai:=y.chg ak (fun b C=>by rw [Nj] at C;omega)
 obtain ⟨G3,e3,Q3,K3,l3⟩:=Que.push (lim:=lim) (x:=hd l a) ai (by omega) I.len (by omega)
 simp only [Nr,Oe,Oa,Nb,Nk,Nl,Ny,P4,Nat.reduceAdd] at e3 Q3
 have ao:=fun X=>(NZ.refl.app (X:=X)).cells (V.keep O (m.mut m2 (.inl (by simp)))).1
 have el:=m2.len
 have aa:∀X,NC (O++Vc [Vi (hd l a:Int),Vi (rm l a)]::X) G'.length=Vc [Vi (hd l a:Int),Vi (rm l a)]:=fun X=>by rw [<-el,NQ];rfl
 have ag:Chg [Lb] G1 G3:=⟨Rb I.len l3,fun j hj hA=>(K3 j hj).trans (I.other j hj hA)⟩
 have ah:NC G3 Lb=Vc ((d.set (hd l a) (RH d v+1)).flatMap encI):=by rw [K3 Lb Q,NJ (ND k2)];exact k2
 simp only [n63,g0,P,U,r,f,u,e,H,w2,w4,Y,xU,W,xA,J,M,T,R,an,wk,Nq h1,Nq h2,wl,e2,aa,e3,SB,seval,NG,NF,reduceCtorEq,place,NB]
 exact hN (k+1,d.set (hd l a) (RH d v+1),z++[hd l a],Sa (O.length+2),loose 1) _ _ ⟨by show k+1<=_;omega,ag.app,(NZ.refl.app).cells ah,Q3.chg (S:=[]) Chg.refl.app (fun b C=>by cases C),B,by simp only [Nb,Nk,Nl];omega,g0,by simp only [Nb,Nk,Nl,Ny];exact rfl,U,r,f,rfl⟩ (by show (gt out v).length-(k+1)<(gt out v).length-k;omega)
end
section
variable {lim A Lb:Nat} {pa:Option Addr} {G1:NA} {w:List Value} {po:Option Addr} {ols:List Yn} {out:List (List Nat)} {l:List Pr} {co ca cv:Nat} {G:NA} {fr:Nat->Value} {K:List AItem} {Z:Value->NA->Prop}
theorem Npv [OB] {L:List Int} {q:List Nat} {p:Option Addr} {c:Nat} (k:Firm A pa Lb G1 w po ols out l co ca cv) (ho:OutOk l out) (H:lim<=Lb) (t:out.length<2 ^ 29) (o:∀v,(gt out v).length<2 ^ 40) (I:l.length<2 ^ 40)
  (hB:Bfs l out L q none 0) (hQ:Que G1.length G p c q) (J:q.length+UW L<2 ^ 29) (W:Chg [Lb] G1 G) (hL:NC G Lb=Vc (L.flatMap encI))
  (U:fr 0=Vp A) (f3:fr 3=.slice p q.length c)
  (Y:∀fr' G' j,Chg [Lb] G1 G'->NC G' Lb=Vc (j.flatMap encI)->Bfs l out j [] none 0->fr' 0=Vp A->PQ E a63 lim K fr' G' Z) :
  PQ E a63 lim (.code (.loop Nve)::.inBlock 0::K) fr G Z:=by
 refine NL (fun s:List Int×List Nat×Option Addr×Nat=>s.2.1.length+UW s.1) (fun s fr' G'=>Chg [Lb] G1 G'/\NC G' Lb=Vc (s.1.flatMap encI)/\Que G1.length G' s.2.2.1 s.2.2.2 s.2.1/\Bfs l out s.1 s.2.1 none 0/\s.2.1.length+UW s.1<2 ^ 29/\fr' 0=Vp A/\fr' 3=.slice s.2.2.1 s.2.1.length s.2.2.2) (L,q,p,c)
  ⟨W,hL,hQ,hB,J,U,f3⟩ ?_
 rintro ⟨j,q',P,c'⟩ fr' G' ⟨g,h,e,d,a,g0,f⟩ x
 simp only at h e d a f
 rw [NP Nve.eq_1]
 refine NI ?_
 match q',e,d,a,f,x with
 | [],e,d,a,f,x=>
   rw [Nl] at f
   simp only [n63,f,Nm (show ¬(0:Int)<0 by decide),SB,Nat.reduceLT,NG,NF]
   exact Y _ _ j g.app ((NZ.refl.app).cells h) d g0
 | v::r,e,d,a,f,x=>
   simp only [Nk] at f a
   obtain ⟨w2,w3,w4⟩:=k.hdr
   obtain ⟨T,Q,sU,bB⟩:=k.keep G' g
   have y:=fun X=>(NZ.refl.app (X:=X)).cells T
   obtain ⟨p2,c2,e2,R⟩:=e.tail (by omega)
   have O:=Nq1 (i:=0) e.sl (by simp)
   have xQ:∀(H1:NA),Wx 1 (.slice P (r.length+1) c') (Vi 0) H1=some (.pointer (some (Tk P 1 0)),H1):=fun H1=>QM (i:=0) (n:=r.length+1) e.sl (by omega) rfl c' .i64 H1
   rw [ZQ] at O
   have M:=(d.qin v Nn).1
   have m:=k.cut v M
   have N:=Nuy (i:=v) Q (by rw [k.len];exact M)
   have xO:=QM (i:=v) (n:=out.length) Q M k.len
   rw [m] at N
   have u:(0:Int)<((r.length+1:Nat):Int):=by omega
   simp only [n63,g0,f,Nq u,y,w3,O,xQ,e2,N,xO,SB,Nat.reduceLT,NG,Nat.reduceEqDiff,NF,reduceCtorEq]
   refine Ntj (A:=A) (pa:=pa) (G1:=G1) (v:=v) (cc:=(gt ols v).2.2) (q:=r) (p:=p2) (c:=c2) (L:=j) k ho H t (o v) I d.pop (R.chg (S:=[]) Chg.refl.app (fun b F=>by cases F)) (by omega) g.app ((NZ.refl.app).cells h) g0 rfl rfl rfl rfl rfl fun V G2 L2 q2 p3 c3 B C D z aa k0 k3=>?_
   refine NI ?_
   simp only [SB]
   exact x (L2,q2,p3,c3) _ _ ⟨B.app,(NZ.refl.app).cells C,D.chg (S:=[]) Chg.refl.app (fun b F=>by cases F),z.done (by unfold Flow.outs;omega),by show q2.length+UW L2<2 ^ 29;omega,k0,k3⟩ (by show q2.length+UW L2<(v::r).length+UW j;simp only [Nk];omega)
end
theorem Nrc {n:Nat}:(List.replicate n 0).flatMap Tn=List.replicate n (Value.int IntKind.i64 0):=by
 induction n with
 | zero=>rfl
 | succ n ih=>rw [Pd,N2,ih,Pd];rfl
theorem Ns2 (L:List Int):UW L<=L.length:=Rp _ _
theorem Nti [OB] {lim A:Nat} {pa:Option Addr} {G:NA} {vp vm vw vmost v4 v5:Value} {po:Option Addr} {ols:List Yn} {out:List (List Nat)} {l:List Pr} {co ca:Nat} {Q:Value->NA->Prop}
  (R:NC G A=Vc [vp,vm,.slice pa (2*l.length) ca,.slice po out.length co,v4,v5,vw,vmost]) (C:lim<=A) (ag:lim<=G.length)
  (g:∀G',Chg [A] G G'->Sl G' Nc5 1 po ols/\(∀v,v<out.length->Sl G' Tn 1 (gt ols v).1 (gt out v))/\Sl G' enc2 2 pa (SC l))
  (D:ols.length=out.length) (z:∀v,v<out.length->(gt ols v).2.1=(gt out v).length) (ho:OutOk l out) (h2:2<=out.length) (ah:out.length<2 ^ 28) (F:∀v,(gt out v).length<2 ^ 40) (Y:l.length<2 ^ 40)
  (hQ:∀G' Lb Bn cv cn L,Chg [A] G G'->G.length<=Lb->G.length<=Bn->Lb≠Bn->NC G' A=Vc [vp,vm,.slice pa (2*l.length) ca,.slice po out.length co,.slice (Sa Lb) out.length cv,.slice (Sa Bn) out.length cn,vw,vmost]->NC G' Lb=Vc (L.flatMap encI)->NC G' Bn=Vc ((List.replicate out.length 0).flatMap Tn)->L.length=out.length->LevOk l out (RH L)->(∀v,-1<=RH L v/\RH L v<out.length)->Q (.bool (decide (0<=RH L 1))) G') :
  NR E false lim 63 [Vp A] G Q:=by
 refine SE (by decide) e63 rfl ?_
 rw [b63,c63]
 generalize hn:out.length=n at *
 have Z:=Nq (show 0<=(n:Int)/\(n:Int)*8<=2 ^ 45/\(n:Int)<2 ^ 62 by omega)
 have N:=fun X=>(NZ.refl.app (X:=X)).cells R
 obtain ⟨G1,e1,k1,m1⟩:=OO (ND R) (Vc [vp,vm,.slice pa (2*l.length) ca,.slice po n co,v4,.slice (Sa G.length) n n,vw,vmost])
 have aa:=fun X=>(NZ.refl.app (X:=X)).cells k1
 have aj:=ND R
 simp only [n63,N,Z,Nn0,C,e1,aa,SB,Nat.reduceLT,NE,NG,Nat.reduceEqDiff,reduceCtorEq,NK,place,NB,Nat.reduceAdd,Nat.reduceLeDiff]
 obtain ⟨Lb,w⟩:∃Lb,Lb=(G1++[Vc (List.replicate n (Value.int IntKind.i64 0)),Vc [Value.int IntKind.i64 (-1)]]).length:=⟨_,rfl⟩
 have U:G1.length=G.length:=m1.len
 have ae:Lb=G.length+2:=by rw [w];simp;omega
 refine Npt (x:=-1) (by simp;omega) (by omega) (by omega) (Sl.row (ro:=false) PG (by rw [OM];rfl)) fun H2 e k V=>?_
 rw [<-w] at k V⊢
 have k2:=e.cells ((NZ.refl.app).cells k1) (by simp)
 have ac:=fun X=>(NZ.refl.app (X:=X)).cells k2
 have O:NC H2 G.length=Vc (List.replicate n (Value.int IntKind.i64 0)):=e.cells (by rw [<-U,NQ];rfl) (by simp)
 obtain ⟨H3,e3,k3,m3⟩:=OO (ND k2) (Vc [vp,vm,.slice pa (2*l.length) ca,.slice po n co,.slice (Sa Lb) n n,.slice (Sa G.length) n n,vw,vmost])
 have ad:=fun X=>(NZ.refl.app (X:=X)).cells k3
 have h:=m3.cells k (show Lb≠A by omega)
 obtain ⟨d,e4,k4,m4⟩:=Uv (lim:=lim) (p:=Sa Lb) (i:=0) PG rfl h (by omega) (by simp;omega) (0:Int)
 simp only [encI] at e4
 have xZ:∀(H1:NA),Wx 1 (.slice (Sa Lb) n n) (Vi 0) H1=some (.pointer (some (Tk (Sa Lb) 1 0)),H1):=fun H1=>QM (i:=0) (n:=n) (Sl.row (ro:=false) PG h) (by omega) (by simp) n .i64 H1
 have H:NC d A=Vc [vp,vm,.slice pa (2*l.length) ca,.slice po n co,.slice (Sa Lb) n n,.slice (Sa G.length) n n,vw,vmost]:=m4.cells k3 (by omega)
 have r:Chg [A] G G1:=Chg.refl.mut m1 (.inl (by simp))
 have s:Chg [A] G H2:=(r.app).trans' e fun j B=>by cases B
 have a:Chg [A] G d:=(s.mut m3 (.inl (by simp))).mut m4 (.inr (by omega))
 refine NI ?_
 simp only [n63,ac,e3,ad,C,xZ,e4,SB,Nat.reduceLT,NG,Nat.reduceEqDiff,reduceCtorEq,NK,place,NB,Nat.reduceAdd,Nat.reduceLeDiff]
 have ak:=a.len
 have y:Lb<d.length:=ND k4
 have hF:Firm A pa Lb d [vp,vm,.slice pa (2*l.length) ca,.slice po n co,.slice (Sa Lb) n n,.slice (Sa G.length) n n,vw,vmost] po ols out l co ca n:=by
  refine ⟨by rw [hn];exact ⟨rfl,rfl,rfl⟩,fun G' t=>?_,by rw [hn];exact D,by rw [hn];exact z,y⟩
  have S:Chg [A] G G':=a.trans' t fun j B T=>by rw [Nj] at B;omega
  obtain ⟨a1,a2,a3⟩:=g G' S
  exact ⟨t.cells H (by rw [Nj];omega),a1,by rw [hn];exact a2,a3⟩
 have m:=Bfs.start (l:=l) (out:=out) (by omega)
 rw [hn] at m
 refine Npv (A:=A) (pa:=pa) (Lb:=Lb) (G1:=d) (L:=(List.replicate n (-1)).set 0 0) (q:=[0]) (p:=Sa d.length) (c:=1) hF ho (by omega) (by omega) F Y m ⟨d.length,0,[Vi 0],rfl,by rw [NQ];rfl,by simp,rfl,Ng _,.inr rfl⟩ ?_ Chg.refl.app ((NZ.refl.app).cells k4) rfl (by simp only [Nk,Nl,Ny,FB]) fun ai M L5 f u b g0=>?_
 ·have:=Ns2 ((List.replicate n (-1:Int)).set 0 0)
  simp at this⊢;omega
 have W:=b.len
 have I:=f.cells H (by rw [Nj];omega)
 have J:=fun X=>(NZ.refl.app (X:=X)).cells I
 have K:Sl M encI 1 (Sa Lb) L5:=Sl.row PG u
 have lV:=Um (i:=1) K (by omega)
 rw [Ng0 (by omega)] at lV
 have xV:∀(H1:NA),Wx 1 (.slice (Sa Lb) n n) (Vi 1) H1=some (.pointer (some (Tk (Sa Lb) 1 1)),H1):=fun H1=>QM (i:=1) (n:=n) K (by omega) (by omega) n .i64 H1
 refine NI ?_
 simp only [n63,r63,g0,J,lV,xV,SB,Nat.reduceLT,NG,NF,NH]
 have o:Chg [A] G M:=a.trans' f fun j B T=>by rw [Nj] at B;omega
 have P:NC M G.length=Vc (List.replicate n (Value.int IntKind.i64 0)):=f.cells (m4.cells (m3.cells O (by omega)) (by omega)) (by rw [Nj];omega)
 refine hQ _ Lb G.length n n L5 o.app (by omega) (Ng _) (by omega) ((NZ.refl.app).cells I) ((NZ.refl.app).cells u) ?_ (by omega) b.end fun v=>⟨b.lo v,by have:=b.hi v;omega⟩
 rw [Nrc]
 exact (NZ.refl.app).cells P
structure OS (Bo:Nat) (Y:List Nat) (G:NA) (ols:List Yn) (out:List (List Nat)):Prop where
 ou:NC G Bo=Vc (ols.flatMap Nc5)
 us:∀v,v<out.length->Own (Bo+1) G Tn 1 (gt ols v).1 (gt ols v).2.2 (gt out v)/\(gt ols v).2.1=(gt out v).length
 len:ols.length=out.length
 s1:∀u v a b,u<out.length->v<out.length->u≠v->(gt ols u).1=some a->(gt ols v).1=some b->a.block≠b.block
 sy:∀b∈Y,b<G.length/\b≠Bo/\∀u a,u<out.length->(gt ols u).1=some a->a.block≠b
theorem NU {p:Option Addr} {b:Nat}:b∈QC p↔∃a,p=some a/\a.block=b:=by
 cases p with
 | none=>simp [QC]
 | some a=>simp [QC];exact eq_comm
theorem RJ {α:Type} {lo e c:Nat} {G G':NA} {enc:α->List Value} {p:Option Addr} {q:List α} (h:Own lo G enc e p c q) (f:∀a,p=some a->NC G' a.block=NC G a.block):Own lo G' enc e p c q:=by
 rcases h with h | ⟨R,h1,h2,b,d⟩
 ·exact .inl h
 ·exact .inr ⟨R,h1,h2,by rw [f _ h1];exact b,d⟩
theorem OS.sim {Bo:Nat} {Y:List Nat} {G G':NA} {ols:List Yn} {out:List (List Nat)} (h:OS Bo Y G ols out) (f:NC G' Bo=NC G Bo) (g:∀u a,u<out.length->(gt ols u).1=some a->NC G' a.block=NC G a.block) (hl:G.length<=G'.length):OS Bo Y G' ols out:=
 ⟨by rw [f];exact h.ou,fun v d=>⟨RJ (h.us v d).1 fun a e=>g v a d e,(h.us v d).2⟩,h.len,h.s1,fun b c=>⟨Nat.lt_of_lt_of_le (h.sy b c).1 hl,(h.sy b c).2⟩⟩
theorem OS.push {lim Bo f x:Nat} {Y:List Nat} {G:NA} {ols:List Yn} {out:List (List Nat)} (h:OS Bo Y G ols out) (hl:lim<=Bo) (o:f<out.length) (hb:(gt out f).length<2 ^ 30) :
  ∃n l c',VQ lim (some (G.length+1)) 1 8 false (.slice (gt ols f).1 (gt out f).length (gt ols f).2.2) (.slice (Sa G.length) 1 1) (G++[Vc [Vi x],.dead])=some (.slice (Sa (G.length+1)) ((gt out f).length+1) c',n++[])/\
   (∀Z,AM.storeAt lim (n++Z) (Tk (Sa Bo) 1 f) [.slice (Sa (G.length+1)) ((gt out f).length+1) c']=some (l++Z))/\
   OS Bo Y l (ols.set f (Sa (G.length+1),(gt out f).length+1,c')) (out.set f (gt out f++[x]))/\(∀b,b<Bo\/b∈Y->NC l b=NC G b)/\(∀b,b<Bo->NC n b=NC G b)/\G.length+2<=l.length:=by
 obtain ⟨r,O⟩:=h.us f o
 have D:=ND h.ou
 have T:∀j,(∀a,(gt ols f).1=some a->j≠a.block)\/¬(∀a,(gt ols f).1=some a->j≠a.block):=fun _=>Classical.em _
 obtain ⟨n,X,c',N,z,W,t,S,J,_⟩:=Own.moreD r (lim':=lim) (d:=G.length+1) (bytes:=8) (by omega) RX (by decide) [x] (by simp;unfold OT;omega) (by simp;omega) (by omega) [Vc [Vi x],.dead] (by omega) (by simp) (x:=.slice (Sa G.length) 1 1) (str:=false)
  (QH (m:=[x]) (Sl.row (ro:=false) RX (by rw [NQ];rfl))) rfl
 simp only [Nk,Nl,Ny,Na] at N z t
 have hp:=J (by simp)
 subst hp
 have A:=(z.block rfl).2
 simp only at A
 have V:NC n Bo=Vc (ols.flatMap Nc5):=(t Bo D fun a c=>by have:=(r.block c).1;omega).trans h.ou
 obtain ⟨l,Q,U,w⟩:=Uv (lim:=lim) (p:=Sa Bo) (i:=f) VK rfl V hl (by rw [h.len];exact o) (Sa (G.length+1),(gt out f).length+1,c')
 have I:f<ols.length:=by rw [h.len];exact o
 have y:∀j,j<G.length->j≠Bo->(∀a,(gt ols f).1=some a->j≠a.block)->NC l j=NC G j:=fun j R hB hn=>(w.other j hB).trans (t j R hn)
 have B:∀u,gt (ols.set f (Sa (G.length+1),(gt out f).length+1,c')) u=if u=f then (Sa (G.length+1),(gt out f).length+1,c') else gt ols u:=fun u=>gt_set I
 have C:∀u,gt (out.set f (gt out f++[x])) u=if u=f then gt out f++[x] else gt out u:=fun u=>gt_set o
 refine ⟨n,l,c', ?_,Q,⟨U,fun v k=>?_,by simp [h.len],fun u v a b q k K c hb=>?_,fun b F=>?_⟩,fun b hb=>?_,fun b hb=>t b (by omega) fun a c=>by have:=(r.block c).1;omega,by have:=w.len;omega⟩
 ·rw [Own.appL r,Na];exact N
 ·rw [Ph] at k
  rw [B,C]
  by_cases g:v=f
  ·subst g
   rw [Nh rfl,Nh rfl]
   refine ⟨z.mut w fun a c e=>by cases c;simp only at e;omega,by simp⟩
  ·rw [Nf g,Nf g]
   refine ⟨RJ (h.us v k).1 fun a c=>?_,(h.us v k).2⟩
   have H:=(h.us v k).1.block c
   exact y a.block H.2 (by omega) fun a' E=>h.s1 v f a a' k o g c E
 ·rw [Ph] at q k
  rw [B] at c hb
  by_cases s:u=f
  ·rw [Nh s] at c
   rw [Nf (by omega)] at hb
   cases c
   have:=((h.us v k).1.block hb).2
   simp only;omega
  ·rw [Nf s] at c
   by_cases g:v=f
   ·rw [Nh g] at hb
    cases hb
    have:=((h.us u q).1.block c).2
    simp only;omega
   ·rw [Nf g] at hb
    exact h.s1 u v a b q k K c hb
 ·obtain ⟨P,L,M⟩:=h.sy b F
  refine ⟨by have:=w.len;omega,L,fun u a q c=>?_⟩
  rw [Ph] at q
  rw [B] at c
  split at c
  ·cases c;simp only;omega
  ·exact M u a q c
 ·rcases hb with hb | hb
  ·exact y b (by omega) (by omega) fun a c=>by have:=(r.block c).1;omega
  ·obtain ⟨P,L,M⟩:=h.sy b hb
   exact y b P L fun a c e=>M f a o c e.symm
structure JS (A Bo:Nat) (X:List Nat) (G:NA) (vp vm v4 v5 vw vmost:Value) (pa:Option Addr) (ca co:Nat) (ols:List Yn) (out:List (List Nat)) (l:List Pr):Prop where
 hdr:NC G A=Vc [vp,vm,.slice pa (2*l.length) ca,.slice (Sa Bo) out.length co,v4,v5,vw,vmost]
 ar:Own (Bo+1) G enc2 2 pa ca (SC l)
 os:OS Bo (QC pa++X) G ols out
 ab:A<Bo
 ax:∀b∈X,b∉QC pa/\b≠A
theorem OS.withY {Bo:Nat} {Y c:List Nat} {G:NA} {ols:List Yn} {out:List (List Nat)} (h:OS Bo Y G ols out) (d:∀b∈c,b<G.length/\b≠Bo/\∀u a,u<out.length->(gt ols u).1=some a->a.block≠b):OS Bo c G ols out:=⟨h.ou,h.us,h.len,h.s1,d⟩
theorem Nsb {l m:List Pr}:SC (l++m)=SC l++SC m:=Oy
theorem Ng5 [OB] {lim A Bo f t:Nat} {r:Int} {X:List Nat} {G:NA} {vp vm v4 v5 vw vmost:Value} {pa:Option Addr} {ca co:Nat} {ols:List Yn} {out:List (List Nat)} {l:List Pr} {Q:Value->NA->Prop}
  (h:JS A Bo X G vp vm v4 v5 vw vmost pa ca co ols out l) (ac:lim<=A) (L:f<out.length) (ht:t<out.length) (hb:∀v,(gt out v).length<2 ^ 29) (a1:l.length<2 ^ 29)
  (hQ:∀G' ao P D,JS A Bo X G' vp vm v4 v5 vw vmost ao P co D (Ve out f t (2*l.length)) (l++[⟨t,f,r,0⟩])->(∀b,(b<Bo/\b≠A)\/b∈X->NC G' b=NC G b)->G.length<=G'.length->Q (Vi ((2*l.length:Nat):Int)) G') :
  NR E false lim 61 [Vp A,Vi f,Vi t,Vi r] G Q:=by
 refine SE (by decide) e61 rfl ?_
 rw [b61,c61]
 have j:=h.ab
 have O:=fun X=>(NZ.refl.app (X:=X)).cells h.hdr
 obtain ⟨G2,e2,O2,C2,aa⟩:=Own.moreF h.ar (lim':=lim) (bytes:=16) (by omega) PN (by decide) [((t:Int),r),((f:Int),0)] (by simp) (by rw [RQ];simp;unfold OT;omega) (by rw [RQ];simp;omega) [Vc [Vi t,Vi r,Vi f,Vi 0]] (x:=.slice (Sa G.length) 2 2) (str:=false)
  (QH (m:=[((t:Int),r),((f:Int),(0:Int))]) (Sl.row (ro:=false) PN (by rw [NQ];rfl))) rfl
 rw [RQ] at e2
 simp only [Nb,Nk,Nl,Ny,Nat.reduceAdd] at e2 O2 aa
 have p:∀b∈QC pa,Bo<b/\b<G.length:=fun b hb=>by
  obtain ⟨a,rfl,rfl⟩:=NU.1 hb
  have:=h.ar.block rfl;omega
 have k2:=C2.cells h.hdr (fun k=>by have:=p _ k;omega)
 have ae:=fun X=>(NZ.refl.app (X:=X)).cells k2
 obtain ⟨c,e3,k3,m3⟩:=OO (ND k2) (Vc [vp,vm,.slice (Sa (G.length+1)) (2*l.length+2) (loose 2),.slice (Sa Bo) out.length co,v4,v5,vw,vmost])
 have ag:=fun X=>(NZ.refl.app (X:=X)).cells k3
 have aw:=ND h.hdr
 have T:=ND h.os.ou
 have ay:G.length+1<c.length:=by have:=m3.len;omega
 have d:∀b,b<G.length->b≠A->b∉QC pa->NC c b=NC G b:=fun b hb hA hp=>(m3.other b hA).trans (C2.other b hb hp)
 have F:OS Bo (QC (Sa (G.length+1))++X) c ols out:=by
  refine (h.os.sim (d Bo T (by omega) fun k=>by have:=p _ k;omega) (fun u a M o=>?_) (by omega)).withY fun b hb=>?_
  ·have Y:=(h.os.us u M).1.block o
   exact d a.block Y.2 (by omega) fun k=>(h.os.sy a.block (Nz _ k)).2.2 u a M o rfl
  ·rcases Nv.1 hb with hb | hb
   ·simp only [QC,Nj] at hb
    subst hb
    exact ⟨by omega,by omega,fun u a M o=>by have:=(h.os.us u M).1.block o;omega⟩
   ·obtain ⟨y1,y2,y3⟩:=h.os.sy b (N1 _ hb)
    exact ⟨by omega,y2,y3⟩
 obtain ⟨s,g,c5,e5,e6,q,J,K4,az⟩:=F.push (lim:=lim) (f:=f) (x:=2*l.length) (by omega) L (by have:=hb f;omega)
 have H:Sl c Nc5 1 (Sa Bo) ols:=Sl.row VK F.ou
 have z:=h.os.len
 have B:=Nuy (i:=f) H (by omega)
 rw [(h.os.us f L).2] at B
 have au:=QM (i:=f) (n:=out.length) H L z
 have ah:=fun X=>(NZ.refl.app (X:=X)).cells ((K4 A j).trans k3)
 have k5:NC g A=_:=(J A (.inl j)).trans k3
 have ai:=fun X=>(NZ.refl.app (X:=X)).cells k5
 have ad:(out.set f (gt out f++[2*l.length])).length=out.length:=Ph ..
 have S:gt (out.set f (gt out f++[2*l.length])) t=if t=f then gt out f++[2*l.length] else gt out t:=gt_set L
 have V:(gt (out.set f (gt out f++[2*l.length])) t).length<2 ^ 30:=by
  rw [S]
  have:=hb f;have:=hb t
  split<;>simp<;>omega
 obtain ⟨w,N,c7,e7,e8,an,K,K6,a0⟩:=q.push (lim:=lim) (f:=t) (x:=2*l.length+1) (by omega) (by omega) V
 have I:Sl g Nc5 1 (Sa Bo) (ols.set f (Sa (c.length+1),(gt out f).length+1,c5)):=Sl.row VK q.ou
 have C:=Nuy (i:=t) I (by simp;omega)
 rw [(q.us t (by omega)).2] at C
 have av:=QM (i:=t) (n:=out.length) I ht (by simp;omega)
 have aj:=fun X=>(NZ.refl.app (X:=X)).cells ((K6 A j).trans k5)
 have k7:NC N A=_:=(K A (.inl j)).trans k5
 have wl:IntKind.i64.wrap (((2*l.length:Nat):Int)+1)=((2*l.length+1:Nat):Int):=NS (by omega)
 have ak:NC (((s++[]).set c.length Blk.dead).set (c.length+1) Blk.dead) A=Vc [vp,vm,.slice (Sa (G.length+1)) (2*l.length+2) (loose 2),.slice (Sa Bo) out.length co,v4,v5,vw,vmost]:=by rw [OU (by omega),OU (by omega)];exact ah []
 have ap:((((s++[]).set c.length Blk.dead).set (c.length+1) Blk.dead).set c.length (NC (s++[]) c.length)).set (c.length+1) (NC (s++[]) (c.length+1))=s++[]:=Su c.length [0,1] (s++[])
 have am:NC (((w++[]).set g.length Blk.dead).set (g.length+1) Blk.dead) A=Vc [vp,vm,.slice (Sa (G.length+1)) (2*l.length+2) (loose 2),.slice (Sa Bo) out.length co,v4,v5,vw,vmost]:=by rw [OU (by omega),OU (by omega)];exact aj []
 have aq:((((w++[]).set g.length Blk.dead).set (g.length+1) Blk.dead).set g.length (NC (w++[]) g.length)).set (g.length+1) (NC (w++[]) (g.length+1))=w++[]:=Su g.length [0,1] (w++[])
 simp only [n61,r61,ak,ap,am,aq,O,e2,ae,ac,e3,ag,au,B,e5,e6,ai,av,C,wl,e7,e8,SB,seval,NG,NF,reduceCtorEq,NK,place,NB,NH]
 have R:2*(l++[(⟨t,f,r,0⟩:Pr)]).length=2*l.length+2:=by simp;omega
 have U:SC (l++[(⟨t,f,r,0⟩:Pr)])=SC l++[((t:Int),r),((f:Int),0)]:=Nsb
 have hY:G.length+1∈QC (some (⟨G.length+1,0,none⟩:Addr))++X:=Nz _ (by simp [QC])
 have O7:Own (Bo+1) N enc2 2 (Sa (G.length+1)) (loose 2) (SC l++[((t:Int),r),((f:Int),0)]):=RJ ((O2.mut m3 fun a o e=>by cases o;simp only at e;omega).le (by omega)) fun a o=>by
  cases o
  exact (K _ (.inr hY)).trans (J _ (.inr hY))
 refine hQ (N++[]) (Sa (G.length+1)) (loose 2) ((ols.set f (Sa (c.length+1),(gt out f).length+1,c5)).set t (Sa (g.length+1),(gt (out.set f (gt out f++[2*l.length])) t).length+1,c7)) ⟨?_, ?_, ?_,j,fun b y=>⟨fun k=>?_,(h.ax b y).2⟩⟩ (fun b hb=>?_) (by simp;omega)
 ·rw [R,WR]
  exact (NZ.refl.app).cells k7
 ·rw [U];exact O7.app _
 ·rw [Na];exact an
 ·simp only [QC,Nj] at k
  have:=(h.os.sy b (N1 _ y)).1
  omega
 ·rw [Na]
  rcases hb with ⟨hb,W⟩ | hb
  ·exact (K b (.inl hb)).trans ((J b (.inl hb)).trans (d b (by omega) W fun k=>by have:=p _ k;omega))
  ·have Z:=h.os.sy b (N1 _ hb)
   exact (K b (.inr (N1 _ hb))).trans ((J b (.inr (N1 _ hb))).trans (d b Z.1 (h.ax b hb).2 (h.ax b hb).1))
def YK (l:Leg) (dl:Int):Nat->Nat->List (Leg×Int)
 | 0,_=>[]
 | k+1,d=>UN l dl d++YK l dl k (d+1)
theorem range_split {f:Nat->List (Leg×Int)}:∀(k d:Nat),(List.range (d+k)).flatMap f=(List.range d).flatMap f++(List.range k).flatMap fun j=>f (d+j)
 | 0,d=>by simp
 | k+1,d=>by rw [<-P4,Rl,Oy,range_split k d,Rl,Oy,Nr];simp
theorem Ncg {l:Leg} {dl:Int}:∀(k d:Nat),YK l dl k d=(List.range k).flatMap fun j=>UN l dl (d+j)
 | 0,d=>rfl
 | k+1,d=>by
   have:=range_split (f:=fun j=>UN l dl (d+j)) k 1
   rw [Qo 1 k] at this
   rw [YK,Ncg k (d+1),this]
   simp [Qo,Nat.add_left_comm]
theorem Nq0 {l:Leg} {dl:Int} (hl:Fine l) {d0 n:Nat} (a:(d0:Int)=max 0 (dl-20160) / 1440) (hn:d0+n=(dl / 1440+1).toNat):Nl3 l dl=YK l dl n d0:=by
 unfold Nl3
 rw [<-hn,range_split,Ncg]
 have:(List.range d0).flatMap (UN l dl)=[]:=by
  rw [List.flatMap_eq_nil_iff]
  intro d hd
  rw [List.mem_range] at hd
  exact Nda hl (by omega)
 rw [this,Oa]
theorem Xq [OB] {lim Y Bd Bn Bt:Nat} {pp pl:Option Addr} {cp cl np:Nat} {L:List Leg} {to dl:Int} {H:NA} {Q:Value->NA->Prop} (I:List (Leg×Int)->List Nat->NA->Prop) (K:List Nat)
  (B:∀rest X X' H H',I rest X H->Chg [] H H'->(∀b∈X',b∈X\/H.length<=b/\b<H'.length)->I rest X' H')
  (O:∀x rest X H,lim<=H.length->x∈NN L to dl->(∀j∈K,j∈X)->I (x::rest) X H->YS E false lim Y [.agg (encL x.1).toArray,.agg #[Vi x.2,Vi (x.2+x.1.mins)]] H fun v H'=>v=.bool true/\I rest X H'/\H.length<=H'.length/\∀j∈X,NC H' j=NC H j)
  (ag:NC H Bd=Vc [Vi dl]) (ap:NC H Bn=Vc (netV pp np cp pl L.length cl)) (aq:NC H Bt=Vc [Vi to]) (hs:Sl H encL 8 pl L) (hK:Bd∈K/\Bn∈K/\Bt∈K/\∀a,pl=some a->L≠[]->a.block∈K) (av:∀j∈K,j<H.length) (hF:∀l∈L,Fine l) (bc:L.length<2 ^ 40) (ay:0<=dl) (be:dl<=OQ) (ba:lim<=H.length)
  (h0:I (NN L to dl) K H) (hQ:∀H',I [] K H'->(∀j∈K,NC H' j=NC H j)->H.length<=H'.length->Q (.tuple #[]) H') :
  NR E false lim 74 [.func (.yield Y) #[] #[],Vp Bd,Vp Bn,Vp Bt] H Q:=by
 refine SE (by decide) e74 rfl ?_
 rw [b74,c74]
 have mt:OQ=1051898399:=rfl
 have ah:=fun X=>(NZ.refl.app (X:=X)).cells ag
 have ai:=fun X=>(NZ.refl.app (X:=X)).cells ap
 have wd:IntKind.i64.wrap (dl-20160)=dl-20160:=NY (by omega) (by omega)
 simp only [n74,ah,ai,Sj,wd,N38,SB,seval,NG,NF,NK]
 generalize az:max 0 (dl-20160)=fm
 have W:∀G,(∀j∈K,NC G j=NC H j)->NC G Bd=Vc [Vi dl]/\NC G Bt=Vc [Vi to]/\Sl G encL 8 pl L:=fun G hG=>by
  refine ⟨by rw [hG _ hK.1];exact ag,by rw [hG _ hK.2.2.1];exact aq, ?_⟩
  cases hp:pl with
  | none=>rw [hp] at hs;exact hs
  | some a=>
    rw [hp] at hs
    refine ⟨hs.1,fun N=>?_⟩
    obtain ⟨ro,c,k1,k2⟩:=hs.2 N
    exact ⟨ro,c,by rw [hG _ (hK.2.2.2 a hp N)];exact k1,k2⟩
 have grow:∀(G:NA) Z,H.length<=G.length->(∀j∈K,NC G j=NC H j)->∀j∈K,NC (G++Z) j=NC H j:=fun G Z hl hG j S=>by
  rw [NJ (by have:=av j S;omega)];exact hG j S
 refine NL (fun i=>L.length-i) (fun i fr G=>i<=L.length/\fr 0=.func (.yield Y) #[] #[]/\fr 1=Vp Bd/\fr 3=Vp Bt/\fr 5=Vi fm/\fr 15=.slice pl L.length cl/\fr 16=Vi L.length/\fr 17=Vi i/\H.length<=G.length/\(∀j∈K,NC G j=NC H j)/\I ((L.drop i).flatMap (Xf to dl)) K G) 0
  ⟨Nx _,rfl,rfl,rfl,rfl,rfl,rfl,by rfl,by simp,grow H _ (Ng _) fun _ _=>rfl,B _ _ _ _ _ h0 Chg.refl.app fun b hb=>.inl hb⟩ ?_
 intro i fr G ⟨hi,g0,g1,g3,g5,D,t,F,ad,J,q⟩ hN
 rw [NP N0r.eq_1]
 obtain ⟨bd,bt,sL⟩:=W G J
 refine NI ?_
 by_cases p:i<L.length
 case neg=>
  obtain rfl:i=L.length:=by omega
  rw [R3,Qs] at q
  simp only [n74,r74,t,F,p,SB,seval,NG,NF]
  exact hQ _ (B _ _ _ _ _ q Chg.refl.app fun b hb=>.inl hb) (grow G _ ad J) (by simp;omega)
 have an:=PW (l:=L) (i:=i) p
 have ac:(L.drop i).flatMap (Xf to dl)=Xf to dl (gt L i)++(L.drop (i+1)).flatMap (Xf to dl):=by rw [Pn p,N2,OI p]
 have T:∀x∈Xf to dl (gt L i),x∈NN L to dl:=fun x hx=>List.mem_flatMap.2 ⟨_,an,hx⟩
 have lL:=fun X=>(sL.app X).loadCells NW p
 have xL:=fun c (kk:IntKind) (H1:NA)=>sL.idx (c:=c) (k:=kk) (H1:=H1) p
 have w1:IntKind.i64.wrap ((i:Int)+1)=((i+1:Nat):Int):=NS (by omega)
 have aj:=hF _ an
 have ae:=fun X=>(NZ.refl.app (X:=X)).cells bt
 have am:lim<=G.length:=by omega
 rw [ac] at q
 generalize gt L i=l at *
 generalize u:(L.drop (i+1)).flatMap (Xf to dl)=rest at *
 by_cases hf:l.frm=to
 ·have e0:Xf to dl l=[]:=Nh hf
  rw [e0,Oa] at q
  simp only [n74,g3,D,t,F,p,lL,xL,w1,NW,QB,NM,am,ae,Nq hf,SB,seval,NG,NF,place,NB]
  exact hN (i+1) _ _ ⟨by omega,g0,g1,g3,g5,D,t,rfl,by simp;omega,grow G _ ad J,by rw [u];exact B _ _ _ _ _ q Chg.refl.app fun b hb=>.inl hb⟩ (by omega)
 obtain ⟨d0,R⟩:∃d0:Nat,(d0:Int)=fm / 1440:=⟨(fm / 1440).toNat,by omega⟩
 obtain ⟨n,N⟩:∃n,d0+n=(dl / 1440+1).toNat:=⟨(dl / 1440+1).toNat-d0,by omega⟩
 have e1:Xf to dl l=YK l dl n d0:=by
  have:Xf to dl l=Nl3 l dl:=Nf hf
  rw [this,Nq0 aj (by rw [az];exact R) N]
 rw [e1] at q T
 have wq:IntKind.i64.wrap (Int.tdiv fm 1440)=(d0:Int):=by rw [Pv (by omega),R];exact NY (by omega) (by omega)
 simp only [n74,g3,g5,D,t,F,p,lL,xL,NW,QB,NM,am,ae,Nm hf,wq,SB,seval,NG,NF,place,NB]
 refine NL (fun j=>n-j) (fun j f s=>j<=n/\f 0=.func (.yield Y) #[] #[]/\f 1=Vp Bd/\f 3=Vp Bt/\f 5=Vi fm/\f 7=Vp G.length/\f 8=Vi ((d0+j:Nat):Int)/\f 15=.slice pl L.length cl/\f 16=Vi L.length/\f 17=Vi i/\G.length<s.length/\(∀j∈K,NC s j=NC H j)/\NC s G.length=Vc (encL l)/\I (YK l dl (n-j) (d0+j)++rest) (G.length::K) s) 0
  ⟨Nx _,g0,g1,g3,g5,rfl,by rfl,D,t,F,by simp,grow G _ ad J,by rw [NQ];rfl,B _ _ _ _ _ q Chg.refl.app fun b hb=>by
   rcases Nu.1 hb with rfl | hb
   ·exact .inr ⟨Ng _,by simp⟩
   ·exact .inl hb⟩ ?_
 intro j f s ⟨S,q0,q1,q3,U,V,q8,w,y,z,a5,g,b7,e⟩ M
 rw [NP N0s.eq_1]
 obtain ⟨ao,bb,bf⟩:=W s g
 have o:=fun X=>(NZ.refl.app (X:=X)).cells ao
 have C:=fun X=>(NZ.refl.app (X:=X)).cells b7
 have A:IntKind.i64.wrap (Int.tdiv dl 1440)=dl / 1440:=by rw [Pv ay];exact NY (by omega) (by omega)
 have r:lim<=s.length:=by omega
 refine NI ?_
 by_cases a1:j<n
 case neg=>
  obtain rfl:j=n:=by omega
  have hc:¬((d0+j:Nat):Int)<=dl / 1440:=by omega
  rw [Q4,YK,Oa] at e
  simp only [n74,q1,q8,z,o,A,Nm hc,w1,SB,seval,NG,NF]
  exact hN (i+1) _ _ ⟨by omega,q0,q1,q3,U,w,y,rfl,by simp;omega,grow s _ (by omega) g,by rw [u];exact B _ _ _ _ _ e Chg.refl.app fun b hb=>.inl (Ni _ hb)⟩ (by omega)
 have hc:((d0+j:Nat):Int)<=dl / 1440:=by omega
 have aa:YK l dl (n-j) (d0+j)=UN l dl (d0+j)++YK l dl (n-(j+1)) (d0+(j+1)):=by rw [show n-j=n-(j+1)+1 by omega,YK];rfl
 rw [aa,Nr] at e
 have m:=fun (H:NA) (mp:Bool) (lim:Nat) (Q:Value->NA->Prop)=>N31 (mp:=mp) (lim:=lim) (d:=((d0+j:Nat):Int)) (H:=H) (Q:=Q) aj
 rw [Nh ⟨by omega,by omega⟩,Ov] at m
 have wj:IntKind.i64.wrap (((d0+j:Nat):Int)+1)=((d0+(j+1):Nat):Int):=by rw [NY (by omega) (by omega)];omega
 by_cases hg:goes l (d0+j)=true
 case neg=>
  have P:UN l dl (d0+j)=[]:=Nf fun h=>hg h.1
  rw [P,Oa] at e
  have ed:U5 l (d0+j)=none:=Nf hg
  rw [ed] at m
  simp only [WS] at m
  simp only [n74,NW,OH,q1,V,q8,o,C,A,Nq hc,m,r,wj,SB,seval,NE,NG,NF,QV,place,NB]
  exact M (j+1) _ _ ⟨by omega,q0,q1,q3,U,V,rfl,w,y,z,by simp;omega,grow s _ (by omega) g,(NZ.refl.app).cells b7,B _ _ _ _ _ e Chg.refl.app fun b hb=>.inl hb⟩ (by omega)
 have ed:U5 l (d0+j)=some (1440*((d0+j:Nat):Int)+l.dep,1440*((d0+j:Nat):Int)+l.dep+l.mins):=Nh hg
 rw [ed] at m
 simp only [WS] at m
 by_cases h1:1440*((d0+j:Nat):Int)+l.dep<fm
 ·have P:UN l dl (d0+j)=[]:=Nf fun h=>by have:=h.2.1;omega
  rw [P,Oa] at e
  simp only [n74,NW,OH,q1,U,V,q8,o,C,A,Nq hc,m,r,wj,Nq h1,SB,seval,NE,NG,NF,QV,place,NB]
  exact M (j+1) _ _ ⟨by omega,q0,q1,q3,U,V,rfl,w,y,z,by simp;omega,grow s _ (by omega) g,(NZ.refl.app).cells b7,B _ _ _ _ _ e Chg.refl.app fun b hb=>.inl hb⟩ (by omega)
 by_cases h2:dl<1440*((d0+j:Nat):Int)+l.dep+l.mins
 ·have P:UN l dl (d0+j)=[]:=Nf fun h=>by have:=h.2.2;omega
  rw [P,Oa] at e
  simp only [n74,NW,OH,q1,U,V,q8,o,C,A,Nq hc,m,r,wj,Nm h1,Nq h2,SB,seval,NE,NG,NF,QV,place,NB]
  exact M (j+1) _ _ ⟨by omega,q0,q1,q3,U,V,rfl,w,y,z,by simp;omega,grow s _ (by omega) g,(NZ.refl.app).cells b7,B _ _ _ _ _ e Chg.refl.app fun b hb=>.inl hb⟩ (by omega)
 have P:UN l dl (d0+j)=[(l,1440*((d0+j:Nat):Int)+l.dep)]:=Nh ⟨hg,by omega,by omega⟩
 have a0:(l,1440*((d0+j:Nat):Int)+l.dep)∈NN L to dl:=T _ (by
  rw [Ncg]
  exact List.mem_flatMap.2 ⟨j,List.mem_range.2 a1,by rw [P];exact Rm _⟩)
 rw [P] at e
 generalize 1440*((d0+j:Nat):Int)+l.dep=a at *
 simp only [n74,NW,OH,q0,q1,U,V,q8,o,C,A,Nq hc,m,r,Nm h1,Nm h2,SB,seval,NE,NG,NF,QV,reduceCtorEq,place,NB]
 refine YS.mono (O (l,a) _ (G.length::K) _ (by simp;omega) a0 (fun j S=>Ni _ S) (B _ _ _ _ _ e Chg.refl.app fun b hb=>.inl hb)) fun v G3 ⟨hv,au,a4,ak⟩=>?_
 subst hv
 simp only [Nb,Nk,Nl,Ny] at a4
 have a2:∀j∈K,NC G3 j=NC H j:=fun j S=>(ak j (Ni _ S)).trans (grow s _ (by omega) g j S)
 have aw:NC G3 G.length=Vc (encL l):=(ak _ Nn).trans ((NZ.refl.app).cells b7)
 refine NI ?_
 simp only [n74,q8,wj,SB,seval,NG,NF,QV]
 exact M (j+1) _ _ ⟨by omega,q0,q1,q3,U,V,rfl,w,y,z,by simp;omega,grow G3 _ (by omega) a2,(NZ.refl.app).cells aw,B _ _ _ _ _ au Chg.refl.app fun b hb=>.inl hb⟩ (by omega)
theorem Zn [OB] {lim:Nat} {a:List Value} {to dl:Int} {H:NA} {Q:Value->NA->Prop} (b:Q (.func (.func 74) #[] #[Vp (H.length+2),Vp H.length,Vp (H.length+1)]) (H++[Vc a,Vc [Vi to],Vc [Vi dl]])) :
  NR E false lim 45 [.agg a.toArray,Vi to,Vi dl] H Q:=by
 refine SE (by decide) e45 rfl ?_
 rw [b45,c45]
 simp only [n45,r45,SB,seval,NG,NK,place,NB,NH]
 exact b
end Go.Proofs.YtohnaffmcjbpoaaGreat.Fn


namespace Go.Proofs.YtohnaffmcjbpoaaGreat.Fn
open Go.AM Go.AM.Sym
section
variable {κ ν:Type} [DecidableEq κ]
def TN (k:κ):List (κ×ν)->Option ν
 | []=>none
 | (k',v)::l=>if k'=k then some v else TN k l
def XE (k:κ) (v:ν):List (κ×ν)->List (κ×ν)
 | []=>[(k,v)]
 | (k',v')::l=>if k'=k then (k',v)::l else (k',v')::XE k v l
def fk (k:κ):List (κ×ν)->Nat->Option (Nat×ν)
 | [],_=>none
 | (k',v)::l,i=>if k'=k then some (i,v) else fk k l (i+1)
theorem W9 (k:κ):∀(l:List (κ×ν)) (i:Nat),(fk k l i).map (·.2)=TN k l
 | [],_=>rfl
 | (k',v)::l,i=>by
   unfold fk TN
   by_cases h:k'=k
   ·rw [Nh h,Nh h];rfl
   ·rw [Nf h,Nf h];exact W9 k l (i+1)
theorem Ng8 {k:κ} {v v':ν}:∀{l:List (κ×ν)} {i j:Nat},fk k l i=some (j,v)->i<=j/\j-i<l.length/\l.set (j-i) (k,v')=XE k v' l
 | [],_,_,h=>by cases h
 | (k2,v2)::l,i,j,h=>by
   unfold fk at h
   unfold XE
   by_cases h2:k2=k
   ·rw [Nh h2] at h
    cases h
    rw [Nh h2,Q4,h2]
    exact ⟨Ng _,by simp,rfl⟩
   ·rw [Nf h2] at h
    obtain ⟨b,c,a⟩:=Ng8 (v':=v') h
    rw [Nf h2]
    have e:j-i=(j-(i+1))+1:=by omega
    rw [e,Pj,a]
    exact ⟨by omega,by simp only [Nk];omega,rfl⟩
theorem Ng9 {k:κ} {v':ν}:∀{l:List (κ×ν)} {i:Nat},fk k l i=none->l++[(k,v')]=XE k v' l
 | [],_,_=>rfl
 | (k2,v2)::l,i,h=>by
   unfold fk at h
   unfold XE
   by_cases h2:k2=k
   ·rw [Nh h2] at h;cases h
   ·rw [Nf h2] at h
    rw [Nf h2,<-Ng9 h,Oe]
theorem XZ {k k':κ} {v:ν}:∀{l:List (κ×ν)},TN k' (XE k v l)=if k'=k then some v else TN k' l
 | []=>by
   unfold XE TN
   by_cases h:k'=k
   ·rw [Nh h.symm,Nh h]
   ·rw [Nf fun q=>h q.symm,Nf h];rfl
 | (k2,v2)::l=>by
   unfold XE
   by_cases h2:k2=k
   ·rw [Nh h2]
    subst h2
    by_cases h:k'=k2
    ·rw [Nh h];unfold TN;rw [Nh h.symm]
    ·rw [Nf h];unfold TN;rw [Nf fun q=>h q.symm,Nf fun q=>h q.symm]
   ·rw [Nf h2]
    by_cases h:k2=k'
    ·have:¬k'=k:=fun q=>h2 (h.trans q)
     rw [Nf this];unfold TN;rw [Nh h,Nh h]
    ·unfold TN;rw [Nf h,Nf h];exact XZ
def Sw (kv:κ->Value) (vv:ν->Value) (es:List (κ×ν)):List (Value×Value):=es.map fun x=>(kv x.1,vv x.2)
def No5 (kv:κ->Value):Prop:=∀a b,VI (kv a) (kv b)=some (decide (a=b))
variable {kv:κ->Value} {vv:ν->Value}
theorem TP (a:No5 kv) (k:κ):∀(es:List (κ×ν)) (i:Nat),findKey (kv k) (Sw kv vv es) i=some ((fk k es i).map fun x=>(x.1,vv x.2))
 | [],_=>rfl
 | (k',v)::l,i=>by
   unfold Sw
   rw [Pk]
   unfold findKey fk
   rw [a]
   by_cases h:k'=k
   ·rw [Nh h,No h.symm];rfl
   ·rw [Nf h,Nw fun q=>h q.symm]
    exact TP a k l (i+1)
end
def kM (k:Int×Int):Value:=.agg #[Vi k.1,Vi k.2]
def vI (n:Int):Value:=Vi n
theorem Nv7:No5 kM:=fun a b=>by
 obtain ⟨c,d⟩:=a;obtain ⟨b1,b2⟩:=b
 simp only [kM,VI,UL,if_true,N0,Bool.and_true,Prod.mk.injEq,Bool.decide_and]
 rfl
theorem Nv6 {k:Int×Int}:TZ (.ints [.i64,.i64]) (kM k)=true:=by simp [kM,TZ,Te]
end Go.Proofs.YtohnaffmcjbpoaaGreat.Fn


namespace Go.Proofs.YtohnaffmcjbpoaaGreat.Fn
open Go.AM Go.AM.Sym Go.Net Go.Flow
def UA (PL:List (Int×Int)) (p:Int×Int) (w:Bool):List (Int×Int):=if w=true/\p∉PL then PL++[p] else PL
def esZ (PL:List (Int×Int)):List ((Int×Int)×Int):=PL.map fun p=>(p,0)
theorem Nbj {p:Int×Int}:∀{PL:List (Int×Int)},TN p (esZ PL)=if p∈PL then some 0 else none
 | []=>rfl
 | a::PL=>by
   have ih:=Nbj (p:=p) (PL:=PL)
   unfold esZ at ih⊢
   rw [Pk]
   unfold TN
   by_cases h:a=p
   ·rw [Nh h,Nh (by rw [h];exact Nn)]
   ·rw [Nf h,ih]
    by_cases h2:p∈PL
    ·rw [Nh h2,Nh (Ni _ h2)]
    ·rw [Nf h2,Nf (by rw [Nu,not_or];exact ⟨fun e=>h e.symm,h2⟩)]
theorem N2n {p:Int×Int} {PL:List (Int×Int)} (h:p∉PL) (i:Nat):fk p (esZ PL) i=none:=by
 have:=W9 p (esZ PL) i
 rw [Nbj,Nf h] at this
 cases hf:fk p (esZ PL) i with
 | none=>rfl
 | some x=>rw [hf] at this;cases this
theorem Njw {p:Int×Int} {PL:List (Int×Int)} (h:p∈PL) (i:Nat):∃j,fk p (esZ PL) i=some (j,0):=by
 have:=W9 p (esZ PL) i
 rw [Nbj,Nh h] at this
 cases hf:fk p (esZ PL) i with
 | none=>rw [hf] at this;cases this
 | some x=>
   obtain ⟨j,v⟩:=x
   rw [hf] at this
   cases this
   exact ⟨j,rfl⟩
structure PS (A M:Nat) (X:List Nat) (G:NA) (pp:Option Addr) (cp:Nat) (vs:List Value) (PL:List (Int×Int)):Prop where
 hdr:NC G A=Vc (.slice pp PL.length cp::.map (some M)::vs)
 own:Own (A+1) G enc2 2 pp cp PL
 mp:NC G M=.map (Sw kM vI (esZ PL))
 ma:M<A
 nd:PL.Nodup
 sx:∀b∈X,b<G.length/\b≠A/\b≠M/\b∉QC pp
theorem Ndp [OB] {lim A M:Nat} {X:List Nat} {G:NA} {pp:Option Addr} {cp:Nat} {vs:List Value} {PL:List (Int×Int)} {p:Int×Int} {w:Bool} {Q:Value->NA->Prop} (h:PS A M X G pp cp vs PL) (P:lim<=M) (hl:PL.length<2 ^ 29) (hv:vs.length=6)
  (D:∀G' T I,PS A M X G' T I vs (UA PL p w)->(∀b∈X,NC G' b=NC G b)->G.length<=G'.length->Q (.tuple #[]) G') :
  NR E false lim 59 [Vp A,.agg #[Vi p.1,Vi p.2],.bool w] G Q:=by
 refine SE (by decide) e59 rfl ?_
 rw [b59,c59]
 have s:=h.ma
 have g:=fun X=>(NZ.refl.app (X:=X)).cells h.hdr
 have z:M<G.length:=by
  rcases Oo M G.length with h1 | h1
  ·exact h1
  ·have:=h.mp;unfold NC at this;rw [Nc,N9 h1] at this;cases this
 have i:∀X,NC (G++X) M=.map (Sw kM vI (esZ PL)):=fun X=>by rw [NJ z];exact h.mp
 have f:findKey (.agg #[Vi p.1,Vi p.2]) (Sw kM vI (esZ PL)) 0=some ((fk p (esZ PL) 0).map fun x=>(x.1,vI x.2)):=TP (vv:=vI) Nv7 p (esZ PL) 0
 have r:TZ (.ints [.i64,.i64]) (.agg #[Vi p.1,Vi p.2])=true:=Nv6 (k:=p)
 have ac:(PL.length:Int)=PL.length:=rfl
 by_cases o:p∈PL
 ·obtain ⟨j,hj⟩:=Njw o 0
  rw [hj] at f
  simp only [N0,vI] at f
  have u:UA PL p w=PL:=Nf fun N=>N.2 o
  have q:∀Z,PS A M X (G++Z) pp cp vs PL:=fun Z=>⟨g Z,h.own.app Z,i Z,s,h.nd,fun b c=>⟨by have:=(h.sx b c).1;simp;omega,(h.sx b c).2⟩⟩
  cases w with
  | true=>
    simp only [n59,r59,g,i,f,r,SB,seval,NG,QV,reduceCtorEq,NK,place,NB]
    exact D _ pp cp (by rw [u];exact q _) (fun b c=>NJ (h.sx b c).1) (by simp)
  | false=>
    simp only [n59,r59,g,i,f,r,SB,seval,NG,reduceCtorEq,NK,place,NB]
    exact D _ pp cp (by rw [u];exact q _) (fun b c=>NJ (h.sx b c).1) (by simp)
 rw [N2n o 0] at f
 simp only [Ou] at f
 cases w with
 | false=>
   have u:UA PL p false=PL:=Nf fun N=>by cases N.1
   simp only [n59,r59,g,i,f,r,SB,seval,NG,reduceCtorEq,NK,place,NB]
   exact D _ pp cp (by rw [u];exact ⟨g _,h.own.app _,i _,s,h.nd,fun b c=>⟨by have:=(h.sx b c).1;simp;omega,(h.sx b c).2⟩⟩) (fun b c=>NJ (h.sx b c).1) (by simp)
 | true=>
   have u:UA PL p true=PL++[p]:=Nh ⟨rfl,o⟩
   obtain ⟨l,e2,k2,F⟩:=OO z (.map (Sw kM vI (esZ PL)++[(.agg #[Vi p.1,Vi p.2],Vi 0)]))
   have aa:=ND h.hdr
   have el:=F.len
   have v:=(F.other A (by omega)).trans h.hdr
   have y:=fun X=>(NZ.refl.app (X:=X)).cells v
   have L:=(h.own.mut F fun a n e=>by have:=(h.own.block n).1;omega).app [Vc [Vi p.1,Vi p.2]]
   obtain ⟨W,p',c',e4,O4,C4,K4,O,S,_⟩:=Own.moreD L (lim':=lim) (d:=l.length+2) (bytes:=16) (by omega) PN (by decide) [p] (by simp;unfold OT;omega) (by simp;omega) (by simp;omega) [Vc [Vi p.1,Vi p.2],.dead] (by simp) (by simp) (x:=.slice (Sa (l.length+1)) 1 1) (str:=false)
    (QH (m:=[p]) (Sl.row (ro:=false) PN (by rw [Nr,OM];rfl))) rfl
   simp only [Nr,Oe,Oa,Nb,Nk,Nl,Ny,Na] at e4 O4 C4 K4 O
   have hp:=S (by simp)
   subst hp
   have J:OJ lim (some (l.length+2)) 2 16 false (.slice pp PL.length cp) (.slice (Sa (l.length+1)) 1 1) (l++[Vc [Vi p.1,Vi p.2],Vc [Vi p.1,Vi p.2],.dead])=some (.slice (Sa (l.length+2)) (PL.length+1) c',W++[]):=by rw [Na];exact e4
   have kk:∀b,b<l.length->(∀a,pp=some a->b≠a.block)->NC W b=NC l b:=fun b c R=>(K4 b (by omega) R).trans (NJ c)
   have B:=(kk A (by omega) fun a n=>by have:=(h.own.block n).1;omega).trans v
   have C:=fun X=>(NZ.refl.app (X:=X)).cells B
   obtain ⟨Y,e5,k5,t⟩:=OO (ND B) (Vc (.slice (Sa (l.length+2)) (PL.length+1) c'::.map (some M)::vs))
   have H:∀X,NC (l++Vc [Vi p.1,Vi p.2]::X) G.length=Vc [Vi p.1,Vi p.2]:=fun X=>by rw [<-el,NQ];rfl
   simp only [n59,r59,g,i,f,r,P,e2,y,H,J,C,show lim<=A by omega,e5,SB,seval,NG,QV,reduceCtorEq,NK,place,NB]
   have ez:esZ (PL++[p])=esZ PL++[(p,0)]:=by unfold esZ;rw [Pi];rfl
   have K:NC Y M=.map (Sw kM vI (esZ (PL++[p]))):=by
    rw [t.other M (by omega),kk M (by omega) fun a n=>by have:=(h.own.block n).1;omega,k2,ez]
    unfold Sw
    rw [Pi];rfl
   have q:PS A M X (Y++[]) (Sa (l.length+2)) c' vs (PL++[p]):=by
    refine ⟨by rw [Nb];exact (NZ.refl.app).cells k5,(O4.mut t fun a n e=>by cases n;simp only at e;omega).app _,by rw [NJ (by have:=t.len;omega)];exact K,s, ?_,fun b c=>?_⟩
    ·rw [Qa]
     exact ⟨h.nd,by simp,fun a n b c e=>by rw [Nj] at c;subst c;subst e;exact o n⟩
    ·obtain ⟨x1,U,V,x4⟩:=h.sx b c
     exact ⟨by have:=t.len;simp;omega,U,V,fun hm=>by simp only [QC,Nj] at hm;omega⟩
   refine D _ (Sa (l.length+2)) c' (by rw [u];exact q) (fun b c=>?_) (by have:=t.len;simp;omega)
   obtain ⟨x1,U,V,x4⟩:=h.sx b c
   rw [NJ (by have:=t.len;omega),t.other b U,kk b (by omega) fun a n e=>x4 (NU.2 ⟨a,n,e.symm⟩),F.other b V]
end Go.Proofs.YtohnaffmcjbpoaaGreat.Fn


namespace Go.Proofs.YtohnaffmcjbpoaaGreat.Fn
open Go.AM Go.AM.Sym Go.Net
theorem Nwa [OB] {mp:Bool} {lim:Nat} {n:Int} {H:NA} {Q:Value->NA->Prop}:NR E mp lim 97 [Vi n] H Q=Q (.bool false) H:=by
 refine pc (by decide) e97 rfl rfl ?_
 rw [b97,c97]
 simp only [n97,r97,SB,seval,NG,NF,reduceCtorEq,NK,NH]
def UE (a b:Int):Int:=if a<b then -1 else if b<a then 1 else 0
theorem Nmp [OB] {mp:Bool} {lim:Nat} {a b:Int} {H:NA} {Q:Value->NA->Prop}:NR E mp lim 68 [Vi a,Vi b] H Q=Q (Vi (UE a b)) H:=by
 refine pc (by decide) e68 rfl rfl ?_
 rw [b68,c68]
 simp only [n68,Nwa,SB,seval,NE,NG,NF,reduceCtorEq,NK]
 repeat' ((first | refine Yt (fun hw=>?_) (fun hw=>?_) | refine Y7 (fun hw=>?_) (fun hw=>?_) | refine Yu (fun hw=>?_) (fun hw=>?_) | refine Y8 (fun hw=>?_) (fun hw=>?_))<;>(try simp only [hw,n68,r68,SB,Nat.reduceLT,NG,Nat.reduceEqDiff,NF,reduceCtorEq,NK,NH]))
 all_goals simp [UE, *]
def orL:List Int->Int
 | []=>0
 | x::l=>if x≠0 then x else orL l
theorem Ntu {l:List Int} {i:Nat} (h:i<l.length):orL (l.drop i)=if gt l i≠0 then gt l i else orL (l.drop (i+1)):=by
 rw [Pn h,orL,OI h]
theorem N3z [OB] (mp:Bool) (lim:Nat) {p:Option Addr} {l:List Int} {cap:Nat} {H:NA} {Q:Value->NA->Prop} (q:Sl H encI 1 p l) (hn:l.length<2 ^ 62) :
  NR E mp lim 67 [.slice p l.length cap] H Q=Q (Vi (orL l)) H:=by
 refine pc (by decide) e67 rfl rfl ?_
 rw [b67,c67]
 simp only [n67,SB,seval,NG,reduceCtorEq,NK]
 refine NL (fun i=>l.length-i) (fun i fr G=>i<=l.length/\fr 6=.slice p l.length cap/\fr 7=Vi l.length/\fr 8=Vi i/\fr 3=Vi 0/\Sl G encI 1 p l/\
  orL l=orL (l.drop i)) 0 ⟨Nx _,rfl,rfl,by rfl,rfl,q.app _,rfl⟩ ?_
 intro i fr G ⟨hi,n,f,g,e,h,b⟩ o
 rw [NP N0t.eq_1]
 refine NI ?_
 by_cases a:i<l.length
 ·have j:=(h.app []).loadCell0 (fun _=>rfl) a (by decide)
  have d:=fun c (k:IntKind) (H1:NA)=>h.idx (c:=c) (k:=k) (H1:=H1) a
  have m:IntKind.i64.wrap ((i:Int)+1)=((i+1:Nat):Int):=NS (by omega)
  rw [Ntu a] at b
  simp only [n67,n,f,g,e,a,d,j,encI,SB,seval,NG,NF]
  repeat' ((first | refine Yt (fun hw=>?_) (fun hw=>?_) | refine Y7 (fun hw=>?_) (fun hw=>?_) | refine Yu (fun hw=>?_) (fun hw=>?_) | refine Y8 (fun hw=>?_) (fun hw=>?_))<;>(try simp only [hw,n67,r67,g,m,SB,Nat.reduceLT,NG,Nat.reduceEqDiff,NF,NH]))
  ·rw [b,Nh hw]
  ·refine o (i+1) _ _ ⟨by omega,n,f,rfl,e,h.app _, ?_⟩ (by omega)
   rw [b,Nf hw]
 ·obtain rfl:i=l.length:=by omega
  rw [R3,orL] at b
  simp only [n67,r67,f,g,e,a,b,SB,seval,NG,NF,NH]
def Ze:List Value->List Int
 | .int _ a::r=>a::Ze r
 | _=>[]
def M9:List Value->Bool
 | .int .i64 _::r=>M9 r
 | []=>true
 | _=>false
theorem Wi {j:IntKind} {a:Int} {r:List Value}:Ze (.int j a::r)=a::Ze r:=rfl
theorem Zd:Ze []=[]:=rfl
theorem XT {a:Int} {r:List Value}:M9 (Vi a::r)=M9 r:=id rfl
theorem Za:M9 []=true:=id rfl
theorem Nfk:∀c:List Value,M9 c=true->c=(Ze c).flatMap encI
 | [],_=>rfl
 | .int .i64 a::r,h=>by
   rw [Wi,N2,<-Nfk r h];rfl
theorem Nld [OB] {mp:Bool} {lim b n cap:Nat} {H:NA} {Q:Value->NA->Prop} (h1:isCells (NC H b)=true) (h2:M9 (cellsOf (NC H b))=true) (a:(Ze (cellsOf (NC H b))).length=n) (c:n<2 ^ 62) :
  NR E mp lim 67 [.slice (Sa b) n cap] H Q=Q (Vi (orL (Ze (cellsOf (NC H b))))) H:=by
 subst a
 rw [N3z mp lim (Sl.lit (fun _=>rfl) h1 (Nfk _ h2)) c]
end Go.Proofs.YtohnaffmcjbpoaaGreat.Fn


namespace Go.AM.Srt
open Go.AM Go.AM.Sym Go.Sort
variable {E:Env} {iz:Ids} [DT E E] [SortAt E iz] {α:Type} [Inhabited α] {enc:α->List Value} [EncOk enc iz]
def ltC {α:Type} (c:α->α->Int) (x y:α):Bool:=decide (c x y<0)
theorem N2j {G X:NA} {B lim cap n:Nat} {p:Option Addr} {c:α->α->Int} {cl:FuncId} {cs:List Value} {Q:Value->NA->Prop} (hp:p=Sa B) (hB:B<G.length) (hl:lim<=B) (R:n<2 ^ 61) (hc:∀(mp:Bool) (lim:Nat) (x y:α) (H:NA) (Q:Value->NA->Prop),NR E mp lim cl (.agg (enc x).toArray::.agg (enc y).toArray::cs) H Q=Q (Vi (c x y)) H) {d:Array α} {a b:Nat} (hd:d.size=n) (U:b<=n) (P:a<=b) :
  NR E false lim iz.INS [.slice p n cap,Vi a,Vi b,.func (.func cl) #[] cs.toArray] (DH enc G B d++X) Q=Q (.tuple #[]) (DH enc G B (insertionSort (ltC c) d a b)++X):=by
 refine runs (SortAt.INS (E:=E) (z:=iz)) ?_
 rw [N4m,Nzy]
 have D:IntKind.i64.wrap ((a:Int)+1)=((a+1:Nat):Int):=NS (by omega)
 simp only [Ni8,D,SB,seval,NG,NF,NK]
 refine NL (S:=Nat×Array α) (fun s=>b+1-s.1) (fun s fr H=>a<=s.1/\s.1<=b+1/\fr 0=.slice p n cap/\fr 1=Vi a/\fr 2=Vi b/\fr 3=.func (.func cl) #[] cs.toArray/\fr 8=Vi s.1/\
  H=DH enc G B s.2++X/\s.2.size=n/\insertionSort (ltC c) d a b=insOuter (ltC c) a b s.1 s.2) (a+1,d) ⟨by simp,by simp;omega,rfl,rfl,rfl,rfl,rfl,rfl,hd,rfl⟩ ?_
 rintro ⟨i,d1⟩ fr H ⟨h1,h2,g0,g1,C,N,w,rfl,o,he⟩ J
 simp only at h1 h2 w o he
 rw [NP (Nl7.eq_1 iz)]
 unfold insOuter at he
 by_cases l:i<b
 ·rw [Nh l] at he
  simp only [Ni8,C,w,l,SB,seval,NG,NF]
  refine NL (S:=Nat×Array α) (fun s=>s.1) (fun s fr H=>s.1<=i/\fr 0=.slice p n cap/\fr 1=Vi a/\fr 2=Vi b/\fr 3=.func (.func cl) #[] cs.toArray/\fr 8=Vi i/\fr 9=Vi s.1/\
   H=DH enc G B s.2++X/\s.2.size=n/\insInner (ltC c) a i d1=insInner (ltC c) a s.1 s.2) (i,d1) ⟨Ng _,g0,g1,C,N,w,rfl,by simp,o,rfl⟩ ?_
  rintro ⟨j,d2⟩ M T ⟨k1,v,q1,q2,q3,F,A,rfl,f,hi⟩ O
  simp only at k1 A f hi
  rw [NP (Nu7.eq_1 iz)]
  have q:IntKind.i64.wrap ((i:Int)+1)=((i+1:Nat):Int):=NS (by omega)
  by_cases g:a<j
  ·obtain ⟨j,rfl⟩:∃j',j=j'+1:=⟨j-1,by omega⟩
   have r:IntKind.i64.wrap (((j+1:Nat):Int)-1)=(j:Int):=QW (n:=j+1) (by omega) (by omega)
   have ld:=fun (X:NA) (d:Array α) (hd:d.size=n)=>Yr (X:=X) (d:=d) (i:=j) hp hB (EncOk.len (enc:=enc) (z:=iz)) (by omega)
   have u:=fun (X:NA) (d:Array α) (hd:d.size=n)=>Yr (X:=X) (d:=d) (i:=j+1) hp hB (EncOk.len (enc:=enc) (z:=iz)) (by omega)
   have st:=fun (X:NA) (d:Array α) (hd:d.size=n) (y:α)=>Yo (X:=X) (d:=d) (i:=j) (y:=y) hp hB hl (EncOk.len (enc:=enc) (z:=iz)) (by omega)
   have I:=fun (X:NA) (d:Array α) (hd:d.size=n) (y:α)=>Yo (X:=X) (d:=d) (i:=j+1) (y:=y) hp hB hl (EncOk.len (enc:=enc) (z:=iz)) (by omega)
   have L:=fun c (k:IntKind) (H:NA)=>VT (e:=iz.e) (i:=j) (n:=n) (c:=c) (k:=k) (H:=H) hp (by omega)
   have t:=fun c (k:IntKind) (H:NA)=>VT (e:=iz.e) (i:=j+1) (n:=n) (c:=c) (k:=k) (H:=H) hp (by omega)
   rw [insInner] at hi
   by_cases m:ltC c d2[j+1]! d2[j]! = true
   ·have h:c d2[j+1]! d2[j]!<0:=by simpa [ltC] using m
    simp only [Ni8,v,q1,q3,A,g,r,ld,u,st,I,L,t,f,hc,h,N4,(EncOk.len (enc:=enc) (z:=iz)),SB,seval,NE,NG,NF,reduceCtorEq,NB]
    refine O (j,swp d2 (j+1) j) _ _ ⟨by simp only;omega,v,q1,q2,q3,F,rfl,by simp [swp],by simp [swp,f], ?_⟩ (by simp only;omega)
    rw [hi];simp [g,m]
   ·have h:¬c d2[j+1]! d2[j]!<0:=by simpa [ltC] using m
    simp only [Ni8,v,q1,q3,F,A,g,r,ld,u,L,t,f,hc,h,q,SB,seval,NE,NG,NF,reduceCtorEq]
    refine J (i+1,d2) _ _ ⟨by simp only;omega,by simp only;omega,v,q1,q2,q3,rfl,by simp,f, ?_⟩ (by simp only;omega)
    rw [he,hi];simp [g,m]
  ·have K:¬(a:Int)<(j:Int):=by omega
   simp only [Ni8,q1,F,A,g,q,SB,seval,NG,NF]
   refine J (i+1,d2) _ _ ⟨by simp only;omega,by simp only;omega,v,q1,q2,q3,rfl,by simp,f, ?_⟩ (by simp only;omega)
   rw [he,hi]
   cases j with
   | zero=>rfl
   | succ j=>rw [insInner];simp [show ¬j+1 > a by omega]
 ·rw [Nf l] at he
  simp only [Ni8,N3o,C,w,l,he,SB,seval,NG,NF]
theorem N1w {G X:NA} {B lim cap n:Nat} {p:Option Addr} {c:α->α->Int} {cl:FuncId} {cs:List Value} {Q:Value->NA->Prop} (hp:p=Sa B) (hB:B<G.length) (hl:lim<=B) (v:n<2 ^ 61) (hc:∀(mp:Bool) (lim:Nat) (x y:α) (H:NA) (Q:Value->NA->Prop),NR E mp lim cl (.agg (enc x).toArray::.agg (enc y).toArray::cs) H Q=Q (Vi (c x y)) H) {d:Array α} {a b:Nat} (hd:d.size=n) (A:b<=n) (t:a<b) :
  NR E false lim iz.REV [.slice p n cap,Vi a,Vi b,.func (.func cl) #[] cs.toArray] (DH enc G B d++X) Q=Q (.tuple #[]) (DH enc G B (reverseRange d a b)++X):=by
 refine runs (SortAt.REV (E:=E) (z:=iz)) ?_
 rw [N6c,N2x]
 have m:IntKind.i64.wrap ((b:Int)-1)=((b-1:Nat):Int):=QW (by omega) (by omega)
 simp only [N2d,m,SB,seval,NG,NF,NK]
 have ld:=fun (i:Nat) (X:NA) (d:Array α) (hd:d.size=n) (hi:i<n)=>Yr (X:=X) (d:=d) (i:=i) hp hB (EncOk.len (enc:=enc) (z:=iz)) (by omega);have st:=fun (i:Nat) (X:NA) (d:Array α) (hd:d.size=n) (hi:i<n) (y:α)=>Yo (X:=X) (d:=d) (i:=i) (y:=y) hp hB hl (EncOk.len (enc:=enc) (z:=iz)) (by omega);have w:=fun (i:Nat) (hi:i<n) c (k:IntKind) (H:NA)=>VT (e:=iz.e) (i:=i) (n:=n) (c:=c) (k:=k) (H:=H) hp hi
 refine NL (S:=(Nat×Nat)×Array α) (fun s=>s.1.2+1-s.1.1) (fun s fr H=>s.1.1<=b/\s.1.2<b/\fr 0=.slice p n cap/\fr 8=Vi s.1.1/\fr 9=Vi s.1.2/\
  H=DH enc G B s.2++X/\s.2.size=n/\reverseRange d a b=reverseLoop s.1.1 s.1.2 s.2) ((a,b-1),d) ⟨by simp;omega,by simp;omega,rfl,rfl,rfl,rfl,hd,rfl⟩ ?_
 rintro ⟨⟨i,j⟩,d1⟩ fr H ⟨h1,h2,g0,h,l,rfl,g,he⟩ r
 simp only at h1 h2 h l g he
 rw [NP (Nu0.eq_1 iz)]
 unfold reverseLoop at he
 by_cases f:i<j
 ·rw [Nh f] at he
  have o:IntKind.i64.wrap ((i:Int)+1)=((i+1:Nat):Int):=NS (by omega)
  have q:IntKind.i64.wrap ((j:Int)-1)=((j-1:Nat):Int):=QW (by omega) (by omega)
  have hi:i<n:=by omega
  have u:j<n:=by omega
  simp only [N2d,g0,h,l,f,o,q,ld,st,w,Na,N4,(EncOk.len (enc:=enc) (z:=iz)),g,hi,u,SB,seval,NG,NF,reduceCtorEq,NB]
  refine r ((i+1,j-1),swp d1 i j) _ _ ⟨by simp only;omega,by simp only;omega,g0,rfl,rfl,by simp [swp],by simp [swp,g],he⟩ (by simp only;omega)
 ·rw [Nf f] at he
  simp only [N2d,N5o,h,l,f,he,SB,seval,NG,NF]
theorem Nx8 {G X:NA} {B lim cap n:Nat} {p:Option Addr} {c:α->α->Int} {cl:FuncId} {cs:List Value} {Q:Value->NA->Prop} (hp:p=Sa B) (hB:B<G.length) (hl:lim<=B) (N:n<2 ^ 61) (hc:∀(mp:Bool) (lim:Nat) (x y:α) (H:NA) (Q:Value->NA->Prop),NR E mp lim cl (.agg (enc x).toArray::.agg (enc y).toArray::cs) H Q=Q (Vi (c x y)) H) {d:Array α} {lo hi first:Nat} (hd:d.size=n) (O:first+hi<=n) (L:lo<=hi) :
  NR E false lim iz.SIFT [.slice p n cap,Vi lo,Vi hi,Vi first,.func (.func cl) #[] cs.toArray] (DH enc G B d++X) Q=Q (.tuple #[]) (DH enc G B (siftDown (ltC c) hi first lo d)++X):=by
 refine runs (SortAt.SIFT (E:=E) (z:=iz)) ?_
 rw [N4h,Nxg]
 generalize M:siftDown (ltC c) hi first lo d=T
 simp only [Naf,SB,seval,NG,NK]
 have ld:=fun (i:Nat) (X:NA) (d:Array α) (hd:d.size=n) (hi:i<n)=>Yr (X:=X) (d:=d) (i:=i) hp hB (EncOk.len (enc:=enc) (z:=iz)) (by omega);have st:=fun (i:Nat) (X:NA) (d:Array α) (hd:d.size=n) (hi:i<n) (y:α)=>Yo (X:=X) (d:=d) (i:=i) (y:=y) hp hB hl (EncOk.len (enc:=enc) (z:=iz)) (by omega);have F:=fun (i:Nat) (hi:i<n) c (k:IntKind) (H:NA)=>VT (e:=iz.e) (i:=i) (n:=n) (c:=c) (k:=k) (H:=H) hp hi
 refine NL (S:=Nat×Array α) (fun s=>hi-s.1) (fun s fr H=>s.1<=hi/\fr 0=.slice p n cap/\fr 2=Vi hi/\fr 3=Vi first/\fr 4=.func (.func cl) #[] cs.toArray/\fr 10=Vi s.1/\
  H=DH enc G B s.2++X/\s.2.size=n/\T=siftDown (ltC c) hi first s.1 s.2) (lo,d) ⟨L,rfl,rfl,rfl,rfl,rfl,rfl,hd,M.symm⟩ ?_
 rintro ⟨r,d1⟩ fr H ⟨h1,g0,q,t,u,f,rfl,a,he⟩ K
 simp only at h1 f a he
 rw [NP (Nn6.eq_1 iz)]
 unfold siftDown at he
 have g:IntKind.i64.wrap (2*(r:Int))=((2*r:Nat):Int):=by rw [NY (by omega) (by omega)];omega
 have j:IntKind.i64.wrap (((2*r:Nat):Int)+1)=((2*r+1:Nat):Int):=NS (by omega)
 have l:IntKind.i64.wrap (((2*r+1:Nat):Int)+1)=((2*r+2:Nat):Int):=NS (by omega)
 have m:IntKind.i64.wrap ((first:Int)+((2*r+1:Nat):Int))=((first+(2*r+1):Nat):Int):=by rw [NY (by omega) (by omega)];omega
 have v:IntKind.i64.wrap (((first+(2*r+1):Nat):Int)+1)=((first+(2*r+2):Nat):Int):=NS (by omega)
 have J:IntKind.i64.wrap ((first:Int)+((2*r+2:Nat):Int))=((first+(2*r+2):Nat):Int):=by rw [NY (by omega) (by omega)];omega
 have o:IntKind.i64.wrap ((first:Int)+(r:Int))=((first+r:Nat):Int):=by rw [NY (by omega) (by omega)];omega
 by_cases c1:2*r+1>=hi
 ·rw [Rz c1] at he
  have b:hi<=2*r+1:=c1
  simp only [Naf,Nno,q,f,g,j,b,he,SB,seval,NG,NF,reduceCtorEq]
 ·rw [dif_neg c1] at he
  have b:¬hi<=2*r+1:=c1
  have A:first+(2*r+1)<n:=by omega
  have C:first+r<n:=by omega
  by_cases c2:2*r+1+1<hi/\c d1[first+(2*r+1)]! d1[first+(2*r+2)]!<0
  ·obtain ⟨c2,c3⟩:=c2
   have D:first+(2*r+2)<n:=by omega
   have w:2*r+2<hi:=by omega
   rw [Nh (by simp only [Ob,N3,ltC];exact ⟨c2,by rw [show first+(2*r+1)+1=first+(2*r+2) by omega];exact c3⟩)] at he
   by_cases c4:c d1[first+r]! d1[first+(2*r+2)]!<0
   ·rw [Nf (by simp [ltC,c4]),Rz w] at he
    simp only [Naf,g0,q,t,u,f,g,j,l,m,v,J,o,b,w,c3,c4,ld,st,F,Na,N4,(EncOk.len (enc:=enc) (z:=iz)),a,A,C,D,hc,SB,seval,NE,NG,NF,QV,reduceCtorEq,NB]
    refine K (2*r+2,swp d1 (first+r) (first+(2*r+2))) _ _ ⟨by simp only;omega,g0,q,t,u,rfl,by simp [swp],by simp [swp,a],he⟩ (by simp only;omega)
   ·rw [Nh (by simp [ltC,c4])] at he
    simp only [Naf,Nno,g0,q,t,u,f,g,j,l,m,v,J,o,b,w,c3,c4,ld,F,Na,a,A,C,D,hc,he,SB,seval,NE,NG,NF,QV,reduceCtorEq]
  ·rw [Nf (by simp only [Ob,N3,ltC];rw [show first+(2*r+1)+1=first+(2*r+2) by omega];exact c2)] at he
   by_cases c4:c d1[first+r]! d1[first+(2*r+1)]!<0
   ·rw [Nf (by simp [ltC,c4])] at he
    by_cases I:2*r+2<hi
    ·have c3:¬c d1[first+(2*r+1)]! d1[first+(2*r+2)]!<0:=fun h=>c2 ⟨by omega,h⟩
     have D:first+(2*r+2)<n:=by omega
     simp only [Naf,g0,q,t,u,f,g,j,l,m,v,o,b,I,c3,c4,ld,st,F,Na,N4,(EncOk.len (enc:=enc) (z:=iz)),a,A,C,D,hc,SB,seval,NE,NG,NF,QV,reduceCtorEq,NB]
     refine K (2*r+1,swp d1 (first+r) (first+(2*r+1))) _ _ ⟨by simp only;omega,g0,q,t,u,rfl,by simp [swp],by simp [swp,a],he⟩ (by simp only;omega)
    ·simp only [Naf,g0,q,t,u,f,g,j,l,m,o,b,I,c4,ld,st,F,Na,N4,(EncOk.len (enc:=enc) (z:=iz)),a,A,C,hc,SB,seval,NE,NG,NF,QV,reduceCtorEq,NB]
     refine K (2*r+1,swp d1 (first+r) (first+(2*r+1))) _ _ ⟨by simp only;omega,g0,q,t,u,rfl,by simp [swp],by simp [swp,a],he⟩ (by simp only;omega)
   ·rw [Nh (by simp [ltC,c4])] at he
    by_cases I:2*r+2<hi
    ·have c3:¬c d1[first+(2*r+1)]! d1[first+(2*r+2)]!<0:=fun h=>c2 ⟨by omega,h⟩
     have D:first+(2*r+2)<n:=by omega
     simp only [Naf,Nno,g0,q,t,u,f,g,j,l,m,v,o,b,I,c3,c4,ld,F,Na,a,A,C,D,hc,he,SB,seval,NE,NG,NF,QV,reduceCtorEq]
    ·simp only [Naf,Nno,g0,q,t,u,f,g,j,l,m,o,b,I,c4,ld,F,Na,a,A,C,hc,he,SB,seval,NE,NG,NF,QV,reduceCtorEq]
variable {E:Env} {iz:Ids} [DT E E] [SortAt E iz] {α:Type} [Inhabited α] {enc:α->List Value} [EncOk enc iz]
theorem Nkq {α:Type} [Inhabited α] {d:Array α} {i j:Nat}:(swp d i j).size=d.size:=by simp [swp]
theorem VY {α:Type} [Inhabited α] {lt:α->α->Bool} {hi first:Nat}:∀(m r:Nat) (d:Array α),hi-r<=m->(siftDown lt hi first r d).size=d.size
 | 0,r,d,h=>by
   rw [siftDown,Rz (by omega)]
 | m+1,r,d,h=>by
   rw [siftDown]
   split
   ·rfl
   ·split
    ·split
     ·rfl
     ·split
      ·rw [VY m _ _ (by omega),Nkq]
      ·rfl
    ·split
     ·rfl
     ·rw [VY m _ _ (by omega),Nkq]
theorem Nza {G X:NA} {B lim cap n:Nat} {p:Option Addr} {c:α->α->Int} {cl:FuncId} {cs:List Value} {Q:Value->NA->Prop} (hp:p=Sa B) (hB:B<G.length) (hl:lim<=B) (I:n<2 ^ 61) (hc:∀(mp:Bool) (lim:Nat) (x y:α) (H:NA) (Q:Value->NA->Prop),NR E mp lim cl (.agg (enc x).toArray::.agg (enc y).toArray::cs) H Q=Q (Vi (c x y)) H) {d:Array α} {a b:Nat} (hd:d.size=n) (hb:b<=n) (aa:a<=b) :
  NR E false lim iz.HEAP [.slice p n cap,Vi a,Vi b,.func (.func cl) #[] cs.toArray] (DH enc G B d++X) Q=Q (.tuple #[]) (DH enc G B (heapSort (ltC c) d a b)++X):=by
 refine runs (SortAt.HEAP (E:=E) (z:=iz)) ?_
 rw [N4n,Nxk]
 obtain ⟨h,rfl⟩:∃h,b=a+h:=⟨b-a,by omega⟩
 have J:IntKind.i64.wrap (((a+h:Nat):Int)-(a:Int))=(h:Int):=by rw [NY (by omega) (by omega)];omega
 have v:IntKind.i64.wrap ((h:Int)-1)=(h:Int)-1:=NY (by omega) (by omega)
 have K:IntKind.i64.wrap (((h:Int)-1).tdiv 2)=(((h-1) / 2+1:Nat):Int)-1:=by
  rcases Rq h with rfl | h0
  ·decide
  ·rw [Pv (by omega),NY (by omega) (by omega)];omega
 generalize O:heapSort (ltC c) d a (a+h)=T
 rw [heapSort,show a+h-a=h by omega] at O
 have ld:=fun (i:Nat) (X:NA) (d:Array α) (hd:d.size=n) (hi:i<n)=>Yr (X:=X) (d:=d) (i:=i) hp hB (EncOk.len (enc:=enc) (z:=iz)) (by omega);have st:=fun (i:Nat) (X:NA) (d:Array α) (hd:d.size=n) (hi:i<n) (y:α)=>Yo (X:=X) (d:=d) (i:=i) (y:=y) hp hB hl (EncOk.len (enc:=enc) (z:=iz)) (by omega);have ix:=fun (i:Nat) (hi:i<n) c (k:IntKind) (H:NA)=>VT (e:=iz.e) (i:=i) (n:=n) (c:=c) (k:=k) (H:=H) hp hi
 have g:=fun (X:NA) (d:Array α) (lo hi:Nat) (hd:d.size=n) (P:hi<=h) (F:lo<=hi) Q=>Nx8 (X:=X) (d:=d) (lo:=lo) (hi:=hi) (first:=a) (cap:=cap) (Q:=Q) hp hB hl I hc hd (by omega) F
 simp only [Ni9,J,v,K,SB,seval,NG,NF,NK]
 refine NL (S:=Nat×Array α) (fun s=>s.1) (fun s fr H=>s.1<=h+1/\(h=0->s.1<=1)/\(0<h->s.1<=h)/\fr 0=.slice p n cap/\fr 3=.func (.func cl) #[] cs.toArray/\fr 8=Vi a/\fr 9=Vi 0/\fr 10=Vi h/\fr 11=Vi ((s.1:Int)-1)/\
  H=DH enc G B s.2++X/\s.2.size=n/\T=heapPop (ltC c) a h (heapBuild (ltC c) h a s.1 s.2)) ((h-1) / 2+1,d) ⟨by simp only;omega,by simp only;omega,by simp only;omega,rfl,rfl,rfl,rfl,rfl,rfl,rfl,hd,O.symm⟩ ?_
 rintro ⟨k,d1⟩ fr H ⟨h1,h2,Y,g0,A,C,M,o,j,rfl,l,he⟩ N
 simp only at h1 h2 Y j l he
 rw [NP (Noc.eq_1 iz)]
 cases k with
 | succ k=>
   have D:((k+1:Nat):Int)-1=(k:Int):=by omega
   rw [D] at j
   have u:IntKind.i64.wrap ((k:Int)-1)=(k:Int)-1:=NY (by omega) (by omega)
   have t:k<=h:=by omega
   have r:(0:Int)<=(k:Int):=by omega
   simp only [Ni9,g0,A,C,o,j,r,u,g,l,t,SB,seval,NE,NG,NF,reduceCtorEq]
   refine N (k,siftDown (ltC c) h a k d1) _ _ ⟨by simp only;omega,by simp only;omega,by simp only;omega,g0,A,C,M,o,rfl,by simp,by simp only;rw [VY _ _ _ (Ng _),l],he⟩ (by simp only;omega)
 | zero=>
   clear N
   rw [heapBuild] at he
   simp only [Ni9,o,j,v,Qy,Int.zero_sub,Int.reduceNeg,SB,seval,NG,NF]
   refine NL (S:=Nat×Array α) (fun s=>s.1) (fun s fr H=>s.1<=h/\fr 0=.slice p n cap/\fr 3=.func (.func cl) #[] cs.toArray/\fr 8=Vi a/\fr 9=Vi 0/\fr 12=Vi ((s.1:Int)-1)/\
    H=DH enc G B s.2++X/\s.2.size=n/\T=heapPop (ltC c) a s.1 s.2) (h,d1) ⟨Ng _,g0,A,C,M,rfl,by simp,l,he⟩ ?_
   rintro ⟨k,d2⟩ W H2 ⟨k1,R,q3,U,V,m,rfl,q,w⟩ Z
   simp only at k1 m q w
   rw [NP (Nod.eq_1 iz)]
   cases k with
   | succ k=>
     have D:((k+1:Nat):Int)-1=(k:Int):=by omega
     rw [D] at m
     have u:IntKind.i64.wrap ((k:Int)-1)=(k:Int)-1:=NY (by omega) (by omega)
     have L:IntKind.i64.wrap ((a:Int)+(k:Int))=((a+k:Nat):Int):=by rw [NY (by omega) (by omega)];omega
     have i1:a<n:=by omega
     have i2:a+k<n:=by omega
     have t:k<=h:=by omega
     have r:(0:Int)<=(k:Int):=by omega
     have f:=fun (X:NA) (d:Array α) (hi:Nat) (hd:d.size=n) (P:hi<=h) Q=>g X d 0 hi hd P (Nx _) Q
     simp only [show ((0:Nat):Int)=0 from rfl] at f
     simp only [Ni9,R,q3,U,V,m,r,u,L,f,q,t,ld,st,ix,Na,N4,(EncOk.len (enc:=enc) (z:=iz)),i1,i2,SB,seval,NE,NG,NF,reduceCtorEq,NB]
     refine Z (k,siftDown (ltC c) k a 0 (swp d2 a (a+k))) _ _ ⟨by simp only;omega,R,q3,U,V,rfl,by simp [swp],by simp only;rw [VY _ _ _ (Ng _),Nkq,q],w⟩ (by simp only;omega)
   | zero=>
     rw [heapPop] at w
     simp only [Ni9,N3p,m,w,Int.zero_sub,Int.reduceNeg,SB,seval,NG,NF]
variable {E:Env} {iz:Ids} [DT E E] [SortAt E iz] {α:Type} [Inhabited α] {enc:α->List Value} [EncOk enc iz]
theorem XP {α:Type} [Inhabited α] {p:α->Bool} {d:Array α} {j i:Nat} (h:i<=j) (hp:p d[i]! = true):scanUp p d j i=scanUp p d j (i+1):=by
 rw [scanUp];simp [h,hp]
theorem XO {α:Type} [Inhabited α] {p:α->Bool} {d:Array α} {j i:Nat} (h:i<=j->p d[i]! = false):scanUp p d j i=i:=by
 rw [scanUp]
 by_cases q:i<=j
 ·simp [h q]
 ·simp [q]
theorem Wu {α:Type} [Inhabited α] {p:α->Bool} {d:Array α} {j i:Nat} (h:i<=j) (a:0<j) (hp:p d[j]! = true):scanDown p d i j=scanDown p d i (j-1):=by
 obtain ⟨j,rfl⟩:∃j',j=j'+1:=⟨j-1,by omega⟩
 rw [scanDown];simp [h,hp]
theorem Ws {α:Type} [Inhabited α] {p:α->Bool} {d:Array α} {j i:Nat} (h:i<=j->p d[j]! = false):scanDown p d i j=j:=by
 cases j with
 | zero=>rfl
 | succ j=>
   rw [scanDown]
   by_cases q:i<=j+1
   ·simp [h q]
   ·simp [q]
theorem Nio {α:Type} [Inhabited α] {lt:α->α->Bool} {a i j b c:Nat} {d:Array α} (h1:scanUp (fun x=>!lt d[a]! x) d j i=b) (h2:scanDown (fun x=>lt d[a]! x) d b j=c) (h:b > c):partEqLoop lt a i j d=(b,d):=by
 rw [partEqLoop];simp only [h1,h2];rw [Nh h]
theorem Nip {α:Type} [Inhabited α] {lt:α->α->Bool} {a i j b c:Nat} {d:Array α} (h1:scanUp (fun x=>!lt d[a]! x) d j i=b) (h2:scanDown (fun x=>lt d[a]! x) d b j=c) (h:¬b > c) (g1:i<=b) (e:c<=j) (f:0<b):partEqLoop lt a i j d=partEqLoop lt a (b+1) (c-1) (swp d b c):=by
 rw [partEqLoop];simp only [h1,h2];rw [Nf h,Rz (by omega)]
theorem N10 {G X:NA} {B lim cap n:Nat} {p:Option Addr} {c:α->α->Int} {cl:FuncId} {cs:List Value} {Q:Value->NA->Prop} (hp:p=Sa B) (hB:B<G.length) (hl:lim<=B) (ac:n<2 ^ 61) (hc:∀(mp:Bool) (lim:Nat) (x y:α) (H:NA) (Q:Value->NA->Prop),NR E mp lim cl (.agg (enc x).toArray::.agg (enc y).toArray::cs) H Q=Q (Vi (c x y)) H) {d:Array α} {a b v:Nat} (hd:d.size=n) (hb:b<=n) (aa:a<=v) (ad:v<b) :
  NR E false lim iz.PEQ [.slice p n cap,Vi a,Vi b,Vi v,.func (.func cl) #[] cs.toArray] (DH enc G B d++X) Q=Q (Vi ((partitionEqual (ltC c) d a b v).1:Nat)) (DH enc G B (partitionEqual (ltC c) d a b v).2++X):=by
 refine runs (SortAt.PEQ (E:=E) (z:=iz)) ?_
 rw [N6e,N2z]
 have M:IntKind.i64.wrap ((b:Int)-1)=((b-1:Nat):Int):=QW (by omega) (by omega)
 have N:IntKind.i64.wrap ((a:Int)+1)=((a+1:Nat):Int):=NS (by omega)
 generalize U:partitionEqual (ltC c) d a b v=T
 rw [partitionEqual] at U
 have ld:=fun (i:Nat) (X:NA) (d:Array α) (hd:d.size=n) (hi:i<n)=>Yr (X:=X) (d:=d) (i:=i) hp hB (EncOk.len (enc:=enc) (z:=iz)) (by omega);have st:=fun (i:Nat) (X:NA) (d:Array α) (hd:d.size=n) (hi:i<n) (y:α)=>Yo (X:=X) (d:=d) (i:=i) (y:=y) hp hB hl (EncOk.len (enc:=enc) (z:=iz)) (by omega);have I:=fun (i:Nat) (hi:i<n) c (k:IntKind) (H:NA)=>VT (e:=iz.e) (i:=i) (n:=n) (c:=c) (k:=k) (H:=H) hp hi
 have F:a<n:=by omega
 have i2:v<n:=by omega
 simp only [Nls,M,N,ld,st,I,Na,N4,(EncOk.len (enc:=enc) (z:=iz)),hd,F,i2,SB,seval,NG,NF,reduceCtorEq,NK,NB]
 refine NL (S:=(Nat×Nat)×Array α) (fun s=>s.1.2+1-s.1.1) (fun s fr H=>a<s.1.1/\s.1.1<=b/\s.1.2<b/\fr 0=.slice p n cap/\fr 1=Vi a/\fr 4=.func (.func cl) #[] cs.toArray/\fr 11=Vi s.1.1/\fr 12=Vi s.1.2/\
  H=DH enc G B s.2++X/\s.2.size=n/\T=partEqLoop (ltC c) a s.1.1 s.1.2 s.2) ((a+1,b-1),swp d a v) ⟨by simp only;omega,by simp only;omega,by simp only;omega,rfl,rfl,rfl,rfl,rfl,by simp [swp],by simp [swp,hd],U.symm⟩ ?_
 rintro ⟨⟨i,j⟩,d1⟩ fr H ⟨h1,h2,h3,g0,g1,Z,t,u,rfl,g,he⟩ hN
 simp only at h1 h2 h3 t u g he
 rw [NP (Nu4.eq_1 iz)]
 simp only [SB,seval]
 refine NL (S:=Nat) (fun s=>b+1-s) (fun s fr H=>i<=s/\s<=b/\fr 0=.slice p n cap/\fr 1=Vi a/\fr 4=.func (.func cl) #[] cs.toArray/\fr 11=Vi s/\fr 12=Vi j/\
  H=DH enc G B d1++X/\scanUp (fun x=>!ltC c d1[a]! x) d1 j i=scanUp (fun x=>!ltC c d1[a]! x) d1 j s) i ⟨Ng _,h2,g0,g1,Z,t,u,rfl,rfl⟩ ?_
 rintro f fr1 H1 ⟨k1,k2,K,q1,L,m,h,rfl,V⟩ w
 rw [NP (Nu5.eq_1 iz)]
 by_cases c1:f<=j/\¬c d1[a]! d1[f]!<0
 ·obtain ⟨c1,c2⟩:=c1
  have O:IntKind.i64.wrap ((f:Int)+1)=((f+1:Nat):Int):=NS (by omega)
  have i3:f<n:=by omega
  simp only [Nls,K,q1,L,m,h,c1,c2,O,ld,I,Na,g,F,i3,hc,SB,seval,NE,NG,NF,QV,reduceCtorEq]
  exact w (f+1) _ _ ⟨by omega,by omega,K,q1,L,rfl,h,rfl,by rw [V,XP c1 (by simp [ltC,c2])]⟩ (by omega)
 have C:scanUp (fun x=>!ltC c d1[a]! x) d1 j i=f:=by
  rw [V,XO]
  intro q
  by_cases q2:c d1[a]! d1[f]!<0
  ·simp [ltC,q2]
  ·exact absurd ⟨q,q2⟩ c1
 clear w
 have hx:(f<=j/\c d1[a]! d1[f]!<0)\/¬f<=j:=by
  by_cases q:f<=j
  ·exact .inl ⟨q,Ns fun q2=>c1 ⟨q,q2⟩⟩
  ·exact .inr q
 have i0:f<=j->f<n:=fun q=>by omega
 rcases hx with ⟨c2,c3⟩ | c2
 case' inl=>simp only [Nls,K,q1,L,m,h,c2,c3,ld,I,Na,g,F,i0 c2,hc,SB,seval,NE,NG,NF,QV,reduceCtorEq]
 case' inr=>simp only [Nls,m,h,c2,Na,SB,seval,NG,NF]
 all_goals
  refine NL (S:=Nat) (fun s=>s) (fun s fr H=>s<=j/\fr 0=.slice p n cap/\fr 1=Vi a/\fr 4=.func (.func cl) #[] cs.toArray/\fr 11=Vi f/\fr 12=Vi s/\
   H=DH enc G B d1++X/\scanDown (fun x=>ltC c d1[a]! x) d1 f j=scanDown (fun x=>ltC c d1[a]! x) d1 f s) j ⟨Ng _,K,q1,L,m,h,rfl,rfl⟩ ?_
  rintro j' Y H2 ⟨m1,J,p1,p4,l,r,rfl,A⟩ w
  rw [NP (Nu6.eq_1 iz)]
  have W:j'<n:=by omega
  by_cases c4:f<=j'/\c d1[a]! d1[j']!<0
  ·obtain ⟨c4,R⟩:=c4
   have o:IntKind.i64.wrap ((j':Int)-1)=((j'-1:Nat):Int):=QW (by omega) (by omega)
   simp only [Nls,J,p1,p4,l,r,c4,R,o,ld,I,Na,g,F,W,hc,SB,seval,NE,NG,NF,reduceCtorEq]
   exact w (j'-1) _ _ ⟨by omega,J,p1,p4,l,rfl,rfl,by rw [A,Wu c4 (by omega) (by simp [ltC,R])]⟩ (by omega)
  have D:scanDown (fun x=>ltC c d1[a]! x) d1 f j=j':=by
   rw [A,Ws]
   intro q
   have q2:¬c d1[a]! d1[j']!<0:=fun q2=>c4 ⟨q,q2⟩
   simp [ltC,q2]
  clear w
  by_cases c6:j'<f
  ·have c7:¬f<=j':=by omega
   rw [Nio C D c6] at he
   simp only [Nls,N5p,l,r,c7,c6,Na,he,SB,seval,NG,NF,reduceCtorEq,NH]
  ·have c7:f<=j':=by omega
   have c8:¬c d1[a]! d1[j']!<0:=fun q=>c4 ⟨c7,q⟩
   rw [Nip C D c6 k1 m1 (by omega)] at he
   have i5:f<n:=by omega
   have o:IntKind.i64.wrap ((j':Int)-1)=((j'-1:Nat):Int):=QW (by omega) (by omega)
   have P:IntKind.i64.wrap ((f:Int)+1)=((f+1:Nat):Int):=NS (by omega)
   simp only [Nls,J,p1,p4,l,r,c7,c6,c8,o,P,ld,st,I,Na,N4,(EncOk.len (enc:=enc) (z:=iz)),g,F,W,i5,hc,SB,seval,NE,NG,NF,reduceCtorEq,NB]
   exact hN ((f+1,j'-1),swp d1 f j') _ _ ⟨by simp only;omega,by simp only;omega,by simp only;omega,J,p1,p4,rfl,rfl,by simp [swp],by simp [swp,g],he⟩ (by simp only;omega)
variable {E:Env} {iz:Ids} [DT E E] [SortAt E iz] {α:Type} [Inhabited α] {enc:α->List Value} [EncOk enc iz]
theorem Np6 {α:Type} [Inhabited α] {lt:α->α->Bool} {a i j b c:Nat} {d:Array α} (h1:scanUp (fun x=>lt x d[a]!) d j i=b) (h2:scanDown (fun x=>!lt x d[a]!) d b j=c) (h:b > c):partLoop lt a i j d=(c,d):=by
 rw [partLoop];simp only [h1,h2];rw [Nh h]
theorem Np8 {α:Type} [Inhabited α] {lt:α->α->Bool} {a i j b c:Nat} {d:Array α} (h1:scanUp (fun x=>lt x d[a]!) d j i=b) (h2:scanDown (fun x=>!lt x d[a]!) d b j=c) (h:¬b > c) (g1:i<=b) (e:c<=j) (f:0<b):partLoop lt a i j d=partLoop lt a (b+1) (c-1) (swp d b c):=by
 rw [partLoop];simp only [h1,h2];rw [Nf h,Rz (by omega)]
theorem Np7 {G X:NA} {B lim cap n:Nat} {p:Option Addr} {c:α->α->Int} {cl:FuncId} {cs:List Value} {Q:Value->NA->Prop} (hp:p=Sa B) (hB:B<G.length) (hl:lim<=B) (aq:n<2 ^ 61) (hc:∀(mp:Bool) (lim:Nat) (x y:α) (H:NA) (Q:Value->NA->Prop),NR E mp lim cl (.agg (enc x).toArray::.agg (enc y).toArray::cs) H Q=Q (Vi (c x y)) H) {d:Array α} {a b v:Nat} (hd:d.size=n) (hb:b<=n) (ap:a<=v) (au:v<b) :
  NR E false lim iz.PART [.slice p n cap,Vi a,Vi b,Vi v,.func (.func cl) #[] cs.toArray] (DH enc G B d++X) Q=Q (.tuple #[Vi ((Sort.partition (ltC c) d a b v).1:Nat),.bool (Sort.partition (ltC c) d a b v).2.1]) (DH enc G B (Sort.partition (ltC c) d a b v).2.2++X):=by
 refine runs (SortAt.PART (E:=E) (z:=iz)) ?_
 rw [N4i,Nxi]
 have ai:IntKind.i64.wrap ((b:Int)-1)=((b-1:Nat):Int):=QW (by omega) (by omega)
 have aj:IntKind.i64.wrap ((a:Int)+1)=((a+1:Nat):Int):=NS (by omega)
 generalize F:Sort.partition (ltC c) d a b v=T
 rw [Sort.partition] at F
 have ld:=fun (i:Nat) (X:NA) (d:Array α) (hd:d.size=n) (hi:i<n)=>Yr (X:=X) (d:=d) (i:=i) hp hB (EncOk.len (enc:=enc) (z:=iz)) (by omega);have st:=fun (i:Nat) (X:NA) (d:Array α) (hd:d.size=n) (hi:i<n) (y:α)=>Yo (X:=X) (d:=d) (i:=i) (y:=y) hp hB hl (EncOk.len (enc:=enc) (z:=iz)) (by omega);have D:=fun (i:Nat) (hi:i<n) c (k:IntKind) (H:NA)=>VT (e:=iz.e) (i:=i) (n:=n) (c:=c) (k:=k) (H:=H) hp hi
 have C:a<n:=by omega
 have i2:v<n:=by omega
 simp only [WQ,ai,aj,ld,st,D,Na,N4,(EncOk.len (enc:=enc) (z:=iz)),hd,C,i2,SB,seval,NG,NF,reduceCtorEq,NK,NB]
 have l:(swp d a v).size=n:=by simp [swp,hd]
 have aa:(d.setIfInBounds a d[v]!).setIfInBounds v d[a]! = swp d a v:=rfl
 rw [aa]
 generalize swp d a v=d1 at F l
 have k0:a+1<=b:=by omega
 refine NL (S:=Nat) (fun s=>b+1-s) (fun s fr H=>(a+1)<=s/\s<=(b-1)+1/\fr 0=.slice p n cap/\fr 1=Vi a/\fr 4=.func (.func cl) #[] cs.toArray/\fr 12=Vi s/\fr 13=Vi ((b-1:Nat):Int)/\
  H=DH enc G B d1++X/\scanUp (fun x=>ltC c x d1[a]!) d1 (b-1) (a+1)=scanUp (fun x=>ltC c x d1[a]!) d1 (b-1) s) (a+1) ⟨Ng _,by omega,rfl,rfl,rfl,rfl,rfl,rfl,rfl⟩ ?_
 rintro f fr1 H1 ⟨x1,k2,J,q1,K,h,g,rfl,hs⟩ w
 rw [NP (Nn7.eq_1 iz)]
 by_cases c1:f<=(b-1)/\c d1[f]! d1[a]!<0
 ·obtain ⟨o,cc2⟩:=c1
  have U:IntKind.i64.wrap ((f:Int)+1)=((f+1:Nat):Int):=NS (by omega)
  have i3:f<n:=by omega
  simp only [WQ,J,q1,K,h,g,o,cc2,U,ld,D,Na,l,C,i3,hc,SB,seval,NE,NG,NF,reduceCtorEq]
  exact w (f+1) _ _ ⟨by omega,by omega,J,q1,K,rfl,g,rfl,by rw [hs,XP o (by simp [ltC,cc2])]⟩ (by omega)
 have P:scanUp (fun x=>ltC c x d1[a]!) d1 (b-1) (a+1)=f:=by
  rw [hs,XO]
  intro q
  have q2:¬c d1[f]! d1[a]!<0:=fun q2=>c1 ⟨q,q2⟩
  simp [ltC,q2]
 clear w
 have hx:(f<=(b-1)/\¬c d1[f]! d1[a]!<0)\/¬f<=(b-1):=by
  by_cases q:f<=(b-1)
  ·exact .inl ⟨q,fun q2=>c1 ⟨q,q2⟩⟩
  ·exact .inr q
 have i0:f<=(b-1)->f<n:=fun q=>by omega
 have ac:=hx
 rcases hx with ⟨cc2,N⟩ | cc2
 case' inl=>simp only [WQ,J,q1,K,h,g,cc2,N,ld,D,Na,l,C,i0 cc2,hc,SB,seval,NE,NG,NF,reduceCtorEq]
 case' inr=>simp only [WQ,h,g,cc2,Na,SB,seval,NG,NF]
 all_goals
  clear cc2
  refine NL (S:=Nat) (fun s=>s) (fun s fr H=>s<=(b-1)/\f<=s+1/\fr 0=.slice p n cap/\fr 1=Vi a/\fr 4=.func (.func cl) #[] cs.toArray/\fr 12=Vi f/\fr 13=Vi s/\
   H=DH enc G B d1++X/\scanDown (fun x=>!ltC c x d1[a]!) d1 f (b-1)=scanDown (fun x=>!ltC c x d1[a]!) d1 f s) (b-1) ⟨Ng _,by omega,J,q1,K,h,g,rfl,rfl⟩ ?_
  rintro j' ah H2 ⟨y1,y2,p0,p1,p4,I,W,rfl,O⟩ w
  rw [NP (Nn8.eq_1 iz)]
  have i4:j'<n:=by omega
  by_cases c4:f<=j'/\¬c d1[j']! d1[a]!<0
  ·obtain ⟨r,t⟩:=c4
   have A:IntKind.i64.wrap ((j':Int)-1)=((j'-1:Nat):Int):=QW (by omega) (by omega)
   simp only [WQ,p0,p1,p4,I,W,r,t,A,ld,D,Na,l,C,i4,hc,SB,seval,NE,NG,NF,QV,reduceCtorEq]
   exact w (j'-1) _ _ ⟨by omega,by omega,p0,p1,p4,I,rfl,rfl,by rw [O,Wu r (by omega) (by simp [ltC,t])]⟩ (by omega)
  have R:scanDown (fun x=>!ltC c x d1[a]!) d1 f (b-1)=j':=by
   rw [O,Ws]
   intro q
   have q2:c d1[j']! d1[a]!<0:=Ns fun q2=>c4 ⟨q,q2⟩
   simp [ltC,q2]
  clear w
  by_cases c6:j'<f
  ·have c7:¬f<=j':=by omega
   have V:j'<n:=by omega
   simp only [P,R] at F
   rw [Nh (show f > j' from c6)] at F
   simp only [WQ,N0i,p0,p1,I,W,c7,c6,ld,st,D,Na,N4,(EncOk.len (enc:=enc) (z:=iz)),l,C,V,SB,seval,NG,NF,reduceCtorEq,NB,NH]
   rw [<-F]
   exact ⟨rfl,rfl⟩
  ·have c7:f<=j':=by omega
   have c8:c d1[j']! d1[a]!<0:=Ns fun q=>c4 ⟨c7,q⟩
   have c9:f≠j':=by
    rintro rfl
    rcases ac with q | q
    ·exact q.2 c8
    ·exact q (by omega)
   simp only [P,R] at F
   rw [Nf (show ¬f > j' from c6)] at F
   have i5:f<n:=by omega
   have V:j'<n:=by omega
   have A:IntKind.i64.wrap ((j':Int)-1)=((j'-1:Nat):Int):=QW (by omega) (by omega)
   have ak:IntKind.i64.wrap ((f:Int)+1)=((f+1:Nat):Int):=NS (by omega)
   simp only [WQ,p0,p1,p4,I,W,c7,c6,c8,A,ak,ld,st,D,Na,N4,(EncOk.len (enc:=enc) (z:=iz)),l,C,V,i5,hc,SB,seval,NE,NG,NF,QV,reduceCtorEq,NB]
   generalize hL:partLoop (ltC c) a (f+1) (j'-1) (swp d1 f j')=L at F
   refine NL (S:=(Nat×Nat)×Array α) (fun s=>s.1.2+1-s.1.1) (fun s fr H=>a<s.1.1/\s.1.1<=s.1.2+1/\s.1.2<b/\fr 0=.slice p n cap/\fr 1=Vi a/\fr 4=.func (.func cl) #[] cs.toArray/\fr 12=Vi s.1.1/\fr 13=Vi s.1.2/\
    H=DH enc G B s.2++X/\s.2.size=n/\L=partLoop (ltC c) a s.1.1 s.1.2 s.2) ((f+1,j'-1),swp d1 f j') ⟨by simp only;omega,by simp only;omega,by simp only;omega,p0,p1,p4,rfl,rfl,by simp [swp],by simp [swp,l],hL.symm⟩ ?_
   clear P R hs O c1 c4 ac i0 hL
   rintro ⟨⟨i,j⟩,d2⟩ fr H ⟨h1,h2,h3,g0,g1,g4,Y,Z,rfl,m,he⟩ hN
   simp only at h1 h2 h3 Y Z m he
   rw [NP (Nn9.eq_1 iz)]
   simp only [SB,seval]
   refine NL (S:=Nat) (fun s=>b+1-s) (fun s fr H=>i<=s/\s<=j+1/\fr 0=.slice p n cap/\fr 1=Vi a/\fr 4=.func (.func cl) #[] cs.toArray/\fr 12=Vi s/\fr 13=Vi j/\
    H=DH enc G B d2++X/\scanUp (fun u=>ltC c u d2[a]!) d2 j i=scanUp (fun u=>ltC c u d2[a]!) d2 j s) i ⟨Ng _,by omega,g0,g1,g4,Y,Z,rfl,rfl⟩ ?_
   rintro x fr1 H1 ⟨x1,k2,J,q1,K,h,g,rfl,us⟩ w
   rw [NP (Noa.eq_1 iz)]
   by_cases z1:x<=j/\c d2[x]! d2[a]!<0
   ·obtain ⟨o,cc2⟩:=z1
    have U:IntKind.i64.wrap ((x:Int)+1)=((x+1:Nat):Int):=NS (by omega)
    have i3:x<n:=by omega
    simp only [WQ,J,q1,K,h,g,o,cc2,U,ld,D,Na,m,C,i3,hc,SB,seval,NE,NG,NF,reduceCtorEq]
    exact w (x+1) _ _ ⟨by omega,by omega,J,q1,K,rfl,g,rfl,by rw [us,XP o (by simp [ltC,cc2])]⟩ (by omega)
   have ae:scanUp (fun u=>ltC c u d2[a]!) d2 j i=x:=by
    rw [us,XO]
    intro q
    have q2:¬c d2[x]! d2[a]!<0:=fun q2=>z1 ⟨q,q2⟩
    simp [ltC,q2]
   clear w
   have hz:(x<=j/\¬c d2[x]! d2[a]!<0)\/¬x<=j:=by
    by_cases q:x<=j
    ·exact .inl ⟨q,fun q2=>z1 ⟨q,q2⟩⟩
    ·exact .inr q
   have i0:x<=j->x<n:=fun q=>by omega
   have ao:=hz
   rcases hz with ⟨cc2,N⟩ | cc2
   case' inl=>simp only [WQ,J,q1,K,h,g,cc2,N,ld,D,Na,m,C,i0 cc2,hc,SB,seval,NE,NG,NF,reduceCtorEq]
   case' inr=>simp only [WQ,h,g,cc2,Na,SB,seval,NG,NF]
   all_goals
    clear cc2
    refine NL (S:=Nat) (fun s=>s) (fun s fr H=>s<=j/\x<=s+1/\fr 0=.slice p n cap/\fr 1=Vi a/\fr 4=.func (.func cl) #[] cs.toArray/\fr 12=Vi x/\fr 13=Vi s/\
     H=DH enc G B d2++X/\scanDown (fun u=>!ltC c u d2[a]!) d2 x j=scanDown (fun u=>!ltC c u d2[a]!) d2 x s) j ⟨Ng _,by omega,J,q1,K,h,g,rfl,rfl⟩ ?_
    rintro y ah H2 ⟨y1,y2,t0,t1,t4,M,t13,rfl,ad⟩ w
    rw [NP (Nob.eq_1 iz)]
    have i4:y<n:=by omega
    by_cases z4:x<=y/\¬c d2[y]! d2[a]!<0
    ·obtain ⟨r,t⟩:=z4
     have A:IntKind.i64.wrap ((y:Int)-1)=((y-1:Nat):Int):=QW (by omega) (by omega)
     simp only [WQ,t0,t1,t4,M,t13,r,t,A,ld,D,Na,m,C,i4,hc,SB,seval,NE,NG,NF,QV,reduceCtorEq]
     exact w (y-1) _ _ ⟨by omega,by omega,t0,t1,t4,M,rfl,rfl,by rw [ad,Wu r (by omega) (by simp [ltC,t])]⟩ (by omega)
    have ag:scanDown (fun u=>!ltC c u d2[a]!) d2 x j=y:=by
     rw [ad,Ws]
     intro q
     have q2:c d2[y]! d2[a]!<0:=Ns fun q2=>z4 ⟨q,q2⟩
     simp [ltC,q2]
    clear w
    by_cases z6:y<x
    ·have z7:¬x<=y:=by omega
     have V:y<n:=by omega
     rw [Np6 ae ag z6] at he
     simp only [WQ,N0i,t0,t1,M,t13,z7,z6,ld,st,D,Na,N4,(EncOk.len (enc:=enc) (z:=iz)),m,C,V,SB,seval,NG,NF,reduceCtorEq,NB,NH]
     rw [<-F,he]
     exact ⟨rfl,rfl⟩
    ·have z7:x<=y:=by omega
     have z8:c d2[y]! d2[a]!<0:=Ns fun q=>z4 ⟨z7,q⟩
     have z9:x≠y:=by
      rintro rfl
      rcases ao with q | q
      ·exact q.2 z8
      ·exact q (by omega)
     rw [Np8 ae ag z6 x1 y1 (by omega)] at he
     have i5:x<n:=by omega
     have V:y<n:=by omega
     have am:IntKind.i64.wrap ((y:Int)-1)=((y-1:Nat):Int):=QW (by omega) (by omega)
     have an:IntKind.i64.wrap ((x:Int)+1)=((x+1:Nat):Int):=NS (by omega)
     simp only [WQ,t0,t1,t4,M,t13,z7,z6,z8,am,an,ld,st,D,Na,N4,(EncOk.len (enc:=enc) (z:=iz)),m,C,V,i5,hc,SB,seval,NE,NG,NF,QV,reduceCtorEq,NB]
     exact hN ((x+1,y-1),swp d2 x y) _ _ ⟨by simp only;omega,by simp only;omega,by simp only;omega,t0,t1,t4,rfl,rfl,by simp [swp],by simp [swp,m],he⟩ (by simp only;omega)
variable {E:Env} {iz:Ids} [DT E E] [SortAt E iz] {α:Type} [Inhabited α] {enc:α->List Value} [EncOk enc iz]
theorem Nkx {α:Type} [Inhabited α] {lt:α->α->Bool} {d:Array α} {b i:Nat} (h:i<b) (hp:lt d[i]! d[i-1]! = false):scanSorted lt d b i=scanSorted lt d b (i+1):=by
 rw [scanSorted];simp [h,hp]
theorem Ncb {α:Type} [Inhabited α] {lt:α->α->Bool} {d:Array α} {b i:Nat} (h:i<b->lt d[i]! d[i-1]! = true):scanSorted lt d b i=i:=by
 rw [scanSorted]
 by_cases q:i<b
 ·simp [h q]
 ·simp [q]
def VJ {α:Type} [Inhabited α] (lt:α->α->Bool) (a i:Nat) (d:Array α):Array α:=if 2<=i-a then shiftDown lt (i-1) d else d
def WA {α:Type} [Inhabited α] (lt:α->α->Bool) (b i:Nat) (d:Array α):Array α:=if 2<=b-i then shiftUp lt b (i+1) d else d
theorem Na2 {α:Type} [Inhabited α] {lt:α->α->Bool} {a b k i c:Nat} {d:Array α} (e:scanSorted lt d b i=c) (h1:¬c=b) (h2:¬b-a<50):partialIns lt a b (k+1) i d=partialIns lt a b k c (WA lt b c (VJ lt a c (swp d c (c-1)))):=by
 rw [partialIns]
 simp only [e]
 rw [Nf h1,Nf h2]
 rfl
theorem N1z {G X:NA} {B lim cap n:Nat} {p:Option Addr} {c:α->α->Int} {cl:FuncId} {cs:List Value} {Q:Value->NA->Prop} (hp:p=Sa B) (hB:B<G.length) (hl:lim<=B) (az:n<2 ^ 61) (hc:∀(mp:Bool) (lim:Nat) (x y:α) (H:NA) (Q:Value->NA->Prop),NR E mp lim cl (.agg (enc x).toArray::.agg (enc y).toArray::cs) H Q=Q (Vi (c x y)) H) {d:Array α} {a b:Nat} (hd:d.size=n) (hb:b<=n) (ay:a<b) :
  NR E false lim iz.PIS [.slice p n cap,Vi a,Vi b,.func (.func cl) #[] cs.toArray] (DH enc G B d++X) Q=Q (.bool (partialInsertionSort (ltC c) d a b).2) (DH enc G B (partialInsertionSort (ltC c) d a b).1++X):=by
 refine runs (SortAt.PIS (E:=E) (z:=iz)) ?_
 rw [N6d,N2y]
 have av:IntKind.i64.wrap ((a:Int)+1)=((a+1:Nat):Int):=NS (by omega)
 generalize hT:partialInsertionSort (ltC c) d a b=T
 rw [partialInsertionSort] at hT
 have ld:=fun (i:Nat) (X:NA) (d:Array α) (hd:d.size=n) (hi:i<n)=>Yr (X:=X) (d:=d) (i:=i) hp hB (EncOk.len (enc:=enc) (z:=iz)) (by omega);have st:=fun (i:Nat) (X:NA) (d:Array α) (hd:d.size=n) (hi:i<n) (y:α)=>Yo (X:=X) (d:=d) (i:=i) (y:=y) hp hB hl (EncOk.len (enc:=enc) (z:=iz)) (by omega);have Y:=fun (i:Nat) (hi:i<n) c (k:IntKind) (H:NA)=>VT (e:=iz.e) (i:=i) (n:=n) (c:=c) (k:=k) (H:=H) hp hi
 simp only [VF,av,SB,seval,NG,NF,NK]
 refine NL (S:=Nat×Nat×Array α) (fun s=>s.1) (fun s fr H=>s.1<=5/\a<s.2.1/\s.2.1<=b/\fr 0=.slice p n cap/\fr 1=Vi a/\fr 2=Vi b/\fr 3=.func (.func cl) #[] cs.toArray/\fr 9=Vi s.2.1/\fr 10=Vi (5-(s.1:Int))/\
  H=DH enc G B s.2.2++X/\s.2.2.size=n/\T=partialIns (ltC c) a b s.1 s.2.1 s.2.2) (5,a+1,d) ⟨by simp only;omega,by simp only;omega,by simp only;omega,rfl,rfl,rfl,rfl,rfl,by rfl,rfl,hd,hT.symm⟩ ?_
 rintro ⟨k,i,d1⟩ fr H ⟨h1,h2,h3,g0,g1,g2,g3,g9,ad,rfl,t,he⟩ hN
 simp only at h1 h2 h3 g9 ad t he
 rw [NP (Nu1.eq_1 iz)]
 cases k with
 | zero=>
   have au:fr 10=Vi 5:=by simpa using ad
   clear hN ad
   simp only [VF,N1x,au,SB,seval,NG,NF,NH]
   rw [he,partialIns]
   exact ⟨rfl,rfl⟩
 | succ k=>
   have hk:(5:Int)-((k+1:Nat):Int)<5:=by omega
   have C:IntKind.i64.wrap ((5:Int)-((k+1:Nat):Int)+1)=5-(k:Int):=by rw [NY (by omega) (by omega)];omega
   simp only [VF,ad,hk,SB,seval,NG,NF]
   refine NL (S:=Nat) (fun s=>b+1-s) (fun s fr H=>i<=s/\s<=b/\fr 0=.slice p n cap/\fr 1=Vi a/\fr 2=Vi b/\fr 3=.func (.func cl) #[] cs.toArray/\fr 9=Vi s/\fr 10=Vi (5-((k+1:Nat):Int))/\
    H=DH enc G B d1++X/\scanSorted (ltC c) d1 b i=scanSorted (ltC c) d1 b s) i ⟨Ng _,h3,g0,g1,g2,g3,g9,ad,rfl,rfl⟩ ?_
   rintro f fr1 H1 ⟨x1,x2,q0,q1,q2,q3,q9,am,rfl,hs⟩ hM
   rw [NP (Nu2.eq_1 iz)]
   have ae:IntKind.i64.wrap ((f:Int)-1)=((f-1:Nat):Int):=QW (by omega) (by omega)
   have W:IntKind.i64.wrap ((f:Int)+1)=((f+1:Nat):Int):=NS (by omega)
   have an:IntKind.i64.wrap ((f:Int)-(a:Int))=((f-a:Nat):Int):=by rw [NY (by omega) (by omega)];omega
   have Z:IntKind.i64.wrap ((b:Int)-(f:Int))=((b-f:Nat):Int):=by rw [NY (by omega) (by omega)];omega
   have ak:IntKind.i64.wrap ((b:Int)-(a:Int))=((b-a:Nat):Int):=by rw [NY (by omega) (by omega)];omega
   have i6:f-1<n:=by omega
   by_cases c1:f=b
   ·subst c1
    have aj:scanSorted (ltC c) d1 f i=f:=by rw [hs,Ncb (fun q=>absurd q (R7 _))]
    have c2:¬f<f:=R7 _
    have e:partialIns (ltC c) a f (k+1) i d1=(d1,true):=by
     rw [partialIns];simp only [aj];simp
    simp only [VF,N1x,q2,q9,c2,Na,SB,seval,NG,NF,NH]
    rw [he,e]
    exact ⟨rfl,rfl⟩
   have c2:f<b:=by omega
   have i5:f<n:=by omega
   have ah:¬((f:Int)=(b:Int)):=by omega
   by_cases c3:c d1[f]! d1[f-1]!<0
   case neg=>
    simp only [VF,q0,q2,q3,q9,c2,c3,ae,W,ld,Y,Na,t,i5,i6,hc,SB,seval,NE,NG,NF,QV,reduceCtorEq]
    exact hM (f+1) _ _ ⟨by omega,by omega,q0,q1,q2,q3,rfl,am,rfl,by rw [hs,Nkx c2 (by simp [ltC,c3])]⟩ (by omega)
   clear hM
   have aj:scanSorted (ltC c) d1 b i=f:=by rw [hs,Ncb (fun _=>by simp [ltC,c3])]
   by_cases c4:b-a<50
   ·have aa:((b-a:Nat):Int)<50:=by omega
    simp only [VF,N1x,q0,q1,q2,q3,q9,c2,c3,ah,aa,ae,ak,ld,Y,Na,t,i5,i6,hc,SB,seval,NE,NG,NF,QV,reduceCtorEq,NH]
    have e:partialIns (ltC c) a b (k+1) i d1=(d1,false):=by
     rw [partialIns];simp only [aj];rw [Nf c1,Nh c4]
    rw [he,e]
    exact ⟨rfl,rfl⟩
   have aa:¬((b-a:Nat):Int)<50:=by omega
   rw [Na2 aj c1 c4] at he
   by_cases hA:2<=f-a
   ·have ai:(2:Int)<=((f-a:Nat):Int):=by omega
    simp only [VF,q0,q1,q2,q3,q9,c2,c3,ah,aa,ae,ak,an,ai,ld,st,Y,Na,N4,(EncOk.len (enc:=enc) (z:=iz)),t,i5,i6,hc,SB,seval,NE,NG,NF,QV,reduceCtorEq,NB]
    refine NL (S:=Nat×Array α) (fun s=>s.1) (fun s fr H=>s.1<f/\fr 0=.slice p n cap/\fr 1=Vi a/\fr 2=Vi b/\fr 3=.func (.func cl) #[] cs.toArray/\fr 9=Vi f/\fr 10=Vi (5-((k+1:Nat):Int))/\fr 11=Vi s.1/\
     H=DH enc G B s.2++X/\s.2.size=n/\shiftDown (ltC c) (f-1) (swp d1 f (f-1))=shiftDown (ltC c) s.1 s.2) (f-1,swp d1 f (f-1)) ⟨by simp only;omega,q0,q1,q2,q3,q9,am,rfl,by simp [swp],by simp [swp,t],rfl⟩ ?_
    rintro ⟨v,dv⟩ aw Hv ⟨v1,N,ag,D,P,F,O,v11,rfl,A,J⟩ hV
    simp only at v1 v11 A J
    rw [NP (Nu3.eq_1 iz)]
    cases v with
    | succ v=>
      have iv:v+1<n:=by omega
      have ap:v<n:=by omega
      have ao:IntKind.i64.wrap (((v+1:Nat):Int)-1)=(v:Int):=QW (n:=v+1) (by omega) (by omega)
      have cv:(1:Int)<=((v+1:Nat):Int):=by omega
      rw [shiftDown] at J
      by_cases ac:c dv[v+1]! dv[v]!<0
      ·rw [Nf (by simp [ltC,ac])] at J
       simp only [VF,N,P,v11,cv,ac,ao,ld,st,Y,Na,N4,(EncOk.len (enc:=enc) (z:=iz)),A,iv,ap,hc,SB,seval,NE,NG,NF,QV,reduceCtorEq,NB]
       exact hV (v,swp dv (v+1) v) _ _ ⟨by simp only;omega,N,ag,D,P,F,O,rfl,by simp [swp],by simp [swp,A],J⟩ (by simp only;omega)
      ·rw [Nh (by simp [ltC,ac])] at J
       clear hV
       have o:VJ (ltC c) a f (swp d1 f (f-1))=dv:=by rw [VJ,Nh hA,J]
       by_cases hB:2<=b-f
       ·have m:(2:Int)<=((b-f:Nat):Int):=by omega
        simp only [VF,N,D,P,F,Z,m,W,v11,cv,ac,ao,A,iv,ap,hc,ld,Y,Na,SB,seval,NE,NG,NF,QV,reduceCtorEq]
        generalize hU:shiftUp (ltC c) b (f+1) (dv)=U
        refine NL (S:=Nat×Array α) (fun s=>b+1-s.1) (fun s fr H=>f+1<=s.1/\s.1<=b/\fr 0=.slice p n cap/\fr 1=Vi a/\fr 2=Vi b/\fr 3=.func (.func cl) #[] cs.toArray/\fr 9=Vi f/\fr 10=Vi (5-((k+1:Nat):Int))/\fr 12=Vi s.1/\
         H=DH enc G B s.2++X/\s.2.size=n/\U=shiftUp (ltC c) b s.1 s.2) (f+1,dv) ⟨by simp only;omega,by simp only;omega,N,ag,D,P,F,O,rfl,by simp [],by simp [A],hU.symm⟩ ?_
        rintro ⟨w,I⟩ aq Hw ⟨w1,w2,R,w4,u,V,w9,r,l,rfl,h,g⟩ hW
        simp only at w1 w2 l h g
        rw [NP (Ng4.eq_1 iz)]
        unfold shiftUp at g
        by_cases cw:w<b
        ·have iw:w<n:=by omega
         have M:w-1<n:=by omega
         have K:IntKind.i64.wrap ((w:Int)-1)=((w-1:Nat):Int):=QW (by omega) (by omega)
         have L:IntKind.i64.wrap ((w:Int)+1)=((w+1:Nat):Int):=NS (by omega)
         by_cases j:c I[w]! I[w-1]!<0
         ·rw [Nh cw,Nf (by simp [ltC,j])] at g
          simp only [VF,R,u,V,l,cw,j,K,L,ld,st,Y,Na,N4,(EncOk.len (enc:=enc) (z:=iz)),h,iw,M,hc,SB,seval,NE,NG,NF,QV,reduceCtorEq,NB]
          exact hW (w+1,swp I w (w-1)) _ _ ⟨by simp only;omega,by simp only;omega,R,w4,u,V,w9,r,rfl,by simp [swp],by simp [swp,h],g⟩ (by simp only;omega)
         ·rw [Nh cw,Nh (by simp [ltC,j])] at g
          clear hW
          simp only [VF,R,u,V,r,l,cw,j,K,ld,Y,Na,h,iw,M,hc,C,SB,seval,NE,NG,NF,QV,reduceCtorEq]
          exact hN (k,f,I) _ _ ⟨by simp only;omega,by simp only;omega,by simp only;omega,R,w4,u,V,w9,rfl,by simp,h,by rw [he,o,WA,Nh hB,hU,g]⟩ (by simp only;omega)
        ·rw [Nf cw] at g
         clear hW
         simp only [VF,u,r,l,cw,C,SB,seval,NG,NF]
         exact hN (k,f,I) _ _ ⟨by simp only;omega,by simp only;omega,by simp only;omega,R,w4,u,V,w9,rfl,by simp,h,by rw [he,o,WA,Nh hB,hU,g]⟩ (by simp only;omega)
       ·have m:¬(2:Int)<=((b-f:Nat):Int):=by omega
        simp only [VF,N,D,P,F,O,Z,m,C,v11,cv,ac,ao,A,iv,ap,hc,ld,Y,Na,SB,seval,NE,NG,NF,QV,reduceCtorEq]
        exact hN (k,f,dv) _ _ ⟨by simp only;omega,by simp only;omega,by simp only;omega,N,ag,D,P,F,rfl,by simp [],by simp [A],by rw [he,o,WA,Nf hB]⟩ (by simp only;omega)
    | zero=>
      have cv:¬(1:Int)<=((0:Nat):Int):=by omega
      rw [shiftDown] at J
      clear hV
      have o:VJ (ltC c) a f (swp d1 f (f-1))=dv:=by rw [VJ,Nh hA,J]
      by_cases hB:2<=b-f
      ·have m:(2:Int)<=((b-f:Nat):Int):=by omega
       simp only [VF,D,F,Z,m,W,v11,SB,seval,NG,NF]
       generalize hU:shiftUp (ltC c) b (f+1) (dv)=U
       refine NL (S:=Nat×Array α) (fun s=>b+1-s.1) (fun s fr H=>f+1<=s.1/\s.1<=b/\fr 0=.slice p n cap/\fr 1=Vi a/\fr 2=Vi b/\fr 3=.func (.func cl) #[] cs.toArray/\fr 9=Vi f/\fr 10=Vi (5-((k+1:Nat):Int))/\fr 12=Vi s.1/\
        H=DH enc G B s.2++X/\s.2.size=n/\U=shiftUp (ltC c) b s.1 s.2) (f+1,dv) ⟨by simp only;omega,by simp only;omega,N,ag,D,P,F,O,rfl,by simp [],by simp [A],hU.symm⟩ ?_
       rintro ⟨w,I⟩ aq Hw ⟨w1,w2,R,w4,u,V,w9,r,l,rfl,h,g⟩ hW
       simp only at w1 w2 l h g
       rw [NP (Ng4.eq_1 iz)]
       unfold shiftUp at g
       by_cases cw:w<b
       ·have iw:w<n:=by omega
        have M:w-1<n:=by omega
        have K:IntKind.i64.wrap ((w:Int)-1)=((w-1:Nat):Int):=QW (by omega) (by omega)
        have L:IntKind.i64.wrap ((w:Int)+1)=((w+1:Nat):Int):=NS (by omega)
        by_cases j:c I[w]! I[w-1]!<0
        ·rw [Nh cw,Nf (by simp [ltC,j])] at g
         simp only [VF,R,u,V,l,cw,j,K,L,ld,st,Y,Na,N4,(EncOk.len (enc:=enc) (z:=iz)),h,iw,M,hc,SB,seval,NE,NG,NF,QV,reduceCtorEq,NB]
         exact hW (w+1,swp I w (w-1)) _ _ ⟨by simp only;omega,by simp only;omega,R,w4,u,V,w9,r,rfl,by simp [swp],by simp [swp,h],g⟩ (by simp only;omega)
        ·rw [Nh cw,Nh (by simp [ltC,j])] at g
         clear hW
         simp only [VF,R,u,V,r,l,cw,j,K,ld,Y,Na,h,iw,M,hc,C,SB,seval,NE,NG,NF,QV,reduceCtorEq]
         exact hN (k,f,I) _ _ ⟨by simp only;omega,by simp only;omega,by simp only;omega,R,w4,u,V,w9,rfl,by simp,h,by rw [he,o,WA,Nh hB,hU,g]⟩ (by simp only;omega)
       ·rw [Nf cw] at g
        clear hW
        simp only [VF,u,r,l,cw,C,SB,seval,NG,NF]
        exact hN (k,f,I) _ _ ⟨by simp only;omega,by simp only;omega,by simp only;omega,R,w4,u,V,w9,rfl,by simp,h,by rw [he,o,WA,Nh hB,hU,g]⟩ (by simp only;omega)
      ·have m:¬(2:Int)<=((b-f:Nat):Int):=by omega
       simp only [VF,D,F,O,Z,m,C,v11,SB,seval,NG,NF]
       exact hN (k,f,dv) _ _ ⟨by simp only;omega,by simp only;omega,by simp only;omega,N,ag,D,P,F,rfl,by simp [],by simp [A],by rw [he,o,WA,Nf hB]⟩ (by simp only;omega)
   ·have ai:¬(2:Int)<=((f-a:Nat):Int):=by omega
    have o:VJ (ltC c) a f (swp d1 f (f-1))=swp d1 f (f-1):=by rw [VJ,Nf hA]
    have a0:(swp d1 f (f-1)).size=n:=by simp [swp,t]
    by_cases hB:2<=b-f
    ·have m:(2:Int)<=((b-f:Nat):Int):=by omega
     simp only [VF,q0,q1,q2,q3,q9,Z,m,W,c2,c3,ah,aa,ae,ak,an,ai,t,i5,i6,hc,ld,st,Y,Na,N4,(EncOk.len (enc:=enc) (z:=iz)),SB,seval,NE,NG,NF,QV,reduceCtorEq,NB]
     generalize hU:shiftUp (ltC c) b (f+1) (swp d1 f (f-1))=U
     refine NL (S:=Nat×Array α) (fun s=>b+1-s.1) (fun s fr H=>f+1<=s.1/\s.1<=b/\fr 0=.slice p n cap/\fr 1=Vi a/\fr 2=Vi b/\fr 3=.func (.func cl) #[] cs.toArray/\fr 9=Vi f/\fr 10=Vi (5-((k+1:Nat):Int))/\fr 12=Vi s.1/\
      H=DH enc G B s.2++X/\s.2.size=n/\U=shiftUp (ltC c) b s.1 s.2) (f+1,swp d1 f (f-1)) ⟨by simp only;omega,by simp only;omega,q0,q1,q2,q3,q9,am,rfl,by simp [swp],by simp [swp,t],hU.symm⟩ ?_
     rintro ⟨w,I⟩ aq Hw ⟨w1,w2,R,w4,u,V,w9,r,l,rfl,h,g⟩ hW
     simp only at w1 w2 l h g
     rw [NP (Ng4.eq_1 iz)]
     unfold shiftUp at g
     by_cases cw:w<b
     ·have iw:w<n:=by omega
      have M:w-1<n:=by omega
      have K:IntKind.i64.wrap ((w:Int)-1)=((w-1:Nat):Int):=QW (by omega) (by omega)
      have L:IntKind.i64.wrap ((w:Int)+1)=((w+1:Nat):Int):=NS (by omega)
      by_cases j:c I[w]! I[w-1]!<0
      ·rw [Nh cw,Nf (by simp [ltC,j])] at g
       simp only [VF,R,u,V,l,cw,j,K,L,ld,st,Y,Na,N4,(EncOk.len (enc:=enc) (z:=iz)),h,iw,M,hc,SB,seval,NE,NG,NF,QV,reduceCtorEq,NB]
       exact hW (w+1,swp I w (w-1)) _ _ ⟨by simp only;omega,by simp only;omega,R,w4,u,V,w9,r,rfl,by simp [swp],by simp [swp,h],g⟩ (by simp only;omega)
      ·rw [Nh cw,Nh (by simp [ltC,j])] at g
       clear hW
       simp only [VF,R,u,V,r,l,cw,j,K,ld,Y,Na,h,iw,M,hc,C,SB,seval,NE,NG,NF,QV,reduceCtorEq]
       exact hN (k,f,I) _ _ ⟨by simp only;omega,by simp only;omega,by simp only;omega,R,w4,u,V,w9,rfl,by simp,h,by rw [he,o,WA,Nh hB,hU,g]⟩ (by simp only;omega)
     ·rw [Nf cw] at g
      clear hW
      simp only [VF,u,r,l,cw,C,SB,seval,NG,NF]
      exact hN (k,f,I) _ _ ⟨by simp only;omega,by simp only;omega,by simp only;omega,R,w4,u,V,w9,rfl,by simp,h,by rw [he,o,WA,Nh hB,hU,g]⟩ (by simp only;omega)
    ·have m:¬(2:Int)<=((b-f:Nat):Int):=by omega
     simp only [VF,q0,q1,q2,q3,q9,am,Z,m,C,c2,c3,ah,aa,ae,ak,an,ai,t,i5,i6,hc,ld,st,Y,Na,N4,(EncOk.len (enc:=enc) (z:=iz)),SB,seval,NE,NG,NF,QV,reduceCtorEq,NB]
     exact hN (k,f,swp d1 f (f-1)) _ _ ⟨by simp only;omega,by simp only;omega,by simp only;omega,q0,q1,q2,q3,q9,rfl,by simp [swp],by simp [swp,t],by rw [he,o,WA,Nf hB]⟩ (by simp only;omega)
variable {E:Env} {iz:Ids} [DT E E] [SortAt E iz] {α:Type} [Inhabited α] {enc:α->List Value} [EncOk enc iz]
section
variable {α:Type} {enc:α->List Value} {G X:NA} {B:Nat} {d:Array α} {c:Blk}
theorem Nor:(DH enc G B d++X).length=G.length+X.length:=by rw [Nb,WH]
theorem V4:NC (DH enc G B d++(X++[c])) (G.length+X.length)=c:=by
 rw [<-Nr,<-Nor (enc:=enc) (B:=B) (d:=d)];exact NQ
theorem Nhg {c':Blk}:(DH enc G B d++(X++[c])).set (G.length+X.length) c'=DH enc G B d++(X++[c']):=by
 rw [<-Nr,<-Nor (enc:=enc) (B:=B) (d:=d),Nb6];simp
end
theorem Nlc {G X:NA} {B lim cap n:Nat} {p:Option Addr} {c:α->α->Int} {cl:FuncId} {cs:List Value} (hp:p=Sa B) (hB:B<G.length) (hl:lim<=B) (m:n<2 ^ 61) (hc:∀(mp:Bool) (lim:Nat) (x y:α) (H:NA) (Q:Value->NA->Prop),NR E mp lim cl (.agg (enc x).toArray::.agg (enc y).toArray::cs) H Q=Q (Vi (c x y)) H) {d:Array α} {a b s:Nat} (hd:d.size=n) (g:a<n) (h:b<n) (o:s<100) :
  ∃x y l:Nat,(x=a/\y=b\/x=b/\y=a)/\l<=s+1/\∀Q,NR E false lim iz.ORD [.slice p n cap,Vi a,Vi b,Vp (G.length+X.length),.func (.func cl) #[] cs.toArray] (DH enc G B d++(X++[Vc [Vi s]])) Q =
   Q (.tuple #[Vi x,Vi y]) (DH enc G B d++(X++[Vc [Vi l]])):=by
 have ld:=fun (i:Nat) (X:NA) (d:Array α) (hd:d.size=n) (hi:i<n)=>Yr (X:=X) (d:=d) (i:=i) hp hB (EncOk.len (enc:=enc) (z:=iz)) (by omega);have st:=fun (i:Nat) (X:NA) (d:Array α) (hd:d.size=n) (hi:i<n) (y:α)=>Yo (X:=X) (d:=d) (i:=i) (y:=y) hp hB hl (EncOk.len (enc:=enc) (z:=iz)) (by omega);have j:=fun (i:Nat) (hi:i<n) c (k:IntKind) (H:NA)=>VT (e:=iz.e) (i:=i) (n:=n) (c:=c) (k:=k) (H:=H) hp hi
 have hw:IntKind.i64.wrap ((s:Int)+1)=((s+1:Nat):Int):=NS (by omega)
 have f:lim<=G.length+X.length:=by omega
 by_cases c1:c d[b]! d[a]!<0
 ·refine ⟨b,a,s+1,.inr ⟨rfl,rfl⟩,Ng _,fun Q=>runs (SortAt.ORD (E:=E) (z:=iz)) ?_⟩
  rw [N4j,Nzw]
  simp only [N33,N3l,ld,j,Na,hd,g,h,hc,c1,V4,Nhg,hw,f,SB,seval,NE,NG,NF,reduceCtorEq,NK,NB,NH]
 ·refine ⟨a,b,s,.inl ⟨rfl,rfl⟩,by omega,fun Q=>runs (SortAt.ORD (E:=E) (z:=iz)) ?_⟩
  rw [N4j,Nzw]
  simp only [N33,N3l,ld,j,Na,hd,g,h,hc,c1,SB,seval,NE,NG,NF,reduceCtorEq,NK,NH]
theorem Nui {G X:NA} {B lim cap n:Nat} {p:Option Addr} {c:α->α->Int} {cl:FuncId} {cs:List Value} (hp:p=Sa B) (hB:B<G.length) (hl:lim<=B) (f:n<2 ^ 61) (hc:∀(mp:Bool) (lim:Nat) (x y:α) (H:NA) (Q:Value->NA->Prop),NR E mp lim cl (.agg (enc x).toArray::.agg (enc y).toArray::cs) H Q=Q (Vi (c x y)) H) {d:Array α} {a b e s:Nat} (hd:d.size=n) (h:a<n) (i:b<n) (he:e<n) (v:s<90) :
  ∃x g:Nat,(x=a\/x=b\/x=e)/\g<=s+3/\∀Q,NR E false lim iz.MED [.slice p n cap,Vi a,Vi b,Vi e,Vp (G.length+X.length),.func (.func cl) #[] cs.toArray] (DH enc G B d++(X++[Vc [Vi s]])) Q =
   Q (Vi x) (DH enc G B d++(X++[Vc [Vi g]])):=by
 obtain ⟨o,r,s1,h1,k1,j⟩:=Nlc (X:=X) (cap:=cap) (lim:=lim) hp hB hl f hc hd h i (show s<100 by omega)
 obtain ⟨q,A,s2,h2,k2,k⟩:=Nlc (X:=X) (cap:=cap) (lim:=lim) hp hB hl f hc hd (show r<n by omega) he (show s1<100 by omega)
 obtain ⟨w,t,m,u,k3,l⟩:=Nlc (X:=X) (cap:=cap) (lim:=lim) hp hB hl f hc hd (show o<n by omega) (show q<n by omega) (show s2<100 by omega)
 refine ⟨t,m,by omega,by omega,fun Q=>runs (SortAt.MED (E:=E) (z:=iz)) ?_⟩
 rw [N6g,N21]
 simp only [N51,N5r,j,k,l,SB,seval,NE,NG,reduceCtorEq,NK,NH]
theorem Ngz {G X:NA} {B lim cap n:Nat} {p:Option Addr} {c:α->α->Int} {cl:FuncId} {cs:List Value} (hp:p=Sa B) (hB:B<G.length) (hl:lim<=B) (f:n<2 ^ 61) (hc:∀(mp:Bool) (lim:Nat) (x y:α) (H:NA) (Q:Value->NA->Prop),NR E mp lim cl (.agg (enc x).toArray::.agg (enc y).toArray::cs) H Q=Q (Vi (c x y)) H) {d:Array α} {a s:Nat} (hd:d.size=n) (m:0<a) (o:a+1<n) (j:s<90) :
  ∃x i:Nat,a<=x+1/\x<=a+1/\i<=s+3/\∀Q,NR E false lim iz.MEDA [.slice p n cap,Vi a,Vp (G.length+X.length),.func (.func cl) #[] cs.toArray] (DH enc G B d++(X++[Vc [Vi s]])) Q =
   Q (Vi x) (DH enc G B d++(X++[Vc [Vi i]])):=by
 obtain ⟨l,s1,h1,k1,k⟩:=Nui (X:=X) (cap:=cap) (lim:=lim) (a:=a-1) (b:=a) (e:=a+1) hp hB hl f hc hd (by omega) (by omega) (by omega) j
 have g:IntKind.i64.wrap ((a:Int)-1)=((a-1:Nat):Int):=QW (by omega) (by omega)
 have h:IntKind.i64.wrap ((a:Int)+1)=((a+1:Nat):Int):=NS (by omega)
 refine ⟨l,s1,by omega,by omega,k1,fun Q=>runs (SortAt.MEDA (E:=E) (z:=iz)) ?_⟩
 rw [N4k,Nxj]
 simp only [N34,N3m,g,h,k,SB,seval,NE,NG,NF,reduceCtorEq,NK,NH]
theorem QD {m:Int} {k:Nat} (h:m=(k:Int)) (a:k<2 ^ 62):IntKind.i64.wrap m=(k:Int):=by
 subst h;exact NY (by omega) (by omega)
theorem Nby {a b:Nat}:(a:Int).tdiv (b:Int)=((a / b:Nat):Int):=by
 rw [Pv (by omega)];rfl
theorem N2u {G X:NA} {B lim cap n:Nat} {p:Option Addr} {c:α->α->Int} {cl:FuncId} {cs:List Value} (hp:p=Sa B) (hB:B<G.length) (hl:lim<=B) (u:n<2 ^ 61) (hc:∀(mp:Bool) (lim:Nat) (x y:α) (H:NA) (Q:Value->NA->Prop),NR E mp lim cl (.agg (enc x).toArray::.agg (enc y).toArray::cs) H Q=Q (Vi (c x y)) H) {d:Array α} {a b:Nat} (hd:d.size=n) (hb:b<=n) (O:a+12<b) :
  ∃v h s:Nat,a<=v/\v<b/\h<=2/\∀Q,NR E false lim iz.CHO [.slice p n cap,Vi a,Vi b,.func (.func cl) #[] cs.toArray] (DH enc G B d++X) Q =
   Q (.tuple #[Vi v,Vi h]) (DH enc G B d++(X++[Vc [Vi s]])):=by
 obtain ⟨l,rfl⟩:∃l,b=a+l:=⟨b-a,by omega⟩
 have i:IntKind.i64.wrap (((a+l:Nat):Int)-(a:Int))=(l:Int):=QD (by omega) (by omega)
 have C:(l:Int).tdiv 4=((l / 4:Nat):Int):=Nby (b:=4)
 have j:IntKind.i64.wrap ((l / 4:Nat):Int)=((l / 4:Nat):Int):=QD rfl (by omega)
 have k:IntKind.i64.wrap (((l / 4:Nat):Int)*1)=((l / 4:Nat):Int):=QD (by omega) (by omega)
 have m:IntKind.i64.wrap (((l / 4:Nat):Int)*2)=((l / 4*2:Nat):Int):=QD (by omega) (by omega)
 have o:IntKind.i64.wrap (((l / 4:Nat):Int)*3)=((l / 4*3:Nat):Int):=QD (by omega) (by omega)
 have q:IntKind.i64.wrap ((a:Int)+((l / 4:Nat):Int))=((a+l / 4:Nat):Int):=QD (by omega) (by omega)
 have r:IntKind.i64.wrap ((a:Int)+((l / 4*2:Nat):Int))=((a+l / 4*2:Nat):Int):=QD (by omega) (by omega)
 have t:IntKind.i64.wrap ((a:Int)+((l / 4*3:Nat):Int))=((a+l / 4*3:Nat):Int):=QD (by omega) (by omega)
 have c8:(8:Int)<=(l:Int):=by omega
 have key:∀(x y z s:Nat),a<=x->x<a+l->a<=y->y<a+l->a<=z->z<a+l->s<80->∃v g:Nat,a<=v/\v<a+l/\∀Q,NR E false lim iz.MED [.slice p n cap,Vi x,Vi y,Vi z,Vp (G.length+X.length),.func (.func cl) #[] cs.toArray] (DH enc G B d++(X++[Vc [Vi s]])) Q =
   Q (Vi v) (DH enc G B d++(X++[Vc [Vi g]])):=by
  intro x y z s q1 q2 q3 q4 q5 q6 q7
  obtain ⟨v,g,J,_,D⟩:=Nui (X:=X) (cap:=cap) (lim:=lim) (a:=x) (b:=y) (e:=z) hp hB hl u hc hd (by omega) (by omega) (by omega) (show s<90 by omega)
  exact ⟨v,g,by omega,by omega,D⟩
 have fin:∀(v g:Nat) ,∃h:Nat,h<=2/\((g=0/\h=1)\/(¬(g:Int)=0/\g=12/\h=2)\/(¬(g:Int)=0/\¬(g:Int)=12/\h=0)):=by
  intro v g
  by_cases z:g=0
  ·exact ⟨1,by omega,.inl ⟨z,rfl⟩⟩
  ·by_cases I:g=12
   ·exact ⟨2,by omega,.inr (.inl ⟨by omega,I,rfl⟩)⟩
   ·exact ⟨0,by omega,.inr (.inr ⟨by omega,by omega,rfl⟩)⟩
 by_cases c50:50<=l
 ·have f:(50:Int)<=(l:Int):=by omega
  obtain ⟨R,s1,h1,h2,U,K⟩:=Ngz (X:=X) (cap:=cap) (lim:=lim) (a:=a+l / 4) (s:=0) hp hB hl u hc hd (by omega) (by omega) (by omega)
  obtain ⟨S,s2,V,W,Y,M⟩:=Ngz (X:=X) (cap:=cap) (lim:=lim) (a:=a+l / 4*2) (s:=s1) hp hB hl u hc hd (by omega) (by omega) (by omega)
  obtain ⟨T,P,Z,h8,h9,N⟩:=Ngz (X:=X) (cap:=cap) (lim:=lim) (a:=a+l / 4*3) (s:=s2) hp hB hl u hc hd (by omega) (by omega) (by omega)
  obtain ⟨v,g,J,D,w⟩:=key R S T P (by omega) (by omega) (by omega) (by omega) (by omega) (by omega) (by omega)
  obtain ⟨h,L,A⟩:=fin v g
  refine ⟨v,h,g,J,D,L,fun Q=>runs (SortAt.CHO (E:=E) (z:=iz)) ?_⟩
  rw [N4o,Nzz]
  simp only [show ((0:Nat):Int)=0 from rfl] at K
  rcases A with ⟨rfl,rfl⟩ | ⟨F,rfl,rfl⟩ | ⟨F,I,rfl⟩
  ·simp only [Nqv,Npy,i,C,j,k,m,o,q,r,t,c8,f,K,M,N,w,V4,WH,SB,seval,NE,NG,NF,reduceCtorEq,NK,place,NH]
  ·simp only [Nqv,Npy,i,C,j,k,m,o,q,r,t,c8,f,K,M,N,w,V4,WH,SB,seval,NE,NG,NF,reduceCtorEq,NK,place,NH]
  ·simp only [Nqv,Npy,i,C,j,k,m,o,q,r,t,c8,f,K,M,N,w,F,I,V4,WH,SB,seval,NE,NG,NF,reduceCtorEq,NK,place,NH]
 ·have f:¬(50:Int)<=(l:Int):=by omega
  obtain ⟨v,g,J,D,w⟩:=key (a+l / 4) (a+l / 4*2) (a+l / 4*3) 0 (by omega) (by omega) (by omega) (by omega) (by omega) (by omega) (by omega)
  obtain ⟨h,L,A⟩:=fin v g
  refine ⟨v,h,g,J,D,L,fun Q=>runs (SortAt.CHO (E:=E) (z:=iz)) ?_⟩
  rw [N4o,Nzz]
  simp only [show ((0:Nat):Int)=0 from rfl] at w
  rcases A with ⟨rfl,rfl⟩ | ⟨F,rfl,rfl⟩ | ⟨F,I,rfl⟩
  ·simp only [Nqv,Npy,i,C,j,k,m,o,q,r,t,c8,f,w,V4,WH,SB,seval,NE,NG,NF,reduceCtorEq,NK,place,NH]
  ·simp only [Nqv,Npy,i,C,j,k,m,o,q,r,t,c8,f,w,V4,WH,SB,seval,NE,NG,NF,reduceCtorEq,NK,place,NH]
  ·simp only [Nqv,Npy,i,C,j,k,m,o,q,r,t,c8,f,w,F,I,V4,WH,SB,seval,NE,NG,NF,reduceCtorEq,NK,place,NH]
variable {E:Env} {iz:Ids} [DT E E] [SortAt E iz] {α:Type} [Inhabited α] {enc:α->List Value} [EncOk enc iz]
def len8:List UInt8:=[0,1,2,2,3,3,3,3,4,4,4,4,4,4,4,4,5,5,5,5,5,5,5,5,5,5,5,5,5,5,5,5,6,6,6,6,6,6,6,6,6,6,6,6,6,6,6,6,6,6,6,6,6,6,6,6,6,6,6,6,6,6,6,6,7,7,7,7,7,7,7,7,7,7,7,7,7,7,7,7,7,7,7,7,7,7,7,7,7,7,7,7,7,7,7,7,7,7,7,7,7,7,7,7,7,7,7,7,7,7,7,7,7,7,7,7,7,7,7,7,7,7,7,7,7,7,7,7,8,8,8,8,8,8,8,8,8,8,8,8,8,8,8,8,8,8,8,8,8,8,8,8,8,8,8,8,8,8,8,8,8,8,8,8,8,8,8,8,8,8,8,8,8,8,8,8,8,8,8,8,8,8,8,8,8,8,8,8,8,8,8,8,8,8,8,8,8,8,8,8,8,8,8,8,8,8,8,8,8,8,8,8,8,8,8,8,8,8,8,8,8,8,8,8,8,8,8,8,8,8,8,8,8,8,8,8,8,8,8,8,8,8,8,8,8,8,8,8,8,8,8,8,8,8,8,8]
theorem Nuv:len8.length=256:=by decide
theorem Nn2:∀m,m<256->m<2 ^ (len8.getD m 0).toNat/\(m=0\/2 ^ (len8.getD m 0).toNat<=2*m)/\(len8.getD m 0).toNat<=8:=by decide +kernel
theorem len8_get {m:Nat} (h:m<256):len8[m]? = some (len8.getD m 0):=by
 rw [Nc,Np (by rw [Nuv];exact h)];rfl
theorem wrap64 {n:Int}:IntKind.u64.wrap n=n % 2 ^ 64:=by simp [IntKind.wrap,IntKind.bits,IntKind.signed]
theorem N0e {n:Int}:IntKind.u8.wrap n=n % 2 ^ 8:=by simp [IntKind.wrap,IntKind.bits,IntKind.signed]
theorem fd8 {a:Int}:a.fdiv (2 ^ min (Int.toNat 8) IntKind.u64.bits)=a / 256:=by
 rw [show (2:Int) ^ min (Int.toNat 8) IntKind.u64.bits=256 from by decide,Rf _ (by decide)]
theorem Nuu {x:Nat} (r:x<65536) (q:0<x):∃L:Nat,x<2 ^ L/\2 ^ L<=2*x/\L<=16/\∀(mp:Bool) (lim:Nat) (H:NA) (Q:Value->NA->Prop),NR E mp lim iz.LEN [.int .u64 (x:Int)] H Q=Q (Vi L) H:=by
 have key:∃L:Nat,x<2 ^ L/\2 ^ L<=2*x/\L<=16/\∀(mp:Bool) (lim:Nat) (H:NA) (Q:Value->NA->Prop),NR E mp lim iz.LEN64 [.int .u64 (x:Int)] H Q=Q (Vi L) H:=by
  have c32:¬(4294967296:Int)<=(x:Int):=by omega
  have d:¬(65536:Int)<=(x:Int):=by omega
  by_cases c8:256<=x
  ·obtain ⟨h1,h2,f⟩:=Nn2 (x / 256) (by omega)
   have c:=len8_get (m:=x / 256) (by omega)
   generalize n:len8.getD (x / 256) 0=b at h1 h2 f c
   have k:2 ^ b.toNat<=2*(x / 256):=by rcases h2 with h | h<;>omega
   have e:(2:Nat) ^ (8+b.toNat)=256*2 ^ b.toNat:=by rw [Nat.pow_add]
   refine ⟨8+b.toNat,by rw [e];omega,by rw [e];omega,by omega,fun mp lim H Q=>?_⟩
   refine pcG (SortAt.LEN64 (E:=E) (z:=iz)) rfl ?_
   rw [Nmx,Ndg]
   unfold len8 at c
   have a:(256:Int)<=(x:Int):=by omega
   have s:IntKind.u64.wrap ((x:Int) / 256)=((x / 256:Nat):Int):=by rw [wrap64];omega
   have g:IntKind.u8.wrap ((x:Int) / 256)=((x / 256:Nat):Int):=by rw [N0e];omega
   have i:IntKind.i64.wrap ((b.toNat:Nat):Int)=(b.toNat:Int):=QD rfl (by omega)
   have o:IntKind.i64.wrap (8+(b.toNat:Int))=((8+b.toNat:Nat):Int):=QD (by omega) (by omega)
   have p:IntKind.i64.wrap 8=8:=by decide
   have j:(0:Int)<=((x / 256:Nat):Int):=by omega
   simp only [Nlt,Nk3,c32,d,a,fd8,g,i,o,p,j,c,Ov,Qu,SB,Nat.reduceLT,NG,Nat.reduceEqDiff,NF,reduceCtorEq,NK,NH,Int.reduceLT]
  ·obtain ⟨h1,h2,f⟩:=Nn2 x (by omega)
   have c:=len8_get (m:=x) (by omega)
   generalize n:len8.getD x 0=b at h1 h2 f c
   refine ⟨b.toNat,h1,by rcases h2 with h | h<;>omega,by omega,fun mp lim H Q=>?_⟩
   refine pcG (SortAt.LEN64 (E:=E) (z:=iz)) rfl ?_
   rw [Nmx,Ndg]
   unfold len8 at c
   have a:¬(256:Int)<=(x:Int):=by omega
   have g:IntKind.u8.wrap (x:Int)=(x:Int):=by rw [N0e];omega
   have i:IntKind.i64.wrap ((b.toNat:Nat):Int)=(b.toNat:Int):=QD rfl (by omega)
   have j:(0:Int)<=(x:Int):=by omega
   simp only [Nlt,Nk3,c32,d,a,g,i,j,c,Ov,Qu,SB,Nat.reduceLT,NG,Nat.reduceEqDiff,NF,reduceCtorEq,NK,NH]
 obtain ⟨L,h1,h2,f,l⟩:=key
 refine ⟨L,h1,h2,f,fun mp lim H Q=>?_⟩
 refine pcG (SortAt.LEN (E:=E) (z:=iz)) rfl ?_
 rw [N4l,Nzx]
 simp only [N35,N3n,l,SB,Nat.reduceLT,NE,NG,reduceCtorEq,NK,NH]
theorem N2c {x:Nat} (d:x<65536) (b:0<x):∃m:Nat,0<m/\m<=2*x/\∀(mp:Bool) (lim:Nat) (H:NA) (Q:Value->NA->Prop),NR E mp lim iz.NPT [Vi x] H Q=Q (.int .u64 (m:Int)) H:=by
 obtain ⟨L,h1,h2,h,c⟩:=Nuu (E:=E) (iz:=iz) d b
 refine ⟨2 ^ L,Nat.pow_pos (by decide),h2,fun mp lim H Q=>?_⟩
 refine pcG (SortAt.NPT (E:=E) (z:=iz)) rfl ?_
 rw [N6f,N20]
 have e:IntKind.u64.wrap (x:Int)=(x:Int):=by rw [wrap64];omega
 have f:min L IntKind.u64.bits=L:=by simp only [IntKind.bits];omega
 have hp:(2:Nat) ^ L<2 ^ 18:=by omega
 have g:IntKind.u64.wrap (1*2 ^ L)=((2 ^ L:Nat):Int):=by
  rw [wrap64,Int.one_mul]
  have:((2:Int) ^ L)=((2 ^ L:Nat):Int):=by simp
  rw [this];omega
 have a:¬(L:Int)<0:=by omega
 simp only [N50,N5q,e,c,a,Ov,f,g,SB,Nat.reduceLT,NE,NG,NF,reduceCtorEq,NK,NH]
theorem N1p {α:Type} {enc:α->List Value} {G X:NA} {B lim:Nat} {d:Array α} {s:Int} (hl:lim<=B) (hB:B<G.length) :
  ∃a:Int,(0<=a/\a<2 ^ 64)/\∀Q,NR E false lim iz.XOR [Vp (G.length+X.length)] (DH enc G B d++(X++[Vc [.int .u64 s]])) Q=Q (.int .u64 a) (DH enc G B d++(X++[Vc [.int .u64 a]])):=by
 have b:lim<=G.length+X.length:=by omega
 have hw:∀m:Int,0<=IntKind.u64.wrap m/\IntKind.u64.wrap m<2 ^ 64:=by intro m;rw [wrap64];omega
 have key:NR E false lim iz.XOR [Vp (G.length+X.length)] (DH enc G B d++(X++[Vc [.int .u64 s]])) fun v H'=>∃a,(0<=a/\a<2 ^ 64)/\v=.int .u64 a/\H'=DH enc G B d++(X++[Vc [.int .u64 a]]):=by
  rw [UT (E:=E) (g:=iz.XOR) (af:=(aXOR iz)) ((SortAt.XOR (E:=E) (z:=iz)).2.2 _) (SortAt.XOR (E:=E) (z:=iz)).1 (SortAt.XOR (E:=E) (z:=iz)).2.1 rfl]
  rw [N6b,N2w]
  simp only [N5z,N5n,V4,Nhg,b,Na,SB,Nat.reduceLT,NG,Nat.reduceEqDiff,NF,reduceCtorEq,NK,NB,NH,Int.reduceLT]
  exact ⟨_,hw _,rfl,rfl⟩
 obtain ⟨k,v,H',c,a,h1,rfl,rfl⟩:=oneG (SortAt.dt (E:=E) (z:=iz)) key
 exact ⟨a,h1,fun Q=>NR.det c⟩
theorem N3c {a b:Int} (c:0<=b/\b<2 ^ 64):0<=IntKind.u64.wrap ((BitVec.ofInt IntKind.u64.bits a &&& BitVec.ofInt IntKind.u64.bits b).toNat:Int)/\IntKind.u64.wrap ((BitVec.ofInt IntKind.u64.bits a &&& BitVec.ofInt IntKind.u64.bits b).toNat:Int)<=b:=by
 rw [wrap64]
 have h1:(BitVec.ofInt IntKind.u64.bits a &&& BitVec.ofInt IntKind.u64.bits b).toNat<=(BitVec.ofInt IntKind.u64.bits b).toNat:=by
  rw [Ry];exact Nat.and_le_right
 have h2:((BitVec.ofInt IntKind.u64.bits b).toNat:Int)=b:=by
  rw [BitVec.toNat_ofInt]
  simp only [IntKind.bits]
  omega
 omega
variable {E:Env} {iz:Ids} [DT E E] [SortAt E iz] {α:Type} [Inhabited α] {enc:α->List Value} [EncOk enc iz]
theorem N28 {G X:NA} {B lim cap n:Nat} {p:Option Addr} {c:α->α->Int} {cl:FuncId} {cs:List Value} (hp:p=Sa B) (hB:B<G.length) (hl:lim<=B) (ae:n<2 ^ 61) (hc:∀(mp:Bool) (lim:Nat) (x y:α) (H:NA) (Q:Value->NA->Prop),NR E mp lim cl (.agg (enc x).toArray::.agg (enc y).toArray::cs) H Q=Q (Vi (c x y)) H) {d:Array α} {a b:Nat} (hd:d.size=n) (hb:b<=n) (aa:a+12<b) (ag:n<65536) :
  ∃o s,o.size=n/\PermIn a b d o/\∀Q,NR E false lim iz.BRK [.slice p n cap,Vi a,Vi b,.func (.func cl) #[] cs.toArray] (DH enc G B d++X) Q=Q (.tuple #[]) (DH enc G B o++(X++[Vc [.int .u64 s]])):=by
 have key:NR E false lim iz.BRK [.slice p n cap,Vi a,Vi b,.func (.func cl) #[] cs.toArray] (DH enc G B d++X) fun v H'=>∃o s,o.size=n/\PermIn a b d o/\v=.tuple #[]/\H'=DH enc G B o++(X++[Vc [.int .u64 s]]):=by
  rw [UT (E:=E) (g:=iz.BRK) (af:=(aBRK iz)) ((SortAt.BRK (E:=E) (z:=iz)).2.2 _) (SortAt.BRK (E:=E) (z:=iz)).1 (SortAt.BRK (E:=E) (z:=iz)).2.1 rfl]
  rw [N6h,N22]
  have ld:=fun (i:Nat) (X:NA) (d:Array α) (hd:d.size=n) (hi:i<n)=>Yr (X:=X) (d:=d) (i:=i) hp hB (EncOk.len (enc:=enc) (z:=iz)) (by omega);have st:=fun (i:Nat) (X:NA) (d:Array α) (hd:d.size=n) (hi:i<n) (y:α)=>Yo (X:=X) (d:=d) (i:=i) (y:=y) hp hB hl (EncOk.len (enc:=enc) (z:=iz)) (by omega);have ix:=fun (i:Nat) (hi:i<n) c (k:IntKind) (H:NA)=>VT (e:=iz.e) (i:=i) (n:=n) (c:=c) (k:=k) (H:=H) hp hi
  have T:lim<=G.length+X.length:=by omega
  obtain ⟨l,rfl⟩:∃l,b=a+l:=⟨b-a,by omega⟩
  obtain ⟨m,ac,ad,F⟩:=N2c (E:=E) (iz:=iz) (x:=l) (by omega) (by omega)
  have U:IntKind.i64.wrap (((a+l:Nat):Int)-(a:Int))=(l:Int):=QD (by omega) (by omega)
  have N:(l:Int).tdiv 4=((l / 4:Nat):Int):=Nby (b:=4)
  have u:IntKind.i64.wrap ((l / 4:Nat):Int)=((l / 4:Nat):Int):=QD rfl (by omega)
  have w:IntKind.i64.wrap (((l / 4:Nat):Int)*2)=((l / 4*2:Nat):Int):=QD (by omega) (by omega)
  have A:IntKind.i64.wrap ((a:Int)+((l / 4*2:Nat):Int))=((a+l / 4*2:Nat):Int):=QD (by omega) (by omega)
  have V:IntKind.i64.wrap (((a+l / 4*2:Nat):Int)-1)=((a+l / 4*2-1:Nat):Int):=QD (by omega) (by omega)
  have C:IntKind.i64.wrap (((a+l / 4*2:Nat):Int)+1)=((a+l / 4*2+1:Nat):Int):=QD (by omega) (by omega)
  have J:IntKind.u64.wrap ((m:Int)-1)=((m-1:Nat):Int):=by rw [wrap64];omega
  have c8:(8:Int)<=(l:Int):=by omega
  simp only [Nyw,U,N,u,w,A,V,c8,F,V4,Nhg,WH,T,SB,seval,NE,NG,NF,NK,place,NB]
  refine NL (S:=Nat×Array α×Int) (fun s=>a+l+5-s.1) (fun s fr H=>a<s.1/\s.1<=a+l / 4*2+2/\fr 0=.slice p n cap/\fr 1=Vi a/\fr 8=Vi l/\fr 9=Vp (G.length+X.length)/\fr 10=.int .u64 (m:Int)/\fr 11=Vi s.1/\
   H=DH enc G B s.2.1++(X++[Vc [.int .u64 s.2.2]])/\s.2.1.size=n/\PermIn a (a+l) d s.2.1) (a+l / 4*2-1,d,IntKind.u64.wrap (l:Int)) ⟨by simp only;omega,by simp only;omega,rfl,rfl,rfl,rfl,rfl,rfl,rfl,hd,permIn_refl _ _ _⟩ ?_
  rintro ⟨i,d1,s⟩ fr H ⟨h1,h2,g0,g1,D,L,q,t,rfl,h,M⟩ R
  simp only at h1 h2 t h M
  rw [NP (Nu8.eq_1 iz)]
  by_cases c1:i<=a+(l / 4*2+1)
  ·obtain ⟨P,_,O⟩:=N1p (E:=E) (iz:=iz) (X:=X) (d:=d1) (s:=s) (enc:=enc) hl hB
   have hA:=N3c (a:=P) (b:=((m-1:Nat):Int)) (by omega)
   generalize hr:IntKind.u64.wrap ((BitVec.ofInt IntKind.u64.bits P &&& BitVec.ofInt IntKind.u64.bits ((m-1:Nat):Int)).toNat:Int)=r at hA
   obtain ⟨f,rfl⟩:∃f:Nat,r=(f:Int):=⟨r.toNat,by omega⟩
   have K:IntKind.i64.wrap (f:Int)=(f:Int):=QD rfl (by omega)
   have I:IntKind.i64.wrap ((i:Int)+1)=((i+1:Nat):Int):=NS (by omega)
   have Z:i<n:=by omega
   by_cases c2:l<=f
   ·have W:IntKind.i64.wrap ((f:Int)-(l:Int))=((f-l:Nat):Int):=QD (by omega) (by omega)
    have j:IntKind.i64.wrap ((a:Int)+((f-l:Nat):Int))=((a+(f-l):Nat):Int):=QD (by omega) (by omega)
    have Y:a+(f-l)<n:=by omega
    simp only [Nyw,g0,g1,D,L,q,t,N,u,w,A,C,c1,O,J,hr,K,c2,W,j,ld,st,ix,Na,N4,(EncOk.len (enc:=enc) (z:=iz)),h,Z,Y,I,SB,seval,NE,NG,NF,reduceCtorEq,NB]
    exact R (i+1,swp d1 i (a+(f-l)),P) _ _ ⟨by simp only;omega,by simp only;omega,g0,g1,D,L,q,rfl,by simp [swp],by simp [swp,h],permIn_trans _ _ _ _ _ M (swp_permIn _ _ _ _ _ (by omega) (by omega) (by omega) (by omega) (by omega))⟩ (by simp only;omega)
   ·have j:IntKind.i64.wrap ((a:Int)+(f:Int))=((a+f:Nat):Int):=QD (by omega) (by omega)
    have Y:a+f<n:=by omega
    simp only [Nyw,g0,g1,D,L,q,t,N,u,w,A,C,c1,O,J,hr,K,c2,j,ld,st,ix,Na,N4,(EncOk.len (enc:=enc) (z:=iz)),h,Z,Y,I,SB,seval,NE,NG,NF,reduceCtorEq,NB]
    exact R (i+1,swp d1 i (a+f),P) _ _ ⟨by simp only;omega,by simp only;omega,g0,g1,D,L,q,rfl,by simp [swp],by simp [swp,h],permIn_trans _ _ _ _ _ M (swp_permIn _ _ _ _ _ (by omega) (by omega) (by omega) (by omega) (by omega))⟩ (by simp only;omega)
  ·clear R
   simp only [Nyw,N5s,g1,D,t,N,u,w,A,C,c1,SB,seval,NG,NF]
   exact ⟨d1,s,h,M,rfl⟩
 obtain ⟨k,v,H',O,o,s,h1,h2,rfl,rfl⟩:=oneG (SortAt.dt (E:=E) (z:=iz)) key
 exact ⟨o,s,h1,h2,fun Q=>NR.det O⟩
variable {E:Env} {iz:Ids} [DT E E] [SortAt E iz] {α:Type} [Inhabited α] {enc:α->List Value} [EncOk enc iz]
def tlc:ACode->ACode
 | .seq _ b=>b
 | x=>x
def unb:ACode->ACode
 | .block _ b=>b
 | x=>x
def q1 (iz:Ids):ACode:=tlc (tlc (tlc (tlc (unb (TE iz)))))
def q2 (iz:Ids):ACode:=tlc (tlc (q1 iz))
def q3 (iz:Ids):ACode:=tlc (q2 iz)
def hdc:ACode->ACode
 | .seq a _=>a
 | x=>x
def p1 (iz:Ids):ACode:=hdc (unb (TE iz))
def p2 (iz:Ids):ACode:=hdc (tlc (unb (TE iz)))
def p3 (iz:Ids):ACode:=hdc (tlc (tlc (unb (TE iz))))
def p4 (iz:Ids):ACode:=hdc (tlc (tlc (tlc (unb (TE iz)))))
theorem Nox:(TE iz)=.block 1 (.seq (p1 iz) (.seq (p2 iz) (.seq (p3 iz) (.seq (p4 iz) (q1 iz))))):=rfl
def p5 (iz:Ids):ACode:=hdc (q2 iz)
theorem Ntm:(q2 iz)=.seq (p5 iz) (q3 iz):=rfl
def p6 (iz:Ids):ACode:=hdc (q1 iz)
def p7 (iz:Ids):ACode:=hdc (tlc (q1 iz))
theorem N0j:(q1 iz)=.seq (p6 iz) (.seq (p7 iz) (q2 iz)):=rfl
def U0 (enc:α->List Value) (G:NA) (B n:Nat) (c:α->α->Int) (a b:Nat) (d:Array α) (X:NA) (v:Value) (H':NA):Prop:=
 ∃e Y,e.size=n/\PermIn a b d e/\SortedIn (ltC c) a b e/\v=.tuple #[]/\H'=DH enc G B e++(X++Y)
theorem U0.perm {G:NA} {B n:Nat} {c:α->α->Int} {a b:Nat} {d d1:Array α} {X Y:NA} {v:Value} {H':NA} (h:U0 enc G B n c a b d1 (X++Y) v H') (j:PermIn a b d d1):U0 enc G B n c a b d X v H':=by
 obtain ⟨e,Z,h1,h2,f,g,i⟩:=h
 exact ⟨e,Y++Z,h1,permIn_trans _ _ _ _ _ j h2,f,g,by rw [i];simp⟩
theorem N5w {G X:NA} {B lim cap n:Nat} {p:Option Addr} {c:α->α->Int} {cl:FuncId} {cs:List Value} (hp:p=Sa B) (hB:B<G.length) (hl:lim<=B) (U:n<2 ^ 61) (hc:∀(mp:Bool) (lim:Nat) (x y:α) (H:NA) (Q:Value->NA->Prop),NR E mp lim cl (.agg (enc x).toArray::.agg (enc y).toArray::cs) H Q=Q (Vi (c x y)) H) (hS:SWO (ltC c)) {d:Array α} {a b v lm m:Nat} {wb wp:Bool} {fr:Nat->Value} {L:List AItem} (T:∀(a b lm:Nat) (wb wp:Bool) (d:Array α) (X:NA) (fr:Nat->Value),b-a<m->a<=b->b<=n->d.size=n->Below (ltC c) a b d->lm<2 ^ 60->fr 0=.slice p n cap->fr 1=Vi a->fr 2=Vi b->fr 3=Vi lm->fr 4=.func (.func cl) #[] cs.toArray->fr 10=.bool wb->fr 11=.bool wp->PQ E (aPDQ iz) lim L fr (DH enc G B d++X) (U0 enc G B n c a b d X)) (hC:∀(a b lm:Nat) (d:Array α) (X:NA),b-a<m->a<=b->b<=n->d.size=n->Below (ltC c) a b d->lm<2 ^ 60->∃g Y,g.size=n/\PermIn a b d g/\SortedIn (ltC c) a b g/\∀Q,NR E false lim iz.PDQ [.slice p n cap,Vi a,Vi b,Vi lm,.func (.func cl) #[] cs.toArray] (DH enc G B d++X) Q=Q (.tuple #[]) (DH enc G B g++(X++Y))) (hm:b-a<=m) (hd:d.size=n) (R:b<=n) (N:a<=v/\v<b) (l:lm<2 ^ 60) (S:Below (ltC c) a b d) (g0:fr 0=.slice p n cap) (g1:fr 1=Vi a) (M:fr 2=Vi b) (A:fr 3=Vi lm) (u:fr 4=.func (.func cl) #[] cs.toArray) (aa:fr 10=.bool wb) (ac:fr 11=.bool wp) (w:fr 12=Vi ((b-a:Nat):Int)) (t:fr 13=Vi v) :
  PQ E (aPDQ iz) lim (.code (q3 iz)::.inBlock 1::L) fr (DH enc G B d++X) (U0 enc G B n c a b d X):=by
 simp only [q3,q2,q1,tlc,unb,TE]
 have ld:=fun (i:Nat) (X:NA) (d:Array α) (hd:d.size=n) (hi:i<n)=>Yr (X:=X) (d:=d) (i:=i) hp hB (EncOk.len (enc:=enc) (z:=iz)) (by omega);have st:=fun (i:Nat) (X:NA) (d:Array α) (hd:d.size=n) (hi:i<n) (y:α)=>Yo (X:=X) (d:=d) (i:=i) (y:=y) hp hB hl (EncOk.len (enc:=enc) (z:=iz)) (by omega);have ix:=fun (i:Nat) (hi:i<n) c (k:IntKind) (H:NA)=>VT (e:=iz.e) (i:=i) (n:=n) (c:=c) (k:=k) (H:=H) hp hi
 have P:0<a->IntKind.i64.wrap ((a:Int)-1)=((a-1:Nat):Int):=fun h=>QW h (by omega)
 have i1:v<n:=by omega
 by_cases c1:0<a/\¬c d[a-1]! d[v]!<0
 ·obtain ⟨c1,c2⟩:=c1
  have i2:a-1<n:=by omega
  have W:=fun Q=>N10 (X:=X) (cap:=cap) (a:=a) (b:=b) (v:=v) (Q:=Q) hp hB hl U hc hd R N.1 N.2
  generalize hx:partitionEqual (ltC c) d a b v=r at W
  obtain ⟨f,d4⟩:=r
  obtain ⟨r1,r2,r3,r4,r5⟩:=round_eq hS (partitionEqual_holds (ltC c)) c1 N.1 N.2 (by omega) S (by simp [ltC,c2]) hx
  have j:=P c1
  simp only [WP,g0,g1,M,u,t,c1,c2,j,ld,ix,Na,hd,i1,i2,hc,W,SB,seval,NE,NG,NF,QV,reduceCtorEq]
  exact (T f b lm wb wp d4 X _ (by omega) r2 R (by omega) r4 l (by exact g0) (by rfl) (by exact M) (by exact A) (by exact u) (by exact aa) (by exact ac)).mono fun v H' ⟨g,Y,s1,s2,o,J,K⟩=>⟨g,Y,s1,(r5 g s2 o).1,(r5 g s2 o).2,J,K⟩
 ·have s:=fun Q=>Np7 (X:=X) (cap:=cap) (a:=a) (b:=b) (v:=v) (Q:=Q) hp hB hl U hc hd R N.1 N.2
  generalize hx:Sort.partition (ltC c) d a b v=r at s
  obtain ⟨f,ap,d4⟩:=r
  obtain ⟨r1,r2,r3,r4,r5,r6,r7⟩:=round_part hS (partition_holds (ltC c)) N.1 N.2 (by omega) S hx
  simp only at s
  have C:IntKind.i64.wrap ((f:Int)-(a:Int))=((f-a:Nat):Int):=QD (by omega) (by omega)
  have D:IntKind.i64.wrap ((b:Int)-(f:Int))=((b-f:Nat):Int):=QD (by omega) (by omega)
  have F:IntKind.i64.wrap ((f:Int)+1)=((f+1:Nat):Int):=NS (by omega)
  have hq:((b-a:Nat):Int).tdiv 8=(((b-a) / 8:Nat):Int):=Nby (b:=8)
  have I:IntKind.i64.wrap (((b-a) / 8:Nat):Int)=(((b-a) / 8:Nat):Int):=QD rfl (by omega)
  have V:(0<a/\c d[a-1]! d[v]!<0)\/¬0<a:=by
   by_cases q:0<a
   ·exact .inl ⟨q,Ns fun q2=>c1 ⟨q,q2⟩⟩
   ·exact .inr q
  by_cases c5:f-a<b-f
  ·obtain ⟨O,Y,l1,l2,l3,l4⟩:=hC a f lm d4 X (by omega) r1 (by omega) (by omega) r4 l
   obtain ⟨k1,k2⟩:=r6 O l2 l3
   rcases V with ⟨c2,c3⟩ | c2
   ·have j:=P c2
    have i2:a-1<n:=by omega
    simp only [WP,g0,g1,M,A,u,w,t,c2,c3,j,ld,ix,Na,hd,i1,i2,hc,s,C,D,F,hq,I,c5,l4,SB,seval,NE,NG,NF,QV,reduceCtorEq]
    exact (T (f+1) b lm (decide ((b-a) / 8<=f-a)) ap O (X++Y) _ (by omega) (by omega) R l1 k1 l (by exact g0) (by rfl) (by exact M) (by exact A) (by exact u) (by rfl) (by rfl)).mono fun v H' ⟨g,Z,s1,s2,o,J,K⟩=>⟨g,Y++Z,s1,(k2 g s2 o).1,(k2 g s2 o).2,J,by rw [K];simp⟩
   ·simp only [WP,g0,g1,M,A,u,w,t,c2,Na,s,C,D,F,hq,I,c5,l4,SB,seval,NE,NG,NF,reduceCtorEq]
    exact (T (f+1) b lm (decide ((b-a) / 8<=f-a)) ap O (X++Y) _ (by omega) (by omega) R l1 k1 l (by exact g0) (by rfl) (by exact M) (by exact A) (by exact u) (by rfl) (by rfl)).mono fun v H' ⟨g,Z,s1,s2,o,J,K⟩=>⟨g,Y++Z,s1,(k2 g s2 o).1,(k2 g s2 o).2,J,by rw [K];simp⟩
  ·obtain ⟨O,Y,l1,l2,l3,l4⟩:=hC (f+1) b lm d4 X (by omega) (by omega) R (by omega) r5 l
   obtain ⟨k1,k2⟩:=r7 O l2 l3
   rcases V with ⟨c2,c3⟩ | c2
   ·have j:=P c2
    have i2:a-1<n:=by omega
    simp only [WP,g0,g1,M,A,u,w,t,c2,c3,j,ld,ix,Na,hd,i1,i2,hc,s,C,D,F,hq,I,c5,l4,SB,seval,NE,NG,NF,QV,reduceCtorEq]
    exact (T a f lm (decide ((b-a) / 8<=b-f)) ap O (X++Y) _ (by omega) r1 (by omega) l1 k1 l (by exact g0) (by exact g1) (by rfl) (by exact A) (by exact u) (by rfl) (by rfl)).mono fun v H' ⟨g,Z,s1,s2,o,J,K⟩=>⟨g,Y++Z,s1,(k2 g s2 o).1,(k2 g s2 o).2,J,by rw [K];simp⟩
   ·simp only [WP,g0,g1,M,A,u,w,t,c2,Na,s,C,D,F,hq,I,c5,l4,SB,seval,NE,NG,NF,reduceCtorEq]
    exact (T a f lm (decide ((b-a) / 8<=b-f)) ap O (X++Y) _ (by omega) r1 (by omega) l1 k1 l (by exact g0) (by exact g1) (by rfl) (by exact A) (by exact u) (by rfl) (by rfl)).mono fun v H' ⟨g,Z,s1,s2,o,J,K⟩=>⟨g,Y++Z,s1,(k2 g s2 o).1,(k2 g s2 o).2,J,by rw [K];simp⟩
theorem N3s {G X:NA} {B lim cap n:Nat} {p:Option Addr} {c:α->α->Int} {cl:FuncId} {cs:List Value} (hp:p=Sa B) (hB:B<G.length) (hl:lim<=B) (A:n<2 ^ 61) (hc:∀(mp:Bool) (lim:Nat) (x y:α) (H:NA) (Q:Value->NA->Prop),NR E mp lim cl (.agg (enc x).toArray::.agg (enc y).toArray::cs) H Q=Q (Vi (c x y)) H) (hS:SWO (ltC c)) {d:Array α} {a b v h lm m:Nat} {wb wp:Bool} {fr:Nat->Value} {L:List AItem} (R:∀(a b lm:Nat) (wb wp:Bool) (d:Array α) (X:NA) (fr:Nat->Value),b-a<m->a<=b->b<=n->d.size=n->Below (ltC c) a b d->lm<2 ^ 60->fr 0=.slice p n cap->fr 1=Vi a->fr 2=Vi b->fr 3=Vi lm->fr 4=.func (.func cl) #[] cs.toArray->fr 10=.bool wb->fr 11=.bool wp->PQ E (aPDQ iz) lim L fr (DH enc G B d++X) (U0 enc G B n c a b d X)) (P:∀(a b lm:Nat) (d:Array α) (X:NA),b-a<m->a<=b->b<=n->d.size=n->Below (ltC c) a b d->lm<2 ^ 60->∃D Y,D.size=n/\PermIn a b d D/\SortedIn (ltC c) a b D/\∀Q,NR E false lim iz.PDQ [.slice p n cap,Vi a,Vi b,Vi lm,.func (.func cl) #[] cs.toArray] (DH enc G B d++X) Q=Q (.tuple #[]) (DH enc G B D++(X++Y))) (S:b-a<=m) (hd:d.size=n) (O:b<=n) (U:a<=v/\v<b) (M:lm<2 ^ 60) (V:h<=2) (g:Below (ltC c) a b d) (g0:fr 0=.slice p n cap) (g1:fr 1=Vi a) (s:fr 2=Vi b) (I:fr 3=Vi lm) (t:fr 4=.func (.func cl) #[] cs.toArray) (e:fr 10=.bool wb) (f:fr 11=.bool wp) (i:fr 12=Vi ((b-a:Nat):Int)) (j:fr 13=Vi v) (w:fr 14=Vi h) :
  PQ E (aPDQ iz) lim (.code (q2 iz)::.inBlock 1::L) fr (DH enc G B d++X) (U0 enc G B n c a b d X):=by
 have J:=fun d fr hd g=>N5w (X:=X) (d:=d) (fr:=fr) (a:=a) (b:=b) (v:=v) (lm:=lm) (wb:=wb) (wp:=wp) hp hB hl A hc hS R P S hd O U M g
 by_cases c1:wb=true/\wp=true/\h=1
 ·obtain ⟨rfl,rfl,rfl⟩:=c1
  have k:=fun Q=>N1z (X:=X) (cap:=cap) (a:=a) (b:=b) (Q:=Q) hp hB hl A hc hd O (by omega)
  have C:=partialInsertionSort_holds hS d a b (by omega) (by omega) g
  generalize partialInsertionSort (ltC c) d a b=r at k C
  obtain ⟨F,fl⟩:=r
  obtain ⟨u,N⟩:=C
  simp only at k u N
  have l:fr 14=Vi 1:=w
  have z:F.size=n:=by rw [u.1];exact hd
  cases fl with
  | true=>
    rw [NP Ntm];simp only [p5,hdc,tlc,unb,q1,q2,TE]
    simp only [WP,Nyd,g0,g1,s,t,e,f,l,k,SB,seval,NE,NG,NF,reduceCtorEq]
    exact ⟨F,[],z,u,N rfl,rfl,by simp⟩
  | false=>
    have K:=g.perm (by omega) u
    have:=J F
    rw [NP Ntm];simp only [p5,hdc,tlc,unb,q1,q2,TE]
    simp only [WP,g0,g1,s,t,e,f,l,k,SB,seval,NE,NG,NF,reduceCtorEq]
    refine PQ.mono (J F _ z K (by exact g0) (by exact g1) (by exact s) (by exact I) (by exact t) (by exact e) (by exact f) (by exact i) (by exact j)) fun v' H' T=>?_
    exact U0.perm (Y:=[]) (by rw [Na];exact T) u
 ·have o:=J d
  rw [NP Ntm];simp only [p5,hdc,tlc,unb,q1,q2,TE]
  cases wb with
  | false=>
    simp only [WP,e,SB,seval,NG]
    exact o _ hd g (by exact g0) (by exact g1) (by exact s) (by exact I) (by exact t) (by exact e) (by exact f) (by exact i) (by exact j)
  | true=>
    cases wp with
    | false=>
      simp only [WP,e,f,SB,seval,NG]
      exact o _ hd g (by exact g0) (by exact g1) (by exact s) (by exact I) (by exact t) (by exact e) (by exact f) (by exact i) (by exact j)
    | true=>
      have c2:¬(h:Int)=1:=fun q=>c1 ⟨rfl,rfl,by omega⟩
      simp only [WP,e,f,w,c2,SB,seval,NG,NF]
      exact o _ hd g (by exact g0) (by exact g1) (by exact s) (by exact I) (by exact t) (by exact e) (by exact f) (by exact i) (by exact j)
theorem N5x {G X:NA} {B lim cap n:Nat} {p:Option Addr} {c:α->α->Int} {cl:FuncId} {cs:List Value} (hp:p=Sa B) (hB:B<G.length) (hl:lim<=B) (e:n<2 ^ 61) (hc:∀(mp:Bool) (lim:Nat) (x y:α) (H:NA) (Q:Value->NA->Prop),NR E mp lim cl (.agg (enc x).toArray::.agg (enc y).toArray::cs) H Q=Q (Vi (c x y)) H) (hS:SWO (ltC c)) {d:Array α} {a b lm m:Nat} {wb wp:Bool} {fr:Nat->Value} {L:List AItem} (M:∀(a b lm:Nat) (wb wp:Bool) (d:Array α) (X:NA) (fr:Nat->Value),b-a<m->a<=b->b<=n->d.size=n->Below (ltC c) a b d->lm<2 ^ 60->fr 0=.slice p n cap->fr 1=Vi a->fr 2=Vi b->fr 3=Vi lm->fr 4=.func (.func cl) #[] cs.toArray->fr 10=.bool wb->fr 11=.bool wp->PQ E (aPDQ iz) lim L fr (DH enc G B d++X) (U0 enc G B n c a b d X)) (K:∀(a b lm:Nat) (d:Array α) (X:NA),b-a<m->a<=b->b<=n->d.size=n->Below (ltC c) a b d->lm<2 ^ 60->∃q Y,q.size=n/\PermIn a b d q/\SortedIn (ltC c) a b q/\∀Q,NR E false lim iz.PDQ [.slice p n cap,Vi a,Vi b,Vi lm,.func (.func cl) #[] cs.toArray] (DH enc G B d++X) Q=Q (.tuple #[]) (DH enc G B q++(X++Y))) (N:b-a<=m) (hd:d.size=n) (u:b<=n) (z:a+12<b) (o:lm<2 ^ 60) (l:Below (ltC c) a b d) (g0:fr 0=.slice p n cap) (g1:fr 1=Vi a) (r:fr 2=Vi b) (J:fr 3=Vi lm) (t:fr 4=.func (.func cl) #[] cs.toArray) (i:fr 10=.bool wb) (j:fr 11=.bool wp) (k:fr 12=Vi ((b-a:Nat):Int)) :
  PQ E (aPDQ iz) lim (.code (q1 iz)::.inBlock 1::L) fr (DH enc G B d++X) (U0 enc G B n c a b d X):=by
 obtain ⟨v,h,s,v1,v2,O,f⟩:=N2u (X:=X) (cap:=cap) (lim:=lim) hp hB hl e hc hd u z
 by_cases c1:h=2
 ·subst c1
  have hr:=fun Q=>N1w (X:=X++[Vc [Vi s]]) (cap:=cap) (a:=a) (b:=b) (Q:=Q) hp hB hl e hc hd u (by omega)
  have P2:=reverseRange_holds d a b (by omega) (by omega)
  generalize reverseRange d a b=d2 at hr P2
  have A:d2.size=n:=by rw [P2.1];exact hd
  have w:=l.perm (by omega) P2
  have h2:=fun fr=>N3s (X:=X++[Vc [Vi s]]) (d:=d2) (fr:=fr) (a:=a) (b:=b) (v:=b-1-(v-a)) (h:=1) (lm:=lm) (wb:=wb) (wp:=wp) hp hB hl e hc hS M K N A u (by omega) o (by omega) w
  have D:IntKind.i64.wrap ((b:Int)-1)=((b-1:Nat):Int):=QD (by omega) (by omega)
  have F:IntKind.i64.wrap ((v:Int)-(a:Int))=((v-a:Nat):Int):=QD (by omega) (by omega)
  have I:IntKind.i64.wrap (((b-1:Nat):Int)-((v-a:Nat):Int))=((b-1-(v-a):Nat):Int):=QD (by omega) (by omega)
  have g:∀Q,NR E false lim iz.CHO [.slice p n cap,Vi a,Vi b,.func (.func cl) #[] cs.toArray] (DH enc G B d++X) Q=Q (.tuple #[Vi v,Vi 2]) (DH enc G B d++(X++[Vc [Vi s]])):=f
  rw [NP N0j];simp only [p6,p7,hdc,tlc,unb,q1,TE]
  simp only [WP,g0,g1,r,t,g,hr,D,F,I,SB,seval,NE,NG,NF,reduceCtorEq]
  refine PQ.mono (h2 _ (by exact g0) (by exact g1) (by exact r) (by exact J) (by exact t) (by exact i) (by exact j) (by exact k) (by rfl) (by simp only [upd_same];rfl)) fun v' H' C=>?_
  exact U0.perm C P2
 ·have c2:¬(h:Int)=2:=by omega
  have h2:=fun fr=>N3s (X:=X++[Vc [Vi s]]) (d:=d) (fr:=fr) (a:=a) (b:=b) (v:=v) (h:=h) (lm:=lm) (wb:=wb) (wp:=wp) hp hB hl e hc hS M K N hd u (by omega) o (by omega) l
  rw [NP N0j];simp only [p6,p7,hdc,tlc,unb,q1,TE]
  simp only [WP,g0,g1,r,t,f,c2,SB,seval,NE,NG,NF]
  refine PQ.mono (h2 _ (by exact g0) (by exact g1) (by exact r) (by exact J) (by exact t) (by exact i) (by exact j) (by exact k) (by rfl) (by rfl)) fun v' H' C=>?_
  exact U0.perm C (permIn_refl _ _ _)
theorem Ntr {G X:NA} {B lim cap n:Nat} {p:Option Addr} {c:α->α->Int} {cl:FuncId} {cs:List Value} (hp:p=Sa B) (hB:B<G.length) (hl:lim<=B) (o:n<2 ^ 61) (hc:∀(mp:Bool) (lim:Nat) (x y:α) (H:NA) (Q:Value->NA->Prop),NR E mp lim cl (.agg (enc x).toArray::.agg (enc y).toArray::cs) H Q=Q (Vi (c x y)) H) (hS:SWO (ltC c)) (J:n<65536):∀(m a b lm:Nat) (wb wp:Bool) (d:Array α) (X:NA) (fr:Nat->Value),b-a<m->a<=b->b<=n->d.size=n->Below (ltC c) a b d->lm<2 ^ 60->fr 0=.slice p n cap->fr 1=Vi a->fr 2=Vi b->fr 3=Vi lm->fr 4=.func (.func cl) #[] cs.toArray->fr 10=.bool wb->fr 11=.bool wp->
  PQ E (aPDQ iz) lim (.inLoop (TE iz)::.inBlock 0::[]) fr (DH enc G B d++X) (U0 enc G B n c a b d X):=by
 intro m
 induction m with
 | zero=>intro a b lm wb wp d X fr h;omega
 | succ m ih=>
   intro a b lm wb wp d X fr R e D hd l r g0 g1 u C A j w
   have O:∀(a b lm:Nat) (d:Array α) (X:NA),b-a<m->a<=b->b<=n->d.size=n->Below (ltC c) a b d->lm<2 ^ 60->∃t Y,t.size=n/\PermIn a b d t/\SortedIn (ltC c) a b t/\∀Q,NR E false lim iz.PDQ [.slice p n cap,Vi a,Vi b,Vi lm,.func (.func cl) #[] cs.toArray] (DH enc G B d++X) Q=Q (.tuple #[]) (DH enc G B t++(X++Y)):=by
    intro a b lm d X k1 k2 k3 V W Z
    have key:NR E false lim iz.PDQ [.slice p n cap,Vi a,Vi b,Vi lm,.func (.func cl) #[] cs.toArray] (DH enc G B d++X) (U0 enc G B n c a b d X):=by
     rw [UT (E:=E) (g:=iz.PDQ) (af:=(aPDQ iz)) ((SortAt.PDQ (E:=E) (z:=iz)).2.2 _) (SortAt.PDQ (E:=E) (z:=iz)).1 (SortAt.PDQ (E:=E) (z:=iz)).2.1 rfl]
     rw [N3a,Nxh]
     simp only [WP,SB,seval,NG]
     rw [Yl,<-UR]
     exact ih a b lm true true d X _ k1 k2 k3 V W Z (by rfl) (by rfl) (by rfl) (by rfl) (by rfl) (by rfl) (by rfl)
    obtain ⟨k,v,H',U,t,Y,h1,h2,N,rfl,rfl⟩:=oneG (SortAt.dt (E:=E) (z:=iz)) key
    exact ⟨t,Y,h1,h2,N,fun Q=>NR.det U⟩
   have h1:=fun d X fr lm hd l e r=>N5x (X:=X) (d:=d) (fr:=fr) (a:=a) (b:=b) (lm:=lm) (wb:=wb) (wp:=wp) (m:=m) (L:=.inLoop (TE iz)::.inBlock 0::[]) hp hB hl o hc hS ih O (by omega) hd D e r l
   rw [UR]
   generalize (AItem.inLoop (TE iz)::[AItem.inBlock 0])=L at h1
   rw [NP Nox];simp only [p1,p2,p3,p4,hdc,tlc,unb,TE]
   have q:IntKind.i64.wrap ((b:Int)-(a:Int))=((b-a:Nat):Int):=QD (by omega) (by omega)
   by_cases c1:b-a<=12
   ·have f:((b-a:Nat):Int)<=12:=by omega
    have hi:=fun Q=>N2j (X:=X) (cap:=cap) (a:=a) (b:=b) (Q:=Q) hp hB hl o hc hd D e
    obtain ⟨P,S⟩:=insertionSort_holds hS d a b e (by omega)
    simp only [WP,Nyd,g0,g1,u,A,q,f,hi,SB,seval,NE,NG,NF,reduceCtorEq]
    exact ⟨_,[],by rw [P.1];exact hd,P,S,rfl,by simp⟩
   have f:¬((b-a:Nat):Int)<=12:=by omega
   by_cases c2:lm=0
   ·have i:(lm:Int)=0:=by omega
    have hi:=fun Q=>Nza (X:=X) (cap:=cap) (a:=a) (b:=b) (Q:=Q) hp hB hl o hc hd D e
    obtain ⟨P,S⟩:=heapSort_holds hS d a b e (by omega)
    simp only [WP,Nyd,g0,g1,u,C,A,q,f,i,hi,SB,seval,NE,NG,NF,reduceCtorEq]
    exact ⟨_,[],by rw [P.1];exact hd,P,S,rfl,by simp⟩
   have i:¬(lm:Int)=0:=by omega
   cases wb with
   | true=>
     simp only [WP,g1,u,C,j,q,f,i,SB,seval,NG,NF,QV]
     exact h1 d X _ lm hd l (by omega) r (by exact g0) (by exact g1) (by exact u) (by exact C) (by exact A) (by exact j) (by exact w) (by rfl)
   | false=>
     obtain ⟨d1,s,I,M,F⟩:=N28 (X:=X) (cap:=cap) (lim:=lim) hp hB hl o hc hd D (show a+12<b by omega) J
     have K:IntKind.i64.wrap ((lm:Int)-1)=((lm-1:Nat):Int):=QD (by omega) (by omega)
     simp only [WP,g0,g1,u,C,A,j,q,f,i,F,K,SB,seval,NE,NG,NF,QV,reduceCtorEq]
     refine PQ.mono (h1 d1 (X++[Vc [.int .u64 s]]) _ (lm-1) I (l.perm (by omega) M) (by omega) (by omega) (by exact g0) (by exact g1) (by exact u) (by rfl) (by exact A) (by exact j) (by exact w) (by rfl)) fun v' H' T=>?_
     exact U0.perm T M
variable {E:Env} {iz:Ids} [DT E E] [SortAt E iz] {α:Type} [Inhabited α] {enc:α->List Value} [EncOk enc iz]
theorem Nn3 {mp:Bool} {lim:Nat} {H:NA} {Q:Value->NA->Prop}:NR E mp lim iz.LEN [.int .u64 0] H Q=Q (Vi 0) H:=by
 have key:∀(mp:Bool) (lim:Nat) (H:NA) (Q:Value->NA->Prop),NR E mp lim iz.LEN64 [.int .u64 0] H Q=Q (Vi 0) H:=by
  intro mp lim H Q
  refine pcG (SortAt.LEN64 (E:=E) (z:=iz)) rfl ?_
  rw [Nmx,Ndg]
  have a:IntKind.u8.wrap 0=0:=by decide
  have b:IntKind.i64.wrap 0=0:=by decide
  simp only [Nlt,Nk3,a,b,R4,Pc,N0,UInt8.toNat_ofNat,Nat.reduceMod,Nat.reducePow,Qy,Ox,SB,seval,NG,NF,reduceCtorEq,NK,NH]
 refine pcG (SortAt.LEN (E:=E) (z:=iz)) rfl ?_
 rw [N4l,Nzx]
 simp only [N35,N3n,key,SB,seval,NE,NG,reduceCtorEq,NK,NH]
theorem Nin {G X:NA} {B lim cap n:Nat} {p:Option Addr} {c:α->α->Int} {cl:FuncId} {cs:List Value} (hp:p=Sa B) (hB:B<G.length) (hl:lim<=B) (f:n<2 ^ 61) (hc:∀(mp:Bool) (lim:Nat) (x y:α) (H:NA) (Q:Value->NA->Prop),NR E mp lim cl (.agg (enc x).toArray::.agg (enc y).toArray::cs) H Q=Q (Vi (c x y)) H) (hS:SWO (ltC c)) (h:n<65536) {d:Array α} {lm:Nat} (hd:d.size=n) (e:lm<2 ^ 60) :
  ∃a Y,a.size=n/\PermIn 0 n d a/\SortedIn (ltC c) 0 n a/\∀Q,NR E false lim iz.PDQ [.slice p n cap,Vi 0,Vi n,Vi lm,.func (.func cl) #[] cs.toArray] (DH enc G B d++X) Q=Q (.tuple #[]) (DH enc G B a++(X++Y)):=by
 have b:Below (ltC c) 0 n d:=by simp [Below]
 have key:NR E false lim iz.PDQ [.slice p n cap,Vi 0,Vi n,Vi lm,.func (.func cl) #[] cs.toArray] (DH enc G B d++X) (U0 enc G B n c 0 n d X):=by
  rw [UT (E:=E) (g:=iz.PDQ) (af:=(aPDQ iz)) ((SortAt.PDQ (E:=E) (z:=iz)).2.2 _) (SortAt.PDQ (E:=E) (z:=iz)).1 (SortAt.PDQ (E:=E) (z:=iz)).2.1 rfl]
  rw [N3a,Nxh]
  simp only [WP,SB,seval,NG]
  rw [Yl,<-UR]
  exact Ntr (X:=X) (cap:=cap) hp hB hl f hc hS h (n+1) 0 n lm true true d X _ (by omega) (by omega) (by omega) hd b e rfl (by simp only [Qy,FB,Nat.reduceEqDiff]) rfl rfl rfl rfl rfl
 obtain ⟨k,v,H',j,a,Y,h1,h2,i,rfl,rfl⟩:=oneG (SortAt.dt (E:=E) (z:=iz)) key
 exact ⟨a,Y,h1,h2,i,fun Q=>NR.det j⟩
theorem sort_ok {G X:NA} {B lim cap n:Nat} {p:Option Addr} {c:α->α->Int} {cl:FuncId} {cs:List Value} (hp:p=Sa B) (hB:B<G.length) (hl:lim<=B) (e:n<2 ^ 61) (hc:∀(mp:Bool) (lim:Nat) (x y:α) (H:NA) (Q:Value->NA->Prop),NR E mp lim cl (.agg (enc x).toArray::.agg (enc y).toArray::cs) H Q=Q (Vi (c x y)) H) (hS:SWO (ltC c)) (b:n<65536) {d:Array α} (hd:d.size=n) :
  ∃a Y,a.size=n/\PermIn 0 n d a/\SortedIn (ltC c) 0 n a/\∀Q,NR E false lim iz.SORT [.slice p n cap,.func (.func cl) #[] cs.toArray] (DH enc G B d++X) Q=Q (.tuple #[]) (DH enc G B a++(X++Y)):=by
 have key:NR E false lim iz.SORT [.slice p n cap,.func (.func cl) #[] cs.toArray] (DH enc G B d++X) (U0 enc G B n c 0 n d X):=by
  rw [UT (E:=E) (g:=iz.SORT) (af:=(aSORT iz)) ((SortAt.SORT (E:=E) (z:=iz)).2.2 _) (SortAt.SORT (E:=E) (z:=iz)).1 (SortAt.SORT (E:=E) (z:=iz)).2.1 rfl]
  rw [N1m,Nou]
  have q:IntKind.u64.wrap (n:Int)=(n:Int):=by rw [wrap64];omega
  by_cases i:n=0
  ·subst i
   obtain ⟨a,Y,k1,k2,k3,f⟩:=Nin (X:=X) (lm:=0) (cap:=cap) hp hB hl e hc hS b hd (by omega)
   have h:∀Q,NR E false lim iz.PDQ [.slice p 0 cap,Vi 0,Vi 0,Vi 0,.func (.func cl) #[] cs.toArray] (DH enc G B d++X) Q=Q (.tuple #[]) (DH enc G B a++(X++Y)):=f
   have o:IntKind.u64.wrap 0=0:=by decide
   simp only [Nuh,Ntl,o,Nn3,h,SB,seval,NE,NG,reduceCtorEq,NK]
   exact ⟨_,_,k1,k2,k3,rfl,rfl⟩
  ·obtain ⟨L,l1,r,s,m⟩:=Nuu (E:=E) (iz:=iz) (x:=n) b (by omega)
   obtain ⟨a,Y,k1,k2,k3,f⟩:=Nin (X:=X) (lm:=L) (cap:=cap) hp hB hl e hc hS b hd (by omega)
   simp only [Nuh,Ntl,q,m,f,SB,seval,NE,NG,reduceCtorEq,NK]
   exact ⟨_,_,k1,k2,k3,rfl,rfl⟩
 obtain ⟨k,v,H',l,a,Y,h1,h2,j,rfl,rfl⟩:=oneG (SortAt.dt (E:=E) (z:=iz)) key
 exact ⟨a,Y,h1,h2,j,fun Q=>NR.det l⟩
theorem sort_nil {lim cap:Nat} {p:Option Addr} {cl:FuncId} {cs:List Value} {H:NA} {Q:Value->NA->Prop}:NR E false lim iz.SORT [.slice p 0 cap,.func (.func cl) #[] cs.toArray] H Q=Q (.tuple #[]) H:=by
 have hi:∀Q,NR E false lim iz.INS [.slice p 0 cap,Vi 0,Vi 0,.func (.func cl) #[] cs.toArray] H Q=Q (.tuple #[]) H:=by
  intro Q
  refine runs (SortAt.INS (E:=E) (z:=iz)) ?_
  rw [N4m,Nzy]
  have a:IntKind.i64.wrap 1=1:=by decide
  simp only [Ni8,a,Qu,SB,seval,NG,NF,NK]
  rw [Yl,NP (Nl7.eq_1 iz)]
  simp only [Ni8,N3o,SB,seval,NG,NF,NK]
 have b:∀Q,NR E false lim iz.PDQ [.slice p 0 cap,Vi 0,Vi 0,Vi 0,.func (.func cl) #[] cs.toArray] H Q=Q (.tuple #[]) H:=by
  intro Q
  refine runs (SortAt.PDQ (E:=E) (z:=iz)) ?_
  rw [N3a,Nxh]
  simp only [WP,SB,seval,NG]
  rw [Yl,NP Nox]
  simp only [p1,p2,hdc,tlc,unb,TE]
  have a:IntKind.i64.wrap 0=0:=by decide
  simp only [WP,Nyd,a,hi,Int.sub_self,SB,seval,NE,NG,NF,reduceCtorEq,NK]
 refine runs (SortAt.SORT (E:=E) (z:=iz)) ?_
 rw [N1m,Nou]
 have c:IntKind.u64.wrap 0=0:=by decide
 simp only [Nuh,Ntl,c,Nn3,b,SB,seval,NE,NG,reduceCtorEq,NK]
end Go.AM.Srt


namespace Go.Proofs.YtohnaffmcjbpoaaGreat.Fn
open Go.AM Go.AM.Sym Go.Net Go.Flow Go.Sort
theorem kn [OB] [OB] {g:FuncId} {af:AFunc} {p:Bool} (h1:tr g=some af) (h2:pf g=p) (a:g≠7/\g≠999):Srt.Knows E g af p:=⟨h1,h2,fun as=>by simp [E,orc,a]⟩
instance sortP [OB]:Srt.SortAt E zP:=⟨rfl,kn rfl rfl (by decide),kn rfl rfl (by decide),kn rfl rfl (by decide),kn rfl rfl (by decide),kn rfl rfl (by decide),kn rfl rfl (by decide),kn rfl rfl (by decide),kn rfl rfl (by decide),kn rfl rfl (by decide),kn rfl rfl (by decide),kn rfl rfl (by decide),kn rfl rfl (by decide),kn rfl rfl (by decide),kn rfl rfl (by decide),kn rfl rfl (by decide),kn rfl rfl (by decide),kn rfl rfl (by decide),kn rfl rfl (by decide)⟩
instance encP:Srt.EncOk enc2 zP:=⟨fun _=>rfl⟩
instance (a b:Int×Int):Decidable (Vk a b):=by unfold Vk;infer_instance
def Nrt (a b:Int×Int):Int:=orL [UE a.1 b.1,UE a.2 b.2]
theorem Nzt [OB] (mp:Bool) (lim:Nat) (a b:Int×Int) (H:NA) (Q:Value->NA->Prop):NR E mp lim 85 [.agg (enc2 a).toArray,.agg (enc2 b).toArray] H Q=Q (Vi (Nrt a b)) H:=by
 refine pc (by decide) e85 rfl rfl ?_
 rw [b85,c85]
 simp only [n85,r85,enc2,Nmp,Nld,Ww,WC,Wi,Zd,XT,Za,Nat.reducePow,SB,seval,NE,NG,NK,place,NB,NH]
 rfl
theorem Zp {a b:Int} (h:a<b):UE a b=-1:=Nh h
theorem Zo {a b:Int} (h:b<a):UE a b=1:=by unfold UE;rw [Nf (by omega),Nh h]
theorem Zq {a b:Int} (h:a=b):UE a b=0:=by unfold UE;rw [Nf (by omega),Nf (by omega)]
theorem Nbm {a b:Int×Int}:Srt.ltC Nrt a b=decide (Vk a b):=by
 unfold Srt.ltC
 have e:Nrt a b<0↔Vk a b:=by
  have e0:Nrt a b=if UE a.1 b.1≠0 then UE a.1 b.1 else if UE a.2 b.2≠0 then UE a.2 b.2 else 0:=rfl
  rw [e0]
  unfold Vk
  rcases Qi a.1 b.1 with h | h | h
  ·rw [Zp h];simp [h]
  ·rw [Zq h]
   rcases Qi a.2 b.2 with h2 | h2 | h2
   ·rw [Zp h2];simp [h,h2]
   ·rw [Zq h2];simp [h,h2]
   ·rw [Zo h2];simp [h];omega
  ·rw [Zo h];simp;omega
 rw [Qw,N3,N3]
 exact e
theorem Nxd:SWO (Srt.ltC Nrt):=by
 refine ⟨fun x=>?_,fun x y z h1 h2=>?_,fun x y z h1 h2=>?_⟩
 ·rw [Nbm];simp [Vk]
 ·rw [Nbm,N3] at h1 h2⊢
  unfold Vk at *;omega
 ·rw [Nbm,decide_eq_false_iff_not] at h1 h2⊢
  unfold Vk at *;omega
section
variable {α:Type} [Inhabited α]
theorem Nkl {enc:α->List Value} {G:NA} {B:Nat} {l:List α} (hB:NC G B=Vc (l.flatMap enc)):DH enc G B l.toArray=G:=by
 have hl:=ND hB
 unfold DH
 apply Qg
 ·simp
 intro i h1 h2
 rw [List.getElem_set]
 split
 ·rename_i e;subst e
  unfold NC at hB
  rw [Nc,Np hl] at hB
  exact hB.symm
 ·rfl
theorem Nck {n:Nat} {d b:Array α} (hd:d.size=n) (h:PermIn 0 n d b):b.toList.Perm d.toList:=by
 obtain ⟨h1,h2,a⟩:=h
 subst hd
 rw [Array.extract_size] at a
 rw [<-h1,Array.extract_size] at a
 exact a
end
theorem Nta [OB] {lim cp:Nat} {pp:Option Addr} {lo:Nat} {PL:List (Int×Int)} {G:NA} {Q:Value->NA->Prop} (z:Own lo G enc2 2 pp cp PL) (A:lim<=lo) (hn:PL.length<65536) (r:PL.Nodup)
  (t:∀G' SL,Own lo G' enc2 2 pp cp SL->SL.Perm PL->SL.Pairwise Vk->(∀b,b<G.length->b∉QC pp->NC G' b=NC G b)->G.length<=G'.length->Q (.tuple #[]) G') :
  NR E false lim 84 [.slice pp PL.length cp,.func (.func 85) #[] #[]] G Q:=by
 rcases z with ⟨v,rfl,rfl⟩ | ⟨R,rfl,rfl,o,q⟩
 ·subst v
  have C:NR E false lim 84 [Vz,.func (.func 85) #[] #[]] G Q=Q (.tuple #[]) G:=Srt.sort_nil (iz:=zP) (cs:=[])
  rw [Nl,C]
  exact t G [] .nil (List.Perm.refl _) List.Pairwise.nil (fun _ _ _=>rfl) (Ng _)
 ·obtain ⟨d,Y,h1,h2,w,l⟩:=Srt.sort_ok (E:=E) (iz:=zP) (enc:=enc2) (X:=[]) (G:=G) (B:=R) (lim:=lim) (cap:=loose 2) (n:=PL.length) (p:=Sa R) (c:=Nrt) (cl:=85) (cs:=[]) rfl (ND o) (by omega) (by omega) (fun mp lim x y H Q=>Nzt mp lim x y H Q) Nxd (by omega) (d:=PL.toArray) (by simp)
  rw [Nkl o] at l
  have hp:d.toList.Perm PL:=Nck (d:=PL.toArray) (n:=PL.length) (by simp) h2
  simp only [Oa,Na] at l
  have m:NR E false lim 84 [.slice (Sa R) PL.length (loose 2),.func (.func 85) #[] #[]] G Q=Q (.tuple #[]) (DH enc2 G R d++Y):=l Q
  rw [m]
  have f:=ND o
  have k:Mut G (DH enc2 G R d) R:=⟨by simp [DH],fun j h=>OU h⟩
  refine t _ d.toList (.inr ⟨R,rfl,rfl, ?_,q⟩) hp ?_ (fun b D hn=>?_) (by have:=k.len;simp;omega)
  ·rw [NJ (by have:=k.len;omega)]
   have:=Nd5 (X:=[]) (enc:=enc2) (d:=d) f
   rw [Na] at this
   exact this
  ·rw [N5]
   intro i j hi h g
   have q1:=w i j (Nx _) g (by simpa [h1] using h)
   rw [Nbm] at q1
   have e1:d[i]! = d.toList[i]:=by rw [getElem!_pos d i (by simpa using hi)];simp
   have e2:d[j]! = d.toList[j]:=by rw [getElem!_pos d j (by simpa using h)];simp
   rw [e1,e2] at q1
   have s:d.toList[i]≠d.toList[j]:=fun e=>by
    have:=(N5.1 (hp.nodup_iff.2 r)) i j hi h g
    exact this e
   rw [decide_eq_false_iff_not] at q1
   unfold Vk at q1
   have u:¬(d.toList[i].1=d.toList[j].1/\d.toList[i].2=d.toList[j].2):=fun ⟨a,b⟩=>s (R6 a b)
   unfold Vk;omega
  ·rw [NJ (by have:=k.len;omega)]
   exact k.other b fun e=>hn (NU.2 ⟨_,rfl,e.symm⟩)
end Go.Proofs.YtohnaffmcjbpoaaGreat.Fn


namespace Go.Proofs.YtohnaffmcjbpoaaGreat.Fn
open Go.AM Go.AM.Sym Go.Net Go.Flow
theorem Naw:∀(l:List (Int×Int)) (a b:Int×Int) (k:Nat),PH (l++[a,b]) k=PH (l++[a]) k++if a.1=b.1 then [⟨k+l.length+1,k+l.length,VW,0⟩] else []
 | [],a,b,k=>by simp [PH]
 | [x],a,b,k=>by
   simp only [Oe,Oa,PH,Na,Nk,Nl,Ny]
 | x::y::l,a,b,k=>by
   have ih:=Naw (y::l) a b (k+1)
   simp only [Oe] at ih⊢
   rw [PH,PH,ih,Nr]
   simp only [Nk]
   rw [show k+1+(l.length+1)=k+(l.length+1+1) by omega]
theorem Nav {SL:List (Int×Int)} {i:Nat} (a:0<i) (hi:i<SL.length):PH (SL.take (i+1)) 2=PH (SL.take i) 2++if (gt SL (i-1)).1=(gt SL i).1 then [⟨i+2,i+1,VW,0⟩] else []:=by
 obtain ⟨m,rfl⟩:∃m,i=m+1:=⟨i-1,by omega⟩
 have e1:SL.take (m+1+1)=SL.take m++[gt SL m,gt SL (m+1)]:=by
  rw [O0 hi,O0 (by omega),Nr,OI hi,OI (by omega)];rfl
 have e2:SL.take (m+1)=SL.take m++[gt SL m]:=by rw [O0 (by omega),OI (by omega)]
 rw [e1,e2,Naw,N6,Pw (by omega)]
 simp only [Re]
 congr 1
 split<;>simp<;>omega
theorem Nmt {SL:List (Int×Int)}:PH (SL.take 1) 2=[]:=by
 cases SL with
 | nil=>rfl
 | cons a l=>rfl
theorem XW {out:List (List Nat)} {f t i v:Nat} (a:f<out.length) (b:t<out.length):(gt (Ve out f t i) v).length<=(gt out v).length+2:=by
 unfold Ve
 rw [gt_set (by simpa using b),gt_set a,gt_set a]
 split<;>split<;>(try split)<;>simp<;>(try subst_vars)<;>(try simp)<;>omega
def No4 (SL:List (Int×Int)) (es:List ((Int×Int)×Int)):Prop:=∀j,j<SL.length->TN (gt SL j) es=some ((j+2:Nat):Int)
theorem JS.keep {A Bo:Nat} {X:List Nat} {G G':NA} {vp vm v4 v5 vw vmost:Value} {pa:Option Addr} {ca co:Nat} {ols:List Yn} {out:List (List Nat)} {l:List Pr} (h:JS A Bo X G vp vm v4 v5 vw vmost pa ca co ols out l) (c:∀b,b=A\/Bo<=b->b<G.length->NC G' b=NC G b) (hl:G.length<=G'.length):JS A Bo X G' vp vm v4 v5 vw vmost pa ca co ols out l:=by
 have d:=ND h.hdr
 have e:=ND h.os.ou
 refine ⟨(c A (.inl rfl) d).trans h.hdr,RJ h.ar fun a f=>?_,h.os.sim (c Bo (.inr (Ng _)) e) (fun u a g f=>?_) hl,h.ab,h.ax⟩
 ·have:=h.ar.block f
  exact c _ (.inr (by omega)) this.2
 ·have:=(h.os.us u g).1.block f
  exact c _ (.inr (by omega)) this.2
theorem Nrd {κ ν:Type} [DecidableEq κ] {k:κ} {l:List (κ×ν)} (h:TN k l≠none):∃j v,fk k l 0=some (j,v):=by
 have:=W9 k l 0
 cases hf:fk k l 0 with
 | none=>rw [hf] at this;exact absurd this.symm h
 | some x=>exact ⟨x.1,x.2,rfl⟩
theorem Ntt [OB] {lim A M:Nat} {X:List Nat} {G:NA} {pp:Option Addr} {cp:Nat} {v2 v3 v4 v5 vw vmost:Value} {PL:List (Int×Int)} {Q:Value->NA->Prop} (h:PS A M X G pp cp [Vz,v3,v4,v5,vw,vmost] PL) (cx:lim<=M) (hl:PL.length<60000)
  (hQ:∀G' aj ao SL Bo pa ca co ols out es,JS A Bo [] G' (.slice aj SL.length ao) (.map (some M)) v4 v5 vw vmost pa ca co ols out (PH SL 2)->SL.Perm PL->SL.Pairwise Vk->OutOk (PH SL 2) out->out.length=SL.length+2->(∀v,(gt out v).length<=2*(PH SL 2).length)->(PH SL 2).length<=SL.length->Own (A+1) G' enc2 2 aj ao SL->(∀a,aj=some a->a.block<Bo)->G.length<=Bo->NC G' M=.map (Sw kM vI es)->No4 SL es->(∀b∈X,NC G' b=NC G b)->G.length<=G'.length->Q (.tuple #[]) G') :
  NR E false lim 60 [Vp A] G Q:=by
 refine SE (by decide) e60 rfl ?_
 rw [b60,c60]
 have cy:=h.ma
 have bc:=fun X=>(NZ.refl.app (X:=X)).cells h.hdr
 simp only [n60,bc,SB,Nat.reduceLT,NE,NG,NK]
 rw [Na]
 refine Nta h.own (by omega) (by omega) h.nd fun G1 SL O1 y L ae cm=>?_
 have bp:SL.length=PL.length:=y.length_eq
 have bk:=ND h.hdr
 have aq:M<G.length:=by omega
 have nA:A∉QC pp:=fun hm=>by obtain ⟨a,m,e⟩:=NU.1 hm;have:=(h.own.block m).1;omega
 have nM:M∉QC pp:=fun hm=>by obtain ⟨a,m,e⟩:=NU.1 hm;have:=(h.own.block m).1;omega
 have V:=(ae A bk nA).trans h.hdr
 rw [<-bp] at V
 have ci:=(ae M aq nM).trans h.mp
 have am:=fun X=>(NZ.refl.app (X:=X)).cells V
 have w2:IntKind.i64.wrap ((SL.length:Int)+2)=((SL.length+2:Nat):Int):=NS (by omega)
 have b4:=Nq (show 0<=((SL.length+2:Nat):Int)/\((SL.length+2:Nat):Int)*24<=2 ^ 45/\((SL.length+2:Nat):Int)<2 ^ 62 by omega)
 obtain ⟨G2,e2,k2,m2⟩:=OO (ND V) (Vc [.slice pp SL.length cp,.map (some M),Vz,.slice (Sa G1.length) (SL.length+2) (SL.length+2),v4,v5,vw,vmost])
 have a4:=fun X=>(NZ.refl.app (X:=X)).cells k2
 refine NI ?_
 simp only [n60,am,w2,b4,Nn0,show lim<=A by omega,e2,a4,SB,Nat.reduceLT,NG,Nat.reduceEqDiff,NF,reduceCtorEq,NK,place,NB,Nat.reduceAdd,Nat.reduceLeDiff]
 obtain ⟨Bo,ap⟩:∃Bo,Bo=G1.length:=⟨_,rfl⟩
 rw [<-ap] at k2 a4
 have bf:=m2.len
 have bh:A<Bo:=by omega
 have a0:List.replicate (SL.length+2) (Value.slice none 0 0)=(List.replicate (SL.length+2) ((none,0,0):Yn)).flatMap Nc5:=by
  generalize SL.length+2=n
  induction n with
  | zero=>rfl
  | succ n ih=>rw [Pd,Pd,N2,<-ih];rfl
 have aw:∀v,v<SL.length+2->gt (List.replicate (SL.length+2) ((none,0,0):Yn)) v=(none,0,0):=fun v hv=>by rw [OI (by simpa using hv)];simp
 have av:∀v,gt (List.replicate (SL.length+2) ([]:List Nat)) v=[]:=fun v=>by
  unfold gt
  rw [Nc,P3];split<;>rfl
 have T:∀b,b<G.length->b≠A->b∉QC pp->NC (G2++[Vc (List.replicate (SL.length+2) (Value.slice none 0 0))]) b=NC G b:=fun b g bu bx=>by
  rw [NJ (by omega),m2.other b bu,ae b g bx]
 have ai:JS A Bo [] (G2++[Vc (List.replicate (SL.length+2) (Value.slice none 0 0))]) (.slice pp SL.length cp) (.map (some M)) v4 v5 vw vmost none 0 (SL.length+2) (List.replicate (SL.length+2) (none,0,0)) (List.replicate (SL.length+2) []) (PH (SL.take 0) 2):=by
  refine ⟨?_,.nil,⟨?_,fun v hv=>?_,by simp,fun u v a b hu hv cz m g=>?_,fun b g=>by simp [QC] at g⟩,bh,fun b g=>by cases g⟩
  ·rw [O9]
   exact (NZ.refl.app).cells k2
  ·rw [<-a0,ap,<-bf,NQ];rfl
  ·rw [O9] at hv
   rw [aw v hv,av]
   exact ⟨.nil,rfl⟩
  ·rw [O9] at hu
   rw [aw u hu] at m;cases m
 have O3:Own (A+1) (G2++[Vc (List.replicate (SL.length+2) (Value.slice none 0 0))]) enc2 2 pp cp SL:=(O1.mut m2 fun a m e=>by have:=(O1.block m).1;omega).app _
 have a2:∀a,pp=some a->a.block<Bo/\a.block≠A:=fun a m=>by have:=O1.block m;omega
 have bd:NC (G2++[Vc (List.replicate (SL.length+2) (Value.slice none 0 0))]) M=.map (Sw kM vI (esZ PL)):=by rw [T M aq (by omega) nM];exact h.mp
 have bq:∀b∈X,NC (G2++[Vc (List.replicate (SL.length+2) (Value.slice none 0 0))]) b=NC G b:=fun b g=>by
  obtain ⟨x1,x2,x3,x4⟩:=h.sx b g
  exact T b x1 x2 x4
 generalize G2++[Vc (List.replicate (SL.length+2) (Value.slice none 0 0))]=G3 at *
 refine NL (fun s:Nat×(Option Addr×Nat)×(List Yn×List (List Nat))×List ((Int×Int)×Int)=>SL.length-s.1) (fun s fr G'=>s.1<=SL.length/\fr 0=Vp A/\fr 22=.slice pp SL.length cp/\fr 23=Vi SL.length/\fr 24=Vi s.1/\JS A Bo [] G' (.slice pp SL.length cp) (.map (some M)) v4 v5 vw vmost s.2.1.1 s.2.1.2 (SL.length+2) s.2.2.1.1 s.2.2.1.2 (PH (SL.take s.1) 2)/\
   OutOk (PH (SL.take s.1) 2) s.2.2.1.2/\s.2.2.1.2.length=SL.length+2/\(∀v,(gt s.2.2.1.2 v).length<=2*(PH (SL.take s.1) 2).length)/\(PH (SL.take s.1) 2).length<=s.1/\Own (A+1) G' enc2 2 pp cp SL/\NC G' M=.map (Sw kM vI s.2.2.2)/\(∀j,j<s.1->TN (gt SL j) s.2.2.2=some ((j+2:Nat):Int))/\(∀j,j<SL.length->TN (gt SL j) s.2.2.2≠none)/\(∀b∈X,NC G' b=NC G b)/\G.length<=G'.length)
  (0,(none,0),(List.replicate (SL.length+2) (none,0,0),List.replicate (SL.length+2) []),esZ PL)
  ⟨Nx _,rfl,rfl,rfl,by rfl,ai,.none,by simp,fun v=>by rw [av];simp,by simp [PH],O3,bd,fun j hj=>by omega,fun j hj=>?_,bq,by have:=ND ai.hdr;have:=ND ai.os.ou;omega⟩ ?_
 ·rw [Nbj,Nh (y.mem_iff.1 (PW hj))];simp
 rintro ⟨i,⟨pa,ca⟩,⟨ols,out⟩,es⟩ fr G' ⟨hi,f0,C,p,D,P,l,K,w,ad,H,aa,J,z,hX,cu⟩ hN
 simp only at hi D P l K w ad aa J z
 rw [NP N0v.eq_1]
 refine NI ?_
 by_cases d:i<SL.length
 case neg=>
  obtain rfl:i=SL.length:=by omega
  rw [Of] at P l w ad
  simp only [n60,r60,p,D,d,SB,Nat.reduceLT,NG,NF]
  have bl:=ND P.os.ou
  exact hQ _ pp cp SL Bo pa ca _ ols out es (P.keep (fun b _ g=>NJ g) (by simp)) y L l K w ad (H.app _) (fun a m=>(a2 a m).1) (by omega) (by rw [NJ (by omega)];exact aa) J (fun b g=>by rw [NJ (by have:=(h.sx b g).1;omega)];exact hX b g) (by simp;omega)
 have ck:gt SL i∈SL:=PW d
 have ak:=H.sl PN
 have lS:∀X,AM.loadCells (G'++X) (Tk pp 2 i) 2=some [Vi (gt SL i).1,Vi (gt SL i).2]:=fun X=>by rw [(ak.app X).loadCells PN d];rfl
 have xS:=QM ak d rfl
 have F:=fun X=>(NZ.refl.app (X:=X)).cells P.hdr
 have S:M<G'.length:=by omega
 have bl:=ND P.os.ou
 have cg:=ND P.hdr
 have W:∀X,NC (G'++X) M=.map (Sw kM vI es):=fun X=>by rw [NJ S];exact aa
 obtain ⟨j,v,hj⟩:=Nrd (z i d)
 have I:findKey (.agg #[Vi (gt SL i).1,Vi (gt SL i).2]) (Sw kM vI es) 0=some ((fk (gt SL i) es 0).map fun x=>(x.1,vI x.2)):=TP (vv:=vI) Nv7 (gt SL i) es 0
 rw [hj] at I
 simp only [N0] at I
 have ah:TZ (.ints [.i64,.i64]) (.agg #[Vi (gt SL i).1,Vi (gt SL i).2])=true:=Nv6 (k:=gt SL i)
 obtain ⟨G4,e4,k4,m4⟩:=OO S (.map ((Sw kM vI es).set j (.agg #[Vi (gt SL i).1,Vi (gt SL i).2],Vi ((i+2:Nat):Int))))
 have w3:IntKind.i64.wrap ((i:Int)+2)=((i+2:Nat):Int):=NS (by omega)
 have w4:IntKind.i64.wrap ((i:Int)+1)=((i+1:Nat):Int):=NS (by omega)
 have bg:=m4.len
 have an:∀x X,NC (G4++x::X) G'.length=x:=fun x X=>by rw [<-bg,NQ];rfl
 have cj:G.length<=Bo:=by omega
 have a1:∀a,pp=some a->a.block≠M:=fun a m=>by have:=(H.block m).1;omega
 obtain ⟨U,q⟩:∃U,U=G4++[Vc [Value.int IntKind.i64 (gt SL i).1,Value.int IntKind.i64 (gt SL i).2]]:=⟨_,rfl⟩
 have b0:G'.length<=U.length:=by rw [q];simp;omega
 have N:∀b,b<G'.length->b≠M->NC U b=NC G' b:=fun b g bw=>by rw [q,NJ (by omega),m4.other b bw]
 have Y:=P.keep (G':=U) (fun b g bt=>N b bt (by omega)) b0
 have B:=RJ H fun a m=>N a.block (H.block m).2 (a1 a m)
 have Z:NC U M=.map (Sw kM vI (XE (gt SL i) ((i+2:Nat):Int) es)):=by
  rw [q,NJ (by omega),k4,<-(Ng8 (v':=((i+2:Nat):Int)) hj).2.2]
  simp [Sw,List.map_set,kM,vI]
 have ac:∀b∈X,NC U b=NC G b:=fun b g=>by
  obtain ⟨x1,x2,x3,x4⟩:=h.sx b g
  rw [N b (by omega) x3];exact hX b g
 have b5:∀j,j<i->gt SL j≠gt SL i:=fun j az e=>by
  have hp:=N5.1 L j i (by omega) d az
  rw [<-OI,<-OI,e] at hp
  unfold Vk at hp;omega
 have r:∀j,j<i+1->TN (gt SL j) (XE (gt SL i) ((i+2:Nat):Int) es)=some ((j+2:Nat):Int):=fun j az=>by
  rw [XZ]
  by_cases ay:j=i
  ·subst ay;rw [Nh rfl]
  ·rw [Nf (b5 j (by omega))];exact J j (by omega)
 have o:∀j,j<SL.length->TN (gt SL j) (XE (gt SL i) ((i+2:Nat):Int) es)≠none:=fun j bz=>by
  rw [XZ];split
  ·simp
  ·exact z j bz
 have R:=fun X=>(NZ.refl.app (X:=X)).cells ((m4.other A (by omega)).trans P.hdr)
 by_cases h0:0<i
 case neg=>
  have O:¬(0:Int)<(i:Int):=by omega
  have c:PH (SL.take (i+1)) 2=PH (SL.take i) 2:=by
   obtain rfl:i=0:=by omega
   rw [Nmt];rfl
  simp only [n60,f0,C,p,D,d,lS,xS,F,W,I,ah,e4,w3,w4,show lim<=M by omega,show lim<=G'.length by omega,O,SB,Nat.reduceLT,NG,Nat.reduceEqDiff,NF,reduceCtorEq,place,NB,Nat.reduceAdd]
  rw [<-q]
  exact hN (i+1,(pa,ca),(ols,out),XE (gt SL i) ((i+2:Nat):Int) es) _ _ ⟨by show i+1<=_;omega,f0,C,p,rfl,by rw [c];exact Y,by rw [c];exact l,K,by rw [c];exact w,by rw [c];show _<=i+1;omega,B,Z,r,o,ac,by omega⟩ (by show SL.length-(i+1)<SL.length-i;omega)
 have O:(0:Int)<(i:Int):=by omega
 have cf:=B.sl PN
 have a5:AM.loadCell (G4++[Vc [Value.int IntKind.i64 (gt SL i).1,Value.int IntKind.i64 (gt SL i).2]]) ((Tk pp 2 (i-1)).add 0)=some (Vi (gt SL (i-1)).1):=by
  rw [<-q,cf.loadCell PN (by omega) (by decide)];rfl
 have bb:=QM (i:=i-1) ak (show i-1<SL.length by omega) rfl
 have w5:IntKind.i64.wrap ((i:Int)-1)=((i-1:Nat):Int):=by rw [NY (by omega) (by omega)];omega
 by_cases hs:(gt SL (i-1)).1=(gt SL i).1
 ·have c:PH (SL.take (i+1)) 2=PH (SL.take i) 2++[⟨i+2,i+1,VW,0⟩]:=by rw [Nav h0 d,Nh hs]
  simp only [n60,f0,C,p,D,d,lS,xS,F,W,I,ah,e4,w3,w4,show lim<=M by omega,show lim<=G'.length by omega,an,O,R,a5,bb,w5,hs,SB,Nat.reduceLT,NE,NG,Nat.reduceEqDiff,NF,reduceCtorEq,place,NB,Nat.reduceAdd]
  rw [<-q]
  refine Ng5 (f:=i+1) (t:=i+2) Y (by omega) (by omega) (by omega) (fun v=>by have:=w v;omega) (by omega) fun G7 ce be ba bm ag cr=>?_
  have bo:=(ag M (.inl ⟨by omega,by omega⟩)).trans Z
  have au:=RJ B fun a m=>ag a.block (.inl (a2 a m))
  have br:∀b∈X,NC G7 b=NC G b:=fun b g=>by
   obtain ⟨x1,x2,x3,x4⟩:=h.sx b g
   rw [ag b (.inl ⟨by omega,x2⟩)];exact ac b g
  simp only [n60,D,w4,SB,Nat.reduceLT,NG,Nat.reduceEqDiff,NF]
  exact hN (i+1,(ce,be),(ba,Ve out (i+1) (i+2) (2*(PH (SL.take i) 2).length)),XE (gt SL i) ((i+2:Nat):Int) es) _ _ ⟨by show i+1<=_;omega,f0,C,p,rfl,by rw [c];exact bm,by rw [c];exact l.join (by omega) (by omega),by show (Ve _ _ _ _).length=_;rw [WR];exact K,fun v=>by
   show (gt (Ve _ _ _ _) v).length<=_
   rw [c,Nb]
   have:=XW (out:=out) (f:=i+1) (t:=i+2) (i:=2*(PH (SL.take i) 2).length) (v:=v) (by omega) (by omega)
   have:=w v
   simp only [Nk,Nl];omega,by rw [c,Nb];show _+1<=i+1;omega,au,bo,r,o,br,by omega⟩ (by show SL.length-(i+1)<SL.length-i;omega)
 ·have c:PH (SL.take (i+1)) 2=PH (SL.take i) 2:=by rw [Nav h0 d,Nf hs,Na]
  simp only [n60,f0,C,p,D,d,lS,xS,F,W,I,ah,e4,w3,w4,show lim<=M by omega,show lim<=G'.length by omega,an,O,R,a5,bb,w5,hs,SB,Nat.reduceLT,NG,Nat.reduceEqDiff,NF,reduceCtorEq,place,NB,Nat.reduceAdd]
  rw [<-q]
  exact hN (i+1,(pa,ca),(ols,out),XE (gt SL i) ((i+2:Nat):Int) es) _ _ ⟨by show i+1<=_;omega,f0,C,p,rfl,by rw [c];exact Y,by rw [c];exact l,K,by rw [c];exact w,by rw [c];show _<=i+1;omega,B,Z,r,o,ac,by omega⟩ (by show SL.length-(i+1)<SL.length-i;omega)
theorem Np5 [OB] {mp:Bool} {lim c:Nat} {p:Option Addr} {P:List Int} {a:Int} {H:NA} {Q:Value->NA->Prop} (o:Sl H encI 1 p P) (hn:P.length<2 ^ 63) :
  NR E mp lim 83 [.slice p P.length c,Vi a] H Q=Q (Vi (Ncj P a)) H:=by
 refine pc (by decide) e83 rfl rfl ?_
 rw [b83,c83]
 simp only [n83,SB,seval,NG,reduceCtorEq,NK]
 refine NL (fun j=>P.length-j) (fun j fr G=>j<=P.length/\fr 0=.slice p P.length c/\fr 1=Vi a/\fr 7=Vi P.length/\fr 8=Vi j/\NZ H G/\∀i,i<j->gt P i≠a) 0 ⟨Nx _,rfl,rfl,rfl,by rfl,NZ.refl.app,fun i hi=>by omega⟩ ?_
 intro j fr G ⟨s,l,f1,f7,f8,m,d⟩ q
 rw [NP N0m.eq_1]
 refine NI ?_
 by_cases b:j<P.length
 case neg=>
  obtain rfl:j=P.length:=by omega
  simp only [n83,r83,f7,f8,b,SB,seval,NG,NF,NH]
  rw [Ncj,Nf fun g=>?_]
  obtain ⟨i,hi,he⟩:=List.mem_iff_getElem.1 g
  exact d i hi (by rw [OI hi];exact he)
 have f:=fun X=>((m.sl o).app X).loadCell0 PG b (by decide)
 simp only [encI,Pc] at f
 have e:=fun c (k:IntKind) (H1:NA)=>(m.sl o).idx (c:=c) (k:=k) (H1:=H1) b
 have n:IntKind.i64.wrap ((j:Int)+1)=((j+1:Nat):Int):=NS (by omega)
 by_cases he:a=gt P j
 ·simp only [n83,r83,l,f1,f7,f8,b,e,f,Nq he,SB,seval,NG,NF,reduceCtorEq,NH]
  have g:a∈P:=he▸PW b
  rw [Ncj,Nh g]
  congr 1
  have h1:Nk7 P a<=j:=by
   unfold Nk7
   apply Oq;intro hc
   have:=List.not_of_lt_findIdx (xs:=P) (p:=(· == a)) (i:=j) (by unfold List.idxOf at hc;omega)
   rw [OI b] at he
   simp [he] at this
  rcases Oo (Nk7 P a) j with h3 | h3
  ·exfalso
   have hl:Nk7 P a<P.length:=Qd g
   have:=Qr hl
   refine d _ h3 ?_
   rw [OI hl];exact this
  ·omega
 ·simp only [n83,l,f1,f7,f8,b,e,f,n,Nm he,SB,seval,NG,NF,reduceCtorEq]
  exact q (j+1) _ _ ⟨by omega,l,f1,f7,rfl,m.app,fun i hi=>by
   rcases Oo i j with h | h
   ·exact d i h
   ·obtain rfl:i=j:=by omega
    exact fun r=>he r.symm⟩ (by omega)
theorem Nwg [OB] {mp:Bool} {lim c:Nat} {p:Option Addr} {P:List Int} {a:Int} {H:NA} {Q:Value->NA->Prop} (d:Sl H encI 1 p P) (hn:P.length<2 ^ 63) :
  NR E mp lim 57 [.slice p P.length c,Vi a] H Q=Q (.bool (decide (a∈P))) H:=by
 refine pc (by decide) e57 rfl rfl ?_
 rw [b57,c57]
 have e:=fun X (mp:Bool) (lim:Nat) (Q:Value->NA->Prop)=>Np5 (mp:=mp) (lim:=lim) (c:=c) (a:=a) (Q:=Q) (d.app X) hn
 simp only [n57,r57,e,SB,seval,NE,NG,NF,reduceCtorEq,NK,NH]
 by_cases h:a∈P
 ·rw [No (Nfb.2 h),No h]
 ·rw [Nw fun b=>h (Nfb.1 b),Nw h]
def encS (x:Flow.Src):List Value:=[Vi x.pl,Vi x.rd,Vi x.gr]
theorem OP (x:Flow.Src):(encS x).length=3:=id rfl
theorem SS {x:Flow.Src}:(encS x)[0]? = some (Vi x.pl):=id rfl
theorem Tj {x:Flow.Src}:(encS x)[1]? = some (Vi x.rd):=id rfl
theorem Vs {x:Flow.Src}:(encS x)[2]? = some (Vi x.gr):=id rfl
def SOk (P:List Int) (x:Flow.Src):Prop:=x.pl∈P/\0<=x.rd/\x.rd<=OQ/\0<=x.gr/\x.gr<=1000000000
instance {P:List Int} {x:Flow.Src}:Decidable (SOk P x):=by unfold SOk;infer_instance
def OD (P:List Int) (L:List Leg) (s:List Flow.Src) (to dl:Int):Int:=
 if PY P L≠0 then PY P L else if ¬(to∈P/\0<=dl/\dl<=OQ) then 2 else if 50<s.length then 5 else if ∀x∈s,SOk P x then 0 else 340
theorem TS [OB] {mp:Bool} {lim:Nat} {pp pl ps:Option Addr} {P:List Int} {L:List Leg} {s:List Flow.Src} {cp cl cs:Nat} {to dl:Int} {H:NA} {Q:Value->NA->Prop} (hn:NetIn H pp pl P L) (O:Sl H encS 3 ps s) (R:s.length<2 ^ 63) :
  NR E mp lim 38 [.agg (netV pp P.length cp pl L.length cl).toArray,.slice ps s.length cs,Vi to,Vi dl] H Q=Q (Vi (OD P L s to dl)) H:=by
 refine pc (by decide) e38 rfl rfl ?_
 rw [b38,c38]
 have mt:OQ=1051898399:=rfl
 have v:=fun X (mp:Bool) (lim:Nat) (Q:Value->NA->Prop)=>Nhs (mp:=mp) (lim:=lim) (cp:=cp) (cl:=cl) (Q:=Q) (hn.app X)
 have t:=fun X (mp:Bool) (lim:Nat) (a:Int) (Q:Value->NA->Prop)=>Nwg (mp:=mp) (lim:=lim) (c:=cp) (a:=a) (Q:=Q) (hn.sp.app X) (by have:=hn.np;omega)
 by_cases p:PY P L=0
 case neg=>
  simp only [n38,r38,OC,v,p,SB,seval,NE,NG,NF,NK,place,NB,NH]
  rw [OD,Nh p]
 have key:OD P L s to dl=if ¬(to∈P/\0<=dl/\dl<=OQ) then 2 else if 50<s.length then 5 else if ∀x∈s,SOk P x then 0 else 340:=Nf fun h=>h p
 rw [key]
 by_cases m:to∈P
 case neg=>
  simp only [n38,r38,OC,QA,v,p,t,Nm m,SB,seval,NE,NG,NF,QV,NK,place,NB,NH]
 by_cases o:dl<0
 ·simp only [n38,r38,OC,QA,v,p,t,Nq m,Nq o,SB,seval,NE,NG,NF,QV,NK,place,NB,NH]
  rw [Nh fun h=>by omega]
 by_cases r:1051898399<dl
 ·simp only [n38,r38,OC,QA,v,p,t,Nq m,Nm o,Nq r,SB,seval,NE,NG,NF,QV,NK,place,NB,NH]
  rw [Nh fun h=>by omega]
 rw [Nf fun h=>h ⟨m,by omega,by omega⟩]
 by_cases A:50<(s.length:Int)
 ·simp only [n38,r38,OC,QA,v,p,t,Nq m,Nm o,Nm r,A,SB,seval,NE,NG,NF,QV,NK,place,NB,NH]
  rw [Nh (by omega)]
 rw [Nf (by omega)]
 simp only [n38,OC,QA,v,p,t,Nq m,Nm o,Nm r,A,SB,seval,NE,NG,NF,QV,NK,place,NB]
 refine NL (fun i=>s.length-i) (fun i fr G=>i<=s.length/\fr 4=Vp H.length/\fr 33=.slice ps s.length cs/\fr 34=Vi s.length/\fr 35=Vi i/\H.length<G.length/\NZ H G/\NC G H.length=Vc (netV pp P.length cp pl L.length cl)/\∀j,j<i->SOk P (gt s j)) 0
  ⟨Nx _,rfl,rfl,rfl,by rfl,by simp,NZ.refl.app,NQ,fun j C=>by omega⟩ ?_
 intro i fr G ⟨hi,f4,g,e,k,N,F,hB,q⟩ M
 rw [NP N05.eq_1]
 refine NI ?_
 by_cases b:i<s.length
 case neg=>
  obtain rfl:i=s.length:=by omega
  simp only [n38,r38,e,k,b,SB,seval,NG,NF,NH]
  rw [Nh]
  intro x S
  obtain ⟨j,C,rfl⟩:=List.mem_iff_getElem.1 S
  rw [<-OI C];exact q j C
 have K:=F.sl O
 have w:=fun X=>(K.app X).loadCells OP b
 have y:=QM K b rfl
 have u:=fun X=>(NZ.refl.app (X:=X)).cells hB
 have l:=fun X (mp:Bool) (lim:Nat) (a:Int) (Q:Value->NA->Prop)=>Nwg (mp:=mp) (lim:=lim) (c:=cp) (a:=a) (Q:=Q) (((F.sl hn.sp)).app X) (by have:=hn.np;omega)
 have T:IntKind.i64.wrap ((i:Int)+1)=((i+1:Nat):Int):=NS (by omega)
 have I:gt s i∈s:=PW b
 have n:¬SOk P (gt s i)->¬∀x∈s,SOk P x:=fun h t=>h (t _ I)
 have f:SOk P (gt s i)↔(gt s i).pl∈P/\0<=(gt s i).rd/\(gt s i).rd<=OQ/\0<=(gt s i).gr/\(gt s i).gr<=1000000000:=Iff.rfl
 have d:H.length<=G.length:=by omega
 by_cases g1:(gt s i).pl∈P
 case neg=>
  simp only [n38,r38,f4,g,e,k,b,w,y,u,l,QA,OP,SS,NM,d,Nm g1,SB,seval,NE,NG,NF,QV,place,NB,NH]
  rw [Nf (n fun h=>g1 h.1)]
 by_cases z:(gt s i).rd<0
 ·simp only [n38,r38,f4,g,e,k,b,w,y,u,l,QA,OP,SS,Tj,NM,d,Nq g1,Nq z,SB,seval,NE,NG,NF,QV,place,NB,NH]
  rw [Nf (n fun h=>by have:=f.1 h;omega)]
 by_cases B:1051898399<(gt s i).rd
 ·simp only [n38,r38,f4,g,e,k,b,w,y,u,l,QA,OP,SS,Tj,NM,d,Nq g1,Nm z,Nq B,SB,seval,NE,NG,NF,QV,place,NB,NH]
  rw [Nf (n fun h=>by have:=f.1 h;omega)]
 by_cases D:(gt s i).gr<0
 ·simp only [n38,r38,f4,g,e,k,b,w,y,u,l,QA,OP,SS,Tj,Vs,NM,d,Nq g1,Nm z,Nm B,Nq D,SB,seval,NE,NG,NF,QV,place,NB,NH]
  rw [Nf (n fun h=>by have:=f.1 h;omega)]
 by_cases J:1000000000<(gt s i).gr
 ·simp only [n38,r38,f4,g,e,k,b,w,y,u,l,QA,OP,SS,Tj,Vs,NM,d,Nq g1,Nm z,Nm B,Nm D,Nq J,SB,seval,NE,NG,NF,QV,place,NB,NH]
  rw [Nf (n fun h=>by have:=f.1 h;omega)]
 simp only [n38,f4,g,e,k,b,w,y,u,l,QA,OP,SS,Tj,Vs,NM,d,Nq g1,Nm z,Nm B,Nm D,Nm J,T,SB,seval,NE,NG,NF,QV,place,NB]
 exact M (i+1) _ _ ⟨by omega,f4,g,e,rfl,by simp;omega,F.app,(NZ.refl.app).cells hB,fun j C=>by
  rcases Oo j i with hji | hji
  ·exact q j hji
  ·obtain rfl:j=i:=by omega
   exact f.2 ⟨g1,by omega,by omega,by omega,by omega⟩⟩ (by omega)
theorem Ngt [OB] {mp:Bool} {lim A M Bt Bg:Nat} {G:NA} {to:Int} {v0:Value} {vs:List Value} {es:List ((Int×Int)×Int)} {p:Int×Int} {Q:Value->NA->Prop} (n:NC G Bt=Vc [Vi to]) (hB:NC G Bg=Vc [Vp A]) (m:NC G A=Vc (v0::.map (some M)::vs)) (l:NC G M=.map (Sw kM vI es)) :
  NR E mp lim 58 [.agg #[Vi p.1,Vi p.2],Vp Bt,Vp Bg] G Q=Q (Vi (if p.1=to then 1 else (TN p es).getD 0)) G:=by
 refine pc (by decide) e58 rfl rfl ?_
 rw [b58,c58]
 have b:=fun X=>(NZ.refl.app (X:=X)).cells n
 have e:=fun X=>(NZ.refl.app (X:=X)).cells hB
 have d:=fun X=>(NZ.refl.app (X:=X)).cells m
 have i:M<G.length:=by
  rcases Oo M G.length with h1 | h1
  ·exact h1
  ·have:=l;unfold NC at this;rw [Nc,N9 h1] at this;cases this
 have f:∀X,NC (G++X) M=.map (Sw kM vI es):=fun X=>by rw [NJ i];exact l
 have a:findKey (.agg #[Vi p.1,Vi p.2]) (Sw kM vI es) 0=some ((fk p es 0).map fun x=>(x.1,vI x.2)):=TP (vv:=vI) Nv7 p es 0
 have g:TZ (.ints [.i64,.i64]) (.agg #[Vi p.1,Vi p.2])=true:=Nv6 (k:=p)
 have c:=W9 p es 0
 by_cases h:p.1=to
 ·simp only [n58,r58,b,Nq h,SB,Nat.reduceLT,NG,Nat.reduceEqDiff,NF,NK,place,NB,NH]
 cases hf:fk p es 0 with
 | none=>
   rw [hf] at a c
   simp only [Ou] at a c
   rw [<-c]
   simp only [n58,r58,b,e,d,f,a,g,Nm h,Option.getD_none,SB,Nat.reduceLT,NG,Nat.reduceEqDiff,NF,NK,place,NB,Nat.reduceAdd,NH]
 | some x=>
   obtain ⟨j,v⟩:=x
   rw [hf] at a c
   simp only [N0,vI] at a c
   rw [<-c]
   simp only [n58,r58,b,e,d,f,a,g,Nm h,Pq,SB,Nat.reduceLT,NG,Nat.reduceEqDiff,NF,NK,place,NB,Nat.reduceAdd,NH]
theorem Nyc [OB] {lim A Bo:Nat} {X:List Nat} {G:NA} {vm w4 w5 vw vmost:Value} {pp pa:Option Addr} {cp ca co:Nat} {ols:List Yn} {out:List (List Nat)} {l:List Pr} {SL:List (Int×Int)} {Q:Value->NA->Prop}
  (h:JS A Bo X G (.slice pp SL.length cp) vm w4 w5 vw vmost pa ca co ols out l) (aa:lim<=A) (hS:Own (A+1) G enc2 2 pp cp SL) (hn:out.length=SL.length+2) (hl:SL.length<60000) (V:∀x∈SL,-10080<=x.2/\x.2<=OQ)
  (hQ:∀(G':NA) (Lv:List Int),JS A Bo X G' (.slice pp SL.length cp) vm (.slice (Sa (G.length+1)) out.length out.length) (.slice (Sa G.length) out.length out.length) vw vmost pa ca co ols out l->NC G' G.length=Vc ((List.replicate out.length 0).flatMap Tn)->NC G' (G.length+1)=Vc (Lv.flatMap encI)->Lv.length=out.length->(∀x∈Lv,-20000<=x/\x<=1051898401)->(∀b,b<G.length->b≠A->NC G' b=NC G b)->G.length+2<=G'.length->Q (.tuple #[]) G') :
  NR E false lim 62 [Vp A] G Q:=by
 refine SE (by decide) e62 rfl ?_
 rw [b62,c62]
 have R:=ND h.hdr
 have S:=ND h.os.ou
 have W:=h.ab
 have mt:OQ=1051898399:=rfl
 have L:=fun X=>(NZ.refl.app (X:=X)).cells h.hdr
 have ac:=Nq (show 0<=(out.length:Int)/\(out.length:Int)*8<=2 ^ 45/\(out.length:Int)<2 ^ 62 by omega)
 obtain ⟨G1,e1,k1,m1⟩:=OO R (Vc [.slice pp SL.length cp,vm,.slice pa (2*l.length) ca,.slice (Sa Bo) out.length co,w4,.slice (Sa G.length) out.length out.length,vw,vmost])
 have ad:=fun X=>(NZ.refl.app (X:=X)).cells k1
 obtain ⟨G2,e2,k2,m2⟩:=OO (ND k1) (Vc [.slice pp SL.length cp,vm,.slice pa (2*l.length) ca,.slice (Sa Bo) out.length co,.slice (Sa (G.length+1)) out.length out.length,.slice (Sa G.length) out.length out.length,vw,vmost])
 have ae:=fun X=>(NZ.refl.app (X:=X)).cells k2
 have M:=m1.len
 have ag:=m2.len
 simp only [n62,L,ac,Nn0,aa,e1,ad,e2,ae,M,SB,Nat.reduceLT,NG,Nat.reduceEqDiff,reduceCtorEq,NK,place,NB,Nat.reduceAdd,Nat.reduceLeDiff]
 have z:∀n,List.replicate n (Value.int IntKind.i64 0)=(List.replicate n (0:Nat)).flatMap Tn:=fun n=>by
  induction n with
  | zero=>rfl
  | succ n ih=>rw [Pd,Pd,N2,<-ih];rfl
 have y:∀n,List.replicate n (Value.int IntKind.i64 0)=(List.replicate n (0:Int)).flatMap encI:=fun n=>by
  induction n with
  | zero=>rfl
  | succ n ih=>rw [Pd,Pd,N2,<-ih];rfl
 obtain ⟨m,d⟩:∃m,m=G2++[Vc (List.replicate out.length (Value.int IntKind.i64 0)),Vc (List.replicate out.length (Value.int IntKind.i64 0))]:=⟨_,rfl⟩
 rw [<-d]
 have H:G2.length=G.length:=by omega
 have P:NC m A=Vc [.slice pp SL.length cp,vm,.slice pa (2*l.length) ca,.slice (Sa Bo) out.length co,.slice (Sa (G.length+1)) out.length out.length,.slice (Sa G.length) out.length out.length,vw,vmost]:=by rw [d];exact (NZ.refl.app).cells k2
 have U:NC m G.length=Vc ((List.replicate out.length 0).flatMap Tn):=by rw [d,<-z,<-H,NQ];rfl
 have T:NC m (G.length+1)=Vc ((List.replicate out.length 0).flatMap encI):=by rw [d,<-y,<-H,OM];rfl
 have Y:∀b,b<G.length->b≠A->NC m b=NC G b:=fun b v e=>by rw [d,NJ (by omega),m2.other b e,m1.other b e]
 have Z:G.length+2<=m.length:=by rw [d];simp;omega
 clear d
 refine NL (fun s:Nat×List Int=>SL.length-s.1) (fun s fr G'=>s.1<=SL.length/\fr 0=Vp A/\fr 25=.slice pp SL.length cp/\fr 26=Vi SL.length/\fr 27=Vi s.1/\NC G' A=Vc [.slice pp SL.length cp,vm,.slice pa (2*l.length) ca,.slice (Sa Bo) out.length co,.slice (Sa (G.length+1)) out.length out.length,.slice (Sa G.length) out.length out.length,vw,vmost]/\
   NC G' G.length=Vc ((List.replicate out.length 0).flatMap Tn)/\NC G' (G.length+1)=Vc (s.2.flatMap encI)/\s.2.length=out.length/\(∀x∈s.2,-20000<=x/\x<=1051898401)/\(∀b,b<G.length->b≠A->NC G' b=NC G b)/\G.length+2<=G'.length) (0,List.replicate out.length 0)
  ⟨Nx _,rfl,rfl,rfl,by rfl,P,U,T,by simp,fun x hx=>by rw [List.eq_of_mem_replicate hx];omega,Y,Z⟩ ?_
 rintro ⟨i,Lv⟩ fr G' ⟨hi,O,I,o,q,r,J,f,g,t,w,ah⟩ hN
 simp only at hi q f g t
 rw [NP N0u.eq_1]
 refine NI ?_
 have k:=fun X=>(NZ.refl.app (X:=X)).cells r
 by_cases j:i<SL.length
 case neg=>
  obtain rfl:i=SL.length:=by omega
  obtain ⟨G5,F,k5,C⟩:=Uv (lim:=lim) (p:=Sa (G.length+1)) (i:=1) PG rfl f (by omega) (by omega) (1051898401:Int)
  simp only [encI] at F
  have sL:=Sl.row (ro:=false) PG f
  have K:=QM (i:=1) sL (show 1<out.length by omega) g
  simp only [Qy] at K
  simp only [n62,r62,O,o,q,j,k,K,F,SB,Nat.reduceLT,NG,NF,reduceCtorEq,NB]
  have B:=fun b (v:b≠G.length+1)=>C.other b v
  have N:=C.len
  have c:∀b,b<G.length->b≠A->NC (G5++[]) b=NC G b:=fun b v e=>by rw [Na,B b (by omega)];exact w b v e
  refine hQ _ (Lv.set 1 1051898401) ⟨?_,RJ h.ar fun a D=>?_,h.os.sim ?_ (fun u a hu D=>?_) (by simp;omega),W,h.ax⟩ ?_ ?_ (by simpa using g) ?_ c (by simp;omega)
  ·rw [Na,B A (by omega)];exact r
  ·have:=h.ar.block D
   exact c _ this.2 (by omega)
  ·exact c Bo S (by omega)
  ·have:=(h.os.us u hu).1.block D
   exact c _ this.2 (by omega)
  ·rw [Na,B G.length (by omega)];exact J
  ·rw [Na];exact k5
  ·intro x hx
   rcases Rh hx with hx | hx
   ·exact t x hx
   ·omega
 have sS:Sl G' enc2 2 pp SL:=(RJ hS fun a D=>w a.block (hS.block D).2 (by have:=(hS.block D).1;omega)).sl PN
 have lS:∀X,AM.loadCells (G'++X) (Tk pp 2 i) 2=some [Vi (gt SL i).1,Vi (gt SL i).2]:=fun X=>by rw [(sS.app X).loadCells PN j];rfl
 have xS:=QM sS j rfl
 have v:=V _ (PW j)
 have w1:IntKind.i64.wrap ((i:Int)+1)=((i+1:Nat):Int):=NS (by omega)
 have w2:IntKind.i64.wrap ((i:Int)+2)=((i+2:Nat):Int):=by rw [NY (by omega) (by omega)];omega
 have w3:IntKind.i64.wrap ((gt SL i).2+1)=(gt SL i).2+1:=NY (by omega) (by omega)
 have sL:=Sl.row (ro:=false) PG f
 have K:=QM (i:=i+2) sL (show i+2<out.length by omega) g
 obtain ⟨G5,F,k5,C⟩:=Uv (lim:=lim) (p:=Sa (G.length+1)) (i:=i+2) PG rfl f (by omega) (by omega) ((gt SL i).2+1)
 simp only [encI] at F
 have N:=C.len
 simp only [n62,O,I,o,q,j,k,lS,xS,K,F,w1,w2,w3,show lim<=G'.length by omega,SB,Nat.reduceLT,NG,Nat.reduceEqDiff,NF,reduceCtorEq,place,NB,Nat.reduceAdd]
 exact hN (i+1,Lv.set (i+2) ((gt SL i).2+1)) _ _ ⟨by show i+1<=_;omega,O,I,o,rfl,(NZ.refl.app).cells ((C.other A (by omega)).trans r),(NZ.refl.app).cells ((C.other _ (by omega)).trans J),(NZ.refl.app).cells k5,by simpa using g,fun x hx=>by
  rcases Rh hx with hx | hx
  ·exact t x hx
  ·omega,fun b v e=>by rw [NJ (by omega),C.other b (by omega)];exact w b v e,by simp;omega⟩ (by show SL.length-(i+1)<SL.length-i;omega)
end Go.Proofs.YtohnaffmcjbpoaaGreat.Fn


