/-
  Joined texts, 6 of 8. A part of the claim that the last text states.
-/
import Derived.Test.YtancgcogjokfcaaGreatDoorPA5
set_option linter.unusedVariables false
set_option linter.unusedSimpArgs false
set_option linter.defProp false
set_option linter.unusedSectionVars false
set_option maxRecDepth 100000
set_option maxHeartbeats 4000000
namespace Go.Proofs.YtancgcogjokfcaaGreatDoor.Fn
open Go.AM Go.AM.Sym
theorem Nde {u:BU} {id:Int} {nm:ByteArray} (h:Rm u (.join id nm)=0):NR id u.ms=none:=by
 unfold Rm at h
 simp only at h
 split at h
 ·cases h
 split at h
 ·cases h
 ·rename_i q;cases e:NR id u.ms with
  | none=>rfl
  | some m=>rw [e] at q;exact absurd rfl q
theorem Nes {a:Prop} {c:Int} (h:¬(a\/Xb c=false)):1<=c/\c<=1000000000:=by
 have:Xb c=true:=by cases q:Xb c with
  | true=>rfl
  | false=>exact absurd (.inr q) h
 exact Pa this
theorem Ng9 {u:BU} {id c:Int} (h:Rm u (.pay id c)=0):(1<=c/\c<=1000000000)/\∃m,NR id u.ms=some m:=by
 unfold Rm at h
 simp only at h
 split at h
 ·cases h
 rename_i q
 refine ⟨Nes q, ?_⟩
 cases e:NR id u.ms with
 | none=>rw [e] at h;cases h
 | some m=>exact ⟨m,rfl⟩
theorem Ndd {u:BU} {id f p c:Int} (h:Rm u (.post id f p c)=0):(1<=c/\c<=1000000000)/\NR id u.xs=none:=by
 unfold Rm at h
 simp only at h
 split at h
 ·cases h
 rename_i q
 refine ⟨Nes (a:=SQ id=false\/SQ f=false\/SQ p=false) fun k=>q (by rcases k with (k | k | k) | k<;>simp [k]), ?_⟩
 split at h
 ·cases h
 ·rename_i q;cases e:NR id u.xs with
  | none=>rfl
  | some m=>rw [e] at q;exact absurd rfl q
theorem ZZ {u:BU} {id c:Int} (h:Rm u (.refund id c)=0):1<=c/\c<=1000000000:=by
 unfold Rm at h
 simp only at h
 split at h
 ·cases h
 rename_i q
 exact Nes q
theorem Me {u:BU} {c:Cl}:(TM u c).calls=u.calls:=by cases c<;>rfl
section
variable {lim l0 B:Nat} {jv:Value} {s:SU} {G:NB} {Q:Value->NB->Prop}
theorem Nu5 [OA] {A:List Nat} {n k:Nat} {p:Option Addr} {c:List ByteArray} (h:KB l0 B jv s G) (hw:Wf n s.st) (hn:n<2 ^ 30) (hl:lim<=l0) (a8:l0<=G.length) (hs:Sl G SL 1 p c) (al:Us 1 k c.length) (an:∀a,p=some a->a.block<G.length) (ay:∀a,p=some a->∀r,s.ptr B r≠some a.block) (hz:∀t∈c,t.size<=281474976710656) (hc:c.length<2 ^ 30)
  (hA:∀j∈A,j<G.length/\(∀r,s.ptr B r≠some j)/\(∀x∈s.calls,∀a,x.p=some a->a.block≠j)/\∀a,p=some a->a.block≠j)
  (hE:∀G',Chg [] G G'->RY s.st c≠0->Q (Vi (RY s.st c)) G')
  (hT:∀cl,QV c=some cl->Rm s.st cl=0->Nwz lim l0 B jv s G A p c k Q (TM s.st cl)) :
  NQ E false lim 18 [Vp B,.slice p c.length k] G Q:=by
 refine runs (by decide) e18 rfl ?_
 rw [b18,c18]
 have av:=fun X=>(QP.refl.app (X:=X)).cells h.b
 have z:=fun X (mp:Bool) (lim:Nat) (Q:Value->NB->Prop)=>VL (mp:=mp) (lim:=lim) (Q:=Q) (av X)
 have a9:lim<=G.length:=by omega
 have same:=hE
 cases c with
 | nil=>
   have e0:RY s.st []=432:=rfl
   simp only [n18,r18,z,Nn,SB,seval,NC,NH,NG,NT,reduceCtorEq,ND,place,NA,NE]
   have:=same _ (Chg.refl.app (X:=[])) (by rw [e0];decide)
   rw [e0] at this
   exact this
 | cons w l=>
   have M:¬(((l.length+1:Nat):Int)=0):=by omega
   have R:=fun X=>(hs.app X).loadCell0 Ru (i:=0) (by simp) (by decide)
   have am:=fun c (kk:IntKind) (H1:NB)=>hs.idx (c:=c) (k:=kk) (H1:=H1) (i:=0) (by simp)
   have e1:gt (w::l) 0=w:=rfl
   simp only [e1] at R
   have J:∀c (kk:IntKind) (H1:NB),X7 1 (.slice p (l.length+1) c) (.int kk 0) H1=some (.pointer (some (Xx p 1 0)),H1):=am
   have K:=fun (X:NB) (Q:Value->NB->Prop)=>rows_ok (lim:=lim) (H:=G++X) (Q:=Q) (by simp;omega)
   have Y:U2 (G++[]) (G++[Blk.map Ua])=true:=Ne0 fun j ro c v=>by rw [Nb] at v;exact (QP.refl.app).cells v
   obtain ⟨q,cq,D,ai,ah,ao,_⟩:=Tz (vlo:=some (Vi 1)) (vhi:=none) (lo:=1) (hi:=(w::l).length) hs al Ru (fun cap hc=>by rw [Z7 (by decide) (by have:(w::l).length=l.length+1:=rfl;omega)];rfl) (by simp) (Nd _) (by omega)
   have ax:(w::l).length-1=l.length:=by simp
   rw [O3,List.drop_succ_cons,Oh] at ai
   rw [ax] at D ah
   have D:WJ 1 (.slice p (l.length+1) k) (some (Vi 1)) none none=some (.slice q l.length cq):=D
   have h0:KB l0 B jv s (G++[.map Ua]):=h.new Chg.refl.app
   have P:Sl (G++[.map Ua]) SL 1 q l:=ai.app _
   have ac:∀a,q=some a->a.block<(G++[Blk.map Ua]).length:=fun a ea=>by
    obtain ⟨b,eb,e⟩:=ao a ea
    have:=an b eb
    simp;omega
   have ad:∀t∈l,t.size<=281474976710656:=fun t ht=>hz t (by simp [ht])
   have a6:l.length<2 ^ 30:=by have:(w::l).length=l.length+1:=rfl;omega
   have aa:l0<=(G++[Blk.map Ua]).length:=by simp;omega
   have L:∀{G':NB},Chg [] (G++[.map Ua]) G'->Chg [] G G':=fun hc=>hc.pre
   have I:∀id m,NR id s.ms=some m->m.m.ents.length<2 ^ 40/\0<=QI m.m.ents/\QI m.m.ents<=1000000000000:=fun id m hm=>by
    have:=hw.ents id m.m (by rw [RX,hm];rfl)
    exact ⟨by omega,this.2.2⟩
   have a7:(w::l).length=l.length+1:=rfl
   have o:∀{G' H':NB} {j:Nat} {b:List Value},Chg A G' H'->G.length<=j->NF G' j=Vc b->NF H' j=Vc b:=fun g v e=>g.cells e fun q=>by have:=(hA _ q).1;omega
   have ag:∀{G' H':NB},Chg [] (G++[.map Ua]) G'->Chg A G' H'->KB l0 B jv s H':=fun g d=>(h0.new g).to d fun j v=>⟨(hA j v).2.1,(hA j v).2.2.1⟩
   have arg:∀{G' H' G1:NB},Chg [] G G'->Chg A G' H'->(∃A,(∀j∈A,(∃r,s.ptr B r=some j)\/G.length<=j/\j<G'.length)/\Chg A H' G1)->Sl G1 SL 1 p (w::l):=fun g d ⟨A1,aq,au⟩=>au.sl (d.sl (g.sl hs fun _ _ _ v=>by cases v) fun a ea _ v=>(hA _ v).2.2.2 a ea rfl) fun a ea _ v=>by
    rcases aq _ v with ⟨r,q⟩ | q
    ·exact ay a ea r q
    ·have:=an a ea;omega
   have ab:s.calls.length<2 ^ 30:=by have:=hw.calls;simp only [SU.st,Nz] at this;omega
   have V:∀{G':NB},QV (w::l)=none->Chg [] (G++[.map Ua]) G'->Q (Vi 432) G':=fun hr g=>by
    have e0:RY s.st (w::l)=432:=by unfold RY;rw [hr]
    rw [<-e0];exact same _ (L g) (by rw [e0];decide)
   have Z:∀{G':NB} {cl:Cl} {e:Int},QV (w::l)=some cl->Rm s.st cl=e->e≠0->Chg [] (G++[.map Ua]) G'->Q (Vi e) G':=by
    intro G' cl e hr he u g
    have e0:RY s.st (w::l)=e:=by unfold RY;rw [hr];exact he
    rw [<-e0];exact same _ (L g) (by rw [e0];exact u)
   have lk:∀{G':NB},Chg [] (G++[.map Ua]) G'->(∀r j,s.ptr B r=some j->j<G.length)/\G.length+1<=G'.length:=fun g=>⟨fun r j hr=>(h.lt hr).2,by have:=g.len;simpa using this⟩
   have S:∀{k:Nat},G.length<=k->∀r,s.ptr B r≠some k:=fun hk r hr=>by have:=(h.lt hr).2;omega
   have ae:∀{k:Nat},G.length<=k->∀c∈s.calls,∀a,c.p=some a->a.block≠k:=fun hk c aw a ea=>by have:=(h.cs c aw).2 a ea;omega
   have a5:(G++[Blk.map Ua]).length=G.length+1:=by simp
   by_cases w1:w=Tj
   ·have hf:findKey (.string w) Ua 0=some (some (0,fnV 102)):=by rw [Xv,Nj w1]
    simp only [n18,r18,z,M,J,R,Tx,K,Y,hf,fnV,D,and_self,SB,seval,NC,NH,NG,NT,reduceCtorEq,ND,place,NA,NE]
    refine Ntm h0 hl aa P ah ac ad (by omega) (fun O G' g=>XB (by decide) (V (by rw [w1];exact Nd8 O) g)) (fun a b id e G' el ak he u g=>XB u (Z (by rw [w1,el];exact Y9 ak) he u g)) (fun a b id G' el ak he g k1 k2 k3=>?_)
    have W:NR id s.ms=none:=by have:=Nde he;rw [RX] at this;exact Option.map_eq_none_iff.1 this
    refine hT (.join id b) (by rw [w1,el];exact Y9 ak) he _ G' _ _ rfl rfl (L g) fun H' d Q' N=>?_
    refine Nrb (ag g d) hl (o d (by omega) k1) (o d (by omega) k2) (o d (by omega) k3) W fun s1 G1 ⟨L1,L2,L3,T,A,L5,U⟩=>?_
    have F:∃A,(∀j∈A,(∃r,s.ptr B r=some j)\/G.length<=j/\j<G'.length)/\Chg A H' G1:=⟨A,fun j v=>.inl (L5 j v),U⟩
    exact N s1 G1 ⟨L1,arg (L g) d F,by rw [T];exact ab,by have:=U.len;have:=d.len;have:=(lk g).2;omega,L2,L3,T,F⟩
   by_cases w2:w=Ug
   ·have hf:findKey (.string w) Ua 0=some (some (1,fnV 103)):=by rw [Xv,Nh w1,Nj w2]
    simp only [n18,r18,z,M,J,R,Tx,K,Y,hf,fnV,D,and_self,SB,seval,NC,NH,NG,NT,reduceCtorEq,ND,place,NA,NE]
    refine Nvg h0 hl aa P ac ad (by omega) I (fun O G' g=>XB (by decide) (V (by rw [w2];exact Nfs O) g)) (fun id x e G' C he u g=>XB u (Z (by rw [w2];exact ZK C) he u g)) (fun id x G' k1 k2 k3 C he g b1 b2 b3 a0 a2 a4=>?_)
    obtain ⟨hx,m,hm⟩:=Ng9 he
    rw [RX] at hm
    obtain ⟨m',W,rfl⟩:=Nc.1 hm
    obtain ⟨m1,m2,m3⟩:=I id m' W
    refine hT (.pay id x) (by rw [w2];exact ZK C) he _ G' _ _ rfl rfl (L g) fun H' d Q' N=>?_
    refine Ns1 (ag g d) hl (o d (by omega) a0) (o d (by omega) a2) (o d (by omega) a4) W m1 (by have:=(lk g).2;have:=d.len;omega) (by omega) (by omega) fun s1 G1 ⟨L1,L2,L3,T,A,L5,U⟩=>?_
    have F:∃A,(∀j∈A,(∃r,s.ptr B r=some j)\/G.length<=j/\j<G'.length)/\Chg A H' G1:=⟨A,fun j v=>.inl (L5 j v),U⟩
    exact N s1 G1 ⟨L1,arg (L g) d F,by rw [T];exact ab,by have:=U.len;have:=d.len;have:=(lk g).2;omega,L2,L3,T,F⟩
   by_cases w3:w=SY
   ·have hf:findKey (.string w) Ua 0=some (some (2,fnV 104)):=by rw [Xv,Nh w1,Nh w2,Nj w3]
    simp only [n18,r18,z,M,J,R,Tx,K,Y,hf,fnV,D,and_self,SB,seval,NC,NH,NG,NT,reduceCtorEq,ND,place,NA,NE]
    refine Nsz h0 hl aa P ac ad (by omega) I (fun O G' g=>XB (by decide) (V (by rw [w3];exact Nd7 O) g)) (fun id f pt x e G' C he u g=>XB u (Z (by rw [w3];exact Y8 C) he u g)) (fun id f pt x m G' C he W g g1 g2 g3 g4 g5 g6=>?_)
    obtain ⟨hx,az⟩:=Ndd he
    obtain ⟨m1,m2,m3⟩:=I f m W
    have mi:=(hw.ents f m.m (by rw [RX,W];rfl)).2.1
    refine hT (.post id f pt x) (by rw [w3];exact Y8 C) he _ G' _ _ rfl rfl (L g) fun H' d Q' N=>?_
    refine Npq (ag g d) hl (o d (by omega) g1) (o d (by omega) g2) (o d (by omega) g3) (o d (by omega) g4) (o d (by omega) g5) (o d (by omega) g6) (fun j v=>S (by simp only [Ni,Np,or_false] at v;omega)) (by omega) (fun j v=>by simp only [Ni,Np,or_false] at v;omega) (ae (by omega)) W az m1 (by omega) (by have:=(lk g).2;have:=d.len;omega) (by omega) (by omega) (by omega) (by omega) fun s1 G1 ⟨A,L5,U⟩ L1 L2 L3 T=>?_
    have F:∃A,(∀j∈A,(∃r,s.ptr B r=some j)\/G.length<=j/\j<G'.length)/\Chg A H' G1:=⟨A,fun j v=>(by
     rcases L5 j v with q | q
     ·right;have:=NJ g5;omega
     ·exact .inl q),U⟩
    exact N s1 G1 ⟨L1,arg (L g) d F,by rw [T];exact ab,by have:=U.len;have:=d.len;have:=(lk g).2;omega,L2,L3,T,F⟩
   by_cases w4:w=TJ
   ·have hf:findKey (.string w) Ua 0=some (some (3,fnV 105)):=by rw [Xv,Nh w1,Nh w2,Nh w3,Nj w4]
    simp only [n18,r18,z,M,J,R,Tx,K,Y,hf,fnV,D,and_self,SB,seval,NC,NH,NG,NT,reduceCtorEq,ND,place,NA,NE]
    refine Nsu h0 hl aa P ac ad (by omega) (fun O G' g=>XB (by decide) (V (by rw [w4];exact Nd6 O) g)) (fun x e G' C he u g=>XB u (Z (by rw [w4];exact Y7 C) he u g)) (fun x G' C he g g1 g2=>?_)
    have ba:s.sc.length<=2000:=hw.sc
    refine hT (.scan x) (by rw [w4];exact Y7 C) he _ G' _ _ rfl rfl (L g) fun H' d Q' N=>?_
    refine Npg (ag g d) hl (o d (by omega) g1) (o d (by omega) g2) (fun j v=>S (by simp only [Ni,Np,or_false] at v;omega)) (by omega) (by have:=(lk g).2;have:=d.len;omega) fun s1 G1 ⟨L1,L2,L3,T,A,L5,U⟩=>?_
    have F:∃A,(∀j∈A,(∃r,s.ptr B r=some j)\/G.length<=j/\j<G'.length)/\Chg A H' G1:=⟨A,fun j v=>.inl (L5 j v),U⟩
    exact N s1 G1 ⟨L1,arg (L g) d F,by rw [T];exact ab,by have:=U.len;have:=d.len;have:=(lk g).2;omega,L2,L3,T,F⟩
   by_cases w5:w=Rw
   ·have hf:findKey (.string w) Ua 0=some (some (4,fnV 106)):=by rw [Xv,Nh w1,Nh w2,Nh w3,Nh w4,Nj w5]
    simp only [n18,r18,z,M,J,R,Tx,K,Y,hf,fnV,D,and_self,SB,seval,NC,NH,NG,NT,reduceCtorEq,ND,place,NA,NE]
    have aj:∀id x,NR id s.xs=some x->∃m,NR x.from' s.ms=some m:=fun id x hx=>by
     obtain ⟨m,hm⟩:=hw.frm id x hx
     rw [RX] at hm
     obtain ⟨m',W,_⟩:=Nc.1 hm
     exact ⟨m',W⟩
    refine Nlk h0 hl aa P ac ad (by omega) I aj (fun O G' g=>XB (by decide) (V (by rw [w5];exact Nab O) g)) (fun id x e G' C he u g=>XB u (Z (by rw [w5];exact WP C) he u g)) (fun id x y m G' C he hy W g g1 g2 g3 g4=>?_)
    have hx:=ZZ he
    obtain ⟨m1,m2,m3⟩:=I _ m W
    refine hT (.refund id x) (by rw [w5];exact WP C) he _ G' _ _ rfl rfl (L g) fun H' d Q' N=>?_
    refine Nib (ag g d) hl (o d (by omega) g1) (o d (by omega) g2) (o d (by omega) g3) (o d (by omega) g4) (fun j v=>S (by simp only [Ni,Np,or_false] at v;omega)) (by omega) (fun j v=>by simp only [Ni,Np,or_false] at v;omega) (ae (by omega)) hy W m1 (by have:=(lk g).2;have:=d.len;omega) (by omega) (by omega) fun s1 G1 ⟨A,L5,U⟩ L1 L2 L3 T=>?_
    have F:∃A,(∀j∈A,(∃r,s.ptr B r=some j)\/G.length<=j/\j<G'.length)/\Chg A H' G1:=⟨A,fun j v=>(by
     rcases L5 j v with q | q
     ·right;have:=NJ g1;omega
     ·exact .inl q),U⟩
    exact N s1 G1 ⟨L1,arg (L g) d F,by rw [T];exact ab,by have:=U.len;have:=d.len;have:=(lk g).2;omega,L2,L3,T,F⟩
   ·have hf:findKey (.string w) Ua 0=some none:=by rw [Xv,Nh w1,Nh w2,Nh w3,Nh w4,Nh w5]
    simp only [n18,r18,z,M,J,R,Tx,K,Y,hf,fnV,D,and_self,SB,seval,NC,NH,NG,NT,reduceCtorEq,ND,place,NA,NE]
    exact V (Npm w1 w2 w3 w4 w5) Chg.refl
theorem Aft.none {u:BU} {G':NB} (h:KB l0 B jv s G) (a:Chg [] G G') (c:s.st=u):Aft l0 B jv s G u s G':=
 ⟨h.new a,c,fun r j hr=>.inl hr,fun x d=>.inl d,[],fun _ b=>(by cases b),a⟩
theorem Mid.aft {A:List Nat} {p:Option Addr} {c:List ByteArray} {u h:BU} {s1 s':SU} {H H' G1 G2:NB} (t:∀j∈A,j<G.length) (v:Chg [] G H) (n:Chg A H H') (M:Mid l0 B jv s G.length H.length H' p c u s1 G1) (F:Aft l0 B jv s1 G1 h s' G2) :
  KB l0 B jv s' G2/\s'.st=h/\(∀r j,s'.ptr B r=some j->s.ptr B r=some j\/H'.length<=j)/\(∀x∈s'.calls,x∈s.calls\/∀a,x.p=some a->H'.length<=a.block)/\∃A',(∀j∈A',(∃r,s.ptr B r=some j)\/G.length<=j/\j<H.length)/\Chg A' H' G2:=by
 obtain ⟨i,e,d⟩:=M.chg
 obtain ⟨l,f,g⟩:=F.chg
 have l1:=d.len
 refine ⟨F.kb,F.st,fun r j hr=>?_,fun x o=>?_,(i++l).filter (fun j=>decide (j<H'.length)),fun j b=>?_, ?_⟩
 ·rcases F.ptr r j hr with k | k
  ·exact M.ptr r j k
  ·right;omega
 ·rcases F.calls x o with k | k
  ·rw [M.calls] at k;exact .inl k
  ·exact .inr fun a m=>by have:=k a m;omega
 ·simp only [On,Oa,Nx] at b
  obtain ⟨k | k,k2⟩:=b
  ·exact e j k
  ·obtain ⟨r,hr⟩:=f j k
   rcases M.ptr r j hr with q | q
   ·exact .inl ⟨r,q⟩
   ·omega
 ·refine (d.mono fun j b hl=>?_).trans' g fun j b hl=>?_
  ·simp [b,hl]
  ·simp [b,hl]
theorem Nr2 [OA] {n k:Nat} {p:Option Addr} {c:List ByteArray} (h:KB l0 B (.pointer none) s G) (N:Wf n s.st) (hn:n<2 ^ 30) (hl:lim<=l0) (o:l0<=G.length) (L:Sl G SL 1 p c) (i:Us 1 k c.length) (v:∀a,p=some a->a.block<G.length) (w:∀a,p=some a->∀r,s.ptr B r≠some a.block) (R:∀t∈c,t.size<=281474976710656) (hc:c.length<2 ^ 30)
  (y:∀s' G',Aft l0 B (.pointer none) s G (if RY s.st c=0 then doneD s.st c else s.st) s' G'->Q (Vi (RY s.st c)) G') :
  NQ E false lim 18 [Vp B,.slice p c.length k] G Q:=by
 refine Nu5 (A:=[]) h N hn hl o L i v w R hc (fun _ d=>by cases d) (fun G' f he=>y s G' (Aft.none h f (by rw [Nh he]))) fun C hr he fr H g cs I J f m=>?_
 have u:c≠[]:=fun e=>by rw [e] at hr;cases hr
 refine Nw3 (P:=fun s1 G1=>Mid l0 B (.pointer none) s G.length H.length H p c (TM s.st C) s1 G1) I J hl (h.new f).b u hc (fun z l=>m H Chg.refl z fun s1 G1 M=>l s1 G1 M.kb M.arg M.len M.big M) fun s1 G1 s' G' M F=>?_
 have e0:RY s.st c=0:=by unfold RY;rw [hr];exact he
 obtain ⟨S,T,U,V,A',W,X⟩:=M.aft (A:=[]) (fun _ d=>by cases d) f Chg.refl F
 have K:=f.len
 have:=y s' G' ⟨S,by rw [T,Nj e0,M.st];unfold doneD;rw [hr];simp only [Me],fun r j hr=>(U r j hr).imp (fun q=>q) fun q=>by omega,fun x O=>(V x O).imp (fun q=>q) fun q a D=>by have:=q a D;omega,A'.filter (fun j=>decide (j<G.length)),fun j d=>?_,(f.mono fun j _ d=>by cases d).trans' X fun j d hl=>by simp [d,hl]⟩
 ·rw [e0] at this;exact this
 ·simp only [On,Nx] at d
  rcases W j d.1 with q | q
  ·exact q
  ·omega
end
theorem Na9:∀(f u:Nat),(Nha f u).length<=f
 | 0,_=>by simp [Nha]
 | f+1,u=>by
   unfold Nha
   split
   ·simp
   ·have:=Na9 f (u / 10);simp;omega
theorem Vj {n:Int}:(OD n).size<=21:=by
 have h1:=Na9 20 n.natAbs
 have h2:=Na9 20 n.toNat
 unfold OD
 show Array.size _<=21
 rw [List.size_toArray]
 split
 ·simp;omega
 ·omega
section
variable {lim l0 B:Nat} {jv:Value} {s:SU} {G:NB} {Q:Value->NB->Prop}
theorem Aft.pre {G1 G':NB} {u:BU} {s':SU} (hc:Chg [] G G1) (h:Aft l0 B jv s G1 u s' G'):Aft l0 B jv s G u s' G':=by
 have hl:=hc.len
 obtain ⟨A,d,e⟩:=h.chg
 exact ⟨h.kb,h.st,fun r j hr=>(h.ptr r j hr).imp (fun q=>q) fun q=>by omega,fun x f=>(h.calls x f).imp (fun q=>q) fun q a c=>by have:=q a c;omega,A,d,(hc.mono fun _ _ b=>by cases b).trans' e fun j b _=>b⟩
theorem Tm.capOk {α:Type} {m e c:Nat} {G:NB} {enc:α->List Value} {p:Option Addr} {l:List α} (h:Tm m G enc e p c l):Us e c l.length:=by
 rcases h with h | ⟨R,_,h1,h2,_⟩
 ·exact h.capOk
 ·exact .inr ⟨by omega,h2⟩
theorem Tm.le {α:Type} {m m' e c:Nat} {G:NB} {enc:α->List Value} {p:Option Addr} {l:List α} (h:Tm m G enc e p c l) (b:m'<=m):Tm m' G enc e p c l:=by
 rcases h with h | ⟨R,q,h1,h2,a,d⟩
 ·exact .inl (h.le b)
 ·exact .inr ⟨R,q,h1,h2,a,by omega⟩
theorem Nva [OA] {n:Nat} {p:Option Addr} {c:Nat} {G1:NB} {l:List ByteArray} (h:KB l0 B (.pointer none) s G) (j:Wf n s.st) (hn:n<2 ^ 30) (hl:lim<=l0) (i:l0<=G.length) (hc:Chg [] G G1) (b:Tm G.length G1 SL 1 p c l) (k:∀t∈l,t.size<=281474976710656) (e:l.length<2 ^ 30)
  (g:∀s' G',Aft l0 B (.pointer none) s G (if RY s.st l=0 then doneD s.st l else s.st) s' G'->Q (Vi (RY s.st l)) G') :
  NQ E false lim 18 [Vp B,.slice p l.length c] G1 Q:=
 Nr2 (h.new hc) j hn hl (by have:=hc.len;omega) (b.sl Ru) b.capOk (fun a d=>(b.block d).2) (fun a d r hr=>by have:=(b.block d).1;have:=(h.lt hr).2;omega) k e fun s' G' f=>g s' G' (f.pre hc)
theorem zW {w:ByteArray} {ns:List Int} (h:w.size<=100):∀t∈w::ns.map OD,t.size<=281474976710656:=fun t ht=>by
 rcases Ni.1 ht with rfl | ht
 ·omega
 ·obtain ⟨x,_,rfl⟩:=List.mem_map.1 ht
  have:=Vj (n:=x);omega
def DoR [OA] (lim B:Nat) (G:NB) (l:List ByteArray) (R:Int->NB->Prop):Prop:=
 ∀(p:Option Addr) (c:Nat) (G1:NB) (Q:Value->NB->Prop),Chg [] G G1->Tm G.length G1 SL 1 p c l->(∀t∈l,t.size<=281474976710656)->l.length<2 ^ 30->(∀e G',R e G'->Q (Vi e) G')->
  NQ E false lim 18 [Vp B,.slice p l.length c] G1 Q
theorem DoR.new [OA] {l:List ByteArray} {R:Int->NB->Prop} {G':NB} (h:DoR lim B G l R) (b:Chg [] G G'):DoR lim B G' l R:=fun p c G1 Q a d=>h p c G1 Q (b.trans' a fun _ e=>by cases e) (Tm.le d b.len)
theorem DoR.of0 [OA] {n:Nat} {l:List ByteArray} (h:KB l0 B (.pointer none) s G) (j:Wf n s.st) (hn:n<2 ^ 30) (hl:lim<=l0) (a:l0<=G.length) :
  DoR lim B G l fun e G'=>e=RY s.st l/\∃s',Aft l0 B (.pointer none) s G (if RY s.st l=0 then doneD s.st l else s.st) s' G':=fun p c G1 Q f g k b i=>
 Nva h j hn hl a f g k b fun s' G' d=>i _ G' ⟨rfl,s',d⟩
variable {R:Int->NB->Prop}
theorem Ne7 [OA] {v y:Int} (hl:lim<=G.length) (h0:XQ v) (h1:XQ y)
  (f:DoR lim B G [Ug,OD v,OD y] R) (h:∀e G',R e G'->Q (Vi e) G') :
  NQ E false lim 45 [Vp B,Vi v,Vi y] G Q:=by
 refine runs (by decide) e45 rfl ?_
 rw [b45,c45]
 simp only [n45,r45,SB,seval,NC,NH,NG,NT,reduceCtorEq,ND,place,NA,NE]
 refine WC (ns:=[v,y]) (Sl.row Te (ro:=false) (by first | (rw [NU];rfl) | (rw [NP];rfl))) (by show 2<2 ^ 40;decide) (by simp only [Ni,Np,or_false,forall_eq_or_imp,forall_eq];exact ⟨h0,h1⟩) (by simp;omega) fun p c G1 d g=>?_
 refine NI ?_
 simp only [n45,r45,SB,seval,NC,NH,NG,NT,reduceCtorEq,ND,place,NA,NE]
 rw [Nb]
 have a:Chg [] G G1:=d.pre
 refine f p c G1 _ a (Tm.le g (by simp)) (zW (ns:=[v,y]) (by decide)) (by show 3<2 ^ 30;decide) fun e G' b=>?_
 refine NI ?_
 simp only [n45,r45,SB,seval,NC,NH,NG,NT,reduceCtorEq,ND,place,NA,NE]
 rw [Nb]
 exact h e G' b
theorem ME [OA] {v y z u:Int} (hl:lim<=G.length) (h0:XQ v) (h1:XQ y) (h2:XQ z) (b:XQ u)
  (g:DoR lim B G [SY,OD v,OD y,OD z,OD u] R) (i:∀e G',R e G'->Q (Vi e) G') :
  NQ E false lim 46 [Vp B,Vi v,Vi y,Vi z,Vi u] G Q:=by
 refine runs (by decide) e46 rfl ?_
 rw [b46,c46]
 simp only [n46,r46,SB,seval,NC,NH,NG,NT,reduceCtorEq,ND,place,NA,NE]
 refine WC (ns:=[v,y,z,u]) (Sl.row Te (ro:=false) (by first | (rw [NU];rfl) | (rw [NP];rfl))) (by show 4<2 ^ 40;decide) (by simp only [Ni,Np,or_false,forall_eq_or_imp,forall_eq];exact ⟨h0,h1,h2,b⟩) (by simp;omega) fun p c G1 f h=>?_
 refine NI ?_
 simp only [n46,r46,SB,seval,NC,NH,NG,NT,reduceCtorEq,ND,place,NA,NE]
 rw [Nb]
 have a:Chg [] G G1:=f.pre
 refine g p c G1 _ a (Tm.le h (by simp)) (zW (ns:=[v,y,z,u]) (by decide)) (by show 5<2 ^ 30;decide) fun e G' d=>?_
 refine NI ?_
 simp only [n46,r46,SB,seval,NC,NH,NG,NT,reduceCtorEq,ND,place,NA,NE]
 rw [Nb]
 exact i e G' d
theorem ZB [OA] {v y:Int} (hl:lim<=G.length) (h0:XQ v) (h1:XQ y)
  (f:DoR lim B G [Rw,OD v,OD y] R) (h:∀e G',R e G'->Q (Vi e) G') :
  NQ E false lim 48 [Vp B,Vi v,Vi y] G Q:=by
 refine runs (by decide) e48 rfl ?_
 rw [b48,c48]
 simp only [n48,r48,SB,seval,NC,NH,NG,NT,reduceCtorEq,ND,place,NA,NE]
 refine WC (ns:=[v,y]) (Sl.row Te (ro:=false) (by first | (rw [NU];rfl) | (rw [NP];rfl))) (by show 2<2 ^ 40;decide) (by simp only [Ni,Np,or_false,forall_eq_or_imp,forall_eq];exact ⟨h0,h1⟩) (by simp;omega) fun p c G1 d g=>?_
 refine NI ?_
 simp only [n48,r48,SB,seval,NC,NH,NG,NT,reduceCtorEq,ND,place,NA,NE]
 rw [Nb]
 have a:Chg [] G G1:=d.pre
 refine f p c G1 _ a (Tm.le g (by simp)) (zW (ns:=[v,y]) (by decide)) (by show 3<2 ^ 30;decide) fun e G' b=>?_
 refine NI ?_
 simp only [n48,r48,SB,seval,NC,NH,NG,NT,reduceCtorEq,ND,place,NA,NE]
 rw [Nb]
 exact h e G' b
theorem Nk0 [OA] {x:Sc} (hl:lim<=G.length) (h0:XQ x.item) (h1:XQ x.place) (h2:XQ x.scanner) (a:XQ x.kind) (f:XQ x.at') (g:XQ x.seen)
  (j:DoR lim B G [TJ,OD x.item,OD x.place,OD x.scanner,OD x.kind,OD x.at',OD x.seen] R) (l:∀e G',R e G'->Q (Vi e) G') :
  NQ E false lim 47 [Vp B,.agg #[Vi x.item,Vi x.place,Vi x.scanner,.int .u8 x.kind,Vi x.at',Vi x.seen]] G Q:=by
 refine runs (by decide) e47 rfl ?_
 rw [b47,c47]
 have d:IntKind.i64.wrap x.kind=x.kind:=QJ (by have:=a;unfold XQ at this;omega) (by have:=a;unfold XQ at this;omega)
 simp only [n47,r47,d,SB,seval,NC,NH,NG,NT,reduceCtorEq,ND,place,NA,NE]
 refine WC (ns:=[x.item,x.place,x.scanner,x.kind,x.at',x.seen]) (Sl.row Te (ro:=false) (by first | (rw [NU];rfl) | (rw [NP];rfl))) (by show 6<2 ^ 40;decide) (by simp only [Ni,Np,or_false,forall_eq_or_imp,forall_eq];exact ⟨h0,h1,h2,a,f,g⟩) (by simp;omega) fun p c G1 i k=>?_
 refine NI ?_
 simp only [n47,r47,SB,seval,NC,NH,NG,NT,reduceCtorEq,ND,place,NA,NE]
 rw [Nb]
 have b:Chg [] G G1:=i.pre
 refine j p c G1 _ b (Tm.le k (by simp)) (zW (ns:=[x.item,x.place,x.scanner,x.kind,x.at',x.seen]) (by decide)) (by show 7<2 ^ 30;decide) fun e G' h=>?_
 refine NI ?_
 simp only [n47,r47,SB,seval,NC,NH,NG,NT,reduceCtorEq,ND,place,NA,NE]
 rw [Nb]
 exact l e G' h
end
section
variable {lim l0 B:Nat} {jv:Value} {s:SU} {G:NB} {Q:Value->NB->Prop}
theorem Nk3 [OA] {R:Int->NB->Prop} {v:Int} {nm:ByteArray} (hl:lim<=G.length) (h0:XQ v) (z:nm.size<=100)
  (s:DoR lim B G [Tj,OD v,nm] R) (u:∀e G',R e G'->Q (Vi e) G') :
  NQ E false lim 44 [Vp B,Vi v,.string nm] G Q:=by
 refine runs (by decide) e44 rfl ?_
 rw [b44,c44]
 simp only [n44,r44,SB,seval,NC,NH,NG,NT,reduceCtorEq,ND,place,NA,NE]
 refine WC (ns:=[v]) (Sl.row Te (ro:=false) (by rw [NU];rfl)) (by show 1<2 ^ 40;decide) (by simp only [Ni,Np,or_false,forall_eq_or_imp,forall_eq];exact h0) (by simp;omega) fun p c G1 l m=>?_
 refine NI ?_
 have f:G.length<=G1.length:=by have:=l.len;simp at this;omega
 obtain ⟨k,d,b,i,w⟩:=Tm.moreF m (lim':=lim) (bytes:=16) (by simp;omega) Ru (by decide) [nm] (by simp) (by show (2+1)*16<=PQ;decide) (by show 2+1<2 ^ 61;decide) [Vc [.string nm]] (x:=.slice (Sa G1.length) 1 1) (str:=false) (by simp [firstCells,NW,NU,SL]) rfl
 simp only [Nm,Nn,Og,List.map_nil,Nr,Nat.reduceAdd,Nk] at d
 simp only [n44,r44,d,SB,seval,NC,NH,NG,NT,reduceCtorEq,ND,place,NA,NE]
 rw [Nb]
 have h:Chg [] G G1:=l.pre
 have g:Chg [] G k:=h.trans' i fun j o y=>by
  cases p with
  | none=>simp [Zd] at o
  | some a=>
    simp only [Zd,Ng] at o
    have:=(m.block rfl).1
    simp at this
    omega
 rw [Nk] at b
 refine s _ _ k _ g (Tm.le (.inl b) f) (fun t q=>?_) (by show 3<2 ^ 30;decide) fun e G' r=>?_
 ·simp only [Ni,Np,or_false] at q
  rcases q with rfl | rfl | rfl
  ·decide
  ·have:=Vj (n:=v);omega
  ·omega
 refine NI ?_
 simp only [n44,r44,SB,seval,NC,NH,NG,NT,reduceCtorEq,ND,place,NA,NE]
 rw [Nb]
 exact u e G' r
end
structure Stp where
 k:Int
 m:Int
 i:Int
 c:Int
 lo:Int
structure StOk (x:Stp):Prop where
 k:0<=x.k/\x.k<256
 m:0<=x.m/\x.m<256
 i:0<=x.i/\x.i<256
 c:0<=x.c/\x.c<65536
 lo:0<=x.lo/\x.lo<18446744073709551616
def encU (x:Stp):List Value:=[.int .u8 x.k,.int .u8 x.m,.int .u8 x.i,.int .u16 x.c,.int .u64 x.lo]
theorem Nr1 (x:Stp):(encU x).length=5:=rfl
def QL (x:Stp):Sc:=⟨1+x.i % 16,1+x.m % 3,1+x.m % 2,1+x.k % 4,x.lo % 4000,x.lo % 4000+x.c % 9⟩
def nameOf (x:Stp):ByteArray:=⟨#[77,UInt8.ofNat (97+x.c % 26).toNat]⟩
theorem tm {a b:Int} (h:0<=a):Int.tmod a b=a % b:=Int.tmod_eq_emod_of_nonneg h
theorem w64 {a:Int} (h0:0<=a) (h:a<9223372036854775808):IntKind.i64.wrap a=a:=QJ (by omega) (by omega)
theorem w8 {a:Int} (h0:0<=a) (h:a<256):IntKind.u8.wrap a=a:=by
 simp only [IntKind.wrap,IntKind.bits,IntKind.signed]
 simp;omega
section
variable {mp:Bool} {lim:Nat} {H:NB} {Q:Value->NB->Prop}
theorem MX [OA] {x:Stp} (h:StOk x):NQ E mp lim 40 [.agg (encU x).toArray] H Q=Q (.agg #[Vi (QL x).item,Vi (QL x).place,Vi (QL x).scanner,.int .u8 (QL x).kind,Vi (QL x).at',Vi (QL x).seen]) H:=by
 obtain ⟨g,j,hi,hc,b⟩:=h
 refine pc (by decide) e40 rfl rfl ?_
 rw [b40,c40]
 simp only [n40,r40,encU,tm g.1,tm j.1,tm hi.1,tm hc.1,tm b.1,SB,seval,NC,NH,NG,NT,reduceCtorEq,ND,place,NA,NE]
 have a1:IntKind.i64.wrap (x.i % 16)=x.i % 16:=w64 (by omega) (by omega)
 have d:IntKind.i64.wrap (x.m % 3)=x.m % 3:=w64 (by omega) (by omega)
 have a3:IntKind.i64.wrap (x.m % 2)=x.m % 2:=w64 (by omega) (by omega)
 have e:IntKind.i64.wrap (x.lo % 4000)=x.lo % 4000:=w64 (by omega) (by omega)
 have f:IntKind.i64.wrap (x.c % 9)=x.c % 9:=w64 (by omega) (by omega)
 simp only [a1,d,a3,e,f,QL]
 rw [w64 (a:=1+x.i % 16) (by omega) (by omega),w64 (a:=1+x.m % 3) (by omega) (by omega),w64 (a:=1+x.m % 2) (by omega) (by omega),w8 (a:=1+x.k % 4) (by omega) (by omega),w64 (a:=x.lo % 4000+x.c % 9) (by omega) (by omega)]
end
def RZ (x:Stp):List ByteArray:=
 if x.k % 8=0 then [Tj,OD (1+x.m % 6),nameOf x]
 else if x.k % 8=1\/x.k % 8=2 then [Ug,OD (1+x.m % 6),OD x.c]
 else if x.k % 8=3\/x.k % 8=4 then [SY,OD (1+x.i % 16),OD (1+x.m % 6),OD (1+x.lo % 50),OD (x.c / 3)]
 else if x.k % 8=5\/x.k % 8=6 then [TJ,OD (QL x).item,OD (QL x).place,OD (QL x).scanner,OD (QL x).kind,OD (QL x).at',OD (QL x).seen]
 else [Rw,OD (1+x.i % 16),OD (x.c % 500)]
section
variable {lim l0 B:Nat} {jv:Value} {s:SU} {G:NB} {Q:Value->NB->Prop}
theorem Nxw [OA] {x:Stp} {R:Int->NB->Prop} (F:StOk x) (hl:lim<=G.length) (b:DoR lim B G (RZ x) R) (p:∀e G',R e G'->Q (Vi e) G') :
  NQ E false lim 12 [Vp B,.agg (encU x).toArray] G Q:=by
 obtain ⟨g,h,hi,hc,j⟩:=F
 refine runs (by decide) e12 rfl ?_
 rw [b12,c12]
 have a1:IntKind.i64.wrap (x.m % 6)=x.m % 6:=w64 (by omega) (by omega)
 have l:IntKind.i64.wrap (1+x.m % 6)=1+x.m % 6:=w64 (by omega) (by omega)
 have a3:IntKind.i64.wrap (x.i % 16)=x.i % 16:=w64 (by omega) (by omega)
 have n:IntKind.i64.wrap (1+x.i % 16)=1+x.i % 16:=w64 (by omega) (by omega)
 have q:IntKind.i64.wrap x.c=x.c:=w64 (by omega) (by omega)
 have o:∀X,Chg [] G (G++X):=fun X=>Chg.refl.app
 have inr:∀{v:Int},0<=v->v<=100000->XQ v:=fun h1 h2=>⟨by omega,by omega⟩
 by_cases e0:x.k % 8=0
 ·have e:RZ x=[Tj,OD (1+x.m % 6),nameOf x]:=by unfold RZ;rw [Nj e0]
  rw [e] at b
  have C:IntKind.u8.wrap (x.c % 26)=x.c % 26:=w8 (by omega) (by omega)
  have D:IntKind.u8.wrap (97+x.c % 26)=97+x.c % 26:=w8 (by omega) (by omega)
  have A:¬((((⟨#[77]⟩:ByteArray).size+(⟨#[UInt8.ofNat (97+x.c % 26).toNat]⟩:ByteArray).size:Nat):Int) > IntKind.i64.max):=by show ¬(((2:Nat):Int) > _);decide
  have s:(⟨#[77]⟩:ByteArray)++(⟨#[UInt8.ofNat (97+x.c % 26).toNat]⟩:ByteArray)=nameOf x:=by
   unfold nameOf
   rw [Ndl];simp
  simp only [n12,r12,encU,tm g.1,tm h.1,tm hi.1,a1,l,a3,n,e0,tm hc.1,C,D,A,s,SB,seval,NC,NH,NG,NT,reduceCtorEq,ND,place,NA,NE]
  refine Nk3 (R:=R) (by simp;omega) (inr (by omega) (by omega)) (by show 2<=100;decide) (b.new (o _)) fun e G' d=>?_
  refine NI ?_
  simp only [n12,r12,SB,seval,NC,NH,NG,NT,reduceCtorEq,ND,place,NA,NE]
  rw [Nb]
  exact p e G' d
 by_cases e1:x.k % 8=1
 ·have e:RZ x=[Ug,OD (1+x.m % 6),OD x.c]:=by unfold RZ;rw [Nh e0,Nj (.inl e1)]
  rw [e] at b
  simp only [n12,r12,encU,tm g.1,tm h.1,tm hi.1,a1,l,a3,n,e1,q,SB,seval,NC,NH,NG,NT,reduceCtorEq,ND,place,NA,NE]
  refine Ne7 (R:=R) (by simp;omega) (inr (by omega) (by omega)) (inr (by omega) (by omega)) (b.new (o _)) fun e G' d=>?_
  refine NI ?_
  simp only [n12,r12,SB,seval,NC,NH,NG,NT,reduceCtorEq,ND,place,NA,NE]
  rw [Nb]
  exact p e G' d
 by_cases e2:x.k % 8=2
 ·have e:RZ x=[Ug,OD (1+x.m % 6),OD x.c]:=by unfold RZ;rw [Nh e0,Nj (.inr e2)]
  rw [e] at b
  simp only [n12,r12,encU,tm g.1,tm h.1,tm hi.1,a1,l,a3,n,e2,q,SB,seval,NC,NH,NG,NT,reduceCtorEq,ND,place,NA,NE]
  refine Ne7 (R:=R) (by simp;omega) (inr (by omega) (by omega)) (inr (by omega) (by omega)) (b.new (o _)) fun e G' d=>?_
  refine NI ?_
  simp only [n12,r12,SB,seval,NC,NH,NG,NT,reduceCtorEq,ND,place,NA,NE]
  rw [Nb]
  exact p e G' d
 by_cases e3:x.k % 8=3
 ·have e:RZ x=[SY,OD (1+x.i % 16),OD (1+x.m % 6),OD (1+x.lo % 50),OD (x.c / 3)]:=by unfold RZ;rw [Nh e0,Nh (by omega),Nj (.inl e3)]
  rw [e] at b
  have r:IntKind.i64.wrap (x.lo % 50)=x.lo % 50:=w64 (by omega) (by omega)
  have t:IntKind.i64.wrap (1+x.lo % 50)=1+x.lo % 50:=w64 (by omega) (by omega)
  have c3:Int.tdiv x.c 3=x.c / 3:=Q2 hc.1
  have u:IntKind.i64.wrap (x.c / 3)=x.c / 3:=w64 (by omega) (by omega)
  simp only [n12,r12,encU,tm g.1,tm h.1,tm hi.1,tm j.1,a1,l,a3,n,e3,q,r,t,c3,u,SB,seval,NC,NH,NG,NT,reduceCtorEq,ND,place,NA,NE]
  refine ME (R:=R) (by simp;omega) (inr (by omega) (by omega)) (inr (by omega) (by omega)) (inr (by omega) (by omega)) (inr (by omega) (by omega)) (b.new (o _)) fun e G' d=>?_
  refine NI ?_
  simp only [n12,r12,SB,seval,NC,NH,NG,NT,reduceCtorEq,ND,place,NA,NE]
  rw [Nb]
  exact p e G' d
 by_cases w:x.k % 8=4
 ·have e:RZ x=[SY,OD (1+x.i % 16),OD (1+x.m % 6),OD (1+x.lo % 50),OD (x.c / 3)]:=by unfold RZ;rw [Nh e0,Nh (by omega),Nj (.inr w)]
  rw [e] at b
  have r:IntKind.i64.wrap (x.lo % 50)=x.lo % 50:=w64 (by omega) (by omega)
  have t:IntKind.i64.wrap (1+x.lo % 50)=1+x.lo % 50:=w64 (by omega) (by omega)
  have c3:Int.tdiv x.c 3=x.c / 3:=Q2 hc.1
  have u:IntKind.i64.wrap (x.c / 3)=x.c / 3:=w64 (by omega) (by omega)
  simp only [n12,r12,encU,tm g.1,tm h.1,tm hi.1,tm j.1,a1,l,a3,n,w,q,r,t,c3,u,SB,seval,NC,NH,NG,NT,reduceCtorEq,ND,place,NA,NE]
  refine ME (R:=R) (by simp;omega) (inr (by omega) (by omega)) (inr (by omega) (by omega)) (inr (by omega) (by omega)) (inr (by omega) (by omega)) (b.new (o _)) fun e G' d=>?_
  refine NI ?_
  simp only [n12,r12,SB,seval,NC,NH,NG,NT,reduceCtorEq,ND,place,NA,NE]
  rw [Nb]
  exact p e G' d
 by_cases y:x.k % 8=5
 ·have e:RZ x=[TJ,OD (QL x).item,OD (QL x).place,OD (QL x).scanner,OD (QL x).kind,OD (QL x).at',OD (QL x).seen]:=by unfold RZ;rw [Nh e0,Nh (by omega),Nh (by omega),Nj (.inl y)]
  rw [e] at b
  have f:=fun (mp:Bool) (lim:Nat) (H:NB) (Q:Value->NB->Prop)=>MX (mp:=mp) (lim:=lim) (H:=H) (Q:=Q) (x:=x) ⟨g,h,hi,hc,j⟩
  simp only [encU] at f
  simp only [n12,r12,encU,tm g.1,tm h.1,tm hi.1,a1,l,a3,n,y,f,SB,seval,NC,NH,NG,NT,reduceCtorEq,ND,place,NA,NE]
  have a:XQ (QL x).item/\XQ (QL x).place/\XQ (QL x).scanner/\XQ (QL x).kind/\XQ (QL x).at'/\XQ (QL x).seen:=by
   unfold QL
   exact ⟨inr (by simp only;omega) (by simp only;omega),inr (by simp only;omega) (by simp only;omega),inr (by simp only;omega) (by simp only;omega),inr (by simp only;omega) (by simp only;omega),inr (by simp only;omega) (by simp only;omega),inr (by simp only;omega) (by simp only;omega)⟩
  refine Nk0 (x:=QL x) (R:=R) (by simp;omega) a.1 a.2.1 a.2.2.1 a.2.2.2.1 a.2.2.2.2.1 a.2.2.2.2.2 (b.new (o _)) fun e G' d=>?_
  refine NI ?_
  simp only [n12,r12,SB,seval,NC,NH,NG,NT,reduceCtorEq,ND,place,NA,NE]
  rw [Nb]
  exact p e G' d
 by_cases z:x.k % 8=6
 ·have e:RZ x=[TJ,OD (QL x).item,OD (QL x).place,OD (QL x).scanner,OD (QL x).kind,OD (QL x).at',OD (QL x).seen]:=by unfold RZ;rw [Nh e0,Nh (by omega),Nh (by omega),Nj (.inr z)]
  rw [e] at b
  have f:=fun (mp:Bool) (lim:Nat) (H:NB) (Q:Value->NB->Prop)=>MX (mp:=mp) (lim:=lim) (H:=H) (Q:=Q) (x:=x) ⟨g,h,hi,hc,j⟩
  simp only [encU] at f
  simp only [n12,r12,encU,tm g.1,tm h.1,tm hi.1,a1,l,a3,n,z,f,SB,seval,NC,NH,NG,NT,reduceCtorEq,ND,place,NA,NE]
  have a:XQ (QL x).item/\XQ (QL x).place/\XQ (QL x).scanner/\XQ (QL x).kind/\XQ (QL x).at'/\XQ (QL x).seen:=by
   unfold QL
   exact ⟨inr (by simp only;omega) (by simp only;omega),inr (by simp only;omega) (by simp only;omega),inr (by simp only;omega) (by simp only;omega),inr (by simp only;omega) (by simp only;omega),inr (by simp only;omega) (by simp only;omega),inr (by simp only;omega) (by simp only;omega)⟩
  refine Nk0 (x:=QL x) (R:=R) (by simp;omega) a.1 a.2.1 a.2.2.1 a.2.2.2.1 a.2.2.2.2.1 a.2.2.2.2.2 (b.new (o _)) fun e G' d=>?_
  refine NI ?_
  simp only [n12,r12,SB,seval,NC,NH,NG,NT,reduceCtorEq,ND,place,NA,NE]
  rw [Nb]
  exact p e G' d
 ·have e:RZ x=[Rw,OD (1+x.i % 16),OD (x.c % 500)]:=by unfold RZ;rw [Nh e0,Nh (by omega),Nh (by omega),Nh (by omega)]
  rw [e] at b
  have r:IntKind.i64.wrap (x.c % 500)=x.c % 500:=w64 (by omega) (by omega)
  simp only [n12,r12,encU,tm g.1,tm h.1,tm hi.1,tm hc.1,a1,l,a3,n,q,r,e0,e1,e2,e3,w,y,z,SB,seval,NC,NH,NG,NT,reduceCtorEq,ND,place,NA,NE]
  refine ZB (R:=R) (by simp;omega) (inr (by omega) (by omega)) (inr (by omega) (by omega)) (b.new (o _)) fun e G' d=>?_
  refine NI ?_
  simp only [n12,r12,SB,seval,NC,NH,NG,NT,reduceCtorEq,ND,place,NA,NE]
  rw [Nb]
  exact p e G' d
theorem Nwd [OA] {n:Nat} {x:Stp} (f:StOk x) (h:KB l0 B (.pointer none) s G) (d:Wf n s.st) (hn:n<2 ^ 30) (hl:lim<=l0) (a:l0<=G.length)
  (c:∀s' G',Aft l0 B (.pointer none) s G (if RY s.st (RZ x)=0 then doneD s.st (RZ x) else s.st) s' G'->Q (Vi (RY s.st (RZ x))) G') :
  NQ E false lim 12 [Vp B,.agg (encU x).toArray] G Q:=
 Nxw f (by omega) (DoR.of0 h d hn hl a) fun e G' ⟨he,s',b⟩=>he▸c s' G' b
end
instance:Inhabited Stp:=⟨⟨0,0,0,0,0⟩⟩
theorem KB.chg {l0 B:Nat} {jv:Value} {s s':SU} {u:BU} {H G G':NB} (h:KB l0 B jv s G) (hl:H.length<=l0) (hc:Chg [] H G) (c:Aft l0 B jv s G u s' G'):Chg [] H G':=by
 obtain ⟨A,a,b⟩:=c.chg
 exact hc.trans' b fun j d hl=>by
  obtain ⟨r,hr⟩:=a j d
  have:=(h.lt hr).1
  omega
section
variable {mp:Bool} {lim l0 B:Nat} {jv:Value} {s:SU} {G:NB} {Q:Value->NB->Prop}
theorem Ngd {α:Type} {d l0 e c:Nat} {G:NB} {enc:α->List Value} {p:Option Addr} {l:List α} (h:Own l0 G enc e p c l):olds G.length d (.slice p l.length c)=true:=by
 rcases h with ⟨rfl,rfl,rfl⟩ | ⟨R,rfl,rfl,h,_⟩
 ·cases d<;>rfl
 ·have:=NJ h
  cases d<;>simp [olds,this]
theorem Np5 {d:Nat} {m:PM} (h1:Own l0 G WA 4 m.pe m.ce m.m.ents) (h2:Own l0 G YT 1 m.pi m.ci m.m.its):olds G.length (d+1) (Tn m)=true:=by
 simp only [Tn,olds,List.all_cons,List.all_nil,Ngd h1,Ngd h2,Bool.and_true]
 cases d<;>rfl
theorem find_ok [OA] {id:Int} {m:PM} (h:KB l0 B jv s G) (g:NR id s.ms=some m):NQ E mp lim 49 [Vp B,Vi id] G Q=Q (.tuple #[Tn m,Vi 0]) G:=by
 refine po (by decide) e49 rfl ?_ ?_
 ·have:=Np5 (d:=2) (h.oe id m g) (h.oi id m g)
  simp only [olds,List.all_cons,List.all_nil,this,Bool.and_true]
  rfl
 rw [b49,c49]
 have c:=fun X=>(QP.refl.app (X:=X)).cells h.b
 have a:=fun X (mp:Bool) (lim:Nat) (Q:Value->NB->Prop)=>VL (mp:=mp) (lim:=lim) (Q:=Q) (c X)
 have i:∀X,NF (G++X) s.M=.map (PV kI Tn s.ms):=fun X=>by rw [NZ (h.lt (r:=.m) rfl).2];exact h.m
 have f:RU (.int .i64) (Vi id)=true:=V4
 obtain ⟨j,k⟩:=V6 g 0
 have e:findKey (Vi id) (PV kI Tn s.ms) 0=some (some (j,Tn m)):=by rw [lkM,k];rfl
 simp only [n49,r49,a,c,i,f,e,NN,Tn,SB,seval,NC,NH,NG,NT,reduceCtorEq,ND,place,NA,NE]
theorem Nex [OA] {id:Int} (h:KB l0 B jv s G) (g:NR id s.ms=none):NQ E mp lim 49 [Vp B,Vi id] G Q=Q (.tuple #[.agg #[.string ⟨#[]⟩,Vz,Vz],Vi 6]) G:=by
 refine po (by decide) e49 rfl rfl ?_
 rw [b49,c49]
 have c:=fun X=>(QP.refl.app (X:=X)).cells h.b
 have a:=fun X (mp:Bool) (lim:Nat) (Q:Value->NB->Prop)=>VL (mp:=mp) (lim:=lim) (Q:=Q) (c X)
 have f:∀X,NF (G++X) s.M=.map (PV kI Tn s.ms):=fun X=>by rw [NZ (h.lt (r:=.m) rfl).2];exact h.m
 have e:RU (.int .i64) (Vi id)=true:=V4
 have d:findKey (Vi id) (PV kI Tn s.ms) 0=some none:=by rw [lkM,Vo g];rfl
 simp only [n49,r49,a,c,f,e,d,NN,SB,seval,NC,NH,NG,NT,reduceCtorEq,ND,place,NA,NE]
def Nbn (u:BU) (id:Int):Int×Int:=match NR id u.ms with
 | some m=>(QI m.ents,0)
 | none=>(0,6)
def YC (u:BU) (id:Int):Int×Int:=match NR id u.xs with
 | some x=>(x.point,0)
 | none=>(0,6)
theorem Nb7 [OA] {id:Int} (h:KB l0 B jv s G) (hn:∀m,NR id s.ms=some m->m.m.ents.length<2 ^ 40):NQ E mp lim 14 [Vp B,Vi id] G Q=Q (.tuple #[Vi (Nbn s.st id).1,Vi (Nbn s.st id).2]) G:=by
 refine pc (by decide) e14 rfl rfl ?_
 rw [b14,c14]
 unfold Nbn
 rw [RX]
 have d:=fun X=>(h.new (Chg.refl.app (X:=X)))
 cases hg:NR id s.ms with
 | none=>
   have b:=fun X (mp:Bool) (lim:Nat) (Q:Value->NB->Prop)=>Nex (mp:=mp) (lim:=lim) (Q:=Q) (d X) hg
   have e:=fun X (mp:Bool) (lim:Nat) (Q:Value->NB->Prop)=>Z9 (mp:=mp) (lim:=lim) (Q:=Q) (c:=0) (nm:=.string ⟨#[]⟩) (its:=Vz) (p:=none) (l:=[]) (H:=G++X) rfl (by decide)
   simp only [Nn] at e
   simp only [n14,r14,b,e,SB,seval,NC,NH,NG,NT,reduceCtorEq,ND,place,NA,NE]
   rfl
 | some m=>
   have b:=fun X (mp:Bool) (lim:Nat) (Q:Value->NB->Prop)=>find_ok (mp:=mp) (lim:=lim) (Q:=Q) (d X) hg
   have a:=fun X (mp:Bool) (lim:Nat) (Q:Value->NB->Prop)=>Z9 (mp:=mp) (lim:=lim) (Q:=Q) (c:=m.ce) (nm:=.string m.m.name) (its:=.slice m.pi m.m.its.length m.ci) (((h.oe id m hg).sl Tf).app X) (hn m hg)
   simp only [n14,r14,b,Tn,a,SB,seval,NC,NH,NG,NT,reduceCtorEq,ND,place,NA,NE]
theorem Nhp [OA] {id:Int} (h:KB l0 B jv s G):NQ E mp lim 16 [Vp B,Vi id] G Q=Q (.tuple #[Vi (YC s.st id).1,Vi (YC s.st id).2]) G:=by
 refine pc (by decide) e16 rfl rfl ?_
 rw [b16,c16]
 have c:=fun X=>(QP.refl.app (X:=X)).cells h.b
 have a:=fun X (mp:Bool) (lim:Nat) (Q:Value->NB->Prop)=>VL (mp:=mp) (lim:=lim) (Q:=Q) (c X)
 have f:∀X,NF (G++X) s.X=.map (PV kI UM s.xs):=fun X=>by rw [NZ (h.lt (r:=.x) rfl).2];exact h.x
 have e:RU (.int .i64) (Vi id)=true:=V4
 unfold YC
 have g:s.st.xs=s.xs:=rfl
 rw [g]
 cases hg:NR id s.xs with
 | none=>
   have d:findKey (Vi id) (PV kI UM s.xs) 0=some none:=by rw [lkX,Vo hg];rfl
   simp only [n16,r16,a,c,f,e,d,NN,SB,seval,NC,NH,NG,NT,reduceCtorEq,ND,place,NA,NE]
 | some x=>
   obtain ⟨j,i⟩:=V6 hg 0
   have d:findKey (Vi id) (PV kI UM s.xs) 0=some (some (j,UM x)):=by rw [lkX,i];rfl
   simp only [n16,r16,a,c,f,e,d,NN,UM,SB,seval,NC,NH,NG,NT,reduceCtorEq,ND,place,NA,NE]
def SU0 (n:Nat):SU:=⟨[],none,0,[],n,[],n+1,[],none,0⟩
theorem Nsl [OA] (hl:lim<=G.length) (d:∀G',KB G.length (G.length+2) (.pointer none) (SU0 G.length) G'->Chg [] G G'->Q (Vp (G.length+2)) G'):NQ E false lim 11 [] G Q:=by
 refine runs (by decide) e11 rfl ?_
 rw [b11,c11]
 simp only [n11,r11,SB,seval,NC,NH,NG,NT,reduceCtorEq,ND,place,NA,NE]
 refine d _ ⟨by rw [NP];rfl,by show NF _ G.length=_;rw [NU];rfl,by show NF _ (G.length+1)=_;rw [NP];rfl,Own.nil,Own.nil,fun id m a=>(by cases a),fun id m a=>(by cases a),fun c hc=>(by cases hc),by omega,Nd _,by show G.length<=G.length+1;omega,fun r r' j hr b=>?_,fun c hc=>(by cases hc)⟩ Chg.refl.app
 cases r<;>cases r'<;>simp only [SU.ptr,SU0,bk,NR,O7,Option.bind_none,Option.some.injEq,reduceCtorEq] at hr b<;>first | rfl | omega
theorem Wf0 {n k:Nat}:Wf k (SU0 n).st:=⟨by simp [SU.st,SU0],(fun id m a=>by cases a),(fun id m a=>by cases a),by simp [SU.st,SU0]⟩
end
section
variable {lim l0 B:Nat} {jv:Value} {s:SU} {G:NB} {Q:Value->NB->Prop}
theorem Ndj [OA] {p:Option Addr} {c:Nat} {l:List Ent} (g:Own l0 G WA 4 p c l) (hb:l.length<2 ^ 40)
  (f:∀q c' G',Chg [] G G'->Sl G' WA 4 q l->(∀a,q=some a->G.length<=a.block)->Q (.slice q l.length c') G'):NQ E false lim 50 [.slice p l.length c] G Q:=by
 refine runs (by decide) e50 rfl ?_
 rw [b50,c50]
 rcases g with ⟨rfl,rfl,rfl⟩ | ⟨R,rfl,rfl,i,_⟩
 ·simp only [n50,r50,VR,Nn,SB,seval,NC,NH,NG,NT,reduceCtorEq,ND,place,NA,NE]
  exact f none 0 _ Chg.refl.app rfl (fun a e=>by cases e)
 ·have j:Sl G WA 4 (Sa R) l:=Sl.row Tf i
  by_cases hn:l=[]
  ·subst hn
   have d:∀X,OI lim none 4 32 false (.slice (Sa G.length) 0 0) (.slice (Sa R) 0 (loose 4)) X=some (.slice (Sa G.length) 0 0,X):=fun X=>Mm (by decide)
   simp only [n50,r50,VR,Nn,d,SB,seval,NC,NH,NG,NT,reduceCtorEq,ND,place,NA,NE]
   exact f (Sa G.length) 0 _ Chg.refl.app ⟨rfl,fun h=>absurd rfl h⟩ (fun a e=>by cases e;exact Nd _)
  ·have d:=V9 (lim:=lim) (b:=G.length) (bytes:=32) (c:=loose 4) (H:=G++[Vc []]) (by rw [NU];rfl) (j.app _) (by decide) (by unfold PQ;omega) (by omega) hn
   simp only [Nk,Nm,Nn,Nr,Nl,N1,N4] at d
   simp only [n50,r50,VR,d,SB,seval,NC,NH,NG,NT,reduceCtorEq,ND,place,NA,NE]
   exact f (Sa (G.length+1)) (loose 4) _ Chg.refl.app (Sl.row (ro:=false) Tf (by rw [NP];rfl)) (fun a e=>by cases e;show G.length<=G.length+1;omega)
theorem Ndk [OA] {p:Option Addr} {c:Nat} {l:List Int} (g:Own l0 G YT 1 p c l) (hb:l.length<2 ^ 40)
  (f:∀q c' G',Chg [] G G'->Sl G' YT 1 q l->(∀a,q=some a->G.length<=a.block)->Q (.slice q l.length c') G'):NQ E false lim 52 [.slice p l.length c] G Q:=by
 refine runs (by decide) e52 rfl ?_
 rw [b52,c52]
 rcases g with ⟨rfl,rfl,rfl⟩ | ⟨R,rfl,rfl,i,_⟩
 ·simp only [n52,r52,VR,Nn,SB,seval,NC,NH,NG,NT,reduceCtorEq,ND,place,NA,NE]
  exact f none 0 _ Chg.refl.app rfl (fun a e=>by cases e)
 ·have j:Sl G YT 1 (Sa R) l:=Sl.row Te i
  by_cases hn:l=[]
  ·subst hn
   have d:∀X,OI lim none 1 8 false (.slice (Sa G.length) 0 0) (.slice (Sa R) 0 (loose 1)) X=some (.slice (Sa G.length) 0 0,X):=fun X=>Mm (by decide)
   simp only [n52,r52,VR,Nn,d,SB,seval,NC,NH,NG,NT,reduceCtorEq,ND,place,NA,NE]
   exact f (Sa G.length) 0 _ Chg.refl.app ⟨rfl,fun h=>absurd rfl h⟩ (fun a e=>by cases e;exact Nd _)
  ·have d:=V9 (lim:=lim) (b:=G.length) (bytes:=8) (c:=loose 1) (H:=G++[Vc []]) (by rw [NU];rfl) (j.app _) (by decide) (by unfold PQ;omega) (by omega) hn
   simp only [Nk,Nm,Nn,Nr,Nl,N1,N4] at d
   simp only [n52,r52,VR,d,SB,seval,NC,NH,NG,NT,reduceCtorEq,ND,place,NA,NE]
   exact f (Sa (G.length+1)) (loose 1) _ Chg.refl.app (Sl.row (ro:=false) Te (by rw [NP];rfl)) (fun a e=>by cases e;show G.length<=G.length+1;omega)
theorem Nds [OA] {id:Int} (h:KB l0 B jv s G) (d:lim<=G.length) (hn:∀m,NR id s.ms=some m->m.m.ents.length<2 ^ 40)
  (b:∀q c' G',Chg [] G G'->Sl G' WA 4 q (((NR id s.st.ms).getD noM).ents)->(∀a,q=some a->G.length<=a.block)->Q (.tuple #[.slice q (((NR id s.st.ms).getD noM).ents).length c',Vi (if (NR id s.st.ms).isSome then 0 else 6)]) G') :
  NQ E false lim 13 [Vp B,Vi id] G Q:=by
 refine runs (by decide) e13 rfl ?_
 rw [b13,c13]
 rw [RX] at b
 have j:=fun X=>(h.new (Chg.refl.app (X:=X)))
 cases hg:NR id s.ms with
 | none=>
   rw [hg] at b
   have g:=fun X (mp:Bool) (lim:Nat) (Q:Value->NB->Prop)=>Nex (mp:=mp) (lim:=lim) (Q:=Q) (j X) hg
   simp only [n13,r13,g,d,SB,seval,NC,NH,NG,NT,reduceCtorEq,ND,place,NA,NE]
   refine Ndj (p:=none) (c:=0) (l:=[]) (l0:=0) Own.nil (by decide) fun q c' G' f hS i=>?_
   refine NI ?_
   simp only [n13,r13,Nn,SB,seval,NC,NH,NG,NT,reduceCtorEq,ND,place,NA,NE]
   rw [Nb]
   exact b q c' G' f.pre hS (fun a e=>by have:=i a e;simp at this;omega)
 | some m=>
   rw [hg] at b
   have g:=fun X (mp:Bool) (lim:Nat) (Q:Value->NB->Prop)=>find_ok (mp:=mp) (lim:=lim) (Q:=Q) (j X) hg
   simp only [n13,r13,g,d,Tn,SB,seval,NC,NH,NG,NT,reduceCtorEq,ND,place,NA,NE]
   refine Ndj (l:=m.m.ents) ((h.oe id m hg).app _) (hn m hg) fun q c' G' f hS i=>?_
   refine NI ?_
   simp only [n13,r13,SB,seval,NC,NH,NG,NT,reduceCtorEq,ND,place,NA,NE]
   rw [Nb]
   exact b q c' G' f.pre hS (fun a e=>by have:=i a e;simp at this;omega)
theorem Nsm [OA] {id:Int} (h:KB l0 B jv s G) (d:lim<=G.length) (hn:∀m,NR id s.ms=some m->m.m.its.length<2 ^ 40)
  (b:∀q c' G',Chg [] G G'->Sl G' YT 1 q (((NR id s.st.ms).getD noM).its)->(∀a,q=some a->G.length<=a.block)->Q (.tuple #[.slice q (((NR id s.st.ms).getD noM).its).length c',Vi (if (NR id s.st.ms).isSome then 0 else 6)]) G') :
  NQ E false lim 15 [Vp B,Vi id] G Q:=by
 refine runs (by decide) e15 rfl ?_
 rw [b15,c15]
 rw [RX] at b
 have j:=fun X=>(h.new (Chg.refl.app (X:=X)))
 cases hg:NR id s.ms with
 | none=>
   rw [hg] at b
   have g:=fun X (mp:Bool) (lim:Nat) (Q:Value->NB->Prop)=>Nex (mp:=mp) (lim:=lim) (Q:=Q) (j X) hg
   simp only [n15,r15,g,d,SB,seval,NC,NH,NG,NT,reduceCtorEq,ND,place,NA,NE]
   refine Ndk (p:=none) (c:=0) (l:=[]) (l0:=0) Own.nil (by decide) fun q c' G' f hS i=>?_
   refine NI ?_
   simp only [n15,r15,Nn,SB,seval,NC,NH,NG,NT,reduceCtorEq,ND,place,NA,NE]
   rw [Nb]
   exact b q c' G' f.pre hS (fun a e=>by have:=i a e;simp at this;omega)
 | some m=>
   rw [hg] at b
   have g:=fun X (mp:Bool) (lim:Nat) (Q:Value->NB->Prop)=>find_ok (mp:=mp) (lim:=lim) (Q:=Q) (j X) hg
   simp only [n15,r15,g,d,Tn,SB,seval,NC,NH,NG,NT,reduceCtorEq,ND,place,NA,NE]
   refine Ndk (l:=m.m.its) ((h.oi id m hg).app _) (hn m hg) fun q c' G' f hS i=>?_
   refine NI ?_
   simp only [n15,r15,SB,seval,NC,NH,NG,NT,reduceCtorEq,ND,place,NA,NE]
   rw [Nb]
   exact b q c' G' f.pre hS (fun a e=>by have:=i a e;simp at this;omega)
end
def YX (e:Ent):Int:=if e.kind=2 then -e.cents else e.cents
def Run (b:Int):List Ent->Prop
 | []=>True
 | e::l=>(e.kind=1\/e.kind=2\/e.kind=3)/\1<=e.cents/\e.bal=b+YX e/\(0<=e.bal/\e.bal<=1000000000000)/\Run e.bal l
theorem Run.snoc {e:Ent}:∀{l:List Ent} {b:Int},Run b l->(e.kind=1\/e.kind=2\/e.kind=3)->1<=e.cents->e.bal=(l.getLast?.map (·.bal)).getD b+YX e->(0<=e.bal/\e.bal<=1000000000000)->Run b (l++[e])
 | [],b,_,h1,h2,h3,h4=>⟨h1,h2,h3,h4,trivial⟩
 | x::l,b,h,h1,h2,h3,h4=>by
   obtain ⟨k1,k2,k3,a,c⟩:=h
   refine ⟨k1,k2,k3,a,c.snoc h1 h2 ?_ h4⟩
   rw [h3]
   cases l with
   | nil=>rfl
   | cons y l=>rw [List.getLast?_cons_cons]
               cases e:(y::l).getLast? with
               | none=>simp at e
               | some z=>rfl
def Sb (l:List Ent):List Int:=(l.filter fun e=>decide (e.kind=2)).map (·.item)
theorem Yc {l:List Ent} {e:Ent}:Sb (l++[e])=Sb l++if e.kind=2 then [e.item] else []:=by
 unfold Sb
 rw [List.filter_append,Po]
 by_cases h:e.kind=2<;>simp [h]
structure SI (u:BU):Prop where
 run:∀id m,NR id u.ms=some m->Run 0 m.ents
 its:∀id m,NR id u.ms=some m->m.its=Sb m.ents
 nd:∀id m,NR id u.ms=some m->m.its.Nodup
 own:∀id m n,NR id u.ms=some m->n∈m.its->∃x,NR n u.xs=some x/\x.from'=id
 all:∀n x,NR n u.xs=some x->∃m,NR x.from' u.ms=some m/\n∈m.its
theorem SI.enter {u:BU} {id kind f c:Int} {m:ML} (h:SI u) (b:NR id u.ms=some m) (j:kind=1\/kind=3) (hc:1<=c) (hb:0<=QI m.ents+c/\QI m.ents+c<=1000000000000):SI (U0 u id kind f c c):=by
 have d:¬kind=2:=by omega
 have e:∀{i x},NR i (QM id (Z5 m kind f c c) u.ms)=some x->(i=id/\x=Z5 m kind f c c)\/(i≠id/\NR i u.ms=some x):=fun {i x} a=>by
  rw [PT] at a
  by_cases q:i=id
  ·rw [Nj q] at a;cases a;exact .inl ⟨q,rfl⟩
  ·rw [Nh q] at a;exact .inr ⟨q,a⟩
 unfold U0
 simp only [b,Oc]
 refine ⟨fun i x a=>?_,fun i x a=>?_,fun i x a=>?_,fun i x n a hn=>?_,fun n x a=>?_⟩
 ·rcases e a with ⟨_,rfl⟩ | ⟨_,q⟩
  ·refine (h.run _ _ b).snoc (by rcases j with q | q;exact .inl q;exact .inr (.inr q)) hc ?_ hb
   show QI m.ents+c=QI m.ents+YX _
   unfold YX;simp only;rw [Nh d]
  ·exact h.run i x q
 ·rcases e a with ⟨_,rfl⟩ | ⟨_,q⟩
  ·show m.its=Sb (m.ents++_)
   rw [Yc,Nh d,Nb];exact h.its _ _ b
  ·exact h.its i x q
 ·rcases e a with ⟨_,rfl⟩ | ⟨_,q⟩
  ·show m.its.Nodup;exact h.nd _ m b
  ·exact h.nd i x q
 ·rcases e a with ⟨rfl,rfl⟩ | ⟨_,q⟩
  ·exact h.own _ _ n b hn
  ·exact h.own i x n q hn
 ·obtain ⟨y,g,hn⟩:=h.all n x a
  by_cases q:x.from'=id
  ·rw [q,b] at g
   cases g
   exact ⟨Z5 m kind f c c,by show NR _ (QM _ _ _)=_;rw [PT,Nj q],hn⟩
  ·exact ⟨y,by show NR _ (QM _ _ _)=_;rw [PT,Nh q];exact g,hn⟩
theorem SI.step {n:Nat} {u:BU} {c:Cl} (h:SI u) (r:Wf n u) (he:Rm u c=0):SI (TM u c):=by
 cases c with
 | join id nm=>
   have o:=Nde he
   have l:∀{i x},NR i (QM id ⟨nm,[],[]⟩ u.ms)=some x->(i=id/\x=⟨nm,[],[]⟩)\/(i≠id/\NR i u.ms=some x):=fun {i x} d=>by
    rw [PT] at d
    by_cases q:i=id
    ·rw [Nj q] at d;cases d;exact .inl ⟨q,rfl⟩
    ·rw [Nh q] at d;exact .inr ⟨q,d⟩
   refine ⟨fun i x d=>?_,fun i x d=>?_,fun i x d=>?_,fun i x n d hn=>?_,fun n x d=>?_⟩
   ·rcases l d with ⟨_,rfl⟩ | ⟨_,q⟩
    ·trivial
    ·exact h.run i x q
   ·rcases l d with ⟨_,rfl⟩ | ⟨_,q⟩
    ·rfl
    ·exact h.its i x q
   ·rcases l d with ⟨_,rfl⟩ | ⟨_,q⟩
    ·exact List.nodup_nil
    ·exact h.nd i x q
   ·rcases l d with ⟨_,rfl⟩ | ⟨_,q⟩
    ·cases hn
    ·exact h.own i x n q hn
   ·obtain ⟨y,g,hn⟩:=h.all n x d
    have q:x.from'≠id:=fun e=>by rw [e,o] at g;cases g
    exact ⟨y,by show NR _ (QM _ _ _)=_;rw [PT,Nh q];exact g,hn⟩
 | pay id c=>
   obtain ⟨hc,m,j⟩:=Ng9 he
   have h0:=(r.ents id m j).2.2.1
   have h1:=((r.step he).ents id (Z5 m 1 0 c c) (by show NR _ (QM _ _ _)=_;rw [PT,Nj rfl,j];rfl)).2.2.2
   have h1:QI (m.ents++_)<=1000000000000:=h1
   rw [TB] at h1
   exact h.enter j (.inl rfl) hc.1 ⟨by omega,h1⟩
 | scan x=>exact ⟨h.run,h.its,h.nd,h.own,h.all⟩
 | refund id c=>
   have hc:=ZZ he
   cases d:NR id u.xs with
   | none=>
     unfold Rm at he
     simp only [d] at he
     split at he<;>cases he
   | some x=>
     obtain ⟨m,j⟩:=r.frm id x d
     have h0:=(r.ents _ m j).2.2.1
     have h1:=((r.step he).ents x.from' (Z5 m 3 id c c) (by unfold TM U0;simp only [d,Oc,j];rw [PT,Nj rfl])).2.2.2
     have h1:QI (m.ents++_)<=1000000000000:=h1
     rw [TB] at h1
     unfold TM
     simp only [d,Oc]
     have h2:SI { u with xs:=QM id { x with refd:=true } u.xs }:=by
      refine ⟨h.run,h.its,h.nd,fun i y n g hn=>?_,fun n y g=>?_⟩
      ·obtain ⟨z,w,e⟩:=h.own i y n g hn
       by_cases q:n=id
       ·subst q;rw [d] at w;cases w
        exact ⟨{ x with refd:=true },by show NR _ (QM _ _ _)=_;rw [PT,Nj rfl],e⟩
       ·exact ⟨z,by show NR _ (QM _ _ _)=_;rw [PT,Nh q];exact w,e⟩
      ·have g:NR n (QM id { x with refd:=true } u.xs)=some y:=g
       rw [PT] at g
       by_cases q:n=id
       ·rw [Nj q] at g;cases g;subst q;exact h.all _ x d
       ·rw [Nh q] at g;exact h.all n y g
     exact h2.enter j (.inr rfl) hc.1 ⟨by omega,h1⟩
 | post id f p c=>
   obtain ⟨hc,o⟩:=Ndd he
   cases j:NR f u.ms with
   | none=>
     unfold Rm at he
     simp only [j] at he
     split at he
     ·cases he
     split at he<;>cases he
   | some m=>
     have hb:0<=QI m.ents+-c:=by
      unfold Rm at he
      simp only [j] at he
      split at he
      ·cases he
      split at he
      ·cases he
      split at he
      ·cases he
      ·omega
     have D:=(r.ents _ m j).2.2.2
     have t:0<=QI m.ents+-c/\QI m.ents+-c<=1000000000000:=⟨hb,by omega⟩
     have s:id∉m.its:=fun q=>by
      obtain ⟨x,d,_⟩:=h.own f m id j q
      rw [o] at d;cases d
     unfold TM U0
     simp only [j,Oc,PT,if_true]
     have l:∀{i x},NR i (QM f (Z5 { m with its:=m.its++[id] } 2 id c (-c)) (QM f { m with its:=m.its++[id] } u.ms))=some x->(i=f/\x=Z5 { m with its:=m.its++[id] } 2 id c (-c))\/(i≠f/\NR i u.ms=some x):=fun {i x} d=>by
      rw [PT] at d
      by_cases q:i=f
      ·rw [Nj q] at d;cases d;exact .inl ⟨q,rfl⟩
      ·rw [Nh q,PT,Nh q] at d;exact .inr ⟨q,d⟩
     refine ⟨fun i x d=>?_,fun i x d=>?_,fun i x d=>?_,fun i x n d hn=>?_,fun n x d=>?_⟩
     ·rcases l d with ⟨_,rfl⟩ | ⟨_,q⟩
      ·refine (h.run _ m j).snoc (.inr (.inl rfl)) hc.1 ?_ t
       show QI m.ents+-c=QI m.ents+YX _
       unfold YX;simp only [if_true]
      ·exact h.run i x q
     ·rcases l d with ⟨_,rfl⟩ | ⟨_,q⟩
      ·show m.its++[id]=Sb (m.ents++_)
       rw [Yc,Nj rfl,h.its _ m j]
      ·exact h.its i x q
     ·rcases l d with ⟨_,rfl⟩ | ⟨_,q⟩
      ·show (m.its++[id]).Nodup
       rw [P1]
       exact ⟨h.nd _ m j,by simp,fun a C b hb=>by rw [Ng.1 hb];intro e;exact s (e▸C)⟩
      ·exact h.nd i x q
     ·rcases l d with ⟨rfl,rfl⟩ | ⟨E,q⟩
      ·have hn:n∈m.its++[id]:=hn
       by_cases e:n=id
       ·exact ⟨⟨i,p,false⟩,by show NR _ (QM _ _ _)=_;rw [PT,Nj e],rfl⟩
       ·have v:n∈m.its:=by
         rcases Oa.1 hn with k | k
         ·exact k
         ·exact absurd (Ng.1 k) e
        obtain ⟨x,d,A⟩:=h.own i m n j v
        exact ⟨x,by show NR _ (QM _ _ _)=_;rw [PT,Nh e];exact d,A⟩
      ·obtain ⟨y,g,B⟩:=h.own i x n q hn
       have e:n≠id:=fun e=>by rw [e,o] at g;cases g
       exact ⟨y,by show NR _ (QM _ _ _)=_;rw [PT,Nh e];exact g,B⟩
     ·have d:NR n (QM id ⟨f,p,false⟩ u.xs)=some x:=d
      rw [PT] at d
      by_cases e:n=id
      ·rw [Nj e] at d
       cases d
       exact ⟨_,by show NR f (QM _ _ _)=_;rw [PT,Nj rfl],by show n∈m.its++[id];simp [e]⟩
      ·rw [Nh e] at d
       obtain ⟨y,g,hn⟩:=h.all n x d
       by_cases q:x.from'=f
       ·rw [q,j] at g
        cases g
        exact ⟨_,by show NR _ (QM _ _ _)=_;rw [q,PT,Nj rfl],by show n∈m.its++[id];simp [hn]⟩
       ·exact ⟨y,by show NR _ (QM _ _ _)=_;rw [PT,Nh q,PT,Nh q];exact g,hn⟩
theorem Nql:∀k:Fin 17,Rs (OD (k.val:Int))=some (k.val:Int):=by decide +kernel
theorem Nam {k v:Int} (h0:0<=k) (h1:k<=16) (h:Rs (OD k)=some v):v=k:=by
 obtain ⟨n,rfl⟩:=Int.eq_ofNat_of_zero_le h0
 have:=Nql ⟨n,by omega⟩
 rw [h] at this
 exact Option.some.inj this
def Nbv (u:BU):Prop:=∀n x,NR n u.xs=some x->1<=n/\n<=16/\1<=x.from'/\x.from'<=6
theorem Nbv.put {u:BU} {n:Int} {x:It} {ms:List (Int×ML)} (h:Nbv u) (hn:1<=n/\n<=16/\1<=x.from'/\x.from'<=6):Nbv { u with xs:=QM n x u.xs,ms:=ms }:=fun k y a=>by
 have a:NR k (QM n x u.xs)=some y:=a
 rw [PT] at a
 by_cases q:k=n
 ·rw [Nj q] at a;cases a;rw [q];exact hn
 ·rw [Nh q] at a;exact h k y a
theorem Nbv.done {u:BU} {a:Cl} (h:Nbv u) (he:Rm u a=0) (hp:∀id f p c,a=.post id f p c->1<=id/\id<=16/\1<=f/\f<=6):Nbv (TM u a):=by
 cases a with
 | join id nm=>exact h
 | pay id c=>exact h
 | post id f p c=>exact fun k y b=>(h.put (ms:=u.ms) (x:=⟨f,p,false⟩) (hp id f p c rfl)) k y b
 | scan x=>exact h
 | refund id c=>
   cases hx:NR id u.xs with
   | none=>
     unfold Rm at he
     simp only [hx] at he
     split at he<;>cases he
   | some x=>
     unfold TM
     simp only [hx,Oc]
     exact fun k y b=>(h.put (ms:=u.ms) (x:={ x with refd:=true }) (h id x hx)) k y b
theorem Nhe {x:Stp} (i:StOk x) {id f p c:Int} (h:QV (RZ x)=some (.post id f p c)):1<=id/\id<=16/\1<=f/\f<=6:=by
 obtain ⟨l,n,hi,hc,g⟩:=i
 unfold RZ at h
 split at h
 ·unfold QV at h
  simp only [if_true] at h
  cases q:Rs (OD (1+x.m % 6))<;>rw [q] at h<;>cases h
 split at h
 ·unfold QV at h
  simp only [PR,if_true,if_false] at h
  split at h<;>cases h
 split at h
 ·unfold QV at h
  simp only [if_true] at h
  split at h
  ·rename_i a b d e j k o r
   cases h
   have e1:=Nam (by omega) (by omega) j
   have e2:=Nam (by omega) (by omega) k
   omega
  ·cases h
 split at h
 ·unfold QV at h
  simp only [if_true] at h
  split at h<;>cases h
 ·unfold QV at h
  simp only [OE,OT,if_true,if_false] at h
  split at h<;>cases h
structure Sums (n:Nat) (u:BU):Prop where
 wf:Wf n u
 si:SI u
 sm:Nbv u
theorem Sums.step {n:Nat} {u:BU} {x:Stp} (h:Sums n u) (b:StOk x):Sums (n+1) (if RY u (RZ x)=0 then doneD u (RZ x) else u):=by
 have a:Sums (n+1) u:=⟨⟨by have:=h.wf.calls;omega,(show Nb3 n u.ms from h.wf.ents).le (by omega),h.wf.frm,h.wf.sc⟩,h.si,h.sm⟩
 split
 ·rename_i he
  unfold RY at he
  unfold doneD
  cases hr:QV (RZ x) with
  | none=>exact a
  | some d=>
    rw [hr] at he
    simp only at he⊢
    have w:=h.wf.step he
    refine ⟨⟨?_,w.ents,w.frm,w.sc⟩, ?_, ?_⟩
    ·have:=h.wf.calls;simp;omega
    ·have:=h.si.step h.wf he;exact ⟨this.run,this.its,this.nd,this.own,this.all⟩
    ·exact h.sm.done he fun id f p c e=>Nhe b (by rw [hr,e])
 ·exact a
theorem Nhz [OA] {lim c:Nat} {p:Option Addr} {L:List Stp} {K:List AItem} {fr:Nat->Value} {H G:NB} {s:SU} {Q:Value->NB->Prop} (hl:lim<=H.length) (A:Sl H encU 5 p L) (q:∀x∈L,StOk x) (hn:L.length<2 ^ 63)
  (h:KB H.length (H.length+2) (.pointer none) s G) (hS:Sums 0 s.st) (e:Chg [] H G) (t:fr 0=.slice p L.length c) (f3:fr 3=Vp (H.length+2)) (u:fr 4=Vi 0)
  (y:∀s' fr' G',KB H.length (H.length+2) (.pointer none) s' G'->Sums 60 s'.st->Chg [] H G'->fr' 3=Vp (H.length+2)->QW E a3 lim K fr' G' Q) :
  QW E a3 lim (.code (.loop Nvu)::.inBlock 0::K) fr G Q:=by
 refine QD (fun s:Nat×SU=>60-s.1) (fun s fr G=>s.1<=60/\s.1<=L.length/\fr 0=.slice p L.length c/\fr 3=Vp (H.length+2)/\fr 4=Vi s.1/\KB H.length (H.length+2) (.pointer none) s.2 G/\Sums s.1 s.2.st/\Chg [] H G) (0,s) ⟨by omega,by omega,t,f3,u,h,hS,e⟩ ?_
 rintro ⟨i,s⟩ fr G ⟨hi,m,h0,d,f,j,hS,e⟩ w
 simp only at hi m f j hS
 have out:∀fr' G',fr' 3=Vp (H.length+2)->Chg [] G G'->QW E a3 lim K fr' G' Q:=fun fr' G' z hc=>by
  refine y s fr' G' (j.new hc) ⟨⟨by have:=hS.wf.calls;omega,(show Nb3 i s.st.ms from hS.wf.ents).le (by omega),hS.wf.frm,hS.wf.sc⟩,hS.si,hS.sm⟩ (e.trans hc) z
 rw [QG Nvu.eq_1]
 refine NI ?_
 by_cases a:i<L.length
 ·by_cases v:i<60
  ·have b:(i:Int)<60:=by omega
   have r:=e.sl A fun _ _ _ h=>by cases h
   have n:=fun X=>(r.app X).loadCells Nr1 a
   have g:=fun c (kk:IntKind) (H1:NB)=>r.idx (c:=c) (k:=kk) (H1:=H1) a
   have o:IntKind.i64.wrap ((i:Int)+1)=((i+1:Nat):Int):=QU (by omega)
   simp only [n3,r3,h0,d,f,a,b,g,n,SB,seval,NC,NH,NG,NT,reduceCtorEq,ND,place,NA,NE]
   rw [Nb]
   refine Nwd (q _ (Vl a)) j hS.wf (by omega) hl e.len fun s' G' l=>?_
   refine NI ?_
   simp only [n3,r3,h0,d,f,o,SB,seval,NC,NH,NG,NT,reduceCtorEq,ND,place,NA,NE]
   rw [Nb]
   refine w (i+1,s') _ _ ⟨by show i+1<=60;omega,by show i+1<=_;omega,h0,d,rfl,l.kb, ?_,KB.chg j (Nd _) e l⟩ (by show 60-(i+1)<60-i;omega)
   rw [l.st]
   exact hS.step (q _ (Vl a))
  ·have b:¬(i:Int)<60:=by omega
   simp only [n3,r3,h0,d,f,a,b,SB,seval,NC,NH,NG,NT,reduceCtorEq,ND,place,NA,NE]
   exact out _ _ d Chg.refl.app
 ·simp only [n3,r3,h0,d,f,a,SB,seval,NC,NH,NG,NT,reduceCtorEq,ND,place,NA,NE]
  exact out _ _ d Chg.refl.app
theorem Npi:∀{l:List Ent} {b:Int} {j:Nat},Run b l->j<l.length->((gt l j).kind=1\/(gt l j).kind=2\/(gt l j).kind=3)/\1<=(gt l j).cents/\(gt l j).bal=((l.take j).getLast?.map (·.bal)).getD b+YX (gt l j)/\0<=(gt l j).bal/\(gt l j).bal<=1000000000000
 | [],_,_,_,h=>by simp at h
 | x::l,b,0,h,_=>⟨h.1,h.2.1,h.2.2.1,h.2.2.2.1.1,h.2.2.2.1.2⟩
 | x::l,b,j+1,h,a=>by
   have a:j<l.length:=by simpa using a
   obtain ⟨k1,k2,k3,c⟩:=Npi h.2.2.2.2 a
   rw [Rq]
   refine ⟨k1,k2, ?_,c⟩
   rw [k3]
   cases l with
   | nil=>simp at a
   | cons y l=>
     cases j with
     | zero=>rfl
     | succ j=>
       simp only [Pv,List.getLast?_cons_cons]
       cases e:(y::l.take j).getLast? with
       | none=>simp at e
       | some z=>rfl
theorem Nsa {l:List Ent} {j:Nat} (h:j<l.length):QI (l.take (j+1))=(gt l j).bal:=by
 rw [Sk h,TB]
theorem Ngx {l:List Ent} {j:Nat} (h:j<l.length):Sb (l.take (j+1))=Sb (l.take j)++if (gt l j).kind=2 then [(gt l j).item] else []:=by
 rw [Sk h,Yc]
theorem Nv0 {l:List Ent} {j:Nat} (h:j<l.length) (a:(gt l j).kind=2):(Sb (l.take j)).length<(Sb l).length/\gt (Sb l) (Sb (l.take j)).length=(gt l j).item:=by
 have e:Sb l=Sb (l.take (j+1))++Sb (l.drop (j+1)):=by
  conv=>lhs;rw [<-O8 (j+1) l]
  unfold Sb;rw [List.filter_append,Po]
 rw [Ngx h,Nj a,Nl] at e
 rw [e]
 refine ⟨by simp, ?_⟩
 exact (Rf (l:=Sb (l.take j)) (r:=[(gt l j).item]++Sb (l.drop (j+1))) (i:=0)).trans rfl
structure F3 (B:Nat) (M:Nat) (i:Int) (fr:Nat->Value):Prop where
 f3:fr 3=Vp B
 f5:fr 5=.map (some M)
 f6:fr 6=Vi i
theorem YS [OA] {lim B M c L:Nat} {i b:Int} {q J:Option Addr} {l:List Ent} {K:List AItem} {fr:Nat->Value} {G:NB} {Q:Value->NB->Prop} (hl:lim<=G.length) (hs:Sl G WA 4 q l) (Y:Sl G YT 1 J (Sb l)) (hn:l.length<2 ^ 40) (hr:Run 0 l) (U:F3 B M i fr)
  (R:fr 80=.slice q l.length c) (S:fr 81=Vi l.length) (T:fr 82=Vi 0) (O:fr 13=Vi 0) (P:fr 14=Vi 0) (N:fr 11=.slice J (Sb l).length L) (f9:fr 9=Vi b)
  (hR:∀fr' G',Chg [] G G'->F3 B M i fr'->fr' 13=Vi (QI l)->fr' 14=Vi ((Sb l).length:Int)->fr' 11=.slice J (Sb l).length L->fr' 9=Vi b->QW E a3 lim K fr' G' Q) :
  QW E a3 lim (.code (.loop Nvw)::.inBlock 4::K) fr G Q:=by
 refine QD (fun j:Nat=>l.length-j) (fun j fr G'=>j<=l.length/\Chg [] G G'/\F3 B M i fr/\fr 80=.slice q l.length c/\fr 81=Vi l.length/\fr 82=Vi j/\fr 13=Vi (QI (l.take j))/\fr 14=Vi ((Sb (l.take j)).length:Int)/\fr 11=.slice J (Sb l).length L/\fr 9=Vi b) 0 ⟨N7 _,Chg.refl,U,R,S,T,O,P,N,f9⟩ ?_
 intro j fr G' ⟨hj,u,U,m,n,s,p,g,f,I⟩ V
 obtain ⟨D,F,H⟩:=U
 rw [QG Nvw.eq_1]
 refine NI ?_
 have z:lim<=G'.length:=by have:=u.len;omega
 by_cases a:j<l.length
 ·obtain ⟨k1,k2,k3,k4,k5⟩:=Npi hr a
  have hg:=u.sl hs fun _ _ _ h=>by cases h
  have C:=u.sl Y fun _ _ _ h=>by cases h
  have x:=fun X=>(hg.app X).loadCells Tf a
  have r:=fun c (kk:IntKind) (H1:NB)=>hg.idx (c:=c) (k:=kk) (H1:=H1) a
  have A:IntKind.i64.wrap ((j:Int)+1)=((j+1:Nat):Int):=QU (by omega)
  have aa:(gt l j).bal=QI (l.take j)+YX (gt l j):=k3
  have o:=Nsa a
  have d:=Ngx a
  have y:¬(gt l j).cents<1:=by omega
  have v:¬(gt l j).bal<0:=by omega
  rcases k1 with k1 | k1 | k1
  ·have hc:YX (gt l j)=(gt l j).cents:=by unfold YX;rw [Nh (by omega)]
   have e:IntKind.i64.wrap (QI (l.take j)+(gt l j).cents)=(gt l j).bal:=by rw [QJ (by omega) (by omega)];omega
   rw [Nh (by omega),Nb] at d
   simp only [n3,r3,m,n,s,p,g,f,a,r,x,WA,z,k1,e,y,v,A,SB,seval,NC,NH,NG,NT,reduceCtorEq,ND,place,NA,NE]
   exact V (j+1) _ _ ⟨by omega,u.app,⟨D,F,H⟩,m,n,rfl,by rw [o];rfl,by rw [d];exact g,f,I⟩ (by omega)
  ·have hc:YX (gt l j)=-(gt l j).cents:=by unfold YX;rw [Nj k1]
   have e:IntKind.i64.wrap (QI (l.take j)-(gt l j).cents)=(gt l j).bal:=by rw [QJ (by omega) (by omega)];omega
   obtain ⟨p1,p2⟩:=Nv0 a k1
   rw [Nj k1] at d
   have t:=fun X=>(C.app X).loadCell0 Te p1 (by decide)
   have w:=fun c (kk:IntKind) (H1:NB)=>C.idx (c:=c) (k:=kk) (H1:=H1) p1
   rw [p2] at t
   have W:¬((Sb l).length:Int)<=((Sb (l.take j)).length:Int):=by omega
   have ab:(Sb (l.take j)).length<=l.length:=by
    unfold Sb;rw [Nz]
    exact P5 (List.length_filter_le _ _) (by rw [N2];omega)
   have Z:IntKind.i64.wrap (((Sb (l.take j)).length:Int)+1)=(((Sb (l.take j)).length+1:Nat):Int):=QU (by omega)
   simp only [n3,r3,m,n,s,p,g,f,a,r,x,WA,z,k1,e,y,v,A,W,w,t,Njr,Z,SB,seval,NC,NH,NG,NT,reduceCtorEq,ND,place,NA,NE]
   exact V (j+1) _ _ ⟨by omega,u.app,⟨D,F,H⟩,m,n,rfl,by rw [o];rfl,by rw [d,Nk];rfl,f,I⟩ (by omega)
  ·have hc:YX (gt l j)=(gt l j).cents:=by unfold YX;rw [Nh (by omega)]
   have e:IntKind.i64.wrap (QI (l.take j)+(gt l j).cents)=(gt l j).bal:=by rw [QJ (by omega) (by omega)];omega
   rw [Nh (by omega),Nb] at d
   simp only [n3,r3,m,n,s,p,g,f,a,r,x,WA,z,k1,e,y,v,A,SB,seval,NC,NH,NG,NT,reduceCtorEq,ND,place,NA,NE]
   exact V (j+1) _ _ ⟨by omega,u.app,⟨D,F,H⟩,m,n,rfl,by rw [o];rfl,by rw [d];exact g,f,I⟩ (by omega)
 ·obtain rfl:j=l.length:=by omega
  rw [O3] at p g
  simp only [n3,r3,m,n,s,a,SB,seval,NC,NH,NG,NT,reduceCtorEq,ND,place,NA,NE]
  exact hR _ _ u.app ⟨D,F,H⟩ p g f I
def vI (n:Int):Value:=Vi n
def Vr (cnt:List (Int×Int)) (l:List Int):List (Int×Int):=l.foldl (fun a n=>QM n 1 a) cnt
theorem Xg {n:Int}:∀{l:List Int} {cnt:List (Int×Int)},NR n (Vr cnt l)=if n∈l then some 1 else NR n cnt
 | [],cnt=>by simp [Vr]
 | x::l,cnt=>by
   show NR n (Vr (QM x 1 cnt) l)=_
   rw [Xg,PT]
   by_cases h1:n∈l
   ·rw [Nj h1,Nj (by simp [h1])]
   ·rw [Nh h1]
    by_cases h2:n=x
    ·rw [Nj h2,Nj (by simp [h2])]
    ·rw [Nh h2,Nh (by simp [h1,h2])]
theorem Nne {l:List Int} {cnt:List (Int×Int)} {n:Int}:Vr cnt (l++[n])=QM n 1 (Vr cnt l):=by simp [Vr]
theorem Nau [OA] {lim l0 B M c:Nat} {i:Int} {q:Option Addr} {l:List Int} {cnt:List (Int×Int)} {s:SU} {K:List AItem} {fr:Nat->Value} {G:NB} {Q:Value->NB->Prop} (hK:KB l0 B (.pointer none) s G) (hs:Sl G YT 1 q l) (hq:∀a,q=some a->a.block≠M) (hn:l.length<2 ^ 40)
  (hM:NF G M=.map (PV kI vI cnt)) (ac:M<G.length) (W:lim<=M) (T:(∀r,s.ptr B r≠some M)/\∀c∈s.calls,∀a,c.p=some a->a.block≠M) (Y:l.Nodup) (Z:∀n∈l,NR n cnt=none) (hx:∀n∈l,∃x,NR n s.xs=some x)
  (S:F3 B M i fr) (m:fr 139=.slice q l.length c) (o:fr 140=Vi l.length) (t:fr 141=Vi 0)
  (hR:∀fr' G',Chg [M] G G'->NF G' M=.map (PV kI vI (Vr cnt l))->F3 B M i fr'->QW E a3 lim K fr' G' Q) :
  QW E a3 lim (.code (.loop Nvx)::.inBlock 7::K) fr G Q:=by
 refine QD (fun j:Nat=>l.length-j) (fun j fr G'=>j<=l.length/\Chg [M] G G'/\NF G' M=.map (PV kI vI (Vr cnt (l.take j)))/\F3 B M i fr/\fr 139=.slice q l.length c/\fr 140=Vi l.length/\fr 141=Vi j) 0 ⟨N7 _,Chg.refl,hM,S,m,o,t⟩ ?_
 intro j fr G' ⟨hj,R,h,S,d,e,f⟩ hN
 obtain ⟨N,O,P⟩:=S
 rw [QG Nvx.eq_1]
 by_cases b:j<l.length
 ·have V:=R.sl hs fun a ea _ hj=>hq a ea (Ng.1 hj)
  have ad:=fun X=>(V.app X).loadCell0 Te b (by decide)
  have F:=V.loadCell0 Te b (by decide)
  have C:=fun c (kk:IntKind) (H1:NB)=>V.idx (c:=c) (k:=kk) (H1:=H1) b
  have ab:IntKind.i64.wrap ((j:Int)+1)=((j+1:Nat):Int):=QU (by omega)
  have I:gt l j∉l.take j:=fun H=>by
   have h1:(l.take (j+1)).Nodup:=Y.sublist (List.take_sublist _ _)
   rw [Sk b,P1] at h1
   exact h1.2.2 _ H _ (by simp) rfl
  have g:NR (gt l j) (Vr cnt (l.take j))=none:=by rw [Xg,Nh I];exact Z _ (Vl b)
  have U:findKey (Vi (gt l j)) (PV kI vI (Vr cnt (l.take j))) 0=some none:=by
   have:=RD (vv:=vI) Xa (gt l j) (Vr cnt (l.take j)) 0
   rw [Vo g] at this;exact this
  have D:RU (.int .i64) (Vi (gt l j))=true:=V4
  have L:PV kI vI (Vr cnt (l.take j))++[(Vi (gt l j),Vi 1)]=PV kI vI (Vr cnt (l.take (j+1))):=by
   rw [Sk b,Nne,<-MB (Vo g 0)]
   simp [PV,vI,kI]
  have aa:IntKind.i64.wrap 1=1:=by decide
  simp only [n3,r3,d,e,f,N,O,P,b,C,F,Njr,h,NN,D,U,aa,W,L,SB,seval,NC,NH,NG,NT,reduceCtorEq,ND,place,NA,NE]
  have w:M<G'.length:=by have:=R.len;omega
  have u:Chg [M] G (G'.set M (.map (PV kI vI (Vr cnt (l.take (j+1)))))):=R.set (.inl (by simp))
  have v:NF (G'.set M (.map (PV kI vI (Vr cnt (l.take (j+1)))))) M=.map (PV kI vI (Vr cnt (l.take (j+1)))):=Rb w
  generalize G'.set M (.map (PV kI vI (Vr cnt (l.take (j+1)))))=G2 at *
  have K2:=hK.to u fun x hx=>by rw [Ng.1 hx];exact T
  obtain ⟨y,hy⟩:=hx _ (Vl b)
  have hp:YC s.st (gt l j)=(y.point,0):=by unfold YC;rw [show NR (gt l j) s.st.xs=some y from hy]
  rw [Nhp K2,hp]
  have J:NR (gt l j) (Vr cnt (l.take (j+1)))=some 1:=by rw [Xg,Nj (by rw [Sk b];simp)]
  obtain ⟨z,hz⟩:=V6 J 0
  have A:findKey (Vi (gt l j)) (PV kI vI (Vr cnt (l.take (j+1)))) 0=some (some (z,Vi 1)):=by
   have:=RD (vv:=vI) Xa (gt l j) (Vr cnt (l.take (j+1))) 0
   rw [hz] at this;exact this
  simp only [n3,r3,d,e,f,N,O,P,v,NN,D,A,ab,SB,seval,NC,NH,NG,NT,reduceCtorEq,ND,place,NA,NE]
  exact hN (j+1) _ _ ⟨by omega,u,v,⟨N,O,P⟩,d,e,rfl⟩ (by omega)
 ·obtain rfl:j=l.length:=by omega
  rw [O3] at h
  simp only [n3,r3,d,e,f,b,SB,seval,NC,NH,NG,NT,reduceCtorEq,ND,place,NA,NE]
  exact hR _ _ R h ⟨N,O,P⟩
theorem Nfw [OA] {lim l0 B M:Nat} {i:Int} {cnt:List (Int×Int)} {s:SU} {K:List AItem} {fr:Nat->Value} {G:NB} {Q:Value->NB->Prop} (v:KB l0 B (.pointer none) s G) (w:NF G M=.map (PV kI vI cnt)) (p:M<G.length)
  (c:∀n,NR n cnt=if (NR n s.xs).isSome then some 1 else none)
  (f3:fr 3=Vp B) (f5:fr 5=.map (some M)) (o:fr 21=Vi 1)
  (x:∀fr' G',Chg [] G G'->QW E a3 lim K fr' G' Q) :
  QW E a3 lim (.code (.loop Nvy)::.inBlock 9::K) fr G Q:=by
 refine QD (fun j:Nat=>17-j) (fun j fr G'=>1<=j/\j<=17/\Chg [] G G'/\fr 3=Vp B/\fr 5=.map (some M)/\fr 21=Vi j) 1 ⟨Nd _,by omega,Chg.refl,f3,f5,o⟩ ?_
 intro j fr G' ⟨A,F,h,f,g,d⟩ t
 rw [QG Nvy.eq_1]
 by_cases C:j<17
 ·have a:(j:Int)<17:=by omega
  have q:(false == false)=true:=rfl
  have r:(true == true)=true:=rfl
  have m:IntKind.i64.wrap ((j:Int)+1)=((j+1:Nat):Int):=QU (by omega)
  have u:=v.new h
  have k:NF G' M=.map (PV kI vI cnt):=h.get w p (by simp)
  have l:RU (.int .i64) (Vi j)=true:=V4
  have b:=fun (mp:Bool) (lim:Nat) (Q:Value->NB->Prop)=>Nhp (mp:=mp) (lim:=lim) (Q:=Q) (id:=(j:Int)) u
  cases hx:NR (j:Int) s.xs with
  | none=>
    have hp:YC s.st (j:Int)=(0,6):=by unfold YC;rw [show NR (j:Int) s.st.xs=none from hx]
    rw [hp] at b
    have hc:NR (j:Int) cnt=none:=by rw [c,hx];rfl
    have e:findKey (Vi j) (PV kI vI cnt) 0=some none:=by
     have:=RD (vv:=vI) Xa (j:Int) cnt 0
     rw [Vo hc] at this;exact this
    simp only [n3,r3,f,g,d,a,b,k,NN,l,e,m,VR,q,r,SB,seval,NC,NH,NG,NT,reduceCtorEq,ND,place,NA,NE]
    exact t (j+1) _ _ ⟨by omega,by omega,h,f,g,rfl⟩ (by omega)
  | some y=>
    have hp:YC s.st (j:Int)=(y.point,0):=by unfold YC;rw [show NR (j:Int) s.st.xs=some y from hx]
    rw [hp] at b
    have hc:NR (j:Int) cnt=some 1:=by rw [c,hx];rfl
    obtain ⟨z,D⟩:=V6 hc 0
    have e:findKey (Vi j) (PV kI vI cnt) 0=some (some (z,Vi 1)):=by
     have:=RD (vv:=vI) Xa (j:Int) cnt 0
     rw [D] at this;exact this
    simp only [n3,r3,f,g,d,a,b,k,NN,l,e,m,VR,q,r,SB,seval,NC,NH,NG,NT,reduceCtorEq,ND,place,NA,NE]
    exact t (j+1) _ _ ⟨by omega,by omega,h,f,g,rfl⟩ (by omega)
 ·have a:¬(j:Int)<17:=by omega
  simp only [n3,r3,f,g,d,a,SB,seval,NC,NH,NG,NT,reduceCtorEq,ND,place,NA,NE]
  exact x _ _ h
def Ndt (s:SU) (i:Nat) (cnt:List (Int×Int)):Prop:=∀n,(∀x,NR n s.xs=some x->x.from'<i->NR n cnt=some 1)/\((∀x,NR n s.xs=some x->¬x.from'<i)->NR n cnt=none)
theorem Ndt.next {s:SU} {n i:Nat} {cnt:List (Int×Int)} (h:Ndt s i cnt) (hS:Sums n s.st):Ndt s (i+1) (Vr cnt ((NR (i:Int) s.st.ms).getD noM).its):=by
 intro n
 have mem:∀x,NR n s.xs=some x->(n∈((NR (i:Int) s.st.ms).getD noM).its↔x.from'=i):=fun x b=>by
  constructor
  ·intro hn
   cases a:NR (i:Int) s.st.ms with
   | none=>rw [a] at hn;cases hn
   | some m=>
     rw [a] at hn
     obtain ⟨y,c,e⟩:=hS.si.own i m n a hn
     have c:NR n s.xs=some y:=c
     rw [b] at c;cases c;exact e
  ·intro e
   obtain ⟨m,a,hn⟩:=hS.si.all n x b
   rw [e] at a
   rw [a];exact hn
 constructor
 ·intro x b g
  rw [Xg]
  by_cases q:n∈((NR (i:Int) s.st.ms).getD noM).its
  ·rw [Nj q]
  ·rw [Nh q]
   have:¬x.from'=i:=fun e=>q ((mem x b).2 e)
   exact (h n).1 x b (by omega)
 ·intro f
  rw [Xg,Nh]
  ·exact (h n).2 fun x b g=>f x b (by omega)
  ·intro hn
   cases a:NR (i:Int) s.st.ms with
   | none=>rw [a] at hn;cases hn
   | some m=>
     have d:=hn
     rw [a] at d
     obtain ⟨y,c,e⟩:=hS.si.own i m n a d
     exact f y c (by omega)
theorem Neo [OA] {lim l0 B M:Nat} {cnt:List (Int×Int)} {s:SU} {K:List AItem} {fr:Nat->Value} {G:NB} {Q:Value->NB->Prop} (hl:lim<=l0) (ay:l0<=G.length) (hK:KB l0 B (.pointer none) s G) (hS:Sums 60 s.st) (hM:NF G M=.map (PV kI vI cnt)) (aw:M<G.length) (ae:lim<=M) (S:(∀r,s.ptr B r≠some M)/\∀c∈s.calls,∀a,c.p=some a->a.block≠M)
  (ab:Ndt s 1 cnt) (hF:F3 B M 1 fr)
  (hR:∀C fr' G',Ndt s 7 C->Chg [M] G G'->NF G' M=.map (PV kI vI C)->F3 B M 7 fr'->QW E a3 lim K fr' G' Q) :
  QW E a3 lim (.code (.loop Nvv)::.inBlock 2::K) fr G Q:=by
 refine QD (fun j:Nat×List (Int×Int)=>7-j.1) (fun j fr G'=>1<=j.1/\j.1<=7/\Ndt s j.1 j.2/\Chg [M] G G'/\NF G' M=.map (PV kI vI j.2)/\F3 B M (j.1:Int) fr) (1,cnt) ⟨Nd _,by show 1<=7;decide,ab,Chg.refl,hM,hF⟩ ?_
 rintro ⟨j,Z⟩ fr G' ⟨an,hj,t,X,w,hF⟩ hN
 simp only at an hj t w hF
 obtain ⟨D,F,H⟩:=hF
 rw [QG Nvv.eq_1]
 by_cases ag:j<7
 ·have ah:(j:Int)<7:=by omega
  have aj:IntKind.i64.wrap ((j:Int)+1)=((j+1:Nat):Int):=QU (by omega)
  have Y:=hK.to X fun x z=>by rw [Ng.1 z];exact S
  have u:∀m,NR (j:Int) s.ms=some m->m.m.ents.length<2 ^ 40/\m.m.its.length<2 ^ 40:=fun m f=>by
   have:=hS.wf.ents (j:Int) m.m (by rw [RX,f];rfl)
   exact ⟨by omega,by omega⟩
  simp only [n3,r3,D,F,H,ah,SB,seval,NC,NH,NG,NT,reduceCtorEq,ND,place,NA,NE]
  refine Nds Y (by have:=X.len;omega) (fun m f=>(u m f).1) fun q c1 G1 g ao az=>?_
  have av:=X.len
  have aq:=g.len
  have hb:=fun (mp:Bool) (lim:Nat) (Q:Value->NB->Prop)=>Nb7 (mp:=mp) (lim:=lim) (Q:=Q) (id:=(j:Int)) (Y.new g) (fun m f=>(u m f).1)
  simp only [n3,r3,D,F,H,hb,SB,seval,NC,NH,NG,NT,reduceCtorEq,ND,place,NA,NE]
  refine Nsm (Y.new g) (by omega) (fun m f=>(u m f).2) fun q2 c2 G2 k v ai=>?_
  have au:=k.len
  have al:Nbn s.st (j:Int)=(QI ((NR (j:Int) s.st.ms).getD noM).ents,if (NR (j:Int) s.st.ms).isSome then 0 else 6):=by
   unfold Nbn
   cases NR (j:Int) s.st.ms<;>rfl
  rw [al]
  have T:∃e:Int,(e=0\/e=6)/\(if (NR (j:Int) s.st.ms).isSome then (0:Int) else 6)=e:=by
   cases (NR (j:Int) s.st.ms).isSome
   ·exact ⟨6,.inr rfl,rfl⟩
   ·exact ⟨0,.inl rfl,rfl⟩
  obtain ⟨e,he,am⟩:=T
  rw [am]
  have I:Run 0 ((NR (j:Int) s.st.ms).getD noM).ents:=by
   cases f:NR (j:Int) s.st.ms with
   | none=>trivial
   | some m=>exact hS.si.run _ m f
  have ac:((NR (j:Int) s.st.ms).getD noM).its=Sb ((NR (j:Int) s.st.ms).getD noM).ents:=by
   cases f:NR (j:Int) s.st.ms with
   | none=>rfl
   | some m=>exact hS.si.its _ m f
  have V:((NR (j:Int) s.st.ms).getD noM).its.Nodup:=by
   cases f:NR (j:Int) s.st.ms with
   | none=>exact List.nodup_nil
   | some m=>exact hS.si.nd _ m f
  have ad:((NR (j:Int) s.st.ms).getD noM).ents.length<2 ^ 40:=by
   cases f:NR (j:Int) s.st.ms with
   | none=>show (0:Nat)<_;decide
   | some m=>have:=(hS.wf.ents _ m f).1;show m.ents.length<_;omega
  have U:((NR (j:Int) s.st.ms).getD noM).its.length<2 ^ 40:=by
   cases f:NR (j:Int) s.st.ms with
   | none=>show (0:Nat)<_;decide
   | some m=>have:=(hS.wf.ents _ m f).2.1;show m.its.length<_;omega
  have l:∀n∈((NR (j:Int) s.st.ms).getD noM).its,∃x,NR n s.xs=some x/\x.from'=j:=by
   intro n hn
   cases f:NR (j:Int) s.st.ms with
   | none=>rw [f] at hn;cases hn
   | some m=>rw [f] at hn;exact hS.si.own _ m n f hn
  have o:=t.next hS
  generalize ax:(NR (j:Int) s.st.ms).getD noM=m at *
  rw [ac] at v V U l o⊢
  have J:=k.sl ao fun _ _ _ h=>by cases h
  rcases he with rfl | rfl
  ·simp only [n3,r3,D,F,H,SB,seval,NC,NH,NG,NT,reduceCtorEq,ND,place,NA,NE]
   refine YS (B:=B) (M:=M) (i:=(j:Int)) (b:=QI m.ents) (by omega) J v ad I ⟨D,F,H⟩ rfl rfl rfl rfl rfl rfl rfl fun fr' G3 d N e13 e14 e11 e9=>?_
   obtain ⟨k3,A,W⟩:=N
   have aa:=d.len
   have P:NF G3 M=.map (PV kI vI Z):=(g.trans (k.trans d)).get w (by omega) (by simp)
   simp only [n3,r3,e13,e14,e11,e9,SB,seval,NC,NH,NG,NT,reduceCtorEq,ND,place,NA,NE]
   refine Nau (i:=(j:Int)) (((Y.new g).new k).new d) (d.sl v fun _ _ _ h=>by cases h) (fun a ea=>by have:=ai a ea;omega) U P (by omega) ae S V (fun n hn=>?_) (fun n hn=>?_) ⟨k3,A,W⟩ rfl rfl rfl fun ak G4 L R O=>?_
   ·obtain ⟨x,z,ex⟩:=l n hn
    exact (t n).2 fun y hy ag=>by rw [z] at hy;cases hy;omega
   ·obtain ⟨x,z,_⟩:=l n hn
    exact ⟨x,z⟩
   obtain ⟨k3,A,W⟩:=O
   simp only [n3,r3,k3,A,W,aj,SB,seval,NC,NH,NG,NT,reduceCtorEq,ND,place,NA,NE]
   exact hN (j+1,Vr Z (Sb m.ents)) _ _ ⟨by show 1<=j+1;omega,by show j+1<=7;omega,o,X.trans (((g.trans (k.trans d)).mono fun _ _ h=>by cases h).trans L),R,⟨k3,A,rfl⟩⟩ (by show 7-(j+1)<7-j;omega)
  ·simp only [n3,r3,D,F,H,SB,seval,NC,NH,NG,NT,reduceCtorEq,ND,place,NA,NE]
   refine YS (B:=B) (M:=M) (i:=(j:Int)) (b:=QI m.ents) (by omega) J v ad I ⟨D,F,H⟩ rfl rfl rfl rfl rfl rfl rfl fun fr' G3 d N e13 e14 e11 e9=>?_
   obtain ⟨k3,A,W⟩:=N
   have aa:=d.len
   have P:NF G3 M=.map (PV kI vI Z):=(g.trans (k.trans d)).get w (by omega) (by simp)
   simp only [n3,r3,e13,e14,e11,e9,SB,seval,NC,NH,NG,NT,reduceCtorEq,ND,place,NA,NE]
   refine Nau (i:=(j:Int)) (((Y.new g).new k).new d) (d.sl v fun _ _ _ h=>by cases h) (fun a ea=>by have:=ai a ea;omega) U P (by omega) ae S V (fun n hn=>?_) (fun n hn=>?_) ⟨k3,A,W⟩ rfl rfl rfl fun ak G4 L R O=>?_
   ·obtain ⟨x,z,ex⟩:=l n hn
    exact (t n).2 fun y hy ag=>by rw [z] at hy;cases hy;omega
   ·obtain ⟨x,z,_⟩:=l n hn
    exact ⟨x,z⟩
   obtain ⟨k3,A,W⟩:=O
   simp only [n3,r3,k3,A,W,aj,SB,seval,NC,NH,NG,NT,reduceCtorEq,ND,place,NA,NE]
   exact hN (j+1,Vr Z (Sb m.ents)) _ _ ⟨by show 1<=j+1;omega,by show j+1<=7;omega,o,X.trans (((g.trans (k.trans d)).mono fun _ _ h=>by cases h).trans L),R,⟨k3,A,rfl⟩⟩ (by show 7-(j+1)<7-j;omega)
 ·obtain rfl:j=7:=by omega
  simp only [n3,r3,D,F,H,SB,seval,NC,NH,NG,NT,reduceCtorEq,ND,place,NA,NE]
  exact hR Z _ _ t X w ⟨D,F,H⟩
def Vk (s:ByteArray):List UInt8:=[UInt8.ofNat (s.size / 256),UInt8.ofNat s.size]
def Ri (l:List ByteArray):List UInt8:=l.flatMap fun s=>Vk s++s.data.toList
theorem Nah {l:List ByteArray} {s:ByteArray}:Ri (l++[s])=(Ri l++Vk s)++s.data.toList:=by
 unfold Ri
 rw [P7,Oi,List.flatMap_nil,Nb,Nl]
def VK (l:List ByteArray):List UInt8×Int:=
 if 100<l.length then ([],5) else if l.any (fun s=>decide (1000<s.size)) then ([],3) else if 4000<(Ri l).length then ([],3) else (Ri l,0)
theorem Vg (s:ByteArray):s.data.toList.length=s.size:=Array.length_toList
theorem Npt {l:List ByteArray} (h:∀s∈l,s.size<=1000):(Ri l).length<=l.length*1002:=by
 induction l with
 | nil=>simp [Ri]
 | cons s l ih=>
   have h1:=ih fun x a=>h x (by simp [a])
   have h2:=h s (by simp)
   simp only [Ri,Oi,Nk,Vk,Nm,Nn,Vg] at h1⊢
   omega
theorem Ntw {s:ByteArray} (h:s.size<=1000):Value.int .u8 (IntKind.u8.wrap (Int.fdiv (s.size:Int) (2 ^ min (Int.toNat 8) IntKind.i64.bits)))=u8 (UInt8.ofNat (s.size / 256)):=by
 have e:Int.fdiv (s.size:Int) (2 ^ min (Int.toNat 8) IntKind.i64.bits)=((s.size / 256:Nat):Int):=by
  show Int.fdiv (s.size:Int) 256=_
  rw [Q3 _ (by decide)]
  omega
 rw [e]
 simp only [u8,Value.int.injEq,Qq]
 rw [UInt8.toNat_ofNat_of_lt' (by show s.size / 256<256;omega)]
 simp only [IntKind.wrap,IntKind.bits,IntKind.signed]
 simp;omega
theorem Ntv {s:ByteArray}:Value.int .u8 (IntKind.u8.wrap (s.size:Int))=u8 (UInt8.ofNat s.size):=by
 simp only [u8,Value.int.injEq,Qq,UInt8.toNat_ofNat']
 simp only [IntKind.wrap,IntKind.bits,IntKind.signed]
 simp
theorem Nmx {s:ByteArray} {H:NB}:firstCells H 1 true (.string s)=some (s.data.toList.flatMap Uf):=by
 simp only [firstCells,if_true]
 congr 1
 induction s.data.toList with
 | nil=>rfl
 | cons b l ih=>rw [Og,Oi,ih];rfl
theorem Nuq [OA] {lim k n:Nat} {p:Option Addr} {l:List ByteArray} {H:NB} {Q:Value->NB->Prop} (hs:Sl H SL 1 p l) (hn:n=l.length) (hl:lim<=H.length)
  (I:∀q c H',Chg [] H H'->Own H.length H' Uf 1 q c (VK l).1->Q (.tuple #[.slice q (VK l).1.length c,Vi (VK l).2]) H') :
  NQ E false lim 34 [.slice p n k] H Q:=by
 subst hn
 refine runs (by decide) e34 rfl ?_
 rw [b34,c34]
 by_cases a:100<l.length
 ·have f:(100:Int)<(l.length:Int):=by omega
  simp only [n34,r34,f,SB,Nat.reduceLT,NC,NH,Nat.reduceEqDiff,NG,NT,reduceCtorEq,ND,place,NA,Nat.reduceAdd,Nat.reduceLeDiff,NE,Int.reduceEq,Int.reduceLT,Int.reduceLE]
  have:=I none 0 (H++[]) Chg.refl.app (by simp only [VK,Nj a];exact Own.nil)
  simpa only [VK,Nj a,Nn] using this
 have f:¬(100:Int)<(l.length:Int):=by omega
 simp only [n34,r34,f,SB,Nat.reduceLT,NC,NH,Nat.reduceEqDiff,NG,NT,reduceCtorEq,ND,place,NA,Nat.reduceAdd,Nat.reduceLeDiff,NE,Int.reduceEq,Int.reduceLT,Int.reduceLE]
 refine QD (fun s:Nat×Option Addr×Nat=>l.length-s.1) (fun s fr G=>s.1<=l.length/\fr 4=.slice s.2.1 (Ri (l.take s.1)).length s.2.2/\fr 10=.slice p l.length k/\fr 11=Vi l.length/\fr 12=Vi s.1/\Chg [] H G/\Own H.length G Uf 1 s.2.1 s.2.2 (Ri (l.take s.1))/\∀x∈l.take s.1,x.size<=1000) (0,none,0)
  ⟨N7 _,by rfl,(by simp only [FB,Nat.reduceEqDiff]),(by simp only [FB,Nat.reduceEqDiff]),by rfl,Chg.refl.app,Own.nil,by simp⟩ ?_
 rintro ⟨i,q,c⟩ fr G ⟨hi,B,g,j,o,u,F,e⟩ V
 simp only at hi B o F e
 rw [QG Nuz.eq_1]
 refine NI ?_
 have Z:lim<=G.length:=by have:=u.len;omega
 have N:(Ri (l.take i)).length<=100*1002:=by
  have h1:=Npt e
  have h2:(l.take i).length<=100:=by simp;omega
  have:=Ol 1002 h2
  omega
 by_cases d:i<l.length
 ·have R:=u.sl hs (by simp)
  have C:=fun X=>(R.app X).loadCell0 Ru d (by decide)
  have v:=fun c (k:IntKind) (H1:NB)=>R.idx (c:=c) (k:=k) (H1:=H1) d
  have P:IntKind.i64.wrap ((i:Int)+1)=((i+1:Nat):Int):=QU (by omega)
  by_cases O:1000<(gt l i).size
  ·have r:(1000:Int)<((gt l i).size:Int):=by omega
   simp only [n34,r34,B,g,j,o,d,C,v,Tx,r,SB,Nat.reduceLT,NC,NH,Nat.reduceEqDiff,NG,NT,reduceCtorEq,ND,place,NA,Nat.reduceAdd,Nat.reduceLeDiff,NE,Int.reduceEq,Int.reduceLT,Int.reduceLE]
   have b:l.any (fun s=>decide (1000<s.size))=true:=List.any_eq_true.2 ⟨gt l i,Vl d,by simpa using O⟩
   have:=I none 0 (G++[]) u.app (by simp only [VK,Nh a,b,if_true];exact Own.nil)
   simpa only [VK,Nh a,b,if_true,Nn] using this
  ·have r:¬(1000:Int)<((gt l i).size:Int):=by omega
   have w:(gt l i).size<=1000:=by omega
   obtain ⟨U,q2,c2,t,L,J,_,W⟩:=F.more (lim':=lim) (bytes:=1) hl Rv (by decide) (Vk (gt l i)) (by unfold PQ;simp [Vk];omega) (by simp [Vk];omega) u.len [Vc ((Vk (gt l i)).flatMap Uf)] (x:=.slice (Sa G.length) 2 2) (str:=false)
    (Xe (m:=Vk (gt l i)) (Sl.lit Rv (by rw [NU];rfl) (by rw [NU];rfl))) rfl
   obtain ⟨G3,q3,c3,A,M,K,_,Y⟩:=L.more (lim':=lim) (bytes:=1) hl Rv (by decide) (gt l i).data.toList (by unfold PQ;rw [Vg];simp [Vk];omega) (by rw [Vg];simp [Vk];omega) (by have:=u.len;simp;omega) [] (x:=.string (gt l i)) (str:=true) Nmx (by simp [lenOf,Vg])
   have e2:(Vk (gt l i)).flatMap Uf=[u8 (UInt8.ofNat ((gt l i).size / 256)),u8 (UInt8.ofNat (gt l i).size)]:=rfl
   rw [e2] at t
   simp only [u8] at t
   rw [Nb (U++[])] at A
   have S:(Vk (gt l i)).length=2:=rfl
   rw [Nk,S] at A
   rw [S] at t
   simp only [n34,r34,B,g,j,o,d,C,v,Tx,r,Ntw w,Ntv,t,A,u8,P,SB,Nat.reduceLT,NC,NH,Nat.reduceEqDiff,NG,NT,reduceCtorEq,ND,place,NA,Nat.reduceAdd,Nat.reduceLeDiff,NE,Int.reduceEq,Int.reduceLT,Int.reduceLE]
   exact V (i+1,q3,c3) _ _ ⟨by show i+1<=_;omega,by rw [Sk d,Nah,Nk,Nk,Vg];exact (by simp only [show (Vk (gt l i)).length=2 from rfl,Om,FB,Nat.reduceEqDiff]),(by simp only [g,FB,Nat.reduceEqDiff]),(by simp only [j,FB,Nat.reduceEqDiff]),(by simp only [FB,Nat.reduceEqDiff]),K _ _ (Nd _) (J _ _ (Nd _) u),by rw [Sk d,Nah];exact M,fun y T=>by
    rw [Sk d] at T
    rcases Oa.1 T with h | h
    ·exact e y h
    ·rw [Ng.1 h];exact w⟩ (by show _-(i+1)<_;omega)
 obtain rfl:i=l.length:=by omega
 rw [O3] at B F e N
 have b:l.any (fun s=>decide (1000<s.size))=false:=by
  rw [List.any_eq_false]
  intro x hx
  have:=e x hx
  simp;omega
 by_cases D:4000<(Ri l).length
 ·have z:(4000:Int)<((Ri l).length:Int):=by omega
  simp only [n34,r34,B,g,j,o,d,z,SB,Nat.reduceLT,NC,NH,Nat.reduceEqDiff,NG,NT,reduceCtorEq,ND,place,NA,Nat.reduceAdd,Nat.reduceLeDiff,NE,Int.reduceEq,Int.reduceLT,Int.reduceLE]
  have:=I none 0 (G++[]) u.app (by simp only [VK,Nh a,b,Nj D,No,if_false];exact Own.nil)
  simpa only [VK,Nh a,b,Nj D,No,if_false,Nn] using this
 ·have z:¬(4000:Int)<((Ri l).length:Int):=by omega
  simp only [n34,r34,B,g,j,o,d,z,SB,Nat.reduceLT,NC,NH,Nat.reduceEqDiff,NG,NT,reduceCtorEq,ND,place,NA,Nat.reduceAdd,Nat.reduceLeDiff,NE,Int.reduceEq,Int.reduceLT,Int.reduceLE]
  have:=I q c (G++[]) u.app (by simp only [VK,Nh a,b,Nh D,No,if_false];exact F.app _)
  simpa only [VK,Nh a,b,Nh D,No,if_false] using this
def SN (x y:UInt8):Nat:=x.toNat*256+y.toNat
def UN:Nat->List UInt8->Option (List ByteArray)
 | _,[]=>some []
 | 0,_::_=>none
 | _+1,[_]=>none
 | c+1,x::y::r=>if SN x y<=1000/\SN x y<=r.length then (UN c (r.drop (SN x y))).map (⟨(r.take (SN x y)).toArray⟩::·) else none
def Mr (b:List UInt8):List ByteArray×Int:=if 4000<b.length then ([],421) else match UN 100 b with
 | some l=>(l,0)
 | none=>([],421)
theorem Nkl {n:Nat} {y:UInt8} (h:n<2 ^ 40):IntKind.i64.wrap (((BitVec.ofInt IntKind.i64.bits (IntKind.i64.wrap ((n:Int)*2 ^ min (Int.toNat 8) IntKind.i64.bits))) ||| BitVec.ofInt IntKind.i64.bits (y.toNat:Int)).toNat:Int)=((n*256+y.toNat:Nat):Int):=by
 have a:=y.toNat_lt
 have e1:(n:Int)*2 ^ min (Int.toNat 8) IntKind.i64.bits=((n*256:Nat):Int):=by
  show (n:Int)*2 ^ 8=_
  omega
 rw [e1,QJ (n:=((n*256:Nat):Int)) (by omega) (by omega)]
 have e2:((BitVec.ofInt IntKind.i64.bits ((n*256:Nat):Int)) ||| BitVec.ofInt IntKind.i64.bits (y.toNat:Int)).toNat=n*256+y.toNat:=by
  rw [BitVec.toNat_or,BitVec.ofInt_natCast,BitVec.ofInt_natCast,BitVec.toNat_ofNat,BitVec.toNat_ofNat,Qz (by show n*256<2 ^ 64;omega),Qz (by show y.toNat<2 ^ 64;omega)]
  have:=Nat.shiftLeft_add_eq_or_of_lt (i:=8) (b:=y.toNat) (by omega) n
  rw [Nat.shiftLeft_eq] at this
  exact this.symm
 rw [e2,QJ (by omega) (by omega)]
theorem Nof [OA] {lim k n:Nat} {p:Option Addr} {b:List UInt8} {H:NB} {Q:Value->NB->Prop} (hs:Sl H Uf 1 p b) (hk:Us 1 k b.length) (hn:n=b.length) (hl:lim<=H.length) (hb:b.length<2 ^ 60)
  (T:∀q c H',Chg [] H H'->Own H.length H' SL 1 q c (Mr b).1->Q (.tuple #[.slice q (Mr b).1.length c,Vi (Mr b).2]) H') :
  NQ E false lim 69 [.slice p n k] H Q:=by
 subst hn
 refine runs (by decide) e69 rfl ?_
 rw [b69,c69]
 by_cases L:4000<b.length
 ·have z:(4000:Int)<(b.length:Int):=by omega
  simp only [n69,r69,z,SB,Nat.reduceLT,NC,NH,Nat.reduceEqDiff,NG,NT,reduceCtorEq,ND,place,NA,Nat.reduceAdd,Nat.reduceLeDiff,NE,Int.reduceEq,Int.reduceLT,Int.reduceLE]
  have:=T none 0 (H++[]) Chg.refl.app (by simp only [Mr,Nj L];exact Own.nil)
  simpa only [Mr,Nj L,Nn] using this
 have z:¬(4000:Int)<(b.length:Int):=by omega
 simp only [n69,r69,z,SB,Nat.reduceLT,NC,NH,Nat.reduceEqDiff,NG,NT,reduceCtorEq,ND,place,NA,Nat.reduceAdd,Nat.reduceLeDiff,NE,Int.reduceEq,Int.reduceLT,Int.reduceLE]
 refine QD (fun s:(Option Addr×Nat)×(Option Addr×Nat)×List UInt8×List ByteArray=>s.2.2.1.length) (fun s fr G=>fr 0=.slice s.1.1 s.2.2.1.length s.1.2/\fr 4=.slice s.2.1.1 s.2.2.2.length s.2.1.2/\Chg [] H G/\Sl H Uf 1 s.1.1 s.2.2.1/\Us 1 s.1.2 s.2.2.1.length/\
   Own H.length G SL 1 s.2.1.1 s.2.1.2 s.2.2.2/\s.2.2.2.length<=100/\s.2.2.1.length<=b.length/\UN 100 b=(UN (100-s.2.2.2.length) s.2.2.1).map (s.2.2.2++·)) ((p,k),(none,0),b,[])
  ⟨(by simp only [FB,Nat.reduceEqDiff]),(by simp only [Nn,FB,Nat.reduceEqDiff]),Chg.refl.app,hs,hk,Own.nil,by simp,Nd _,by simp⟩ ?_
 rintro ⟨⟨q,c⟩,⟨q2,c2⟩,r,out⟩ fr G ⟨v,w,m,hS,e,R,I,t,hp⟩ hN
 simp only at v w m hS e R I t hp
 rw [QG Nuy.eq_1]
 refine NI ?_
 have aa:lim<=G.length:=by have:=m.len;omega
 have g:UN (100-out.length) r=none->Q (.tuple #[Vz,Vi 421]) (G++[]):=fun h=>by
  have K:Mr b=([],421):=by simp [Mr,Nh L,hp,h]
  have:=T none 0 (G++[]) m.app (by rw [K];exact Own.nil)
  rw [K] at this
  exact this
 match r with
 | []=>
   simp only [n69,r69,v,w,SB,Nat.reduceLT,NC,NH,Nat.reduceEqDiff,NG,NT,reduceCtorEq,ND,place,NA,Nat.reduceAdd,Nat.reduceLeDiff,NE,Int.reduceEq,Int.reduceLT,Int.reduceLE]
   have K:Mr b=(out,0):=by simp [Mr,Nh L,hp,UN]
   have:=T q2 c2 (G++[]) m.app (by rw [K];exact R.app _)
   rw [K] at this
   exact this
 | [x]=>
   simp only [n69,r69,v,w,SB,Nat.reduceLT,NC,NH,Nat.reduceEqDiff,NG,NT,reduceCtorEq,ND,place,NA,Nat.reduceAdd,Nat.reduceLeDiff,NE,Int.reduceEq,Int.reduceLT,Int.reduceLE]
   refine g ?_
   cases 100-out.length<;>rfl
 | x::y::r=>
   have M:(0:Int)<((r.length+2:Nat):Int):=by omega
   have N:¬((r.length+2:Nat):Int)<2:=by omega
   have f:(x::y::r).length=r.length+2:=rfl
   rw [f] at v
   by_cases C:out.length=100
   ·have d:((out.length:Nat):Int)=100:=by omega
    simp only [n69,r69,v,w,M,N,d,SB,Nat.reduceLT,NC,NH,Nat.reduceEqDiff,NG,NT,reduceCtorEq,ND,place,NA,Nat.reduceAdd,Nat.reduceLeDiff,NE,Int.reduceEq,Int.reduceLT,Int.reduceLE]
    refine g ?_
    rw [C];rfl
   ·have d:¬((out.length:Nat):Int)=100:=by omega
    have D:=fun X=>(m.sl hS (by simp)).app X
    have i0:∀c (k:IntKind) (H1:NB),X7 1 (.slice q (r.length+2) c) (.int k 0) H1=some (.pointer (some (Xx q 1 0)),H1):=fun c k H1=>hS.idx (i:=0) (by simp)
    have U:∀c (k:IntKind) (H1:NB),X7 1 (.slice q (r.length+2) c) (.int k 1) H1=some (.pointer (some (Xx q 1 1)),H1):=fun c k H1=>hS.idx (i:=1) (by simp)
    have l0:∀X,AM.loadCell (G++X) (Xx q 1 0)=some (.int .u8 x.toNat):=fun X=>((D X).loadCell0 Rv (i:=0) (by simp) (by decide)).trans rfl
    have l1:∀X,AM.loadCell (G++X) (Xx q 1 1)=some (.int .u8 y.toNat):=fun X=>((D X).loadCell0 Rv (i:=1) (by simp) (by decide)).trans rfl
    have hx:=x.toNat_lt
    have hy:=y.toNat_lt
    have V:IntKind.i64.wrap ((x.toNat:Nat):Int)=(x.toNat:Int):=QJ (by omega) (by omega)
    have W:IntKind.i64.wrap ((y.toNat:Nat):Int)=(y.toNat:Int):=QJ (by omega) (by omega)
    have O:=Nkl (n:=x.toNat) (y:=y) (by omega)
    have en:x.toNat*256+y.toNat=SN x y:=rfl
    rw [en] at O
    have Z:IntKind.i64.wrap (((r.length+2:Nat):Int)-2)=(r.length:Int):=by rw [QJ (by simp at t;omega) (by simp at t;omega)];omega
    have A:UN (100-out.length) (x::y::r)=if SN x y<=1000/\SN x y<=r.length then (UN (100-(out.length+1)) (r.drop (SN x y))).map (⟨(r.take (SN x y)).toArray⟩::·) else none:=by
     rw [show 100-out.length=(100-(out.length+1))+1 by omega];rfl
    by_cases h1:1000<SN x y
    ·have j:(1000:Int)<(SN x y:Int):=by omega
     simp only [n69,r69,v,w,M,N,d,i0,U,l0,l1,V,W,O,j,SB,Nat.reduceLT,NC,NH,Nat.reduceEqDiff,NG,NT,reduceCtorEq,ND,place,NA,Nat.reduceAdd,Nat.reduceLeDiff,NE,Int.reduceEq,Int.reduceLT,Int.reduceLE]
     refine g ?_
     rw [A,Nh (by omega)]
    have j:¬(1000:Int)<(SN x y:Int):=by omega
    by_cases h2:r.length<SN x y
    ·simp only [n69,r69,v,w,M,N,d,i0,U,l0,l1,V,W,O,Z,j,h2,SB,Nat.reduceLT,NC,NH,Nat.reduceEqDiff,NG,NT,reduceCtorEq,ND,place,NA,Nat.reduceAdd,Nat.reduceLeDiff,NE,Int.reduceEq,Int.reduceLT,Int.reduceLE]
     refine g ?_
     rw [A,Nh (by omega)]
    have w2:IntKind.i64.wrap (2+(SN x y:Int))=((2+SN x y:Nat):Int):=by rw [QJ (by omega) (by omega)];omega
    rw [f] at e t
    obtain ⟨p1,c1,e1,s1,_,_,z1⟩:=Tz (vlo:=some (Vi 2)) (vhi:=some (Vi ((2+SN x y:Nat):Int))) (lo:=2) (hi:=2+SN x y) hS e Rv (fun cap e=>by rw [Ne3 (by omega) (by omega) (by simp at e;omega)];simp;omega) (by omega) (by simp;omega) (by simp;omega)
    obtain ⟨p2,B,e2,Y,k2,_,_⟩:=Tz (vlo:=some (Vi ((2+SN x y:Nat):Int))) (vhi:=none) (lo:=2+SN x y) (hi:=r.length+2) hS e Rv (fun cap e=>by rw [Z7 (by omega) (by simp;omega)];simp;omega) (by omega) (by simp) (by simp;omega)
    rw [show ((x::y::r).take (2+SN x y)).drop 2=r.take (SN x y) by rw [show 2+SN x y=SN x y+1+1 by omega];rfl] at s1
    rw [show ((x::y::r).take (r.length+2)).drop (2+SN x y)=r.drop (SN x y) by rw [N9 (by simp),show 2+SN x y=SN x y+1+1 by omega];rfl] at Y
    have ln:(r.take (SN x y)).length=SN x y:=by simp;omega
    have u:(r.drop (SN x y)).length=r.length+2-(2+SN x y):=by simp;omega
    have F:=fun X=>Nwy (c:=c1) ((m.sl s1 (by simp)).app X) (fun _ a ha=>by
     have h0:=z1 (by simp) a ha
     obtain ⟨b',o,sp⟩:=a
     rw [NW] at h0⊢
     cases hh:NF H b' with
     | cells ro cs=>rw [hh] at h0;rw [(QP.refl.app).cells (m.cells hh (by simp))];exact h0
     | _=>rw [hh] at h0;cases h0)
    rw [ln] at F
    rw [f,Pj] at e1
    rw [f,<-u] at e2
    obtain ⟨G2,J,S,P,_⟩:=R.step (lim':=lim) (bytes:=16) hl Ru (by decide) (⟨(r.take (SN x y)).toArray⟩:ByteArray) (by unfold PQ;omega) (by omega) m.len [Vc (SL ⟨(r.take (SN x y)).toArray⟩)] G.length 1 (by rw [NU];rfl)
    simp only [SL] at J
    simp only [n69,r69,v,w,M,N,d,i0,U,l0,l1,V,W,O,Z,j,h2,w2,e1,e2,F,J,SB,Nat.reduceLT,NC,NH,Nat.reduceEqDiff,NG,NT,reduceCtorEq,ND,place,NA,Nat.reduceAdd,Nat.reduceLeDiff,NE,Int.reduceEq,Int.reduceLT,Int.reduceLE]
    refine hN ((p2,B),(Sa (G.length+1),loose 1),r.drop (SN x y),out++[⟨(r.take (SN x y)).toArray⟩]) _ _ ⟨(by simp only [FB,Nat.reduceEqDiff]),(by simp only [Nk,Nm,Nn,FB,Nat.reduceEqDiff]),P _ _ (Nd _) m,Y, ?_,S, ?_, ?_, ?_⟩ ?_
    ·show Us 1 B (r.drop (SN x y)).length
     rw [u];exact k2
    ·show (out++[_]).length<=100
     simp;omega
    ·show (r.drop (SN x y)).length<=b.length
     rw [u];omega
    ·show UN 100 b=(UN (100-(out++[_]).length) (r.drop (SN x y))).map ((out++[_])++·)
     rw [hp,A,Nj (by omega),Option.map_map,Nk]
     congr 1
     funext l
     simp
    ·show (r.drop (SN x y)).length<(x::y::r).length
     rw [u,f];omega
structure SecAt (H:NB) (a:Addr) (s:Rh):Prop where
 spot:a.spot=none
 cells:AM.loadCells H a 32=some (Sr s)
theorem XJ {H G:NB} {a:Addr} {n:Nat} {c:List Value} (h:AM.loadCells H a n=some c) (b:NF G a.block=NF H a.block):AM.loadCells G a n=some c:=by
 unfold AM.loadCells at h⊢
 rw [b];exact h
theorem YK {H:NB} {a:Addr} {n:Nat} {c:List Value} (h:AM.loadCells H a n=some c):a.block<H.length:=by
 unfold AM.loadCells at h
 split at h
 ·rename_i hb;exact NJ hb
 ·cases h
theorem SecAt.app {H:NB} {a:Addr} {s:Rh} (h:SecAt H a s) (X:NB):SecAt (H++X) a s:=⟨h.spot,XJ h.cells (NZ (YK h.cells))⟩
theorem SecAt.chg {A:List Nat} {H G:NB} {a:Addr} {s:Rh} (h:SecAt H a s) (hc:Chg A H G) (b:a.block∉A):SecAt G a s:=⟨h.spot,XJ h.cells (hc.other _ (YK h.cells) b)⟩
theorem Nm9 (s:Rh):Sr s=s.toList.flatMap Uf:=by
 unfold Sr
 induction s.toList with
 | nil=>rfl
 | cons b l ih=>rw [Og,Oi,ih];rfl
theorem Xp (s:Rh):s.toList.length=32:=by simp
theorem SecAt.sl {H:NB} {a:Addr} {s:Rh} (h:SecAt H a s):Sl H Uf 1 (some a) s.toList:=Sl.of_load h.spot Rv (by rw [Xp,<-Nm9];exact h.cells)
theorem SecAt.cell {H:NB} {a:Addr} {s:Rh} (h:SecAt H a s) {i:Nat} (hi:i<32):AM.loadCell H (a.add i)=some (.int .u8 (gt s.toList i).toNat):=by
 have h1:=h.sl.loadCell0 Rv (i:=i) (by rw [Xp];exact hi) (by decide)
 simp only [Xx,addrOf,Oc,N8] at h1
 exact h1.trans rfl
theorem SecAt.of_elt {H:NB} {p:Option Addr} {l:List Rh} (h:Sl H Sr 32 p l) {i:Nat} (hi:i<l.length):SecAt H (Xx p 32 i) (gt l i):=by
 refine ⟨?_,h.loadCells RS hi⟩
 obtain ⟨a,rfl⟩:=h.some (by rintro rfl;simp at hi)
 exact Nnt h.1
theorem SecAt.row {H:NB} {R:Nat} {ro:Bool} {s:Rh} (h:NF H R=.cells ro (Sr s)):SecAt H ⟨R,0,none⟩ s:=⟨rfl,by rw [NW,h];simp [RS,UB]⟩
def numOf (l:List UInt8):Nat:=l.foldl (fun n b=>n*256+b.toNat) 0
def Rl (s:Rh) (at':Nat):Nat:=numOf ((s.toList.drop at').take 4)
theorem Niz {l:List UInt8} {b:UInt8}:numOf (l++[b])=numOf l*256+b.toNat:=by simp [numOf]
theorem Ngp (l:List UInt8):numOf l<256 ^ l.length:=by
 have key:∀(l:List UInt8) (n:Nat),l.foldl (fun n b=>n*256+b.toNat) n<(n+1)*256 ^ l.length:=by
  intro l
  induction l with
  | nil=>intro n;simp
  | cons b l ih=>
    intro n
    have h1:=ih (n*256+b.toNat)
    have h2:=b.toNat_lt
    have a:(n*256+b.toNat+1)*256 ^ l.length<=((n+1)*256)*256 ^ l.length:=Ol _ (by omega)
    rw [Pc,Nm,Nat.pow_succ,Nat.mul_comm (256 ^ l.length) 256,<-Nat.mul_assoc]
    omega
 have:=key l 0
 simpa [numOf] using this
theorem Yh [OA] {mp:Bool} {lim n:Nat} {a:Addr} {s:Rh} {H:NB} {Q:Value->NB->Prop} (h:SecAt H a s) (hn:n+4<=32) :
  NQ E mp lim 120 [.pointer (some a),Vi n] H Q=Q (Vi (Rl s n:Int)) H:=by
 refine pc (by decide) Nzg rfl rfl ?_
 rw [Nz9,Nwq]
 have z:IntKind.i64.wrap ((n:Int)+4)=((n+4:Nat):Int):=by rw [QJ (by omega) (by omega)];omega
 have hc:=UC (n:=32) (e:=1) (a:=a) (lo:=n) (hi:=n+4) (vlo:=some (Vi n)) (vhi:=some (Vi ((n+4:Nat):Int))) (by rw [Ne3 (by omega) (by omega) (by omega)];simp;omega) (by decide) (by omega)
 rw [N8,Pj] at hc
 simp only [n120,Nve,z,hc,SB,Nat.reduceLT,NC,NH,Nat.reduceEqDiff,NG,NT,reduceCtorEq,ND,place,NA,Nat.reduceAdd,Nat.reduceLeDiff,NE,Int.reduceEq,Int.reduceLT,Int.reduceLE]
 have j:Sl H Uf 1 (some (a.add n)) ((s.toList.take (n+4)).drop n):=by
  have:=h.sl.sub Rv (lo:=n) (hi:=n+4) (by omega) (by rw [Xp];exact hn)
  rwa [N8] at this
 have hl:(s.toList.take (n+4)).drop n=(s.toList.drop n).take 4:=by rw [List.drop_take,Pj]
 rw [hl] at j
 have d:((s.toList.drop n).take 4).length=4:=by simp;omega
 unfold Rl
 generalize (s.toList.drop n).take 4=l at j d
 refine QD (fun i=>4-i) (fun i fr G=>i<=4/\fr 5=Vi (numOf (l.take i):Int)/\fr 13=.slice (some (a.add n)) 4 (32-n)/\fr 14=Vi 4/\fr 15=Vi i/\QP H G) 0
  ⟨N7 _,by rfl,(by simp only [FB,Nat.reduceEqDiff]),(by simp only [FB,Nat.reduceEqDiff]),by rfl,QP.refl.app⟩ ?_
 intro i fr G ⟨hi,p,f,g,m,t⟩ w
 rw [QG Nq5.eq_1]
 refine NI ?_
 by_cases x:i<4
 ·have o:(i:Int)<4:=by omega
  have u:=t.sl j
  have q:=fun X=>(u.app X).loadCell0 Rv (i:=i) (by omega) (by decide)
  have b:=fun c (k:IntKind) (H1:NB)=>u.idx (c:=c) (k:=k) (H1:=H1) (i:=i) (by omega)
  rw [d] at b
  have r:IntKind.i64.wrap ((i:Int)+1)=((i+1:Nat):Int):=QU (by omega)
  have v:numOf (l.take i)<2 ^ 32:=by
   have h1:=Ngp (l.take i)
   have h2:(l.take i).length<=4:=by simp;omega
   have C:256 ^ (l.take i).length<=256 ^ 4:=Nat.pow_le_pow_right (by decide) h2
   omega
  have B:=Nkl (n:=numOf (l.take i)) (y:=gt l i) (by omega)
  have A:IntKind.i64.wrap ((gt l i).toNat:Int)=((gt l i).toNat:Int):=by
   have:=(gt l i).toNat_lt
   exact QJ (by omega) (by omega)
  simp only [n120,Nve,p,f,g,m,o,b,q,Nwa,A,B,r,SB,Nat.reduceLT,NC,NH,Nat.reduceEqDiff,NG,NT,reduceCtorEq,ND,place,NA,Nat.reduceAdd,Nat.reduceLeDiff,NE,Int.reduceEq,Int.reduceLT,Int.reduceLE]
  exact w (i+1) _ _ ⟨by omega,by rw [Sk (by omega),Niz];exact (by simp only [FB,Nat.reduceEqDiff]),(by simp only [f,FB,Nat.reduceEqDiff]),(by simp only [g,FB,Nat.reduceEqDiff]),(by simp only [FB,Nat.reduceEqDiff]),t.app⟩ (by omega)
 obtain rfl:i=4:=by omega
 rw [N9 (by omega)] at p
 simp only [n120,Nve,p,f,g,m,SB,Nat.reduceLT,NC,NH,Nat.reduceEqDiff,NG,NT,reduceCtorEq,ND,place,NA,Nat.reduceAdd,Nat.reduceLeDiff,NE,Int.reduceEq,Int.reduceLT,Int.reduceLE]
theorem Na0 [OA] {mp:Bool} {lim:Nat} {a:Addr} {s:Rh} {H:NB} {Q:Value->NB->Prop} (h:SecAt H a s) :
  NQ E mp lim 121 [.pointer (some a)] H Q=Q (.int .u8 (gt s.toList 12).toNat) H:=by
 refine pc (by decide) Nzf rfl rfl ?_
 rw [Nz8,Nwp]
 have hc:=fun X=>(h.app X).cell (i:=12) (by decide)
 simp only [n121,Nyl,hc,N8,Int.reduceToNat,SB,Nat.reduceLT,NC,NH,Nat.reduceEqDiff,NG,NT,reduceCtorEq,ND,place,NA,Nat.reduceAdd,Nat.reduceLeDiff,NE,Int.reduceEq,Int.reduceLT,Int.reduceLE]
def fl (s:Rh):Nat:=(gt s.toList 12).toNat
def ln (s:Rh):Nat:=(gt s.toList 13).toNat
def QK (s:Rh) (n:Nat):Bool:=
 decide (1<=Rl s 0/\Rl s 0<=1073741824/\1<=Rl s 4/\Rl s 4<=1073741824/\Rl s 8=n/\fl s<=3/\ln s<=18/\(fl s<2->ln s=18))&&decide (s.toList.drop (14+ln s)=List.replicate (18-ln s) 0)
theorem Nxx {f:Nat} (h:f<=3):(IntKind.u8.wrap ((BitVec.ofInt IntKind.u8.bits (f:Int) &&& BitVec.ofInt IntKind.u8.bits 2).toNat:Int)=0)=(f<2):=by
 have:f=0\/f=1\/f=2\/f=3:=by omega
 rcases this with rfl | rfl | rfl | rfl<;>simp<;>decide
theorem Nyx {a b:List UInt8} (e:a.length=18) (hb:b.length=18):VR (.agg [.int .u8,.int .u8,.int .u8,.int .u8,.int .u8,.int .u8,.int .u8,.int .u8,.int .u8,.int .u8,.int .u8,.int .u8,.int .u8,.int .u8,.int .u8,.int .u8,.int .u8,.int .u8]) (.agg (a.map u8).toArray) (.agg (b.map u8).toArray)=some (decide (a=b)):=by
 show PS (List.replicate 18 (.int .u8)) (a.map u8) (b.map u8)=_
 obtain ⟨t,h1,h2⟩:=Mi (.int .u8) 18 (a.map u8) (b.map u8) (by simpa using e) (by simpa using hb) (by
  intro x c y d
  simp only [List.mem_map] at c d
  obtain ⟨x,_,rfl⟩:=c
  obtain ⟨y,_,rfl⟩:=d
  refine ⟨_,rfl, ?_⟩
  rw [beq_iff_eq,No5]
  constructor
  ·intro h;exact UInt8.toNat_inj.1 (by omega)
  ·rintro rfl;rfl)
 rw [h1]
 congr 1
 rw [Q0,h2,Nx]
 constructor
 ·intro h
  apply O4 (by omega)
  intro i f g
  have:=Qj (fun l=>l[i]?) h
  simpa [Nf f,Nf g,No5] using this
 ·rintro rfl;rfl
theorem Yr (n:Nat):List.replicate n (Value.int .u8 0)=(List.replicate n (0:UInt8)).map u8:=by simp [u8]
theorem Nlj {lim:Nat} {a:Addr} {s:Rh} {H:NB} (h:SecAt H a s) (hl:ln s<18) (f:lim<=H.length) {c:Nat} :
  copyV lim 1 (.slice (Sa H.length) 18 18) (.slice (some (a.add (14+ln s))) (32-(14+ln s)) c) (H++[Vc (List.replicate 18 (.int .u8 0))])=some (Vi ((18-ln s:Nat):Int),H++[Vc ((s.toList.drop (14+ln s)++List.replicate (ln s) 0).map u8)]):=by
 have e:=(h.app [Vc (List.replicate 18 (.int .u8 0))]).sl.sub Rv (lo:=14+ln s) (hi:=32) (by omega) (by rw [Xp];exact Nd _)
 rw [N9 (by rw [Xp];exact Nd _),N8] at e
 have d:(s.toList.drop (14+ln s)).length=18-ln s:=by simp;omega
 obtain ⟨a',e1,e2⟩:=e.cells (by intro h;rw [h] at d;simp at d;omega)
 cases e1
 rw [d,N8] at e2
 have i:(s.toList.drop (14+ln s)).flatMap Uf=(s.toList.drop (14+ln s)).map u8:=by
  induction s.toList.drop (14+ln s) with
  | nil=>rfl
  | cons b l ih=>rw [Og,Oi,ih];rfl
 rw [i] at e2
 have h0:¬18-ln s=0:=by omega
 simp only [copyV,lenOf,show 32-(14+ln s)=18-ln s by omega,Ph (show 18-ln s<=18 by omega),RL,N8,e2,h0,if_false]
 have g:=XV ((s.toList.drop (14+ln s)).map u8) [] (List.replicate (18-ln s) (.int .u8 0)) (List.replicate (ln s) (.int .u8 0)) (by simp;omega)
 rw [N4,N4,P3,show 18-ln s+ln s=18 by omega,Nn] at g
 simp only [RQ,NU,List.getD_cons_zero]
 rw [Nj ⟨f,by simp;omega⟩,g,Y1,Px,Po,<-Yr]
 rfl
theorem Nc6 [OA] {mp:Bool} {lim n:Nat} {a:Addr} {s:Rh} {H:NB} {Q:Value->NB->Prop} (h:SecAt H a s) (hn:n<2 ^ 40) :
  NQ E mp lim 119 [.pointer (some a),Vi n] H Q=Q (.bool (QK s n)) H:=by
 refine pc (by decide) Nzh rfl rfl ?_
 rw [N0a,c119]
 have A:=fun X=>h.app X
 have g:=fun X (mp:Bool) (lim:Nat) (Q:Value->NB->Prop)=>Yh (mp:=mp) (lim:=lim) (Q:=Q) (n:=0) (A X) (by decide)
 have j:=fun X (mp:Bool) (lim:Nat) (Q:Value->NB->Prop)=>Yh (mp:=mp) (lim:=lim) (Q:=Q) (n:=4) (A X) (by decide)
 have k:=fun X (mp:Bool) (lim:Nat) (Q:Value->NB->Prop)=>Yh (mp:=mp) (lim:=lim) (Q:=Q) (n:=8) (A X) (by decide)
 have m:∀X (mp:Bool) (lim:Nat) (Q:Value->NB->Prop),NQ E mp lim 121 [.pointer (some a)] (H++X) Q=Q (.int .u8 (fl s:Int)) (H++X):=fun X mp lim Q=>Na0 (A X)
 simp only [N6] at g j k
 have hc:=fun X=>(A X).cell (i:=13) (by decide)
 have hb:=(gt s.toList 13).toNat_lt
 have r:IntKind.i64.wrap ((gt s.toList 13).toNat:Int)=(ln s:Int):=QJ (by omega) (by omega)
 have no:∀p:Prop,(p->QK s n=false)->p->Value.bool false=Value.bool (QK s n):=fun p h hp=>by rw [h hp]
 by_cases h1:(Rl s 0:Int)<1
 ·simp only [n119,Nac,g,j,k,m,hc,r,N8,Int.reduceToNat,h1,SB,Nat.reduceLT,NC,NH,Nat.reduceEqDiff,NG,NT,reduceCtorEq,ND,place,NA,Nat.reduceAdd,Nat.reduceLeDiff,NE,Int.reduceEq,Int.reduceLT,Int.reduceLE]
  exact no _ (fun h=>by simp only [QK,Bool.and_eq_false_iff,decide_eq_false_iff_not];left;omega) h1
 by_cases h2:(1073741824:Int)<(Rl s 0:Int)
 ·simp only [n119,Nac,g,j,k,m,hc,r,N8,Int.reduceToNat,h1,h2,SB,Nat.reduceLT,NC,NH,Nat.reduceEqDiff,NG,NT,reduceCtorEq,ND,place,NA,Nat.reduceAdd,Nat.reduceLeDiff,NE,Int.reduceEq,Int.reduceLT,Int.reduceLE]
  exact no _ (fun h=>by simp only [QK,Bool.and_eq_false_iff,decide_eq_false_iff_not];left;omega) h2
 by_cases t:(Rl s 4:Int)<1
 ·simp only [n119,Nac,g,j,k,m,hc,r,N8,Int.reduceToNat,h1,h2,t,SB,Nat.reduceLT,NC,NH,Nat.reduceEqDiff,NG,NT,reduceCtorEq,ND,place,NA,Nat.reduceAdd,Nat.reduceLeDiff,NE,Int.reduceEq,Int.reduceLT,Int.reduceLE]
  exact no _ (fun h=>by simp only [QK,Bool.and_eq_false_iff,decide_eq_false_iff_not];left;omega) t
 by_cases u:(1073741824:Int)<(Rl s 4:Int)
 ·simp only [n119,Nac,g,j,k,m,hc,r,N8,Int.reduceToNat,h1,h2,t,u,SB,Nat.reduceLT,NC,NH,Nat.reduceEqDiff,NG,NT,reduceCtorEq,ND,place,NA,Nat.reduceAdd,Nat.reduceLeDiff,NE,Int.reduceEq,Int.reduceLT,Int.reduceLE]
  exact no _ (fun h=>by simp only [QK,Bool.and_eq_false_iff,decide_eq_false_iff_not];left;omega) u
 by_cases I:Rl s 8=n
 case neg=>
  simp only [n119,Nac,g,j,k,m,hc,r,N8,Int.reduceToNat,h1,h2,t,u,I,SB,Nat.reduceLT,NC,NH,Nat.reduceEqDiff,NG,NT,reduceCtorEq,ND,place,NA,Nat.reduceAdd,Nat.reduceLeDiff,NE,Int.reduceEq,Int.reduceLT,Int.reduceLE]
  exact no _ (fun h=>by simp only [QK,Bool.and_eq_false_iff,decide_eq_false_iff_not];left;omega) I
 have d:=Pz I
 by_cases x:(3:Int)<(fl s:Int)
 ·simp only [n119,Nac,g,j,k,m,hc,r,N8,Int.reduceToNat,h1,h2,t,u,d,x,SB,Nat.reduceLT,NC,NH,Nat.reduceEqDiff,NG,NT,reduceCtorEq,ND,place,NA,Nat.reduceAdd,Nat.reduceLeDiff,NE,Int.reduceEq,Int.reduceLT,Int.reduceLE]
  exact no _ (fun h=>by simp only [QK,Bool.and_eq_false_iff,decide_eq_false_iff_not];left;omega) x
 by_cases z:(18:Int)<(ln s:Int)
 ·simp only [n119,Nac,g,j,k,m,hc,r,N8,Int.reduceToNat,h1,h2,t,u,d,x,z,SB,Nat.reduceLT,NC,NH,Nat.reduceEqDiff,NG,NT,reduceCtorEq,ND,place,NA,Nat.reduceAdd,Nat.reduceLeDiff,NE,Int.reduceEq,Int.reduceLT,Int.reduceLE]
  exact no _ (fun h=>by simp only [QK,Bool.and_eq_false_iff,decide_eq_false_iff_not];left;omega) z
 have v:=Nxx (f:=fl s) (by omega)
 have e18:((ln s:Int)=18)=(ln s=18):=by apply propext;omega
 by_cases F:fl s<2/\¬ln s=18
 ·simp only [n119,Nac,g,j,k,m,hc,r,N8,Int.reduceToNat,h1,h2,t,u,d,x,z,v,e18,F.1,F.2,SB,Nat.reduceLT,NC,NH,Nat.reduceEqDiff,NG,NT,reduceCtorEq,ND,place,NA,Nat.reduceAdd,Nat.reduceLeDiff,NE,Int.reduceEq,Int.reduceLT,Int.reduceLE]
  exact no _ (fun h=>by simp only [QK,Bool.and_eq_false_iff,decide_eq_false_iff_not];left;omega) F
 have M:QK s n=decide (s.toList.drop (14+ln s)=List.replicate (18-ln s) 0):=by
  unfold QK
  rw [Of (by omega),Bool.true_and]
 rw [M]
 have N:IntKind.i64.wrap (14+(ln s:Int))=((14+ln s:Nat):Int):=by rw [QJ (by omega) (by omega)];omega
 have s1:∀b:Nat,U6 18 1 (Vp b) none none none=some (.slice (Sa b) 18 18):=fun b=>by
  have:=UC (n:=18) (e:=1) (a:=⟨b,0,none⟩) (lo:=0) (hi:=18) (vlo:=none) (vhi:=none) Nwx (by decide) (by decide)
  rw [this];simp [addr_add]
 have B:∀l:List UInt8,l.length=18->VR (.agg [.int .u8,.int .u8,.int .u8,.int .u8,.int .u8,.int .u8,.int .u8,.int .u8,.int .u8,.int .u8,.int .u8,.int .u8,.int .u8,.int .u8,.int .u8,.int .u8,.int .u8,.int .u8]) (.agg (l.map u8).toArray) (.agg [.int .u8 0,.int .u8 0,.int .u8 0,.int .u8 0,.int .u8 0,.int .u8 0,.int .u8 0,.int .u8 0,.int .u8 0,.int .u8 0,.int .u8 0,.int .u8 0,.int .u8 0,.int .u8 0,.int .u8 0,.int .u8 0,.int .u8 0,.int .u8 0].toArray)=some (decide (l=List.replicate 18 0)):=fun l hl=>Nyx (b:=List.replicate 18 0) hl rfl
 have L:∀l:List UInt8,l.length=18->(l.map u8).length=18:=fun l hl=>by simpa using hl
 by_cases o:ln s=18
 ·have w:IntKind.i64.wrap (14+18)=32:=by decide
  have D:U6 32 1 (.pointer (some a)) (some (Vi 32)) none none=some (.slice (some a) 0 0):=by
   simp only [U6,O7,Ns,Nbj,unV,Z7 (k1:=.i64) (l:=32) (len:=32) (cap:=32) (by decide) (by decide)]
   rfl
  have cp:∀b H1,copyV H.length 1 (.slice (Sa b) 18 18) (.slice (some a) 0 0) H1=(RL H1 1 0 (.slice (some a) 0 0)).map fun _=>(Vi 0,H1):=fun b H1=>by
   simp only [copyV,lenOf,Nat.zero_min]
   cases RL H1 1 0 (.slice (some a) 0 0)<;>rfl
  have cc:∀X,AM.loadCells (H++X) a 0=some []:=fun X=>by
   have:=(A X).cells
   unfold AM.loadCells at this⊢
   split at this
   ·rename_i ro c T
    split at this
    ·rw [Nj (by omega)];rfl
    ·cases this
   ·cases this
  have G:=B (List.replicate 18 0) rfl
  rw [<-Yr] at G
  have O:List.replicate 18 (Value.int .u8 0)=[.int .u8 0,.int .u8 0,.int .u8 0,.int .u8 0,.int .u8 0,.int .u8 0,.int .u8 0,.int .u8 0,.int .u8 0,.int .u8 0,.int .u8 0,.int .u8 0,.int .u8 0,.int .u8 0,.int .u8 0,.int .u8 0,.int .u8 0,.int .u8 0]:=rfl
  rw [O] at G
  have S:s.toList.drop (14+ln s)=List.replicate (18-ln s) 0:=by rw [o];exact Pw (by simp)
  have e17:Value.int .i64 (ln s:Int)=Vi 18:=by rw [o];rfl
  have R:decide (List.replicate 18 (0:UInt8)=List.replicate 18 0)=true:=by decide
  by_cases P:fl s<2
  ·simp only [n119,Nac,g,j,k,m,hc,r,N8,Int.reduceToNat,h1,h2,t,u,d,x,z,v,Pz o,w,s1,D,cp,cc,RL,Ou,e17,P,G,O,R,SB,Nat.reduceLT,NC,NH,Nat.reduceEqDiff,NG,NT,reduceCtorEq,ND,place,NA,Nat.reduceAdd,Nat.reduceLeDiff,NE,Int.reduceEq,Int.reduceLT,Int.reduceLE]
   rw [S,Of rfl]
  ·simp only [n119,Nac,g,j,k,m,hc,r,N8,Int.reduceToNat,h1,h2,t,u,d,x,z,v,Pz o,w,s1,D,cp,cc,RL,Ou,e17,P,G,O,R,SB,Nat.reduceLT,NC,NH,Nat.reduceEqDiff,NG,NT,reduceCtorEq,ND,place,NA,Nat.reduceAdd,Nat.reduceLeDiff,NE,Int.reduceEq,Int.reduceLT,Int.reduceLE]
   rw [S,Of rfl]
 ·have J:¬fl s<2:=fun h=>F ⟨h,o⟩
  have D:=UC (n:=32) (e:=1) (a:=a) (lo:=14+ln s) (hi:=32) (vlo:=some (Vi ((14+ln s:Nat):Int))) (vhi:=none) (by rw [Z7 (by omega) (by omega),O5]) (by decide) (by omega)
  rw [N8] at D
  have y:=Nlj (c:=32-(14+ln s)) (lim:=H.length) h (by omega) (Nd _)
  rw [show List.replicate 18 (Value.int .u8 0)=[.int .u8 0,.int .u8 0,.int .u8 0,.int .u8 0,.int .u8 0,.int .u8 0,.int .u8 0,.int .u8 0,.int .u8 0,.int .u8 0,.int .u8 0,.int .u8 0,.int .u8 0,.int .u8 0,.int .u8 0,.int .u8 0,.int .u8 0,.int .u8 0] from rfl] at y
  have q:(s.toList.drop (14+ln s)++List.replicate (ln s) 0).length=18:=by simp;omega
  generalize K:s.toList.drop (14+ln s)++List.replicate (ln s) 0=l at y q
  have C:decide (l=List.replicate 18 0)=decide (s.toList.drop (14+ln s)=List.replicate (18-ln s) 0):=by
   rw [decide_eq_decide,<-K]
   constructor
   ·intro h
    have:=Qj (List.take (18-ln s)) h
    rw [List.take_left' (by simp;omega),List.take_replicate,Ph (by omega)] at this
    exact this
   ·intro h
    rw [h,P3]
    congr 1
    omega
  simp only [n119,Nac,g,j,k,m,hc,r,N8,Int.reduceToNat,h1,h2,t,u,d,x,z,v,J,N,s1,D,y,B l q,L l q,UB,C,SB,Nat.reduceLT,NC,NH,Nat.reduceEqDiff,NG,NT,reduceCtorEq,ND,place,NA,Nat.reduceAdd,Nat.reduceLeDiff,NE,Int.reduceEq,Int.reduceLT,Int.reduceLE]
theorem Nkz [OA] {lim D S sc g:Nat} {sp pp:Option Addr} {safe:List Rh} {pend:List Wr} {H:NB} {Q:Value->NB->Prop}
  (j:NF H D=Vc [.slice sp safe.length sc,.slice pp pend.length g]) (d:lim<=D) (hS:safe≠[]->sp=Sa S/\NF H S=Vc (safe.flatMap Sr)/\lim<=S) (c:S≠D)
  (k:Sl H Wo 33 pp pend) (b:∀a,pp=some a->pend≠[]->a.block≠S/\a.block≠D)
  (e:safe.length<2 ^ 60) (f:pend.length<2 ^ 60)
  (l:∀H',Chg [S,D] H H'->NF H' D=Vc [.slice sp safe.length sc,Vz]->(safe≠[]->NF H' S=Vc ((QS [] pend safe).flatMap Sr))->Q (.tuple #[]) H') :
  NQ E false lim 79 [Vp D] H Q:=by
 refine runs (by decide) e79 rfl ?_
 rw [b79,c79]
 simp only [n79,r79,SB,Nat.reduceLT,NC,NH,Nat.reduceEqDiff,NG,NT,reduceCtorEq,ND,place,NA,Nat.reduceAdd,Nat.reduceLeDiff,NE,Int.reduceEq,Int.reduceLT,Int.reduceLE]
 refine Nhr (lost:=[]) ((QP.refl.app (X:=[])).cells j) d (fun h=>⟨(hS h).1,(QP.refl.app (X:=[])).cells (hS h).2.1,(hS h).2.2⟩) c (k.app _) b rfl (fun a h=>by cases h) e f (by decide) rfl fun H' h1 h2 i=>?_
 refine NI ?_
 simp only [n79,r79,SB,Nat.reduceLT,NC,NH,Nat.reduceEqDiff,NG,NT,reduceCtorEq,ND,place,NA,Nat.reduceAdd,Nat.reduceLeDiff,NE,Int.reduceEq,Int.reduceLT,Int.reduceLE]
 exact l _ (by rw [Nb] at h1⊢;exact h1) (by rw [Nb];exact h2) (by rw [Nb];exact i)
def U8 (m:Int) (i:Nat):Bool:=decide (IntKind.u64.wrap ((BitVec.ofInt IntKind.u64.bits (Int.fdiv m (2 ^ min (i % 64) IntKind.u64.bits)) &&& BitVec.ofInt IntKind.u64.bits 1).toNat:Int)=1)
theorem Ni7 {m:Int} {i:Nat}:decide (IntKind.u64.wrap ((BitVec.ofInt IntKind.u64.bits (Int.fdiv m (2 ^ min (i % 64) IntKind.u64.bits)) &&& BitVec.ofInt IntKind.u64.bits 1).toNat:Int)=1)=U8 m i:=rfl
def WX (m:Int) (n:Nat):List Bool:=(List.range n).map (U8 m)
theorem Ni6 {m:Int} {n:Nat}:WX m (n+1)=WX m n++[U8 m n]:=by simp [WX,List.range_succ]
theorem Va {m:Int} {n:Nat}:(WX m n).length=n:=by simp [WX]
def Xi (n i:Nat):UInt8:=UInt8.ofNat (n / 2 ^ (24-8*i))
def Uq (l:List UInt8) (at' n:Nat):Nat->List UInt8
 | 0=>l
 | i+1=>(Uq l at' n i).set (at'+i) (Xi n i)
theorem Tq {l:List UInt8} {at' n:Nat}:∀i,(Uq l at' n i).length=l.length
 | 0=>rfl
 | i+1=>by rw [Uq,P0,Tq i]
theorem Nr6 {n i:Nat} (hi:i<4):Value.int .u8 (IntKind.u8.wrap (Int.fdiv (n:Int) (2 ^ min (24-8*i) IntKind.i64.bits)))=u8 (Xi n i):=by
 have e:Int.fdiv (n:Int) (2 ^ min (24-8*i) IntKind.i64.bits)=((n / 2 ^ (24-8*i):Nat):Int):=by
  rw [show min (24-8*i) IntKind.i64.bits=24-8*i from Ph (by show 24-8*i<=64;omega),Q3 _ (by exact_mod_cast N7 _)]
  norm_cast
 rw [e]
 simp only [u8,Xi,Value.int.injEq,Qq,UInt8.toNat_ofNat']
 simp only [IntKind.wrap,IntKind.bits,IntKind.signed]
 simp
theorem Ni5 {l:List UInt8} {i:Nat} {b:UInt8}:(l.set i b).map u8=(l.map u8).set i (u8 b):=List.map_set
theorem Nid [OA] {lim R at' n:Nat} {l:List UInt8} {H:NB} {Q:Value->NB->Prop} (y:NF H R=Vc (l.map u8)) (hl:l.length=32) (d:lim<=R) (D:at'+4<=32)
  (B:∀H',Chg [R] H H'->H'.length=H.length->NF H' R=Vc ((Uq l at' n 4).map u8)->Q (.tuple #[]) (H'++[])) :
  NQ E false lim 123 [Vp R,Vi at',Vi n] H Q:=by
 refine runs (by decide) Nzd rfl ?_
 rw [Nz6,Nwn]
 simp only [n123,Nvd,SB,Nat.reduceLT,NC,NH,Nat.reduceEqDiff,NG,NT,reduceCtorEq,ND,place,NA,Nat.reduceAdd,Nat.reduceLeDiff,NE,Int.reduceEq,Int.reduceLT,Int.reduceLE]
 have C:=NJ y
 refine QD (fun i=>4-i) (fun i fr G=>i<=4/\fr 0=Vp R/\fr 1=Vi at'/\fr 2=Vi n/\fr 7=Vi i/\Chg [R] H G/\G.length=H.length/\NF G R=Vc ((Uq l at' n i).map u8)) 0
  ⟨N7 _,(by simp only [FB,Nat.reduceEqDiff]),(by simp only [FB,Nat.reduceEqDiff]),(by simp only [FB,Nat.reduceEqDiff]),by rfl,by rw [Nb];exact Chg.refl,by simp,by rw [Nb];exact y⟩ ?_
 intro i fr G ⟨hi,g,h,j,w,x,c,p⟩ A
 rw [QG Nq4.eq_1]
 refine NI ?_
 by_cases s:i<4
 ·have e:(i:Int)<4:=by omega
  have u:IntKind.i64.wrap ((i:Int)+1)=((i+1:Nat):Int):=QU (by omega)
  have F:IntKind.i64.wrap ((at':Int)+(i:Int))=((at'+i:Nat):Int):=by rw [QJ (by omega) (by omega)];omega
  have w8:IntKind.i64.wrap (8*(i:Int))=((8*i:Nat):Int):=by rw [QJ (by omega) (by omega)];omega
  have v:IntKind.i64.wrap (24-((8*i:Nat):Int))=((24-8*i:Nat):Int):=by rw [QJ (by omega) (by omega)];omega
  have hb:=Nr6 (n:=n) s
  obtain ⟨G',f,m,z⟩:=RN (NJ p) (Vc ((Uq l at' n (i+1)).map u8))
  have q:=fun X=>(QP.refl.app (X:=X)).cells p
  have t:((Uq l at' n i).map u8).length=32:=by rw [Nz,Tq,hl]
  have r:((at'+i:Nat):Int)<32:=by omega
  have k:at'+(i+1)<=32:=by omega
  have a:((Uq l at' n i).map u8).set (at'+i) (u8 (Xi n i))=(Uq l at' n (i+1)).map u8:=by rw [Uq,Ni5]
  have o:IntKind.u8.wrap (Int.fdiv (n:Int) (2 ^ min (24-8*i) IntKind.i64.bits))=((Xi n i).toNat:Int):=by
   simpa only [u8,Value.int.injEq,Qq] using hb
  have b:((Uq l at' n i).map u8).set (at'+i) (.int .u8 (Xi n i).toNat)=(Uq l at' n (i+1)).map u8:=a
  simp only [n123,Nvd,g,h,j,w,e,u,F,w8,v,o,q,r,N8,t,k,b,f,d,Nqo,SB,Nat.reduceLT,NC,NH,Nat.reduceEqDiff,NG,NT,reduceCtorEq,ND,place,NA,Nat.reduceAdd,Nat.reduceLeDiff,NE,Int.reduceEq,Int.reduceLT,Int.reduceLE]
  exact A (i+1) _ _ ⟨by omega,(by simp only [g,FB,Nat.reduceEqDiff]),(by simp only [h,FB,Nat.reduceEqDiff]),(by simp only [j,FB,Nat.reduceEqDiff]),(by simp only [FB,Nat.reduceEqDiff]),(x.mut z (.inl (by simp))).app,by simp [z.len,c],(QP.refl.app).cells m⟩ (by omega)
 obtain rfl:i=4:=by omega
 simp only [n123,Nvd,g,h,j,w,SB,Nat.reduceLT,NC,NH,Nat.reduceEqDiff,NG,NT,reduceCtorEq,ND,place,NA,Nat.reduceAdd,Nat.reduceLeDiff,NE,Int.reduceEq,Int.reduceLT,Int.reduceLE]
 exact B G x c p
def Sv:Nat->Nat->List UInt8->List (Nat×List UInt8)
 | 0,_,_=>[]
 | f+1,fl,b=>if b.length<=18 then [(fl+2,b)] else (fl,b.take 18)::Sv f 0 (b.drop 18)
def W9 (b:List UInt8):List (Nat×List UInt8):=Sv (b.length+1) 1 b
def Ux (x:Nat×List UInt8):List UInt8:=(List.replicate 12 0++[UInt8.ofNat x.1,UInt8.ofNat x.2.length])++x.2++List.replicate (18-x.2.length) 0
theorem UF {x:Nat×List UInt8} (h:x.2.length<=18):(Ux x).length=32:=by simp [Ux];omega
theorem or2 {f:Nat} (h:f<=1):IntKind.u8.wrap ((BitVec.ofInt IntKind.u8.bits (f:Int) ||| BitVec.ofInt IntKind.u8.bits 2).toNat:Int)=((f+2:Nat):Int):=by
 rcases (show f=0\/f=1 by omega) with rfl | rfl<;>decide
theorem Nkm {n:Nat}:R6 false (Vi n) [Vi 18]=some (Vi ((min n 18:Nat):Int)):=by
 simp only [R6,VB,if_true,No,if_false]
 split
 ·rw [Nat.min_eq_right (by omega)];rfl
 ·rw [Ph (by omega)]
theorem Nae {lim R c f:Nat} {p:Option Addr} {b:List UInt8} {H:NB} (o:Sl H Uf 1 p b) (q:b=[]->p=none) (hb:b.length<=18) (t:f<=3) (n:NF H R=Vc ((List.replicate 12 (Value.int .u8 0)++[Value.int .u8 (f:Int),Value.int .u8 (b.length:Int)])++List.replicate 18 (.int .u8 0))) (g:lim<=R) :
  copyV lim 1 (.slice (some ⟨R,14,none⟩) 18 18) (.slice p b.length c) H=some (Vi ((b.length:Nat):Int),H.set R (Vc ((Ux (f,b)).map u8))):=by
 have s:=NJ n
 have a:(List.replicate 12 (Value.int .u8 0)++[Value.int .u8 (f:Int),Value.int .u8 (b.length:Int)])=(List.replicate 12 0++[UInt8.ofNat f,UInt8.ofNat b.length]).map u8:=by
  rw [Po,<-Yr]
  simp only [Og,List.map_nil,u8]
  rw [UInt8.toNat_ofNat_of_lt' (by show f<256;omega),UInt8.toNat_ofNat_of_lt' (by show b.length<256;omega)]
 have r:b.flatMap Uf=b.map u8:=by
  clear o q hb n a
  induction b with
  | nil=>rfl
  | cons x l ih=>rw [Og,Oi,ih];rfl
 have d:=XV (b.map u8) ((List.replicate 12 0++[UInt8.ofNat f,UInt8.ofNat b.length]).map u8) (List.replicate b.length (.int .u8 0)) (List.replicate (18-b.length) (.int .u8 0)) (by simp)
 rw [Nl,P3,show b.length+(18-b.length)=18 by omega,<-a] at d
 have e:(List.replicate 12 (Value.int .u8 0)++[Value.int .u8 (f:Int),Value.int .u8 (b.length:Int)]).length=14:=by simp
 rw [e] at d
 have j:(Ux (f,b)).map u8=(List.replicate 12 (Value.int .u8 0)++[Value.int .u8 (f:Int),Value.int .u8 (b.length:Int)])++b.map u8++List.replicate (18-b.length) (.int .u8 0):=by
  unfold Ux
  rw [Po,Po,<-a,<-Yr]
 simp only [copyV,lenOf,Ph hb]
 by_cases hn:b=[]
 ·subst hn
  rw [q rfl]
  have k:(Ux (f,[])).map u8=(List.replicate 12 (Value.int .u8 0)++[Value.int .u8 (f:Int),Value.int .u8 (([]:List UInt8).length:Int)])++List.replicate 18 (.int .u8 0):=by rw [j];simp
  have m:H.set R (Vc ((Ux (f,[])).map u8))=H:=by
   rw [k,<-n]
   apply O4 (by simp)
   intro i h1 h2
   rw [List.getElem_set]
   split
   ·rename_i h;subst h
    have:=Wl h2
    rw [Nf h2] at this
    exact (Option.some.inj this).symm
   ·rfl
  rw [m]
  simp [RL]
 ·obtain ⟨a',rfl,e2⟩:=o.cells hn
  have h0:¬b.length=0:=fun h=>hn (List.length_eq_zero_iff.1 h)
  rw [r] at e2
  simp only [RL,e2,h0,if_false,RQ,n]
  rw [Nj ⟨g,by simp;omega⟩,d,j]
  rfl
theorem VX {f n:Nat}:((((List.replicate 32 (Value.int .u8 0)).set 12 (.int .u8 (f:Int))).set 13 (.int .u8 (n:Int))))=(List.replicate 12 (Value.int .u8 0)++[Value.int .u8 (f:Int),Value.int .u8 (n:Int)])++List.replicate 18 (.int .u8 0):=rfl
theorem Nfx [OA] {lim Y Bx c:Nat} {p:Option Addr} {b:List UInt8} {H:NB} {Q:Value->NB->Prop} (I:List (Nat×List UInt8)->NB->Prop) (K:List Nat)
  (L:∀rest H H',I rest H->Chg [Bx] H H'->I rest H')
  (l:∀x rest H,x.2.length<=18->x.1<=3->I (x::rest) H->XR E false lim Y [.agg ((Ux x).map u8).toArray] H fun v H'=>v=.bool true/\I rest H'/\H.length<=H'.length/\∀j∈K,NF H' j=NF H j)
  (aa:NF H Bx=Vc [.slice p b.length c]) (O:lim<=Bx) (hK:Bx∈K) (hs:Sl H Uf 1 p b) (hc:Us 1 c b.length) (Z:b=[]->p=none) (hp:∀a,p=some a->b≠[]->a.block∈K/\a.block≠Bx) (hb:b.length<2 ^ 40)
  (h0:I (W9 b) H) (hQ:∀H',I [] H'->Q (.tuple #[]) H') :
  NQ E false lim 153 [.func (.yield Y) #[] #[],Vp Bx] H Q:=by
 refine runs (by decide) Ny1 rfl ?_
 rw [Nzu,Nwh]
 simp only [n153,Npn,SB,Nat.reduceLT,NC,NH,Nat.reduceEqDiff,NG,NT,reduceCtorEq,ND,place,NA,Nat.reduceAdd,Nat.reduceLeDiff,NE,Int.reduceEq,Int.reduceLT,Int.reduceLE]
 refine QD (fun s:(Option Addr×Nat×List UInt8)×Nat×Nat=>s.1.2.2.length) (fun s fr G=>fr 0=.func (.yield Y) #[] #[]/\fr 1=Vp Bx/\fr 3=.int .u8 (s.2.1:Int)/\s.2.1<=1/\NF G Bx=Vc [.slice s.1.1 s.1.2.2.length s.1.2.1]/\Sl G Uf 1 s.1.1 s.1.2.2/\Us 1 s.1.2.1 s.1.2.2.length/\(s.1.2.2=[]->s.1.1=none)/\
   (∀a,s.1.1=some a->s.1.2.2≠[]->a.block∈K/\a.block≠Bx)/\s.1.2.2.length<s.2.2/\s.1.2.2.length<=b.length/\I (Sv s.2.2 s.2.1 s.1.2.2) G) ((p,c,b),1,b.length+1)
  ⟨(by simp only [FB,Nat.reduceEqDiff]),(by simp only [FB,Nat.reduceEqDiff]),by rfl,Nd _,(QP.refl.app).cells aa,hs.app _,hc,Z,hp,Nat.lt_succ_self _,Nd _,L _ _ _ h0 (Chg.refl.app)⟩ ?_
 rintro ⟨⟨p,c,r⟩,f,u⟩ fr G ⟨C,D,F,hf,gB,hS,d,Z,hp,ac,ad,hi⟩ hN
 simp only at F hf gB hS d Z hp ac ad hi
 rw [QG Nq0.eq_1]
 refine NI ?_
 have m:=fun X=>(QP.refl.app (X:=X)).cells gB
 have ag:=NJ gB
 have o:lim<=G.length:=by omega
 obtain ⟨B,rfl⟩:∃B,u=B+1:=⟨u-1,by omega⟩
 simp only [Sv] at hi
 have wn:∀k:Nat,k<=18->IntKind.u8.wrap (k:Int)=(k:Int):=fun k M=>by
  simp only [IntKind.wrap,IntKind.bits,IntKind.signed]
  simp;omega
 have zz:[Value.int .u8 0,Value.int .u8 0,Value.int .u8 0,Value.int .u8 0,Value.int .u8 0,Value.int .u8 0,Value.int .u8 0,Value.int .u8 0,Value.int .u8 0,Value.int .u8 0,Value.int .u8 0,Value.int .u8 0,Value.int .u8 0,Value.int .u8 0,Value.int .u8 0,Value.int .u8 0,Value.int .u8 0,Value.int .u8 0,Value.int .u8 0,Value.int .u8 0,Value.int .u8 0,Value.int .u8 0,Value.int .u8 0,Value.int .u8 0,Value.int .u8 0,Value.int .u8 0,Value.int .u8 0,Value.int .u8 0,Value.int .u8 0,Value.int .u8 0,Value.int .u8 0,Value.int .u8 0]=List.replicate 32 (Value.int .u8 0):=rfl
 have t:∀b:Nat,U6 32 1 (Vp b) (some (Vi 14)) none none=some (.slice (some ⟨b,14,none⟩) 18 18):=fun b=>by
  have:=UC (n:=32) (e:=1) (a:=⟨b,0,none⟩) (lo:=14) (hi:=32) (vlo:=some (Vi 14)) (vhi:=none) (by rw [Z7 (by decide) (by decide)];rfl) (by decide) (by decide)
  rw [this];simp [addr_add]
 by_cases i:r.length<=18
 ·rw [Nj i] at hi
  have P:min r.length 18=r.length:=Ph i
  obtain ⟨q,cq,e1,s1,_,m1,_⟩:=Tz (vlo:=none) (vhi:=some (Vi r.length)) (lo:=0) (hi:=r.length) hS d Rv (fun cap d=>by rw [Ne4 (by omega) (by omega),O5]) (N7 _) (Nd _) (by omega)
  rw [Nat.sub_zero] at e1
  rw [O3,Oh] at s1
  have g:=Nae (lim:=lim) (R:=G.length) (c:=cq) (f:=f+2) (H:=G++[Vc ((List.replicate 12 (Value.int .u8 0)++[Value.int .u8 ((f+2:Nat):Int),Value.int .u8 (r.length:Int)])++List.replicate 18 (.int .u8 0))]) (s1.app _) (fun h=>by
   cases hq:q with
   | none=>rfl
   | some a=>obtain ⟨a',h1,_⟩:=m1 a hq;rw [Z h] at h1;cases h1) i (by omega) (by rw [NU];rfl) o
  rw [Y1,Px] at g
  simp only [Nl,N1,N4] at g
  have z:((Ux (f+2,r)).map u8).length=32:=by rw [Nz];exact UF i
  simp only [n153,Npn,C,D,F,m,Nkm,P,zz,t,decide_true,N8,Int.reduceToNat,Pi,P0,VX,UB,o,or2 hf,wn _ i,e1,g,z,SB,Nat.reduceLT,NC,NH,Nat.reduceEqDiff,NG,NT,reduceCtorEq,ND,place,NA,Nat.reduceAdd,Nat.reduceLeDiff,NE,Int.reduceEq,Int.reduceLT,Int.reduceLE]
  refine (l (f+2,r) [] _ i (by show f+2<=3;omega) (L _ _ _ hi Chg.refl.app)).mono fun v H' hv=>?_
  obtain ⟨rfl,y,N,M⟩:=hv
  have w:=fun X=>(QP.refl.app (X:=X)).cells ((M Bx hK).trans (m _))
  refine NI ?_
  simp only [n153,Npn,C,D,F,m,Nkm,P,zz,t,decide_true,N8,Int.reduceToNat,Pi,P0,VX,UB,o,w,SB,Nat.reduceLT,NC,NH,Nat.reduceEqDiff,NG,NT,reduceCtorEq,ND,place,NA,Nat.reduceAdd,Nat.reduceLeDiff,NE,Int.reduceEq,Int.reduceLT,Int.reduceLE]
  exact hQ _ (L _ _ _ y Chg.refl.app)
 ·rw [Nh i] at hi
  have P:min r.length 18=18:=Nat.min_eq_right (by omega)
  have T:((18:Int)=(r.length:Int))=False:=Q1 (by omega)
  have ae:IntKind.u8.wrap 18=18:=by decide
  have A:(r.take 18).length=18:=by simp;omega
  have W:r≠[]:=by rintro rfl;simp at i
  obtain ⟨q,cq,e1,s1,_,m1,_⟩:=Tz (vlo:=none) (vhi:=some (Vi 18)) (lo:=0) (hi:=18) hS d Rv (fun cap d=>by rw [Ne4 (by decide) (by omega)];rfl) (N7 _) (by omega) (by omega)
  rw [Nat.sub_zero] at e1
  rw [Oh] at s1
  have g:=Nae (lim:=lim) (R:=G.length) (c:=cq) (f:=f) (H:=G++[Vc ((List.replicate 12 (Value.int .u8 0)++[Value.int .u8 (f:Int),Value.int .u8 ((r.take 18).length:Int)])++List.replicate 18 (.int .u8 0))]) (s1.app _) (fun h=>by rw [h] at A;simp at A) (by omega) (by omega) (by rw [NU];rfl) o
  rw [Y1,Px,A] at g
  have z:((Ux (f,r.take 18)).map u8).length=32:=by rw [Nz];exact UF (by show (r.take 18).length<=18;omega)
  have pb:((((List.replicate 32 (Value.int .u8 0)).set 12 (.int .u8 (f:Int))).set 13 (.int .u8 18)))=(List.replicate 12 (Value.int .u8 0)++[Value.int .u8 (f:Int),Value.int .u8 ((18:Nat):Int)])++List.replicate 18 (.int .u8 0):=rfl
  have ct:((18:Nat):Int)=18:=rfl
  rw [ct] at pb g
  simp only [Nl,N1,N4] at g
  obtain ⟨V,c2,e2,s2,k2,m2,_⟩:=Tz (vlo:=some (Vi 18)) (vhi:=none) (lo:=18) (hi:=r.length) hS d Rv (fun cap d=>by rw [Z7 (by decide) (by omega)];rfl) (by omega) (Nd _) (by omega)
  rw [O3] at s2
  have ld:(r.drop 18).length=r.length-18:=by simp
  simp only [n153,Npn,C,D,F,m,Nkm,P,zz,t,decide_true,N8,Int.reduceToNat,Pi,P0,VX,UB,o,T,ae,e1,pb,g,z,SB,Nat.reduceLT,NC,NH,Nat.reduceEqDiff,NG,NT,reduceCtorEq,ND,place,NA,Nat.reduceAdd,Nat.reduceLeDiff,NE,Int.reduceEq,Int.reduceLT,Int.reduceLE]
  refine (l (f,r.take 18) (Sv B 0 (r.drop 18)) _ (by show (r.take 18).length<=18;omega) (by show f<=3;omega) (L _ _ _ hi Chg.refl.app)).mono fun v H' hv=>?_
  obtain ⟨rfl,y,N,M⟩:=hv
  have J:=(M Bx hK).trans (m _)
  have w:=fun X=>(QP.refl.app (X:=X)).cells J
  obtain ⟨G3,U,ab,S⟩:=RN (NJ J) (Vc [.slice V (r.drop 18).length c2])
  refine NI ?_
  rw [<-ld] at e2
  simp only [Nk,Nm,Nn] at N
  simp only [n153,Npn,C,D,F,m,Nkm,P,zz,t,decide_true,N8,Int.reduceToNat,Pi,P0,VX,UB,o,T,w,e2,U,O,SB,Nat.reduceLT,NC,NH,Nat.reduceEqDiff,NG,NT,reduceCtorEq,ND,place,NA,Nat.reduceAdd,Nat.reduceLeDiff,NE,Int.reduceEq,Int.reduceLT,Int.reduceLE]
  have pK:∀a,V=some a->a.block∈K/\a.block≠Bx:=fun a e=>by
   obtain ⟨a',h1,h2⟩:=m2 a e
   rw [h2];exact hp a' h1 W
  have bl:∀a,V=some a->a.block<G.length:=fun a e=>by
   obtain ⟨a',h1,h2⟩:=m2 a e
   rw [h2];exact (h1▸hS).lt W
  refine hN ((V,c2,r.drop 18),0,B) _ _ ⟨(by simp only [C,FB,Nat.reduceEqDiff]),(by simp only [D,FB,Nat.reduceEqDiff]),by rfl,N7 _,(QP.refl.app).cells ab, ?_, ?_, ?_,fun a e _=>pK a e, ?_, ?_, ?_⟩ ?_
  ·show Sl (G3++[]) Uf 1 V (r.drop 18)
   refine Sl.app (s2.same fun a e hn=>?_) _
   rw [S.other _ (pK a e).2,M _ (pK a e).1,NZ (bl a e)]
  ·show Us 1 c2 (r.drop 18).length
   rw [ld];exact k2
  ·intro h
   have:(r.drop 18).length=0:=by rw [show r.drop 18=[] from h];rfl
   omega
  ·show (r.drop 18).length<B;omega
  ·show (r.drop 18).length<=b.length;omega
  ·show I (Sv B 0 (r.drop 18)) (G3++[])
   exact L _ _ _ y ((Chg.refl.mut S (.inl (by simp))).app)
  ·show (r.drop 18).length<r.length
   omega
def toS (l:List UInt8):Rh:=if h:l.length=32 then ⟨l.toArray,by simpa using h⟩ else Vector.replicate 32 0
theorem Nr0 {l:List UInt8} (h:l.length=32):Sr (toS l)=l.map u8:=by
 unfold toS Sr
 rw [dif_pos h]
 rfl
theorem No7 {l:List UInt8} (h:l.length=32):(toS l).toList=l:=by
 unfold toS
 rw [dif_pos h]
 rfl
def Ur (e lf n:Nat) (x:Nat×List UInt8):Rh:=toS (Uq (Uq (Uq (Ux x) 0 e 4) 4 lf 4) 8 n 4)
def Rx (base e lf:Nat):Nat->List (Nat×List UInt8)->List Wr
 | _,[]=>[]
 | n,x::r=>⟨((base+n:Nat):Int),Ur e lf n x⟩::Rx base e lf (n+1) r
theorem Zf {base e lf:Nat}:∀(r:List (Nat×List UInt8)) (n:Nat),(Rx base e lf n r).length=r.length
 | [],_=>rfl
 | x::r,n=>by rw [Rx,Nm,Nm,Zf r]
theorem Nd0 [OA] {mp:Bool} {lim D n c:Nat} {sp:Option Addr} {ro:Bool} {r:List Value} {H:NB} {Q:Value->NB->Prop} (b:NF H D=.cells ro (.slice sp n c::r)) (hn:n<2 ^ 60) :
  NQ E mp lim 83 [Vp D] H Q=Q (Vi ((n / 2:Nat):Int)) H:=by
 refine pc (by decide) e83 rfl rfl ?_
 rw [b83,c83]
 have a:=fun X=>(QP.refl.app (X:=X)).cells b
 have d:IntKind.i64.wrap (Int.tdiv (n:Int) 2)=((n / 2:Nat):Int):=by
  rw [show Int.tdiv (n:Int) 2=((n / 2:Nat):Int) from rfl]
  exact QJ (by omega) (by omega)
 simp only [n83,r83,a,d,SB,Nat.reduceLT,NC,NH,Nat.reduceEqDiff,NG,NT,reduceCtorEq,ND,place,NA,Nat.reduceAdd,Nat.reduceLeDiff,NE,Int.reduceEq,Int.reduceLT,Int.reduceLE]
structure JLies (lim:Nat) (H:NB) (J D area e lf n sn sc:Nat) (sp pp:Option Addr) (cp:Nat) (pend:List Wr):Prop where
 j:NF H J=Vc [Vp D,Vi area,Vi e,Vi lf,Vi n]
 d:NF H D=Vc [.slice sp sn sc,.slice pp pend.length cp]
 own:Own lim H Wo 33 pp cp pend
 lJ:lim<=J
 lD:lim<=D
 JD:J≠D
 ap:∀a,pp=some a->a.block≠J/\a.block≠D
def blk (p:Option Addr):List Nat:=match p with | none=>[] | some a=>[a.block]
structure WSt (lim:Nat) (H:NB) (L0:List Nat) (J D area e lf sn sc:Nat) (sp:Option Addr) (fr0:Nat->Value) (st m cp:Nat) (pp:Option Addr) (pend:List Wr) (G:NB):Prop where
 lies:JLies lim G J D area e lf m sn sc sp pp cp pend
 loop:NF G (H.length+3)=.loop ⟨st,none,fr0,62,[7],Yj,Yi⟩
 dfr:NF G (H.length+2)=.dfr
 box:NF G H.length=Vc [Vp J]
 chg:Chg (J::D::L0) H G
 len:H.length+4<=G.length
 new:∀a,pp=some a->a.block∉L0->H.length+4<=a.block
 old:∀j∈L0,j<H.length
 lJ:J<H.length
 lD:D<H.length
theorem WSt.to {lim:Nat} {H:NB} {L0:List Nat} {J D area e lf sn sc:Nat} {sp:Option Addr} {fr0:Nat->Value} {st m cp:Nat} {pp:Option Addr} {pend:List Wr} {G G':NB} (h:WSt lim H L0 J D area e lf sn sc sp fr0 st m cp pp pend G) {L:List Nat} (c:Chg L G G') (f:∀j∈L,(j=H.length+1\/H.length+4<=j)/\∀a,pp=some a->a.block≠j):WSt lim H L0 J D area e lf sn sc sp fr0 st m cp pp pend G':=by
 have lJ:=h.lJ
 have lD:=h.lD
 have len:=h.len
 have b:∀j,j<H.length+4->j≠H.length+1->j∉L:=fun j h1 h2 g=>by have:=(f j g).1;omega
 have hl:=c.len
 refine ⟨⟨c.cells h.lies.j (b _ (by omega) (by omega)),c.cells h.lies.d (b _ (by omega) (by omega)),h.lies.own.chg c fun a e i=>(f _ i).2 a e rfl,h.lies.lJ,h.lies.lD,h.lies.JD,h.lies.ap⟩,c.get h.loop (by omega) (b _ (by omega) (by omega)),c.get h.dfr (by omega) (b _ (by omega) (by omega)),c.get h.box (by omega) (b _ (by omega) (by omega)),h.chg.trans' c (fun j h1 h2=>by have:=(f j h1).1;omega),by omega,h.new,h.old,lJ,lD⟩
theorem Nc1:∀(f fl:Nat) (b:List UInt8),(Sv f fl b).length<=f
 | 0,_,_=>Nd _
 | f+1,fl,b=>by
   simp only [Sv]
   split
   ·simp
   ·have:=Nc1 f 0 (b.drop 18)
    simp;omega
theorem Ns0 (b:List UInt8) (h:b.length<2 ^ 20):(W9 b).length<=2 ^ 20:=by
 have:=Nc1 (b.length+1) 1 b
 unfold W9;omega
theorem WSt.own_ne {lim:Nat} {H:NB} {L0:List Nat} {J D area e lf sn sc:Nat} {sp:Option Addr} {fr0:Nat->Value} {st m cp:Nat} {pp:Option Addr} {pend:List Wr} {G:NB} (h:WSt lim H L0 J D area e lf sn sc sp fr0 st m cp pp pend G) {j:Nat} (h1:H.length<=j) (h2:j<H.length+4\/G.length<=j):∀a,pp=some a->a.block≠j:=fun a e=>by
 have hb:=(h.lies.own.block e).2
 by_cases b:a.block∈L0
 ·have:=h.old _ b;omega
 ·have:=h.new a e b;omega
theorem WSt.turn {lim:Nat} {H:NB} {L0:List Nat} {J D area e lf sn sc:Nat} {sp:Option Addr} {fr0:Nat->Value} {st b m cp:Nat} {pp:Option Addr} {pend:List Wr} {G G':NB} (h:WSt lim H L0 J D area e lf sn sc sp fr0 st m cp pp pend G) (a:Mut G G' (H.length+3)) (hl:NF G' (H.length+3)=.loop ⟨b,none,fr0,62,[7],Yj,Yi⟩):WSt lim H L0 J D area e lf sn sc sp fr0 b m cp pp pend G':=by
 have lJ:=h.lJ
 have lD:=h.lD
 exact ⟨⟨a.cells h.lies.j (by omega),a.cells h.lies.d (by omega),h.lies.own.mut a (h.own_ne (by omega) (.inl (by omega))),h.lies.lJ,h.lies.lD,h.lies.JD,h.lies.ap⟩,hl,a.alive h.dfr (by omega),a.cells h.box (by omega),h.chg.mut a (.inr (by omega)),by rw [a.len];exact h.len,h.new,h.old,lJ,lD⟩
theorem WSt.app' {lim:Nat} {H:NB} {L0:List Nat} {J D area e lf sn sc:Nat} {sp:Option Addr} {fr0:Nat->Value} {st m cp:Nat} {pp:Option Addr} {pend:List Wr} {G:NB} (h:WSt lim H L0 J D area e lf sn sc sp fr0 st m cp pp pend G):WSt lim H L0 J D area e lf sn sc sp fr0 st m cp pp pend (G++[]):=by
 rw [Nb];exact h
theorem Nb9 {fr:Nat->Value} {p:Nat} {v:Value}:T9 fr [p] [v]=upd fr p v:=rfl
theorem Npj [OA] {lim:Nat} {H:NB} {L0:List Nat} {J D area e lf sn sc:Nat} {sp:Option Addr} {fr0:Nat->Value} {m cp:Nat} {pp:Option Addr} {pend ac:List Wr} {G:NB} {x:Nat×List UInt8} {rest:List (Nat×List UInt8)} {K:List Nat} {N M:Nat}
  (T:fr0 2=Vp H.length) (Y:x.2.length<=18) (a5:x.1<=3) (k1:WSt lim H L0 J D area e lf sn sc sp fr0 0 m cp pp pend G) (k2:pend++Rx (area*(sn / 2)) e lf m (x::rest)=ac) (k3:m+(x::rest).length=N) (k4:pend.length+(x::rest).length=M)
  (hm:m<2 ^ 40) (a4:sn<2 ^ 30) (a0:area<=1) (a2:pend.length<2 ^ 34) (hK:∀j∈K,j<H.length+2/\j≠J/\j≠D/\j∉L0) :
  XR E false lim (H.length+3) [.agg ((Ux x).map u8).toArray] G fun v H'=>v=.bool true/\(∃(m ag:Nat) (av:Option Addr) (f:List Wr),WSt lim H L0 J D area e lf sn sc sp fr0 0 m ag av f H'/\f++Rx (area*(sn / 2)) e lf m rest=ac/\m+rest.length=N/\f.length+rest.length=M)/\G.length<=H'.length/\∀j∈K,NF H' j=NF G j:=by
 have lJ:=k1.lJ
 have lD:=k1.lD
 have len:=k1.len
 have aa:=k1.lies.lJ
 rw [Noq k1.loop (by omega) rfl rfl,Nb9]
 have ak:((Ux x).map u8).length=32:=by rw [Nz];exact UF Y
 obtain ⟨G1,e1,h1,m1⟩:=RN (G:=G) (R:=H.length+3) (by omega) (.loop ⟨1,none,fr0,62,[7],Yj,Yi⟩)
 have gY:=fun X=>(QP.refl.app (X:=X)).get' k1.loop (by omega)
 have q:lim<=G.length:=by omega
 refine NI ?_
 rw [QG Yj.eq_1]
 simp only [T,ak,Sz,q,gY,e1,show lim<=H.length+3 by omega,SB,Nat.reduceLT,NC,NH,Nat.reduceEqDiff,NG,NT,reduceCtorEq,ND,place,NA,Nat.reduceAdd,Nat.reduceLeDiff,NE,Int.reduceEq,Int.reduceLT,Int.reduceLE]
 have w1:=(k1.turn m1 h1).to (Chg.refl.app (X:=[Vc ((Ux x).map u8)])) (L:=[]) (by simp)
 have R1:NF (G1++[Vc ((Ux x).map u8)]) G.length=Vc ((Ux x).map u8):=by rw [<-m1.len];exact NU
 have t:∀{G:NB} {st m cp:Nat} {pp:Option Addr} {pend:List Wr},WSt lim H L0 J D area e lf sn sc sp fr0 st m cp pp pend G->∀X:NB,NF (G++X) H.length=Vc [Vp J]/\NF (G++X) J=Vc [Vp D,Vi area,Vi e,Vi lf,Vi m]:=fun k X=>⟨(QP.refl.app).cells k.box,(QP.refl.app).cells k.lies.j⟩
 have am:(G1++[Vc ((Ux x).map u8)]).length=G.length+1:=by simp [m1.len]
 have o2:∀j,j<G.length->j≠H.length+3->NF (G1++[Vc ((Ux x).map u8)]) j=NF G j:=fun j h1 h2=>by
  rw [NZ (by rw [m1.len];exact h1)];exact m1.other j h2
 generalize G1++[Vc ((Ux x).map u8)]=G2 at w1 R1 am o2
 rw [QG Yi.eq_1]
 refine NI ?_
 have z:=fun X=>(t w1 X).1
 have s:=fun X=>(t w1 X).2
 simp only [T,z,s,SB,Nat.reduceLT,NC,NH,Nat.reduceEqDiff,NG,NT,reduceCtorEq,ND,place,NA,Nat.reduceAdd,Nat.reduceLeDiff,NE,Int.reduceEq,Int.reduceLT,Int.reduceLE]
 refine Nid (l:=Ux x) (at':=0) (n:=e) ((QP.refl.app).cells R1) (UF Y) q (by decide) fun G3 c3 l3 R3=>?_
 rw [Nb] at c3 l3
 have w2:=w1.to c3 (fun j g=>by simp only [Ng] at g;subst g;exact ⟨.inr (by omega),fun a e=>by have:=k1.own_ne (j:=G.length) (by omega) (.inr (Nd _)) a e;exact this⟩)
 have z:=fun X=>(t w2 X).1
 have s:=fun X=>(t w2 X).2
 simp only [T,z,s,SB,Nat.reduceLT,NC,NH,Nat.reduceEqDiff,NG,NT,reduceCtorEq,ND,place,NA,Nat.reduceAdd,Nat.reduceLeDiff,NE,Int.reduceEq,Int.reduceLT,Int.reduceLE]
 refine Nid (l:=Uq (Ux x) 0 e 4) (at':=4) (n:=lf) ((QP.refl.app).cells R3) (by rw [Tq];exact UF Y) q (by decide) fun G4 c4 l4 R4=>?_
 rw [Nb] at c4 l4
 have w3:=w2.to c4 (fun j g=>by simp only [Ng] at g;subst g;exact ⟨.inr (by omega),fun a e=>by have:=k1.own_ne (j:=G.length) (by omega) (.inr (Nd _)) a e;exact this⟩)
 have z:=fun X=>(t w3 X).1
 have s:=fun X=>(t w3 X).2
 simp only [T,z,s,SB,Nat.reduceLT,NC,NH,Nat.reduceEqDiff,NG,NT,reduceCtorEq,ND,place,NA,Nat.reduceAdd,Nat.reduceLeDiff,NE,Int.reduceEq,Int.reduceLT,Int.reduceLE]
 refine Nid (l:=Uq (Uq (Ux x) 0 e 4) 4 lf 4) (at':=8) (n:=m) ((QP.refl.app).cells R4) (by rw [Tq,Tq];exact UF Y) q (by decide) fun c c5 l5 R5=>?_
 rw [Nb] at c5 l5
 have o:=w3.to c5 (fun j g=>by simp only [Ng] at g;subst g;exact ⟨.inr (by omega),fun a e=>by have:=k1.own_ne (j:=G.length) (by omega) (.inr (Nd _)) a e;exact this⟩)
 have z:=fun X=>(t o X).1
 have s:=fun X=>(t o X).2
 have q3:=fun X=>(QP.refl.app (X:=X)).cells o.lies.d
 have q4:=fun X=>(QP.refl.app (X:=X)).cells R5
 have sz:=fun X (mp:Bool) (lim:Nat) (Q:Value->NB->Prop)=>Nd0 (mp:=mp) (lim:=lim) (Q:=Q) (q3 X) (by omega)
 have W:(Uq (Uq (Uq (Ux x) 0 e 4) 4 lf 4) 8 m 4).length=32:=by rw [Tq,Tq,Tq];exact UF Y
 have aj:((Uq (Uq (Uq (Ux x) 0 e 4) 4 lf 4) 8 m 4).map u8).length=32:=by rw [Nz];exact W
 have az:area*(sn / 2)<2 ^ 30:=by
  rcases (show area=0\/area=1 by omega) with rfl | rfl<;>omega
 have wm:IntKind.i64.wrap ((area:Int)*((sn / 2:Nat):Int))=((area*(sn / 2):Nat):Int):=by
  rw [<-Int.natCast_mul];exact QJ (by omega) (by omega)
 have wp:IntKind.i64.wrap (((area*(sn / 2):Nat):Int)+(m:Int))=((area*(sn / 2)+m:Nat):Int):=by rw [QJ (by omega) (by omega)];omega
 have aw:IntKind.i64.wrap ((m:Int)+1)=((m+1:Nat):Int):=QU (by omega)
 have ew:Value.int .i64 ((area*(sn / 2)+m:Nat):Int)::(Uq (Uq (Uq (Ux x) 0 e 4) 4 lf 4) 8 m 4).map u8=Wo ⟨((area*(sn / 2)+m:Nat):Int),Ur e lf m x⟩:=by
  rw [Nud];unfold Ur;rw [Nr0 W]
 generalize ai:(⟨((area*(sn / 2)+m:Nat):Int),Ur e lf m x⟩:Wr)=w at ew
 obtain ⟨h,C,O,e6,O6,C6,b,l6,r,_⟩:=o.lies.own.moreD (d:=c.length+1) (lim':=lim) (bytes:=40) (Nd _) Rz (by decide) [w] (by unfold PQ;simp;omega) (by simp;omega) (by omega) [Vc (Wo w),.dead] (by omega) (by simp) (x:=.slice (Sa c.length) 1 1) (str:=false)
  (Xe (m:=[w]) (Sl.row Rz (by rw [NU];simp;rfl))) rfl
 rw [<-o.lies.own.appL] at e6
 simp only [Nm,Nn,Nr] at e6
 have ap:=o.lies.ap
 have JD:=o.lies.JD
 have I:NF (h++[]) H.length=_:=(b H.length (by omega) (fun a e=>(k1.own_ne (j:=H.length) (by omega) (.inl (by omega)) a e).symm)).trans o.box
 have j6:NF (h++[]) J=_:=(b J (by omega) (fun a e=>(ap a e).1.symm)).trans o.lies.j
 have d6:NF (h++[]) D=_:=(b D (by omega) (fun a e=>(ap a e).2.symm)).trans o.lies.d
 have P:=d6
 rw [Nb] at P
 obtain ⟨G7,e7,d7,u⟩:=RN (NJ P) (Vc [.slice sp sn sc,.slice C (pend.length+1) O])
 have ae:=fun X=>(QP.refl.app (X:=X)).cells (u.cells (by rw [<-Nb h];exact I) (by omega:H.length≠D))
 have Z:NF G7 J=_:=u.cells (by rw [<-Nb h];exact j6) JD
 have j7:=fun X=>(QP.refl.app (X:=X)).cells Z
 obtain ⟨G8,e8,d8,A⟩:=RN (NJ Z) (Vc [Vp D,Vi area,Vi e,Vi lf,Vi ((m+1:Nat):Int)])
 have V:=k1.lies.lD
 have an:¬H.length=c.length:=by omega
 have ao:¬H.length=c.length+1:=by omega
 have aq:¬J=c.length:=by omega
 have au:¬J=c.length+1:=by omega
 have al:NK c.length [0,1] (h++[]) (((h++[]).set c.length .dead).set (c.length+1) .dead)=h++[]:=RP c.length [0,1] (h++[])
 have y6:NF (h++[]) (H.length+3)=_:=(b (H.length+3) (by omega) (fun a e=>(k1.own_ne (j:=H.length+3) (by omega) (.inl (by omega)) a e).symm)).trans o.loop
 have ad:=y6
 rw [Nb] at ad
 have y8:NF G8 (H.length+3)=_:=A.alive (u.alive ad (by omega)) (by omega)
 have yl:H.length+3<G8.length:=by have:=A.len;have:=u.len;omega
 have ay:=(QP.refl.app (X:=[])).get' y8 yl
 obtain ⟨p,e9,d9,B⟩:=RN (G:=G8) yl (.loop ⟨0,none,fr0,62,[7],Yj,Yi⟩)
 simp only [al,QA,an,ao,aq,au,T,z,s,q3,sz,q4,aj,UB,Sz,wm,wp,ew,Rz,e6,I,j6,d6,e7,ae,j7,e8,aw,V,aa,ay,e9,show lim<=H.length+3 by omega,SB,Nat.reduceLT,NC,NH,Nat.reduceEqDiff,NG,NT,reduceCtorEq,ND,place,NA,Nat.reduceAdd,Nat.reduceLeDiff,NE,Int.reduceEq,Int.reduceLT,Int.reduceLE]
 have y:=O6
 rw [Nb] at y
 have r:=r (by simp)
 have nb:∀j,j<c.length->∀a,C=some a->a.block≠j:=by
  intro j g a e
  rw [r] at e;cases e
  show c.length+1≠j
  omega
 have ab:Own lim p Wo 33 C O (pend++[w]):=((y.mut u (nb D (by omega))).mut A (nb J (by omega))).mut B (nb _ (by omega))
 have l9:p.length=h.length:=by rw [B.len,A.len,u.len]
 have D9:NF p D=Vc [.slice sp sn sc,.slice C (pend.length+1) O]:=B.cells (A.cells d7 JD.symm) (by omega)
 have J9:NF p J=_:=B.cells d8 (by omega)
 have pj:∀j,j<H.length+4->j∉L0->∀a,pp=some a->j≠a.block:=fun j h1 h2 a e hh=>by
  subst hh
  have:=k1.new a e h2
  omega
 have ah:∀j,j<H.length+4->j≠H.length+3->j≠J->j≠D->j∉L0->NF p j=NF c j:=fun j h1 h2 h3 h4 h5=>by
  rw [B.other j h2,A.other j h3,u.other j h4,<-b j (by omega) (pj j h1 h5),Nb]
 have g5:∀j,j<G.length->j≠H.length+3->NF c j=NF G j:=fun j h1 h2=>by
  rw [c5.other j (by omega) (by simp;omega),c4.other j (by omega) (by simp;omega),c3.other j (by omega) (by simp;omega),o2 j h1 h2]
 have cA:Chg (J::D::L0) H p:=⟨by omega,fun j g U=>by
  simp only [Ni,not_or] at U
  rw [ah j (by omega) (by omega) U.1 U.2.1 U.2.2,g5 j (by omega) (by omega)]
  exact k1.chg.other j g (by simp only [Ni,not_or];exact U)⟩
 have i:∀j,j<G.length->j≠H.length+3->j≠J->j≠D->(∀a,pp=some a->j≠a.block)->NF p j=NF G j:=fun j h1 h2 h3 h4 h5=>by
  rw [B.other j h2,A.other j h3,u.other j h4,<-g5 j h1 h2,<-b j (by omega) h5,Nb]
 have S:NF p (H.length+2)=.dfr:=(i _ (by omega) (by omega) (by omega) (by omega) (fun a e=>(k1.own_ne (j:=H.length+2) (by omega) (.inl (by omega)) a e).symm)).trans k1.dfr
 have F:NF p H.length=_:=(i _ (by omega) (by omega) (by omega) (by omega) (fun a e=>(k1.own_ne (j:=H.length) (by omega) (.inl (by omega)) a e).symm)).trans k1.box
 have ax:WSt lim H L0 J D area e lf sn sc sp fr0 0 (m+1) O C (pend++[w]) p:=
  ⟨⟨J9,by rw [Nk];exact D9,ab,aa,V,JD,fun a e=>⟨nb J (by omega) a e,nb D (by omega) a e⟩⟩,d9,S,F,cA,by omega,fun a e _=>by rw [r] at e;cases e;show H.length+4<=c.length+1;omega,k1.old,lJ,lD⟩
 refine ⟨⟨m+1,O,C,pend++[w],ax.app', ?_, ?_, ?_⟩,by omega,fun j g=>?_⟩
 ·rw [<-k2,Rx,<-ai,Nl];rfl
 ·rw [<-k3,Nm];omega
 ·rw [<-k4,Nm,Nk,Qi];omega
 ·obtain ⟨z,s,q3,q4⟩:=hK j g
  rw [NZ (by omega)]
  exact i j (by omega) (by omega) s q3 (pj j (by omega) q4)
theorem Noy [OA] {lim J D area e lf n sn sc cp c:Nat} {sp pp p:Option Addr} {pend:List Wr} {b:List UInt8} {H:NB} {Q:Value->NB->Prop}
  (h:JLies lim H J D area e lf n sn sc sp pp cp pend) (w:Sl H Uf 1 p b) (hc:Us 1 c b.length) (hz:b=[]->p=none) (hp:∀a,p=some a->b≠[]->a.block≠J/\a.block≠D/\a.block∉blk pp) (hb:b.length<2 ^ 20) (ab:pend.length<2 ^ 30) (aa:n<2 ^ 30) (S:sn<2 ^ 30) (P:area<=1)
  (hQ:∀H' g o,Chg (J::D::blk pp) H H'->JLies lim H' J D area e lf (n+(W9 b).length) sn sc sp g o (pend++Rx (area*(sn / 2)) e lf n (W9 b))->(∀a,g=some a->a.block∉blk pp->H.length<=a.block)->Q (.tuple #[]) (H'++[])) :
  NQ E false lim 78 [Vp J,.slice p b.length c] H Q:=by
 refine runs (by decide) e78 rfl ?_
 rw [b78,c78]
 simp only [n78,r78,SB,Nat.reduceLT,NC,NH,Nat.reduceEqDiff,NG,NT,reduceCtorEq,ND,place,NA,Nat.reduceAdd,Nat.reduceLeDiff,NE,Int.reduceEq,Int.reduceLT,Int.reduceLE]
 have M:∀(X:NB) (Q:Value->NB->Prop),NQ E false lim 122 [.slice p b.length c] (H++X) Q=Q (.func (.func 153) #[] #[Vp (H.length+X.length)]) (H++(X++[Vc [.slice p b.length c]])):=by
  intro X Q
  rw [X5 (E:=E) (by simp [E,orc,effP]) (show E.tr 122=some Nj6 from Nze) rfl rfl,Nz7,Nwo]
  simp only [n122,Nyk,SB,Nat.reduceLT,NC,NH,Nat.reduceEqDiff,NG,NT,reduceCtorEq,ND,place,NA,Nat.reduceAdd,Nat.reduceLeDiff,NE,Int.reduceEq,Int.reduceLT,Int.reduceLE]
 have key:∀fr0:Nat->Value,fr0 2=Vp H.length->NQ E false lim 153 [.func (.yield (H.length+3)) #[] #[],Vp (H.length+1)]
   (H++[Vc [Value.pointer (Sa J)],Vc [.slice p b.length c],.dfr,.loop ⟨0,none,fr0,62,[7],Yj,Yi⟩])
   fun x U=>Nck (NF U ((H++[Vc [Value.pointer (Sa J)],Vc [.slice p b.length c]]).length+1)) fun x=>QW E a78 lim (Naf x++([.inBlock 0,.code .retM]++[.mark (H++[Vc [Value.pointer (Sa J)],Vc [.slice p b.length c]]).length])) fr0
    (U.set ((H++[Vc [Value.pointer (Sa J)],Vc [.slice p b.length c]]).length+1) .dead) Q:=by
  intro fr0 Z
  have O:=NJ h.j
  have N:=NJ h.d
  have r:∀j∈blk pp,j<H.length:=fun j hj=>by
   cases hpp:pp with
   | none=>rw [hpp] at hj;simp [blk] at hj
   | some a0=>
     rw [hpp] at hj;simp only [blk,Ng] at hj
     rw [hj];exact (h.own.block hpp).2
  have v:∀{G:NB} {m o:Nat} {g:Option Addr} {f:List Wr} {st:Nat},WSt lim H (blk pp) J D area e lf sn sc sp fr0 st m o g f G->∀a,g=some a->a.block≠H.length+1:=fun k a e I=>by
   by_cases q:a.block∈blk pp
   ·have:=r _ q;omega
   ·have:=k.new a e q;omega
  refine Nfx (fun rest G=>∃(m o:Nat) (g:Option Addr) (f:List Wr),WSt lim H (blk pp) J D area e lf sn sc sp fr0 0 m o g f G/\f++Rx (area*(sn / 2)) e lf m rest=pend++Rx (area*(sn / 2)) e lf n (W9 b)/\m+rest.length=n+(W9 b).length/\f.length+rest.length=pend.length+(W9 b).length)
   ((H.length+1)::(match p with | none=>[] | some a=>if b=[] then [] else [a.block])) ?_ ?_ (by rw [NP];rfl) (by have:=h.lJ;omega) (by simp) (w.app _) hc hz ?_ (by omega) ?_ ?_
  ·
   rintro rest G G' ⟨m,o,g,f,k1,k2,k3,K⟩ hC
   exact ⟨m,o,g,f,k1.to hC (fun j hj=>by simp only [Ng] at hj;subst hj;exact ⟨.inl rfl,v k1⟩),k2,k3,K⟩
  ·
   have ac:(W9 b).length<=2 ^ 20:=Ns0 _ hb
   rintro x rest G hx T ⟨m,o,g,f,k1,k2,k3,K⟩
   exact Npj Z hx T k1 k2 k3 K (by simp at k3;omega) S P (by omega) (fun j hj=>by
    simp only [Ni] at hj
    rcases hj with rfl | hj
    ·exact ⟨by omega,by omega,by omega,fun h=>by have:=r _ h;omega⟩
    ·cases p with
     | none=>simp at hj
     | some a=>
       simp only at hj
       split at hj
       ·simp at hj
       ·rename_i C
        simp only [Ng] at hj
        subst hj
        have:=w.lt C
        have:=hp a rfl C
        exact ⟨by omega,this.1,this.2.1,this.2.2⟩)
  ·intro a e hn
   subst e
   simp only [hn,if_false]
   refine ⟨by simp, ?_⟩
   have:=w.lt hn
   omega
  ·refine ⟨n,cp,pp,pend,⟨⟨(QP.refl.app).cells h.j,(QP.refl.app).cells h.d,h.own.app _,h.lJ,h.lD,h.JD,h.ap⟩,by rw [NP];rfl,by rw [NP];rfl,by rw [NU];rfl,Chg.refl.app,by simp,fun a e I=>?_,r,O,N⟩,rfl,rfl,rfl⟩
   subst e
   simp [blk] at I
  ·rintro H' ⟨m,o,g,f,k1,k2,k3,K⟩
   have V:=k1.len
   simp only [Rx,Nb] at k2
   simp only [Nn,Oo] at k3
   obtain ⟨G1,e1,_,u⟩:=RN (G:=H') (R:=H.length+3) (by omega) .dead
   have y:NF G1 (H.length+2)=.dfr:=u.alive k1.dfr (by omega)
   obtain ⟨F,e2,_,L⟩:=RN (G:=G1) (R:=H.length+2) (by have:=u.len;omega) .dead
   have z:=e1 []
   have A:=e2 []
   rw [Nb] at z A
   have s:=(QP.refl.app (X:=[])).get' y (by have:=u.len;omega)
   simp only [n78,r78,k1.loop,z,Zi,s,A,show lim<=H.length+2 by have:=h.lJ;omega,SB,Nat.reduceLT,NC,NH,Nat.reduceEqDiff,NG,NT,reduceCtorEq,ND,place,NA,Nat.reduceAdd,Nat.reduceLeDiff,NE,Int.reduceEq,Int.reduceLT,Int.reduceLE]
   have hm:(H++[Vc [Value.pointer (Sa J)],Vc [Value.slice p b.length c]]).length=H.length+2:=by simp
   rw [hm]
   show QW E a78 lim (.inBlock 0::.code .retM::.mark (H.length+2)::[]) fr0 (G1++[]) Q
   have B:(G1++[]).set (H.length+2) .dead=F++[]:=e2 []
   have w:=Zi (lim:=lim) (i:=H.length+2) (l:=[]) s (by have:=h.lJ;omega)
   rw [B,Nfk] at w
   have Y:([]:List Nat)++[H.length+2]=[H.length+2]:=rfl
   simp only [n78,r78,Y,w,SB,Nat.reduceLT,NC,NH,Nat.reduceEqDiff,NG,NT,reduceCtorEq,ND,place,NA,Nat.reduceAdd,Nat.reduceLeDiff,NE,Int.reduceEq,Int.reduceLT,Int.reduceLE]
   have W:Chg (J::D::blk pp) H F:=((k1.chg.mut u (.inr (by omega))).mut L (.inr (by omega)))
   have t:Own lim F Wo 33 g o f:=(k1.lies.own.mut u fun a e=>by
    by_cases q:a.block∈blk pp
    ·have:=r _ q;omega
    ·have:=k1.new a e q;omega).mut L fun a e=>by
    by_cases q:a.block∈blk pp
    ·have:=r _ q;omega
    ·have:=k1.new a e q;omega
   have nn:m=n+(W9 b).length:=k3
   rw [k2] at t
   refine hQ F g o W ⟨?_, ?_,t,h.lJ,h.lD,h.JD,k1.lies.ap⟩ fun a e I=>by have:=k1.new a e I;omega
   ·rw [<-nn];exact L.cells (u.cells k1.lies.j (by omega)) (by omega)
   ·rw [<-k2];exact L.cells (u.cells k1.lies.d (by omega)) (by omega)
 simp only [n78,r78,M,SB,Nat.reduceLT,NC,NH,Nat.reduceEqDiff,NG,NT,reduceCtorEq,ND,place,NA,Nat.reduceAdd,Nat.reduceLeDiff,NE,Int.reduceEq,Int.reduceLT,Int.reduceLE]
 exact key _ (by simp only [FB,Nat.reduceEqDiff])
theorem Nyq {n:Int}:R6 true (Vi 1) [Vi n]=some (Vi (max 1 n)):=by
 simp only [R6,VB,if_true]
 congr 2
 split<;>omega
def OU (n:Nat):Nat:=max 1 ((n+17) / 18)
theorem Nth [OA] {mp:Bool} {lim n k:Nat} {p:Option Addr} {H:NB} {Q:Value->NB->Prop} (hn:n<2 ^ 40):NQ E mp lim 81 [.slice p n k] H Q=Q (Vi (OU n:Int)) H:=by
 refine pc (by decide) e81 rfl rfl ?_
 rw [b81,c81]
 have a:IntKind.i64.wrap ((n:Int)+18)=((n+18:Nat):Int):=by rw [QJ (by omega) (by omega)];omega
 have b:IntKind.i64.wrap (((n+18:Nat):Int)-1)=((n+17:Nat):Int):=by rw [QJ (by omega) (by omega)];omega
 have c:IntKind.i64.wrap (Int.tdiv ((n+17:Nat):Int) 18)=(((n+17) / 18:Nat):Int):=by
  rw [show Int.tdiv ((n+17:Nat):Int) 18=(((n+17) / 18:Nat):Int) from rfl]
  exact QJ (by omega) (by omega)
 have e:max (1:Int) (((n+17) / 18:Nat):Int)=(OU n:Int):=by unfold OU;omega
 simp only [n81,r81,a,b,c,Nyq,e,SB,Nat.reduceLT,NC,NH,Nat.reduceEqDiff,NG,NT,reduceCtorEq,ND,place,NA,Nat.reduceAdd,Nat.reduceLeDiff,NE,Int.reduceEq,Int.reduceLT,Int.reduceLE]
theorem Nag:∀(f fl:Nat) (b:List UInt8),b.length<f->(Sv f fl b).length=OU b.length
 | 0,_,b,h=>by omega
 | f+1,fl,b,h=>by
   simp only [Sv]
   split
   ·unfold OU;simp;omega
   ·have:=Nag f 0 (b.drop 18) (by simp;omega)
    rw [Nm,this]
    unfold OU
    simp;omega
theorem Td (b:List UInt8):(W9 b).length=OU b.length:=Nag _ _ _ (Nat.lt_succ_self _)
theorem Wh [OA] {mp:Bool} {lim J D:Nat} {ro:Bool} {r:List Value} {H:NB} {Q:Value->NB->Prop} (a:NF H J=.cells ro (Vp D::r)):NQ E mp lim 80 [Vp J] H Q=Q (.bool false) H:=by
 refine pc (by decide) e80 rfl rfl ?_
 rw [b80,c80]
 have b:=fun X=>(QP.refl.app (X:=X)).cells a
 simp only [n80,r80,b,VR,SB,Nat.reduceLT,NC,NH,Nat.reduceEqDiff,NG,NT,reduceCtorEq,ND,place,NA,Nat.reduceAdd,Nat.reduceLeDiff,NE,Int.reduceEq,Int.reduceLT,Int.reduceLE]
theorem Nnf [OA] {lim c:Nat} {p:Option Addr} {l:List Rh} {H:NB} {Q:Value->NB->Prop} (e:Sl H Sr 32 p l) (hn:l≠[]) (h1:l.length<2 ^ 30) :
  NQ E false lim 118 [.slice p l.length c] H Q=Q (.slice (Sa (H.length+1)) l.length (loose 32)) (H++[Vc [],Vc (l.flatMap Sr)]):=by
 obtain ⟨a,rfl⟩:=e.some hn
 rw [X5 (E:=E) (by simp [E,orc,effP]) (show E.tr 118=some Nj7 from Nzi) rfl rfl,N0b,Nwr,<-Nb H]
 have d:=fun X (h:NF (H++X) H.length=Vc [])=>V9 (lim:=lim) (b:=H.length) (bytes:=32) (c:=c) h (e.app X) (by decide) (by unfold PQ;omega) (by omega) hn
 simp only [n118,Nym,VR,d,SB,Nat.reduceLT,NC,NH,Nat.reduceEqDiff,NG,NT,reduceCtorEq,ND,place,NA,Nat.reduceAdd,Nat.reduceLeDiff,NE,Int.reduceEq,Int.reduceLT,Int.reduceLE]
def XG (pend:List Wr) (safe:List Rh):List Rh:=QS [] pend safe
theorem Nhh [OA] {lim D sc L:Nat} {sp pp:Option Addr} {ro:Bool} {safe:List Rh} {pend:List Wr} {H:NB} {Q:Value->NB->Prop}
  (O:NF H D=.cells ro [.slice sp safe.length sc,.slice pp pend.length L]) (hS:Sl H Sr 32 sp safe) (U:safe≠[]) (hP:Sl H Wo 33 pp pend) (T:safe.length<2 ^ 30) (ad:pend.length<2 ^ 60) (hl:lim<=H.length)
  (hQ:∀H' p c q c',Chg [] H H'->Sl H' Sr 32 p ((XG pend safe).take (safe.length / 2))->Sl H' Sr 32 q (((XG pend safe).drop (safe.length / 2)).take (safe.length / 2))->Q (.agg #[.slice p (safe.length / 2) c,.slice q (safe.length / 2) c']) H') :
  NQ E false lim 74 [Vp D] H Q:=by
 refine runs (by decide) e74 rfl ?_
 rw [b74,c74]
 have P:=fun X=>(QP.refl.app (X:=X)).cells O
 have aa:=NJ O
 have cl:=fun X (Q:Value->NB->Prop)=>Nnf (lim:=lim) (c:=sc) (Q:=Q) (hS.app X) U T
 simp only [n74,r74,P,cl,SB,Nat.reduceLT,NC,NH,Nat.reduceEqDiff,NG,NT,reduceCtorEq,ND,place,NA,Nat.reduceAdd,Nat.reduceLeDiff,NE,Int.reduceEq,Int.reduceLT,Int.reduceLE]
 refine QD (fun s:Nat×List Rh=>pend.length-s.1) (fun s fr G=>s.1<=pend.length/\fr 0=Vp D/\fr 2=Vp H.length/\fr 3=.slice (Sa (H.length+2)) safe.length (loose 32)/\fr 15=.slice pp pend.length L/\fr 16=Vi pend.length/\fr 17=Vi s.1/\
  Chg [] H G/\H.length+3<=G.length/\s.2.length=safe.length/\NF G (H.length+2)=Vc (s.2.flatMap Sr)/\NF G H.length=Vc [Vz,Vz]/\XG pend safe=RO [] s.1 (pend.drop s.1) s.2) (0,safe) ⟨N7 _,(by simp only [FB,Nat.reduceEqDiff]),(by simp only [FB,Nat.reduceEqDiff]),(by simp only [FB,Nat.reduceEqDiff]),(by simp only [FB,Nat.reduceEqDiff]),(by simp only [FB,Nat.reduceEqDiff]),by rfl,Chg.refl.app,by simp,rfl,by rw [NP];rfl,by rw [NU];rfl,rfl⟩ ?_
 rintro ⟨i,cur⟩ fr G ⟨hi,h0,h2,v,g,j,m,w,ab,b,f,Y,y⟩ hN
 simp only at hi m b f y
 rw [QG Nuw.eq_1]
 refine NI ?_
 have n:=fun X=>(QP.refl.app (X:=X)).cells (w.cells O (by simp))
 have C:lim<=G.length:=by omega
 by_cases d:i<pend.length
 ·have x:=w.sl hP (by simp)
  have F:=fun X=>(x.app X).loadCells Rz d
  have r:=fun c (k:IntKind) (H1:NB)=>x.idx (c:=c) (k:=k) (H1:=H1) d
  have K:IntKind.i64.wrap ((i:Int)+1)=((i+1:Nat):Int):=QU (by omega)
  have o:=fun X (a:Int) (mp:Bool) (lim:Nat) (Q:Value->NB->Prop)=>Nji (mp:=mp) (lim:=lim) (a:=a) (Q:=Q) (n X)
  cases hh:UI safe.length (gt pend i).pos with
  | false=>
    simp only [n74,r74,h0,h2,v,g,j,m,d,F,r,n,o,Rz,Sz,Yl,Ve,C,K,RS,hh,SB,Nat.reduceLT,NC,NH,Nat.reduceEqDiff,NG,NT,reduceCtorEq,ND,place,NA,Nat.reduceAdd,Nat.reduceLeDiff,NE,Int.reduceEq,Int.reduceLT,Int.reduceLE]
    exact hN (i+1,cur) _ _ ⟨by show i+1<=_;omega,(by simp only [h0,FB,Nat.reduceEqDiff]),(by simp only [h2,FB,Nat.reduceEqDiff]),(by simp only [v,FB,Nat.reduceEqDiff]),(by simp only [g,FB,Nat.reduceEqDiff]),(by simp only [j,FB,Nat.reduceEqDiff]),(by simp only [FB,Nat.reduceEqDiff]),w.app,by simp;omega,b,(QP.refl.app).cells f,(QP.refl.app).cells Y,by show _=RO _ (i+1) _ cur;rw [y,Wp d,b,hh];rfl⟩ (by show _-(i+1)<_;omega)
  | true=>
    obtain ⟨k,hk,B⟩:∃k:Nat,(gt pend i).pos=(k:Int)/\k<safe.length:=by
     simp only [UI,Nx] at hh
     exact ⟨(gt pend i).pos.toNat,by omega,by omega⟩
    have V:∀H1 c,X7 32 (.slice (Sa (H.length+2)) safe.length c) (Vi (gt pend i).pos) H1=some (.pointer (some (Xx (Sa (H.length+2)) 32 k)),H1):=fun H1 c=>by
     rw [hk];exact Xc B
    obtain ⟨G',W,t,u⟩:=Ncv (lim:=lim) (e:=32) RS rfl f (by omega) (show k<cur.length by rw [b];exact B) (gt pend i).data
    simp only [n74,r74,h0,h2,v,g,j,m,d,F,r,n,o,Rz,Sz,Yl,Ve,C,K,RS,hh,V,W,SB,Nat.reduceLT,NC,NH,Nat.reduceEqDiff,NG,NT,reduceCtorEq,ND,place,NA,Nat.reduceAdd,Nat.reduceLeDiff,NE,Int.reduceEq,Int.reduceLT,Int.reduceLE]
    exact hN (i+1,cur.set k (gt pend i).data) _ _ ⟨by show i+1<=_;omega,(by simp only [h0,FB,Nat.reduceEqDiff]),(by simp only [h2,FB,Nat.reduceEqDiff]),(by simp only [v,FB,Nat.reduceEqDiff]),(by simp only [g,FB,Nat.reduceEqDiff]),(by simp only [j,FB,Nat.reduceEqDiff]),(by simp only [FB,Nat.reduceEqDiff]),(w.mut u (.inr (by omega))).app,by simp [u.len];omega,by simpa using b,(QP.refl.app).cells t,(QP.refl.app).cells (u.cells Y (by omega)),by
     show _=RO _ (i+1) _ (cur.set k _)
     rw [y,Wp d,b,hh];simp [hk]⟩ (by show _-(i+1)<_;omega)
 obtain rfl:i=pend.length:=by omega
 rw [Qu,RO] at y
 subst y
 have sz:=fun X (mp:Bool) (lim:Nat) (Q:Value->NB->Prop)=>Nd0 (mp:=mp) (lim:=lim) (Q:=Q) (n X) (by omega)
 have J:=Sl.row RS f
 have ac:safe.length / 2+safe.length / 2<=safe.length:=by omega
 have w2:IntKind.i64.wrap (2*((safe.length / 2:Nat):Int))=((safe.length / 2+safe.length / 2:Nat):Int):=by rw [QJ (by omega) (by omega)];omega
 obtain ⟨p1,c1,e1,s1,_,M,_⟩:=Tz (c:=loose 32) (vlo:=none) (vhi:=some (Vi ((safe.length / 2:Nat):Int))) (lo:=0) (hi:=safe.length / 2) J (.inl rfl) RS (fun cap A=>by rw [Ne4 (by omega) (by omega),O5]) (N7 _) (by omega) (by omega)
 obtain ⟨p2,c2,e2,s2,_,N,_⟩:=Tz (c:=loose 32) (vlo:=some (Vi ((safe.length / 2:Nat):Int))) (vhi:=some (Vi ((safe.length / 2+safe.length / 2:Nat):Int))) (lo:=safe.length / 2) (hi:=safe.length / 2+safe.length / 2) J (.inl rfl) RS (fun cap A=>by rw [Ne3 (by omega) (by omega) (by omega),O5,O5]) (by omega) (by omega) (by omega)
 rw [b,Nat.sub_zero] at e1
 rw [b,Qp] at e2
 rw [Oh] at s1
 rw [List.drop_take,Qp] at s2
 obtain ⟨G',I,t,u⟩:=RN (G:=G) (R:=H.length) (by omega) (Vc [.slice p1 (safe.length / 2) c1,.slice p2 (safe.length / 2) c2])
 have Z:=fun X=>(QP.refl.app (X:=X)).cells Y
 have S:=fun X=>(QP.refl.app (X:=X)).cells t
 simp only [n74,r74,h0,h2,v,g,j,m,d,sz,e1,e2,w2,Z,I,hl,S,SB,Nat.reduceLT,NC,NH,Nat.reduceEqDiff,NG,NT,reduceCtorEq,ND,place,NA,Nat.reduceAdd,Nat.reduceLeDiff,NE,Int.reduceEq,Int.reduceLT,Int.reduceLE]
 have z:∀{p:Option Addr} {l:List Rh},Sl G Sr 32 p l->(∀a,p=some a->a.block=H.length+2)->Sl G' Sr 32 p l:=fun {p l} h hb=>u.sl h fun a e _=>by have:=hb a e;omega
 refine hQ _ _ _ _ _ ((w.mut u (.inr (Nd _))).app) ((z s1 fun a e=>?_).app _) ((z s2 fun a e=>?_).app _)
 ·obtain ⟨a',h1,h2⟩:=M a e;cases h1;exact h2
 ·obtain ⟨a',h1,h2⟩:=N a e;cases h1;exact h2
theorem Nkb [OA] {lim n:Nat} {H:NB} {Q:Value->NB->Prop} (hn:4<=n) (h2:n<=32768)
  (e:Q (.tuple #[Vp (H.length+1),Vi 0]) (H++[Vc ((List.replicate n (Vector.replicate 32 (0:UInt8))).flatMap Sr),Vc [.slice (Sa H.length) n n,Vz]])) :
  NQ E false lim 32 [Vi n] H Q:=by
 refine runs (by decide) e32 rfl ?_
 rw [b32,c32]
 have c:¬(n:Int)<4:=by omega
 have d:¬(32768:Int)<(n:Int):=by omega
 have b:(n:Int)*32<=2 ^ 45:=by omega
 have a:(n:Int)<2 ^ 62:=by omega
 have f:((List.range (n*32)).map fun j=>[Value.int .u8 0,Value.int .u8 0,Value.int .u8 0,Value.int .u8 0,Value.int .u8 0,Value.int .u8 0,Value.int .u8 0,Value.int .u8 0,Value.int .u8 0,Value.int .u8 0,Value.int .u8 0,Value.int .u8 0,Value.int .u8 0,Value.int .u8 0,Value.int .u8 0,Value.int .u8 0,Value.int .u8 0,Value.int .u8 0,Value.int .u8 0,Value.int .u8 0,Value.int .u8 0,Value.int .u8 0,Value.int .u8 0,Value.int .u8 0,Value.int .u8 0,Value.int .u8 0,Value.int .u8 0,Value.int .u8 0,Value.int .u8 0,Value.int .u8 0,Value.int .u8 0,Value.int .u8 0].getD (j % 32) undef)=(List.replicate n (Vector.replicate 32 (0:UInt8))).flatMap Sr:=by
  rw [show [Value.int .u8 0,Value.int .u8 0,Value.int .u8 0,Value.int .u8 0,Value.int .u8 0,Value.int .u8 0,Value.int .u8 0,Value.int .u8 0,Value.int .u8 0,Value.int .u8 0,Value.int .u8 0,Value.int .u8 0,Value.int .u8 0,Value.int .u8 0,Value.int .u8 0,Value.int .u8 0,Value.int .u8 0,Value.int .u8 0,Value.int .u8 0,Value.int .u8 0,Value.int .u8 0,Value.int .u8 0,Value.int .u8 0,Value.int .u8 0,Value.int .u8 0,Value.int .u8 0,Value.int .u8 0,Value.int .u8 0,Value.int .u8 0,Value.int .u8 0,Value.int .u8 0,Value.int .u8 0]=List.replicate 32 (Value.int .u8 0) from rfl]
  have e1:∀n:Nat,(List.replicate n (Vector.replicate 32 (0:UInt8))).flatMap Sr=List.replicate (n*32) (Value.int .u8 0):=by
   intro n
   induction n with
   | zero=>rfl
   | succ n ih=>rw [Qd,Oi,ih,show Sr (Vector.replicate 32 (0:UInt8))=List.replicate 32 (Value.int .u8 0) from rfl,P3];congr 1;omega
  rw [e1]
  apply O4 (by simp)
  intro i g h
  have:i % 32<32:=P4 _ (by decide)
  simp only [Q6,List.getElem_range,List.getElem_replicate]
  rw [Na,Qt,Nj this]
  rfl
 simp only [n32,r32,c,d,Nqo,b,a,f,SB,Nat.reduceLT,NC,NH,Nat.reduceEqDiff,NG,NT,reduceCtorEq,ND,place,NA,Nat.reduceAdd,Nat.reduceLeDiff,NE,Int.reduceEq,Int.reduceLT,Int.reduceLE]
 exact e
def pay (s:Rh):List UInt8:=(s.toList.drop 14).take (ln s)
def Sq (a i:Nat) (ins:Bool) (life:Nat) (s:Rh):Bool:=
 QK s i&&decide (Rl s 0=a)&&!(decide (fl s % 2=1) == ins)&&decide (life<=Rl s 4)&&!(ins&&!decide (Rl s 4=life))
def TK (a:Nat):Nat->List Rh->Bool->Nat->List UInt8->List (List UInt8)->Nat->List (List UInt8)×Nat
 | _,[],_,_,_,l,e=>(l,e)
 | i,s::r,ins,life,rec,l,e=>
   if Sq a i ins life s then
    if fl s<2 then TK a (i+1) r true (Rl s 4) (rec++pay s) l e
    else TK a (i+1) r false (Rl s 4) [] (l++[rec++pay s]) (i+1)
   else (l,e)
def QB:List Rh->Nat
 | []=>0
 | s::_=>Rl s 0
def recs (a:List Rh):List (List UInt8)×Nat:=TK (QB a) 0 a false 0 [] [] 0
abbrev V3:=Option Addr×Nat×Nat
def U1 (d:V3):List Value:=[.slice d.1 d.2.1 d.2.2]
theorem TL (d:V3):(U1 d).length=1:=rfl
structure RowsAt (h0:Nat) (G:NB) (p:Option Addr) (c:Nat) (ds:List V3) (l:List (List UInt8)):Prop where
 own:Own h0 G U1 1 p c ds
 len:ds.length=l.length
 row:∀k,k<l.length->(gt ds k).2.1=(gt l k).length/\Own h0 G Uf 1 (gt ds k).1 (gt ds k).2.2 (gt l k)
 ap:∀k,k<l.length->∀a b,(gt ds k).1=some a->p=some b->a.block≠b.block
theorem RowsAt.chg {h0:Nat} {G G':NB} {p:Option Addr} {c:Nat} {ds:List V3} {l:List (List UInt8)} {L:List Nat} (h:RowsAt h0 G p c ds l) (hc:Chg L G G') (hp:∀b,p=some b->b.block∉L) (hr:∀k,k<l.length->∀a,(gt ds k).1=some a->a.block∉L):RowsAt h0 G' p c ds l:=
 ⟨h.own.chg hc hp,h.len,fun k d=>⟨(h.row k d).1,(h.row k d).2.chg hc (hr k d)⟩,h.ap⟩
theorem RowsAt.nil {h0:Nat} {G:NB}:RowsAt h0 G none 0 [] []:=⟨Own.nil,rfl,fun k a=>by simp at a,fun k a=>by simp at a⟩
theorem Nku {G G':NB} {p:Option Addr} (h:∀j,j<G.length->(∀a,p=some a->j≠a.block)->NF G' j=NF G j) (hl:G.length<=G'.length):Chg (blk p) G G':=⟨hl,fun j c b=>h j c fun a e=>by
 subst e
 simpa [blk] using b⟩
theorem SE {p:Option Addr} {j:Nat}:j∈blk p↔∃a,p=some a/\a.block=j:=by
 cases p with
 | none=>simp [blk]
 | some a=>simp [blk];exact eq_comm
theorem RowsAt.snoc {h0 lim:Nat} {G:NB} {p:Option Addr} {c:Nat} {ds:List V3} {l:List (List UInt8)} (h:RowsAt h0 G p c ds l) (g:lim<=h0) (v:h0<=G.length) {q:Option Addr} {cq:Nat} {r:List UInt8} (t:Own h0 G Uf 1 q cq r) (s:∀a b,q=some a->p=some b->a.block≠b.block) (hl:l.length<2 ^ 30) (X:NB) (b k:Nat) (w:NF (G++X) b=Vc (U1 (q,r.length,cq))) :
  ∃f,OI lim none 1 24 false (.slice p l.length c) (.slice (Sa b) 1 k) (G++X)=some (.slice (Sa (G.length+X.length)) (l.length+1) (loose 1),f++[])/\RowsAt h0 (f++[]) (Sa (G.length+X.length)) (loose 1) (ds++[(q,r.length,cq)]) (l++[r])/\Chg (blk p) G (f++[]):=by
 obtain ⟨f,e1,u,_,j,l2,_⟩:=h.own.step (lim':=lim) (bytes:=24) g TL (by decide) (q,r.length,cq) (by rw [h.len];unfold PQ;omega) (by rw [h.len];omega) v X b k w
 rw [h.len] at e1
 have hc:Chg (blk p) G (f++[]):=Nku j (by simp;omega)
 refine ⟨f,e1,⟨u,by simp [h.len],fun k n=>?_,fun k n a b' m hb=>?_⟩,hc⟩
 ·by_cases d:k<l.length
  ·rw [Rc (by rw [h.len];exact d),Rc d]
   exact ⟨(h.row k d).1,(h.row k d).2.chg hc fun a e o=>by
    obtain ⟨b',h1,h2⟩:=SE.1 o
    exact h.ap k d a b' e h1 h2.symm⟩
  ·have:k=l.length:=by simp at n;omega
   subst this
   rw [show gt (ds++[(q,r.length,cq)]) l.length=(q,r.length,cq) by rw [<-h.len];exact Rf (i:=0),show gt (l++[r]) l.length=r from Rf (i:=0)]
   exact ⟨rfl,t.chg hc fun a e o=>by
    obtain ⟨b',h1,h2⟩:=SE.1 o
    exact s a b' e h1 h2.symm⟩
 ·cases hb
  show a.block≠G.length+X.length
  have key:a.block<G.length:=by
   by_cases d:k<l.length
   ·rw [Rc (by rw [h.len];exact d)] at m
    exact ((h.row k d).2.block m).2
   ·have:k=l.length:=by simp at n;omega
    subst this
    rw [show gt (ds++[(q,r.length,cq)]) l.length=(q,r.length,cq) by rw [<-h.len];exact Rf (i:=0)] at m
    exact (t.block m).2
  omega
def bdC:ACode->ACode
 | .block _ b=>b
 | c=>c
def B46:ACode:=bdC (hdC (Vf (Vf WY)))
def WL:ACode:=Vf (Vf (Vf (Vf B46)))
def Nd1:ACode:=Vf (Vf WL)
theorem Nh9:WL=.seq (hdC WL) (.seq (hdC (Vf WL)) Nd1):=rfl
theorem Ntl:WY=.seq (hdC WY) (.seq (hdC (Vf WY)) (.seq (.block 1 (.seq (hdC B46) (.seq (hdC (Vf B46)) (.seq (hdC (Vf (Vf B46))) (.seq (hdC (Vf (Vf (Vf B46)))) WL))))) (Vf (Vf (Vf WY))))):=rfl
theorem and1:∀f:Fin 256,(IntKind.u8.wrap ((BitVec.ofInt IntKind.u8.bits ((f.val:Nat):Int) &&& BitVec.ofInt IntKind.u8.bits 1).toNat:Int)=0)↔(f.val % 2=0):=by decide +kernel
theorem Nxs (s:Rh):fl s<256:=(gt s.toList 12).toNat_lt
theorem Nxo (s:Rh):ln s<256:=(gt s.toList 13).toNat_lt
theorem Nmh {s:Rh} {n:Nat} (h:QK s n=true):fl s<=3/\ln s<=18/\Rl s 0<=1073741824/\Rl s 4<=1073741824:=by
 simp only [QK,Nq,Nx] at h
 omega
def Zh:ACode:=Vf (Vf (Vf (Vf c76)))
theorem Nug:c76=.seq (hdC c76) (.seq (hdC (Vf c76)) (.seq (hdC (Vf (Vf c76))) (.seq (hdC (Vf (Vf (Vf c76)))) Zh))):=rfl
theorem XZ [OA] {lim n c:Nat} {p:Option Addr} {a:List Rh} {H:NB} {Q:Value->NB->Prop} (hs:Sl H Sr 32 p a) (hn:n=a.length) (bm:a.length<2 ^ 20) (al:lim<=H.length)
  (hQ:∀G q cq ds,Chg [] H G->RowsAt H.length G q cq ds (recs a).1->Q (.tuple #[.slice q (recs a).1.length cq,Vi (QB a:Int),Vi ((recs a).2:Int)]) G) :
  NQ E false lim 76 [.slice p n c] H Q:=by
 subst hn
 refine runs (by decide) e76 rfl ?_
 rw [b76,Nug]
 simp only [c76,hdC,Vf]
 simp only [n76,r76,SB,Nat.reduceLT,NC,NH,Nat.reduceEqDiff,NG,NT,reduceCtorEq,ND,place,NA,Nat.reduceAdd,Nat.reduceLeDiff,NE,Int.reduceEq,Int.reduceLT,Int.reduceLE]
 have bg:QB a<2 ^ 32:=by
  unfold QB
  split
  ·decide
  ·rename_i s _
   unfold Rl
   have h1:=Ngp ((s.toList.drop 0).take 4)
   have h2:((s.toList.drop 0).take 4).length<=4:=by simp
   have h3:256 ^ ((s.toList.drop 0).take 4).length<=256 ^ 4:=Nat.pow_le_pow_right (by decide) h2
   omega
 have fin:∀(fr:Nat->Value) (G:NB) (q:Option Addr) (cq:Nat) (ds:List V3),Chg [] H G->RowsAt H.length G q cq ds (recs a).1->fr 2=.slice q (recs a).1.length cq->fr 3=Vi (QB a:Int)->fr 4=Vi ((recs a).2:Int)->QW E a76 lim [.code Zh] fr (G++[]) Q:=by
  intro fr G q cq ds hC hR u m v
  unfold Zh
  simp only [c76,Vf]
  simp only [n76,r76,u,m,v,SB,Nat.reduceLT,NC,NH,Nat.reduceEqDiff,NG,NT,reduceCtorEq,ND,place,NA,Nat.reduceAdd,Nat.reduceLeDiff,NE,Int.reduceEq,Int.reduceLT,Int.reduceLE]
  exact hQ _ _ _ _ hC.app (hR.chg Chg.refl.app (L:=[]) (by simp) (by simp))
 refine QD (fun s:(Nat×Bool×Nat)×(Option Addr×Nat×List UInt8)×(Option Addr×Nat×List V3×List (List UInt8))×Nat=>a.length-s.1.1)
  (fun s fr G=>s.1.1<=a.length/\fr 0=.slice p a.length c/\fr 2=.slice s.2.2.1.1 s.2.2.1.2.2.2.length s.2.2.1.2.1/\fr 3=Vi (if s.1.1=0 then 0 else (QB a:Int))/\fr 4=Vi s.2.2.2/\fr 5=.slice s.2.1.1 s.2.1.2.2.length s.2.1.2.1/\fr 6=.bool s.1.2.1/\fr 7=Vi s.1.2.2/\fr 12=Vi a.length/\fr 13=Vi s.1.1/\
   recs a=TK (QB a) s.1.1 (a.drop s.1.1) s.1.2.1 s.1.2.2 s.2.1.2.2 s.2.2.1.2.2.2 s.2.2.2/\Chg [] H G/\RowsAt H.length G s.2.2.1.1 s.2.2.1.2.1 s.2.2.1.2.2.1 s.2.2.1.2.2.2/\Own H.length G Uf 1 s.2.1.1 s.2.1.2.1 s.2.1.2.2/\
   (∀x y,s.2.1.1=some x->s.2.2.1.1=some y->x.block≠y.block)/\(∀k,k<s.2.2.1.2.2.2.length->∀x y,(gt s.2.2.1.2.2.1 k).1=some x->s.2.1.1=some y->x.block≠y.block)/\s.2.1.2.2.length<=18*s.1.1/\s.2.2.1.2.2.2.length<=s.1.1)
  ((0,false,0),(none,0,[]),(none,0,[],[]),0)
  ⟨N7 _,(by simp only [FB,Nat.reduceEqDiff]),(by simp only [Nn,FB,Nat.reduceEqDiff]),by rfl,by rfl,(by simp only [Nn,FB,Nat.reduceEqDiff]),(by simp only [FB,Nat.reduceEqDiff]),by rfl,(by simp only [FB,Nat.reduceEqDiff]),by rfl,rfl,Chg.refl.app,RowsAt.nil,Own.nil,(by intro x y h;cases h),(by intro k hk;simp at hk),N7 _,N7 _⟩ ?_
 rintro ⟨⟨i,ins,life⟩,⟨q,cq,rec⟩,⟨p2,c2,ds,l⟩,e⟩ fr G ⟨hi,A,u,m,v,C,K,M,f,g,o,hC,hR,hO,Z,aa,be,bb⟩ hN
 simp only at hi u m v C K M g o hR hO Z aa be bb
 obtain ⟨L,hL⟩:∃L,L=WY:=⟨_,rfl⟩
 have hI:AItem.inLoop WY=AItem.inLoop L:=by rw [hL]
 rw [hI] at hN⊢
 rw [QG Ntl]
 simp only [WY,B46,bdC,hdC,Vf]
 refine NI ?_
 have a8:=hC.len
 by_cases F:i<a.length
 ·have av:=hC.sl hs (by simp)
  have am:=SecAt.of_elt av F
  have ak:=fun c (k:IntKind) (H1:NB)=>av.idx (c:=c) (k:=k) (H1:=H1) F
  have a9:a.drop i=gt a i::a.drop (i+1):=by rw [Pd F,Vm F]
  rw [a9] at o
  generalize bf:gt a i=s at am o
  have hX:=fun X=>am.app X
  have B:=fun X (mp:Bool) (lim:Nat) (Q:Value->NB->Prop)=>Yh (mp:=mp) (lim:=lim) (Q:=Q) (n:=0) (hX X) (by decide)
  have w:=fun X (mp:Bool) (lim:Nat) (Q:Value->NB->Prop)=>Yh (mp:=mp) (lim:=lim) (Q:=Q) (n:=4) (hX X) (by decide)
  simp only [N6] at B w
  have Y:∀X (mp:Bool) (lim:Nat) (Q:Value->NB->Prop),NQ E mp lim 121 [.pointer (some (Xx p 32 i))] (G++X) Q=Q (.int .u8 (fl s:Int)) (G++X):=fun X mp lim Q=>Na0 (hX X)
  have gm:=fun X (mp:Bool) (lim:Nat) (Q:Value->NB->Prop)=>Nc6 (mp:=mp) (lim:=lim) (Q:=Q) (n:=i) (hX X) (by omega)
  have a1:(IntKind.u8.wrap ((BitVec.ofInt IntKind.u8.bits (fl s:Int) &&& BitVec.ofInt IntKind.u8.bits 1).toNat:Int)=0)=(fl s % 2=0):=propext (and1 ⟨fl s,Nxs s⟩)
  have ba:i=0->Rl s 0=QB a:=fun h=>by
   subst h
   rw [<-bf,Vm F]
   cases a with
   | nil=>simp at F
   | cons x r=>rfl
  have az:∀fr:Nat->Value,fr 0=.slice p a.length c->fr 2=.slice p2 l.length c2->fr 3=Vi (QB a:Int)->fr 4=Vi e->fr 5=.slice q rec.length cq->fr 6=.bool ins->fr 7=Vi life->fr 8=Vi i->fr 9=.pointer (some (Xx p 32 i))->fr 10=.bool (decide ¬fl s % 2=0)->fr 12=Vi a.length->fr 13=Vi i->
    QW E a76 lim [.code WL,.inBlock 1,.code (.ops [Sym.i 80 (.bin .add (t 13) (k (Vi 1))),Sym.i 13 (.mov (t 80))]),.inLoop L,.inBlock 0,.code Zh] fr (G++[]) Q:=by
   clear A u m v C K M f g
   clear fr
   intro fr A u m v C K M S T D f g
   rw [Nh9]
   simp only [WL,B46,WY,bdC,hdC,Vf]
   have stop:Sq (QB a) i ins life s=false->∀fr:Nat->Value,fr 2=.slice p2 l.length c2->fr 3=Vi (QB a:Int)->fr 4=Vi e->QW E a76 lim [.code Zh] fr (G++[]) Q:=fun h fr x2 x3 x4=>by
    have:recs a=(l,e):=by rw [o];simp [TK,h]
    exact fin fr G p2 c2 ds hC (by rw [this];exact hR) (by rw [this];exact x2) x3 (by rw [this];exact x4)
   cases J:QK s i with
   | false=>
     simp only [n76,r76,A,u,m,v,C,K,M,S,T,D,f,g,B,w,Y,gm,VR,J,SB,Nat.reduceLT,NC,NH,Nat.reduceEqDiff,NG,NT,reduceCtorEq,ND,place,NA,Nat.reduceAdd,Nat.reduceLeDiff,NE,Int.reduceEq,Int.reduceLT,Int.reduceLE]
     exact stop (by simp [Sq,J]) _ (by simp only [u,FB,Nat.reduceEqDiff]) (by simp only [m,FB,Nat.reduceEqDiff]) (by simp only [v,FB,Nat.reduceEqDiff])
   | true=>
     obtain ⟨mf,ml,me,bn⟩:=Nmh J
     by_cases h1:Rl s 0=QB a
     case neg=>
      simp only [n76,r76,A,u,m,v,C,K,M,S,T,D,f,g,B,w,Y,gm,VR,J,h1,SB,Nat.reduceLT,NC,NH,Nat.reduceEqDiff,NG,NT,reduceCtorEq,ND,place,NA,Nat.reduceAdd,Nat.reduceLeDiff,NE,Int.reduceEq,Int.reduceLT,Int.reduceLE]
      exact stop (by simp [Sq,h1]) _ (by simp only [u,FB,Nat.reduceEqDiff]) (by simp only [m,FB,Nat.reduceEqDiff]) (by simp only [v,FB,Nat.reduceEqDiff])
     have R:(true == true)=true:=rfl
     have P:(true == false)=false:=rfl
     have O:(false == true)=false:=rfl
     have N:(false == false)=true:=rfl
     by_cases h2:(decide (fl s % 2=1) == ins)=true
     ·have:(fl s % 2=0)=(ins=false):=by
       cases ins<;>simp at h2<;>apply propext<;>simp<;>omega
      cases ins
      ·have z:fl s % 2=0:=by rw [this]
       simp only [n76,r76,A,u,m,v,C,K,M,S,T,D,f,g,B,w,Y,gm,VR,J,Pz h1,Pz z,R,P,O,N,decide_true,decide_false,SB,Nat.reduceLT,NC,NH,Nat.reduceEqDiff,NG,NT,reduceCtorEq,ND,place,NA,Nat.reduceAdd,Nat.reduceLeDiff,NE,Int.reduceEq,Int.reduceLT,Int.reduceLE]
       exact stop (by unfold Sq;rw [h2];simp) _ (by simp only [u,FB,Nat.reduceEqDiff]) (by simp only [m,FB,Nat.reduceEqDiff]) (by simp only [v,FB,Nat.reduceEqDiff])
      ·have z:¬fl s % 2=0:=by rw [this];simp
       simp only [n76,r76,A,u,m,v,C,K,M,S,T,D,f,g,B,w,Y,gm,VR,J,Pz h1,z,R,P,O,N,decide_true,decide_false,SB,Nat.reduceLT,NC,NH,Nat.reduceEqDiff,NG,NT,reduceCtorEq,ND,place,NA,Nat.reduceAdd,Nat.reduceLeDiff,NE,Int.reduceEq,Int.reduceLT,Int.reduceLE]
       exact stop (by unfold Sq;rw [h2];simp) _ (by simp only [u,FB,Nat.reduceEqDiff]) (by simp only [m,FB,Nat.reduceEqDiff]) (by simp only [v,FB,Nat.reduceEqDiff])
     have au:(decide (fl s % 2=1) == ins)=false:=by simpa using h2
     have a2:=Nxx mf
     have bh:∀(kk:IntKind),0<=(13:Int)/\(13:Int)<32:=fun _=>by decide
     have ab:=fun X=>(hX X).cell (i:=13) (by decide)
     have wl:IntKind.i64.wrap ((gt s.toList 13).toNat:Int)=(ln s:Int):=by have:=Nxo s;exact QJ (by unfold ln at this;omega) (by unfold ln at this;omega)
     have a4:IntKind.i64.wrap (14+(ln s:Int))=((14+ln s:Nat):Int):=by rw [QJ (by omega) (by omega)];omega
     have a5:IntKind.i64.wrap ((i:Int)+1)=((i+1:Nat):Int):=QU (by omega)
     have ac:=UC (n:=32) (e:=1) (a:=Xx p 32 i) (lo:=14) (hi:=14+ln s) (vlo:=some (Vi 14)) (vhi:=some (Vi ((14+ln s:Nat):Int))) (by rw [Ne3 (by decide) (by omega) (by omega),O5];rfl) (by decide) (by decide)
     rw [N8,Pj] at ac
     have ay:Sl (G++[.dead]) Uf 1 (some ((Xx p 32 i).add 14)) (pay s):=by
      have:=(hX [.dead]).sl.sub Rv (lo:=14) (hi:=14+ln s) (by omega) (by rw [Xp];omega)
      rw [N8,List.drop_take,Pj] at this
      exact this
     have V:(pay s).length=ln s:=by unfold pay;simp;omega
     obtain ⟨W,q2,ah,e2,O2,_,ao,l2,bc,bd⟩:=hO.moreD (d:=G.length) (lim':=lim) (bytes:=1) al Rv (by decide) (pay s) (by rw [V];unfold PQ;omega) (by rw [V];omega) a8 [.dead] (Nd _) (by simp) (x:=.slice (some ((Xx p 32 i).add 14)) (ln s) 18) (str:=false) (by rw [<-V];exact Xe ay) (by rw [V];rfl)
     rw [V] at e2
     have cb:Chg (blk q) G (W++[]):=Nku ao (by simpa using l2)
     have R2:RowsAt H.length (W++[]) p2 c2 ds l:=hR.chg cb (fun b hb J=>by
      obtain ⟨b',k1,k2⟩:=SE.1 J
      exact Z b' b k1 hb k2) (fun k hk x hx J=>by
      obtain ⟨b',k1,k2⟩:=SE.1 J
      exact aa k hk x b' hx k1 k2.symm)
     have C2:Chg [] H (W++[]):=hC.trans' cb fun j hj hl=>by
      obtain ⟨b',k1,k2⟩:=SE.1 hj
      have:=(hO.block k1).1
      omega
     have ag:∀y,q2=some y->(q=some y)\/y.block=G.length:=fun y hy=>by
      by_cases ae:pay s=[]
      ·left
       rw [<-bd ae];exact hy
      ·right
       rw [bc ae] at hy;cases hy;rfl
     by_cases h3:Rl s 4<life
     ·have ai:=stop (by unfold Sq;rw [Od (by omega:¬life<=Rl s 4)];simp)
      cases ins
      ·have z:¬fl s % 2=0:=by simp at h2;omega
       simp only [n76,r76,A,u,m,v,C,K,M,S,T,D,f,g,B,w,Y,gm,VR,J,Pz h1,z,R,P,O,N,decide_true,decide_false,h3,SB,Nat.reduceLT,NC,NH,Nat.reduceEqDiff,NG,NT,reduceCtorEq,ND,place,NA,Nat.reduceAdd,Nat.reduceLeDiff,NE,Int.reduceEq,Int.reduceLT,Int.reduceLE]
       exact ai _ (by simp only [u,FB,Nat.reduceEqDiff]) (by simp only [m,FB,Nat.reduceEqDiff]) (by simp only [v,FB,Nat.reduceEqDiff])
      ·have z:fl s % 2=0:=by simp at h2;omega
       simp only [n76,r76,A,u,m,v,C,K,M,S,T,D,f,g,B,w,Y,gm,VR,J,Pz h1,Pz z,R,P,O,N,decide_true,decide_false,h3,SB,Nat.reduceLT,NC,NH,Nat.reduceEqDiff,NG,NT,reduceCtorEq,ND,place,NA,Nat.reduceAdd,Nat.reduceLeDiff,NE,Int.reduceEq,Int.reduceLT,Int.reduceLE]
       exact ai _ (by simp only [u,FB,Nat.reduceEqDiff]) (by simp only [m,FB,Nat.reduceEqDiff]) (by simp only [v,FB,Nat.reduceEqDiff])
     have go:Sq (QB a) i ins life s=true->∀fr:Nat->Value,fr 0=.slice p a.length c->fr 2=.slice p2 l.length c2->fr 3=Vi (QB a:Int)->fr 4=Vi e->fr 5=.slice q rec.length cq->fr 8=Vi i->fr 9=.pointer (some (Xx p 32 i))->fr 12=Vi a.length->fr 13=Vi i->
       QW E a76 lim [.code Nd1,.inBlock 1,.code (.ops [Sym.i 80 (.bin .add (t 13) (k (Vi 1))),Sym.i 13 (.mov (t 80))]),.inLoop L,.inBlock 0,.code Zh] fr (G++[]) Q:=by
      clear A u m v C K M S T D f g
      clear fr
      intro ax fr A u m v C S T f g
      unfold Nd1
      simp only [WL,B46,WY,bdC,hdC,Vf]
      have bl:(Xx p 32 i).block<H.length:=by
       have ae:a≠[]:=by rintro rfl;simp at F
       obtain ⟨a0,rfl⟩:=hs.some ae
       simp only [Xx,addrOf,Oc,Nj3]
       exact hs.lt ae
      have aw:∀X (mp:Bool) (lim:Nat) (Q:Value->NB->Prop),NQ E mp lim 121 [.pointer (some (Xx p 32 i))] ((W++[])++X) Q=Q (.int .u8 (fl s:Int)) ((W++[])++X):=fun X mp lim Q=>Na0 ((am.chg cb (fun J=>by
       obtain ⟨b',k1,k2⟩:=SE.1 J
       have:=(hO.block k1).1
       omega)).app X)
      have aj:∀(mp:Bool) (lim:Nat) (Q:Value->NB->Prop),NQ E mp lim 121 [.pointer (some (Xx p 32 i))] (W++[]) Q=Q (.int .u8 (fl s:Int)) (W++[]):=fun mp lim Q=>by
       have:=aw [] mp lim Q
       rw [Nb (W++[])] at this
       exact this
      have U:(rec++pay s).length=rec.length+ln s:=by rw [Nk,V]
      have aq:∀x y,q2=some x->p2=some y->x.block≠y.block:=fun x y hx hy=>by
       rcases ag x hx with h | h
       ·exact Z x y h hy
       ·have:=(hR.own.block hy).2;omega
      have a7:∀k,k<l.length->∀x y,(gt ds k).1=some x->q2=some y->x.block≠y.block:=fun k hk x y hx hy=>by
       rcases ag y hy with h | h
       ·exact aa k hk x y hx h
       ·have:=((hR.row k hk).2.block hx).2;omega
      by_cases I:fl s<2
      ·simp only [n76,r76,A,u,m,v,C,S,T,f,g,w,ab,wl,a4,ac,e2,N8,Int.reduceToNat,aj,a2,a5,Pz I,decide_true,SB,Nat.reduceLT,NC,NH,Nat.reduceEqDiff,NG,NT,reduceCtorEq,ND,place,NA,Nat.reduceAdd,Nat.reduceLeDiff,NE,Int.reduceEq,Int.reduceLT,Int.reduceLE]
       refine hN ((i+1,true,Rl s 4),(q2,ah,rec++pay s),(p2,c2,ds,l),e) _ _ ⟨by show i+1<=_;omega,(by simp only [A,FB,Nat.reduceEqDiff]),(by simp only [u,FB,Nat.reduceEqDiff]), ?_,(by simp only [v,FB,Nat.reduceEqDiff]), ?_,(by simp only [FB,Nat.reduceEqDiff]),(by simp only [FB,Nat.reduceEqDiff]),(by simp only [f,FB,Nat.reduceEqDiff]),(by simp only [FB,Nat.reduceEqDiff]), ?_,C2,R2,O2,aq,a7, ?_, ?_⟩ (by show a.length-(i+1)<a.length-i;omega)
       ·show _=Value.int .i64 (if i+1=0 then (0:Int) else (QB a:Int))
        rw [Nh (by omega)];exact (by simp only [m,FB,Nat.reduceEqDiff])
       ·show _=Value.slice q2 (rec++pay s).length ah
        rw [U];exact (by simp only [FB,Nat.reduceEqDiff])
       ·show recs a=TK _ (i+1) (a.drop (i+1)) true (Rl s 4) (rec++pay s) l e
        rw [o];simp only [TK,ax,if_true,I]
       ·show (rec++pay s).length<=18*(i+1)
        rw [U];omega
       ·show l.length<=i+1;omega
      ·obtain ⟨G3,e3,R3,C3⟩:=R2.snoc (lim:=lim) al (by simp;omega) O2 aq (by omega) [Vc (U1 (q2,(rec++pay s).length,ah))] (W++[]).length 1 (by rw [NU];rfl)
       rw [U] at e3 R3
       simp only [U1] at e3
       rw [Nb,Nb] at e3
       simp only [n76,r76,A,u,m,v,C,S,T,f,g,w,ab,wl,a4,ac,e2,N8,Int.reduceToNat,aj,a2,a5,I,decide_false,e3,SB,Nat.reduceLT,NC,NH,Nat.reduceEqDiff,NG,NT,reduceCtorEq,ND,place,NA,Nat.reduceAdd,Nat.reduceLeDiff,NE,Int.reduceEq,Int.reduceLT,Int.reduceLE]
       rw [Nb G3,Nb W] at C3 R3
       rw [Nb] at C2
       have a6:Chg [] H G3:=C2.trans' C3 fun j hj hl=>by
        obtain ⟨b',k1,k2⟩:=SE.1 hj
        have:=(R2.own.block k1).1
        omega
       refine hN ((i+1,false,Rl s 4),(none,0,[]),(Sa (W.length+1),loose 1,ds++[(q2,rec.length+ln s,ah)],l++[rec++pay s]),i+1) _ _ ⟨by show i+1<=_;omega,(by simp only [A,FB,Nat.reduceEqDiff]),(by simp only [Nk,Nm,Nn,FB,Nat.reduceEqDiff]), ?_,(by simp only [FB,Nat.reduceEqDiff]),(by simp only [Nn,FB,Nat.reduceEqDiff]),(by simp only [FB,Nat.reduceEqDiff]),(by simp only [FB,Nat.reduceEqDiff]),(by simp only [f,FB,Nat.reduceEqDiff]),(by simp only [FB,Nat.reduceEqDiff]), ?_,a6,R3,Own.nil,(by intro x y h;cases h),(by intro k hk x y _ h;cases h),N7 _, ?_⟩ (by show a.length-(i+1)<a.length-i;omega)
       ·show _=Value.int .i64 (if i+1=0 then (0:Int) else (QB a:Int))
        rw [Nh (by omega)];exact (by simp only [m,FB,Nat.reduceEqDiff])
       ·show recs a=TK _ (i+1) (a.drop (i+1)) false (Rl s 4) [] (l++[rec++pay s]) (i+1)
        rw [o];simp only [TK,ax,if_true,I,if_false]
       ·show (l++[rec++pay s]).length<=i+1
        simp;omega
     cases ins
     ·have z:¬fl s % 2=0:=by simp at h2;omega
      simp only [n76,r76,A,u,m,v,C,K,M,S,T,D,f,g,B,w,Y,gm,VR,J,Pz h1,z,R,P,O,N,decide_true,decide_false,h3,SB,Nat.reduceLT,NC,NH,Nat.reduceEqDiff,NG,NT,reduceCtorEq,ND,place,NA,Nat.reduceAdd,Nat.reduceLeDiff,NE,Int.reduceEq,Int.reduceLT,Int.reduceLE]
      exact go (by unfold Sq;rw [au,J,Of h1,Of (by omega:life<=Rl s 4)];rfl) _ (by simp only [A,FB,Nat.reduceEqDiff]) (by simp only [u,FB,Nat.reduceEqDiff]) (by simp only [m,FB,Nat.reduceEqDiff]) (by simp only [v,FB,Nat.reduceEqDiff]) (by simp only [C,FB,Nat.reduceEqDiff]) (by simp only [S,FB,Nat.reduceEqDiff]) (by simp only [T,FB,Nat.reduceEqDiff]) (by simp only [f,FB,Nat.reduceEqDiff]) (by simp only [g,FB,Nat.reduceEqDiff])
     ·have z:fl s % 2=0:=by simp at h2;omega
      by_cases h4:Rl s 4=life
      ·simp only [n76,r76,A,u,m,v,C,K,M,S,T,D,f,g,B,w,Y,gm,VR,J,Pz h1,Pz z,R,P,O,N,decide_true,decide_false,h3,Pz h4,SB,Nat.reduceLT,NC,NH,Nat.reduceEqDiff,NG,NT,reduceCtorEq,ND,place,NA,Nat.reduceAdd,Nat.reduceLeDiff,NE,Int.reduceEq,Int.reduceLT,Int.reduceLE]
       exact go (by unfold Sq;rw [au,J,Of h1,Of (by omega:life<=Rl s 4),Of h4];rfl) _ (by simp only [A,FB,Nat.reduceEqDiff]) (by simp only [u,FB,Nat.reduceEqDiff]) (by simp only [m,FB,Nat.reduceEqDiff]) (by simp only [v,FB,Nat.reduceEqDiff]) (by simp only [C,FB,Nat.reduceEqDiff]) (by simp only [S,FB,Nat.reduceEqDiff]) (by simp only [T,FB,Nat.reduceEqDiff]) (by simp only [f,FB,Nat.reduceEqDiff]) (by simp only [g,FB,Nat.reduceEqDiff])
      ·have ai:=stop (by unfold Sq;rw [Od h4];simp)
       simp only [n76,r76,A,u,m,v,C,K,M,S,T,D,f,g,B,w,Y,gm,VR,J,Pz h1,Pz z,R,P,O,N,decide_true,decide_false,h3,h4,SB,Nat.reduceLT,NC,NH,Nat.reduceEqDiff,NG,NT,reduceCtorEq,ND,place,NA,Nat.reduceAdd,Nat.reduceLeDiff,NE,Int.reduceEq,Int.reduceLT,Int.reduceLE]
       exact ai _ (by simp only [u,FB,Nat.reduceEqDiff]) (by simp only [m,FB,Nat.reduceEqDiff]) (by simp only [v,FB,Nat.reduceEqDiff])
  by_cases an:i=0
  ·have h3:=ba an
   rw [Nj an] at m
   have ad:((i:Int)=0)=True:=Pz (by omega)
   simp only [n76,r76,A,u,m,v,C,K,M,f,g,F,ak,Y,a1,ad,B,h3,decide_true,SB,Nat.reduceLT,NC,NH,Nat.reduceEqDiff,NG,NT,reduceCtorEq,ND,place,NA,Nat.reduceAdd,Nat.reduceLeDiff,NE,Int.reduceEq,Int.reduceLT,Int.reduceLE]
   exact az _ (by simp only [A,FB,Nat.reduceEqDiff]) (by simp only [u,FB,Nat.reduceEqDiff]) (by simp only [FB,Nat.reduceEqDiff]) (by simp only [v,FB,Nat.reduceEqDiff]) (by simp only [C,FB,Nat.reduceEqDiff]) (by simp only [K,FB,Nat.reduceEqDiff]) (by simp only [M,FB,Nat.reduceEqDiff]) (by simp only [FB,Nat.reduceEqDiff]) (by simp only [FB,Nat.reduceEqDiff]) (by simp only [FB,Nat.reduceEqDiff]) (by simp only [f,FB,Nat.reduceEqDiff]) (by simp only [g,FB,Nat.reduceEqDiff])
  ·rw [Nh an] at m
   have ad:((i:Int)=0)=False:=Q1 (by omega)
   simp only [n76,r76,A,u,m,v,C,K,M,f,g,F,ak,Y,a1,ad,decide_false,SB,Nat.reduceLT,NC,NH,Nat.reduceEqDiff,NG,NT,reduceCtorEq,ND,place,NA,Nat.reduceAdd,Nat.reduceLeDiff,NE,Int.reduceEq,Int.reduceLT,Int.reduceLE]
   exact az _ (by simp only [A,FB,Nat.reduceEqDiff]) (by simp only [u,FB,Nat.reduceEqDiff]) (by simp only [m,FB,Nat.reduceEqDiff]) (by simp only [v,FB,Nat.reduceEqDiff]) (by simp only [C,FB,Nat.reduceEqDiff]) (by simp only [K,FB,Nat.reduceEqDiff]) (by simp only [M,FB,Nat.reduceEqDiff]) (by simp only [FB,Nat.reduceEqDiff]) (by simp only [FB,Nat.reduceEqDiff]) (by simp only [FB,Nat.reduceEqDiff]) (by simp only [f,FB,Nat.reduceEqDiff]) (by simp only [g,FB,Nat.reduceEqDiff])
 ·obtain rfl:i=a.length:=by omega
  rw [Qu] at o
  simp only [TK] at o
  simp only [n76,r76,A,u,m,v,C,K,M,f,g,F,SB,Nat.reduceLT,NC,NH,Nat.reduceEqDiff,NG,NT,reduceCtorEq,ND,place,NA,Nat.reduceAdd,Nat.reduceLeDiff,NE,Int.reduceEq,Int.reduceLT,Int.reduceLE]
  have h3:(if a.length=0 then (0:Int) else (QB a:Int))=(QB a:Int):=by
   split
   ·rename_i h
    rw [List.length_eq_zero_iff.1 h];rfl
   ·rfl
  exact fin _ G p2 c2 ds hC (by rw [o];exact hR) (by rw [o];exact (by simp only [u,FB,Nat.reduceEqDiff])) (by rw [<-h3];exact (by simp only [m,FB,Nat.reduceEqDiff])) (by rw [o];exact (by simp only [v,FB,Nat.reduceEqDiff]))
theorem Nri [OA] {mp:Bool} {lim D B n c:Nat} {sp:Option Addr} {ro f:Bool} {r:List Value} {w:Wr} {H:NB} {Q:Value->NB->Prop} (h:NF H D=.cells ro (.slice sp n c::r)) (g:NF H B=.cells f [Vp D]) :
  NQ E mp lim 117 [.agg (Wo w).toArray,Vp B] H Q=Q (.bool (!UI n w.pos)) H:=by
 refine pc (by decide) Nzj rfl rfl ?_
 rw [N0c,c117]
 have b:=fun X=>(QP.refl.app (X:=X)).cells h
 have e:=fun X=>(QP.refl.app (X:=X)).cells g
 have d:=fun X (a:Int) (mp:Bool) (lim:Nat) (Q:Value->NB->Prop)=>Nji (mp:=mp) (lim:=lim) (a:=a) (Q:=Q) (b X)
 simp only [n117,Nyn,b,e,d,Rz,Yl,SB,Nat.reduceLT,NC,NH,Nat.reduceEqDiff,NG,NT,reduceCtorEq,ND,place,NA,Nat.reduceAdd,Nat.reduceLeDiff,NE,Int.reduceEq,Int.reduceLT,Int.reduceLE]
theorem Nrg [OA] {mp:Bool} {lim D B n c k:Nat} {sp pp:Option Addr} {ro t:Bool} {r:List Value} {pend:List Wr} {H:NB} {Q:Value->NB->Prop} (x:NF H D=.cells ro (.slice sp n c::r)) (v:NF H B=.cells t [Vp D]) (u:Sl H Wo 33 pp pend) (hn:pend.length<2 ^ 60) :
  NQ E mp lim 152 [.slice pp pend.length k,.func (.func 117) #[] #[Vp B]] H Q=Q (Vi (match pend.findIdx? (fun w=>!UI n w.pos) with | some i=>(i:Int) | none=>-1)) H:=by
 refine pc (by decide) Ny2 rfl rfl ?_
 rw [Nzv,c152]
 simp only [n152,Nsv,SB,Nat.reduceLT,NC,NH,Nat.reduceEqDiff,NG,NT,reduceCtorEq,ND,place,NA,Nat.reduceAdd,Nat.reduceLeDiff,NE,Int.reduceEq,Int.reduceLT,Int.reduceLE]
 refine QD (fun i=>pend.length-i) (fun i fr G=>i<=pend.length/\fr 0=.slice pp pend.length k/\fr 1=.func (.func 117) #[] #[Vp B]/\fr 7=Vi pend.length/\fr 8=Vi i/\QP H G/\∀j,j<i->UI n (gt pend j).pos=true) 0
  ⟨N7 _,(by simp only [FB,Nat.reduceEqDiff]),(by simp only [FB,Nat.reduceEqDiff]),(by simp only [FB,Nat.reduceEqDiff]),by rfl,QP.refl.app,fun j e=>by omega⟩ ?_
 intro i fr G ⟨hi,o,p,q,s,g,b⟩ y
 rw [QG Nq1.eq_1]
 refine NI ?_
 by_cases a:i<pend.length
 ·have l:=fun X=>((g.sl u).app X).loadCells Rz a
  have d:=fun c (k:IntKind) (H1:NB)=>(g.sl u).idx (c:=c) (k:=k) (H1:=H1) a
  have m:IntKind.i64.wrap ((i:Int)+1)=((i+1:Nat):Int):=QU (by omega)
  have f:=fun X (mp:Bool) (lim:Nat) (Q:Value->NB->Prop)=>Nri (mp:=mp) (lim:=lim) (w:=gt pend i) (Q:=Q) ((QP.refl.app (X:=X)).cells (g.cells x)) ((QP.refl.app (X:=X)).cells (g.cells v))
  cases hh:UI n (gt pend i).pos with
  | true=>
    simp only [n152,Nsv,o,p,q,s,a,l,d,m,f,hh,O1,SB,Nat.reduceLT,NC,NH,Nat.reduceEqDiff,NG,NT,reduceCtorEq,ND,place,NA,Nat.reduceAdd,Nat.reduceLeDiff,NE,Int.reduceEq,Int.reduceLT,Int.reduceLE]
    exact y (i+1) _ _ ⟨by omega,(by simp only [o,FB,Nat.reduceEqDiff]),(by simp only [p,FB,Nat.reduceEqDiff]),(by simp only [q,FB,Nat.reduceEqDiff]),(by simp only [FB,Nat.reduceEqDiff]),g.app,fun j e=>by
     rcases Ok j i with h | h
     ·exact b j h
     ·have:j=i:=by omega
      subst this;exact hh⟩ (by omega)
  | false=>
    simp only [n152,Nsv,o,p,q,s,a,l,d,m,f,hh,Bool.not_false,SB,Nat.reduceLT,NC,NH,Nat.reduceEqDiff,NG,NT,reduceCtorEq,ND,place,NA,Nat.reduceAdd,Nat.reduceLeDiff,NE,Int.reduceEq,Int.reduceLT,Int.reduceLE]
    have:pend.findIdx? (fun w=>!UI n w.pos)=some i:=by
     rw [List.findIdx?_eq_some_iff_getElem]
     refine ⟨a,by rw [<-Vm a,hh];rfl,fun j e=>?_⟩
     rw [<-Vm (by omega),b j e];simp
    rw [this]
 obtain rfl:i=pend.length:=by omega
 simp only [n152,Nsv,o,p,q,s,a,SB,Nat.reduceLT,NC,NH,Nat.reduceEqDiff,NG,NT,reduceCtorEq,ND,place,NA,Nat.reduceAdd,Nat.reduceLeDiff,NE,Int.reduceEq,Int.reduceLT,Int.reduceLE]
 have:pend.findIdx? (fun w=>!UI n w.pos)=none:=by
  rw [List.findIdx?_eq_none_iff]
  intro w z
  obtain ⟨j,e,rfl⟩:=List.mem_iff_getElem.1 z
  have:=b j e
  rw [Vm e] at this
  simp [this]
 rw [this]
def WK (n:Nat) (pend:List Wr):Bool:=decide (4<=n/\n<=32768)&&pend.all (fun w=>UI n w.pos)
theorem Nhb [OA] {mp:Bool} {lim D B n c k:Nat} {sp pp:Option Addr} {ro b:Bool} {r:List Value} {pend:List Wr} {H:NB} {Q:Value->NB->Prop} (e:NF H D=.cells ro (.slice sp n c::r)) (d:NF H B=.cells b [Vp D]) (f:Sl H Wo 33 pp pend) (hn:pend.length<2 ^ 60) :
  NQ E mp lim 116 [.slice pp pend.length k,.func (.func 117) #[] #[Vp B]] H Q=Q (.bool (!pend.all (fun w=>UI n w.pos))) H:=by
 refine pc (by decide) Nzk rfl rfl ?_
 rw [N0d,c116]
 have a:=fun Y (mp:Bool) (lim:Nat) (Q:Value->NB->Prop)=>Nrg (mp:=mp) (lim:=lim) (Q:=Q) (B:=B) (k:=k) (H:=H++Y) ((QP.refl.app).cells e) ((QP.refl.app).cells d) (f.app _) hn
 simp only [n116,Nyo,a,SB,Nat.reduceLT,NC,NH,Nat.reduceEqDiff,NG,NT,reduceCtorEq,ND,place,NA,Nat.reduceAdd,Nat.reduceLeDiff,NE,Int.reduceEq,Int.reduceLT,Int.reduceLE]
 cases hf:pend.findIdx? (fun w=>!UI n w.pos) with
 | none=>
   have:pend.all (fun w=>UI n w.pos)=true:=by
    rw [List.findIdx?_eq_none_iff] at hf
    rw [N5]
    intro x g
    simpa using hf x g
   simp [this]
 | some i=>
   rw [List.findIdx?_eq_some_iff_getElem] at hf
   obtain ⟨h1,h2,_⟩:=hf
   have:pend.all (fun w=>UI n w.pos)=false:=by
    rw [List.all_eq_false]
    exact ⟨pend[i],Qk h1,by simpa using h2⟩
   simp [this]
theorem Npk [OA] {mp:Bool} {lim D n c k:Nat} {sp pp:Option Addr} {ro:Bool} {pend:List Wr} {H:NB} {Q:Value->NB->Prop} (g:NF H D=.cells ro [.slice sp n c,.slice pp pend.length k]) (h:Sl H Wo 33 pp pend) (hn:pend.length<2 ^ 60) :
  NQ E mp lim 73 [Vp D] H Q=Q (.bool (WK n pend)) H:=by
 refine pc (by decide) e73 rfl rfl ?_
 rw [b73,c73]
 have a:=fun X=>(QP.refl.app (X:=X)).cells g
 have b:=fun X (f:NF (H++X) H.length=Vc [Vp D]) (mp:Bool) (lim:Nat) (Q:Value->NB->Prop)=>Nhb (mp:=mp) (lim:=lim) (Q:=Q) (k:=k) (a X) f (h.app X) hn
 by_cases d:(4:Int)<=(n:Int)
 ·by_cases e:(n:Int)<=32768
  ·simp only [n73,r73,a,b,d,e,decide_true,Bool.not_not,SB,Nat.reduceLT,NC,NH,Nat.reduceEqDiff,NG,NT,reduceCtorEq,ND,place,NA,Nat.reduceAdd,Nat.reduceLeDiff,NE,Int.reduceEq,Int.reduceLT,Int.reduceLE]
   simp only [WK,Of (by omega:4<=n/\n<=32768),Bool.true_and]
  ·simp only [n73,r73,a,b,d,e,decide_true,decide_false,SB,Nat.reduceLT,NC,NH,Nat.reduceEqDiff,NG,NT,reduceCtorEq,ND,place,NA,Nat.reduceAdd,Nat.reduceLeDiff,NE,Int.reduceEq,Int.reduceLT,Int.reduceLE]
   simp only [WK,Od (by omega:¬(4<=n/\n<=32768)),Bool.false_and]
 ·simp only [n73,r73,a,b,d,decide_true,decide_false,SB,Nat.reduceLT,NC,NH,Nat.reduceEqDiff,NG,NT,reduceCtorEq,ND,place,NA,Nat.reduceAdd,Nat.reduceLeDiff,NE,Int.reduceEq,Int.reduceLT,Int.reduceLE]
  simp only [WK,Od (by omega:¬(4<=n/\n<=32768)),Bool.false_and]
def Vn:Nat->List Rh->Nat×Nat->Nat×Nat
 | _,[],x=>x
 | i,s::r,x=>Vn (i+1) r (if QK s i then (max x.1 (Rl s 0),max x.2 (Rl s 4)) else x)
theorem Nms {a:List Rh} {i:Nat} {x:Nat×Nat} (h:i<a.length):Vn i (a.drop i) x=Vn (i+1) (a.drop (i+1)) (if QK (gt a i) i then (max x.1 (Rl (gt a i) 0),max x.2 (Rl (gt a i) 4)) else x):=by
 rw [Pd h,Vn,Vm h]
theorem Nxn {n m:Nat}:R6 true (Vi n) [Vi m]=some (Vi ((max n m:Nat):Int)):=by
 simp only [R6,VB,if_true]
 congr 2
 split<;>omega
theorem Nkp [OA] {lim:Nat} {p:Option Addr} {c:Nat} {a:List Rh} {x:Nat×Nat} {fr:Nat->Value} {G:NB} {K:List AItem} {R:Value->NB->Prop} (C:Sl G Sr 32 p a) (H:a.length<2 ^ 30) (D:fr 2=Vi x.1) (f3:fr 3=Vi x.2) (f5:fr 5=.slice p a.length c) (r:fr 13=Vi a.length) (t:fr 14=Vi 0)
  (F:∀fr',fr' 2=Vi ((Vn 0 a x).1:Int)->fr' 3=Vi ((Vn 0 a x).2:Int)->fr' 8=fr 8->fr' 9=fr 9->QW E a75 lim K fr' (G++[]) R) :
  QW E a75 lim (.code (.loop Nqx)::.inBlock 2::K) fr G R:=by
 refine QD (fun s:Nat×Nat×Nat=>a.length-s.1) (fun s fr' G'=>s.1<=a.length/\G'=G/\fr' 2=Vi s.2.1/\fr' 3=Vi s.2.2/\fr' 5=.slice p a.length c/\fr' 13=Vi a.length/\fr' 14=Vi s.1/\fr' 8=fr 8/\fr' 9=fr 9/\Vn 0 a x=Vn s.1 (a.drop s.1) s.2) (0,x)
  ⟨N7 _,rfl,D,f3,f5,r,t,rfl,rfl,rfl⟩ ?_
 rintro ⟨i,y⟩ fr' G' ⟨hi,rfl,l,m,o,d,e,u,v,f⟩ B
 simp only at hi l m e f
 rw [QG Nqx.eq_1]
 refine NI ?_
 by_cases b:i<a.length
 ·have z:=SecAt.of_elt C b
  have g:=fun c (k:IntKind) (H1:NB)=>C.idx (c:=c) (k:=k) (H1:=H1) b
  have w:=fun X=>z.app X
  have h:=fun X (mp:Bool) (lim:Nat) (Q:Value->NB->Prop)=>Yh (mp:=mp) (lim:=lim) (Q:=Q) (n:=0) (w X) (by decide)
  have j:=fun X (mp:Bool) (lim:Nat) (Q:Value->NB->Prop)=>Yh (mp:=mp) (lim:=lim) (Q:=Q) (n:=4) (w X) (by decide)
  simp only [N6] at h j
  have A:=fun X (mp:Bool) (lim:Nat) (Q:Value->NB->Prop)=>Nc6 (mp:=mp) (lim:=lim) (Q:=Q) (n:=i) (w X) (by omega)
  have q:IntKind.i64.wrap ((i:Int)+1)=((i+1:Nat):Int):=QU (by omega)
  rw [Nms b] at f
  cases hm:QK (gt a i) i with
  | true=>
    rw [hm,Nj rfl] at f
    simp only [n75,r75,l,m,o,d,e,b,g,h,j,A,hm,q,Nxn,SB,Nat.reduceLT,NC,NH,Nat.reduceEqDiff,NG,NT,reduceCtorEq,ND,place,NA,Nat.reduceAdd,Nat.reduceLeDiff,NE,Int.reduceEq,Int.reduceLT,Int.reduceLE]
    have:=B (i+1,max y.1 (Rl (gt a i) 0),max y.2 (Rl (gt a i) 4))
    rw [Nb]
    exact this _ _ ⟨by show i+1<=_;omega,rfl,(by simp only [FB,Nat.reduceEqDiff]),(by simp only [FB,Nat.reduceEqDiff]),(by simp only [o,FB,Nat.reduceEqDiff]),(by simp only [d,FB,Nat.reduceEqDiff]),(by simp only [FB,Nat.reduceEqDiff]),by rw [<-u];exact (by simp only [FB,Nat.reduceEqDiff]),by rw [<-v];exact (by simp only [FB,Nat.reduceEqDiff]),f⟩ (by show _-(i+1)<_;omega)
  | false=>
    rw [hm,Nh (by decide)] at f
    simp only [n75,r75,l,m,o,d,e,b,g,h,j,A,hm,q,Nxn,SB,Nat.reduceLT,NC,NH,Nat.reduceEqDiff,NG,NT,reduceCtorEq,ND,place,NA,Nat.reduceAdd,Nat.reduceLeDiff,NE,Int.reduceEq,Int.reduceLT,Int.reduceLE]
    rw [Nb]
    exact B (i+1,y) _ _ ⟨by show i+1<=_;omega,rfl,(by simp only [l,FB,Nat.reduceEqDiff]),(by simp only [m,FB,Nat.reduceEqDiff]),(by simp only [o,FB,Nat.reduceEqDiff]),(by simp only [d,FB,Nat.reduceEqDiff]),(by simp only [FB,Nat.reduceEqDiff]),by rw [<-u];exact (by simp only [FB,Nat.reduceEqDiff]),by rw [<-v];exact (by simp only [FB,Nat.reduceEqDiff]),f⟩ (by show _-(i+1)<_;omega)
 obtain rfl:i=a.length:=by omega
 rw [Qu,Vn] at f
 simp only [n75,r75,l,m,o,d,e,b,SB,Nat.reduceLT,NC,NH,Nat.reduceEqDiff,NG,NT,reduceCtorEq,ND,place,NA,Nat.reduceAdd,Nat.reduceLeDiff,NE,Int.reduceEq,Int.reduceLT,Int.reduceLE]
 exact F _ (by rw [f];exact (by simp only [l,FB,Nat.reduceEqDiff])) (by rw [f];exact (by simp only [m,FB,Nat.reduceEqDiff])) (by rw [<-u];exact (by simp only [FB,Nat.reduceEqDiff])) (by rw [<-v];exact (by simp only [FB,Nat.reduceEqDiff]))
theorem Ng2 [OA] {mp:Bool} {lim c c':Nat} {p q:Option Addr} {a b:List Rh} {H:NB} {Q:Value->NB->Prop} (l:Sl H Sr 32 p a) (hb:Sl H Sr 32 q b) (r:a.length<2 ^ 30) (s:b.length<2 ^ 30) :
  NQ E mp lim 75 [.agg #[.slice p a.length c,.slice q b.length c']] H Q=Q (.tuple #[Vi ((Vn 0 b (Vn 0 a (0,0))).1:Int),Vi ((Vn 0 b (Vn 0 a (0,0))).2:Int)]) H:=by
 refine pc (by decide) e75 rfl rfl ?_
 rw [b75,c75]
 have j:IntKind.i64.wrap ((0:Int)+1)=1:=by decide
 have k:IntKind.i64.wrap ((1:Int)+1)=2:=by decide
 simp only [n75,r75,SB,Nat.reduceLT,NC,NH,Nat.reduceEqDiff,NG,NT,reduceCtorEq,ND,place,NA,Nat.reduceAdd,Nat.reduceLeDiff,NE,Int.reduceEq,Int.reduceLT,Int.reduceLE]
 rw [Nhn,<-TV,TV]
 rw [QG Nko.eq_1]
 simp only [n75,r75,Qg,Int.toNat_one,N8,Ou,Oq,SB,Nat.reduceLT,NC,NH,Nat.reduceEqDiff,NG,NT,reduceCtorEq,ND,place,NA,Nat.reduceAdd,Nat.reduceLeDiff,NE,Int.reduceEq,Int.reduceLT,Int.reduceLE]
 refine Nkp (c:=c) (x:=(0,0)) (l.app _) r (by simp only [N6,FB,Nat.reduceEqDiff]) (by simp only [N6,FB,Nat.reduceEqDiff]) (by simp only [FB,Nat.reduceEqDiff]) (by simp only [FB,Nat.reduceEqDiff]) (by simp only [FB,Nat.reduceEqDiff]) fun fr1 k2 k3 n o=>?_
 have e:fr1 8=.agg #[.slice p a.length c,.slice q b.length c']:=n.trans (by simp only [FB,Nat.reduceEqDiff])
 have f:fr1 9=Vi 0:=o.trans (by simp only [FB,Nat.reduceEqDiff])
 simp only [n75,r75,k2,k3,e,f,j,SB,Nat.reduceLT,NC,NH,Nat.reduceEqDiff,NG,NT,reduceCtorEq,ND,place,NA,Nat.reduceAdd,Nat.reduceLeDiff,NE,Int.reduceEq,Int.reduceLT,Int.reduceLE]
 rw [TV,QG Nko.eq_1]
 simp only [n75,r75,k2,k3,e,f,j,Qg,Int.toNat_one,N8,Ou,Oq,SB,Nat.reduceLT,NC,NH,Nat.reduceEqDiff,NG,NT,reduceCtorEq,ND,place,NA,Nat.reduceAdd,Nat.reduceLeDiff,NE,Int.reduceEq,Int.reduceLT,Int.reduceLE]
 refine Nkp (c:=c') (x:=Vn 0 a (0,0)) (hb.app _) s (by simp only [k2,FB,Nat.reduceEqDiff]) (by simp only [k3,FB,Nat.reduceEqDiff]) (by simp only [FB,Nat.reduceEqDiff]) (by simp only [FB,Nat.reduceEqDiff]) (by simp only [FB,Nat.reduceEqDiff]) fun g h i t m=>?_
 have d:g 9=Vi 1:=m.trans (by simp only [FB,Nat.reduceEqDiff])
 simp only [n75,r75,h,i,d,k,SB,Nat.reduceLT,NC,NH,Nat.reduceEqDiff,NG,NT,reduceCtorEq,ND,place,NA,Nat.reduceAdd,Nat.reduceLeDiff,NE,Int.reduceEq,Int.reduceLT,Int.reduceLE]
 rw [TV,QG Nko.eq_1]
 simp only [n75,r75,h,i,d,k,SB,Nat.reduceLT,NC,NH,Nat.reduceEqDiff,NG,NT,reduceCtorEq,ND,place,NA,Nat.reduceAdd,Nat.reduceLeDiff,NE,Int.reduceEq,Int.reduceLT,Int.reduceLE]
end Go.Proofs.YtancgcogjokfcaaGreatDoor.Fn


