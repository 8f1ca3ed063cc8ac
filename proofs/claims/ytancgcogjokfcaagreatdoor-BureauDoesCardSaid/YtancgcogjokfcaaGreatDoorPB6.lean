/-
  Joined texts, 6 of 8. A part of the claim that the last text states.
-/
import Derived.Test.YtancgcogjokfcaaGreatDoorPB5
set_option linter.unusedVariables false
set_option linter.unusedSimpArgs false
set_option linter.defProp false
set_option linter.unusedSectionVars false
set_option maxRecDepth 100000
set_option maxHeartbeats 4000000
namespace Go.Proofs.YtancgcogjokfcaaGreatDoor.Fn
open Go.AM Go.AM.Sym
theorem Nm0 {u:BU} {id:Int} {nm:ByteArray} (h:Rv u (.join id nm)=0):PE id u.ms=none:=by
 unfold Rv at h
 simp only at h
 split at h
 ·cases h
 split at h
 ·cases h
 ·rename_i q;cases e:PE id u.ms with
  | none=>rfl
  | some m=>rw [e] at q;exact absurd rfl q
theorem Nee {a:Prop} {c:Int} (h:¬(a\/WZ c=false)):1<=c/\c<=1000000000:=by
 have:WZ c=true:=by cases q:WZ c with
  | true=>rfl
  | false=>exact absurd (.inr q) h
 exact O8 this
theorem Nrs {u:BU} {id c:Int} (h:Rv u (.pay id c)=0):(1<=c/\c<=1000000000)/\∃m,PE id u.ms=some m:=by
 unfold Rv at h
 simp only at h
 split at h
 ·cases h
 rename_i q
 refine ⟨Nee q, ?_⟩
 cases e:PE id u.ms with
 | none=>rw [e] at h;cases h
 | some m=>exact ⟨m,rfl⟩
theorem Nmz {u:BU} {id f p c:Int} (h:Rv u (.post id f p c)=0):(1<=c/\c<=1000000000)/\PE id u.xs=none:=by
 unfold Rv at h
 simp only at h
 split at h
 ·cases h
 rename_i q
 refine ⟨Nee (a:=SK id=false\/SK f=false\/SK p=false) fun k=>q (by rcases k with (k | k | k) | k<;>simp [k]), ?_⟩
 split at h
 ·cases h
 ·rename_i q;cases e:PE id u.xs with
  | none=>rfl
  | some m=>rw [e] at q;exact absurd rfl q
theorem Ngv {u:BU} {id c:Int} (h:Rv u (.refund id c)=0):1<=c/\c<=1000000000:=by
 unfold Rv at h
 simp only at h
 split at h
 ·cases h
 rename_i q
 exact Nee q
theorem Ma {u:BU} {c:Cl}:(Vn u c).calls=u.calls:=by cases c<;>rfl
section
variable {lim l0 B:Nat} {jv:Value} {s:SU} {G:NB} {Q:Value->NB->Prop}
theorem Nu2 [OA] {A:List Nat} {n k:Nat} {p:Option Addr} {c:List ByteArray} (h:KB l0 B jv s G) (hw:Wf n s.st) (hn:n<2 ^ 30) (hl:lim<=l0) (a8:l0<=G.length) (hs:Sl G SE 1 p c) (al:Uo 1 k c.length) (an:∀a,p=some a->a.block<G.length) (ay:∀a,p=some a->∀r,s.ptr B r≠some a.block) (hz:∀t∈c,t.size<=281474976710656) (hc:c.length<2 ^ 30)
  (hA:∀j∈A,j<G.length/\(∀r,s.ptr B r≠some j)/\(∀x∈s.calls,∀a,x.p=some a->a.block≠j)/\∀a,p=some a->a.block≠j)
  (hE:∀G',Chg [] G G'->RU s.st c≠0->Q (Vi (RU s.st c)) G')
  (hT:∀cl,Rp c=some cl->Rv s.st cl=0->Nwu lim l0 B jv s G A p c k Q (Vn s.st cl)) :
  NP E false lim 18 [Vp B,.slice p c.length k] G Q:=by
 refine runs (by decide) e18 rfl ?_
 rw [b18,c18]
 have av:=fun X=>(QL.refl.app (X:=X)).cells h.b
 have z:=fun X (mp:Bool) (lim:Nat) (Q:Value->NB->Prop)=>VG (mp:=mp) (lim:=lim) (Q:=Q) (av X)
 have a9:lim<=G.length:=by omega
 have same:=hE
 cases c with
 | nil=>
   have e0:RU s.st []=432:=rfl
   simp only [n18,r18,z,Nn,SB,seval,NC,NH,NG,NQ,reduceCtorEq,ND,place,NA,NE]
   have:=same _ (Chg.refl.app (X:=[])) (by rw [e0];decide)
   rw [e0] at this
   exact this
 | cons w l=>
   have M:¬(((l.length+1:Nat):Int)=0):=by omega
   have R:=fun X=>(hs.app X).loadCell0 Rm (i:=0) (by simp) (by decide)
   have am:=fun c (kk:IntKind) (H1:NB)=>hs.idx (c:=c) (k:=kk) (H1:=H1) (i:=0) (by simp)
   have e1:gt (w::l) 0=w:=rfl
   simp only [e1] at R
   have J:∀c (kk:IntKind) (H1:NB),X9 1 (.slice p (l.length+1) c) (.int kk 0) H1=some (.pointer (some (WA p 1 0)),H1):=am
   have K:=fun (X:NB) (Q:Value->NB->Prop)=>rows_ok (lim:=lim) (H:=G++X) (Q:=Q) (by simp;omega)
   have Y:Uz (G++[]) (G++[Blk.map Ua])=true:=Nel fun j ro c v=>by rw [Nb] at v;exact (QL.refl.app).cells v
   obtain ⟨q,cq,D,ai,ah,ao,_⟩:=T9 (vlo:=some (Vi 1)) (vhi:=none) (lo:=1) (hi:=(w::l).length) hs al Rm (fun cap hc=>by rw [Z6 (by decide) (by have:(w::l).length=l.length+1:=rfl;omega)];rfl) (by simp) (Nd _) (by omega)
   have ax:(w::l).length-1=l.length:=by simp
   rw [Pn,List.drop_succ_cons,Og] at ai
   rw [ax] at D ah
   have D:WJ 1 (.slice p (l.length+1) k) (some (Vi 1)) none none=some (.slice q l.length cq):=D
   have h0:KB l0 B jv s (G++[.map Ua]):=h.new Chg.refl.app
   have P:Sl (G++[.map Ua]) SE 1 q l:=ai.app _
   have ac:∀a,q=some a->a.block<(G++[Blk.map Ua]).length:=fun a ea=>by
    obtain ⟨b,eb,e⟩:=ao a ea
    have:=an b eb
    simp;omega
   have ad:∀t∈l,t.size<=281474976710656:=fun t ht=>hz t (by simp [ht])
   have a5:l.length<2 ^ 30:=by have:(w::l).length=l.length+1:=rfl;omega
   have aa:l0<=(G++[Blk.map Ua]).length:=by simp;omega
   have L:∀{G':NB},Chg [] (G++[.map Ua]) G'->Chg [] G G':=fun hc=>hc.pre
   have I:∀id m,PE id s.ms=some m->m.m.ents.length<2 ^ 40/\0<=Rn m.m.ents/\Rn m.m.ents<=1000000000000:=fun id m hm=>by
    have:=hw.ents id m.m (by rw [RH,hm];rfl)
    exact ⟨by omega,this.2.2⟩
   have a6:(w::l).length=l.length+1:=rfl
   have o:∀{G' H':NB} {j:Nat} {b:List Value},Chg A G' H'->G.length<=j->NF G' j=Vc b->NF H' j=Vc b:=fun g v e=>g.cells e fun q=>by have:=(hA _ q).1;omega
   have ag:∀{G' H':NB},Chg [] (G++[.map Ua]) G'->Chg A G' H'->KB l0 B jv s H':=fun g d=>(h0.new g).to d fun j v=>⟨(hA j v).2.1,(hA j v).2.2.1⟩
   have arg:∀{G' H' G1:NB},Chg [] G G'->Chg A G' H'->(∃A,(∀j∈A,(∃r,s.ptr B r=some j)\/G.length<=j/\j<G'.length)/\Chg A H' G1)->Sl G1 SE 1 p (w::l):=fun g d ⟨A1,aq,au⟩=>au.sl (d.sl (g.sl hs fun _ _ _ v=>by cases v) fun a ea _ v=>(hA _ v).2.2.2 a ea rfl) fun a ea _ v=>by
    rcases aq _ v with ⟨r,q⟩ | q
    ·exact ay a ea r q
    ·have:=an a ea;omega
   have ab:s.calls.length<2 ^ 30:=by have:=hw.calls;simp only [SU.st,Nz] at this;omega
   have V:∀{G':NB},Rp (w::l)=none->Chg [] (G++[.map Ua]) G'->Q (Vi 432) G':=fun hr g=>by
    have e0:RU s.st (w::l)=432:=by unfold RU;rw [hr]
    rw [<-e0];exact same _ (L g) (by rw [e0];decide)
   have Z:∀{G':NB} {cl:Cl} {e:Int},Rp (w::l)=some cl->Rv s.st cl=e->e≠0->Chg [] (G++[.map Ua]) G'->Q (Vi e) G':=by
    intro G' cl e hr he u g
    have e0:RU s.st (w::l)=e:=by unfold RU;rw [hr];exact he
    rw [<-e0];exact same _ (L g) (by rw [e0];exact u)
   have lk:∀{G':NB},Chg [] (G++[.map Ua]) G'->(∀r j,s.ptr B r=some j->j<G.length)/\G.length+1<=G'.length:=fun g=>⟨fun r j hr=>(h.lt hr).2,by have:=g.len;simpa using this⟩
   have S:∀{k:Nat},G.length<=k->∀r,s.ptr B r≠some k:=fun hk r hr=>by have:=(h.lt hr).2;omega
   have ae:∀{k:Nat},G.length<=k->∀c∈s.calls,∀a,c.p=some a->a.block≠k:=fun hk c aw a ea=>by have:=(h.cs c aw).2 a ea;omega
   have a4:(G++[Blk.map Ua]).length=G.length+1:=by simp
   by_cases w1:w=SV
   ·have hf:findKey (.string w) Ua 0=some (some (0,fnV 102)):=by rw [Xw,Nk w1]
    simp only [n18,r18,z,M,J,R,Tx,K,Y,hf,fnV,D,and_self,SB,seval,NC,NH,NG,NQ,reduceCtorEq,ND,place,NA,NE]
    refine Ntf h0 hl aa P ah ac ad (by omega) (fun O G' g=>XE (by decide) (V (by rw [w1];exact Ndv O) g)) (fun a b id e G' el ak he u g=>XE u (Z (by rw [w1,el];exact YD ak) he u g)) (fun a b id G' el ak he g k1 k2 k3=>?_)
    have W:PE id s.ms=none:=by have:=Nm0 he;rw [RH] at this;exact Option.map_eq_none_iff.1 this
    refine hT (.join id b) (by rw [w1,el];exact YD ak) he _ G' _ _ rfl rfl (L g) fun H' d Q' N=>?_
    refine Nq9 (ag g d) hl (o d (by omega) k1) (o d (by omega) k2) (o d (by omega) k3) W fun s1 G1 ⟨L1,L2,L3,T,A,L5,U⟩=>?_
    have F:∃A,(∀j∈A,(∃r,s.ptr B r=some j)\/G.length<=j/\j<G'.length)/\Chg A H' G1:=⟨A,fun j v=>.inl (L5 j v),U⟩
    exact N s1 G1 ⟨L1,arg (L g) d F,by rw [T];exact ab,by have:=U.len;have:=d.len;have:=(lk g).2;omega,L2,L3,T,F⟩
   by_cases w2:w=TK
   ·have hf:findKey (.string w) Ua 0=some (some (1,fnV 103)):=by rw [Xw,Ni w1,Nk w2]
    simp only [n18,r18,z,M,J,R,Tx,K,Y,hf,fnV,D,and_self,SB,seval,NC,NH,NG,NQ,reduceCtorEq,ND,place,NA,NE]
    refine Nvd h0 hl aa P ac ad (by omega) I (fun O G' g=>XE (by decide) (V (by rw [w2];exact Nff O) g)) (fun id x e G' C he u g=>XE u (Z (by rw [w2];exact ZJ C) he u g)) (fun id x G' k1 k2 k3 C he g b1 b2 b3 a0 a2 a3=>?_)
    obtain ⟨hx,m,hm⟩:=Nrs he
    rw [RH] at hm
    obtain ⟨m',W,rfl⟩:=Nc.1 hm
    obtain ⟨m1,m2,m3⟩:=I id m' W
    refine hT (.pay id x) (by rw [w2];exact ZJ C) he _ G' _ _ rfl rfl (L g) fun H' d Q' N=>?_
    refine Nsu (ag g d) hl (o d (by omega) a0) (o d (by omega) a2) (o d (by omega) a3) W m1 (by have:=(lk g).2;have:=d.len;omega) (by omega) (by omega) fun s1 G1 ⟨L1,L2,L3,T,A,L5,U⟩=>?_
    have F:∃A,(∀j∈A,(∃r,s.ptr B r=some j)\/G.length<=j/\j<G'.length)/\Chg A H' G1:=⟨A,fun j v=>.inl (L5 j v),U⟩
    exact N s1 G1 ⟨L1,arg (L g) d F,by rw [T];exact ab,by have:=U.len;have:=d.len;have:=(lk g).2;omega,L2,L3,T,F⟩
   by_cases w3:w=SH
   ·have hf:findKey (.string w) Ua 0=some (some (2,fnV 104)):=by rw [Xw,Ni w1,Ni w2,Nk w3]
    simp only [n18,r18,z,M,J,R,Tx,K,Y,hf,fnV,D,and_self,SB,seval,NC,NH,NG,NQ,reduceCtorEq,ND,place,NA,NE]
    refine Nss h0 hl aa P ac ad (by omega) I (fun O G' g=>XE (by decide) (V (by rw [w3];exact Ndu O) g)) (fun id f pt x e G' C he u g=>XE u (Z (by rw [w3];exact YC C) he u g)) (fun id f pt x m G' C he W g g1 g2 g3 g4 g5 g6=>?_)
    obtain ⟨hx,az⟩:=Nmz he
    obtain ⟨m1,m2,m3⟩:=I f m W
    have mi:=(hw.ents f m.m (by rw [RH,W];rfl)).2.1
    refine hT (.post id f pt x) (by rw [w3];exact YC C) he _ G' _ _ rfl rfl (L g) fun H' d Q' N=>?_
    refine Npo (ag g d) hl (o d (by omega) g1) (o d (by omega) g2) (o d (by omega) g3) (o d (by omega) g4) (o d (by omega) g5) (o d (by omega) g6) (fun j v=>S (by simp only [Nh,Np,or_false] at v;omega)) (by omega) (fun j v=>by simp only [Nh,Np,or_false] at v;omega) (ae (by omega)) W az m1 (by omega) (by have:=(lk g).2;have:=d.len;omega) (by omega) (by omega) (by omega) (by omega) fun s1 G1 ⟨A,L5,U⟩ L1 L2 L3 T=>?_
    have F:∃A,(∀j∈A,(∃r,s.ptr B r=some j)\/G.length<=j/\j<G'.length)/\Chg A H' G1:=⟨A,fun j v=>(by
     rcases L5 j v with q | q
     ·right;have:=NJ g5;omega
     ·exact .inl q),U⟩
    exact N s1 G1 ⟨L1,arg (L g) d F,by rw [T];exact ab,by have:=U.len;have:=d.len;have:=(lk g).2;omega,L2,L3,T,F⟩
   by_cases w4:w=Tm
   ·have hf:findKey (.string w) Ua 0=some (some (3,fnV 105)):=by rw [Xw,Ni w1,Ni w2,Ni w3,Nk w4]
    simp only [n18,r18,z,M,J,R,Tx,K,Y,hf,fnV,D,and_self,SB,seval,NC,NH,NG,NQ,reduceCtorEq,ND,place,NA,NE]
    refine Nsn h0 hl aa P ac ad (by omega) (fun O G' g=>XE (by decide) (V (by rw [w4];exact Ndt O) g)) (fun x e G' C he u g=>XE u (Z (by rw [w4];exact YB C) he u g)) (fun x G' C he g g1 g2=>?_)
    have ba:s.sc.length<=2000:=hw.sc
    refine hT (.scan x) (by rw [w4];exact YB C) he _ G' _ _ rfl rfl (L g) fun H' d Q' N=>?_
    refine Npe (ag g d) hl (o d (by omega) g1) (o d (by omega) g2) (fun j v=>S (by simp only [Nh,Np,or_false] at v;omega)) (by omega) (by have:=(lk g).2;have:=d.len;omega) fun s1 G1 ⟨L1,L2,L3,T,A,L5,U⟩=>?_
    have F:∃A,(∀j∈A,(∃r,s.ptr B r=some j)\/G.length<=j/\j<G'.length)/\Chg A H' G1:=⟨A,fun j v=>.inl (L5 j v),U⟩
    exact N s1 G1 ⟨L1,arg (L g) d F,by rw [T];exact ab,by have:=U.len;have:=d.len;have:=(lk g).2;omega,L2,L3,T,F⟩
   by_cases w5:w=Rb
   ·have hf:findKey (.string w) Ua 0=some (some (4,fnV 106)):=by rw [Xw,Ni w1,Ni w2,Ni w3,Ni w4,Nk w5]
    simp only [n18,r18,z,M,J,R,Tx,K,Y,hf,fnV,D,and_self,SB,seval,NC,NH,NG,NQ,reduceCtorEq,ND,place,NA,NE]
    have aj:∀id x,PE id s.xs=some x->∃m,PE x.from' s.ms=some m:=fun id x hx=>by
     obtain ⟨m,hm⟩:=hw.frm id x hx
     rw [RH] at hm
     obtain ⟨m',W,_⟩:=Nc.1 hm
     exact ⟨m',W⟩
    refine Nld h0 hl aa P ac ad (by omega) I aj (fun O G' g=>XE (by decide) (V (by rw [w5];exact MX O) g)) (fun id x e G' C he u g=>XE u (Z (by rw [w5];exact WO C) he u g)) (fun id x y m G' C he hy W g g1 g2 g3 g4=>?_)
    have hx:=Ngv he
    obtain ⟨m1,m2,m3⟩:=I _ m W
    refine hT (.refund id x) (by rw [w5];exact WO C) he _ G' _ _ rfl rfl (L g) fun H' d Q' N=>?_
    refine Nh0 (ag g d) hl (o d (by omega) g1) (o d (by omega) g2) (o d (by omega) g3) (o d (by omega) g4) (fun j v=>S (by simp only [Nh,Np,or_false] at v;omega)) (by omega) (fun j v=>by simp only [Nh,Np,or_false] at v;omega) (ae (by omega)) hy W m1 (by have:=(lk g).2;have:=d.len;omega) (by omega) (by omega) fun s1 G1 ⟨A,L5,U⟩ L1 L2 L3 T=>?_
    have F:∃A,(∀j∈A,(∃r,s.ptr B r=some j)\/G.length<=j/\j<G'.length)/\Chg A H' G1:=⟨A,fun j v=>(by
     rcases L5 j v with q | q
     ·right;have:=NJ g1;omega
     ·exact .inl q),U⟩
    exact N s1 G1 ⟨L1,arg (L g) d F,by rw [T];exact ab,by have:=U.len;have:=d.len;have:=(lk g).2;omega,L2,L3,T,F⟩
   ·have hf:findKey (.string w) Ua 0=some none:=by rw [Xw,Ni w1,Ni w2,Ni w3,Ni w4,Ni w5]
    simp only [n18,r18,z,M,J,R,Tx,K,Y,hf,fnV,D,and_self,SB,seval,NC,NH,NG,NQ,reduceCtorEq,ND,place,NA,NE]
    exact V (Npk w1 w2 w3 w4 w5) Chg.refl
theorem Aft.none {u:BU} {G':NB} (h:KB l0 B jv s G) (a:Chg [] G G') (c:s.st=u):Aft l0 B jv s G u s G':=
 ⟨h.new a,c,fun r j hr=>.inl hr,fun x d=>.inl d,[],fun _ b=>(by cases b),a⟩
theorem Mid.aft {A:List Nat} {p:Option Addr} {c:List ByteArray} {u h:BU} {s1 s':SU} {H H' G1 G2:NB} (t:∀j∈A,j<G.length) (v:Chg [] G H) (n:Chg A H H') (M:Mid l0 B jv s G.length H.length H' p c u s1 G1) (F:Aft l0 B jv s1 G1 h s' G2) :
  KB l0 B jv s' G2/\s'.st=h/\(∀r j,s'.ptr B r=some j->s.ptr B r=some j\/H'.length<=j)/\(∀x∈s'.calls,x∈s.calls\/∀a,x.p=some a->H'.length<=a.block)/\∃A',(∀j∈A',(∃r,s.ptr B r=some j)\/G.length<=j/\j<H.length)/\Chg A' H' G2:=by
 obtain ⟨i,e,d⟩:=M.chg
 obtain ⟨l,f,g⟩:=F.chg
 have l1:=d.len
 refine ⟨F.kb,F.st,fun r j hr=>?_,fun x o=>?_,(i++l).filter (fun j=>decide (j<H'.length)),fun j b=>?_, ?_⟩
 ·rcases F.ptr r j hr with k | k
  ·exact M.ptr r j k
  ·right;omega
 ·rcases F.calls x o with k | k
  ·rw [M.calls] at k;exact .inl k
  ·exact .inr fun a m=>by have:=k a m;omega
 ·simp only [Oo,Ob,Nx] at b
  obtain ⟨k | k,k2⟩:=b
  ·exact e j k
  ·obtain ⟨r,hr⟩:=f j k
   rcases M.ptr r j hr with q | q
   ·exact .inl ⟨r,q⟩
   ·omega
 ·refine (d.mono fun j b hl=>?_).trans' g fun j b hl=>?_
  ·simp [b,hl]
  ·simp [b,hl]
theorem Njk [OA] {n k:Nat} {p:Option Addr} {c:List ByteArray} (h:KB l0 B (.pointer none) s G) (N:Wf n s.st) (hn:n<2 ^ 30) (hl:lim<=l0) (o:l0<=G.length) (L:Sl G SE 1 p c) (i:Uo 1 k c.length) (v:∀a,p=some a->a.block<G.length) (w:∀a,p=some a->∀r,s.ptr B r≠some a.block) (R:∀t∈c,t.size<=281474976710656) (hc:c.length<2 ^ 30)
  (y:∀s' G',Aft l0 B (.pointer none) s G (if RU s.st c=0 then doneD s.st c else s.st) s' G'->Q (Vi (RU s.st c)) G') :
  NP E false lim 18 [Vp B,.slice p c.length k] G Q:=by
 refine Nu2 (A:=[]) h N hn hl o L i v w R hc (fun _ d=>by cases d) (fun G' f he=>y s G' (Aft.none h f (by rw [Ni he]))) fun C hr he fr H g cs I J f m=>?_
 have u:c≠[]:=fun e=>by rw [e] at hr;cases hr
 refine Nwy (P:=fun s1 G1=>Mid l0 B (.pointer none) s G.length H.length H p c (Vn s.st C) s1 G1) I J hl (h.new f).b u hc (fun z l=>m H Chg.refl z fun s1 G1 M=>l s1 G1 M.kb M.arg M.len M.big M) fun s1 G1 s' G' M F=>?_
 have e0:RU s.st c=0:=by unfold RU;rw [hr];exact he
 obtain ⟨S,T,U,V,A',W,X⟩:=M.aft (A:=[]) (fun _ d=>by cases d) f Chg.refl F
 have K:=f.len
 have:=y s' G' ⟨S,by rw [T,Nk e0,M.st];unfold doneD;rw [hr];simp only [Ma],fun r j hr=>(U r j hr).imp (fun q=>q) fun q=>by omega,fun x O=>(V x O).imp (fun q=>q) fun q a D=>by have:=q a D;omega,A'.filter (fun j=>decide (j<G.length)),fun j d=>?_,(f.mono fun j _ d=>by cases d).trans' X fun j d hl=>by simp [d,hl]⟩
 ·rw [e0] at this;exact this
 ·simp only [Oo,Nx] at d
  rcases W j d.1 with q | q
  ·exact q
  ·omega
end
theorem YW:∀(f u:Nat),(Ngw f u).length<=f
 | 0,_=>by simp [Ngw]
 | f+1,u=>by
   unfold Ngw
   split
   ·simp
   ·have:=YW f (u / 10);simp;omega
theorem Uw {n:Int}:(NV n).size<=21:=by
 have h1:=YW 20 n.natAbs
 have h2:=YW 20 n.toNat
 unfold NV
 show Array.size _<=21
 rw [List.size_toArray]
 split
 ·simp;omega
 ·omega
section
variable {lim l0 B:Nat} {jv:Value} {s:SU} {G:NB} {Q:Value->NB->Prop}
theorem Aft.pre {G1 G':NB} {u:BU} {s':SU} (hc:Chg [] G G1) (h:Aft l0 B jv s G1 u s' G'):Aft l0 B jv s G u s' G':=by
 have hl:=hc.len
 obtain ⟨A,d,e⟩:=h.chg
 exact ⟨h.kb,h.st,fun r j hr=>(h.ptr r j hr).imp (fun q=>q) fun q=>by omega,fun x f=>(h.calls x f).imp (fun q=>q) fun q a c=>by have:=q a c;omega,A,d,(hc.mono fun _ _ b=>by cases b).trans' e fun j b _=>b⟩
theorem Tk.capOk {α:Type} {m e c:Nat} {G:NB} {enc:α->List Value} {p:Option Addr} {l:List α} (h:Tk m G enc e p c l):Uo e c l.length:=by
 rcases h with h | ⟨R,_,h1,h2,_⟩
 ·exact h.capOk
 ·exact .inr ⟨by omega,h2⟩
theorem Tk.le {α:Type} {m m' e c:Nat} {G:NB} {enc:α->List Value} {p:Option Addr} {l:List α} (h:Tk m G enc e p c l) (b:m'<=m):Tk m' G enc e p c l:=by
 rcases h with h | ⟨R,q,h1,h2,a,d⟩
 ·exact .inl (h.le b)
 ·exact .inr ⟨R,q,h1,h2,a,by omega⟩
theorem Nu7 [OA] {n:Nat} {p:Option Addr} {c:Nat} {G1:NB} {l:List ByteArray} (h:KB l0 B (.pointer none) s G) (j:Wf n s.st) (hn:n<2 ^ 30) (hl:lim<=l0) (i:l0<=G.length) (hc:Chg [] G G1) (b:Tk G.length G1 SE 1 p c l) (k:∀t∈l,t.size<=281474976710656) (e:l.length<2 ^ 30)
  (g:∀s' G',Aft l0 B (.pointer none) s G (if RU s.st l=0 then doneD s.st l else s.st) s' G'->Q (Vi (RU s.st l)) G') :
  NP E false lim 18 [Vp B,.slice p l.length c] G1 Q:=
 Njk (h.new hc) j hn hl (by have:=hc.len;omega) (b.sl Rm) b.capOk (fun a d=>(b.block d).2) (fun a d r hr=>by have:=(b.block d).1;have:=(h.lt hr).2;omega) k e fun s' G' f=>g s' G' (f.pre hc)
theorem zW {w:ByteArray} {ns:List Int} (h:w.size<=100):∀t∈w::ns.map NV,t.size<=281474976710656:=fun t ht=>by
 rcases Nh.1 ht with rfl | ht
 ·omega
 ·obtain ⟨x,_,rfl⟩:=List.mem_map.1 ht
  have:=Uw (n:=x);omega
def DoR [OA] (lim B:Nat) (G:NB) (l:List ByteArray) (R:Int->NB->Prop):Prop:=
 ∀(p:Option Addr) (c:Nat) (G1:NB) (Q:Value->NB->Prop),Chg [] G G1->Tk G.length G1 SE 1 p c l->(∀t∈l,t.size<=281474976710656)->l.length<2 ^ 30->(∀e G',R e G'->Q (Vi e) G')->
  NP E false lim 18 [Vp B,.slice p l.length c] G1 Q
theorem DoR.new [OA] {l:List ByteArray} {R:Int->NB->Prop} {G':NB} (h:DoR lim B G l R) (b:Chg [] G G'):DoR lim B G' l R:=fun p c G1 Q a d=>h p c G1 Q (b.trans' a fun _ e=>by cases e) (Tk.le d b.len)
theorem DoR.of0 [OA] {n:Nat} {l:List ByteArray} (h:KB l0 B (.pointer none) s G) (j:Wf n s.st) (hn:n<2 ^ 30) (hl:lim<=l0) (a:l0<=G.length) :
  DoR lim B G l fun e G'=>e=RU s.st l/\∃s',Aft l0 B (.pointer none) s G (if RU s.st l=0 then doneD s.st l else s.st) s' G':=fun p c G1 Q f g k b i=>
 Nu7 h j hn hl a f g k b fun s' G' d=>i _ G' ⟨rfl,s',d⟩
variable {R:Int->NB->Prop}
theorem Nes [OA] {v y:Int} (hl:lim<=G.length) (h0:XT v) (h1:XT y)
  (f:DoR lim B G [TK,NV v,NV y] R) (h:∀e G',R e G'->Q (Vi e) G') :
  NP E false lim 45 [Vp B,Vi v,Vi y] G Q:=by
 refine runs (by decide) e45 rfl ?_
 rw [b45,c45]
 simp only [n45,r45,SB,seval,NC,NH,NG,NQ,reduceCtorEq,ND,place,NA,NE]
 refine WC (ns:=[v,y]) (Sl.row Tz (ro:=false) (by first | (rw [NU];rfl) | (rw [NK];rfl))) (by show 2<2 ^ 40;decide) (by simp only [Nh,Np,or_false,forall_eq_or_imp,forall_eq];exact ⟨h0,h1⟩) (by simp;omega) fun p c G1 d g=>?_
 refine NI ?_
 simp only [n45,r45,SB,seval,NC,NH,NG,NQ,reduceCtorEq,ND,place,NA,NE]
 rw [Nb]
 have a:Chg [] G G1:=d.pre
 refine f p c G1 _ a (Tk.le g (by simp)) (zW (ns:=[v,y]) (by decide)) (by show 3<2 ^ 30;decide) fun e G' b=>?_
 refine NI ?_
 simp only [n45,r45,SB,seval,NC,NH,NG,NQ,reduceCtorEq,ND,place,NA,NE]
 rw [Nb]
 exact h e G' b
theorem M9 [OA] {v y z u:Int} (hl:lim<=G.length) (h0:XT v) (h1:XT y) (h2:XT z) (b:XT u)
  (g:DoR lim B G [SH,NV v,NV y,NV z,NV u] R) (i:∀e G',R e G'->Q (Vi e) G') :
  NP E false lim 46 [Vp B,Vi v,Vi y,Vi z,Vi u] G Q:=by
 refine runs (by decide) e46 rfl ?_
 rw [b46,c46]
 simp only [n46,r46,SB,seval,NC,NH,NG,NQ,reduceCtorEq,ND,place,NA,NE]
 refine WC (ns:=[v,y,z,u]) (Sl.row Tz (ro:=false) (by first | (rw [NU];rfl) | (rw [NK];rfl))) (by show 4<2 ^ 40;decide) (by simp only [Nh,Np,or_false,forall_eq_or_imp,forall_eq];exact ⟨h0,h1,h2,b⟩) (by simp;omega) fun p c G1 f h=>?_
 refine NI ?_
 simp only [n46,r46,SB,seval,NC,NH,NG,NQ,reduceCtorEq,ND,place,NA,NE]
 rw [Nb]
 have a:Chg [] G G1:=f.pre
 refine g p c G1 _ a (Tk.le h (by simp)) (zW (ns:=[v,y,z,u]) (by decide)) (by show 5<2 ^ 30;decide) fun e G' d=>?_
 refine NI ?_
 simp only [n46,r46,SB,seval,NC,NH,NG,NQ,reduceCtorEq,ND,place,NA,NE]
 rw [Nb]
 exact i e G' d
theorem ZA [OA] {v y:Int} (hl:lim<=G.length) (h0:XT v) (h1:XT y)
  (f:DoR lim B G [Rb,NV v,NV y] R) (h:∀e G',R e G'->Q (Vi e) G') :
  NP E false lim 48 [Vp B,Vi v,Vi y] G Q:=by
 refine runs (by decide) e48 rfl ?_
 rw [b48,c48]
 simp only [n48,r48,SB,seval,NC,NH,NG,NQ,reduceCtorEq,ND,place,NA,NE]
 refine WC (ns:=[v,y]) (Sl.row Tz (ro:=false) (by first | (rw [NU];rfl) | (rw [NK];rfl))) (by show 2<2 ^ 40;decide) (by simp only [Nh,Np,or_false,forall_eq_or_imp,forall_eq];exact ⟨h0,h1⟩) (by simp;omega) fun p c G1 d g=>?_
 refine NI ?_
 simp only [n48,r48,SB,seval,NC,NH,NG,NQ,reduceCtorEq,ND,place,NA,NE]
 rw [Nb]
 have a:Chg [] G G1:=d.pre
 refine f p c G1 _ a (Tk.le g (by simp)) (zW (ns:=[v,y]) (by decide)) (by show 3<2 ^ 30;decide) fun e G' b=>?_
 refine NI ?_
 simp only [n48,r48,SB,seval,NC,NH,NG,NQ,reduceCtorEq,ND,place,NA,NE]
 rw [Nb]
 exact h e G' b
theorem Nks [OA] {x:Sc} (hl:lim<=G.length) (h0:XT x.item) (h1:XT x.place) (h2:XT x.scanner) (a:XT x.kind) (f:XT x.at') (g:XT x.seen)
  (j:DoR lim B G [Tm,NV x.item,NV x.place,NV x.scanner,NV x.kind,NV x.at',NV x.seen] R) (l:∀e G',R e G'->Q (Vi e) G') :
  NP E false lim 47 [Vp B,.agg #[Vi x.item,Vi x.place,Vi x.scanner,.int .u8 x.kind,Vi x.at',Vi x.seen]] G Q:=by
 refine runs (by decide) e47 rfl ?_
 rw [b47,c47]
 have d:IntKind.i64.wrap x.kind=x.kind:=QP (by have:=a;unfold XT at this;omega) (by have:=a;unfold XT at this;omega)
 simp only [n47,r47,d,SB,seval,NC,NH,NG,NQ,reduceCtorEq,ND,place,NA,NE]
 refine WC (ns:=[x.item,x.place,x.scanner,x.kind,x.at',x.seen]) (Sl.row Tz (ro:=false) (by first | (rw [NU];rfl) | (rw [NK];rfl))) (by show 6<2 ^ 40;decide) (by simp only [Nh,Np,or_false,forall_eq_or_imp,forall_eq];exact ⟨h0,h1,h2,a,f,g⟩) (by simp;omega) fun p c G1 i k=>?_
 refine NI ?_
 simp only [n47,r47,SB,seval,NC,NH,NG,NQ,reduceCtorEq,ND,place,NA,NE]
 rw [Nb]
 have b:Chg [] G G1:=i.pre
 refine j p c G1 _ b (Tk.le k (by simp)) (zW (ns:=[x.item,x.place,x.scanner,x.kind,x.at',x.seen]) (by decide)) (by show 7<2 ^ 30;decide) fun e G' h=>?_
 refine NI ?_
 simp only [n47,r47,SB,seval,NC,NH,NG,NQ,reduceCtorEq,ND,place,NA,NE]
 rw [Nb]
 exact l e G' h
end
section
variable {lim l0 B:Nat} {jv:Value} {s:SU} {G:NB} {Q:Value->NB->Prop}
theorem Nkw [OA] {R:Int->NB->Prop} {v:Int} {nm:ByteArray} (hl:lim<=G.length) (h0:XT v) (z:nm.size<=100)
  (s:DoR lim B G [SV,NV v,nm] R) (u:∀e G',R e G'->Q (Vi e) G') :
  NP E false lim 44 [Vp B,Vi v,.string nm] G Q:=by
 refine runs (by decide) e44 rfl ?_
 rw [b44,c44]
 simp only [n44,r44,SB,seval,NC,NH,NG,NQ,reduceCtorEq,ND,place,NA,NE]
 refine WC (ns:=[v]) (Sl.row Tz (ro:=false) (by rw [NU];rfl)) (by show 1<2 ^ 40;decide) (by simp only [Nh,Np,or_false,forall_eq_or_imp,forall_eq];exact h0) (by simp;omega) fun p c G1 l m=>?_
 refine NI ?_
 have f:G.length<=G1.length:=by have:=l.len;simp at this;omega
 obtain ⟨k,d,b,i,w⟩:=Tk.moreF m (lim':=lim) (bytes:=16) (by simp;omega) Rm (by decide) [nm] (by simp) (by show (2+1)*16<=PS;decide) (by show 2+1<2 ^ 61;decide) [Vc [.string nm]] (x:=.slice (Sa G1.length) 1 1) (str:=false) (by simp [firstCells,NW,NU,SE]) rfl
 simp only [Nm,Nn,Of,List.map_nil,Nr,Nat.reduceAdd,Nj] at d
 simp only [n44,r44,d,SB,seval,NC,NH,NG,NQ,reduceCtorEq,ND,place,NA,NE]
 rw [Nb]
 have h:Chg [] G G1:=l.pre
 have g:Chg [] G k:=h.trans' i fun j o y=>by
  cases p with
  | none=>simp [Ze] at o
  | some a=>
    simp only [Ze,Ng] at o
    have:=(m.block rfl).1
    simp at this
    omega
 rw [Nj] at b
 refine s _ _ k _ g (Tk.le (.inl b) f) (fun t q=>?_) (by show 3<2 ^ 30;decide) fun e G' r=>?_
 ·simp only [Nh,Np,or_false] at q
  rcases q with rfl | rfl | rfl
  ·decide
  ·have:=Uw (n:=v);omega
  ·omega
 refine NI ?_
 simp only [n44,r44,SB,seval,NC,NH,NG,NQ,reduceCtorEq,ND,place,NA,NE]
 rw [Nb]
 exact u e G' r
end
structure Stp where
 k:Int
 m:Int
 i:Int
 c:Int
 lo:Int
structure StOk (x:Stp):Prop where
 k:0<=x.k/\x.k<256
 m:0<=x.m/\x.m<256
 i:0<=x.i/\x.i<256
 c:0<=x.c/\x.c<65536
 lo:0<=x.lo/\x.lo<18446744073709551616
def encU (x:Stp):List Value:=[.int .u8 x.k,.int .u8 x.m,.int .u8 x.i,.int .u16 x.c,.int .u64 x.lo]
theorem Nr0 (x:Stp):(encU x).length=5:=rfl
def OD (x:Stp):Sc:=⟨1+x.i % 16,1+x.m % 3,1+x.m % 2,1+x.k % 4,x.lo % 4000,x.lo % 4000+x.c % 9⟩
def nameOf (x:Stp):ByteArray:=⟨#[77,UInt8.ofNat (97+x.c % 26).toNat]⟩
theorem tm {a b:Int} (h:0<=a):Int.tmod a b=a % b:=Int.tmod_eq_emod_of_nonneg h
theorem X7 {a:Int} (h0:0<=a) (h:a<9223372036854775808):IntKind.i64.wrap a=a:=QP (by omega) (by omega)
theorem w8 {a:Int} (h0:0<=a) (h:a<256):IntKind.u8.wrap a=a:=by
 simp only [IntKind.wrap,IntKind.bits,IntKind.signed]
 simp;omega
section
variable {mp:Bool} {lim:Nat} {H:NB} {Q:Value->NB->Prop}
theorem XY [OA] {x:Stp} (h:StOk x):NP E mp lim 40 [.agg (encU x).toArray] H Q=Q (.agg #[Vi (OD x).item,Vi (OD x).place,Vi (OD x).scanner,.int .u8 (OD x).kind,Vi (OD x).at',Vi (OD x).seen]) H:=by
 obtain ⟨j,l,hi,hc,b⟩:=h
 refine pc (by decide) e40 rfl rfl ?_
 rw [b40,c40]
 simp only [n40,r40,encU,tm j.1,tm l.1,tm hi.1,tm hc.1,tm b.1,SB,seval,NC,NH,NG,NQ,reduceCtorEq,ND,place,NA,NE]
 have a1:IntKind.i64.wrap (x.i % 16)=x.i % 16:=X7 (by omega) (by omega)
 have d:IntKind.i64.wrap (x.m % 3)=x.m % 3:=X7 (by omega) (by omega)
 have e:IntKind.i64.wrap (x.m % 2)=x.m % 2:=X7 (by omega) (by omega)
 have f:IntKind.i64.wrap (x.lo % 4000)=x.lo % 4000:=X7 (by omega) (by omega)
 have g:IntKind.i64.wrap (x.c % 9)=x.c % 9:=X7 (by omega) (by omega)
 simp only [a1,d,e,f,g,OD]
 rw [X7 (a:=1+x.i % 16) (by omega) (by omega),X7 (a:=1+x.m % 3) (by omega) (by omega),X7 (a:=1+x.m % 2) (by omega) (by omega),w8 (a:=1+x.k % 4) (by omega) (by omega),X7 (a:=x.lo % 4000+x.c % 9) (by omega) (by omega)]
end
def QM (x:Stp):List ByteArray:=
 if x.k % 8=0 then [SV,NV (1+x.m % 6),nameOf x]
 else if x.k % 8=1\/x.k % 8=2 then [TK,NV (1+x.m % 6),NV x.c]
 else if x.k % 8=3\/x.k % 8=4 then [SH,NV (1+x.i % 16),NV (1+x.m % 6),NV (1+x.lo % 50),NV (x.c / 3)]
 else if x.k % 8=5\/x.k % 8=6 then [Tm,NV (OD x).item,NV (OD x).place,NV (OD x).scanner,NV (OD x).kind,NV (OD x).at',NV (OD x).seen]
 else [Rb,NV (1+x.i % 16),NV (x.c % 500)]
section
variable {lim l0 B:Nat} {jv:Value} {s:SU} {G:NB} {Q:Value->NB->Prop}
theorem Nxt [OA] {x:Stp} {R:Int->NB->Prop} (I:StOk x) (hl:lim<=G.length) (b:DoR lim B G (QM x) R) (q:∀e G',R e G'->Q (Vi e) G') :
  NP E false lim 12 [Vp B,.agg (encU x).toArray] G Q:=by
 obtain ⟨g,h,hi,hc,j⟩:=I
 refine runs (by decide) e12 rfl ?_
 rw [b12,c12]
 have a1:IntKind.i64.wrap (x.m % 6)=x.m % 6:=X7 (by omega) (by omega)
 have l:IntKind.i64.wrap (1+x.m % 6)=1+x.m % 6:=X7 (by omega) (by omega)
 have n:IntKind.i64.wrap (x.i % 16)=x.i % 16:=X7 (by omega) (by omega)
 have o:IntKind.i64.wrap (1+x.i % 16)=1+x.i % 16:=X7 (by omega) (by omega)
 have r:IntKind.i64.wrap x.c=x.c:=X7 (by omega) (by omega)
 have p:∀X,Chg [] G (G++X):=fun X=>Chg.refl.app
 have inr:∀{v:Int},0<=v->v<=100000->XT v:=fun h1 h2=>⟨by omega,by omega⟩
 by_cases e0:x.k % 8=0
 ·have e:QM x=[SV,NV (1+x.m % 6),nameOf x]:=by unfold QM;rw [Nk e0]
  rw [e] at b
  have F:IntKind.u8.wrap (x.c % 26)=x.c % 26:=w8 (by omega) (by omega)
  have b7:IntKind.u8.wrap (97+x.c % 26)=97+x.c % 26:=w8 (by omega) (by omega)
  have D:¬((((⟨#[77]⟩:ByteArray).size+(⟨#[UInt8.ofNat (97+x.c % 26).toNat]⟩:ByteArray).size:Nat):Int) > IntKind.i64.max):=by show ¬(((2:Nat):Int) > _);decide
  have t:(⟨#[77]⟩:ByteArray)++(⟨#[UInt8.ofNat (97+x.c % 26).toNat]⟩:ByteArray)=nameOf x:=by
   unfold nameOf
   rw [Xy];simp
  simp only [n12,r12,encU,tm g.1,tm h.1,tm hi.1,a1,l,n,o,e0,tm hc.1,F,b7,D,t,SB,seval,NC,NH,NG,NQ,reduceCtorEq,ND,place,NA,NE]
  refine Nkw (R:=R) (by simp;omega) (inr (by omega) (by omega)) (by show 2<=100;decide) (b.new (p _)) fun e G' d=>?_
  refine NI ?_
  simp only [n12,r12,SB,seval,NC,NH,NG,NQ,reduceCtorEq,ND,place,NA,NE]
  rw [Nb]
  exact q e G' d
 by_cases e1:x.k % 8=1
 ·have e:QM x=[TK,NV (1+x.m % 6),NV x.c]:=by unfold QM;rw [Ni e0,Nk (.inl e1)]
  rw [e] at b
  simp only [n12,r12,encU,tm g.1,tm h.1,tm hi.1,a1,l,n,o,e1,r,SB,seval,NC,NH,NG,NQ,reduceCtorEq,ND,place,NA,NE]
  refine Nes (R:=R) (by simp;omega) (inr (by omega) (by omega)) (inr (by omega) (by omega)) (b.new (p _)) fun e G' d=>?_
  refine NI ?_
  simp only [n12,r12,SB,seval,NC,NH,NG,NQ,reduceCtorEq,ND,place,NA,NE]
  rw [Nb]
  exact q e G' d
 by_cases e2:x.k % 8=2
 ·have e:QM x=[TK,NV (1+x.m % 6),NV x.c]:=by unfold QM;rw [Ni e0,Nk (.inr e2)]
  rw [e] at b
  simp only [n12,r12,encU,tm g.1,tm h.1,tm hi.1,a1,l,n,o,e2,r,SB,seval,NC,NH,NG,NQ,reduceCtorEq,ND,place,NA,NE]
  refine Nes (R:=R) (by simp;omega) (inr (by omega) (by omega)) (inr (by omega) (by omega)) (b.new (p _)) fun e G' d=>?_
  refine NI ?_
  simp only [n12,r12,SB,seval,NC,NH,NG,NQ,reduceCtorEq,ND,place,NA,NE]
  rw [Nb]
  exact q e G' d
 by_cases e3:x.k % 8=3
 ·have e:QM x=[SH,NV (1+x.i % 16),NV (1+x.m % 6),NV (1+x.lo % 50),NV (x.c / 3)]:=by unfold QM;rw [Ni e0,Ni (by omega),Nk (.inl e3)]
  rw [e] at b
  have s:IntKind.i64.wrap (x.lo % 50)=x.lo % 50:=X7 (by omega) (by omega)
  have u:IntKind.i64.wrap (1+x.lo % 50)=1+x.lo % 50:=X7 (by omega) (by omega)
  have w:Int.tdiv x.c 3=x.c / 3:=P8 hc.1
  have y:IntKind.i64.wrap (x.c / 3)=x.c / 3:=X7 (by omega) (by omega)
  simp only [n12,r12,encU,tm g.1,tm h.1,tm hi.1,tm j.1,a1,l,n,o,e3,r,s,u,w,y,SB,seval,NC,NH,NG,NQ,reduceCtorEq,ND,place,NA,NE]
  refine M9 (R:=R) (by simp;omega) (inr (by omega) (by omega)) (inr (by omega) (by omega)) (inr (by omega) (by omega)) (inr (by omega) (by omega)) (b.new (p _)) fun e G' d=>?_
  refine NI ?_
  simp only [n12,r12,SB,seval,NC,NH,NG,NQ,reduceCtorEq,ND,place,NA,NE]
  rw [Nb]
  exact q e G' d
 by_cases z:x.k % 8=4
 ·have e:QM x=[SH,NV (1+x.i % 16),NV (1+x.m % 6),NV (1+x.lo % 50),NV (x.c / 3)]:=by unfold QM;rw [Ni e0,Ni (by omega),Nk (.inr z)]
  rw [e] at b
  have s:IntKind.i64.wrap (x.lo % 50)=x.lo % 50:=X7 (by omega) (by omega)
  have u:IntKind.i64.wrap (1+x.lo % 50)=1+x.lo % 50:=X7 (by omega) (by omega)
  have w:Int.tdiv x.c 3=x.c / 3:=P8 hc.1
  have y:IntKind.i64.wrap (x.c / 3)=x.c / 3:=X7 (by omega) (by omega)
  simp only [n12,r12,encU,tm g.1,tm h.1,tm hi.1,tm j.1,a1,l,n,o,z,r,s,u,w,y,SB,seval,NC,NH,NG,NQ,reduceCtorEq,ND,place,NA,NE]
  refine M9 (R:=R) (by simp;omega) (inr (by omega) (by omega)) (inr (by omega) (by omega)) (inr (by omega) (by omega)) (inr (by omega) (by omega)) (b.new (p _)) fun e G' d=>?_
  refine NI ?_
  simp only [n12,r12,SB,seval,NC,NH,NG,NQ,reduceCtorEq,ND,place,NA,NE]
  rw [Nb]
  exact q e G' d
 by_cases A:x.k % 8=5
 ·have e:QM x=[Tm,NV (OD x).item,NV (OD x).place,NV (OD x).scanner,NV (OD x).kind,NV (OD x).at',NV (OD x).seen]:=by unfold QM;rw [Ni e0,Ni (by omega),Ni (by omega),Nk (.inl A)]
  rw [e] at b
  have f:=fun (mp:Bool) (lim:Nat) (H:NB) (Q:Value->NB->Prop)=>XY (mp:=mp) (lim:=lim) (H:=H) (Q:=Q) (x:=x) ⟨g,h,hi,hc,j⟩
  simp only [encU] at f
  simp only [n12,r12,encU,tm g.1,tm h.1,tm hi.1,a1,l,n,o,A,f,SB,seval,NC,NH,NG,NQ,reduceCtorEq,ND,place,NA,NE]
  have a:XT (OD x).item/\XT (OD x).place/\XT (OD x).scanner/\XT (OD x).kind/\XT (OD x).at'/\XT (OD x).seen:=by
   unfold OD
   exact ⟨inr (by simp only;omega) (by simp only;omega),inr (by simp only;omega) (by simp only;omega),inr (by simp only;omega) (by simp only;omega),inr (by simp only;omega) (by simp only;omega),inr (by simp only;omega) (by simp only;omega),inr (by simp only;omega) (by simp only;omega)⟩
  refine Nks (x:=OD x) (R:=R) (by simp;omega) a.1 a.2.1 a.2.2.1 a.2.2.2.1 a.2.2.2.2.1 a.2.2.2.2.2 (b.new (p _)) fun e G' d=>?_
  refine NI ?_
  simp only [n12,r12,SB,seval,NC,NH,NG,NQ,reduceCtorEq,ND,place,NA,NE]
  rw [Nb]
  exact q e G' d
 by_cases C:x.k % 8=6
 ·have e:QM x=[Tm,NV (OD x).item,NV (OD x).place,NV (OD x).scanner,NV (OD x).kind,NV (OD x).at',NV (OD x).seen]:=by unfold QM;rw [Ni e0,Ni (by omega),Ni (by omega),Nk (.inr C)]
  rw [e] at b
  have f:=fun (mp:Bool) (lim:Nat) (H:NB) (Q:Value->NB->Prop)=>XY (mp:=mp) (lim:=lim) (H:=H) (Q:=Q) (x:=x) ⟨g,h,hi,hc,j⟩
  simp only [encU] at f
  simp only [n12,r12,encU,tm g.1,tm h.1,tm hi.1,a1,l,n,o,C,f,SB,seval,NC,NH,NG,NQ,reduceCtorEq,ND,place,NA,NE]
  have a:XT (OD x).item/\XT (OD x).place/\XT (OD x).scanner/\XT (OD x).kind/\XT (OD x).at'/\XT (OD x).seen:=by
   unfold OD
   exact ⟨inr (by simp only;omega) (by simp only;omega),inr (by simp only;omega) (by simp only;omega),inr (by simp only;omega) (by simp only;omega),inr (by simp only;omega) (by simp only;omega),inr (by simp only;omega) (by simp only;omega),inr (by simp only;omega) (by simp only;omega)⟩
  refine Nks (x:=OD x) (R:=R) (by simp;omega) a.1 a.2.1 a.2.2.1 a.2.2.2.1 a.2.2.2.2.1 a.2.2.2.2.2 (b.new (p _)) fun e G' d=>?_
  refine NI ?_
  simp only [n12,r12,SB,seval,NC,NH,NG,NQ,reduceCtorEq,ND,place,NA,NE]
  rw [Nb]
  exact q e G' d
 ·have e:QM x=[Rb,NV (1+x.i % 16),NV (x.c % 500)]:=by unfold QM;rw [Ni e0,Ni (by omega),Ni (by omega),Ni (by omega)]
  rw [e] at b
  have s:IntKind.i64.wrap (x.c % 500)=x.c % 500:=X7 (by omega) (by omega)
  simp only [n12,r12,encU,tm g.1,tm h.1,tm hi.1,tm hc.1,a1,l,n,o,r,s,e0,e1,e2,e3,z,A,C,SB,seval,NC,NH,NG,NQ,reduceCtorEq,ND,place,NA,NE]
  refine ZA (R:=R) (by simp;omega) (inr (by omega) (by omega)) (inr (by omega) (by omega)) (b.new (p _)) fun e G' d=>?_
  refine NI ?_
  simp only [n12,r12,SB,seval,NC,NH,NG,NQ,reduceCtorEq,ND,place,NA,NE]
  rw [Nb]
  exact q e G' d
theorem Nv5 [OA] {n:Nat} {x:Stp} (f:StOk x) (h:KB l0 B (.pointer none) s G) (d:Wf n s.st) (hn:n<2 ^ 30) (hl:lim<=l0) (a:l0<=G.length)
  (c:∀s' G',Aft l0 B (.pointer none) s G (if RU s.st (QM x)=0 then doneD s.st (QM x) else s.st) s' G'->Q (Vi (RU s.st (QM x))) G') :
  NP E false lim 12 [Vp B,.agg (encU x).toArray] G Q:=
 Nxt f (by omega) (DoR.of0 h d hn hl a) fun e G' ⟨he,s',b⟩=>he▸c s' G' b
end
instance:Inhabited Stp:=⟨⟨0,0,0,0,0⟩⟩
theorem KB.chg {l0 B:Nat} {jv:Value} {s s':SU} {u:BU} {H G G':NB} (h:KB l0 B jv s G) (hl:H.length<=l0) (hc:Chg [] H G) (c:Aft l0 B jv s G u s' G'):Chg [] H G':=by
 obtain ⟨A,a,b⟩:=c.chg
 exact hc.trans' b fun j d hl=>by
  obtain ⟨r,hr⟩:=a j d
  have:=(h.lt hr).1
  omega
section
variable {mp:Bool} {lim l0 B:Nat} {jv:Value} {s:SU} {G:NB} {Q:Value->NB->Prop}
theorem Nfz {α:Type} {d l0 e c:Nat} {G:NB} {enc:α->List Value} {p:Option Addr} {l:List α} (h:Own l0 G enc e p c l):olds G.length d (.slice p l.length c)=true:=by
 rcases h with ⟨rfl,rfl,rfl⟩ | ⟨R,rfl,rfl,h,_⟩
 ·cases d<;>rfl
 ·have:=NJ h
  cases d<;>simp [olds,this]
theorem Np4 {d:Nat} {m:PM} (h1:Own l0 G Xe 4 m.pe m.ce m.m.ents) (h2:Own l0 G Yn 1 m.pi m.ci m.m.its):olds G.length (d+1) (Tj m)=true:=by
 simp only [Tj,olds,List.all_cons,List.all_nil,Nfz h1,Nfz h2,Bool.and_true]
 cases d<;>rfl
theorem find_ok [OA] {id:Int} {m:PM} (h:KB l0 B jv s G) (g:PE id s.ms=some m):NP E mp lim 49 [Vp B,Vi id] G Q=Q (.tuple #[Tj m,Vi 0]) G:=by
 refine po (by decide) e49 rfl ?_ ?_
 ·have:=Np4 (d:=2) (h.oe id m g) (h.oi id m g)
  simp only [olds,List.all_cons,List.all_nil,this,Bool.and_true]
  rfl
 rw [b49,c49]
 have c:=fun X=>(QL.refl.app (X:=X)).cells h.b
 have a:=fun X (mp:Bool) (lim:Nat) (Q:Value->NB->Prop)=>VG (mp:=mp) (lim:=lim) (Q:=Q) (c X)
 have i:∀X,NF (G++X) s.M=.map (QK kI Tj s.ms):=fun X=>by rw [NZ (h.lt (r:=.m) rfl).2];exact h.m
 have f:Sb (.int .i64) (Vi id)=true:=Ww
 obtain ⟨j,k⟩:=Wx g 0
 have e:findKey (Vi id) (QK kI Tj s.ms) 0=some (some (j,Tj m)):=by rw [lkM,k];rfl
 simp only [n49,r49,a,c,i,f,e,NS,Tj,SB,seval,NC,NH,NG,NQ,reduceCtorEq,ND,place,NA,NE]
theorem M7 [OA] {id:Int} (h:KB l0 B jv s G) (g:PE id s.ms=none):NP E mp lim 49 [Vp B,Vi id] G Q=Q (.tuple #[.agg #[.string ⟨#[]⟩,Vz,Vz],Vi 6]) G:=by
 refine po (by decide) e49 rfl rfl ?_
 rw [b49,c49]
 have c:=fun X=>(QL.refl.app (X:=X)).cells h.b
 have a:=fun X (mp:Bool) (lim:Nat) (Q:Value->NB->Prop)=>VG (mp:=mp) (lim:=lim) (Q:=Q) (c X)
 have f:∀X,NF (G++X) s.M=.map (QK kI Tj s.ms):=fun X=>by rw [NZ (h.lt (r:=.m) rfl).2];exact h.m
 have e:Sb (.int .i64) (Vi id)=true:=Ww
 have d:findKey (Vi id) (QK kI Tj s.ms) 0=some none:=by rw [lkM,Wy g];rfl
 simp only [n49,r49,a,c,f,e,d,NS,SB,seval,NC,NH,NG,NQ,reduceCtorEq,ND,place,NA,NE]
def Ng3 (u:BU) (id:Int):Int×Int:=match PE id u.ms with
 | some m=>(Rn m.ents,0)
 | none=>(0,6)
def Npp (u:BU) (id:Int):Int×Int:=match PE id u.xs with
 | some x=>(x.point,0)
 | none=>(0,6)
theorem Yv [OA] {id:Int} (h:KB l0 B jv s G) (hn:∀m,PE id s.ms=some m->m.m.ents.length<2 ^ 40):NP E mp lim 14 [Vp B,Vi id] G Q=Q (.tuple #[Vi (Ng3 s.st id).1,Vi (Ng3 s.st id).2]) G:=by
 refine pc (by decide) e14 rfl rfl ?_
 rw [b14,c14]
 unfold Ng3
 rw [RH]
 have d:=fun X=>(h.new (Chg.refl.app (X:=X)))
 cases hg:PE id s.ms with
 | none=>
   have b:=fun X (mp:Bool) (lim:Nat) (Q:Value->NB->Prop)=>M7 (mp:=mp) (lim:=lim) (Q:=Q) (d X) hg
   have e:=fun X (mp:Bool) (lim:Nat) (Q:Value->NB->Prop)=>Z8 (mp:=mp) (lim:=lim) (Q:=Q) (c:=0) (nm:=.string ⟨#[]⟩) (its:=Vz) (p:=none) (l:=[]) (H:=G++X) rfl (by decide)
   simp only [Nn] at e
   simp only [n14,r14,b,e,SB,seval,NC,NH,NG,NQ,reduceCtorEq,ND,place,NA,NE]
   rfl
 | some m=>
   have b:=fun X (mp:Bool) (lim:Nat) (Q:Value->NB->Prop)=>find_ok (mp:=mp) (lim:=lim) (Q:=Q) (d X) hg
   have a:=fun X (mp:Bool) (lim:Nat) (Q:Value->NB->Prop)=>Z8 (mp:=mp) (lim:=lim) (Q:=Q) (c:=m.ce) (nm:=.string m.m.name) (its:=.slice m.pi m.m.its.length m.ci) (((h.oe id m hg).sl SQ).app X) (hn m hg)
   simp only [n14,r14,b,Tj,a,SB,seval,NC,NH,NG,NQ,reduceCtorEq,ND,place,NA,NE]
theorem Nhd [OA] {id:Int} (h:KB l0 B jv s G):NP E mp lim 16 [Vp B,Vi id] G Q=Q (.tuple #[Vi (Npp s.st id).1,Vi (Npp s.st id).2]) G:=by
 refine pc (by decide) e16 rfl rfl ?_
 rw [b16,c16]
 have c:=fun X=>(QL.refl.app (X:=X)).cells h.b
 have a:=fun X (mp:Bool) (lim:Nat) (Q:Value->NB->Prop)=>VG (mp:=mp) (lim:=lim) (Q:=Q) (c X)
 have f:∀X,NF (G++X) s.X=.map (QK kI UK s.xs):=fun X=>by rw [NZ (h.lt (r:=.x) rfl).2];exact h.x
 have e:Sb (.int .i64) (Vi id)=true:=Ww
 unfold Npp
 have g:s.st.xs=s.xs:=rfl
 rw [g]
 cases hg:PE id s.xs with
 | none=>
   have d:findKey (Vi id) (QK kI UK s.xs) 0=some none:=by rw [lkX,Wy hg];rfl
   simp only [n16,r16,a,c,f,e,d,NS,SB,seval,NC,NH,NG,NQ,reduceCtorEq,ND,place,NA,NE]
 | some x=>
   obtain ⟨j,i⟩:=Wx hg 0
   have d:findKey (Vi id) (QK kI UK s.xs) 0=some (some (j,UK x)):=by rw [lkX,i];rfl
   simp only [n16,r16,a,c,f,e,d,NS,UK,SB,seval,NC,NH,NG,NQ,reduceCtorEq,ND,place,NA,NE]
def SU0 (n:Nat):SU:=⟨[],none,0,[],n,[],n+1,[],none,0⟩
theorem Nj1 [OA] (hl:lim<=G.length) (d:∀G',KB G.length (G.length+2) (.pointer none) (SU0 G.length) G'->Chg [] G G'->Q (Vp (G.length+2)) G'):NP E false lim 11 [] G Q:=by
 refine runs (by decide) e11 rfl ?_
 rw [b11,c11]
 simp only [n11,r11,SB,seval,NC,NH,NG,NQ,reduceCtorEq,ND,place,NA,NE]
 refine d _ ⟨by rw [NK];rfl,by show NF _ G.length=_;rw [NU];rfl,by show NF _ (G.length+1)=_;rw [NK];rfl,Own.nil,Own.nil,fun id m a=>(by cases a),fun id m a=>(by cases a),fun c hc=>(by cases hc),by omega,Nd _,by show G.length<=G.length+1;omega,fun r r' j hr b=>?_,fun c hc=>(by cases hc)⟩ Chg.refl.app
 cases r<;>cases r'<;>simp only [SU.ptr,SU0,bk,PE,O5,Option.bind_none,Option.some.injEq,reduceCtorEq] at hr b<;>first | rfl | omega
end
def Vk (s:ByteArray):List UInt8:=[UInt8.ofNat (s.size / 256),UInt8.ofNat s.size]
def Rc (l:List ByteArray):List UInt8:=l.flatMap fun s=>Vk s++s.data.toList
theorem Nae {l:List ByteArray} {s:ByteArray}:Rc (l++[s])=(Rc l++Vk s)++s.data.toList:=by
 unfold Rc
 rw [P5,Oh,List.flatMap_nil,Nb,Nl]
def VF (l:List ByteArray):List UInt8×Int:=
 if 100<l.length then ([],5) else if l.any (fun s=>decide (1000<s.size)) then ([],3) else if 4000<(Rc l).length then ([],3) else (Rc l,0)
theorem Vg (s:ByteArray):s.data.toList.length=s.size:=Array.length_toList
theorem Nps {l:List ByteArray} (h:∀s∈l,s.size<=1000):(Rc l).length<=l.length*1002:=by
 induction l with
 | nil=>simp [Rc]
 | cons s l ih=>
   have h1:=ih fun x a=>h x (by simp [a])
   have h2:=h s (by simp)
   simp only [Rc,Oh,Nj,Vk,Nm,Nn,Vg] at h1⊢
   omega
theorem Ntp {s:ByteArray} (h:s.size<=1000):Value.int .u8 (IntKind.u8.wrap (Int.fdiv (s.size:Int) (2 ^ min (Int.toNat 8) IntKind.i64.bits)))=u8 (UInt8.ofNat (s.size / 256)):=by
 have e:Int.fdiv (s.size:Int) (2 ^ min (Int.toNat 8) IntKind.i64.bits)=((s.size / 256:Nat):Int):=by
  show Int.fdiv (s.size:Int) 256=_
  rw [Q3 _ (by decide)]
  omega
 rw [e]
 simp only [u8,Value.int.injEq,Qr]
 rw [UInt8.toNat_ofNat_of_lt' (by show s.size / 256<256;omega)]
 simp only [IntKind.wrap,IntKind.bits,IntKind.signed]
 simp;omega
theorem Nto {s:ByteArray}:Value.int .u8 (IntKind.u8.wrap (s.size:Int))=u8 (UInt8.ofNat s.size):=by
 simp only [u8,Value.int.injEq,Qr,UInt8.toNat_ofNat']
 simp only [IntKind.wrap,IntKind.bits,IntKind.signed]
 simp
theorem Nmr {s:ByteArray} {H:NB}:firstCells H 1 true (.string s)=some (s.data.toList.flatMap Uf):=by
 simp only [firstCells,if_true]
 congr 1
 induction s.data.toList with
 | nil=>rfl
 | cons b l ih=>rw [Of,Oh,ih];rfl
theorem Nui [OA] {lim k n:Nat} {p:Option Addr} {l:List ByteArray} {H:NB} {Q:Value->NB->Prop} (hs:Sl H SE 1 p l) (hn:n=l.length) (hl:lim<=H.length)
  (I:∀q c H',Chg [] H H'->Own H.length H' Uf 1 q c (VF l).1->Q (.tuple #[.slice q (VF l).1.length c,Vi (VF l).2]) H') :
  NP E false lim 34 [.slice p n k] H Q:=by
 subst hn
 refine runs (by decide) e34 rfl ?_
 rw [b34,c34]
 by_cases a:100<l.length
 ·have f:(100:Int)<(l.length:Int):=by omega
  simp only [n34,r34,f,SB,Nat.reduceLT,NC,NH,Nat.reduceEqDiff,NG,NQ,reduceCtorEq,ND,place,NA,Nat.reduceAdd,Nat.reduceLeDiff,NE,Int.reduceEq,Int.reduceLT,Int.reduceLE]
  have:=I none 0 (H++[]) Chg.refl.app (by simp only [VF,Nk a];exact Own.nil)
  simpa only [VF,Nk a,Nn] using this
 have f:¬(100:Int)<(l.length:Int):=by omega
 simp only [n34,r34,f,SB,Nat.reduceLT,NC,NH,Nat.reduceEqDiff,NG,NQ,reduceCtorEq,ND,place,NA,Nat.reduceAdd,Nat.reduceLeDiff,NE,Int.reduceEq,Int.reduceLT,Int.reduceLE]
 refine QC (fun s:Nat×Option Addr×Nat=>l.length-s.1) (fun s fr G=>s.1<=l.length/\fr 4=.slice s.2.1 (Rc (l.take s.1)).length s.2.2/\fr 10=.slice p l.length k/\fr 11=Vi l.length/\fr 12=Vi s.1/\Chg [] H G/\Own H.length G Uf 1 s.2.1 s.2.2 (Rc (l.take s.1))/\∀x∈l.take s.1,x.size<=1000) (0,none,0)
  ⟨N5 _,by rfl,(by simp only [FB,Nat.reduceEqDiff]),(by simp only [FB,Nat.reduceEqDiff]),by rfl,Chg.refl.app,Own.nil,by simp⟩ ?_
 rintro ⟨i,q,c⟩ fr G ⟨hi,B,g,j,o,u,F,e⟩ W
 simp only at hi B o F e
 rw [QF Nuv.eq_1]
 refine NI ?_
 have aa:lim<=G.length:=by have:=u.len;omega
 have N:(Rc (l.take i)).length<=100*1002:=by
  have h1:=Nps e
  have h2:(l.take i).length<=100:=by simp;omega
  have:=Om 1002 h2
  omega
 by_cases d:i<l.length
 ·have R:=u.sl hs (by simp)
  have C:=fun X=>(R.app X).loadCell0 Rm d (by decide)
  have v:=fun c (k:IntKind) (H1:NB)=>R.idx (c:=c) (k:=k) (H1:=H1) d
  have P:IntKind.i64.wrap ((i:Int)+1)=((i+1:Nat):Int):=Ra (by omega)
  by_cases O:1000<(gt l i).size
  ·have r:(1000:Int)<((gt l i).size:Int):=by omega
   simp only [n34,r34,B,g,j,o,d,C,v,Tx,r,SB,Nat.reduceLT,NC,NH,Nat.reduceEqDiff,NG,NQ,reduceCtorEq,ND,place,NA,Nat.reduceAdd,Nat.reduceLeDiff,NE,Int.reduceEq,Int.reduceLT,Int.reduceLE]
   have b:l.any (fun s=>decide (1000<s.size))=true:=List.any_eq_true.2 ⟨gt l i,Xb d,by simpa using O⟩
   have:=I none 0 (G++[]) u.app (by simp only [VF,Ni a,b,if_true];exact Own.nil)
   simpa only [VF,Ni a,b,if_true,Nn] using this
  ·have r:¬(1000:Int)<((gt l i).size:Int):=by omega
   have w:(gt l i).size<=1000:=by omega
   obtain ⟨U,q2,c2,t,L,J,_,Y⟩:=F.more (lim':=lim) (bytes:=1) hl Rt (by decide) (Vk (gt l i)) (by unfold PS;simp [Vk];omega) (by simp [Vk];omega) u.len [Vc ((Vk (gt l i)).flatMap Uf)] (x:=.slice (Sa G.length) 2 2) (str:=false)
    (Xd (m:=Vk (gt l i)) (Sl.lit Rt (by rw [NU];rfl) (by rw [NU];rfl))) rfl
   obtain ⟨G3,q3,V,A,M,K,_,Z⟩:=L.more (lim':=lim) (bytes:=1) hl Rt (by decide) (gt l i).data.toList (by unfold PS;rw [Vg];simp [Vk];omega) (by rw [Vg];simp [Vk];omega) (by have:=u.len;simp;omega) [] (x:=.string (gt l i)) (str:=true) Nmr (by simp [lenOf,Vg])
   have e2:(Vk (gt l i)).flatMap Uf=[u8 (UInt8.ofNat ((gt l i).size / 256)),u8 (UInt8.ofNat (gt l i).size)]:=rfl
   rw [e2] at t
   simp only [u8] at t
   rw [Nb (U++[])] at A
   have S:(Vk (gt l i)).length=2:=rfl
   rw [Nj,S] at A
   rw [S] at t
   simp only [n34,r34,B,g,j,o,d,C,v,Tx,r,Ntp w,Nto,t,A,u8,P,SB,Nat.reduceLT,NC,NH,Nat.reduceEqDiff,NG,NQ,reduceCtorEq,ND,place,NA,Nat.reduceAdd,Nat.reduceLeDiff,NE,Int.reduceEq,Int.reduceLT,Int.reduceLE]
   exact W (i+1,q3,V) _ _ ⟨by show i+1<=_;omega,by rw [TY d,Nae,Nj,Nj,Vg];exact (by simp only [show (Vk (gt l i)).length=2 from rfl,On,FB,Nat.reduceEqDiff]),(by simp only [g,FB,Nat.reduceEqDiff]),(by simp only [j,FB,Nat.reduceEqDiff]),(by simp only [FB,Nat.reduceEqDiff]),K _ _ (Nd _) (J _ _ (Nd _) u),by rw [TY d,Nae];exact M,fun y T=>by
    rw [TY d] at T
    rcases Ob.1 T with h | h
    ·exact e y h
    ·rw [Ng.1 h];exact w⟩ (by show _-(i+1)<_;omega)
 obtain rfl:i=l.length:=by omega
 rw [Pn] at B F e N
 have b:l.any (fun s=>decide (1000<s.size))=false:=by
  rw [List.any_eq_false]
  intro x hx
  have:=e x hx
  simp;omega
 by_cases D:4000<(Rc l).length
 ·have z:(4000:Int)<((Rc l).length:Int):=by omega
  simp only [n34,r34,B,g,j,o,d,z,SB,Nat.reduceLT,NC,NH,Nat.reduceEqDiff,NG,NQ,reduceCtorEq,ND,place,NA,Nat.reduceAdd,Nat.reduceLeDiff,NE,Int.reduceEq,Int.reduceLT,Int.reduceLE]
  have:=I none 0 (G++[]) u.app (by simp only [VF,Ni a,b,Nk D,No,if_false];exact Own.nil)
  simpa only [VF,Ni a,b,Nk D,No,if_false,Nn] using this
 ·have z:¬(4000:Int)<((Rc l).length:Int):=by omega
  simp only [n34,r34,B,g,j,o,d,z,SB,Nat.reduceLT,NC,NH,Nat.reduceEqDiff,NG,NQ,reduceCtorEq,ND,place,NA,Nat.reduceAdd,Nat.reduceLeDiff,NE,Int.reduceEq,Int.reduceLT,Int.reduceLE]
  have:=I q c (G++[]) u.app (by simp only [VF,Ni a,b,Ni D,No,if_false];exact F.app _)
  simpa only [VF,Ni a,b,Ni D,No,if_false] using this
def SI (x y:UInt8):Nat:=x.toNat*256+y.toNat
def UL:Nat->List UInt8->Option (List ByteArray)
 | _,[]=>some []
 | 0,_::_=>none
 | _+1,[_]=>none
 | c+1,x::y::r=>if SI x y<=1000/\SI x y<=r.length then (UL c (r.drop (SI x y))).map (⟨(r.take (SI x y)).toArray⟩::·) else none
def Mo (b:List UInt8):List ByteArray×Int:=if 4000<b.length then ([],421) else match UL 100 b with
 | some l=>(l,0)
 | none=>([],421)
theorem Nkd {n:Nat} {y:UInt8} (h:n<2 ^ 40):IntKind.i64.wrap (((BitVec.ofInt IntKind.i64.bits (IntKind.i64.wrap ((n:Int)*2 ^ min (Int.toNat 8) IntKind.i64.bits))) ||| BitVec.ofInt IntKind.i64.bits (y.toNat:Int)).toNat:Int)=((n*256+y.toNat:Nat):Int):=by
 have a:=y.toNat_lt
 have e1:(n:Int)*2 ^ min (Int.toNat 8) IntKind.i64.bits=((n*256:Nat):Int):=by
  show (n:Int)*2 ^ 8=_
  omega
 rw [e1,QP (n:=((n*256:Nat):Int)) (by omega) (by omega)]
 have e2:((BitVec.ofInt IntKind.i64.bits ((n*256:Nat):Int)) ||| BitVec.ofInt IntKind.i64.bits (y.toNat:Int)).toNat=n*256+y.toNat:=by
  rw [BitVec.toNat_or,BitVec.ofInt_natCast,BitVec.ofInt_natCast,BitVec.toNat_ofNat,BitVec.toNat_ofNat,Qs (by show n*256<2 ^ 64;omega),Qs (by show y.toNat<2 ^ 64;omega)]
  have:=Nat.shiftLeft_add_eq_or_of_lt (i:=8) (b:=y.toNat) (by omega) n
  rw [Nat.shiftLeft_eq] at this
  exact this.symm
 rw [e2,QP (by omega) (by omega)]
theorem Noc [OA] {lim k n:Nat} {p:Option Addr} {b:List UInt8} {H:NB} {Q:Value->NB->Prop} (hs:Sl H Uf 1 p b) (hk:Uo 1 k b.length) (hn:n=b.length) (hl:lim<=H.length) (hb:b.length<2 ^ 60)
  (T:∀q c H',Chg [] H H'->Own H.length H' SE 1 q c (Mo b).1->Q (.tuple #[.slice q (Mo b).1.length c,Vi (Mo b).2]) H') :
  NP E false lim 69 [.slice p n k] H Q:=by
 subst hn
 refine runs (by decide) e69 rfl ?_
 rw [b69,c69]
 by_cases L:4000<b.length
 ·have z:(4000:Int)<(b.length:Int):=by omega
  simp only [n69,r69,z,SB,Nat.reduceLT,NC,NH,Nat.reduceEqDiff,NG,NQ,reduceCtorEq,ND,place,NA,Nat.reduceAdd,Nat.reduceLeDiff,NE,Int.reduceEq,Int.reduceLT,Int.reduceLE]
  have:=T none 0 (H++[]) Chg.refl.app (by simp only [Mo,Nk L];exact Own.nil)
  simpa only [Mo,Nk L,Nn] using this
 have z:¬(4000:Int)<(b.length:Int):=by omega
 simp only [n69,r69,z,SB,Nat.reduceLT,NC,NH,Nat.reduceEqDiff,NG,NQ,reduceCtorEq,ND,place,NA,Nat.reduceAdd,Nat.reduceLeDiff,NE,Int.reduceEq,Int.reduceLT,Int.reduceLE]
 refine QC (fun s:(Option Addr×Nat)×(Option Addr×Nat)×List UInt8×List ByteArray=>s.2.2.1.length) (fun s fr G=>fr 0=.slice s.1.1 s.2.2.1.length s.1.2/\fr 4=.slice s.2.1.1 s.2.2.2.length s.2.1.2/\Chg [] H G/\Sl H Uf 1 s.1.1 s.2.2.1/\Uo 1 s.1.2 s.2.2.1.length/\
   Own H.length G SE 1 s.2.1.1 s.2.1.2 s.2.2.2/\s.2.2.2.length<=100/\s.2.2.1.length<=b.length/\UL 100 b=(UL (100-s.2.2.2.length) s.2.2.1).map (s.2.2.2++·)) ((p,k),(none,0),b,[])
  ⟨(by simp only [FB,Nat.reduceEqDiff]),(by simp only [Nn,FB,Nat.reduceEqDiff]),Chg.refl.app,hs,hk,Own.nil,by simp,Nd _,by simp⟩ ?_
 rintro ⟨⟨q,c⟩,⟨q2,c2⟩,r,out⟩ fr G ⟨v,w,m,hS,e,R,I,t,hp⟩ hN
 simp only at v w m hS e R I t hp
 rw [QF Nut.eq_1]
 refine NI ?_
 have aa:lim<=G.length:=by have:=m.len;omega
 have g:UL (100-out.length) r=none->Q (.tuple #[Vz,Vi 421]) (G++[]):=fun h=>by
  have K:Mo b=([],421):=by simp [Mo,Ni L,hp,h]
  have:=T none 0 (G++[]) m.app (by rw [K];exact Own.nil)
  rw [K] at this
  exact this
 match r with
 | []=>
   simp only [n69,r69,v,w,SB,Nat.reduceLT,NC,NH,Nat.reduceEqDiff,NG,NQ,reduceCtorEq,ND,place,NA,Nat.reduceAdd,Nat.reduceLeDiff,NE,Int.reduceEq,Int.reduceLT,Int.reduceLE]
   have K:Mo b=(out,0):=by simp [Mo,Ni L,hp,UL]
   have:=T q2 c2 (G++[]) m.app (by rw [K];exact R.app _)
   rw [K] at this
   exact this
 | [x]=>
   simp only [n69,r69,v,w,SB,Nat.reduceLT,NC,NH,Nat.reduceEqDiff,NG,NQ,reduceCtorEq,ND,place,NA,Nat.reduceAdd,Nat.reduceLeDiff,NE,Int.reduceEq,Int.reduceLT,Int.reduceLE]
   refine g ?_
   cases 100-out.length<;>rfl
 | x::y::r=>
   have M:(0:Int)<((r.length+2:Nat):Int):=by omega
   have N:¬((r.length+2:Nat):Int)<2:=by omega
   have f:(x::y::r).length=r.length+2:=rfl
   rw [f] at v
   by_cases C:out.length=100
   ·have d:((out.length:Nat):Int)=100:=by omega
    simp only [n69,r69,v,w,M,N,d,SB,Nat.reduceLT,NC,NH,Nat.reduceEqDiff,NG,NQ,reduceCtorEq,ND,place,NA,Nat.reduceAdd,Nat.reduceLeDiff,NE,Int.reduceEq,Int.reduceLT,Int.reduceLE]
    refine g ?_
    rw [C];rfl
   ·have d:¬((out.length:Nat):Int)=100:=by omega
    have D:=fun X=>(m.sl hS (by simp)).app X
    have i0:∀c (k:IntKind) (H1:NB),X9 1 (.slice q (r.length+2) c) (.int k 0) H1=some (.pointer (some (WA q 1 0)),H1):=fun c k H1=>hS.idx (i:=0) (by simp)
    have U:∀c (k:IntKind) (H1:NB),X9 1 (.slice q (r.length+2) c) (.int k 1) H1=some (.pointer (some (WA q 1 1)),H1):=fun c k H1=>hS.idx (i:=1) (by simp)
    have l0:∀X,AM.loadCell (G++X) (WA q 1 0)=some (.int .u8 x.toNat):=fun X=>((D X).loadCell0 Rt (i:=0) (by simp) (by decide)).trans rfl
    have l1:∀X,AM.loadCell (G++X) (WA q 1 1)=some (.int .u8 y.toNat):=fun X=>((D X).loadCell0 Rt (i:=1) (by simp) (by decide)).trans rfl
    have hx:=x.toNat_lt
    have hy:=y.toNat_lt
    have V:IntKind.i64.wrap ((x.toNat:Nat):Int)=(x.toNat:Int):=QP (by omega) (by omega)
    have W:IntKind.i64.wrap ((y.toNat:Nat):Int)=(y.toNat:Int):=QP (by omega) (by omega)
    have O:=Nkd (n:=x.toNat) (y:=y) (by omega)
    have en:x.toNat*256+y.toNat=SI x y:=rfl
    rw [en] at O
    have Z:IntKind.i64.wrap (((r.length+2:Nat):Int)-2)=(r.length:Int):=by rw [QP (by simp at t;omega) (by simp at t;omega)];omega
    have A:UL (100-out.length) (x::y::r)=if SI x y<=1000/\SI x y<=r.length then (UL (100-(out.length+1)) (r.drop (SI x y))).map (⟨(r.take (SI x y)).toArray⟩::·) else none:=by
     rw [show 100-out.length=(100-(out.length+1))+1 by omega];rfl
    by_cases h1:1000<SI x y
    ·have j:(1000:Int)<(SI x y:Int):=by omega
     simp only [n69,r69,v,w,M,N,d,i0,U,l0,l1,V,W,O,j,SB,Nat.reduceLT,NC,NH,Nat.reduceEqDiff,NG,NQ,reduceCtorEq,ND,place,NA,Nat.reduceAdd,Nat.reduceLeDiff,NE,Int.reduceEq,Int.reduceLT,Int.reduceLE]
     refine g ?_
     rw [A,Ni (by omega)]
    have j:¬(1000:Int)<(SI x y:Int):=by omega
    by_cases h2:r.length<SI x y
    ·simp only [n69,r69,v,w,M,N,d,i0,U,l0,l1,V,W,O,Z,j,h2,SB,Nat.reduceLT,NC,NH,Nat.reduceEqDiff,NG,NQ,reduceCtorEq,ND,place,NA,Nat.reduceAdd,Nat.reduceLeDiff,NE,Int.reduceEq,Int.reduceLT,Int.reduceLE]
     refine g ?_
     rw [A,Ni (by omega)]
    have w2:IntKind.i64.wrap (2+(SI x y:Int))=((2+SI x y:Nat):Int):=by rw [QP (by omega) (by omega)];omega
    rw [f] at e t
    obtain ⟨p1,c1,e1,s1,_,_,z1⟩:=T9 (vlo:=some (Vi 2)) (vhi:=some (Vi ((2+SI x y:Nat):Int))) (lo:=2) (hi:=2+SI x y) hS e Rt (fun cap e=>by rw [Neo (by omega) (by omega) (by simp at e;omega)];simp;omega) (by omega) (by simp;omega) (by simp;omega)
    obtain ⟨p2,B,e2,Y,k2,_,_⟩:=T9 (vlo:=some (Vi ((2+SI x y:Nat):Int))) (vhi:=none) (lo:=2+SI x y) (hi:=r.length+2) hS e Rt (fun cap e=>by rw [Z6 (by omega) (by simp;omega)];simp;omega) (by omega) (by simp) (by simp;omega)
    rw [show ((x::y::r).take (2+SI x y)).drop 2=r.take (SI x y) by rw [show 2+SI x y=SI x y+1+1 by omega];rfl] at s1
    rw [show ((x::y::r).take (r.length+2)).drop (2+SI x y)=r.drop (SI x y) by rw [N9 (by simp),show 2+SI x y=SI x y+1+1 by omega];rfl] at Y
    have ln:(r.take (SI x y)).length=SI x y:=by simp;omega
    have u:(r.drop (SI x y)).length=r.length+2-(2+SI x y):=by simp;omega
    have F:=fun X=>Nws (c:=c1) ((m.sl s1 (by simp)).app X) (fun _ a ha=>by
     have h0:=z1 (by simp) a ha
     obtain ⟨b',o,sp⟩:=a
     rw [NW] at h0⊢
     cases hh:NF H b' with
     | cells ro cs=>rw [hh] at h0;rw [(QL.refl.app).cells (m.cells hh (by simp))];exact h0
     | _=>rw [hh] at h0;cases h0)
    rw [ln] at F
    rw [f,Pi] at e1
    rw [f,<-u] at e2
    obtain ⟨G2,J,S,P,_⟩:=R.step (lim':=lim) (bytes:=16) hl Rm (by decide) (⟨(r.take (SI x y)).toArray⟩:ByteArray) (by unfold PS;omega) (by omega) m.len [Vc (SE ⟨(r.take (SI x y)).toArray⟩)] G.length 1 (by rw [NU];rfl)
    simp only [SE] at J
    simp only [n69,r69,v,w,M,N,d,i0,U,l0,l1,V,W,O,Z,j,h2,w2,e1,e2,F,J,SB,Nat.reduceLT,NC,NH,Nat.reduceEqDiff,NG,NQ,reduceCtorEq,ND,place,NA,Nat.reduceAdd,Nat.reduceLeDiff,NE,Int.reduceEq,Int.reduceLT,Int.reduceLE]
    refine hN ((p2,B),(Sa (G.length+1),loose 1),r.drop (SI x y),out++[⟨(r.take (SI x y)).toArray⟩]) _ _ ⟨(by simp only [FB,Nat.reduceEqDiff]),(by simp only [Nj,Nm,Nn,FB,Nat.reduceEqDiff]),P _ _ (Nd _) m,Y, ?_,S, ?_, ?_, ?_⟩ ?_
    ·show Uo 1 B (r.drop (SI x y)).length
     rw [u];exact k2
    ·show (out++[_]).length<=100
     simp;omega
    ·show (r.drop (SI x y)).length<=b.length
     rw [u];omega
    ·show UL 100 b=(UL (100-(out++[_]).length) (r.drop (SI x y))).map ((out++[_])++·)
     rw [hp,A,Nk (by omega),Option.map_map,Nj]
     congr 1
     funext l
     simp
    ·show (r.drop (SI x y)).length<(x::y::r).length
     rw [u,f];omega
structure SecAt (H:NB) (a:Addr) (s:QY):Prop where
 spot:a.spot=none
 cells:AM.loadCells H a 32=some (Sk s)
theorem XL {H G:NB} {a:Addr} {n:Nat} {c:List Value} (h:AM.loadCells H a n=some c) (b:NF G a.block=NF H a.block):AM.loadCells G a n=some c:=by
 unfold AM.loadCells at h⊢
 rw [b];exact h
theorem YN {H:NB} {a:Addr} {n:Nat} {c:List Value} (h:AM.loadCells H a n=some c):a.block<H.length:=by
 unfold AM.loadCells at h
 split at h
 ·rename_i hb;exact NJ hb
 ·cases h
theorem SecAt.app {H:NB} {a:Addr} {s:QY} (h:SecAt H a s) (X:NB):SecAt (H++X) a s:=⟨h.spot,XL h.cells (NZ (YN h.cells))⟩
theorem SecAt.chg {A:List Nat} {H G:NB} {a:Addr} {s:QY} (h:SecAt H a s) (hc:Chg A H G) (b:a.block∉A):SecAt G a s:=⟨h.spot,XL h.cells (hc.other _ (YN h.cells) b)⟩
theorem Nm4 (s:QY):Sk s=s.toList.flatMap Uf:=by
 unfold Sk
 induction s.toList with
 | nil=>rfl
 | cons b l ih=>rw [Of,Oh,ih];rfl
theorem Xp (s:QY):s.toList.length=32:=by simp
theorem SecAt.sl {H:NB} {a:Addr} {s:QY} (h:SecAt H a s):Sl H Uf 1 (some a) s.toList:=Sl.of_load h.spot Rt (by rw [Xp,<-Nm4];exact h.cells)
theorem SecAt.cell {H:NB} {a:Addr} {s:QY} (h:SecAt H a s) {i:Nat} (hi:i<32):AM.loadCell H (a.add i)=some (.int .u8 (gt s.toList i).toNat):=by
 have h1:=h.sl.loadCell0 Rt (i:=i) (by rw [Xp];exact hi) (by decide)
 simp only [WA,addrOf,Oj,N8] at h1
 exact h1.trans rfl
theorem SecAt.of_elt {H:NB} {p:Option Addr} {l:List QY} (h:Sl H Sk 32 p l) {i:Nat} (hi:i<l.length):SecAt H (WA p 32 i) (gt l i):=by
 refine ⟨?_,h.loadCells RS hi⟩
 obtain ⟨a,rfl⟩:=h.some (by rintro rfl;simp at hi)
 exact Nnp h.1
theorem SecAt.row {H:NB} {R:Nat} {ro:Bool} {s:QY} (h:NF H R=.cells ro (Sk s)):SecAt H ⟨R,0,none⟩ s:=⟨rfl,by rw [NW,h];simp [RS,U8]⟩
def numOf (l:List UInt8):Nat:=l.foldl (fun n b=>n*256+b.toNat) 0
def Ri (s:QY) (at':Nat):Nat:=numOf ((s.toList.drop at').take 4)
theorem Nio {l:List UInt8} {b:UInt8}:numOf (l++[b])=numOf l*256+b.toNat:=by simp [numOf]
theorem Ngb (l:List UInt8):numOf l<256 ^ l.length:=by
 have key:∀(l:List UInt8) (n:Nat),l.foldl (fun n b=>n*256+b.toNat) n<(n+1)*256 ^ l.length:=by
  intro l
  induction l with
  | nil=>intro n;simp
  | cons b l ih=>
    intro n
    have h1:=ih (n*256+b.toNat)
    have h2:=b.toNat_lt
    have a:(n*256+b.toNat+1)*256 ^ l.length<=((n+1)*256)*256 ^ l.length:=Om _ (by omega)
    rw [O9,Nm,Nat.pow_succ,Nat.mul_comm (256 ^ l.length) 256,<-Nat.mul_assoc]
    omega
 have:=key l 0
 simpa [numOf] using this
theorem Yj [OA] {mp:Bool} {lim n:Nat} {a:Addr} {s:QY} {H:NB} {Q:Value->NB->Prop} (h:SecAt H a s) (hn:n+4<=32) :
  NP E mp lim 120 [.pointer (some a),Vi n] H Q=Q (Vi (Ri s n:Int)) H:=by
 refine pc (by decide) Nze rfl rfl ?_
 rw [Nz8,Nwj]
 have z:IntKind.i64.wrap ((n:Int)+4)=((n+4:Nat):Int):=by rw [QP (by omega) (by omega)];omega
 have hc:=U9 (n:=32) (e:=1) (a:=a) (lo:=n) (hi:=n+4) (vlo:=some (Vi n)) (vhi:=some (Vi ((n+4:Nat):Int))) (by rw [Neo (by omega) (by omega) (by omega)];simp;omega) (by decide) (by omega)
 rw [N8,Pi] at hc
 simp only [n120,Nvb,z,hc,SB,Nat.reduceLT,NC,NH,Nat.reduceEqDiff,NG,NQ,reduceCtorEq,ND,place,NA,Nat.reduceAdd,Nat.reduceLeDiff,NE,Int.reduceEq,Int.reduceLT,Int.reduceLE]
 have j:Sl H Uf 1 (some (a.add n)) ((s.toList.take (n+4)).drop n):=by
  have:=h.sl.sub Rt (lo:=n) (hi:=n+4) (by omega) (by rw [Xp];exact hn)
  rwa [N8] at this
 have hl:(s.toList.take (n+4)).drop n=(s.toList.drop n).take 4:=by rw [List.drop_take,Pi]
 rw [hl] at j
 have d:((s.toList.drop n).take 4).length=4:=by simp;omega
 unfold Ri
 generalize (s.toList.drop n).take 4=l at j d
 refine QC (fun i=>4-i) (fun i fr G=>i<=4/\fr 5=Vi (numOf (l.take i):Int)/\fr 13=.slice (some (a.add n)) 4 (32-n)/\fr 14=Vi 4/\fr 15=Vi i/\QL H G) 0
  ⟨N5 _,by rfl,(by simp only [FB,Nat.reduceEqDiff]),(by simp only [FB,Nat.reduceEqDiff]),by rfl,QL.refl.app⟩ ?_
 intro i fr G ⟨hi,p,f,g,m,t⟩ w
 rw [QF Nq3.eq_1]
 refine NI ?_
 by_cases x:i<4
 ·have o:(i:Int)<4:=by omega
  have u:=t.sl j
  have q:=fun X=>(u.app X).loadCell0 Rt (i:=i) (by omega) (by decide)
  have b:=fun c (k:IntKind) (H1:NB)=>u.idx (c:=c) (k:=k) (H1:=H1) (i:=i) (by omega)
  rw [d] at b
  have r:IntKind.i64.wrap ((i:Int)+1)=((i+1:Nat):Int):=Ra (by omega)
  have v:numOf (l.take i)<2 ^ 32:=by
   have h1:=Ngb (l.take i)
   have h2:(l.take i).length<=4:=by simp;omega
   have C:256 ^ (l.take i).length<=256 ^ 4:=Nat.pow_le_pow_right (by decide) h2
   omega
  have B:=Nkd (n:=numOf (l.take i)) (y:=gt l i) (by omega)
  have A:IntKind.i64.wrap ((gt l i).toNat:Int)=((gt l i).toNat:Int):=by
   have:=(gt l i).toNat_lt
   exact QP (by omega) (by omega)
  simp only [n120,Nvb,p,f,g,m,o,b,q,Nv2,A,B,r,SB,Nat.reduceLT,NC,NH,Nat.reduceEqDiff,NG,NQ,reduceCtorEq,ND,place,NA,Nat.reduceAdd,Nat.reduceLeDiff,NE,Int.reduceEq,Int.reduceLT,Int.reduceLE]
  exact w (i+1) _ _ ⟨by omega,by rw [TY (by omega),Nio];exact (by simp only [FB,Nat.reduceEqDiff]),(by simp only [f,FB,Nat.reduceEqDiff]),(by simp only [g,FB,Nat.reduceEqDiff]),(by simp only [FB,Nat.reduceEqDiff]),t.app⟩ (by omega)
 obtain rfl:i=4:=by omega
 rw [N9 (by omega)] at p
 simp only [n120,Nvb,p,f,g,m,SB,Nat.reduceLT,NC,NH,Nat.reduceEqDiff,NG,NQ,reduceCtorEq,ND,place,NA,Nat.reduceAdd,Nat.reduceLeDiff,NE,Int.reduceEq,Int.reduceLT,Int.reduceLE]
theorem Naw [OA] {mp:Bool} {lim:Nat} {a:Addr} {s:QY} {H:NB} {Q:Value->NB->Prop} (h:SecAt H a s) :
  NP E mp lim 121 [.pointer (some a)] H Q=Q (.int .u8 (gt s.toList 12).toNat) H:=by
 refine pc (by decide) Nzd rfl rfl ?_
 rw [Nz7,Nwi]
 have hc:=fun X=>(h.app X).cell (i:=12) (by decide)
 simp only [n121,Nyj,hc,N8,Int.reduceToNat,SB,Nat.reduceLT,NC,NH,Nat.reduceEqDiff,NG,NQ,reduceCtorEq,ND,place,NA,Nat.reduceAdd,Nat.reduceLeDiff,NE,Int.reduceEq,Int.reduceLT,Int.reduceLE]
def fl (s:QY):Nat:=(gt s.toList 12).toNat
def ln (s:QY):Nat:=(gt s.toList 13).toNat
def QH (s:QY) (n:Nat):Bool:=
 decide (1<=Ri s 0/\Ri s 0<=1073741824/\1<=Ri s 4/\Ri s 4<=1073741824/\Ri s 8=n/\fl s<=3/\ln s<=18/\(fl s<2->ln s=18))&&decide (s.toList.drop (14+ln s)=List.replicate (18-ln s) 0)
theorem Nxu {f:Nat} (h:f<=3):(IntKind.u8.wrap ((BitVec.ofInt IntKind.u8.bits (f:Int) &&& BitVec.ofInt IntKind.u8.bits 2).toNat:Int)=0)=(f<2):=by
 have:f=0\/f=1\/f=2\/f=3:=by omega
 rcases this with rfl | rfl | rfl | rfl<;>simp<;>decide
theorem Nyv {a b:List UInt8} (e:a.length=18) (hb:b.length=18):VM (.agg [.int .u8,.int .u8,.int .u8,.int .u8,.int .u8,.int .u8,.int .u8,.int .u8,.int .u8,.int .u8,.int .u8,.int .u8,.int .u8,.int .u8,.int .u8,.int .u8,.int .u8,.int .u8]) (.agg (a.map u8).toArray) (.agg (b.map u8).toArray)=some (decide (a=b)):=by
 show PR (List.replicate 18 (.int .u8)) (a.map u8) (b.map u8)=_
 obtain ⟨t,h1,h2⟩:=Mg (.int .u8) 18 (a.map u8) (b.map u8) (by simpa using e) (by simpa using hb) (by
  intro x c y d
  simp only [List.mem_map] at c d
  obtain ⟨x,_,rfl⟩:=c
  obtain ⟨y,_,rfl⟩:=d
  refine ⟨_,rfl, ?_⟩
  rw [beq_iff_eq,No2]
  constructor
  ·intro h;exact UInt8.toNat_inj.1 (by omega)
  ·rintro rfl;rfl)
 rw [h1]
 congr 1
 rw [Q1,h2,Nx]
 constructor
 ·intro h
  apply O4 (by omega)
  intro i f g
  have:=Qn (fun l=>l[i]?) h
  simpa [Nf f,Nf g,No2] using this
 ·rintro rfl;rfl
theorem Yw (n:Nat):List.replicate n (Value.int .u8 0)=(List.replicate n (0:UInt8)).map u8:=by simp [u8]
theorem Nlc {lim:Nat} {a:Addr} {s:QY} {H:NB} (h:SecAt H a s) (hl:ln s<18) (f:lim<=H.length) {c:Nat} :
  copyV lim 1 (.slice (Sa H.length) 18 18) (.slice (some (a.add (14+ln s))) (32-(14+ln s)) c) (H++[Vc (List.replicate 18 (.int .u8 0))])=some (Vi ((18-ln s:Nat):Int),H++[Vc ((s.toList.drop (14+ln s)++List.replicate (ln s) 0).map u8)]):=by
 have e:=(h.app [Vc (List.replicate 18 (.int .u8 0))]).sl.sub Rt (lo:=14+ln s) (hi:=32) (by omega) (by rw [Xp];exact Nd _)
 rw [N9 (by rw [Xp];exact Nd _),N8] at e
 have d:(s.toList.drop (14+ln s)).length=18-ln s:=by simp;omega
 obtain ⟨a',e1,e2⟩:=e.cells (by intro h;rw [h] at d;simp at d;omega)
 cases e1
 rw [d,N8] at e2
 have i:(s.toList.drop (14+ln s)).flatMap Uf=(s.toList.drop (14+ln s)).map u8:=by
  induction s.toList.drop (14+ln s) with
  | nil=>rfl
  | cons b l ih=>rw [Of,Oh,ih];rfl
 rw [i] at e2
 have h0:¬18-ln s=0:=by omega
 simp only [copyV,lenOf,show 32-(14+ln s)=18-ln s by omega,Pd (show 18-ln s<=18 by omega),RL,N8,e2,h0,if_false]
 have g:=XX ((s.toList.drop (14+ln s)).map u8) [] (List.replicate (18-ln s) (.int .u8 0)) (List.replicate (ln s) (.int .u8 0)) (by simp;omega)
 rw [N6,N6,P1,show 18-ln s+ln s=18 by omega,Nn] at g
 simp only [RQ,NU,List.getD_cons_zero]
 rw [Nk ⟨f,by simp;omega⟩,g,Y6,Pw,Pu,<-Yw]
 rfl
theorem Ncy [OA] {mp:Bool} {lim n:Nat} {a:Addr} {s:QY} {H:NB} {Q:Value->NB->Prop} (h:SecAt H a s) (hn:n<2 ^ 40) :
  NP E mp lim 119 [.pointer (some a),Vi n] H Q=Q (.bool (QH s n)) H:=by
 refine pc (by decide) Nzf rfl rfl ?_
 rw [Nz9,c119]
 have A:=fun X=>h.app X
 have g:=fun X (mp:Bool) (lim:Nat) (Q:Value->NB->Prop)=>Yj (mp:=mp) (lim:=lim) (Q:=Q) (n:=0) (A X) (by decide)
 have j:=fun X (mp:Bool) (lim:Nat) (Q:Value->NB->Prop)=>Yj (mp:=mp) (lim:=lim) (Q:=Q) (n:=4) (A X) (by decide)
 have k:=fun X (mp:Bool) (lim:Nat) (Q:Value->NB->Prop)=>Yj (mp:=mp) (lim:=lim) (Q:=Q) (n:=8) (A X) (by decide)
 have m:∀X (mp:Bool) (lim:Nat) (Q:Value->NB->Prop),NP E mp lim 121 [.pointer (some a)] (H++X) Q=Q (.int .u8 (fl s:Int)) (H++X):=fun X mp lim Q=>Naw (A X)
 simp only [N4] at g j k
 have hc:=fun X=>(A X).cell (i:=13) (by decide)
 have hb:=(gt s.toList 13).toNat_lt
 have r:IntKind.i64.wrap ((gt s.toList 13).toNat:Int)=(ln s:Int):=QP (by omega) (by omega)
 have no:∀p:Prop,(p->QH s n=false)->p->Value.bool false=Value.bool (QH s n):=fun p h hp=>by rw [h hp]
 by_cases h1:(Ri s 0:Int)<1
 ·simp only [n119,MZ,g,j,k,m,hc,r,N8,Int.reduceToNat,h1,SB,Nat.reduceLT,NC,NH,Nat.reduceEqDiff,NG,NQ,reduceCtorEq,ND,place,NA,Nat.reduceAdd,Nat.reduceLeDiff,NE,Int.reduceEq,Int.reduceLT,Int.reduceLE]
  exact no _ (fun h=>by simp only [QH,Bool.and_eq_false_iff,decide_eq_false_iff_not];left;omega) h1
 by_cases h2:(1073741824:Int)<(Ri s 0:Int)
 ·simp only [n119,MZ,g,j,k,m,hc,r,N8,Int.reduceToNat,h1,h2,SB,Nat.reduceLT,NC,NH,Nat.reduceEqDiff,NG,NQ,reduceCtorEq,ND,place,NA,Nat.reduceAdd,Nat.reduceLeDiff,NE,Int.reduceEq,Int.reduceLT,Int.reduceLE]
  exact no _ (fun h=>by simp only [QH,Bool.and_eq_false_iff,decide_eq_false_iff_not];left;omega) h2
 by_cases t:(Ri s 4:Int)<1
 ·simp only [n119,MZ,g,j,k,m,hc,r,N8,Int.reduceToNat,h1,h2,t,SB,Nat.reduceLT,NC,NH,Nat.reduceEqDiff,NG,NQ,reduceCtorEq,ND,place,NA,Nat.reduceAdd,Nat.reduceLeDiff,NE,Int.reduceEq,Int.reduceLT,Int.reduceLE]
  exact no _ (fun h=>by simp only [QH,Bool.and_eq_false_iff,decide_eq_false_iff_not];left;omega) t
 by_cases u:(1073741824:Int)<(Ri s 4:Int)
 ·simp only [n119,MZ,g,j,k,m,hc,r,N8,Int.reduceToNat,h1,h2,t,u,SB,Nat.reduceLT,NC,NH,Nat.reduceEqDiff,NG,NQ,reduceCtorEq,ND,place,NA,Nat.reduceAdd,Nat.reduceLeDiff,NE,Int.reduceEq,Int.reduceLT,Int.reduceLE]
  exact no _ (fun h=>by simp only [QH,Bool.and_eq_false_iff,decide_eq_false_iff_not];left;omega) u
 by_cases I:Ri s 8=n
 case neg=>
  simp only [n119,MZ,g,j,k,m,hc,r,N8,Int.reduceToNat,h1,h2,t,u,I,SB,Nat.reduceLT,NC,NH,Nat.reduceEqDiff,NG,NQ,reduceCtorEq,ND,place,NA,Nat.reduceAdd,Nat.reduceLeDiff,NE,Int.reduceEq,Int.reduceLT,Int.reduceLE]
  exact no _ (fun h=>by simp only [QH,Bool.and_eq_false_iff,decide_eq_false_iff_not];left;omega) I
 have d:=Py I
 by_cases x:(3:Int)<(fl s:Int)
 ·simp only [n119,MZ,g,j,k,m,hc,r,N8,Int.reduceToNat,h1,h2,t,u,d,x,SB,Nat.reduceLT,NC,NH,Nat.reduceEqDiff,NG,NQ,reduceCtorEq,ND,place,NA,Nat.reduceAdd,Nat.reduceLeDiff,NE,Int.reduceEq,Int.reduceLT,Int.reduceLE]
  exact no _ (fun h=>by simp only [QH,Bool.and_eq_false_iff,decide_eq_false_iff_not];left;omega) x
 by_cases z:(18:Int)<(ln s:Int)
 ·simp only [n119,MZ,g,j,k,m,hc,r,N8,Int.reduceToNat,h1,h2,t,u,d,x,z,SB,Nat.reduceLT,NC,NH,Nat.reduceEqDiff,NG,NQ,reduceCtorEq,ND,place,NA,Nat.reduceAdd,Nat.reduceLeDiff,NE,Int.reduceEq,Int.reduceLT,Int.reduceLE]
  exact no _ (fun h=>by simp only [QH,Bool.and_eq_false_iff,decide_eq_false_iff_not];left;omega) z
 have v:=Nxu (f:=fl s) (by omega)
 have e18:((ln s:Int)=18)=(ln s=18):=by apply propext;omega
 by_cases F:fl s<2/\¬ln s=18
 ·simp only [n119,MZ,g,j,k,m,hc,r,N8,Int.reduceToNat,h1,h2,t,u,d,x,z,v,e18,F.1,F.2,SB,Nat.reduceLT,NC,NH,Nat.reduceEqDiff,NG,NQ,reduceCtorEq,ND,place,NA,Nat.reduceAdd,Nat.reduceLeDiff,NE,Int.reduceEq,Int.reduceLT,Int.reduceLE]
  exact no _ (fun h=>by simp only [QH,Bool.and_eq_false_iff,decide_eq_false_iff_not];left;omega) F
 have M:QH s n=decide (s.toList.drop (14+ln s)=List.replicate (18-ln s) 0):=by
  unfold QH
  rw [Oe (by omega),Bool.true_and]
 rw [M]
 have N:IntKind.i64.wrap (14+(ln s:Int))=((14+ln s:Nat):Int):=by rw [QP (by omega) (by omega)];omega
 have s1:∀b:Nat,U3 18 1 (Vp b) none none none=some (.slice (Sa b) 18 18):=fun b=>by
  have:=U9 (n:=18) (e:=1) (a:=⟨b,0,none⟩) (lo:=0) (hi:=18) (vlo:=none) (vhi:=none) Nwr (by decide) (by decide)
  rw [this];simp [addr_add]
 have B:∀l:List UInt8,l.length=18->VM (.agg [.int .u8,.int .u8,.int .u8,.int .u8,.int .u8,.int .u8,.int .u8,.int .u8,.int .u8,.int .u8,.int .u8,.int .u8,.int .u8,.int .u8,.int .u8,.int .u8,.int .u8,.int .u8]) (.agg (l.map u8).toArray) (.agg [.int .u8 0,.int .u8 0,.int .u8 0,.int .u8 0,.int .u8 0,.int .u8 0,.int .u8 0,.int .u8 0,.int .u8 0,.int .u8 0,.int .u8 0,.int .u8 0,.int .u8 0,.int .u8 0,.int .u8 0,.int .u8 0,.int .u8 0,.int .u8 0].toArray)=some (decide (l=List.replicate 18 0)):=fun l hl=>Nyv (b:=List.replicate 18 0) hl rfl
 have L:∀l:List UInt8,l.length=18->(l.map u8).length=18:=fun l hl=>by simpa using hl
 by_cases o:ln s=18
 ·have w:IntKind.i64.wrap (14+18)=32:=by decide
  have D:U3 32 1 (.pointer (some a)) (some (Vi 32)) none none=some (.slice (some a) 0 0):=by
   simp only [U3,O5,Ns,Nbd,unV,Z6 (k1:=.i64) (l:=32) (len:=32) (cap:=32) (by decide) (by decide)]
   rfl
  have cp:∀b H1,copyV H.length 1 (.slice (Sa b) 18 18) (.slice (some a) 0 0) H1=(RL H1 1 0 (.slice (some a) 0 0)).map fun _=>(Vi 0,H1):=fun b H1=>by
   simp only [copyV,lenOf,Nat.zero_min]
   cases RL H1 1 0 (.slice (some a) 0 0)<;>rfl
  have cc:∀X,AM.loadCells (H++X) a 0=some []:=fun X=>by
   have:=(A X).cells
   unfold AM.loadCells at this⊢
   split at this
   ·rename_i ro c T
    split at this
    ·rw [Nk (by omega)];rfl
    ·cases this
   ·cases this
  have G:=B (List.replicate 18 0) rfl
  rw [<-Yw] at G
  have O:List.replicate 18 (Value.int .u8 0)=[.int .u8 0,.int .u8 0,.int .u8 0,.int .u8 0,.int .u8 0,.int .u8 0,.int .u8 0,.int .u8 0,.int .u8 0,.int .u8 0,.int .u8 0,.int .u8 0,.int .u8 0,.int .u8 0,.int .u8 0,.int .u8 0,.int .u8 0,.int .u8 0]:=rfl
  rw [O] at G
  have S:s.toList.drop (14+ln s)=List.replicate (18-ln s) 0:=by rw [o];exact Pv (by simp)
  have e17:Value.int .i64 (ln s:Int)=Vi 18:=by rw [o];rfl
  have R:decide (List.replicate 18 (0:UInt8)=List.replicate 18 0)=true:=by decide
  by_cases P:fl s<2
  ·simp only [n119,MZ,g,j,k,m,hc,r,N8,Int.reduceToNat,h1,h2,t,u,d,x,z,v,Py o,w,s1,D,cp,cc,RL,Ov,e17,P,G,O,R,SB,Nat.reduceLT,NC,NH,Nat.reduceEqDiff,NG,NQ,reduceCtorEq,ND,place,NA,Nat.reduceAdd,Nat.reduceLeDiff,NE,Int.reduceEq,Int.reduceLT,Int.reduceLE]
   rw [S,Oe rfl]
  ·simp only [n119,MZ,g,j,k,m,hc,r,N8,Int.reduceToNat,h1,h2,t,u,d,x,z,v,Py o,w,s1,D,cp,cc,RL,Ov,e17,P,G,O,R,SB,Nat.reduceLT,NC,NH,Nat.reduceEqDiff,NG,NQ,reduceCtorEq,ND,place,NA,Nat.reduceAdd,Nat.reduceLeDiff,NE,Int.reduceEq,Int.reduceLT,Int.reduceLE]
   rw [S,Oe rfl]
 ·have J:¬fl s<2:=fun h=>F ⟨h,o⟩
  have D:=U9 (n:=32) (e:=1) (a:=a) (lo:=14+ln s) (hi:=32) (vlo:=some (Vi ((14+ln s:Nat):Int))) (vhi:=none) (by rw [Z6 (by omega) (by omega),O1]) (by decide) (by omega)
  rw [N8] at D
  have y:=Nlc (c:=32-(14+ln s)) (lim:=H.length) h (by omega) (Nd _)
  rw [show List.replicate 18 (Value.int .u8 0)=[.int .u8 0,.int .u8 0,.int .u8 0,.int .u8 0,.int .u8 0,.int .u8 0,.int .u8 0,.int .u8 0,.int .u8 0,.int .u8 0,.int .u8 0,.int .u8 0,.int .u8 0,.int .u8 0,.int .u8 0,.int .u8 0,.int .u8 0,.int .u8 0] from rfl] at y
  have q:(s.toList.drop (14+ln s)++List.replicate (ln s) 0).length=18:=by simp;omega
  generalize K:s.toList.drop (14+ln s)++List.replicate (ln s) 0=l at y q
  have C:decide (l=List.replicate 18 0)=decide (s.toList.drop (14+ln s)=List.replicate (18-ln s) 0):=by
   rw [decide_eq_decide,<-K]
   constructor
   ·intro h
    have:=Qn (List.take (18-ln s)) h
    rw [List.take_left' (by simp;omega),List.take_replicate,Pd (by omega)] at this
    exact this
   ·intro h
    rw [h,P1]
    congr 1
    omega
  simp only [n119,MZ,g,j,k,m,hc,r,N8,Int.reduceToNat,h1,h2,t,u,d,x,z,v,J,N,s1,D,y,B l q,L l q,U8,C,SB,Nat.reduceLT,NC,NH,Nat.reduceEqDiff,NG,NQ,reduceCtorEq,ND,place,NA,Nat.reduceAdd,Nat.reduceLeDiff,NE,Int.reduceEq,Int.reduceLT,Int.reduceLE]
theorem Nkr [OA] {lim D S sc g:Nat} {sp pp:Option Addr} {safe:List QY} {pend:List Wr} {H:NB} {Q:Value->NB->Prop}
  (j:NF H D=Vc [.slice sp safe.length sc,.slice pp pend.length g]) (d:lim<=D) (hS:safe≠[]->sp=Sa S/\NF H S=Vc (safe.flatMap Sk)/\lim<=S) (c:S≠D)
  (k:Sl H Wj 33 pp pend) (b:∀a,pp=some a->pend≠[]->a.block≠S/\a.block≠D)
  (e:safe.length<2 ^ 60) (f:pend.length<2 ^ 60)
  (l:∀H',Chg [S,D] H H'->NF H' D=Vc [.slice sp safe.length sc,Vz]->(safe≠[]->NF H' S=Vc ((QQ [] pend safe).flatMap Sk))->Q (.tuple #[]) H') :
  NP E false lim 79 [Vp D] H Q:=by
 refine runs (by decide) e79 rfl ?_
 rw [b79,c79]
 simp only [n79,r79,SB,Nat.reduceLT,NC,NH,Nat.reduceEqDiff,NG,NQ,reduceCtorEq,ND,place,NA,Nat.reduceAdd,Nat.reduceLeDiff,NE,Int.reduceEq,Int.reduceLT,Int.reduceLE]
 refine Nhg (lost:=[]) ((QL.refl.app (X:=[])).cells j) d (fun h=>⟨(hS h).1,(QL.refl.app (X:=[])).cells (hS h).2.1,(hS h).2.2⟩) c (k.app _) b rfl (fun a h=>by cases h) e f (by decide) rfl fun H' h1 h2 i=>?_
 refine NI ?_
 simp only [n79,r79,SB,Nat.reduceLT,NC,NH,Nat.reduceEqDiff,NG,NQ,reduceCtorEq,ND,place,NA,Nat.reduceAdd,Nat.reduceLeDiff,NE,Int.reduceEq,Int.reduceLT,Int.reduceLE]
 exact l _ (by rw [Nb] at h1⊢;exact h1) (by rw [Nb];exact h2) (by rw [Nb];exact i)
def U5 (m:Int) (i:Nat):Bool:=decide (IntKind.u64.wrap ((BitVec.ofInt IntKind.u64.bits (Int.fdiv m (2 ^ min (i % 64) IntKind.u64.bits)) &&& BitVec.ofInt IntKind.u64.bits 1).toNat:Int)=1)
theorem Niw {m:Int} {i:Nat}:decide (IntKind.u64.wrap ((BitVec.ofInt IntKind.u64.bits (Int.fdiv m (2 ^ min (i % 64) IntKind.u64.bits)) &&& BitVec.ofInt IntKind.u64.bits 1).toNat:Int)=1)=U5 m i:=rfl
def WW (m:Int) (n:Nat):List Bool:=(List.range n).map (U5 m)
theorem Niv {m:Int} {n:Nat}:WW m (n+1)=WW m n++[U5 m n]:=by simp [WW,List.range_succ]
theorem UZ {m:Int} {n:Nat}:(WW m n).length=n:=by simp [WW]
def Xi (n i:Nat):UInt8:=UInt8.ofNat (n / 2 ^ (24-8*i))
def Um (l:List UInt8) (at' n:Nat):Nat->List UInt8
 | 0=>l
 | i+1=>(Um l at' n i).set (at'+i) (Xi n i)
theorem Tq {l:List UInt8} {at' n:Nat}:∀i,(Um l at' n i).length=l.length
 | 0=>rfl
 | i+1=>by rw [Um,Pz,Tq i]
theorem Nr4 {n i:Nat} (hi:i<4):Value.int .u8 (IntKind.u8.wrap (Int.fdiv (n:Int) (2 ^ min (24-8*i) IntKind.i64.bits)))=u8 (Xi n i):=by
 have e:Int.fdiv (n:Int) (2 ^ min (24-8*i) IntKind.i64.bits)=((n / 2 ^ (24-8*i):Nat):Int):=by
  rw [show min (24-8*i) IntKind.i64.bits=24-8*i from Pd (by show 24-8*i<=64;omega),Q3 _ (by exact_mod_cast N5 _)]
  norm_cast
 rw [e]
 simp only [u8,Xi,Value.int.injEq,Qr,UInt8.toNat_ofNat']
 simp only [IntKind.wrap,IntKind.bits,IntKind.signed]
 simp
theorem Niu {l:List UInt8} {i:Nat} {b:UInt8}:(l.set i b).map u8=(l.map u8).set i (u8 b):=List.map_set
theorem Nh2 [OA] {lim R at' n:Nat} {l:List UInt8} {H:NB} {Q:Value->NB->Prop} (y:NF H R=Vc (l.map u8)) (hl:l.length=32) (d:lim<=R) (D:at'+4<=32)
  (B:∀H',Chg [R] H H'->H'.length=H.length->NF H' R=Vc ((Um l at' n 4).map u8)->Q (.tuple #[]) (H'++[])) :
  NP E false lim 123 [Vp R,Vi at',Vi n] H Q:=by
 refine runs (by decide) Nzb rfl ?_
 rw [Nz5,Nwg]
 simp only [n123,Nva,SB,Nat.reduceLT,NC,NH,Nat.reduceEqDiff,NG,NQ,reduceCtorEq,ND,place,NA,Nat.reduceAdd,Nat.reduceLeDiff,NE,Int.reduceEq,Int.reduceLT,Int.reduceLE]
 have C:=NJ y
 refine QC (fun i=>4-i) (fun i fr G=>i<=4/\fr 0=Vp R/\fr 1=Vi at'/\fr 2=Vi n/\fr 7=Vi i/\Chg [R] H G/\G.length=H.length/\NF G R=Vc ((Um l at' n i).map u8)) 0
  ⟨N5 _,(by simp only [FB,Nat.reduceEqDiff]),(by simp only [FB,Nat.reduceEqDiff]),(by simp only [FB,Nat.reduceEqDiff]),by rfl,by rw [Nb];exact Chg.refl,by simp,by rw [Nb];exact y⟩ ?_
 intro i fr G ⟨hi,g,h,j,w,x,c,p⟩ A
 rw [QF Nq2.eq_1]
 refine NI ?_
 by_cases s:i<4
 ·have e:(i:Int)<4:=by omega
  have u:IntKind.i64.wrap ((i:Int)+1)=((i+1:Nat):Int):=Ra (by omega)
  have F:IntKind.i64.wrap ((at':Int)+(i:Int))=((at'+i:Nat):Int):=by rw [QP (by omega) (by omega)];omega
  have w8:IntKind.i64.wrap (8*(i:Int))=((8*i:Nat):Int):=by rw [QP (by omega) (by omega)];omega
  have v:IntKind.i64.wrap (24-((8*i:Nat):Int))=((24-8*i:Nat):Int):=by rw [QP (by omega) (by omega)];omega
  have hb:=Nr4 (n:=n) s
  obtain ⟨G',f,m,z⟩:=RN (NJ p) (Vc ((Um l at' n (i+1)).map u8))
  have q:=fun X=>(QL.refl.app (X:=X)).cells p
  have t:((Um l at' n i).map u8).length=32:=by rw [Nz,Tq,hl]
  have r:((at'+i:Nat):Int)<32:=by omega
  have k:at'+(i+1)<=32:=by omega
  have a:((Um l at' n i).map u8).set (at'+i) (u8 (Xi n i))=(Um l at' n (i+1)).map u8:=by rw [Um,Niu]
  have o:IntKind.u8.wrap (Int.fdiv (n:Int) (2 ^ min (24-8*i) IntKind.i64.bits))=((Xi n i).toNat:Int):=by
   simpa only [u8,Value.int.injEq,Qr] using hb
  have b:((Um l at' n i).map u8).set (at'+i) (.int .u8 (Xi n i).toNat)=(Um l at' n (i+1)).map u8:=a
  simp only [n123,Nva,g,h,j,w,e,u,F,w8,v,o,q,r,N8,t,k,b,f,d,Nqm,SB,Nat.reduceLT,NC,NH,Nat.reduceEqDiff,NG,NQ,reduceCtorEq,ND,place,NA,Nat.reduceAdd,Nat.reduceLeDiff,NE,Int.reduceEq,Int.reduceLT,Int.reduceLE]
  exact A (i+1) _ _ ⟨by omega,(by simp only [g,FB,Nat.reduceEqDiff]),(by simp only [h,FB,Nat.reduceEqDiff]),(by simp only [j,FB,Nat.reduceEqDiff]),(by simp only [FB,Nat.reduceEqDiff]),(x.mut z (.inl (by simp))).app,by simp [z.len,c],(QL.refl.app).cells m⟩ (by omega)
 obtain rfl:i=4:=by omega
 simp only [n123,Nva,g,h,j,w,SB,Nat.reduceLT,NC,NH,Nat.reduceEqDiff,NG,NQ,reduceCtorEq,ND,place,NA,Nat.reduceAdd,Nat.reduceLeDiff,NE,Int.reduceEq,Int.reduceLT,Int.reduceLE]
 exact B G x c p
def Sn:Nat->Nat->List UInt8->List (Nat×List UInt8)
 | 0,_,_=>[]
 | f+1,fl,b=>if b.length<=18 then [(fl+2,b)] else (fl,b.take 18)::Sn f 0 (b.drop 18)
def W9 (b:List UInt8):List (Nat×List UInt8):=Sn (b.length+1) 1 b
def Uu (x:Nat×List UInt8):List UInt8:=(List.replicate 12 0++[UInt8.ofNat x.1,UInt8.ofNat x.2.length])++x.2++List.replicate (18-x.2.length) 0
theorem UC {x:Nat×List UInt8} (h:x.2.length<=18):(Uu x).length=32:=by simp [Uu];omega
theorem or2 {f:Nat} (h:f<=1):IntKind.u8.wrap ((BitVec.ofInt IntKind.u8.bits (f:Int) ||| BitVec.ofInt IntKind.u8.bits 2).toNat:Int)=((f+2:Nat):Int):=by
 rcases (show f=0\/f=1 by omega) with rfl | rfl<;>decide
theorem Nke {n:Nat}:R7 false (Vi n) [Vi 18]=some (Vi ((min n 18:Nat):Int)):=by
 simp only [R7,V6,if_true,No,if_false]
 split
 ·rw [Nat.min_eq_right (by omega)];rfl
 ·rw [Pd (by omega)]
theorem Nab {lim R c f:Nat} {p:Option Addr} {b:List UInt8} {H:NB} (o:Sl H Uf 1 p b) (q:b=[]->p=none) (hb:b.length<=18) (t:f<=3) (n:NF H R=Vc ((List.replicate 12 (Value.int .u8 0)++[Value.int .u8 (f:Int),Value.int .u8 (b.length:Int)])++List.replicate 18 (.int .u8 0))) (g:lim<=R) :
  copyV lim 1 (.slice (some ⟨R,14,none⟩) 18 18) (.slice p b.length c) H=some (Vi ((b.length:Nat):Int),H.set R (Vc ((Uu (f,b)).map u8))):=by
 have s:=NJ n
 have a:(List.replicate 12 (Value.int .u8 0)++[Value.int .u8 (f:Int),Value.int .u8 (b.length:Int)])=(List.replicate 12 0++[UInt8.ofNat f,UInt8.ofNat b.length]).map u8:=by
  rw [Pu,<-Yw]
  simp only [Of,List.map_nil,u8]
  rw [UInt8.toNat_ofNat_of_lt' (by show f<256;omega),UInt8.toNat_ofNat_of_lt' (by show b.length<256;omega)]
 have r:b.flatMap Uf=b.map u8:=by
  clear o q hb n a
  induction b with
  | nil=>rfl
  | cons x l ih=>rw [Of,Oh,ih];rfl
 have d:=XX (b.map u8) ((List.replicate 12 0++[UInt8.ofNat f,UInt8.ofNat b.length]).map u8) (List.replicate b.length (.int .u8 0)) (List.replicate (18-b.length) (.int .u8 0)) (by simp)
 rw [Nl,P1,show b.length+(18-b.length)=18 by omega,<-a] at d
 have e:(List.replicate 12 (Value.int .u8 0)++[Value.int .u8 (f:Int),Value.int .u8 (b.length:Int)]).length=14:=by simp
 rw [e] at d
 have j:(Uu (f,b)).map u8=(List.replicate 12 (Value.int .u8 0)++[Value.int .u8 (f:Int),Value.int .u8 (b.length:Int)])++b.map u8++List.replicate (18-b.length) (.int .u8 0):=by
  unfold Uu
  rw [Pu,Pu,<-a,<-Yw]
 simp only [copyV,lenOf,Pd hb]
 by_cases hn:b=[]
 ·subst hn
  rw [q rfl]
  have k:(Uu (f,[])).map u8=(List.replicate 12 (Value.int .u8 0)++[Value.int .u8 (f:Int),Value.int .u8 (([]:List UInt8).length:Int)])++List.replicate 18 (.int .u8 0):=by rw [j];simp
  have m:H.set R (Vc ((Uu (f,[])).map u8))=H:=by
   rw [k,<-n]
   apply O4 (by simp)
   intro i h1 h2
   rw [List.getElem_set]
   split
   ·rename_i h;subst h
    have:=We h2
    rw [Nf h2] at this
    exact (Option.some.inj this).symm
   ·rfl
  rw [m]
  simp [RL]
 ·obtain ⟨a',rfl,e2⟩:=o.cells hn
  have h0:¬b.length=0:=fun h=>hn (List.length_eq_zero_iff.1 h)
  rw [r] at e2
  simp only [RL,e2,h0,if_false,RQ,n]
  rw [Nk ⟨g,by simp;omega⟩,d,j]
  rfl
theorem VT {f n:Nat}:((((List.replicate 32 (Value.int .u8 0)).set 12 (.int .u8 (f:Int))).set 13 (.int .u8 (n:Int))))=(List.replicate 12 (Value.int .u8 0)++[Value.int .u8 (f:Int),Value.int .u8 (n:Int)])++List.replicate 18 (.int .u8 0):=rfl
theorem Nfj [OA] {lim Y Bx c:Nat} {p:Option Addr} {b:List UInt8} {H:NB} {Q:Value->NB->Prop} (I:List (Nat×List UInt8)->NB->Prop) (K:List Nat)
  (L:∀rest H H',I rest H->Chg [Bx] H H'->I rest H')
  (l:∀x rest H,x.2.length<=18->x.1<=3->I (x::rest) H->XU E false lim Y [.agg ((Uu x).map u8).toArray] H fun v H'=>v=.bool true/\I rest H'/\H.length<=H'.length/\∀j∈K,NF H' j=NF H j)
  (aa:NF H Bx=Vc [.slice p b.length c]) (O:lim<=Bx) (hK:Bx∈K) (hs:Sl H Uf 1 p b) (hc:Uo 1 c b.length) (Z:b=[]->p=none) (hp:∀a,p=some a->b≠[]->a.block∈K/\a.block≠Bx) (hb:b.length<2 ^ 40)
  (h0:I (W9 b) H) (hQ:∀H',I [] H'->Q (.tuple #[]) H') :
  NP E false lim 153 [.func (.yield Y) #[] #[],Vp Bx] H Q:=by
 refine runs (by decide) Nyz rfl ?_
 rw [Nzt,Nwa]
 simp only [n153,Npl,SB,Nat.reduceLT,NC,NH,Nat.reduceEqDiff,NG,NQ,reduceCtorEq,ND,place,NA,Nat.reduceAdd,Nat.reduceLeDiff,NE,Int.reduceEq,Int.reduceLT,Int.reduceLE]
 refine QC (fun s:(Option Addr×Nat×List UInt8)×Nat×Nat=>s.1.2.2.length) (fun s fr G=>fr 0=.func (.yield Y) #[] #[]/\fr 1=Vp Bx/\fr 3=.int .u8 (s.2.1:Int)/\s.2.1<=1/\NF G Bx=Vc [.slice s.1.1 s.1.2.2.length s.1.2.1]/\Sl G Uf 1 s.1.1 s.1.2.2/\Uo 1 s.1.2.1 s.1.2.2.length/\(s.1.2.2=[]->s.1.1=none)/\
   (∀a,s.1.1=some a->s.1.2.2≠[]->a.block∈K/\a.block≠Bx)/\s.1.2.2.length<s.2.2/\s.1.2.2.length<=b.length/\I (Sn s.2.2 s.2.1 s.1.2.2) G) ((p,c,b),1,b.length+1)
  ⟨(by simp only [FB,Nat.reduceEqDiff]),(by simp only [FB,Nat.reduceEqDiff]),by rfl,Nd _,(QL.refl.app).cells aa,hs.app _,hc,Z,hp,Nat.lt_succ_self _,Nd _,L _ _ _ h0 (Chg.refl.app)⟩ ?_
 rintro ⟨⟨p,c,r⟩,f,u⟩ fr G ⟨C,D,F,hf,gB,hS,d,Z,hp,ac,ad,hi⟩ hN
 simp only at F hf gB hS d Z hp ac ad hi
 rw [QF Nqy.eq_1]
 refine NI ?_
 have m:=fun X=>(QL.refl.app (X:=X)).cells gB
 have ag:=NJ gB
 have o:lim<=G.length:=by omega
 obtain ⟨B,rfl⟩:∃B,u=B+1:=⟨u-1,by omega⟩
 simp only [Sn] at hi
 have wn:∀k:Nat,k<=18->IntKind.u8.wrap (k:Int)=(k:Int):=fun k M=>by
  simp only [IntKind.wrap,IntKind.bits,IntKind.signed]
  simp;omega
 have zz:[Value.int .u8 0,Value.int .u8 0,Value.int .u8 0,Value.int .u8 0,Value.int .u8 0,Value.int .u8 0,Value.int .u8 0,Value.int .u8 0,Value.int .u8 0,Value.int .u8 0,Value.int .u8 0,Value.int .u8 0,Value.int .u8 0,Value.int .u8 0,Value.int .u8 0,Value.int .u8 0,Value.int .u8 0,Value.int .u8 0,Value.int .u8 0,Value.int .u8 0,Value.int .u8 0,Value.int .u8 0,Value.int .u8 0,Value.int .u8 0,Value.int .u8 0,Value.int .u8 0,Value.int .u8 0,Value.int .u8 0,Value.int .u8 0,Value.int .u8 0,Value.int .u8 0,Value.int .u8 0]=List.replicate 32 (Value.int .u8 0):=rfl
 have t:∀b:Nat,U3 32 1 (Vp b) (some (Vi 14)) none none=some (.slice (some ⟨b,14,none⟩) 18 18):=fun b=>by
  have:=U9 (n:=32) (e:=1) (a:=⟨b,0,none⟩) (lo:=14) (hi:=32) (vlo:=some (Vi 14)) (vhi:=none) (by rw [Z6 (by decide) (by decide)];rfl) (by decide) (by decide)
  rw [this];simp [addr_add]
 by_cases i:r.length<=18
 ·rw [Nk i] at hi
  have P:min r.length 18=r.length:=Pd i
  obtain ⟨q,cq,e1,s1,_,m1,_⟩:=T9 (vlo:=none) (vhi:=some (Vi r.length)) (lo:=0) (hi:=r.length) hS d Rt (fun cap d=>by rw [Nep (by omega) (by omega),O1]) (N5 _) (Nd _) (by omega)
  rw [Nat.sub_zero] at e1
  rw [Pn,Og] at s1
  have g:=Nab (lim:=lim) (R:=G.length) (c:=cq) (f:=f+2) (H:=G++[Vc ((List.replicate 12 (Value.int .u8 0)++[Value.int .u8 ((f+2:Nat):Int),Value.int .u8 (r.length:Int)])++List.replicate 18 (.int .u8 0))]) (s1.app _) (fun h=>by
   cases hq:q with
   | none=>rfl
   | some a=>obtain ⟨a',h1,_⟩:=m1 a hq;rw [Z h] at h1;cases h1) i (by omega) (by rw [NU];rfl) o
  rw [Y6,Pw] at g
  simp only [Nl,N1,N6] at g
  have z:((Uu (f+2,r)).map u8).length=32:=by rw [Nz];exact UC i
  simp only [n153,Npl,C,D,F,m,Nke,P,zz,t,decide_true,N8,Int.reduceToNat,Ph,Pz,VT,U8,o,or2 hf,wn _ i,e1,g,z,SB,Nat.reduceLT,NC,NH,Nat.reduceEqDiff,NG,NQ,reduceCtorEq,ND,place,NA,Nat.reduceAdd,Nat.reduceLeDiff,NE,Int.reduceEq,Int.reduceLT,Int.reduceLE]
  refine (l (f+2,r) [] _ i (by show f+2<=3;omega) (L _ _ _ hi Chg.refl.app)).mono fun v H' hv=>?_
  obtain ⟨rfl,y,N,M⟩:=hv
  have w:=fun X=>(QL.refl.app (X:=X)).cells ((M Bx hK).trans (m _))
  refine NI ?_
  simp only [n153,Npl,C,D,F,m,Nke,P,zz,t,decide_true,N8,Int.reduceToNat,Ph,Pz,VT,U8,o,w,SB,Nat.reduceLT,NC,NH,Nat.reduceEqDiff,NG,NQ,reduceCtorEq,ND,place,NA,Nat.reduceAdd,Nat.reduceLeDiff,NE,Int.reduceEq,Int.reduceLT,Int.reduceLE]
  exact hQ _ (L _ _ _ y Chg.refl.app)
 ·rw [Ni i] at hi
  have P:min r.length 18=18:=Nat.min_eq_right (by omega)
  have T:((18:Int)=(r.length:Int))=False:=Q2 (by omega)
  have ae:IntKind.u8.wrap 18=18:=by decide
  have A:(r.take 18).length=18:=by simp;omega
  have W:r≠[]:=by rintro rfl;simp at i
  obtain ⟨q,cq,e1,s1,_,m1,_⟩:=T9 (vlo:=none) (vhi:=some (Vi 18)) (lo:=0) (hi:=18) hS d Rt (fun cap d=>by rw [Nep (by decide) (by omega)];rfl) (N5 _) (by omega) (by omega)
  rw [Nat.sub_zero] at e1
  rw [Og] at s1
  have g:=Nab (lim:=lim) (R:=G.length) (c:=cq) (f:=f) (H:=G++[Vc ((List.replicate 12 (Value.int .u8 0)++[Value.int .u8 (f:Int),Value.int .u8 ((r.take 18).length:Int)])++List.replicate 18 (.int .u8 0))]) (s1.app _) (fun h=>by rw [h] at A;simp at A) (by omega) (by omega) (by rw [NU];rfl) o
  rw [Y6,Pw,A] at g
  have z:((Uu (f,r.take 18)).map u8).length=32:=by rw [Nz];exact UC (by show (r.take 18).length<=18;omega)
  have pb:((((List.replicate 32 (Value.int .u8 0)).set 12 (.int .u8 (f:Int))).set 13 (.int .u8 18)))=(List.replicate 12 (Value.int .u8 0)++[Value.int .u8 (f:Int),Value.int .u8 ((18:Nat):Int)])++List.replicate 18 (.int .u8 0):=rfl
  have ct:((18:Nat):Int)=18:=rfl
  rw [ct] at pb g
  simp only [Nl,N1,N6] at g
  obtain ⟨V,c2,e2,s2,k2,m2,_⟩:=T9 (vlo:=some (Vi 18)) (vhi:=none) (lo:=18) (hi:=r.length) hS d Rt (fun cap d=>by rw [Z6 (by decide) (by omega)];rfl) (by omega) (Nd _) (by omega)
  rw [Pn] at s2
  have ld:(r.drop 18).length=r.length-18:=by simp
  simp only [n153,Npl,C,D,F,m,Nke,P,zz,t,decide_true,N8,Int.reduceToNat,Ph,Pz,VT,U8,o,T,ae,e1,pb,g,z,SB,Nat.reduceLT,NC,NH,Nat.reduceEqDiff,NG,NQ,reduceCtorEq,ND,place,NA,Nat.reduceAdd,Nat.reduceLeDiff,NE,Int.reduceEq,Int.reduceLT,Int.reduceLE]
  refine (l (f,r.take 18) (Sn B 0 (r.drop 18)) _ (by show (r.take 18).length<=18;omega) (by show f<=3;omega) (L _ _ _ hi Chg.refl.app)).mono fun v H' hv=>?_
  obtain ⟨rfl,y,N,M⟩:=hv
  have J:=(M Bx hK).trans (m _)
  have w:=fun X=>(QL.refl.app (X:=X)).cells J
  obtain ⟨G3,U,ab,S⟩:=RN (NJ J) (Vc [.slice V (r.drop 18).length c2])
  refine NI ?_
  rw [<-ld] at e2
  simp only [Nj,Nm,Nn] at N
  simp only [n153,Npl,C,D,F,m,Nke,P,zz,t,decide_true,N8,Int.reduceToNat,Ph,Pz,VT,U8,o,T,w,e2,U,O,SB,Nat.reduceLT,NC,NH,Nat.reduceEqDiff,NG,NQ,reduceCtorEq,ND,place,NA,Nat.reduceAdd,Nat.reduceLeDiff,NE,Int.reduceEq,Int.reduceLT,Int.reduceLE]
  have pK:∀a,V=some a->a.block∈K/\a.block≠Bx:=fun a e=>by
   obtain ⟨a',h1,h2⟩:=m2 a e
   rw [h2];exact hp a' h1 W
  have bl:∀a,V=some a->a.block<G.length:=fun a e=>by
   obtain ⟨a',h1,h2⟩:=m2 a e
   rw [h2];exact (h1▸hS).lt W
  refine hN ((V,c2,r.drop 18),0,B) _ _ ⟨(by simp only [C,FB,Nat.reduceEqDiff]),(by simp only [D,FB,Nat.reduceEqDiff]),by rfl,N5 _,(QL.refl.app).cells ab, ?_, ?_, ?_,fun a e _=>pK a e, ?_, ?_, ?_⟩ ?_
  ·show Sl (G3++[]) Uf 1 V (r.drop 18)
   refine Sl.app (s2.same fun a e hn=>?_) _
   rw [S.other _ (pK a e).2,M _ (pK a e).1,NZ (bl a e)]
  ·show Uo 1 c2 (r.drop 18).length
   rw [ld];exact k2
  ·intro h
   have:(r.drop 18).length=0:=by rw [show r.drop 18=[] from h];rfl
   omega
  ·show (r.drop 18).length<B;omega
  ·show (r.drop 18).length<=b.length;omega
  ·show I (Sn B 0 (r.drop 18)) (G3++[])
   exact L _ _ _ y ((Chg.refl.mut S (.inl (by simp))).app)
  ·show (r.drop 18).length<r.length
   omega
def toS (l:List UInt8):QY:=if h:l.length=32 then ⟨l.toArray,by simpa using h⟩ else Vector.replicate 32 0
theorem Nrz {l:List UInt8} (h:l.length=32):Sk (toS l)=l.map u8:=by
 unfold toS Sk
 rw [dif_pos h]
 rfl
theorem No4 {l:List UInt8} (h:l.length=32):(toS l).toList=l:=by
 unfold toS
 rw [dif_pos h]
 rfl
def Un (e lf n:Nat) (x:Nat×List UInt8):QY:=toS (Um (Um (Um (Uu x) 0 e 4) 4 lf 4) 8 n 4)
def Ru (base e lf:Nat):Nat->List (Nat×List UInt8)->List Wr
 | _,[]=>[]
 | n,x::r=>⟨((base+n:Nat):Int),Un e lf n x⟩::Ru base e lf (n+1) r
theorem Zg {base e lf:Nat}:∀(r:List (Nat×List UInt8)) (n:Nat),(Ru base e lf n r).length=r.length
 | [],_=>rfl
 | x::r,n=>by rw [Ru,Nm,Nm,Zg r]
theorem Ndn [OA] {mp:Bool} {lim D n c:Nat} {sp:Option Addr} {ro:Bool} {r:List Value} {H:NB} {Q:Value->NB->Prop} (b:NF H D=.cells ro (.slice sp n c::r)) (hn:n<2 ^ 60) :
  NP E mp lim 83 [Vp D] H Q=Q (Vi ((n / 2:Nat):Int)) H:=by
 refine pc (by decide) e83 rfl rfl ?_
 rw [b83,c83]
 have a:=fun X=>(QL.refl.app (X:=X)).cells b
 have d:IntKind.i64.wrap (Int.tdiv (n:Int) 2)=((n / 2:Nat):Int):=by
  rw [show Int.tdiv (n:Int) 2=((n / 2:Nat):Int) from rfl]
  exact QP (by omega) (by omega)
 simp only [n83,r83,a,d,SB,Nat.reduceLT,NC,NH,Nat.reduceEqDiff,NG,NQ,reduceCtorEq,ND,place,NA,Nat.reduceAdd,Nat.reduceLeDiff,NE,Int.reduceEq,Int.reduceLT,Int.reduceLE]
structure JLies (lim:Nat) (H:NB) (J D area e lf n sn sc:Nat) (sp pp:Option Addr) (cp:Nat) (pend:List Wr):Prop where
 j:NF H J=Vc [Vp D,Vi area,Vi e,Vi lf,Vi n]
 d:NF H D=Vc [.slice sp sn sc,.slice pp pend.length cp]
 own:Own lim H Wj 33 pp cp pend
 lJ:lim<=J
 lD:lim<=D
 JD:J≠D
 ap:∀a,pp=some a->a.block≠J/\a.block≠D
def blk (p:Option Addr):List Nat:=match p with | none=>[] | some a=>[a.block]
structure WSt (lim:Nat) (H:NB) (L0:List Nat) (J D area e lf sn sc:Nat) (sp:Option Addr) (fr0:Nat->Value) (st m cp:Nat) (pp:Option Addr) (pend:List Wr) (G:NB):Prop where
 lies:JLies lim G J D area e lf m sn sc sp pp cp pend
 loop:NF G (H.length+3)=.loop ⟨st,none,fr0,62,[7],Yl,Yk⟩
 dfr:NF G (H.length+2)=.dfr
 box:NF G H.length=Vc [Vp J]
 chg:Chg (J::D::L0) H G
 len:H.length+4<=G.length
 new:∀a,pp=some a->a.block∉L0->H.length+4<=a.block
 old:∀j∈L0,j<H.length
 lJ:J<H.length
 lD:D<H.length
theorem WSt.to {lim:Nat} {H:NB} {L0:List Nat} {J D area e lf sn sc:Nat} {sp:Option Addr} {fr0:Nat->Value} {st m cp:Nat} {pp:Option Addr} {pend:List Wr} {G G':NB} (h:WSt lim H L0 J D area e lf sn sc sp fr0 st m cp pp pend G) {L:List Nat} (c:Chg L G G') (f:∀j∈L,(j=H.length+1\/H.length+4<=j)/\∀a,pp=some a->a.block≠j):WSt lim H L0 J D area e lf sn sc sp fr0 st m cp pp pend G':=by
 have lJ:=h.lJ
 have lD:=h.lD
 have len:=h.len
 have b:∀j,j<H.length+4->j≠H.length+1->j∉L:=fun j h1 h2 g=>by have:=(f j g).1;omega
 have hl:=c.len
 refine ⟨⟨c.cells h.lies.j (b _ (by omega) (by omega)),c.cells h.lies.d (b _ (by omega) (by omega)),h.lies.own.chg c fun a e i=>(f _ i).2 a e rfl,h.lies.lJ,h.lies.lD,h.lies.JD,h.lies.ap⟩,c.get h.loop (by omega) (b _ (by omega) (by omega)),c.get h.dfr (by omega) (b _ (by omega) (by omega)),c.get h.box (by omega) (b _ (by omega) (by omega)),h.chg.trans' c (fun j h1 h2=>by have:=(f j h1).1;omega),by omega,h.new,h.old,lJ,lD⟩
theorem Nct:∀(f fl:Nat) (b:List UInt8),(Sn f fl b).length<=f
 | 0,_,_=>Nd _
 | f+1,fl,b=>by
   simp only [Sn]
   split
   ·simp
   ·have:=Nct f 0 (b.drop 18)
    simp;omega
theorem Nst (b:List UInt8) (h:b.length<2 ^ 20):(W9 b).length<=2 ^ 20:=by
 have:=Nct (b.length+1) 1 b
 unfold W9;omega
theorem WSt.own_ne {lim:Nat} {H:NB} {L0:List Nat} {J D area e lf sn sc:Nat} {sp:Option Addr} {fr0:Nat->Value} {st m cp:Nat} {pp:Option Addr} {pend:List Wr} {G:NB} (h:WSt lim H L0 J D area e lf sn sc sp fr0 st m cp pp pend G) {j:Nat} (h1:H.length<=j) (h2:j<H.length+4\/G.length<=j):∀a,pp=some a->a.block≠j:=fun a e=>by
 have hb:=(h.lies.own.block e).2
 by_cases b:a.block∈L0
 ·have:=h.old _ b;omega
 ·have:=h.new a e b;omega
theorem WSt.turn {lim:Nat} {H:NB} {L0:List Nat} {J D area e lf sn sc:Nat} {sp:Option Addr} {fr0:Nat->Value} {st b m cp:Nat} {pp:Option Addr} {pend:List Wr} {G G':NB} (h:WSt lim H L0 J D area e lf sn sc sp fr0 st m cp pp pend G) (a:Mut G G' (H.length+3)) (hl:NF G' (H.length+3)=.loop ⟨b,none,fr0,62,[7],Yl,Yk⟩):WSt lim H L0 J D area e lf sn sc sp fr0 b m cp pp pend G':=by
 have lJ:=h.lJ
 have lD:=h.lD
 exact ⟨⟨a.cells h.lies.j (by omega),a.cells h.lies.d (by omega),h.lies.own.mut a (h.own_ne (by omega) (.inl (by omega))),h.lies.lJ,h.lies.lD,h.lies.JD,h.lies.ap⟩,hl,a.alive h.dfr (by omega),a.cells h.box (by omega),h.chg.mut a (.inr (by omega)),by rw [a.len];exact h.len,h.new,h.old,lJ,lD⟩
theorem WSt.app' {lim:Nat} {H:NB} {L0:List Nat} {J D area e lf sn sc:Nat} {sp:Option Addr} {fr0:Nat->Value} {st m cp:Nat} {pp:Option Addr} {pend:List Wr} {G:NB} (h:WSt lim H L0 J D area e lf sn sc sp fr0 st m cp pp pend G):WSt lim H L0 J D area e lf sn sc sp fr0 st m cp pp pend (G++[]):=by
 rw [Nb];exact h
theorem Nb0 {fr:Nat->Value} {p:Nat} {v:Value}:TA fr [p] [v]=upd fr p v:=rfl
theorem Nph [OA] {lim:Nat} {H:NB} {L0:List Nat} {J D area e lf sn sc:Nat} {sp:Option Addr} {fr0:Nat->Value} {m cp:Nat} {pp:Option Addr} {pend ac:List Wr} {G:NB} {x:Nat×List UInt8} {rest:List (Nat×List UInt8)} {K:List Nat} {N M:Nat}
  (T:fr0 2=Vp H.length) (Y:x.2.length<=18) (a4:x.1<=3) (k1:WSt lim H L0 J D area e lf sn sc sp fr0 0 m cp pp pend G) (k2:pend++Ru (area*(sn / 2)) e lf m (x::rest)=ac) (k3:m+(x::rest).length=N) (k4:pend.length+(x::rest).length=M)
  (hm:m<2 ^ 40) (a3:sn<2 ^ 30) (a0:area<=1) (a2:pend.length<2 ^ 34) (hK:∀j∈K,j<H.length+2/\j≠J/\j≠D/\j∉L0) :
  XU E false lim (H.length+3) [.agg ((Uu x).map u8).toArray] G fun v H'=>v=.bool true/\(∃(m ag:Nat) (av:Option Addr) (f:List Wr),WSt lim H L0 J D area e lf sn sc sp fr0 0 m ag av f H'/\f++Ru (area*(sn / 2)) e lf m rest=ac/\m+rest.length=N/\f.length+rest.length=M)/\G.length<=H'.length/\∀j∈K,NF H' j=NF G j:=by
 have lJ:=k1.lJ
 have lD:=k1.lD
 have len:=k1.len
 have aa:=k1.lies.lJ
 rw [Non k1.loop (by omega) rfl rfl,Nb0]
 have ak:((Uu x).map u8).length=32:=by rw [Nz];exact UC Y
 obtain ⟨G1,e1,h1,m1⟩:=RN (G:=G) (R:=H.length+3) (by omega) (.loop ⟨1,none,fr0,62,[7],Yl,Yk⟩)
 have gY:=fun X=>(QL.refl.app (X:=X)).get' k1.loop (by omega)
 have q:lim<=G.length:=by omega
 refine NI ?_
 rw [QF Yl.eq_1]
 simp only [T,ak,Su,q,gY,e1,show lim<=H.length+3 by omega,SB,Nat.reduceLT,NC,NH,Nat.reduceEqDiff,NG,NQ,reduceCtorEq,ND,place,NA,Nat.reduceAdd,Nat.reduceLeDiff,NE,Int.reduceEq,Int.reduceLT,Int.reduceLE]
 have w1:=(k1.turn m1 h1).to (Chg.refl.app (X:=[Vc ((Uu x).map u8)])) (L:=[]) (by simp)
 have R1:NF (G1++[Vc ((Uu x).map u8)]) G.length=Vc ((Uu x).map u8):=by rw [<-m1.len];exact NU
 have t:∀{G:NB} {st m cp:Nat} {pp:Option Addr} {pend:List Wr},WSt lim H L0 J D area e lf sn sc sp fr0 st m cp pp pend G->∀X:NB,NF (G++X) H.length=Vc [Vp J]/\NF (G++X) J=Vc [Vp D,Vi area,Vi e,Vi lf,Vi m]:=fun k X=>⟨(QL.refl.app).cells k.box,(QL.refl.app).cells k.lies.j⟩
 have am:(G1++[Vc ((Uu x).map u8)]).length=G.length+1:=by simp [m1.len]
 have o2:∀j,j<G.length->j≠H.length+3->NF (G1++[Vc ((Uu x).map u8)]) j=NF G j:=fun j h1 h2=>by
  rw [NZ (by rw [m1.len];exact h1)];exact m1.other j h2
 generalize G1++[Vc ((Uu x).map u8)]=G2 at w1 R1 am o2
 rw [QF Yk.eq_1]
 refine NI ?_
 have z:=fun X=>(t w1 X).1
 have s:=fun X=>(t w1 X).2
 simp only [T,z,s,SB,Nat.reduceLT,NC,NH,Nat.reduceEqDiff,NG,NQ,reduceCtorEq,ND,place,NA,Nat.reduceAdd,Nat.reduceLeDiff,NE,Int.reduceEq,Int.reduceLT,Int.reduceLE]
 refine Nh2 (l:=Uu x) (at':=0) (n:=e) ((QL.refl.app).cells R1) (UC Y) q (by decide) fun G3 c3 l3 R3=>?_
 rw [Nb] at c3 l3
 have w2:=w1.to c3 (fun j g=>by simp only [Ng] at g;subst g;exact ⟨.inr (by omega),fun a e=>by have:=k1.own_ne (j:=G.length) (by omega) (.inr (Nd _)) a e;exact this⟩)
 have z:=fun X=>(t w2 X).1
 have s:=fun X=>(t w2 X).2
 simp only [T,z,s,SB,Nat.reduceLT,NC,NH,Nat.reduceEqDiff,NG,NQ,reduceCtorEq,ND,place,NA,Nat.reduceAdd,Nat.reduceLeDiff,NE,Int.reduceEq,Int.reduceLT,Int.reduceLE]
 refine Nh2 (l:=Um (Uu x) 0 e 4) (at':=4) (n:=lf) ((QL.refl.app).cells R3) (by rw [Tq];exact UC Y) q (by decide) fun G4 c4 l4 R4=>?_
 rw [Nb] at c4 l4
 have w3:=w2.to c4 (fun j g=>by simp only [Ng] at g;subst g;exact ⟨.inr (by omega),fun a e=>by have:=k1.own_ne (j:=G.length) (by omega) (.inr (Nd _)) a e;exact this⟩)
 have z:=fun X=>(t w3 X).1
 have s:=fun X=>(t w3 X).2
 simp only [T,z,s,SB,Nat.reduceLT,NC,NH,Nat.reduceEqDiff,NG,NQ,reduceCtorEq,ND,place,NA,Nat.reduceAdd,Nat.reduceLeDiff,NE,Int.reduceEq,Int.reduceLT,Int.reduceLE]
 refine Nh2 (l:=Um (Um (Uu x) 0 e 4) 4 lf 4) (at':=8) (n:=m) ((QL.refl.app).cells R4) (by rw [Tq,Tq];exact UC Y) q (by decide) fun c c5 l5 R5=>?_
 rw [Nb] at c5 l5
 have o:=w3.to c5 (fun j g=>by simp only [Ng] at g;subst g;exact ⟨.inr (by omega),fun a e=>by have:=k1.own_ne (j:=G.length) (by omega) (.inr (Nd _)) a e;exact this⟩)
 have z:=fun X=>(t o X).1
 have s:=fun X=>(t o X).2
 have q3:=fun X=>(QL.refl.app (X:=X)).cells o.lies.d
 have q4:=fun X=>(QL.refl.app (X:=X)).cells R5
 have sz:=fun X (mp:Bool) (lim:Nat) (Q:Value->NB->Prop)=>Ndn (mp:=mp) (lim:=lim) (Q:=Q) (q3 X) (by omega)
 have W:(Um (Um (Um (Uu x) 0 e 4) 4 lf 4) 8 m 4).length=32:=by rw [Tq,Tq,Tq];exact UC Y
 have aj:((Um (Um (Um (Uu x) 0 e 4) 4 lf 4) 8 m 4).map u8).length=32:=by rw [Nz];exact W
 have az:area*(sn / 2)<2 ^ 30:=by
  rcases (show area=0\/area=1 by omega) with rfl | rfl<;>omega
 have wm:IntKind.i64.wrap ((area:Int)*((sn / 2:Nat):Int))=((area*(sn / 2):Nat):Int):=by
  rw [<-Int.natCast_mul];exact QP (by omega) (by omega)
 have wp:IntKind.i64.wrap (((area*(sn / 2):Nat):Int)+(m:Int))=((area*(sn / 2)+m:Nat):Int):=by rw [QP (by omega) (by omega)];omega
 have aw:IntKind.i64.wrap ((m:Int)+1)=((m+1:Nat):Int):=Ra (by omega)
 have ew:Value.int .i64 ((area*(sn / 2)+m:Nat):Int)::(Um (Um (Um (Uu x) 0 e 4) 4 lf 4) 8 m 4).map u8=Wj ⟨((area*(sn / 2)+m:Nat):Int),Un e lf m x⟩:=by
  rw [Nt6];unfold Un;rw [Nrz W]
 generalize ai:(⟨((area*(sn / 2)+m:Nat):Int),Un e lf m x⟩:Wr)=w at ew
 obtain ⟨h,C,O,e6,O6,C6,b,l6,r,_⟩:=o.lies.own.moreD (d:=c.length+1) (lim':=lim) (bytes:=40) (Nd _) R6 (by decide) [w] (by unfold PS;simp;omega) (by simp;omega) (by omega) [Vc (Wj w),.dead] (by omega) (by simp) (x:=.slice (Sa c.length) 1 1) (str:=false)
  (Xd (m:=[w]) (Sl.row R6 (by rw [NU];simp;rfl))) rfl
 rw [<-o.lies.own.appL] at e6
 simp only [Nm,Nn,Nr] at e6
 have ap:=o.lies.ap
 have JD:=o.lies.JD
 have I:NF (h++[]) H.length=_:=(b H.length (by omega) (fun a e=>(k1.own_ne (j:=H.length) (by omega) (.inl (by omega)) a e).symm)).trans o.box
 have j6:NF (h++[]) J=_:=(b J (by omega) (fun a e=>(ap a e).1.symm)).trans o.lies.j
 have d6:NF (h++[]) D=_:=(b D (by omega) (fun a e=>(ap a e).2.symm)).trans o.lies.d
 have P:=d6
 rw [Nb] at P
 obtain ⟨G7,e7,d7,u⟩:=RN (NJ P) (Vc [.slice sp sn sc,.slice C (pend.length+1) O])
 have ae:=fun X=>(QL.refl.app (X:=X)).cells (u.cells (by rw [<-Nb h];exact I) (by omega:H.length≠D))
 have Z:NF G7 J=_:=u.cells (by rw [<-Nb h];exact j6) JD
 have j7:=fun X=>(QL.refl.app (X:=X)).cells Z
 obtain ⟨G8,e8,d8,A⟩:=RN (NJ Z) (Vc [Vp D,Vi area,Vi e,Vi lf,Vi ((m+1:Nat):Int)])
 have V:=k1.lies.lD
 have an:¬H.length=c.length:=by omega
 have ao:¬H.length=c.length+1:=by omega
 have aq:¬J=c.length:=by omega
 have au:¬J=c.length+1:=by omega
 have al:NL c.length [0,1] (h++[]) (((h++[]).set c.length .dead).set (c.length+1) .dead)=h++[]:=RP c.length [0,1] (h++[])
 have y6:NF (h++[]) (H.length+3)=_:=(b (H.length+3) (by omega) (fun a e=>(k1.own_ne (j:=H.length+3) (by omega) (.inl (by omega)) a e).symm)).trans o.loop
 have ad:=y6
 rw [Nb] at ad
 have y8:NF G8 (H.length+3)=_:=A.alive (u.alive ad (by omega)) (by omega)
 have yl:H.length+3<G8.length:=by have:=A.len;have:=u.len;omega
 have ay:=(QL.refl.app (X:=[])).get' y8 yl
 obtain ⟨p,e9,d9,B⟩:=RN (G:=G8) yl (.loop ⟨0,none,fr0,62,[7],Yl,Yk⟩)
 simp only [al,Q9,an,ao,aq,au,T,z,s,q3,sz,q4,aj,U8,Su,wm,wp,ew,R6,e6,I,j6,d6,e7,ae,j7,e8,aw,V,aa,ay,e9,show lim<=H.length+3 by omega,SB,Nat.reduceLT,NC,NH,Nat.reduceEqDiff,NG,NQ,reduceCtorEq,ND,place,NA,Nat.reduceAdd,Nat.reduceLeDiff,NE,Int.reduceEq,Int.reduceLT,Int.reduceLE]
 have y:=O6
 rw [Nb] at y
 have r:=r (by simp)
 have nb:∀j,j<c.length->∀a,C=some a->a.block≠j:=by
  intro j g a e
  rw [r] at e;cases e
  show c.length+1≠j
  omega
 have ab:Own lim p Wj 33 C O (pend++[w]):=((y.mut u (nb D (by omega))).mut A (nb J (by omega))).mut B (nb _ (by omega))
 have l9:p.length=h.length:=by rw [B.len,A.len,u.len]
 have D9:NF p D=Vc [.slice sp sn sc,.slice C (pend.length+1) O]:=B.cells (A.cells d7 JD.symm) (by omega)
 have J9:NF p J=_:=B.cells d8 (by omega)
 have pj:∀j,j<H.length+4->j∉L0->∀a,pp=some a->j≠a.block:=fun j h1 h2 a e hh=>by
  subst hh
  have:=k1.new a e h2
  omega
 have ah:∀j,j<H.length+4->j≠H.length+3->j≠J->j≠D->j∉L0->NF p j=NF c j:=fun j h1 h2 h3 h4 h5=>by
  rw [B.other j h2,A.other j h3,u.other j h4,<-b j (by omega) (pj j h1 h5),Nb]
 have g5:∀j,j<G.length->j≠H.length+3->NF c j=NF G j:=fun j h1 h2=>by
  rw [c5.other j (by omega) (by simp;omega),c4.other j (by omega) (by simp;omega),c3.other j (by omega) (by simp;omega),o2 j h1 h2]
 have cA:Chg (J::D::L0) H p:=⟨by omega,fun j g U=>by
  simp only [Nh,not_or] at U
  rw [ah j (by omega) (by omega) U.1 U.2.1 U.2.2,g5 j (by omega) (by omega)]
  exact k1.chg.other j g (by simp only [Nh,not_or];exact U)⟩
 have i:∀j,j<G.length->j≠H.length+3->j≠J->j≠D->(∀a,pp=some a->j≠a.block)->NF p j=NF G j:=fun j h1 h2 h3 h4 h5=>by
  rw [B.other j h2,A.other j h3,u.other j h4,<-g5 j h1 h2,<-b j (by omega) h5,Nb]
 have S:NF p (H.length+2)=.dfr:=(i _ (by omega) (by omega) (by omega) (by omega) (fun a e=>(k1.own_ne (j:=H.length+2) (by omega) (.inl (by omega)) a e).symm)).trans k1.dfr
 have F:NF p H.length=_:=(i _ (by omega) (by omega) (by omega) (by omega) (fun a e=>(k1.own_ne (j:=H.length) (by omega) (.inl (by omega)) a e).symm)).trans k1.box
 have ax:WSt lim H L0 J D area e lf sn sc sp fr0 0 (m+1) O C (pend++[w]) p:=
  ⟨⟨J9,by rw [Nj];exact D9,ab,aa,V,JD,fun a e=>⟨nb J (by omega) a e,nb D (by omega) a e⟩⟩,d9,S,F,cA,by omega,fun a e _=>by rw [r] at e;cases e;show H.length+4<=c.length+1;omega,k1.old,lJ,lD⟩
 refine ⟨⟨m+1,O,C,pend++[w],ax.app', ?_, ?_, ?_⟩,by omega,fun j g=>?_⟩
 ·rw [<-k2,Ru,<-ai,Nl];rfl
 ·rw [<-k3,Nm];omega
 ·rw [<-k4,Nm,Nj,Qk];omega
 ·obtain ⟨z,s,q3,q4⟩:=hK j g
  rw [NZ (by omega)]
  exact i j (by omega) (by omega) s q3 (pj j (by omega) q4)
theorem Nos [OA] {lim J D area e lf n sn sc cp c:Nat} {sp pp p:Option Addr} {pend:List Wr} {b:List UInt8} {H:NB} {Q:Value->NB->Prop}
  (h:JLies lim H J D area e lf n sn sc sp pp cp pend) (w:Sl H Uf 1 p b) (hc:Uo 1 c b.length) (hz:b=[]->p=none) (hp:∀a,p=some a->b≠[]->a.block≠J/\a.block≠D/\a.block∉blk pp) (hb:b.length<2 ^ 20) (ab:pend.length<2 ^ 30) (aa:n<2 ^ 30) (S:sn<2 ^ 30) (P:area<=1)
  (hQ:∀H' g o,Chg (J::D::blk pp) H H'->JLies lim H' J D area e lf (n+(W9 b).length) sn sc sp g o (pend++Ru (area*(sn / 2)) e lf n (W9 b))->(∀a,g=some a->a.block∉blk pp->H.length<=a.block)->Q (.tuple #[]) (H'++[])) :
  NP E false lim 78 [Vp J,.slice p b.length c] H Q:=by
 refine runs (by decide) e78 rfl ?_
 rw [b78,c78]
 simp only [n78,r78,SB,Nat.reduceLT,NC,NH,Nat.reduceEqDiff,NG,NQ,reduceCtorEq,ND,place,NA,Nat.reduceAdd,Nat.reduceLeDiff,NE,Int.reduceEq,Int.reduceLT,Int.reduceLE]
 have M:∀(X:NB) (Q:Value->NB->Prop),NP E false lim 122 [.slice p b.length c] (H++X) Q=Q (.func (.func 153) #[] #[Vp (H.length+X.length)]) (H++(X++[Vc [.slice p b.length c]])):=by
  intro X Q
  rw [X6 (E:=E) (by simp [E,orc,effP]) (show E.tr 122=some Njw from Nzc) rfl rfl,Nz6,Nwh]
  simp only [n122,Nyi,SB,Nat.reduceLT,NC,NH,Nat.reduceEqDiff,NG,NQ,reduceCtorEq,ND,place,NA,Nat.reduceAdd,Nat.reduceLeDiff,NE,Int.reduceEq,Int.reduceLT,Int.reduceLE]
 have key:∀fr0:Nat->Value,fr0 2=Vp H.length->NP E false lim 153 [.func (.yield (H.length+3)) #[] #[],Vp (H.length+1)]
   (H++[Vc [Value.pointer (Sa J)],Vc [.slice p b.length c],.dfr,.loop ⟨0,none,fr0,62,[7],Yl,Yk⟩])
   fun x U=>Ncb (NF U ((H++[Vc [Value.pointer (Sa J)],Vc [.slice p b.length c]]).length+1)) fun x=>QZ E a78 lim (Nac x++([.inBlock 0,.code .retM]++[.mark (H++[Vc [Value.pointer (Sa J)],Vc [.slice p b.length c]]).length])) fr0
    (U.set ((H++[Vc [Value.pointer (Sa J)],Vc [.slice p b.length c]]).length+1) .dead) Q:=by
  intro fr0 Z
  have O:=NJ h.j
  have N:=NJ h.d
  have r:∀j∈blk pp,j<H.length:=fun j hj=>by
   cases hpp:pp with
   | none=>rw [hpp] at hj;simp [blk] at hj
   | some a0=>
     rw [hpp] at hj;simp only [blk,Ng] at hj
     rw [hj];exact (h.own.block hpp).2
  have v:∀{G:NB} {m o:Nat} {g:Option Addr} {f:List Wr} {st:Nat},WSt lim H (blk pp) J D area e lf sn sc sp fr0 st m o g f G->∀a,g=some a->a.block≠H.length+1:=fun k a e I=>by
   by_cases q:a.block∈blk pp
   ·have:=r _ q;omega
   ·have:=k.new a e q;omega
  refine Nfj (fun rest G=>∃(m o:Nat) (g:Option Addr) (f:List Wr),WSt lim H (blk pp) J D area e lf sn sc sp fr0 0 m o g f G/\f++Ru (area*(sn / 2)) e lf m rest=pend++Ru (area*(sn / 2)) e lf n (W9 b)/\m+rest.length=n+(W9 b).length/\f.length+rest.length=pend.length+(W9 b).length)
   ((H.length+1)::(match p with | none=>[] | some a=>if b=[] then [] else [a.block])) ?_ ?_ (by rw [NK];rfl) (by have:=h.lJ;omega) (by simp) (w.app _) hc hz ?_ (by omega) ?_ ?_
  ·
   rintro rest G G' ⟨m,o,g,f,k1,k2,k3,K⟩ hC
   exact ⟨m,o,g,f,k1.to hC (fun j hj=>by simp only [Ng] at hj;subst hj;exact ⟨.inl rfl,v k1⟩),k2,k3,K⟩
  ·
   have ac:(W9 b).length<=2 ^ 20:=Nst _ hb
   rintro x rest G hx T ⟨m,o,g,f,k1,k2,k3,K⟩
   exact Nph Z hx T k1 k2 k3 K (by simp at k3;omega) S P (by omega) (fun j hj=>by
    simp only [Nh] at hj
    rcases hj with rfl | hj
    ·exact ⟨by omega,by omega,by omega,fun h=>by have:=r _ h;omega⟩
    ·cases p with
     | none=>simp at hj
     | some a=>
       simp only at hj
       split at hj
       ·simp at hj
       ·rename_i C
        simp only [Ng] at hj
        subst hj
        have:=w.lt C
        have:=hp a rfl C
        exact ⟨by omega,this.1,this.2.1,this.2.2⟩)
  ·intro a e hn
   subst e
   simp only [hn,if_false]
   refine ⟨by simp, ?_⟩
   have:=w.lt hn
   omega
  ·refine ⟨n,cp,pp,pend,⟨⟨(QL.refl.app).cells h.j,(QL.refl.app).cells h.d,h.own.app _,h.lJ,h.lD,h.JD,h.ap⟩,by rw [NK];rfl,by rw [NK];rfl,by rw [NU];rfl,Chg.refl.app,by simp,fun a e I=>?_,r,O,N⟩,rfl,rfl,rfl⟩
   subst e
   simp [blk] at I
  ·rintro H' ⟨m,o,g,f,k1,k2,k3,K⟩
   have V:=k1.len
   simp only [Ru,Nb] at k2
   simp only [Nn,Oq] at k3
   obtain ⟨G1,e1,_,u⟩:=RN (G:=H') (R:=H.length+3) (by omega) .dead
   have y:NF G1 (H.length+2)=.dfr:=u.alive k1.dfr (by omega)
   obtain ⟨F,e2,_,L⟩:=RN (G:=G1) (R:=H.length+2) (by have:=u.len;omega) .dead
   have z:=e1 []
   have A:=e2 []
   rw [Nb] at z A
   have s:=(QL.refl.app (X:=[])).get' y (by have:=u.len;omega)
   simp only [n78,r78,k1.loop,z,Zj,s,A,show lim<=H.length+2 by have:=h.lJ;omega,SB,Nat.reduceLT,NC,NH,Nat.reduceEqDiff,NG,NQ,reduceCtorEq,ND,place,NA,Nat.reduceAdd,Nat.reduceLeDiff,NE,Int.reduceEq,Int.reduceLT,Int.reduceLE]
   have hm:(H++[Vc [Value.pointer (Sa J)],Vc [Value.slice p b.length c]]).length=H.length+2:=by simp
   rw [hm]
   show QZ E a78 lim (.inBlock 0::.code .retM::.mark (H.length+2)::[]) fr0 (G1++[]) Q
   have B:(G1++[]).set (H.length+2) .dead=F++[]:=e2 []
   have w:=Zj (lim:=lim) (i:=H.length+2) (l:=[]) s (by have:=h.lJ;omega)
   rw [B,Ne6] at w
   have Y:([]:List Nat)++[H.length+2]=[H.length+2]:=rfl
   simp only [n78,r78,Y,w,SB,Nat.reduceLT,NC,NH,Nat.reduceEqDiff,NG,NQ,reduceCtorEq,ND,place,NA,Nat.reduceAdd,Nat.reduceLeDiff,NE,Int.reduceEq,Int.reduceLT,Int.reduceLE]
   have W:Chg (J::D::blk pp) H F:=((k1.chg.mut u (.inr (by omega))).mut L (.inr (by omega)))
   have t:Own lim F Wj 33 g o f:=(k1.lies.own.mut u fun a e=>by
    by_cases q:a.block∈blk pp
    ·have:=r _ q;omega
    ·have:=k1.new a e q;omega).mut L fun a e=>by
    by_cases q:a.block∈blk pp
    ·have:=r _ q;omega
    ·have:=k1.new a e q;omega
   have nn:m=n+(W9 b).length:=k3
   rw [k2] at t
   refine hQ F g o W ⟨?_, ?_,t,h.lJ,h.lD,h.JD,k1.lies.ap⟩ fun a e I=>by have:=k1.new a e I;omega
   ·rw [<-nn];exact L.cells (u.cells k1.lies.j (by omega)) (by omega)
   ·rw [<-k2];exact L.cells (u.cells k1.lies.d (by omega)) (by omega)
 simp only [n78,r78,M,SB,Nat.reduceLT,NC,NH,Nat.reduceEqDiff,NG,NQ,reduceCtorEq,ND,place,NA,Nat.reduceAdd,Nat.reduceLeDiff,NE,Int.reduceEq,Int.reduceLT,Int.reduceLE]
 exact key _ (by simp only [FB,Nat.reduceEqDiff])
theorem Nyo {n:Int}:R7 true (Vi 1) [Vi n]=some (Vi (max 1 n)):=by
 simp only [R7,V6,if_true]
 congr 2
 split<;>omega
def OT (n:Nat):Nat:=max 1 ((n+17) / 18)
theorem Nta [OA] {mp:Bool} {lim n k:Nat} {p:Option Addr} {H:NB} {Q:Value->NB->Prop} (hn:n<2 ^ 40):NP E mp lim 81 [.slice p n k] H Q=Q (Vi (OT n:Int)) H:=by
 refine pc (by decide) e81 rfl rfl ?_
 rw [b81,c81]
 have a:IntKind.i64.wrap ((n:Int)+18)=((n+18:Nat):Int):=by rw [QP (by omega) (by omega)];omega
 have b:IntKind.i64.wrap (((n+18:Nat):Int)-1)=((n+17:Nat):Int):=by rw [QP (by omega) (by omega)];omega
 have c:IntKind.i64.wrap (Int.tdiv ((n+17:Nat):Int) 18)=(((n+17) / 18:Nat):Int):=by
  rw [show Int.tdiv ((n+17:Nat):Int) 18=(((n+17) / 18:Nat):Int) from rfl]
  exact QP (by omega) (by omega)
 have e:max (1:Int) (((n+17) / 18:Nat):Int)=(OT n:Int):=by unfold OT;omega
 simp only [n81,r81,a,b,c,Nyo,e,SB,Nat.reduceLT,NC,NH,Nat.reduceEqDiff,NG,NQ,reduceCtorEq,ND,place,NA,Nat.reduceAdd,Nat.reduceLeDiff,NE,Int.reduceEq,Int.reduceLT,Int.reduceLE]
theorem Nad:∀(f fl:Nat) (b:List UInt8),b.length<f->(Sn f fl b).length=OT b.length
 | 0,_,b,h=>by omega
 | f+1,fl,b,h=>by
   simp only [Sn]
   split
   ·unfold OT;simp;omega
   ·have:=Nad f 0 (b.drop 18) (by simp;omega)
    rw [Nm,this]
    unfold OT
    simp;omega
theorem Td (b:List UInt8):(W9 b).length=OT b.length:=Nad _ _ _ (Nat.lt_succ_self _)
theorem VY [OA] {mp:Bool} {lim J D:Nat} {ro:Bool} {r:List Value} {H:NB} {Q:Value->NB->Prop} (a:NF H J=.cells ro (Vp D::r)):NP E mp lim 80 [Vp J] H Q=Q (.bool false) H:=by
 refine pc (by decide) e80 rfl rfl ?_
 rw [b80,c80]
 have b:=fun X=>(QL.refl.app (X:=X)).cells a
 simp only [n80,r80,b,VM,SB,Nat.reduceLT,NC,NH,Nat.reduceEqDiff,NG,NQ,reduceCtorEq,ND,place,NA,Nat.reduceAdd,Nat.reduceLeDiff,NE,Int.reduceEq,Int.reduceLT,Int.reduceLE]
theorem Nnb [OA] {lim c:Nat} {p:Option Addr} {l:List QY} {H:NB} {Q:Value->NB->Prop} (e:Sl H Sk 32 p l) (hn:l≠[]) (h1:l.length<2 ^ 30) :
  NP E false lim 118 [.slice p l.length c] H Q=Q (.slice (Sa (H.length+1)) l.length (loose 32)) (H++[Vc [],Vc (l.flatMap Sk)]):=by
 obtain ⟨a,rfl⟩:=e.some hn
 rw [X6 (E:=E) (by simp [E,orc,effP]) (show E.tr 118=some Njx from Nzg) rfl rfl,N0a,Nwk,<-Nb H]
 have d:=fun X (h:NF (H++X) H.length=Vc [])=>V4 (lim:=lim) (b:=H.length) (bytes:=32) (c:=c) h (e.app X) (by decide) (by unfold PS;omega) (by omega) hn
 simp only [n118,Nyk,VM,d,SB,Nat.reduceLT,NC,NH,Nat.reduceEqDiff,NG,NQ,reduceCtorEq,ND,place,NA,Nat.reduceAdd,Nat.reduceLeDiff,NE,Int.reduceEq,Int.reduceLT,Int.reduceLE]
def XI (pend:List Wr) (safe:List QY):List QY:=QQ [] pend safe
theorem Ng5 [OA] {lim D sc L:Nat} {sp pp:Option Addr} {ro:Bool} {safe:List QY} {pend:List Wr} {H:NB} {Q:Value->NB->Prop}
  (O:NF H D=.cells ro [.slice sp safe.length sc,.slice pp pend.length L]) (hS:Sl H Sk 32 sp safe) (U:safe≠[]) (hP:Sl H Wj 33 pp pend) (T:safe.length<2 ^ 30) (ad:pend.length<2 ^ 60) (hl:lim<=H.length)
  (hQ:∀H' p c q c',Chg [] H H'->Sl H' Sk 32 p ((XI pend safe).take (safe.length / 2))->Sl H' Sk 32 q (((XI pend safe).drop (safe.length / 2)).take (safe.length / 2))->Q (.agg #[.slice p (safe.length / 2) c,.slice q (safe.length / 2) c']) H') :
  NP E false lim 74 [Vp D] H Q:=by
 refine runs (by decide) e74 rfl ?_
 rw [b74,c74]
 have P:=fun X=>(QL.refl.app (X:=X)).cells O
 have aa:=NJ O
 have cl:=fun X (Q:Value->NB->Prop)=>Nnb (lim:=lim) (c:=sc) (Q:=Q) (hS.app X) U T
 simp only [n74,r74,P,cl,SB,Nat.reduceLT,NC,NH,Nat.reduceEqDiff,NG,NQ,reduceCtorEq,ND,place,NA,Nat.reduceAdd,Nat.reduceLeDiff,NE,Int.reduceEq,Int.reduceLT,Int.reduceLE]
 refine QC (fun s:Nat×List QY=>pend.length-s.1) (fun s fr G=>s.1<=pend.length/\fr 0=Vp D/\fr 2=Vp H.length/\fr 3=.slice (Sa (H.length+2)) safe.length (loose 32)/\fr 15=.slice pp pend.length L/\fr 16=Vi pend.length/\fr 17=Vi s.1/\
  Chg [] H G/\H.length+3<=G.length/\s.2.length=safe.length/\NF G (H.length+2)=Vc (s.2.flatMap Sk)/\NF G H.length=Vc [Vz,Vz]/\XI pend safe=RO [] s.1 (pend.drop s.1) s.2) (0,safe) ⟨N5 _,(by simp only [FB,Nat.reduceEqDiff]),(by simp only [FB,Nat.reduceEqDiff]),(by simp only [FB,Nat.reduceEqDiff]),(by simp only [FB,Nat.reduceEqDiff]),(by simp only [FB,Nat.reduceEqDiff]),by rfl,Chg.refl.app,by simp,rfl,by rw [NK];rfl,by rw [NU];rfl,rfl⟩ ?_
 rintro ⟨i,cur⟩ fr G ⟨hi,h0,h2,v,g,j,m,w,ab,b,f,Y,y⟩ hN
 simp only at hi m b f y
 rw [QF Nup.eq_1]
 refine NI ?_
 have n:=fun X=>(QL.refl.app (X:=X)).cells (w.cells O (by simp))
 have C:lim<=G.length:=by omega
 by_cases d:i<pend.length
 ·have x:=w.sl hP (by simp)
  have F:=fun X=>(x.app X).loadCells R6 d
  have r:=fun c (k:IntKind) (H1:NB)=>x.idx (c:=c) (k:=k) (H1:=H1) d
  have K:IntKind.i64.wrap ((i:Int)+1)=((i+1:Nat):Int):=Ra (by omega)
  have o:=fun X (a:Int) (mp:Bool) (lim:Nat) (Q:Value->NB->Prop)=>Ni7 (mp:=mp) (lim:=lim) (a:=a) (Q:=Q) (n X)
  cases hh:UF safe.length (gt pend i).pos with
  | false=>
    simp only [n74,r74,h0,h2,v,g,j,m,d,F,r,n,o,R6,Su,Yo,Vd,C,K,RS,hh,SB,Nat.reduceLT,NC,NH,Nat.reduceEqDiff,NG,NQ,reduceCtorEq,ND,place,NA,Nat.reduceAdd,Nat.reduceLeDiff,NE,Int.reduceEq,Int.reduceLT,Int.reduceLE]
    exact hN (i+1,cur) _ _ ⟨by show i+1<=_;omega,(by simp only [h0,FB,Nat.reduceEqDiff]),(by simp only [h2,FB,Nat.reduceEqDiff]),(by simp only [v,FB,Nat.reduceEqDiff]),(by simp only [g,FB,Nat.reduceEqDiff]),(by simp only [j,FB,Nat.reduceEqDiff]),(by simp only [FB,Nat.reduceEqDiff]),w.app,by simp;omega,b,(QL.refl.app).cells f,(QL.refl.app).cells Y,by show _=RO _ (i+1) _ cur;rw [y,Wl d,b,hh];rfl⟩ (by show _-(i+1)<_;omega)
  | true=>
    obtain ⟨k,hk,B⟩:∃k:Nat,(gt pend i).pos=(k:Int)/\k<safe.length:=by
     simp only [UF,Nx] at hh
     exact ⟨(gt pend i).pos.toNat,by omega,by omega⟩
    have V:∀H1 c,X9 32 (.slice (Sa (H.length+2)) safe.length c) (Vi (gt pend i).pos) H1=some (.pointer (some (WA (Sa (H.length+2)) 32 k)),H1):=fun H1 c=>by
     rw [hk];exact Xa B
    obtain ⟨G',W,t,u⟩:=Ncn (lim:=lim) (e:=32) RS rfl f (by omega) (show k<cur.length by rw [b];exact B) (gt pend i).data
    simp only [n74,r74,h0,h2,v,g,j,m,d,F,r,n,o,R6,Su,Yo,Vd,C,K,RS,hh,V,W,SB,Nat.reduceLT,NC,NH,Nat.reduceEqDiff,NG,NQ,reduceCtorEq,ND,place,NA,Nat.reduceAdd,Nat.reduceLeDiff,NE,Int.reduceEq,Int.reduceLT,Int.reduceLE]
    exact hN (i+1,cur.set k (gt pend i).data) _ _ ⟨by show i+1<=_;omega,(by simp only [h0,FB,Nat.reduceEqDiff]),(by simp only [h2,FB,Nat.reduceEqDiff]),(by simp only [v,FB,Nat.reduceEqDiff]),(by simp only [g,FB,Nat.reduceEqDiff]),(by simp only [j,FB,Nat.reduceEqDiff]),(by simp only [FB,Nat.reduceEqDiff]),(w.mut u (.inr (by omega))).app,by simp [u.len];omega,by simpa using b,(QL.refl.app).cells t,(QL.refl.app).cells (u.cells Y (by omega)),by
     show _=RO _ (i+1) _ (cur.set k _)
     rw [y,Wl d,b,hh];simp [hk]⟩ (by show _-(i+1)<_;omega)
 obtain rfl:i=pend.length:=by omega
 rw [Qw,RO] at y
 subst y
 have sz:=fun X (mp:Bool) (lim:Nat) (Q:Value->NB->Prop)=>Ndn (mp:=mp) (lim:=lim) (Q:=Q) (n X) (by omega)
 have J:=Sl.row RS f
 have ac:safe.length / 2+safe.length / 2<=safe.length:=by omega
 have w2:IntKind.i64.wrap (2*((safe.length / 2:Nat):Int))=((safe.length / 2+safe.length / 2:Nat):Int):=by rw [QP (by omega) (by omega)];omega
 obtain ⟨p1,c1,e1,s1,_,M,_⟩:=T9 (c:=loose 32) (vlo:=none) (vhi:=some (Vi ((safe.length / 2:Nat):Int))) (lo:=0) (hi:=safe.length / 2) J (.inl rfl) RS (fun cap A=>by rw [Nep (by omega) (by omega),O1]) (N5 _) (by omega) (by omega)
 obtain ⟨p2,c2,e2,s2,_,N,_⟩:=T9 (c:=loose 32) (vlo:=some (Vi ((safe.length / 2:Nat):Int))) (vhi:=some (Vi ((safe.length / 2+safe.length / 2:Nat):Int))) (lo:=safe.length / 2) (hi:=safe.length / 2+safe.length / 2) J (.inl rfl) RS (fun cap A=>by rw [Neo (by omega) (by omega) (by omega),O1,O1]) (by omega) (by omega) (by omega)
 rw [b,Nat.sub_zero] at e1
 rw [b,Qq] at e2
 rw [Og] at s1
 rw [List.drop_take,Qq] at s2
 obtain ⟨G',I,t,u⟩:=RN (G:=G) (R:=H.length) (by omega) (Vc [.slice p1 (safe.length / 2) c1,.slice p2 (safe.length / 2) c2])
 have Z:=fun X=>(QL.refl.app (X:=X)).cells Y
 have S:=fun X=>(QL.refl.app (X:=X)).cells t
 simp only [n74,r74,h0,h2,v,g,j,m,d,sz,e1,e2,w2,Z,I,hl,S,SB,Nat.reduceLT,NC,NH,Nat.reduceEqDiff,NG,NQ,reduceCtorEq,ND,place,NA,Nat.reduceAdd,Nat.reduceLeDiff,NE,Int.reduceEq,Int.reduceLT,Int.reduceLE]
 have z:∀{p:Option Addr} {l:List QY},Sl G Sk 32 p l->(∀a,p=some a->a.block=H.length+2)->Sl G' Sk 32 p l:=fun {p l} h hb=>u.sl h fun a e _=>by have:=hb a e;omega
 refine hQ _ _ _ _ _ ((w.mut u (.inr (Nd _))).app) ((z s1 fun a e=>?_).app _) ((z s2 fun a e=>?_).app _)
 ·obtain ⟨a',h1,h2⟩:=M a e;cases h1;exact h2
 ·obtain ⟨a',h1,h2⟩:=N a e;cases h1;exact h2
theorem Nj2 [OA] {lim n:Nat} {H:NB} {Q:Value->NB->Prop} (hn:4<=n) (h2:n<=32768)
  (e:Q (.tuple #[Vp (H.length+1),Vi 0]) (H++[Vc ((List.replicate n (Vector.replicate 32 (0:UInt8))).flatMap Sk),Vc [.slice (Sa H.length) n n,Vz]])) :
  NP E false lim 32 [Vi n] H Q:=by
 refine runs (by decide) e32 rfl ?_
 rw [b32,c32]
 have c:¬(n:Int)<4:=by omega
 have d:¬(32768:Int)<(n:Int):=by omega
 have b:(n:Int)*32<=2 ^ 45:=by omega
 have a:(n:Int)<2 ^ 62:=by omega
 have f:((List.range (n*32)).map fun j=>[Value.int .u8 0,Value.int .u8 0,Value.int .u8 0,Value.int .u8 0,Value.int .u8 0,Value.int .u8 0,Value.int .u8 0,Value.int .u8 0,Value.int .u8 0,Value.int .u8 0,Value.int .u8 0,Value.int .u8 0,Value.int .u8 0,Value.int .u8 0,Value.int .u8 0,Value.int .u8 0,Value.int .u8 0,Value.int .u8 0,Value.int .u8 0,Value.int .u8 0,Value.int .u8 0,Value.int .u8 0,Value.int .u8 0,Value.int .u8 0,Value.int .u8 0,Value.int .u8 0,Value.int .u8 0,Value.int .u8 0,Value.int .u8 0,Value.int .u8 0,Value.int .u8 0,Value.int .u8 0].getD (j % 32) undef)=(List.replicate n (Vector.replicate 32 (0:UInt8))).flatMap Sk:=by
  rw [show [Value.int .u8 0,Value.int .u8 0,Value.int .u8 0,Value.int .u8 0,Value.int .u8 0,Value.int .u8 0,Value.int .u8 0,Value.int .u8 0,Value.int .u8 0,Value.int .u8 0,Value.int .u8 0,Value.int .u8 0,Value.int .u8 0,Value.int .u8 0,Value.int .u8 0,Value.int .u8 0,Value.int .u8 0,Value.int .u8 0,Value.int .u8 0,Value.int .u8 0,Value.int .u8 0,Value.int .u8 0,Value.int .u8 0,Value.int .u8 0,Value.int .u8 0,Value.int .u8 0,Value.int .u8 0,Value.int .u8 0,Value.int .u8 0,Value.int .u8 0,Value.int .u8 0,Value.int .u8 0]=List.replicate 32 (Value.int .u8 0) from rfl]
  have e1:∀n:Nat,(List.replicate n (Vector.replicate 32 (0:UInt8))).flatMap Sk=List.replicate (n*32) (Value.int .u8 0):=by
   intro n
   induction n with
   | zero=>rfl
   | succ n ih=>rw [Qe,Oh,ih,show Sk (Vector.replicate 32 (0:UInt8))=List.replicate 32 (Value.int .u8 0) from rfl,P1];congr 1;omega
  rw [e1]
  apply O4 (by simp)
  intro i g h
  have:i % 32<32:=P3 _ (by decide)
  simp only [Q6,List.getElem_range,List.getElem_replicate]
  rw [Na,Qv,Nk this]
  rfl
 simp only [n32,r32,c,d,Nqm,b,a,f,SB,Nat.reduceLT,NC,NH,Nat.reduceEqDiff,NG,NQ,reduceCtorEq,ND,place,NA,Nat.reduceAdd,Nat.reduceLeDiff,NE,Int.reduceEq,Int.reduceLT,Int.reduceLE]
 exact e
def pay (s:QY):List UInt8:=(s.toList.drop 14).take (ln s)
def Sj (a i:Nat) (ins:Bool) (life:Nat) (s:QY):Bool:=
 QH s i&&decide (Ri s 0=a)&&!(decide (fl s % 2=1) == ins)&&decide (life<=Ri s 4)&&!(ins&&!decide (Ri s 4=life))
def TL (a:Nat):Nat->List QY->Bool->Nat->List UInt8->List (List UInt8)->Nat->List (List UInt8)×Nat
 | _,[],_,_,_,l,e=>(l,e)
 | i,s::r,ins,life,rec,l,e=>
   if Sj a i ins life s then
    if fl s<2 then TL a (i+1) r true (Ri s 4) (rec++pay s) l e
    else TL a (i+1) r false (Ri s 4) [] (l++[rec++pay s]) (i+1)
   else (l,e)
def QA:List QY->Nat
 | []=>0
 | s::_=>Ri s 0
def recs (a:List QY):List (List UInt8)×Nat:=TL (QA a) 0 a false 0 [] [] 0
abbrev Vw:=Option Addr×Nat×Nat
def Uy (d:Vw):List Value:=[.slice d.1 d.2.1 d.2.2]
theorem TM (d:Vw):(Uy d).length=1:=rfl
structure RowsAt (h0:Nat) (G:NB) (p:Option Addr) (c:Nat) (ds:List Vw) (l:List (List UInt8)):Prop where
 own:Own h0 G Uy 1 p c ds
 len:ds.length=l.length
 row:∀k,k<l.length->(gt ds k).2.1=(gt l k).length/\Own h0 G Uf 1 (gt ds k).1 (gt ds k).2.2 (gt l k)
 ap:∀k,k<l.length->∀a b,(gt ds k).1=some a->p=some b->a.block≠b.block
theorem RowsAt.chg {h0:Nat} {G G':NB} {p:Option Addr} {c:Nat} {ds:List Vw} {l:List (List UInt8)} {L:List Nat} (h:RowsAt h0 G p c ds l) (hc:Chg L G G') (hp:∀b,p=some b->b.block∉L) (hr:∀k,k<l.length->∀a,(gt ds k).1=some a->a.block∉L):RowsAt h0 G' p c ds l:=
 ⟨h.own.chg hc hp,h.len,fun k d=>⟨(h.row k d).1,(h.row k d).2.chg hc (hr k d)⟩,h.ap⟩
theorem RowsAt.nil {h0:Nat} {G:NB}:RowsAt h0 G none 0 [] []:=⟨Own.nil,rfl,fun k a=>by simp at a,fun k a=>by simp at a⟩
theorem Nkm {G G':NB} {p:Option Addr} (h:∀j,j<G.length->(∀a,p=some a->j≠a.block)->NF G' j=NF G j) (hl:G.length<=G'.length):Chg (blk p) G G':=⟨hl,fun j c b=>h j c fun a e=>by
 subst e
 simpa [blk] using b⟩
theorem Sz {p:Option Addr} {j:Nat}:j∈blk p↔∃a,p=some a/\a.block=j:=by
 cases p with
 | none=>simp [blk]
 | some a=>simp [blk];exact eq_comm
theorem RowsAt.snoc {h0 lim:Nat} {G:NB} {p:Option Addr} {c:Nat} {ds:List Vw} {l:List (List UInt8)} (h:RowsAt h0 G p c ds l) (g:lim<=h0) (v:h0<=G.length) {q:Option Addr} {cq:Nat} {r:List UInt8} (t:Own h0 G Uf 1 q cq r) (s:∀a b,q=some a->p=some b->a.block≠b.block) (hl:l.length<2 ^ 30) (X:NB) (b k:Nat) (w:NF (G++X) b=Vc (Uy (q,r.length,cq))) :
  ∃f,OH lim none 1 24 false (.slice p l.length c) (.slice (Sa b) 1 k) (G++X)=some (.slice (Sa (G.length+X.length)) (l.length+1) (loose 1),f++[])/\RowsAt h0 (f++[]) (Sa (G.length+X.length)) (loose 1) (ds++[(q,r.length,cq)]) (l++[r])/\Chg (blk p) G (f++[]):=by
 obtain ⟨f,e1,u,_,j,l2,_⟩:=h.own.step (lim':=lim) (bytes:=24) g TM (by decide) (q,r.length,cq) (by rw [h.len];unfold PS;omega) (by rw [h.len];omega) v X b k w
 rw [h.len] at e1
 have hc:Chg (blk p) G (f++[]):=Nkm j (by simp;omega)
 refine ⟨f,e1,⟨u,by simp [h.len],fun k n=>?_,fun k n a b' m hb=>?_⟩,hc⟩
 ·by_cases d:k<l.length
  ·rw [QW (by rw [h.len];exact d),QW d]
   exact ⟨(h.row k d).1,(h.row k d).2.chg hc fun a e o=>by
    obtain ⟨b',h1,h2⟩:=Sz.1 o
    exact h.ap k d a b' e h1 h2.symm⟩
  ·have:k=l.length:=by simp at n;omega
   subst this
   rw [show gt (ds++[(q,r.length,cq)]) l.length=(q,r.length,cq) by rw [<-h.len];exact Rl (i:=0),show gt (l++[r]) l.length=r from Rl (i:=0)]
   exact ⟨rfl,t.chg hc fun a e o=>by
    obtain ⟨b',h1,h2⟩:=Sz.1 o
    exact s a b' e h1 h2.symm⟩
 ·cases hb
  show a.block≠G.length+X.length
  have key:a.block<G.length:=by
   by_cases d:k<l.length
   ·rw [QW (by rw [h.len];exact d)] at m
    exact ((h.row k d).2.block m).2
   ·have:k=l.length:=by simp at n;omega
    subst this
    rw [show gt (ds++[(q,r.length,cq)]) l.length=(q,r.length,cq) by rw [<-h.len];exact Rl (i:=0)] at m
    exact (t.block m).2
  omega
def bdC:ACode->ACode
 | .block _ b=>b
 | c=>c
def B46:ACode:=bdC (hdC (Vf (Vf WX)))
def WL:ACode:=Vf (Vf (Vf (Vf B46)))
def Ndo:ACode:=Vf (Vf WL)
theorem Nhy:WL=.seq (hdC WL) (.seq (hdC (Vf WL)) Ndo):=rfl
theorem Nte:WX=.seq (hdC WX) (.seq (hdC (Vf WX)) (.seq (.block 1 (.seq (hdC B46) (.seq (hdC (Vf B46)) (.seq (hdC (Vf (Vf B46))) (.seq (hdC (Vf (Vf (Vf B46)))) WL))))) (Vf (Vf (Vf WX))))):=rfl
theorem and1:∀f:Fin 256,(IntKind.u8.wrap ((BitVec.ofInt IntKind.u8.bits ((f.val:Nat):Int) &&& BitVec.ofInt IntKind.u8.bits 1).toNat:Int)=0)↔(f.val % 2=0):=by decide +kernel
theorem Nxp (s:QY):fl s<256:=(gt s.toList 12).toNat_lt
theorem Nxk (s:QY):ln s<256:=(gt s.toList 13).toNat_lt
theorem Nma {s:QY} {n:Nat} (h:QH s n=true):fl s<=3/\ln s<=18/\Ri s 0<=1073741824/\Ri s 4<=1073741824:=by
 simp only [QH,Nq,Nx] at h
 omega
def Zi:ACode:=Vf (Vf (Vf (Vf c76)))
theorem Nt9:c76=.seq (hdC c76) (.seq (hdC (Vf c76)) (.seq (hdC (Vf (Vf c76))) (.seq (hdC (Vf (Vf (Vf c76)))) Zi))):=rfl
theorem Yc [OA] {lim n c:Nat} {p:Option Addr} {a:List QY} {H:NB} {Q:Value->NB->Prop} (hs:Sl H Sk 32 p a) (hn:n=a.length) (bm:a.length<2 ^ 20) (al:lim<=H.length)
  (hQ:∀G q cq ds,Chg [] H G->RowsAt H.length G q cq ds (recs a).1->Q (.tuple #[.slice q (recs a).1.length cq,Vi (QA a:Int),Vi ((recs a).2:Int)]) G) :
  NP E false lim 76 [.slice p n c] H Q:=by
 subst hn
 refine runs (by decide) e76 rfl ?_
 rw [b76,Nt9]
 simp only [c76,hdC,Vf]
 simp only [n76,r76,SB,Nat.reduceLT,NC,NH,Nat.reduceEqDiff,NG,NQ,reduceCtorEq,ND,place,NA,Nat.reduceAdd,Nat.reduceLeDiff,NE,Int.reduceEq,Int.reduceLT,Int.reduceLE]
 have bg:QA a<2 ^ 32:=by
  unfold QA
  split
  ·decide
  ·rename_i s _
   unfold Ri
   have h1:=Ngb ((s.toList.drop 0).take 4)
   have h2:((s.toList.drop 0).take 4).length<=4:=by simp
   have h3:256 ^ ((s.toList.drop 0).take 4).length<=256 ^ 4:=Nat.pow_le_pow_right (by decide) h2
   omega
 have fin:∀(fr:Nat->Value) (G:NB) (q:Option Addr) (cq:Nat) (ds:List Vw),Chg [] H G->RowsAt H.length G q cq ds (recs a).1->fr 2=.slice q (recs a).1.length cq->fr 3=Vi (QA a:Int)->fr 4=Vi ((recs a).2:Int)->QZ E a76 lim [.code Zi] fr (G++[]) Q:=by
  intro fr G q cq ds hC hR u m v
  unfold Zi
  simp only [c76,Vf]
  simp only [n76,r76,u,m,v,SB,Nat.reduceLT,NC,NH,Nat.reduceEqDiff,NG,NQ,reduceCtorEq,ND,place,NA,Nat.reduceAdd,Nat.reduceLeDiff,NE,Int.reduceEq,Int.reduceLT,Int.reduceLE]
  exact hQ _ _ _ _ hC.app (hR.chg Chg.refl.app (L:=[]) (by simp) (by simp))
 refine QC (fun s:(Nat×Bool×Nat)×(Option Addr×Nat×List UInt8)×(Option Addr×Nat×List Vw×List (List UInt8))×Nat=>a.length-s.1.1)
  (fun s fr G=>s.1.1<=a.length/\fr 0=.slice p a.length c/\fr 2=.slice s.2.2.1.1 s.2.2.1.2.2.2.length s.2.2.1.2.1/\fr 3=Vi (if s.1.1=0 then 0 else (QA a:Int))/\fr 4=Vi s.2.2.2/\fr 5=.slice s.2.1.1 s.2.1.2.2.length s.2.1.2.1/\fr 6=.bool s.1.2.1/\fr 7=Vi s.1.2.2/\fr 12=Vi a.length/\fr 13=Vi s.1.1/\
   recs a=TL (QA a) s.1.1 (a.drop s.1.1) s.1.2.1 s.1.2.2 s.2.1.2.2 s.2.2.1.2.2.2 s.2.2.2/\Chg [] H G/\RowsAt H.length G s.2.2.1.1 s.2.2.1.2.1 s.2.2.1.2.2.1 s.2.2.1.2.2.2/\Own H.length G Uf 1 s.2.1.1 s.2.1.2.1 s.2.1.2.2/\
   (∀x y,s.2.1.1=some x->s.2.2.1.1=some y->x.block≠y.block)/\(∀k,k<s.2.2.1.2.2.2.length->∀x y,(gt s.2.2.1.2.2.1 k).1=some x->s.2.1.1=some y->x.block≠y.block)/\s.2.1.2.2.length<=18*s.1.1/\s.2.2.1.2.2.2.length<=s.1.1)
  ((0,false,0),(none,0,[]),(none,0,[],[]),0)
  ⟨N5 _,(by simp only [FB,Nat.reduceEqDiff]),(by simp only [Nn,FB,Nat.reduceEqDiff]),by rfl,by rfl,(by simp only [Nn,FB,Nat.reduceEqDiff]),(by simp only [FB,Nat.reduceEqDiff]),by rfl,(by simp only [FB,Nat.reduceEqDiff]),by rfl,rfl,Chg.refl.app,RowsAt.nil,Own.nil,(by intro x y h;cases h),(by intro k hk;simp at hk),N5 _,N5 _⟩ ?_
 rintro ⟨⟨i,ins,life⟩,⟨q,cq,rec⟩,⟨p2,c2,ds,l⟩,e⟩ fr G ⟨hi,A,u,m,v,C,K,M,f,g,o,hC,hR,hO,Z,aa,be,bb⟩ hN
 simp only at hi u m v C K M g o hR hO Z aa be bb
 obtain ⟨L,hL⟩:∃L,L=WX:=⟨_,rfl⟩
 have hI:AItem.inLoop WX=AItem.inLoop L:=by rw [hL]
 rw [hI] at hN⊢
 rw [QF Nte]
 simp only [WX,B46,bdC,hdC,Vf]
 refine NI ?_
 have a8:=hC.len
 by_cases F:i<a.length
 ·have av:=hC.sl hs (by simp)
  have am:=SecAt.of_elt av F
  have ak:=fun c (k:IntKind) (H1:NB)=>av.idx (c:=c) (k:=k) (H1:=H1) F
  have a9:a.drop i=gt a i::a.drop (i+1):=by rw [Pa F,UQ F]
  rw [a9] at o
  generalize bf:gt a i=s at am o
  have hX:=fun X=>am.app X
  have B:=fun X (mp:Bool) (lim:Nat) (Q:Value->NB->Prop)=>Yj (mp:=mp) (lim:=lim) (Q:=Q) (n:=0) (hX X) (by decide)
  have w:=fun X (mp:Bool) (lim:Nat) (Q:Value->NB->Prop)=>Yj (mp:=mp) (lim:=lim) (Q:=Q) (n:=4) (hX X) (by decide)
  simp only [N4] at B w
  have Y:∀X (mp:Bool) (lim:Nat) (Q:Value->NB->Prop),NP E mp lim 121 [.pointer (some (WA p 32 i))] (G++X) Q=Q (.int .u8 (fl s:Int)) (G++X):=fun X mp lim Q=>Naw (hX X)
  have gm:=fun X (mp:Bool) (lim:Nat) (Q:Value->NB->Prop)=>Ncy (mp:=mp) (lim:=lim) (Q:=Q) (n:=i) (hX X) (by omega)
  have a1:(IntKind.u8.wrap ((BitVec.ofInt IntKind.u8.bits (fl s:Int) &&& BitVec.ofInt IntKind.u8.bits 1).toNat:Int)=0)=(fl s % 2=0):=propext (and1 ⟨fl s,Nxp s⟩)
  have ba:i=0->Ri s 0=QA a:=fun h=>by
   subst h
   rw [<-bf,UQ F]
   cases a with
   | nil=>simp at F
   | cons x r=>rfl
  have az:∀fr:Nat->Value,fr 0=.slice p a.length c->fr 2=.slice p2 l.length c2->fr 3=Vi (QA a:Int)->fr 4=Vi e->fr 5=.slice q rec.length cq->fr 6=.bool ins->fr 7=Vi life->fr 8=Vi i->fr 9=.pointer (some (WA p 32 i))->fr 10=.bool (decide ¬fl s % 2=0)->fr 12=Vi a.length->fr 13=Vi i->
    QZ E a76 lim [.code WL,.inBlock 1,.code (.ops [Sym.i 80 (.bin .add (t 13) (k (Vi 1))),Sym.i 13 (.mov (t 80))]),.inLoop L,.inBlock 0,.code Zi] fr (G++[]) Q:=by
   clear A u m v C K M f g
   clear fr
   intro fr A u m v C K M S T D f g
   rw [Nhy]
   simp only [WL,B46,WX,bdC,hdC,Vf]
   have stop:Sj (QA a) i ins life s=false->∀fr:Nat->Value,fr 2=.slice p2 l.length c2->fr 3=Vi (QA a:Int)->fr 4=Vi e->QZ E a76 lim [.code Zi] fr (G++[]) Q:=fun h fr x2 x3 x4=>by
    have:recs a=(l,e):=by rw [o];simp [TL,h]
    exact fin fr G p2 c2 ds hC (by rw [this];exact hR) (by rw [this];exact x2) x3 (by rw [this];exact x4)
   cases J:QH s i with
   | false=>
     simp only [n76,r76,A,u,m,v,C,K,M,S,T,D,f,g,B,w,Y,gm,VM,J,SB,Nat.reduceLT,NC,NH,Nat.reduceEqDiff,NG,NQ,reduceCtorEq,ND,place,NA,Nat.reduceAdd,Nat.reduceLeDiff,NE,Int.reduceEq,Int.reduceLT,Int.reduceLE]
     exact stop (by simp [Sj,J]) _ (by simp only [u,FB,Nat.reduceEqDiff]) (by simp only [m,FB,Nat.reduceEqDiff]) (by simp only [v,FB,Nat.reduceEqDiff])
   | true=>
     obtain ⟨mf,ml,me,bn⟩:=Nma J
     by_cases h1:Ri s 0=QA a
     case neg=>
      simp only [n76,r76,A,u,m,v,C,K,M,S,T,D,f,g,B,w,Y,gm,VM,J,h1,SB,Nat.reduceLT,NC,NH,Nat.reduceEqDiff,NG,NQ,reduceCtorEq,ND,place,NA,Nat.reduceAdd,Nat.reduceLeDiff,NE,Int.reduceEq,Int.reduceLT,Int.reduceLE]
      exact stop (by simp [Sj,h1]) _ (by simp only [u,FB,Nat.reduceEqDiff]) (by simp only [m,FB,Nat.reduceEqDiff]) (by simp only [v,FB,Nat.reduceEqDiff])
     have R:(true == true)=true:=rfl
     have P:(true == false)=false:=rfl
     have O:(false == true)=false:=rfl
     have N:(false == false)=true:=rfl
     by_cases h2:(decide (fl s % 2=1) == ins)=true
     ·have:(fl s % 2=0)=(ins=false):=by
       cases ins<;>simp at h2<;>apply propext<;>simp<;>omega
      cases ins
      ·have z:fl s % 2=0:=by rw [this]
       simp only [n76,r76,A,u,m,v,C,K,M,S,T,D,f,g,B,w,Y,gm,VM,J,Py h1,Py z,R,P,O,N,decide_true,decide_false,SB,Nat.reduceLT,NC,NH,Nat.reduceEqDiff,NG,NQ,reduceCtorEq,ND,place,NA,Nat.reduceAdd,Nat.reduceLeDiff,NE,Int.reduceEq,Int.reduceLT,Int.reduceLE]
       exact stop (by unfold Sj;rw [h2];simp) _ (by simp only [u,FB,Nat.reduceEqDiff]) (by simp only [m,FB,Nat.reduceEqDiff]) (by simp only [v,FB,Nat.reduceEqDiff])
      ·have z:¬fl s % 2=0:=by rw [this];simp
       simp only [n76,r76,A,u,m,v,C,K,M,S,T,D,f,g,B,w,Y,gm,VM,J,Py h1,z,R,P,O,N,decide_true,decide_false,SB,Nat.reduceLT,NC,NH,Nat.reduceEqDiff,NG,NQ,reduceCtorEq,ND,place,NA,Nat.reduceAdd,Nat.reduceLeDiff,NE,Int.reduceEq,Int.reduceLT,Int.reduceLE]
       exact stop (by unfold Sj;rw [h2];simp) _ (by simp only [u,FB,Nat.reduceEqDiff]) (by simp only [m,FB,Nat.reduceEqDiff]) (by simp only [v,FB,Nat.reduceEqDiff])
     have au:(decide (fl s % 2=1) == ins)=false:=by simpa using h2
     have a2:=Nxu mf
     have bh:∀(kk:IntKind),0<=(13:Int)/\(13:Int)<32:=fun _=>by decide
     have ab:=fun X=>(hX X).cell (i:=13) (by decide)
     have wl:IntKind.i64.wrap ((gt s.toList 13).toNat:Int)=(ln s:Int):=by have:=Nxk s;exact QP (by unfold ln at this;omega) (by unfold ln at this;omega)
     have a3:IntKind.i64.wrap (14+(ln s:Int))=((14+ln s:Nat):Int):=by rw [QP (by omega) (by omega)];omega
     have a4:IntKind.i64.wrap ((i:Int)+1)=((i+1:Nat):Int):=Ra (by omega)
     have ac:=U9 (n:=32) (e:=1) (a:=WA p 32 i) (lo:=14) (hi:=14+ln s) (vlo:=some (Vi 14)) (vhi:=some (Vi ((14+ln s:Nat):Int))) (by rw [Neo (by decide) (by omega) (by omega),O1];rfl) (by decide) (by decide)
     rw [N8,Pi] at ac
     have ay:Sl (G++[.dead]) Uf 1 (some ((WA p 32 i).add 14)) (pay s):=by
      have:=(hX [.dead]).sl.sub Rt (lo:=14) (hi:=14+ln s) (by omega) (by rw [Xp];omega)
      rw [N8,List.drop_take,Pi] at this
      exact this
     have V:(pay s).length=ln s:=by unfold pay;simp;omega
     obtain ⟨W,q2,ah,e2,O2,_,ao,l2,bc,bd⟩:=hO.moreD (d:=G.length) (lim':=lim) (bytes:=1) al Rt (by decide) (pay s) (by rw [V];unfold PS;omega) (by rw [V];omega) a8 [.dead] (Nd _) (by simp) (x:=.slice (some ((WA p 32 i).add 14)) (ln s) 18) (str:=false) (by rw [<-V];exact Xd ay) (by rw [V];rfl)
     rw [V] at e2
     have cb:Chg (blk q) G (W++[]):=Nkm ao (by simpa using l2)
     have R2:RowsAt H.length (W++[]) p2 c2 ds l:=hR.chg cb (fun b hb J=>by
      obtain ⟨b',k1,k2⟩:=Sz.1 J
      exact Z b' b k1 hb k2) (fun k hk x hx J=>by
      obtain ⟨b',k1,k2⟩:=Sz.1 J
      exact aa k hk x b' hx k1 k2.symm)
     have C2:Chg [] H (W++[]):=hC.trans' cb fun j hj hl=>by
      obtain ⟨b',k1,k2⟩:=Sz.1 hj
      have:=(hO.block k1).1
      omega
     have ag:∀y,q2=some y->(q=some y)\/y.block=G.length:=fun y hy=>by
      by_cases ae:pay s=[]
      ·left
       rw [<-bd ae];exact hy
      ·right
       rw [bc ae] at hy;cases hy;rfl
     by_cases h3:Ri s 4<life
     ·have ai:=stop (by unfold Sj;rw [Oc (by omega:¬life<=Ri s 4)];simp)
      cases ins
      ·have z:¬fl s % 2=0:=by simp at h2;omega
       simp only [n76,r76,A,u,m,v,C,K,M,S,T,D,f,g,B,w,Y,gm,VM,J,Py h1,z,R,P,O,N,decide_true,decide_false,h3,SB,Nat.reduceLT,NC,NH,Nat.reduceEqDiff,NG,NQ,reduceCtorEq,ND,place,NA,Nat.reduceAdd,Nat.reduceLeDiff,NE,Int.reduceEq,Int.reduceLT,Int.reduceLE]
       exact ai _ (by simp only [u,FB,Nat.reduceEqDiff]) (by simp only [m,FB,Nat.reduceEqDiff]) (by simp only [v,FB,Nat.reduceEqDiff])
      ·have z:fl s % 2=0:=by simp at h2;omega
       simp only [n76,r76,A,u,m,v,C,K,M,S,T,D,f,g,B,w,Y,gm,VM,J,Py h1,Py z,R,P,O,N,decide_true,decide_false,h3,SB,Nat.reduceLT,NC,NH,Nat.reduceEqDiff,NG,NQ,reduceCtorEq,ND,place,NA,Nat.reduceAdd,Nat.reduceLeDiff,NE,Int.reduceEq,Int.reduceLT,Int.reduceLE]
       exact ai _ (by simp only [u,FB,Nat.reduceEqDiff]) (by simp only [m,FB,Nat.reduceEqDiff]) (by simp only [v,FB,Nat.reduceEqDiff])
     have go:Sj (QA a) i ins life s=true->∀fr:Nat->Value,fr 0=.slice p a.length c->fr 2=.slice p2 l.length c2->fr 3=Vi (QA a:Int)->fr 4=Vi e->fr 5=.slice q rec.length cq->fr 8=Vi i->fr 9=.pointer (some (WA p 32 i))->fr 12=Vi a.length->fr 13=Vi i->
       QZ E a76 lim [.code Ndo,.inBlock 1,.code (.ops [Sym.i 80 (.bin .add (t 13) (k (Vi 1))),Sym.i 13 (.mov (t 80))]),.inLoop L,.inBlock 0,.code Zi] fr (G++[]) Q:=by
      clear A u m v C K M S T D f g
      clear fr
      intro ax fr A u m v C S T f g
      unfold Ndo
      simp only [WL,B46,WX,bdC,hdC,Vf]
      have bl:(WA p 32 i).block<H.length:=by
       have ae:a≠[]:=by rintro rfl;simp at F
       obtain ⟨a0,rfl⟩:=hs.some ae
       simp only [WA,addrOf,Oj,Njt]
       exact hs.lt ae
      have aw:∀X (mp:Bool) (lim:Nat) (Q:Value->NB->Prop),NP E mp lim 121 [.pointer (some (WA p 32 i))] ((W++[])++X) Q=Q (.int .u8 (fl s:Int)) ((W++[])++X):=fun X mp lim Q=>Naw ((am.chg cb (fun J=>by
       obtain ⟨b',k1,k2⟩:=Sz.1 J
       have:=(hO.block k1).1
       omega)).app X)
      have aj:∀(mp:Bool) (lim:Nat) (Q:Value->NB->Prop),NP E mp lim 121 [.pointer (some (WA p 32 i))] (W++[]) Q=Q (.int .u8 (fl s:Int)) (W++[]):=fun mp lim Q=>by
       have:=aw [] mp lim Q
       rw [Nb (W++[])] at this
       exact this
      have U:(rec++pay s).length=rec.length+ln s:=by rw [Nj,V]
      have aq:∀x y,q2=some x->p2=some y->x.block≠y.block:=fun x y hx hy=>by
       rcases ag x hx with h | h
       ·exact Z x y h hy
       ·have:=(hR.own.block hy).2;omega
      have a6:∀k,k<l.length->∀x y,(gt ds k).1=some x->q2=some y->x.block≠y.block:=fun k hk x y hx hy=>by
       rcases ag y hy with h | h
       ·exact aa k hk x y hx h
       ·have:=((hR.row k hk).2.block hx).2;omega
      by_cases I:fl s<2
      ·simp only [n76,r76,A,u,m,v,C,S,T,f,g,w,ab,wl,a3,ac,e2,N8,Int.reduceToNat,aj,a2,a4,Py I,decide_true,SB,Nat.reduceLT,NC,NH,Nat.reduceEqDiff,NG,NQ,reduceCtorEq,ND,place,NA,Nat.reduceAdd,Nat.reduceLeDiff,NE,Int.reduceEq,Int.reduceLT,Int.reduceLE]
       refine hN ((i+1,true,Ri s 4),(q2,ah,rec++pay s),(p2,c2,ds,l),e) _ _ ⟨by show i+1<=_;omega,(by simp only [A,FB,Nat.reduceEqDiff]),(by simp only [u,FB,Nat.reduceEqDiff]), ?_,(by simp only [v,FB,Nat.reduceEqDiff]), ?_,(by simp only [FB,Nat.reduceEqDiff]),(by simp only [FB,Nat.reduceEqDiff]),(by simp only [f,FB,Nat.reduceEqDiff]),(by simp only [FB,Nat.reduceEqDiff]), ?_,C2,R2,O2,aq,a6, ?_, ?_⟩ (by show a.length-(i+1)<a.length-i;omega)
       ·show _=Value.int .i64 (if i+1=0 then (0:Int) else (QA a:Int))
        rw [Ni (by omega)];exact (by simp only [m,FB,Nat.reduceEqDiff])
       ·show _=Value.slice q2 (rec++pay s).length ah
        rw [U];exact (by simp only [FB,Nat.reduceEqDiff])
       ·show recs a=TL _ (i+1) (a.drop (i+1)) true (Ri s 4) (rec++pay s) l e
        rw [o];simp only [TL,ax,if_true,I]
       ·show (rec++pay s).length<=18*(i+1)
        rw [U];omega
       ·show l.length<=i+1;omega
      ·obtain ⟨G3,e3,R3,C3⟩:=R2.snoc (lim:=lim) al (by simp;omega) O2 aq (by omega) [Vc (Uy (q2,(rec++pay s).length,ah))] (W++[]).length 1 (by rw [NU];rfl)
       rw [U] at e3 R3
       simp only [Uy] at e3
       rw [Nb,Nb] at e3
       simp only [n76,r76,A,u,m,v,C,S,T,f,g,w,ab,wl,a3,ac,e2,N8,Int.reduceToNat,aj,a2,a4,I,decide_false,e3,SB,Nat.reduceLT,NC,NH,Nat.reduceEqDiff,NG,NQ,reduceCtorEq,ND,place,NA,Nat.reduceAdd,Nat.reduceLeDiff,NE,Int.reduceEq,Int.reduceLT,Int.reduceLE]
       rw [Nb G3,Nb W] at C3 R3
       rw [Nb] at C2
       have a5:Chg [] H G3:=C2.trans' C3 fun j hj hl=>by
        obtain ⟨b',k1,k2⟩:=Sz.1 hj
        have:=(R2.own.block k1).1
        omega
       refine hN ((i+1,false,Ri s 4),(none,0,[]),(Sa (W.length+1),loose 1,ds++[(q2,rec.length+ln s,ah)],l++[rec++pay s]),i+1) _ _ ⟨by show i+1<=_;omega,(by simp only [A,FB,Nat.reduceEqDiff]),(by simp only [Nj,Nm,Nn,FB,Nat.reduceEqDiff]), ?_,(by simp only [FB,Nat.reduceEqDiff]),(by simp only [Nn,FB,Nat.reduceEqDiff]),(by simp only [FB,Nat.reduceEqDiff]),(by simp only [FB,Nat.reduceEqDiff]),(by simp only [f,FB,Nat.reduceEqDiff]),(by simp only [FB,Nat.reduceEqDiff]), ?_,a5,R3,Own.nil,(by intro x y h;cases h),(by intro k hk x y _ h;cases h),N5 _, ?_⟩ (by show a.length-(i+1)<a.length-i;omega)
       ·show _=Value.int .i64 (if i+1=0 then (0:Int) else (QA a:Int))
        rw [Ni (by omega)];exact (by simp only [m,FB,Nat.reduceEqDiff])
       ·show recs a=TL _ (i+1) (a.drop (i+1)) false (Ri s 4) [] (l++[rec++pay s]) (i+1)
        rw [o];simp only [TL,ax,if_true,I,if_false]
       ·show (l++[rec++pay s]).length<=i+1
        simp;omega
     cases ins
     ·have z:¬fl s % 2=0:=by simp at h2;omega
      simp only [n76,r76,A,u,m,v,C,K,M,S,T,D,f,g,B,w,Y,gm,VM,J,Py h1,z,R,P,O,N,decide_true,decide_false,h3,SB,Nat.reduceLT,NC,NH,Nat.reduceEqDiff,NG,NQ,reduceCtorEq,ND,place,NA,Nat.reduceAdd,Nat.reduceLeDiff,NE,Int.reduceEq,Int.reduceLT,Int.reduceLE]
      exact go (by unfold Sj;rw [au,J,Oe h1,Oe (by omega:life<=Ri s 4)];rfl) _ (by simp only [A,FB,Nat.reduceEqDiff]) (by simp only [u,FB,Nat.reduceEqDiff]) (by simp only [m,FB,Nat.reduceEqDiff]) (by simp only [v,FB,Nat.reduceEqDiff]) (by simp only [C,FB,Nat.reduceEqDiff]) (by simp only [S,FB,Nat.reduceEqDiff]) (by simp only [T,FB,Nat.reduceEqDiff]) (by simp only [f,FB,Nat.reduceEqDiff]) (by simp only [g,FB,Nat.reduceEqDiff])
     ·have z:fl s % 2=0:=by simp at h2;omega
      by_cases h4:Ri s 4=life
      ·simp only [n76,r76,A,u,m,v,C,K,M,S,T,D,f,g,B,w,Y,gm,VM,J,Py h1,Py z,R,P,O,N,decide_true,decide_false,h3,Py h4,SB,Nat.reduceLT,NC,NH,Nat.reduceEqDiff,NG,NQ,reduceCtorEq,ND,place,NA,Nat.reduceAdd,Nat.reduceLeDiff,NE,Int.reduceEq,Int.reduceLT,Int.reduceLE]
       exact go (by unfold Sj;rw [au,J,Oe h1,Oe (by omega:life<=Ri s 4),Oe h4];rfl) _ (by simp only [A,FB,Nat.reduceEqDiff]) (by simp only [u,FB,Nat.reduceEqDiff]) (by simp only [m,FB,Nat.reduceEqDiff]) (by simp only [v,FB,Nat.reduceEqDiff]) (by simp only [C,FB,Nat.reduceEqDiff]) (by simp only [S,FB,Nat.reduceEqDiff]) (by simp only [T,FB,Nat.reduceEqDiff]) (by simp only [f,FB,Nat.reduceEqDiff]) (by simp only [g,FB,Nat.reduceEqDiff])
      ·have ai:=stop (by unfold Sj;rw [Oc h4];simp)
       simp only [n76,r76,A,u,m,v,C,K,M,S,T,D,f,g,B,w,Y,gm,VM,J,Py h1,Py z,R,P,O,N,decide_true,decide_false,h3,h4,SB,Nat.reduceLT,NC,NH,Nat.reduceEqDiff,NG,NQ,reduceCtorEq,ND,place,NA,Nat.reduceAdd,Nat.reduceLeDiff,NE,Int.reduceEq,Int.reduceLT,Int.reduceLE]
       exact ai _ (by simp only [u,FB,Nat.reduceEqDiff]) (by simp only [m,FB,Nat.reduceEqDiff]) (by simp only [v,FB,Nat.reduceEqDiff])
  by_cases an:i=0
  ·have h3:=ba an
   rw [Nk an] at m
   have ad:((i:Int)=0)=True:=Py (by omega)
   simp only [n76,r76,A,u,m,v,C,K,M,f,g,F,ak,Y,a1,ad,B,h3,decide_true,SB,Nat.reduceLT,NC,NH,Nat.reduceEqDiff,NG,NQ,reduceCtorEq,ND,place,NA,Nat.reduceAdd,Nat.reduceLeDiff,NE,Int.reduceEq,Int.reduceLT,Int.reduceLE]
   exact az _ (by simp only [A,FB,Nat.reduceEqDiff]) (by simp only [u,FB,Nat.reduceEqDiff]) (by simp only [FB,Nat.reduceEqDiff]) (by simp only [v,FB,Nat.reduceEqDiff]) (by simp only [C,FB,Nat.reduceEqDiff]) (by simp only [K,FB,Nat.reduceEqDiff]) (by simp only [M,FB,Nat.reduceEqDiff]) (by simp only [FB,Nat.reduceEqDiff]) (by simp only [FB,Nat.reduceEqDiff]) (by simp only [FB,Nat.reduceEqDiff]) (by simp only [f,FB,Nat.reduceEqDiff]) (by simp only [g,FB,Nat.reduceEqDiff])
  ·rw [Ni an] at m
   have ad:((i:Int)=0)=False:=Q2 (by omega)
   simp only [n76,r76,A,u,m,v,C,K,M,f,g,F,ak,Y,a1,ad,decide_false,SB,Nat.reduceLT,NC,NH,Nat.reduceEqDiff,NG,NQ,reduceCtorEq,ND,place,NA,Nat.reduceAdd,Nat.reduceLeDiff,NE,Int.reduceEq,Int.reduceLT,Int.reduceLE]
   exact az _ (by simp only [A,FB,Nat.reduceEqDiff]) (by simp only [u,FB,Nat.reduceEqDiff]) (by simp only [m,FB,Nat.reduceEqDiff]) (by simp only [v,FB,Nat.reduceEqDiff]) (by simp only [C,FB,Nat.reduceEqDiff]) (by simp only [K,FB,Nat.reduceEqDiff]) (by simp only [M,FB,Nat.reduceEqDiff]) (by simp only [FB,Nat.reduceEqDiff]) (by simp only [FB,Nat.reduceEqDiff]) (by simp only [FB,Nat.reduceEqDiff]) (by simp only [f,FB,Nat.reduceEqDiff]) (by simp only [g,FB,Nat.reduceEqDiff])
 ·obtain rfl:i=a.length:=by omega
  rw [Qw] at o
  simp only [TL] at o
  simp only [n76,r76,A,u,m,v,C,K,M,f,g,F,SB,Nat.reduceLT,NC,NH,Nat.reduceEqDiff,NG,NQ,reduceCtorEq,ND,place,NA,Nat.reduceAdd,Nat.reduceLeDiff,NE,Int.reduceEq,Int.reduceLT,Int.reduceLE]
  have h3:(if a.length=0 then (0:Int) else (QA a:Int))=(QA a:Int):=by
   split
   ·rename_i h
    rw [List.length_eq_zero_iff.1 h];rfl
   ·rfl
  exact fin _ G p2 c2 ds hC (by rw [o];exact hR) (by rw [o];exact (by simp only [u,FB,Nat.reduceEqDiff])) (by rw [<-h3];exact (by simp only [m,FB,Nat.reduceEqDiff])) (by rw [o];exact (by simp only [v,FB,Nat.reduceEqDiff]))
theorem Nrg [OA] {mp:Bool} {lim D B n c:Nat} {sp:Option Addr} {ro f:Bool} {r:List Value} {w:Wr} {H:NB} {Q:Value->NB->Prop} (h:NF H D=.cells ro (.slice sp n c::r)) (g:NF H B=.cells f [Vp D]) :
  NP E mp lim 117 [.agg (Wj w).toArray,Vp B] H Q=Q (.bool (!UF n w.pos)) H:=by
 refine pc (by decide) Nzh rfl rfl ?_
 rw [N0b,c117]
 have b:=fun X=>(QL.refl.app (X:=X)).cells h
 have e:=fun X=>(QL.refl.app (X:=X)).cells g
 have d:=fun X (a:Int) (mp:Bool) (lim:Nat) (Q:Value->NB->Prop)=>Ni7 (mp:=mp) (lim:=lim) (a:=a) (Q:=Q) (b X)
 simp only [n117,Nyl,b,e,d,R6,Yo,SB,Nat.reduceLT,NC,NH,Nat.reduceEqDiff,NG,NQ,reduceCtorEq,ND,place,NA,Nat.reduceAdd,Nat.reduceLeDiff,NE,Int.reduceEq,Int.reduceLT,Int.reduceLE]
theorem Nre [OA] {mp:Bool} {lim D B n c k:Nat} {sp pp:Option Addr} {ro t:Bool} {r:List Value} {pend:List Wr} {H:NB} {Q:Value->NB->Prop} (x:NF H D=.cells ro (.slice sp n c::r)) (v:NF H B=.cells t [Vp D]) (u:Sl H Wj 33 pp pend) (hn:pend.length<2 ^ 60) :
  NP E mp lim 152 [.slice pp pend.length k,.func (.func 117) #[] #[Vp B]] H Q=Q (Vi (match pend.findIdx? (fun w=>!UF n w.pos) with | some i=>(i:Int) | none=>-1)) H:=by
 refine pc (by decide) Ny0 rfl rfl ?_
 rw [Nzu,c152]
 simp only [n152,Nso,SB,Nat.reduceLT,NC,NH,Nat.reduceEqDiff,NG,NQ,reduceCtorEq,ND,place,NA,Nat.reduceAdd,Nat.reduceLeDiff,NE,Int.reduceEq,Int.reduceLT,Int.reduceLE]
 refine QC (fun i=>pend.length-i) (fun i fr G=>i<=pend.length/\fr 0=.slice pp pend.length k/\fr 1=.func (.func 117) #[] #[Vp B]/\fr 7=Vi pend.length/\fr 8=Vi i/\QL H G/\∀j,j<i->UF n (gt pend j).pos=true) 0
  ⟨N5 _,(by simp only [FB,Nat.reduceEqDiff]),(by simp only [FB,Nat.reduceEqDiff]),(by simp only [FB,Nat.reduceEqDiff]),by rfl,QL.refl.app,fun j e=>by omega⟩ ?_
 intro i fr G ⟨hi,o,p,q,s,g,b⟩ y
 rw [QF Nqz.eq_1]
 refine NI ?_
 by_cases a:i<pend.length
 ·have l:=fun X=>((g.sl u).app X).loadCells R6 a
  have d:=fun c (k:IntKind) (H1:NB)=>(g.sl u).idx (c:=c) (k:=k) (H1:=H1) a
  have m:IntKind.i64.wrap ((i:Int)+1)=((i+1:Nat):Int):=Ra (by omega)
  have f:=fun X (mp:Bool) (lim:Nat) (Q:Value->NB->Prop)=>Nrg (mp:=mp) (lim:=lim) (w:=gt pend i) (Q:=Q) ((QL.refl.app (X:=X)).cells (g.cells x)) ((QL.refl.app (X:=X)).cells (g.cells v))
  cases hh:UF n (gt pend i).pos with
  | true=>
    simp only [n152,Nso,o,p,q,s,a,l,d,m,f,hh,Ok,SB,Nat.reduceLT,NC,NH,Nat.reduceEqDiff,NG,NQ,reduceCtorEq,ND,place,NA,Nat.reduceAdd,Nat.reduceLeDiff,NE,Int.reduceEq,Int.reduceLT,Int.reduceLE]
    exact y (i+1) _ _ ⟨by omega,(by simp only [o,FB,Nat.reduceEqDiff]),(by simp only [p,FB,Nat.reduceEqDiff]),(by simp only [q,FB,Nat.reduceEqDiff]),(by simp only [FB,Nat.reduceEqDiff]),g.app,fun j e=>by
     rcases Ol j i with h | h
     ·exact b j h
     ·have:j=i:=by omega
      subst this;exact hh⟩ (by omega)
  | false=>
    simp only [n152,Nso,o,p,q,s,a,l,d,m,f,hh,Bool.not_false,SB,Nat.reduceLT,NC,NH,Nat.reduceEqDiff,NG,NQ,reduceCtorEq,ND,place,NA,Nat.reduceAdd,Nat.reduceLeDiff,NE,Int.reduceEq,Int.reduceLT,Int.reduceLE]
    have:pend.findIdx? (fun w=>!UF n w.pos)=some i:=by
     rw [List.findIdx?_eq_some_iff_getElem]
     refine ⟨a,by rw [<-UQ a,hh];rfl,fun j e=>?_⟩
     rw [<-UQ (by omega),b j e];simp
    rw [this]
 obtain rfl:i=pend.length:=by omega
 simp only [n152,Nso,o,p,q,s,a,SB,Nat.reduceLT,NC,NH,Nat.reduceEqDiff,NG,NQ,reduceCtorEq,ND,place,NA,Nat.reduceAdd,Nat.reduceLeDiff,NE,Int.reduceEq,Int.reduceLT,Int.reduceLE]
 have:pend.findIdx? (fun w=>!UF n w.pos)=none:=by
  rw [List.findIdx?_eq_none_iff]
  intro w z
  obtain ⟨j,e,rfl⟩:=List.mem_iff_getElem.1 z
  have:=b j e
  rw [UQ e] at this
  simp [this]
 rw [this]
def WK (n:Nat) (pend:List Wr):Bool:=decide (4<=n/\n<=32768)&&pend.all (fun w=>UF n w.pos)
theorem Ngy [OA] {mp:Bool} {lim D B n c k:Nat} {sp pp:Option Addr} {ro b:Bool} {r:List Value} {pend:List Wr} {H:NB} {Q:Value->NB->Prop} (e:NF H D=.cells ro (.slice sp n c::r)) (d:NF H B=.cells b [Vp D]) (f:Sl H Wj 33 pp pend) (hn:pend.length<2 ^ 60) :
  NP E mp lim 116 [.slice pp pend.length k,.func (.func 117) #[] #[Vp B]] H Q=Q (.bool (!pend.all (fun w=>UF n w.pos))) H:=by
 refine pc (by decide) Nzi rfl rfl ?_
 rw [N0c,c116]
 have a:=fun Y (mp:Bool) (lim:Nat) (Q:Value->NB->Prop)=>Nre (mp:=mp) (lim:=lim) (Q:=Q) (B:=B) (k:=k) (H:=H++Y) ((QL.refl.app).cells e) ((QL.refl.app).cells d) (f.app _) hn
 simp only [n116,Nym,a,SB,Nat.reduceLT,NC,NH,Nat.reduceEqDiff,NG,NQ,reduceCtorEq,ND,place,NA,Nat.reduceAdd,Nat.reduceLeDiff,NE,Int.reduceEq,Int.reduceLT,Int.reduceLE]
 cases hf:pend.findIdx? (fun w=>!UF n w.pos) with
 | none=>
   have:pend.all (fun w=>UF n w.pos)=true:=by
    rw [List.findIdx?_eq_none_iff] at hf
    rw [N2]
    intro x g
    simpa using hf x g
   simp [this]
 | some i=>
   rw [List.findIdx?_eq_some_iff_getElem] at hf
   obtain ⟨h1,h2,_⟩:=hf
   have:pend.all (fun w=>UF n w.pos)=false:=by
    rw [List.all_eq_false]
    exact ⟨pend[i],Qd h1,by simpa using h2⟩
   simp [this]
theorem Npi [OA] {mp:Bool} {lim D n c k:Nat} {sp pp:Option Addr} {ro:Bool} {pend:List Wr} {H:NB} {Q:Value->NB->Prop} (g:NF H D=.cells ro [.slice sp n c,.slice pp pend.length k]) (h:Sl H Wj 33 pp pend) (hn:pend.length<2 ^ 60) :
  NP E mp lim 73 [Vp D] H Q=Q (.bool (WK n pend)) H:=by
 refine pc (by decide) e73 rfl rfl ?_
 rw [b73,c73]
 have a:=fun X=>(QL.refl.app (X:=X)).cells g
 have b:=fun X (f:NF (H++X) H.length=Vc [Vp D]) (mp:Bool) (lim:Nat) (Q:Value->NB->Prop)=>Ngy (mp:=mp) (lim:=lim) (Q:=Q) (k:=k) (a X) f (h.app X) hn
 by_cases d:(4:Int)<=(n:Int)
 ·by_cases e:(n:Int)<=32768
  ·simp only [n73,r73,a,b,d,e,decide_true,Bool.not_not,SB,Nat.reduceLT,NC,NH,Nat.reduceEqDiff,NG,NQ,reduceCtorEq,ND,place,NA,Nat.reduceAdd,Nat.reduceLeDiff,NE,Int.reduceEq,Int.reduceLT,Int.reduceLE]
   simp only [WK,Oe (by omega:4<=n/\n<=32768),Bool.true_and]
  ·simp only [n73,r73,a,b,d,e,decide_true,decide_false,SB,Nat.reduceLT,NC,NH,Nat.reduceEqDiff,NG,NQ,reduceCtorEq,ND,place,NA,Nat.reduceAdd,Nat.reduceLeDiff,NE,Int.reduceEq,Int.reduceLT,Int.reduceLE]
   simp only [WK,Oc (by omega:¬(4<=n/\n<=32768)),Bool.false_and]
 ·simp only [n73,r73,a,b,d,decide_true,decide_false,SB,Nat.reduceLT,NC,NH,Nat.reduceEqDiff,NG,NQ,reduceCtorEq,ND,place,NA,Nat.reduceAdd,Nat.reduceLeDiff,NE,Int.reduceEq,Int.reduceLT,Int.reduceLE]
  simp only [WK,Oc (by omega:¬(4<=n/\n<=32768)),Bool.false_and]
def Vl:Nat->List QY->Nat×Nat->Nat×Nat
 | _,[],x=>x
 | i,s::r,x=>Vl (i+1) r (if QH s i then (max x.1 (Ri s 0),max x.2 (Ri s 4)) else x)
theorem Nmm {a:List QY} {i:Nat} {x:Nat×Nat} (h:i<a.length):Vl i (a.drop i) x=Vl (i+1) (a.drop (i+1)) (if QH (gt a i) i then (max x.1 (Ri (gt a i) 0),max x.2 (Ri (gt a i) 4)) else x):=by
 rw [Pa h,Vl,UQ h]
theorem Nxj {n m:Nat}:R7 true (Vi n) [Vi m]=some (Vi ((max n m:Nat):Int)):=by
 simp only [R7,V6,if_true]
 congr 2
 split<;>omega
theorem Nkh [OA] {lim:Nat} {p:Option Addr} {c:Nat} {a:List QY} {x:Nat×Nat} {fr:Nat->Value} {G:NB} {K:List AItem} {R:Value->NB->Prop} (C:Sl G Sk 32 p a) (J:a.length<2 ^ 30) (D:fr 2=Vi x.1) (F:fr 3=Vi x.2) (H:fr 5=.slice p a.length c) (r:fr 13=Vi a.length) (t:fr 14=Vi 0)
  (I:∀fr',fr' 2=Vi ((Vl 0 a x).1:Int)->fr' 3=Vi ((Vl 0 a x).2:Int)->fr' 8=fr 8->fr' 9=fr 9->QZ E a75 lim K fr' (G++[]) R) :
  QZ E a75 lim (.code (.loop Nqv)::.inBlock 2::K) fr G R:=by
 refine QC (fun s:Nat×Nat×Nat=>a.length-s.1) (fun s fr' G'=>s.1<=a.length/\G'=G/\fr' 2=Vi s.2.1/\fr' 3=Vi s.2.2/\fr' 5=.slice p a.length c/\fr' 13=Vi a.length/\fr' 14=Vi s.1/\fr' 8=fr 8/\fr' 9=fr 9/\Vl 0 a x=Vl s.1 (a.drop s.1) s.2) (0,x)
  ⟨N5 _,rfl,D,F,H,r,t,rfl,rfl,rfl⟩ ?_
 rintro ⟨i,y⟩ fr' G' ⟨hi,rfl,l,m,o,d,e,u,v,f⟩ B
 simp only at hi l m e f
 rw [QF Nqv.eq_1]
 refine NI ?_
 by_cases b:i<a.length
 ·have z:=SecAt.of_elt C b
  have g:=fun c (k:IntKind) (H1:NB)=>C.idx (c:=c) (k:=k) (H1:=H1) b
  have w:=fun X=>z.app X
  have h:=fun X (mp:Bool) (lim:Nat) (Q:Value->NB->Prop)=>Yj (mp:=mp) (lim:=lim) (Q:=Q) (n:=0) (w X) (by decide)
  have j:=fun X (mp:Bool) (lim:Nat) (Q:Value->NB->Prop)=>Yj (mp:=mp) (lim:=lim) (Q:=Q) (n:=4) (w X) (by decide)
  simp only [N4] at h j
  have A:=fun X (mp:Bool) (lim:Nat) (Q:Value->NB->Prop)=>Ncy (mp:=mp) (lim:=lim) (Q:=Q) (n:=i) (w X) (by omega)
  have q:IntKind.i64.wrap ((i:Int)+1)=((i+1:Nat):Int):=Ra (by omega)
  rw [Nmm b] at f
  cases hm:QH (gt a i) i with
  | true=>
    rw [hm,Nk rfl] at f
    simp only [n75,r75,l,m,o,d,e,b,g,h,j,A,hm,q,Nxj,SB,Nat.reduceLT,NC,NH,Nat.reduceEqDiff,NG,NQ,reduceCtorEq,ND,place,NA,Nat.reduceAdd,Nat.reduceLeDiff,NE,Int.reduceEq,Int.reduceLT,Int.reduceLE]
    have:=B (i+1,max y.1 (Ri (gt a i) 0),max y.2 (Ri (gt a i) 4))
    rw [Nb]
    exact this _ _ ⟨by show i+1<=_;omega,rfl,(by simp only [FB,Nat.reduceEqDiff]),(by simp only [FB,Nat.reduceEqDiff]),(by simp only [o,FB,Nat.reduceEqDiff]),(by simp only [d,FB,Nat.reduceEqDiff]),(by simp only [FB,Nat.reduceEqDiff]),by rw [<-u];exact (by simp only [FB,Nat.reduceEqDiff]),by rw [<-v];exact (by simp only [FB,Nat.reduceEqDiff]),f⟩ (by show _-(i+1)<_;omega)
  | false=>
    rw [hm,Ni (by decide)] at f
    simp only [n75,r75,l,m,o,d,e,b,g,h,j,A,hm,q,Nxj,SB,Nat.reduceLT,NC,NH,Nat.reduceEqDiff,NG,NQ,reduceCtorEq,ND,place,NA,Nat.reduceAdd,Nat.reduceLeDiff,NE,Int.reduceEq,Int.reduceLT,Int.reduceLE]
    rw [Nb]
    exact B (i+1,y) _ _ ⟨by show i+1<=_;omega,rfl,(by simp only [l,FB,Nat.reduceEqDiff]),(by simp only [m,FB,Nat.reduceEqDiff]),(by simp only [o,FB,Nat.reduceEqDiff]),(by simp only [d,FB,Nat.reduceEqDiff]),(by simp only [FB,Nat.reduceEqDiff]),by rw [<-u];exact (by simp only [FB,Nat.reduceEqDiff]),by rw [<-v];exact (by simp only [FB,Nat.reduceEqDiff]),f⟩ (by show _-(i+1)<_;omega)
 obtain rfl:i=a.length:=by omega
 rw [Qw,Vl] at f
 simp only [n75,r75,l,m,o,d,e,b,SB,Nat.reduceLT,NC,NH,Nat.reduceEqDiff,NG,NQ,reduceCtorEq,ND,place,NA,Nat.reduceAdd,Nat.reduceLeDiff,NE,Int.reduceEq,Int.reduceLT,Int.reduceLE]
 exact I _ (by rw [f];exact (by simp only [l,FB,Nat.reduceEqDiff])) (by rw [f];exact (by simp only [m,FB,Nat.reduceEqDiff])) (by rw [<-u];exact (by simp only [FB,Nat.reduceEqDiff])) (by rw [<-v];exact (by simp only [FB,Nat.reduceEqDiff]))
theorem Ngo [OA] {mp:Bool} {lim c c':Nat} {p q:Option Addr} {a b:List QY} {H:NB} {Q:Value->NB->Prop} (l:Sl H Sk 32 p a) (hb:Sl H Sk 32 q b) (r:a.length<2 ^ 30) (s:b.length<2 ^ 30) :
  NP E mp lim 75 [.agg #[.slice p a.length c,.slice q b.length c']] H Q=Q (.tuple #[Vi ((Vl 0 b (Vl 0 a (0,0))).1:Int),Vi ((Vl 0 b (Vl 0 a (0,0))).2:Int)]) H:=by
 refine pc (by decide) e75 rfl rfl ?_
 rw [b75,c75]
 have j:IntKind.i64.wrap ((0:Int)+1)=1:=by decide
 have k:IntKind.i64.wrap ((1:Int)+1)=2:=by decide
 simp only [n75,r75,SB,Nat.reduceLT,NC,NH,Nat.reduceEqDiff,NG,NQ,reduceCtorEq,ND,place,NA,Nat.reduceAdd,Nat.reduceLeDiff,NE,Int.reduceEq,Int.reduceLT,Int.reduceLE]
 rw [Nhb,<-TV,TV]
 rw [QF Nkg.eq_1]
 simp only [n75,r75,Qh,Int.toNat_one,N8,Ov,Ou,SB,Nat.reduceLT,NC,NH,Nat.reduceEqDiff,NG,NQ,reduceCtorEq,ND,place,NA,Nat.reduceAdd,Nat.reduceLeDiff,NE,Int.reduceEq,Int.reduceLT,Int.reduceLE]
 refine Nkh (c:=c) (x:=(0,0)) (l.app _) r (by simp only [N4,FB,Nat.reduceEqDiff]) (by simp only [N4,FB,Nat.reduceEqDiff]) (by simp only [FB,Nat.reduceEqDiff]) (by simp only [FB,Nat.reduceEqDiff]) (by simp only [FB,Nat.reduceEqDiff]) fun fr1 k2 k3 n o=>?_
 have e:fr1 8=.agg #[.slice p a.length c,.slice q b.length c']:=n.trans (by simp only [FB,Nat.reduceEqDiff])
 have f:fr1 9=Vi 0:=o.trans (by simp only [FB,Nat.reduceEqDiff])
 simp only [n75,r75,k2,k3,e,f,j,SB,Nat.reduceLT,NC,NH,Nat.reduceEqDiff,NG,NQ,reduceCtorEq,ND,place,NA,Nat.reduceAdd,Nat.reduceLeDiff,NE,Int.reduceEq,Int.reduceLT,Int.reduceLE]
 rw [TV,QF Nkg.eq_1]
 simp only [n75,r75,k2,k3,e,f,j,Qh,Int.toNat_one,N8,Ov,Ou,SB,Nat.reduceLT,NC,NH,Nat.reduceEqDiff,NG,NQ,reduceCtorEq,ND,place,NA,Nat.reduceAdd,Nat.reduceLeDiff,NE,Int.reduceEq,Int.reduceLT,Int.reduceLE]
 refine Nkh (c:=c') (x:=Vl 0 a (0,0)) (hb.app _) s (by simp only [k2,FB,Nat.reduceEqDiff]) (by simp only [k3,FB,Nat.reduceEqDiff]) (by simp only [FB,Nat.reduceEqDiff]) (by simp only [FB,Nat.reduceEqDiff]) (by simp only [FB,Nat.reduceEqDiff]) fun g h i t m=>?_
 have d:g 9=Vi 1:=m.trans (by simp only [FB,Nat.reduceEqDiff])
 simp only [n75,r75,h,i,d,k,SB,Nat.reduceLT,NC,NH,Nat.reduceEqDiff,NG,NQ,reduceCtorEq,ND,place,NA,Nat.reduceAdd,Nat.reduceLeDiff,NE,Int.reduceEq,Int.reduceLT,Int.reduceLE]
 rw [TV,QF Nkg.eq_1]
 simp only [n75,r75,h,i,d,k,SB,Nat.reduceLT,NC,NH,Nat.reduceEqDiff,NG,NQ,reduceCtorEq,ND,place,NA,Nat.reduceAdd,Nat.reduceLeDiff,NE,Int.reduceEq,Int.reduceLT,Int.reduceLE]
structure Lies (lim:Nat) (H:NB) (J D S area e lf n sc:Nat) (pp:Option Addr) (cp:Nat) (safe:List QY) (pend:List Wr):Prop where
 jl:JLies lim H J D area e lf n safe.length sc (Sa S) pp cp pend
 s:NF H S=Vc (safe.flatMap Sk)
 lS:lim<=S
 SD:S≠D
 SJ:S≠J
 ps:∀a,pp=some a->a.block≠S
 ne:safe≠[]
theorem Nyp {a b:Nat}:R7 true (Vi 0) [Vi ((a:Int)-(b:Int))]=some (Vi ((a-b:Nat):Int)):=by
 simp only [R7,V6,if_true]
 congr 2
 split<;>omega
theorem Nql (n:Nat):OT n<=n+1:=by unfold OT;omega
theorem Nuc [OA] {mp:Bool} {lim l2 J D S area e lf n sc cp:Nat} {pp:Option Addr} {safe:List QY} {pend:List Wr} {H:NB} {Q:Value->NB->Prop} (h:Lies l2 H J D S area e lf n sc pp cp safe pend) (hn:safe.length<2 ^ 30) (f:n<2 ^ 30) :
  NP E mp lim 82 [Vp J] H Q=Q (Vi ((safe.length / 2-n:Nat):Int)) H:=by
 refine pc (by decide) e82 rfl rfl ?_
 rw [b82,c82]
 have a:=fun X=>(QL.refl.app (X:=X)).cells h.jl.j
 have b:=fun X=>(QL.refl.app (X:=X)).cells h.jl.d
 have c:=fun X (mp:Bool) (lim:Nat) (Q:Value->NB->Prop)=>VY (mp:=mp) (lim:=lim) (Q:=Q) (a X)
 have g:=fun X (mp:Bool) (lim:Nat) (Q:Value->NB->Prop)=>Ndn (mp:=mp) (lim:=lim) (Q:=Q) (b X) (by omega)
 have i:IntKind.i64.wrap (((safe.length / 2:Nat):Int)-(n:Int))=((safe.length / 2:Nat):Int)-(n:Int):=QP (by omega) (by omega)
 simp only [n82,r82,c,g,a,i,Nyp,SB,Nat.reduceLT,NC,NH,Nat.reduceEqDiff,NG,NQ,reduceCtorEq,ND,place,NA,Nat.reduceAdd,Nat.reduceLeDiff,NE,Int.reduceEq,Int.reduceLT,Int.reduceLE]
theorem Nom [OA] {lim J D S area e lf n sc cp:Nat} {pp:Option Addr} {safe:List QY} {pend:List Wr} {H:NB} {Q:Value->NB->Prop} (h:Lies lim H J D S area e lf n sc pp cp safe pend) (hn:safe.length<2 ^ 30) (l:pend.length<2 ^ 30)
  (i:∀H',Chg [S,D] H H'->Lies lim H' J D S area e lf n sc none 0 (QQ [] pend safe) []->Q (Vi 0) H') :
  NP E false lim 66 [Vp J] H Q:=by
 refine runs (by decide) e66 rfl ?_
 rw [b66,c66]
 have b:=fun X=>(QL.refl.app (X:=X)).cells h.jl.j
 have k:=fun X (mp:Bool) (lim:Nat) (Q:Value->NB->Prop)=>VY (mp:=mp) (lim:=lim) (Q:=Q) (b X)
 simp only [n66,r66,k,b,SB,Nat.reduceLT,NC,NH,Nat.reduceEqDiff,NG,NQ,reduceCtorEq,ND,place,NA,Nat.reduceAdd,Nat.reduceLeDiff,NE,Int.reduceEq,Int.reduceLT,Int.reduceLE]
 rw [Nb]
 refine Nkr h.jl.d h.jl.lD (fun _=>⟨rfl,h.s,h.lS⟩) h.SD (h.jl.own.sl R6) (fun a e _=>⟨h.ps a e,(h.jl.ap a e).2⟩) (by omega) (by omega) fun H' g c f=>?_
 refine NI ?_
 simp only [n66,r66,SB,Nat.reduceLT,NC,NH,Nat.reduceEqDiff,NG,NQ,reduceCtorEq,ND,place,NA,Nat.reduceAdd,Nat.reduceLeDiff,NE,Int.reduceEq,Int.reduceLT,Int.reduceLE]
 have hl:(QQ [] pend safe).length=safe.length:=QX
 rw [Nb]
 refine i H' g ⟨⟨g.cells h.jl.j (by simp [h.SJ.symm,h.jl.JD]),by rw [hl];exact c,Own.nil,h.jl.lJ,h.jl.lD,h.jl.JD,by intro a e;cases e⟩,f h.ne,h.lS,h.SD,h.SJ,(by intro a e;cases e),fun e=>h.ne (by rw [<-List.length_eq_zero_iff,<-hl,e];rfl)⟩
theorem Chg.lies {lim J D S area e lf n sc cp:Nat} {pp:Option Addr} {safe:List QY} {pend:List Wr} {H H':NB} {L:List Nat} (h:Lies lim H J D S area e lf n sc pp cp safe pend) (hc:Chg L H H') (c:∀j∈L,j≠J/\j≠D/\j≠S/\∀a,pp=some a->a.block≠j):Lies lim H' J D S area e lf n sc pp cp safe pend:=by
 have b:∀j,(j=J\/j=D\/j=S)->j∉L:=fun j h1 h2=>by have:=c j h2;omega
 exact ⟨⟨hc.cells h.jl.j (b _ (by omega)),hc.cells h.jl.d (b _ (by omega)),h.jl.own.chg hc fun a e f=>(c _ f).2.2.2 a e rfl,h.jl.lJ,h.jl.lD,h.jl.JD,h.jl.ap⟩,hc.cells h.s (b _ (by omega)),h.lS,h.SD,h.SJ,h.ps,h.ne⟩
theorem Ncl [OA] {lim J D S area e lf n sc cp c:Nat} {pp p:Option Addr} {safe:List QY} {pend:List Wr} {b:List UInt8} {H:NB} {Q:Value->NB->Prop} (h:Lies lim H J D S area e lf n sc pp cp safe pend) (t:Sl H Uf 1 p b) (hc:Uo 1 c b.length) (u:b=[]->p=none) (hp:∀a,p=some a->b≠[]->a.block≠J/\a.block≠D/\a.block∉blk pp) (hb:b.length<2 ^ 20) (hn:safe.length<2 ^ 30) (m:pend.length<2 ^ 30) (l:n<2 ^ 30) (j:area<=1)
  (q:∀H' d f,Chg (J::D::blk pp) H H'->(∀a,d=some a->a.block∉blk pp->H.length<=a.block)->Lies lim H' J D S area e lf (n+OT b.length) sc d f safe (pend++Ru (area*(safe.length / 2)) e lf n (W9 b))->Q (.tuple #[]) (H'++[])) :
  NP E false lim 78 [Vp J,.slice p b.length c] H Q:=by
 refine Nos h.jl t hc u hp hb m l hn j fun H' d f k1 k2 k3=>q H' d f k1 k3 ?_
 rw [Td] at k2
 have i:S∉blk pp:=fun k=>by
  cases pp with
  | none=>simp [blk] at k
  | some a=>simp only [blk,Ng] at k;exact h.ps a rfl k.symm
 have r:S<H.length:=NJ h.s
 refine ⟨k2,k1.cells h.s (by simp only [Nh,not_or];exact ⟨h.SJ,h.SD,i⟩),h.lS,h.SD,h.SJ,fun a o=>?_,h.ne⟩
 by_cases g:a.block∈blk pp
 ·intro e1;rw [e1] at g;exact i g
 ·have:=k3 a o g;omega
theorem Nop [OA] {lim J D S area e lf n sc cp c:Nat} {pp p:Option Addr} {safe:List QY} {pend:List Wr} {b:List UInt8} {H:NB} {Q:Value->NB->Prop} (h:Lies lim H J D S area e lf n sc pp cp safe pend) (x:Sl H Uf 1 p b) (hc:Uo 1 c b.length) (y:b=[]->p=none) (hp:∀a,p=some a->b≠[]->a.block≠J/\a.block≠D/\a.block∉blk pp) (hb:b.length<=4000) (hn:safe.length<2 ^ 30) (s:pend.length<2 ^ 30) (m:n<2 ^ 30) (r:area<=1)
  (v:safe.length / 2-n<OT b.length->Q (Vi 4) H)
  (w:∀H' d f,OT b.length<=safe.length / 2-n->Chg (J::D::blk pp) H H'->(∀a,d=some a->a.block∉blk pp->H.length<=a.block)->Lies lim H' J D S area e lf (n+OT b.length) sc d f safe (pend++Ru (area*(safe.length / 2)) e lf n (W9 b))->Q (Vi 0) H') :
  NP E false lim 36 [Vp J,.slice p b.length c] H Q:=by
 refine runs (by decide) e36 rfl ?_
 rw [b36,c36]
 have g:=fun X=>(QL.refl.app (X:=X)).cells h.jl.j
 have u:=fun X (mp:Bool) (lim:Nat) (Q:Value->NB->Prop)=>VY (mp:=mp) (lim:=lim) (Q:=Q) (g X)
 have l:=fun X (mp:Bool) (lim:Nat) (Q:Value->NB->Prop)=>Nta (mp:=mp) (lim:=lim) (Q:=Q) (H:=H++X) (p:=p) (k:=c) (n:=b.length) (by omega)
 have q:=fun X=>Chg.lies h (Chg.refl.app (X:=X):Chg [] H (H++X)) (by simp)
 have o:=fun X (mp:Bool) (l2:Nat) (Q:Value->NB->Prop)=>Nuc (mp:=mp) (lim:=l2) (Q:=Q) (q X) hn m
 have t:¬(4000:Int)<(b.length:Int):=by omega
 by_cases hr:safe.length / 2-n<OT b.length
 ·have i:(((safe.length / 2-n:Nat):Int)<(OT b.length:Int)):=by omega
  simp only [n36,r36,u,g,t,l,o,i,SB,Nat.reduceLT,NC,NH,Nat.reduceEqDiff,NG,NQ,reduceCtorEq,ND,place,NA,Nat.reduceAdd,Nat.reduceLeDiff,NE,Int.reduceEq,Int.reduceLT,Int.reduceLE]
  rw [Nb]
  exact v hr
 ·have i:¬(((safe.length / 2-n:Nat):Int)<(OT b.length:Int)):=by omega
  simp only [n36,r36,u,g,t,l,o,i,SB,Nat.reduceLT,NC,NH,Nat.reduceEqDiff,NG,NQ,reduceCtorEq,ND,place,NA,Nat.reduceAdd,Nat.reduceLeDiff,NE,Int.reduceEq,Int.reduceLT,Int.reduceLE]
  rw [Nb]
  refine Ncl h x hc y hp (by omega) hn s m r fun H' d f k1 k2 k3=>?_
  simp only [n36,r36,SB,Nat.reduceLT,NC,NH,Nat.reduceEqDiff,NG,NQ,reduceCtorEq,ND,place,NA,Nat.reduceAdd,Nat.reduceLeDiff,NE,Int.reduceEq,Int.reduceLT,Int.reduceLE]
  rw [Nb]
  exact w H' d f (by omega) k1 k2 k3
def TN (pend:List Wr) (safe:List QY) (area:Nat):List QY:=((XI pend safe).drop (area*(safe.length / 2))).take (safe.length / 2)
theorem Nlf {pend:List Wr} {safe:List QY}:(XI pend safe).length=safe.length:=by unfold XI;exact QX
theorem X3 {pend:List Wr} {safe:List QY} {area:Nat} (h:area<=1):(TN pend safe area).length=safe.length / 2:=by
 unfold TN
 rw [N7,Ow,Nlf]
 rcases (show area=0\/area=1 by omega) with rfl | rfl<;>omega
theorem Nko {pend:List Wr} {safe:List QY}:TN pend safe 0=(XI pend safe).take (safe.length / 2):=by simp [TN]
theorem Nkn {pend:List Wr} {safe:List QY}:TN pend safe 1=((XI pend safe).drop (safe.length / 2)).take (safe.length / 2):=by simp [TN]
theorem Nj0 [OA] {lim J D S area e lf n sc cp l2:Nat} {pp:Option Addr} {safe:List QY} {pend:List Wr} {H:NB} {Q:Value->NB->Prop} (h:Lies l2 H J D S area e lf n sc pp cp safe pend) (hn:safe.length<2 ^ 20) (o:pend.length<2 ^ 30) (g:area<=1) (hl:lim<=H.length)
  (l:∀G h0 q cq ds,Chg [] H G->H.length<=h0->RowsAt h0 G q cq ds (recs (TN pend safe area)).1->Q (.slice q (recs (TN pend safe area)).1.length cq) G) :
  NP E false lim 68 [Vp J] H Q:=by
 refine runs (by decide) e68 rfl ?_
 rw [b68,c68]
 have f:=fun X=>(QL.refl.app (X:=X)).cells h.jl.j
 have m:=fun X (mp:Bool) (lim:Nat) (Q:Value->NB->Prop)=>VY (mp:=mp) (lim:=lim) (Q:=Q) (f X)
 simp only [n68,r68,m,f,SB,Nat.reduceLT,NC,NH,Nat.reduceEqDiff,NG,NQ,reduceCtorEq,ND,place,NA,Nat.reduceAdd,Nat.reduceLeDiff,NE,Int.reduceEq,Int.reduceLT,Int.reduceLE]
 rw [Nb]
 have hS:Sl H Sk 32 (Sa S) safe:=Sl.row RS h.s
 refine Ng5 h.jl.d hS h.ne (h.jl.own.sl R6) (by omega) (by omega) (by omega) fun H' p c q c' i h0 h1=>?_
 rw [<-Nko] at h0
 rw [<-Nkn] at h1
 have a:=i.len
 refine NI ?_
 have b:=fun X=>(QL.refl.app (X:=X)).cells (i.cells h.jl.j (by simp))
 have key:∀(p:Option Addr) (c:Nat) (k:Value->NB->Prop),Sl H' Sk 32 p (TN pend safe area)->(∀G q cq ds,Chg [] H' G->RowsAt H'.length G q cq ds (recs (TN pend safe area)).1->k (.tuple #[.slice q (recs (TN pend safe area)).1.length cq,Vi (QA (TN pend safe area):Int),Vi ((recs (TN pend safe area)).2:Int)]) G)->NP E false lim 76 [.slice p (safe.length / 2) c] H' k:=fun p c k t r=>Yc t (X3 g).symm (by rw [X3 g];omega) (by omega) r
 rcases (show area=0\/area=1 by omega) with rfl | rfl
 ·simp only [n68,r68,b,N4,Qh,Int.toNat_one,N8,Ov,Ou,SB,Nat.reduceLT,NC,NH,Nat.reduceEqDiff,NG,NQ,reduceCtorEq,ND,place,NA,Nat.reduceAdd,Nat.reduceLeDiff,NE,Int.reduceEq,Int.reduceLT,Int.reduceLE]
  rw [Nb]
  refine key p c _ h0 fun G q cq ds k1 k2=>?_
  refine NI ?_
  simp only [n68,r68,SB,Nat.reduceLT,NC,NH,Nat.reduceEqDiff,NG,NQ,reduceCtorEq,ND,place,NA,Nat.reduceAdd,Nat.reduceLeDiff,NE,Int.reduceEq,Int.reduceLT,Int.reduceLE]
  rw [Nb]
  exact l G _ q cq ds (i.trans' k1 fun j h _=>by simp at h) a k2
 ·simp only [n68,r68,b,N4,Qh,Int.toNat_one,N8,Ov,Ou,SB,Nat.reduceLT,NC,NH,Nat.reduceEqDiff,NG,NQ,reduceCtorEq,ND,place,NA,Nat.reduceAdd,Nat.reduceLeDiff,NE,Int.reduceEq,Int.reduceLT,Int.reduceLE]
  rw [Nb]
  refine key q c' _ h1 fun G q cq ds k1 k2=>?_
  refine NI ?_
  simp only [n68,r68,SB,Nat.reduceLT,NC,NH,Nat.reduceEqDiff,NG,NQ,reduceCtorEq,ND,place,NA,Nat.reduceAdd,Nat.reduceLeDiff,NE,Int.reduceEq,Int.reduceLT,Int.reduceLE]
  rw [Nb]
  exact l G _ q cq ds (i.trans' k1 fun j h _=>by simp at h) a k2
abbrev OpS:=Bool×Nat×Nat×Nat
def Uh (a:List QY) (x:OpS):Bool:=decide (0<(recs a).1.length)&&(!x.1||decide (x.2.2.1<QA a))
def QU (i:Nat) (a:List QY) (x:OpS):OpS:=if Uh a x then (true,i,QA a,(recs a).2) else x
def XM (D life:Nat) (x:OpS):List Value:=[Vp D,Vi x.2.1,Vi x.2.2.1,Vi life,Vi x.2.2.2]
theorem Ntn [OA] {lim J D life c c':Nat} {p q:Option Addr} {A B:List QY} {fr:Nat->Value} {G:NB} {K:List AItem} {R:Value->NB->Prop} (hA:Sl G Sk 32 p A) (hB:Sl G Sk 32 q B) (nA:A.length<2 ^ 20) (nB:B.length<2 ^ 20) (pJ:∀a,p=some a->a.block≠J) (qJ:∀a,q=some a->a.block≠J) (hJ:NF G J=Vc (XM D life (false,0,0,0))) (lJ:lim<=J) (f7:fr 7=Vp J) (f8:fr 8=.bool false) (Y:fr 36=.agg #[.slice p A.length c,.slice q B.length c']) (Z:fr 37=Vi 0)
  (hR:∀fr' G',Chg [J] G G'->NF G' J=Vc (XM D life (QU 1 B (QU 0 A (false,0,0,0))))->fr' 8=.bool (QU 1 B (QU 0 A (false,0,0,0))).1->fr' 7=fr 7->fr' 0=fr 0->fr' 5=fr 5->QZ E a33 lim K fr' (G'++[]) R) :
  QZ E a33 lim (.code (.loop Nqw)::.inBlock 0::K) fr G R:=by
 have ab:=NJ hJ
 refine QC (fun s:Nat×OpS=>2-s.1) (fun s fr' G'=>s.1<=2/\Chg [J] G G'/\NF G' J=Vc (XM D life s.2)/\fr' 8=.bool s.2.1/\fr' 7=Vp J/\fr' 36=.agg #[.slice p A.length c,.slice q B.length c']/\fr' 37=Vi s.1/\fr' 0=fr 0/\fr' 5=fr 5/\(s.1=0->s.2=(false,0,0,0))/\(s.1=1->s.2=QU 0 A (false,0,0,0))/\(s.1=2->s.2=QU 1 B (QU 0 A (false,0,0,0)))) (0,(false,0,0,0))
  ⟨N5 _,Chg.refl,hJ,f8,f7,Y,Z,rfl,rfl,fun _=>rfl,fun h=>by simp at h,fun h=>by simp at h⟩ ?_
 rintro ⟨i,x⟩ fr' G' ⟨hi,N,I,n,m,d,k,F,H,h0,h1,h2⟩ L
 simp only at hi I n k h0 h1 h2
 rw [QF Nqw.eq_1]
 refine NI ?_
 have z:IntKind.i64.wrap ((0:Int)+1)=1:=by decide
 have C:IntKind.i64.wrap ((1:Int)+1)=2:=by decide
 have hl:=N.len
 rcases (show i=0\/i=1\/i=2 by omega) with rfl | rfl | rfl
 ·simp only [n33,r33,n,m,d,k,N4,Qh,Int.toNat_one,N8,Ov,Ou,z,C,SB,Nat.reduceLT,NC,NH,Nat.reduceEqDiff,NG,NQ,reduceCtorEq,ND,place,NA,Nat.reduceAdd,Nat.reduceLeDiff,NE,Int.reduceEq,Int.reduceLT,Int.reduceLE]
  rw [Nb]
  refine Yc (N.sl hA fun a W _=>by simpa using pJ a W) rfl (by omega) (by omega) fun O q2 cq ds k1 k2=>?_
  refine NI ?_
  have l:=fun X=>(QL.refl.app (X:=X)).cells (k1.cells I (by simp))
  simp only [XM] at l
  have o:Chg [J] G O:=N.trans' k1 fun j h _=>by simp at h
  cases ht:Uh A x with
  | true=>
    have e:QU 0 A x=(true,0,QA A,(recs A).2):=by unfold QU;rw [ht];rfl
    have aa:=k1.len
    obtain ⟨G3,T,Q,m3⟩:=RN (G:=O) (R:=J) (by omega) (Vc [Vp D,Vi 0,Vi x.2.2.1,Vi life,Vi x.2.2.2])
    obtain ⟨G4,U,S,m4⟩:=RN (NJ Q) (Vc [Vp D,Vi 0,Vi (QA A:Int),Vi life,Vi x.2.2.2])
    obtain ⟨P,V,M,m5⟩:=RN (NJ S) (Vc [Vp D,Vi 0,Vi (QA A:Int),Vi life,Vi ((recs A).2:Int)])
    have t:=fun X=>(QL.refl.app (X:=X)).cells Q
    have u:=fun X=>(QL.refl.app (X:=X)).cells S
    have v:Chg [J] G (P++[]):=(((o.mut m3 (.inl (by simp))).mut m4 (.inl (by simp))).mut m5 (.inl (by simp))).app
    have w:NF (P++[]) J=Vc (XM D life (QU 0 A x)):=by rw [e,Nb];exact M
    have g:=ht
    have b:(0:Int)<((recs A).1.length:Int):=by
     simp only [Uh,Nq,Nx] at g;omega
    cases f:x.1 with
    | false=>
      simp only [n33,r33,n,m,d,k,l,b,f,lJ,T,U,V,t,u,z,C,SB,Nat.reduceLT,NC,NH,Nat.reduceEqDiff,NG,NQ,reduceCtorEq,ND,place,NA,Nat.reduceAdd,Nat.reduceLeDiff,NE,Int.reduceEq,Int.reduceLT,Int.reduceLE]
      exact L (1,QU 0 A x) _ _ ⟨by show 1<=2;omega,v,w,by rw [e];exact (by simp only [FB,Nat.reduceEqDiff]),(by simp only [m,FB,Nat.reduceEqDiff]),(by simp only [d,FB,Nat.reduceEqDiff]),(by simp only [N4,FB,Nat.reduceEqDiff]),by rw [<-F];exact (by simp only [FB,Nat.reduceEqDiff]),by rw [<-H];exact (by simp only [FB,Nat.reduceEqDiff]),by simp,fun _=>by rw [h0 rfl],by simp⟩ (by show 2-1<2-0;omega)
    | true=>
      have r:(x.2.2.1:Int)<(QA A:Int):=by
       simp only [Uh,f,Ok,Bool.false_or,Nq,Nx] at g;omega
      simp only [n33,r33,n,m,d,k,l,b,f,r,lJ,T,U,V,t,u,z,C,SB,Nat.reduceLT,NC,NH,Nat.reduceEqDiff,NG,NQ,reduceCtorEq,ND,place,NA,Nat.reduceAdd,Nat.reduceLeDiff,NE,Int.reduceEq,Int.reduceLT,Int.reduceLE]
      exact L (1,QU 0 A x) _ _ ⟨by show 1<=2;omega,v,w,by rw [e];exact (by simp only [FB,Nat.reduceEqDiff]),(by simp only [m,FB,Nat.reduceEqDiff]),(by simp only [d,FB,Nat.reduceEqDiff]),(by simp only [N4,FB,Nat.reduceEqDiff]),by rw [<-F];exact (by simp only [FB,Nat.reduceEqDiff]),by rw [<-H];exact (by simp only [FB,Nat.reduceEqDiff]),by simp,fun _=>by rw [h0 rfl],by simp⟩ (by show 2-1<2-0;omega)
  | false=>
    have e:QU 0 A x=x:=by unfold QU;rw [ht];rfl
    have g:=ht
    by_cases y:0<(recs A).1.length
    ·have b:(0:Int)<((recs A).1.length:Int):=by omega
     have f:x.1=true:=by
      simp only [Uh,Oe y,Bool.true_and,Bool.or_eq_false_iff,Bool.not_eq_false'] at g;exact g.1
     have r:¬(x.2.2.1:Int)<(QA A:Int):=by
      simp only [Uh,Oe y,Bool.true_and,Bool.or_eq_false_iff,Bool.not_eq_false',decide_eq_false_iff_not] at g;omega
     simp only [n33,r33,n,m,d,k,l,b,f,r,z,C,SB,Nat.reduceLT,NC,NH,Nat.reduceEqDiff,NG,NQ,reduceCtorEq,ND,place,NA,Nat.reduceAdd,Nat.reduceLeDiff,NE,Int.reduceEq,Int.reduceLT,Int.reduceLE]
     exact L (1,QU 0 A x) _ _ ⟨by show 1<=2;omega,(by rw [Nb];exact o),(by rw [e,Nb];exact k1.cells I (by simp)),by rw [e,f];exact (by simp only [n,f,FB,Nat.reduceEqDiff]),(by simp only [m,FB,Nat.reduceEqDiff]),(by simp only [d,FB,Nat.reduceEqDiff]),(by simp only [N4,FB,Nat.reduceEqDiff]),by rw [<-F];exact (by simp only [FB,Nat.reduceEqDiff]),by rw [<-H];exact (by simp only [FB,Nat.reduceEqDiff]),by simp,fun _=>by rw [h0 rfl],by simp⟩ (by show 2-1<2-0;omega)
    ·have b:¬(0:Int)<((recs A).1.length:Int):=by omega
     simp only [n33,r33,n,m,d,k,l,b,z,C,SB,Nat.reduceLT,NC,NH,Nat.reduceEqDiff,NG,NQ,reduceCtorEq,ND,place,NA,Nat.reduceAdd,Nat.reduceLeDiff,NE,Int.reduceEq,Int.reduceLT,Int.reduceLE]
     exact L (1,QU 0 A x) _ _ ⟨by show 1<=2;omega,(by rw [Nb];exact o),(by rw [e,Nb];exact k1.cells I (by simp)),by rw [e];exact (by simp only [n,FB,Nat.reduceEqDiff]),(by simp only [m,FB,Nat.reduceEqDiff]),(by simp only [d,FB,Nat.reduceEqDiff]),(by simp only [N4,FB,Nat.reduceEqDiff]),by rw [<-F];exact (by simp only [FB,Nat.reduceEqDiff]),by rw [<-H];exact (by simp only [FB,Nat.reduceEqDiff]),by simp,fun _=>by rw [h0 rfl],by simp⟩ (by show 2-1<2-0;omega)
 ·simp only [n33,r33,n,m,d,k,N4,Qh,Int.toNat_one,N8,Ov,Ou,z,C,SB,Nat.reduceLT,NC,NH,Nat.reduceEqDiff,NG,NQ,reduceCtorEq,ND,place,NA,Nat.reduceAdd,Nat.reduceLeDiff,NE,Int.reduceEq,Int.reduceLT,Int.reduceLE]
  rw [Nb]
  refine Yc (N.sl hB fun a W _=>by simpa using qJ a W) rfl (by omega) (by omega) fun O q2 cq ds k1 k2=>?_
  refine NI ?_
  have l:=fun X=>(QL.refl.app (X:=X)).cells (k1.cells I (by simp))
  simp only [XM] at l
  have o:Chg [J] G O:=N.trans' k1 fun j h _=>by simp at h
  cases ht:Uh B x with
  | true=>
    have e:QU 1 B x=(true,1,QA B,(recs B).2):=by unfold QU;rw [ht];rfl
    have aa:=k1.len
    obtain ⟨G3,T,Q,m3⟩:=RN (G:=O) (R:=J) (by omega) (Vc [Vp D,Vi 1,Vi x.2.2.1,Vi life,Vi x.2.2.2])
    obtain ⟨G4,U,S,m4⟩:=RN (NJ Q) (Vc [Vp D,Vi 1,Vi (QA B:Int),Vi life,Vi x.2.2.2])
    obtain ⟨P,V,M,m5⟩:=RN (NJ S) (Vc [Vp D,Vi 1,Vi (QA B:Int),Vi life,Vi ((recs B).2:Int)])
    have t:=fun X=>(QL.refl.app (X:=X)).cells Q
    have u:=fun X=>(QL.refl.app (X:=X)).cells S
    have v:Chg [J] G (P++[]):=(((o.mut m3 (.inl (by simp))).mut m4 (.inl (by simp))).mut m5 (.inl (by simp))).app
    have w:NF (P++[]) J=Vc (XM D life (QU 1 B x)):=by rw [e,Nb];exact M
    have g:=ht
    have b:(0:Int)<((recs B).1.length:Int):=by
     simp only [Uh,Nq,Nx] at g;omega
    cases f:x.1 with
    | false=>
      simp only [n33,r33,n,m,d,k,l,b,f,lJ,T,U,V,t,u,z,C,SB,Nat.reduceLT,NC,NH,Nat.reduceEqDiff,NG,NQ,reduceCtorEq,ND,place,NA,Nat.reduceAdd,Nat.reduceLeDiff,NE,Int.reduceEq,Int.reduceLT,Int.reduceLE]
      exact L (2,QU 1 B x) _ _ ⟨by show 2<=2;omega,v,w,by rw [e];exact (by simp only [FB,Nat.reduceEqDiff]),(by simp only [m,FB,Nat.reduceEqDiff]),(by simp only [d,FB,Nat.reduceEqDiff]),(by simp only [N4,FB,Nat.reduceEqDiff]),by rw [<-F];exact (by simp only [FB,Nat.reduceEqDiff]),by rw [<-H];exact (by simp only [FB,Nat.reduceEqDiff]),by simp,by simp,fun _=>by rw [h1 rfl]⟩ (by show 2-2<2-1;omega)
    | true=>
      have r:(x.2.2.1:Int)<(QA B:Int):=by
       simp only [Uh,f,Ok,Bool.false_or,Nq,Nx] at g;omega
      simp only [n33,r33,n,m,d,k,l,b,f,r,lJ,T,U,V,t,u,z,C,SB,Nat.reduceLT,NC,NH,Nat.reduceEqDiff,NG,NQ,reduceCtorEq,ND,place,NA,Nat.reduceAdd,Nat.reduceLeDiff,NE,Int.reduceEq,Int.reduceLT,Int.reduceLE]
      exact L (2,QU 1 B x) _ _ ⟨by show 2<=2;omega,v,w,by rw [e];exact (by simp only [FB,Nat.reduceEqDiff]),(by simp only [m,FB,Nat.reduceEqDiff]),(by simp only [d,FB,Nat.reduceEqDiff]),(by simp only [N4,FB,Nat.reduceEqDiff]),by rw [<-F];exact (by simp only [FB,Nat.reduceEqDiff]),by rw [<-H];exact (by simp only [FB,Nat.reduceEqDiff]),by simp,by simp,fun _=>by rw [h1 rfl]⟩ (by show 2-2<2-1;omega)
  | false=>
    have e:QU 1 B x=x:=by unfold QU;rw [ht];rfl
    have g:=ht
    by_cases y:0<(recs B).1.length
    ·have b:(0:Int)<((recs B).1.length:Int):=by omega
     have f:x.1=true:=by
      simp only [Uh,Oe y,Bool.true_and,Bool.or_eq_false_iff,Bool.not_eq_false'] at g;exact g.1
     have r:¬(x.2.2.1:Int)<(QA B:Int):=by
      simp only [Uh,Oe y,Bool.true_and,Bool.or_eq_false_iff,Bool.not_eq_false',decide_eq_false_iff_not] at g;omega
     simp only [n33,r33,n,m,d,k,l,b,f,r,z,C,SB,Nat.reduceLT,NC,NH,Nat.reduceEqDiff,NG,NQ,reduceCtorEq,ND,place,NA,Nat.reduceAdd,Nat.reduceLeDiff,NE,Int.reduceEq,Int.reduceLT,Int.reduceLE]
     exact L (2,QU 1 B x) _ _ ⟨by show 2<=2;omega,(by rw [Nb];exact o),(by rw [e,Nb];exact k1.cells I (by simp)),by rw [e,f];exact (by simp only [n,f,FB,Nat.reduceEqDiff]),(by simp only [m,FB,Nat.reduceEqDiff]),(by simp only [d,FB,Nat.reduceEqDiff]),(by simp only [N4,FB,Nat.reduceEqDiff]),by rw [<-F];exact (by simp only [FB,Nat.reduceEqDiff]),by rw [<-H];exact (by simp only [FB,Nat.reduceEqDiff]),by simp,by simp,fun _=>by rw [h1 rfl]⟩ (by show 2-2<2-1;omega)
    ·have b:¬(0:Int)<((recs B).1.length:Int):=by omega
     simp only [n33,r33,n,m,d,k,l,b,z,C,SB,Nat.reduceLT,NC,NH,Nat.reduceEqDiff,NG,NQ,reduceCtorEq,ND,place,NA,Nat.reduceAdd,Nat.reduceLeDiff,NE,Int.reduceEq,Int.reduceLT,Int.reduceLE]
     exact L (2,QU 1 B x) _ _ ⟨by show 2<=2;omega,(by rw [Nb];exact o),(by rw [e,Nb];exact k1.cells I (by simp)),by rw [e];exact (by simp only [n,FB,Nat.reduceEqDiff]),(by simp only [m,FB,Nat.reduceEqDiff]),(by simp only [d,FB,Nat.reduceEqDiff]),(by simp only [N4,FB,Nat.reduceEqDiff]),by rw [<-F];exact (by simp only [FB,Nat.reduceEqDiff]),by rw [<-H];exact (by simp only [FB,Nat.reduceEqDiff]),by simp,by simp,fun _=>by rw [h1 rfl]⟩ (by show 2-2<2-1;omega)
 ·simp only [n33,r33,n,m,d,k,N4,z,C,SB,Nat.reduceLT,NC,NH,Nat.reduceEqDiff,NG,NQ,reduceCtorEq,ND,place,NA,Nat.reduceAdd,Nat.reduceLeDiff,NE,Int.reduceEq,Int.reduceLT,Int.reduceLE]
  rw [h2 rfl] at I n
  exact hR _ G' N I (by simp only [n,FB,Nat.reduceEqDiff]) (by rw [f7];exact (by simp only [m,FB,Nat.reduceEqDiff])) (by rw [<-F];exact (by simp only [FB,Nat.reduceEqDiff])) (by rw [<-H];exact (by simp only [FB,Nat.reduceEqDiff]))
theorem Nkl [OA] {lim:Nat} {H:NB} {Q:Value->NB->Prop} (a:Q Vz H):NP E false lim 77 [Vz] H Q:=by
 refine runs (by decide) e77 rfl ?_
 rw [b77,c77]
 have b:WJ 33 Vz none (some (Vi 0)) (some (Vi 0))=some Vz:=by rfl
 simp only [n77,r77,b,SB,Nat.reduceLT,NC,NH,Nat.reduceEqDiff,NG,NQ,reduceCtorEq,ND,place,NA,Nat.reduceAdd,Nat.reduceLeDiff,NE,Int.reduceEq,Int.reduceLT,Int.reduceLE]
 rw [Nb]
 exact a
def opA (safe:List QY):List QY:=TN [] safe 0
def Nfp (safe:List QY):List QY:=TN [] safe 1
def VV (safe:List QY):Nat×Nat:=Vl 0 (Nfp safe) (Vl 0 (opA safe) (0,0))
def opX (safe:List QY):OpS:=QU 1 (Nfp safe) (QU 0 (opA safe) (false,0,0,0))
theorem YJ {i:Nat} {a:List QY} {x:OpS} (h:(QU i a x).1=false):QU i a x=x:=by
 unfold QU at h⊢
 split
 ·rename_i h1;rw [Nk h1] at h;cases h
 ·rfl
theorem Npt {safe:List QY} (h:(opX safe).1=false):opX safe=(false,0,0,0):=by
 unfold opX at h⊢
 have h1:=YJ h
 rw [h1] at h
 rw [h1,YJ h]
theorem Nku [OA] {lim D S sc:Nat} {safe:List QY} {H:NB} {Q:Value->NB->Prop} (C:NF H D=Vc [.slice (Sa S) safe.length sc,Vz]) (hS:NF H S=Vc (safe.flatMap Sk)) (lD:lim<=D) (lS:lim<=S) (k:S≠D) (hn:4<=safe.length) (ag:safe.length<=32768) (ae:(VV safe).2<1073741824) (P:(opX safe).1=false->(VV safe).1<1073741824)
  (hF:∀H' J,(opX safe).1=true->Chg [D] H H'->H.length<=J->Lies lim H' J D S (opX safe).2.1 (opX safe).2.2.1 ((VV safe).2+1) (opX safe).2.2.2 sc none 0 safe []->Q (.tuple #[Vp J,Vi 0]) H')
  (hN:∀H' J,(opX safe).1=false->Chg [S,D] H H'->H.length<=J->Lies lim H' J D S 0 ((VV safe).1+1) ((VV safe).2+1) 1 sc none 0 (QQ [] (Ru 0 ((VV safe).1+1) ((VV safe).2+1) 0 (W9 [])) safe) []->Q (.tuple #[Vp J,Vi 0]) H') :
  NP E false lim 33 [Vp D] H Q:=by
 have l:safe≠[]:=fun e=>by rw [e] at hn;simp at hn
 have ab:=NJ C
 have ad:=NJ hS
 have sS:Sl H Sk 32 (Sa S) safe:=Sl.row RS hS
 have sP:Sl H Wj 33 none ([]:List Wr):=(Own.nil (lim:=lim)).sl R6
 refine runs (by decide) e33 rfl ?_
 rw [b33,c33]
 have y:=fun X=>(QL.refl.app (X:=X)).cells C
 have u:=fun X (mp:Bool) (lim:Nat) (Q:Value->NB->Prop)=>Npi (mp:=mp) (lim:=lim) (Q:=Q) (pend:=[]) (y X) (sP.app X) (by simp)
 have hR:WK safe.length []=true:=by simp [WK];omega
 rw [hR] at u
 simp only [n33,r33,u,VM,Ok,SB,Nat.reduceLT,NC,NH,Nat.reduceEqDiff,NG,NQ,reduceCtorEq,ND,place,NA,Nat.reduceAdd,Nat.reduceLeDiff,NE,Int.reduceEq,Int.reduceLT,Int.reduceLE]
 rw [Nb]
 refine Ng5 (safe:=safe) (pend:=[]) C sS l sP (by omega) (by simp) (by omega) fun H' p c q c' T h0 h1=>?_
 rw [<-Nko] at h0
 rw [<-Nkn] at h1
 change Sl H' Sk 32 p (opA safe) at h0
 change Sl H' Sk 32 q (Nfp safe) at h1
 have F:(opA safe).length=safe.length / 2:=X3 (by omega)
 have lB:(Nfp safe).length=safe.length / 2:=X3 (by omega)
 have V:=T.len
 refine NI ?_
 have n:=fun X (mp:Bool) (lim:Nat) (Q:Value->NB->Prop)=>Ngo (mp:=mp) (lim:=lim) (Q:=Q) (c:=c) (c':=c') (h0.app X) (h1.app X) (by omega) (by omega)
 rw [F,lB] at n
 change ∀X mp lim Q,NP E mp lim 75 [.agg #[.slice p (safe.length / 2) c,.slice q (safe.length / 2) c']] (H'++X) Q=Q (.tuple #[Vi ((VV safe).1:Int),Vi ((VV safe).2:Int)]) (H'++X) at n
 have w1:IntKind.i64.wrap (((VV safe).2:Int)+1)=(((VV safe).2+1:Nat):Int):=Ra (by omega)
 have c1:¬(1073741824:Int)<(((VV safe).2+1:Nat):Int):=by omega
 have lh:lim<=H'.length:=by omega
 simp only [n33,r33,n,w1,c1,lh,SB,Nat.reduceLT,NC,NH,Nat.reduceEqDiff,NG,NQ,reduceCtorEq,ND,place,NA,Nat.reduceAdd,Nat.reduceLeDiff,NE,Int.reduceEq,Int.reduceLT,Int.reduceLE]
 refine Ntn (J:=H'.length+1) (D:=D) (life:=(VV safe).2+1) (c:=c) (c':=c') (h0.app _) (h1.app _) (by omega) (by omega) (fun a K=>?_) (fun a K=>?_) (by rw [NK];rfl) (by omega) (by simp only [FB,Nat.reduceEqDiff]) (by simp only [FB,Nat.reduceEqDiff]) (by simp only [F,lB,FB,Nat.reduceEqDiff]) (by simp only [N4,FB,Nat.reduceEqDiff]) fun fr' G' k1 k2 w Z W Y=>?_
 ·subst K
  have:=h0.lt fun e=>by rw [e] at F;simp at F;omega
  omega
 ·subst K
  have:=h1.lt fun e=>by rw [e] at lB;simp at lB;omega
  omega
 have h:fr' 7=Vp (H'.length+1):=Z.trans (by simp only [FB,Nat.reduceEqDiff])
 have m:fr' 0=Vp D:=W.trans (by simp only [FB,Nat.reduceEqDiff])
 have r:fr' 5=Vi ((VV safe).1:Int):=Y.trans (by simp only [FB,Nat.reduceEqDiff])
 change NF G' (H'.length+1)=Vc (XM D ((VV safe).2+1) (opX safe)) at k2
 change fr' 8=.bool (opX safe).1 at w
 have i:Chg [] H G':=T.app.trans' k1 fun j h1 h2=>by simp only [Ng] at h1;omega
 have o:=i.cells C (by simp)
 have B:=i.cells hS (by simp)
 have lG:=i.len
 have A:=NJ k2
 generalize ac:H'.length+1=J at h k2 k1 A
 have v:H.length<=J:=by omega
 clear Z W Y y u n
 cases hx:(opX safe).1 with
 | true=>
   rw [hx] at w
   obtain ⟨G1,s1,L,t⟩:=RN (NJ o) (Vc [.slice (Sa S) safe.length sc,Vz])
   have f:=fun X=>(QL.refl.app (X:=X)).cells o
   simp only [n33,r33,h,m,r,w,f,Ok,SB,Nat.reduceLT,NC,NH,Nat.reduceEqDiff,NG,NQ,reduceCtorEq,ND,place,NA,Nat.reduceAdd,Nat.reduceLeDiff,NE,Int.reduceEq,Int.reduceLT,Int.reduceLE]
   rw [Nb]
   refine Nkl ?_
   refine NI ?_
   simp only [n33,r33,h,m,r,w,f,lD,s1,SB,Nat.reduceLT,NC,NH,Nat.reduceEqDiff,NG,NQ,reduceCtorEq,ND,place,NA,Nat.reduceAdd,Nat.reduceLeDiff,NE,Int.reduceEq,Int.reduceLT,Int.reduceLE]
   rw [Nb]
   refine hF G1 J hx ((i.mono (by simp)).mut t (.inl (by simp))) v ⟨⟨t.cells k2 (by omega),L,Own.nil,by omega,lD,by omega,by intro a e;cases e⟩,t.cells B k,lS,k,by omega,(by intro a e;cases e),l⟩
 | false=>
   rw [hx] at w
   have U:=P hx
   have w3:IntKind.i64.wrap (((VV safe).1:Int)+1)=(((VV safe).1+1:Nat):Int):=Ra (by omega)
   have c3:¬(1073741824:Int)<(((VV safe).1+1:Nat):Int):=by omega
   have O:opX safe=(false,0,0,0):=Npt hx
   rw [O] at k2
   obtain ⟨G1,s1,L,t⟩:=RN A (Vc (XM D ((VV safe).2+1) (false,0,(VV safe).1+1,0)))
   obtain ⟨I,s2,g2,R⟩:=RN (NJ (t.cells o (by omega))) (Vc [.slice (Sa S) safe.length sc,Vz])
   have z:=fun X=>(QL.refl.app (X:=X)).cells k2
   have f:=fun X=>(QL.refl.app (X:=X)).cells (t.cells o (by omega))
   simp only [XM,N4] at z s1
   have lJ:lim<=J:=by omega
   simp only [n33,r33,h,m,r,w,f,Bool.not_false,w3,c3,z,s1,lJ,SB,Nat.reduceLT,NC,NH,Nat.reduceEqDiff,NG,NQ,reduceCtorEq,ND,place,NA,Nat.reduceAdd,Nat.reduceLeDiff,NE,Int.reduceEq,Int.reduceLT,Int.reduceLE]
   rw [Nb]
   refine Nkl ?_
   refine NI ?_
   simp only [n33,r33,h,m,r,w,f,lD,s2,SB,Nat.reduceLT,NC,NH,Nat.reduceEqDiff,NG,NQ,reduceCtorEq,ND,place,NA,Nat.reduceAdd,Nat.reduceLeDiff,NE,Int.reduceEq,Int.reduceLT,Int.reduceLE]
   rw [Nb]
   have hL:Lies lim I J D S 0 ((VV safe).1+1) ((VV safe).2+1) 0 sc none 0 safe []:=⟨⟨R.cells L (by omega),g2,Own.nil,by omega,lD,by omega,by intro a e;cases e⟩,R.cells (t.cells B (by omega)) k,lS,k,by omega,(by intro a e;cases e),l⟩
   refine Ncl (b:=[]) hL ((Own.nil (lim:=lim)).sl Rt) (Own.nil (lim:=lim) (enc:=Uf) (e:=1) (G:=I)).capOk (fun _=>rfl) (by intro a e;cases e) (by simp) (by omega) (by simp) (by omega) (by omega) fun G3 ah aa q1 q2 g=>?_
   simp only [n33,r33,m,SB,Nat.reduceLT,NC,NH,Nat.reduceEqDiff,NG,NQ,reduceCtorEq,ND,place,NA,Nat.reduceAdd,Nat.reduceLeDiff,NE,Int.reduceEq,Int.reduceLT,Int.reduceLE]
   rw [Nb]
   rw [N6,Ov] at g
   refine Nkr g.jl.d g.jl.lD (fun _=>⟨rfl,g.s,g.lS⟩) g.SD (g.jl.own.sl R6) (fun a e _=>⟨g.ps a e,(g.jl.ap a e).2⟩) (by omega) (by rw [Zg,Td];decide) fun H2 x M N=>?_
   refine NI ?_
   simp only [n33,r33,h,SB,Nat.reduceLT,NC,NH,Nat.reduceEqDiff,NG,NQ,reduceCtorEq,ND,place,NA,Nat.reduceAdd,Nat.reduceLeDiff,NE,Int.reduceEq,Int.reduceLT,Int.reduceLE]
   rw [Nb]
   have hl:(QQ [] (Ru 0 ((VV safe).1+1) ((VV safe).2+1) 0 (W9 [])) safe).length=safe.length:=QX
   refine hN H2 J hx ?_ v ⟨⟨x.cells g.jl.j (by simp [g.SJ.symm,g.jl.JD]),by rw [hl];exact M,Own.nil,g.jl.lJ,g.jl.lD,g.jl.JD,by intro a e;cases e⟩,N l,lS,k,g.SJ,(by intro a e;cases e),fun e=>l (by rw [<-List.length_eq_zero_iff,<-hl,e];rfl)⟩
   have c2:Chg [S,D] H I:=((i.mono (by simp)).mut t (.inr v)).mut R (.inl (by simp))
   exact (c2.trans' q1 fun j h1 h2=>by
    simp only [blk,Nh,Np,or_false] at h1⊢
    rcases h1 with h1 | h1
    ·omega
    ·exact .inr h1).trans' x fun j h1 _=>h1
structure Fresh (h0:Nat) (G:NB) (q:Option Addr) (cq:Nat) (l:List UInt8):Prop where
 own:Own h0 G Uf 1 q cq l
 nil:l=[]->q=none
 len:l.length<=4000
def V7:QY:=Vector.replicate 32 0
theorem Noq:Ri V7 0=0:=by decide +kernel
theorem Zf (i:Nat):QH V7 i=false:=by
 unfold QH
 rw [Noq];simp
theorem Ni9:∀(m i:Nat) (x:Nat×Nat),Vl i (List.replicate m V7) x=x
 | 0,i,x=>rfl
 | m+1,i,x=>by rw [Qe,Vl,Zf];exact Ni9 m (i+1) x
theorem Npj (m:Nat):recs (List.replicate m V7)=([],0):=by
 cases m with
 | zero=>rfl
 | succ m=>
   rw [Qe]
   unfold recs TL
   have:Sj (QA (V7::List.replicate m V7)) 0 false 0 V7=false:=by unfold Sj;rw [Zf];rfl
   rw [this];rfl
theorem M8 {n a:Nat}:∃m,TN [] (List.replicate n V7) a=List.replicate m V7:=by
 unfold TN
 have:XI [] (List.replicate n V7)=List.replicate n V7:=rfl
 rw [this,List.drop_replicate,List.take_replicate]
 exact ⟨_,rfl⟩
theorem Npv {n:Nat}:VV (List.replicate n V7)=(0,0):=by
 obtain ⟨a,c⟩:=M8 (n:=n) (a:=0)
 obtain ⟨b,hb⟩:=M8 (n:=n) (a:=1)
 unfold VV opA Nfp
 rw [c,hb,Ni9,Ni9]
theorem Nxf {n:Nat}:opX (List.replicate n V7)=(false,0,0,0):=by
 obtain ⟨a,c⟩:=M8 (n:=n) (a:=0)
 obtain ⟨b,hb⟩:=M8 (n:=n) (a:=1)
 unfold opX opA Nfp QU Uh
 rw [c,hb,Npj,Npj];rfl
def Ne7 (n:Nat):List QY:=QQ [] (Ru 0 1 1 0 (W9 [])) (List.replicate n V7)
theorem Nlb (n:Nat):(Ne7 n).length=n:=by unfold Ne7;rw [QX,Ph]
theorem RX {lost:List Bool} {base e lf:Nat}:∀(r:List (Nat×List UInt8)) (n i:Nat) (s:List QY) (j:Nat),(j<base+n\/base+n+r.length<=j)->(RO lost i (Ru base e lf n r) s)[j]? = s[j]?
 | [],n,i,s,j,h=>rfl
 | x::r,n,i,s,j,h=>by
   have hl:(x::r).length=r.length+1:=rfl
   rw [Ru,RO,RX r (n+1) (i+1) _ j (by omega)]
   split
   ·rw [P0]
    simp only [O1]
    omega
   ·rfl
end Go.Proofs.YtancgcogjokfcaaGreatDoor.Fn


