/-
  Joined texts, 7 of 10. A part of the claim that the last text states.
-/
import Derived.Test.YtkppjkkkdpcgiaaGreatPC6
set_option linter.unusedVariables false
set_option linter.unusedSimpArgs false
set_option linter.defProp false
set_option linter.unusedSectionVars false
set_option maxRecDepth 100000
set_option maxHeartbeats 4000000
namespace Go.Proofs.YtkppjkkkdpcgiaaGreat.Fn
open Go.AM Go.AM.Sym Go.Scan
structure OSt (L:Nat) (fr0:Nat->Value) (t r:Int) (last:Mk) (st:Nat) (pd:Option ACode) (G:NE):Prop where
 bt:NI G L=Vc [Vi t]
 br:NI G (L+1)=Vc [Vi r]
 bl:NI G (L+2)=Vc (Ru last)
 dfr:NI G (L+5)=.dfr
 loop:NI G (L+6)=.loop ⟨st,pd,fr0,46,[12],Vn,Vm⟩
 len:L+7<=G.length
theorem OSt.chg {L:Nat} {fr0:Nat->Value} {t r:Int} {last:Mk} {st:Nat} {pd:Option ACode} {G G':NE} (h:OSt L fr0 t r last st pd G) (a:Chg [] G G'):OSt L fr0 t r last st pd G':=by
 have len:=h.len
 exact ⟨a.cells h.bt (by simp),a.cells h.br (by simp),a.cells h.bl (by simp),a.get h.dfr (by omega) (by simp),a.get h.loop (by omega) (by simp),by have:=a.len;omega⟩
def Nn4 (t:Int) (last:Mk) (rest:List Mk):Prop:=(last=Uf\/Nah last/\last.at'<t)/\(∀m∈rest,Nah m/\(last=Uf\/last.at'<m.at'))/\N56 rest
theorem Nn4.next {t:Int} {last m:Mk} {rest:List Mk} (h:Nn4 t last (m::rest)) (c:m.at'<t):Nn4 t m rest:=by
 obtain ⟨h1,h2,b⟩:=h
 obtain ⟨k1,k2⟩:=List.pairwise_cons.mp b
 exact ⟨.inr ⟨(h2 m Nm).1,c⟩,fun x a=>⟨(h2 x (Nk _ a)).1,.inr (k1 x a)⟩,k2⟩
theorem N1w {a b:Mk}:(a.scanner=b.scanner/\a.at'=b.at'/\a.off=b.off)↔a=b:=by
 obtain ⟨c,d,e⟩:=a;obtain ⟨b1,b2,b3⟩:=b
 simp
theorem N1x {a b:Mk}:aEq (.agg [.int .i64,.int .i64,.int .i64]) (.agg (Ru a).toArray) (.agg (Ru b).toArray)=some (decide (a=b)):=by
 simp only [aEq,Ru,PL,TQ,and_self,if_true]
 congr 1
 rw [Ri,decide_eq_true_iff,<-N1w]
 simp
theorem Nkj {a:Mk}:aEq (.agg [.int .i64,.int .i64,.int .i64]) (.agg (Ru a).toArray) (.agg #[Vi 0,Vi 0,Vi 0])=some (decide (a=Uf)):=N1x (b:=Uf)
theorem Yy {fr:Nat->Value} {p:Nat} {v:Value}:Tz fr [p] [v]=upd fr p v:=rfl
theorem Nuw {a b A B:Int} (h1:-A<=a) (h2:a<=A) (c:0<=b) (d:b<=B):-(A*B)<=a*b/\a*b<=A*B:=by
 have hA:0<=A:=by omega
 constructor
 ·have e1:-A*b<=a*b:=Int.mul_le_mul_of_nonneg_right h1 c
  have e2:A*b<=A*B:=Int.mul_le_mul_of_nonneg_left d hA
  rw [Int.neg_mul] at e1;omega
 ·exact Int.le_trans (Int.mul_le_mul_of_nonneg_right h2 c) (Int.mul_le_mul_of_nonneg_left d hA)
theorem Ntn [OB] {lim L:Nat} {fr0:Nat->Value} {t r:Int} {last m:Mk} {rest:List Mk} {G:NE} (hl:lim<=L) (f5:fr0 5=Vp L) (p:fr0 6=Vp (L+1)) (q:fr0 7=Vp (L+2))
  (h:OSt L fr0 t r last 0 none G) (J:Nn4 t last (m::rest)) (ht:0<=t/\t<=VI) :
  WJ E false lim (L+6) [.agg (Ru m).toArray] G fun v H'=>Nin (fun j=>j<L\/j=L+4) G H'/\
   (v=.bool true/\m.at'<t/\OSt L fr0 t r m 0 none H'\/v=.bool false/\OSt L fr0 t (Y6 t last (m::rest)) last 2 (some .retM) H'):=by
 have len:=h.len
 rw [X7 h.loop (by omega) rfl rfl,Yy]
 obtain ⟨G1,e1,h1,n⟩:=OP (G:=G) (R:=L+6) (by omega) (.loop ⟨1,none,fr0,46,[12],Vn,Vm⟩)
 have I:=fun X=>(OH.refl.app (X:=X)).get' h.loop (by omega)
 have x:lim<=G.length:=by omega
 refine NL ?_
 rw [NU Vn.eq_1]
 simp only [f5,p,q,QS,NF,x,I,e1,show lim<=L+6 by omega,SB,seval,NC,NJ,NG,NQ,reduceCtorEq,NB,place,NA,ND]
 have bt:=fun X=>(OH.refl.app (X:=X)).cells (n.cells h.bt (by omega:L≠L+6))
 have br:=fun X=>(OH.refl.app (X:=X)).cells (n.cells h.br (by omega:L+1≠L+6))
 have bl:=fun X=>(OH.refl.app (X:=X)).cells (n.cells h.bl (by omega:L+2≠L+6))
 have z:G1.length=G.length:=n.len
 have s:∀Y,NI (G1++Vc (Ru m)::Y) G.length=Vc (Ru m):=fun Y=>by rw [<-z];exact NV
 rw [NU Vm.eq_1]
 by_cases y:m.at'<t
 ·obtain ⟨G2,e2,h2,e⟩:=OP (G:=G1) (R:=L+2) (by omega) (Vc (Ru m))
  have k:=e.alive h1 (by omega:L+6≠L+2)
  have i:=fun X=>(OH.refl.app (X:=X)).get' k (by have:=e.len;omega)
  obtain ⟨c,e3,o,f⟩:=OP (G:=G2) (R:=L+6) (by have:=e.len;omega) (.loop ⟨0,none,fr0,46,[12],Vn,Vm⟩)
  simp only [f5,p,q,bt,br,bl,s,QS,XU,YN,YM,NH,NF,gt_iff_lt,y,e2,i,e3,show lim<=L+6 by omega,show lim<=L+2 by omega,SB,seval,NC,NJ,NG,NQ,reduceCtorEq,NB,place,NA,ND]
  have M:c.length=G.length:=by rw [f.len,e.len,z]
  have old:∀X j,j<G.length->j≠L+6->j≠L+2->NI (c++X) j=NI G j:=fun X j q1 q2 q3=>by
   rw [NR (by omega),f.other j q2,e.other j q3,n.other j q2]
  refine ⟨⟨by simp;omega,fun j hj=>old _ j (by omega) (by omega) (by omega)⟩,.inl ⟨(old _ L (by omega) (by omega) (by omega)).trans h.bt,(old _ _ (by omega) (by omega) (by omega)).trans h.br, ?_,(old _ _ (by omega) (by omega) (by omega)).trans h.dfr, ?_,by simp;omega⟩⟩
  ·rw [NR (by omega),f.other _ (by omega)];exact h2
  ·rw [NR (by omega)];exact o
 ·have fin:∀(v:Int) (G2 c:NE) (X:NE),(∀j,j≠L+1->NI G2 j=NI G1 j)->G2.length=G1.length->NI G2 (L+1)=Vc [Vi v]->Mut G2 c (L+6)->NI c (L+6)=.loop ⟨2,some .retM,fr0,46,[12],Vn,Vm⟩->
    Nin (fun j=>j<L\/j=L+4) G (c++X)/\OSt L fr0 t v last 2 (some .retM) (c++X):=by
   intro v G2 c X o2 K h2 f o
   have M:c.length=G.length:=by rw [f.len,K,z]
   have old:∀j,j<G.length->j≠L+6->j≠L+1->NI (c++X) j=NI G j:=fun j q1 q2 q3=>by
    rw [NR (by omega),f.other j q2,o2 j q3,n.other j q2]
   refine ⟨⟨by simp;omega,fun j hj=>old j (by omega) (by omega) (by omega)⟩,⟨(old L (by omega) (by omega) (by omega)).trans h.bt, ?_,(old _ (by omega) (by omega) (by omega)).trans h.bl,(old _ (by omega) (by omega) (by omega)).trans h.dfr, ?_,by simp;omega⟩⟩
   ·rw [NR (by omega),f.other _ (by omega)];exact h2
   ·rw [NR (by omega)];exact o
  have key:∀v,∃G2,(∀X:NE,(G1++X).set (L+1) (Vc [Vi v])=G2++X)/\(∀X,NI (G2++X) (L+6)=.loop ⟨1,none,fr0,46,[12],Vn,Vm⟩)/\∃c,(∀X:NE,(G2++X).set (L+6) (.loop ⟨2,some .retM,fr0,46,[12],Vn,Vm⟩)=c++X)/\∀X,Nin (fun j=>j<L\/j=L+4) G (c++X)/\OSt L fr0 t v last 2 (some .retM) (c++X):=by
   intro v
   obtain ⟨G2,e2,h2,e⟩:=OP (G:=G1) (R:=L+1) (by omega) (Vc [Vi v])
   have k:=e.alive h1 (by omega:L+6≠L+1)
   have i:=fun X=>(OH.refl.app (X:=X)).get' k (by have:=e.len;omega)
   obtain ⟨c,e3,o,f⟩:=OP (G:=G2) (R:=L+6) (by have:=e.len;omega) (.loop ⟨2,some .retM,fr0,46,[12],Vn,Vm⟩)
   exact ⟨G2,e2,i,c,e3,fun X=>fin v G2 c X (fun j hj=>e.other j hj) e.len h2 f o⟩
  have w:Y6 t last (m::rest)=if last=Uf then m.off else last.off+(m.off-last.off)*(t-last.at') / (m.at'-last.at'):=by
   rw [Y6,Ng (by omega)]
  rw [w]
  by_cases l:last=Uf
  ·obtain ⟨G2,e2,i,c,e3,d⟩:=key m.off
   rw [Ni l]
   have g:=Np l
   simp only [f5,p,q,bt,br,bl,s,QS,XU,YN,YM,NH,NF,gt_iff_lt,y,e2,i,e3,Nkj,g,show lim<=L+6 by omega,show lim<=L+1 by omega,SB,seval,NC,NJ,NG,NQ,reduceCtorEq,NB,place,NA,ND]
   exact ⟨(d _).1,.inr (d _).2⟩
  ·rw [Ng l]
   have g:=N1 l
   obtain ⟨D,F,U⟩:=J
   obtain ⟨k1,k2⟩:=(D.resolve_left l)
   obtain ⟨k3,C⟩:=F m Nm
   have C:=C.resolve_left l
   unfold Nah at k1 k3
   unfold VI at k1 k3 ht
   have V:=Nuw (a:=m.off-last.off) (b:=t-last.at') (A:=2103796798) (B:=1051898399) (by omega) (by omega) (by omega) (by omega)
   have hd:0<m.at'-last.at':=by omega
   have W:-2 ^ 62<=(m.off-last.off)*(t-last.at') / (m.at'-last.at')/\(m.off-last.off)*(t-last.at') / (m.at'-last.at')<=2 ^ 62:=by
    constructor
    ·refine Int.le_ediv_of_mul_le hd ?_
     have:-2 ^ 62*(m.at'-last.at')<=-2 ^ 62*1:=Int.mul_le_mul_of_nonpos_left (by decide) (by omega)
     omega
    ·refine Int.ediv_le_of_le_mul hd ?_
     have:2 ^ 62*1<=2 ^ 62*(m.at'-last.at'):=Int.mul_le_mul_of_nonneg_left (by omega) (by decide)
     omega
   have N:IntKind.i64.wrap (m.off-last.off)=m.off-last.off:=NP (by omega) (by omega)
   have O:IntKind.i64.wrap (t-last.at')=t-last.at':=NP (by omega) (by omega)
   have P:IntKind.i64.wrap ((m.off-last.off)*(t-last.at'))=(m.off-last.off)*(t-last.at'):=NP (by omega) (by omega)
   have S:IntKind.i64.wrap (m.at'-last.at')=m.at'-last.at':=NP (by omega) (by omega)
   have T:IntKind.i64.wrap (last.off+(m.off-last.off)*(t-last.at') / (m.at'-last.at'))=last.off+(m.off-last.off)*(t-last.at') / (m.at'-last.at'):=NP (by omega) (by omega)
   have u:=fun (mp:Bool) (lim:Nat) (H:NE) (Q:Value->NE->Prop)=>N8s (mp:=mp) (lim:=lim) (H:=H) (Q:=Q) (a:=(m.off-last.off)*(t-last.at')) hd (by omega) (by omega)
   obtain ⟨G2,e2,i,c,e3,d⟩:=key (last.off+(m.off-last.off)*(t-last.at') / (m.at'-last.at'))
   simp only [f5,p,q,bt,br,bl,s,QS,XU,YN,YM,NH,NF,gt_iff_lt,y,e2,i,e3,Nkj,g,N,O,P,S,T,u,show lim<=L+6 by omega,show lim<=L+1 by omega,SB,seval,NC,NJ,NG,NQ,reduceCtorEq,NB,place,NA,ND]
   exact ⟨(d _).1,.inr (d _).2⟩
theorem Nue [OB] {mp:Bool} {lim c:Nat} {p:Option Addr} {M:List Mk} {sc t:Int} {H:NE} {Q:Value->NE->Prop} (hs:Sl H Ru 3 p M) (hc:Uj 3 c M.length) (hn:M.length<2 ^ 40) (D:Z4 M) (ht:0<=t/\t<=VI) :
  NK E mp lim 128 [.slice p M.length c,Vi sc,Vi t] H Q=Q (Vi (Nbj M sc t)) H:=by
 refine pc (by decide) Oeh rfl rfl ?_
 rw [Ofm,N9e]
 have J:=fun (X:NE) (lim:Nat) (Q:Value->NE->Prop)=>Oa2 (lim:=lim) (c:=c) (n:=M.length) (p:=p) (sc:=sc) (H:=H++X) (Q:=Q)
 have key:∀fr0:Nat->Value,fr0 5=Vp H.length->fr0 6=Vp (H.length+1)->fr0 7=Vp (H.length+2)->
   NK E false H.length 169 [.func (.yield (H.length+6)) #[] #[],Vp (H.length+3),Vp (H.length+4)]
   (H++[Vc [Value.int .i64 t],Vc [Value.int .i64 0],Vc [Value.int .i64 0,Value.int .i64 0,Value.int .i64 0],Vc [Value.slice p M.length c],Vc [Value.int .i64 sc],.dfr,.loop ⟨0,none,fr0,46,[12],Vn,Vm⟩])
   fun x P=>Ym (NI P ((H++[Vc [Value.int .i64 t],Vc [Value.int .i64 0],Vc [Value.int .i64 0,Value.int .i64 0,Value.int .i64 0],Vc [Value.slice p M.length c],Vc [Value.int .i64 sc]]).length+1)) fun x=>PV E Nkd H.length (Y4 x++([.inBlock 0,.code (.seq (ACode.ops [i 44 (AOp.fieldAddr 2 (Sym.t 7)),i 45 (AOp.load1 (Sym.t 44)),⟨none,none,AOp.store 1 (Sym.t 6) (Sym.t 45),none,[]⟩]) .retM),.code .retM]++[.mark (H++[Vc [Value.int .i64 t],Vc [Value.int .i64 0],Vc [Value.int .i64 0,Value.int .i64 0,Value.int .i64 0],Vc [Value.slice p M.length c],Vc [Value.int .i64 sc]]).length])) fr0 (P.set ((H++[Vc [Value.int .i64 t],Vc [Value.int .i64 0],Vc [Value.int .i64 0,Value.int .i64 0,Value.int .i64 0],Vc [Value.slice p M.length c],Vc [Value.int .i64 sc]]).length+1) .dead) fun v' _=>v'=Vi (Nbj M sc t):=by
  intro fr0 f5 C S
  have w:(H++[Vc [Value.int .i64 t],Vc [Value.int .i64 0],Vc [Value.int .i64 0,Value.int .i64 0,Value.int .i64 0],Vc [Value.slice p M.length c],Vc [Value.int .i64 sc]]).length=H.length+5:=by simp
  rw [w]
  have y:ofN M sc ⊆ M:=fun m w=>(O5.mp w).1
  refine N36 (fun rest G=>∃r last,OSt H.length fr0 t r last 0 none G/\Nn4 t last rest/\Y6 t last rest=Nbj M sc t) (fun j=>j<H.length\/j=H.length+4) ?_ ?_ (by rw [OC];rfl) (by rw [OC];rfl) (hs.app _) hc hn (N3j D.2) (by simp) (.inr rfl) ?_ ?_ ?_
  ·rintro rest G G' ⟨r,last,k1,k2,k3⟩ W
   exact ⟨r,last,k1.chg W,k2,k3⟩
  ·rintro m rest G Z aa T ⟨r,last,k1,k2,k3⟩
   refine (Ntn (Nd _) f5 C S k1 k2 ht).mono fun v H' K=>?_
   obtain ⟨hk,⟨rfl,F,q⟩ | ⟨rfl,q⟩⟩:=K
   ·refine ⟨hk,.inl ⟨rfl,r,m,q,k2.next F, ?_⟩⟩
    rw [<-k3,Y6,Ni (by omega)]
   ·refine ⟨hk,.inr ⟨rfl,fun X=>?_⟩⟩
    have o:OSt H.length fr0 t (Y6 t last (m::rest)) last 2 (some .retM) (H'++X):=q.chg Chg.refl.app
    rw [k3] at o
    generalize H'++X=G2 at o
    have len:=o.len
    obtain ⟨f,e3,_,e⟩:=OP (G:=G2) (R:=H.length+6) (by omega) .dead
    have s:=(OH.refl.app (X:=[])).get' (e.alive o.dfr (by omega)) (by have:=e.len;omega)
    obtain ⟨z,A,_,L⟩:=OP (G:=f) (R:=H.length+5) (by have:=e.len;omega) .dead
    have b:=e3 []
    rw [Nb] at b
    have g:=(OH.refl.app (X:=[])).cells (L.cells (e.cells o.br (by omega)) (by omega))
    simp only [n128,Nym,o.loop,b,SB,seval,NC,NJ,NG,NQ,reduceCtorEq,NB,place,NA,ND]
    have d:=Zg (lim:=H.length) (i:=H.length+5) (l:=[]) s (by omega)
    have k:(f++[]).set (H.length+5) .dead=z++[]:=A []
    rw [k,MK] at d
    have B:([]:List Nat)++[H.length+5]=[H.length+5]:=rfl
    show PV E Nkd H.length (.code .retM::.inBlock 0::.code (.seq (ACode.ops [i 44 (AOp.fieldAddr 2 (Sym.t 7)),i 45 (AOp.load1 (Sym.t 44)),⟨none,none,AOp.store 1 (Sym.t 6) (Sym.t 45),none,[]⟩]) .retM)::.code .retM::.mark (H.length+5)::[]) fr0 (f++[]) fun v' _=>v'=Vi (Nbj M sc t)
    simp only [n128,Nym,B,d,C,g,SB,seval,NC,NJ,NG,NQ,reduceCtorEq,NB,place,NA,ND]
  ·intro I a Y
   left
   subst Y
   have:=hs.lt I
   omega
  ·refine ⟨0,Uf,⟨by rw [NV];rfl,by rw [OC];rfl,by rw [OC];rfl,by rw [OC];rfl,by rw [OC];rfl,by simp⟩,⟨.inl rfl,fun m w=>⟨D.1 m (y w),.inl rfl⟩,Ny7 D.2⟩,rfl⟩
  ·rintro H' ⟨r,last,k1,k2,k3⟩
   have len:=k1.len
   obtain ⟨f,e3,_,e⟩:=OP (G:=H') (R:=H.length+6) (by omega) .dead
   have b:=e3 []
   rw [Nb] at b
   have q6:∀X,NI (f++X) (H.length+2)=Vc (Ru last):=fun X=>(OH.refl.app).cells (e.cells k1.bl (by omega))
   have q7:∀X,NI (f++X) (H.length+1)=Vc [Vi r]:=fun X=>(OH.refl.app).cells (e.cells k1.br (by omega))
   have h:=e.alive k1.dfr (by omega:H.length+5≠H.length+6)
   obtain ⟨O,U,V,N⟩:=OP (G:=f) (R:=H.length+1) (by have:=e.len;omega) (Vc [Vi last.off])
   have u:=(OH.refl.app (X:=[])).get' (N.alive h (by omega)) (by have:=e.len;have:=N.len;omega)
   obtain ⟨z,A,_,L⟩:=OP (G:=O) (R:=H.length+5) (by have:=e.len;have:=N.len;omega) .dead
   have g:=(OH.refl.app (X:=[])).cells (L.cells V (by omega))
   have d:=Zg (lim:=H.length) (i:=H.length+5) (l:=[]) u (by omega)
   have k:(O++[]).set (H.length+5) .dead=z++[]:=A []
   rw [k,MK] at d
   have B:([]:List Nat)++[H.length+5]=[H.length+5]:=rfl
   have K:Nbj M sc t=last.off:=by rw [<-k3];rfl
   simp only [n128,Nym,k1.loop,b,SB,seval,NC,NJ,NG,NQ,reduceCtorEq,NB,place,NA,ND]
   show PV E Nkd H.length (.inBlock 0::.code (.seq (ACode.ops [i 44 (AOp.fieldAddr 2 (Sym.t 7)),i 45 (AOp.load1 (Sym.t 44)),⟨none,none,AOp.store 1 (Sym.t 6) (Sym.t 45),none,[]⟩]) .retM)::.code .retM::.mark (H.length+5)::[]) fr0 (f++[]) fun v' _=>v'=Vi (Nbj M sc t)
   simp only [n128,Nym,B,C,S,q6,q7,QS,XU,YN,YM,NH,U,d,g,K,show H.length<=H.length+1 by omega,SB,seval,NC,NJ,NG,NQ,reduceCtorEq,NB,place,NA,ND]
 simp only [n128,Nym,J,SB,seval,NC,NJ,NG,NQ,reduceCtorEq,NB,place,NA,ND]
 exact key _ rfl rfl rfl
theorem Npe {M:List Mk} {sc t:Int} (a:Z4 M):-VI<=Nbj M sc t/\Nbj M sc t<=VI:=by
 have h0:(0:Int)<=VI:=by decide
 refine Nce _ _ (Ny7 a.2) (fun m b=>?_) (by show -VI<=0;omega) (by show (0:Int)<=VI;omega) (fun m _=>.inl rfl) (.inl rfl)
 have:=a.1 m (O5.mp b).1
 unfold Nah at this;omega
theorem Nqy [OB] {mp:Bool} {lim c:Nat} {p:Option Addr} {M:List Mk} {s:Ev} {H:NE} {Q:Value->NE->Prop} (hs:Sl H Ru 3 p M) (hc:Uj 3 c M.length) (hn:M.length<2 ^ 40) (b:Z4 M) (d:Sz s) :
  NK E mp lim 94 [.slice p M.length c,.agg (R3 s).toArray] H Q=Q (Vi (Xc M s)) H:=by
 have a:=d
 unfold Sz at a
 have i:=Npe (sc:=s.scanner) (t:=s.at') b
 have ho:=fun (X:NE) (mp:Bool) (lim:Nat) (Q:Value->NE->Prop)=>Nue (mp:=mp) (lim:=lim) (Q:=Q) (sc:=s.scanner) (t:=s.at') ((OH.refl.app (X:=X)).sl hs) hc hn b a.2.2.2.2.1
 have h:IntKind.i64.wrap (s.at'+Nbj M s.scanner s.at')=s.at'+Nbj M s.scanner s.at':=by unfold VI at *;exact NP (by omega) (by omega)
 refine pc (by decide) e94 rfl rfl ?_
 rw [b94,c94]
 have e:Xc M s=min (max (s.at'+Nbj M s.scanner s.at') 0) s.seen:=rfl
 rw [e]
 generalize Nbj M s.scanner s.at'=o at *
 have f:R9 true (Vi (s.at'+o)) [Vi 0]=some (Vi (max (s.at'+o) 0)):=by
  simp only [R9,VQ]
  grind
 have g:R9 false (Vi (max (s.at'+o) 0)) [Vi s.seen]=some (Vi (min (max (s.at'+o) 0) s.seen)):=by
  simp only [R9,VQ]
  grind
 simp only [n94,r94,OX,Ue,Ve,Vd,Vb,Va,UZ,NH,ho,h,f,g,SB,seval,NC,NJ,NG,NQ,reduceCtorEq,NB,place,NA,ND]
instance (M:List Mk):Decidable (Z4 M):=by unfold Z4;infer_instance
theorem Nto [OB] {mp:Bool} {lim c:Nat} {p:Option Addr} {S:List Ev} {H:NE} {Q:Value->NE->Prop} (hs:Sl H R3 6 p S) (hn:S.length<2 ^ 63) :
  NK E mp lim 55 [.slice p S.length c] H Q=Q (.bool (decide (Rt S))) H:=by
 refine pc (by decide) e55 rfl rfl ?_
 rw [b55,c55]
 by_cases t:S.length<=2000
 case neg=>
  have e:(2000:Int)<(S.length:Int):=by omega
  simp only [n55,r55,gt_iff_lt,e,N1 (show ¬Rt S from fun h=>t h.1),SB,seval,NC,NJ,NG,NQ,reduceCtorEq,NB,place,NA,ND]
 have e:¬(2000:Int)<(S.length:Int):=by omega
 simp only [n55,r55,gt_iff_lt,e,SB,seval,NC,NJ,NG,NQ,reduceCtorEq,NB,place,NA,ND]
 refine NS (fun i=>S.length-i) (fun i fr G=>i<=S.length/\fr 8=.slice p S.length c/\fr 9=Vi S.length/\fr 10=Vi i/\H.length<=G.length/\Sl G R3 6 p S/\∀j,j<i->Sz (gt S j)) 0 ⟨Nw _,rfl,rfl,by rfl,by simp,hs.app _,fun j h=>absurd h (Nat.not_lt_zero j)⟩ ?_
 intro i fr G ⟨hi,m,n,d,hL,q,r⟩ u
 rw [NU Nsm.eq_1]
 refine NL ?_
 by_cases a:i<S.length
 ·have g:=fun X=>(q.app X).loadCells OX a
  have b:=fun c (k:IntKind) (H1:NE)=>q.idx (c:=c) (k:=k) (H1:=H1) a
  have l:IntKind.i64.wrap ((i:Int)+1)=((i+1:Nat):Int):=OE (by omega)
  by_cases o:Sz (gt S i)
  ·simp only [n55,r55,m,n,d,NN,a,hL,b,g,OX,NH,NF,l,Ze,Np o,SB,seval,NC,NJ,NG,NQ,reduceCtorEq,NB,place,NA,ND]
   refine u (i+1) _ _ ⟨by omega,m,n,rfl,by simp;omega,q.app _,fun j hj=>?_⟩ (by omega)
   rcases (by omega:j<i\/j=i) with h | rfl
   ·exact r j h
   ·exact o
  ·simp only [n55,r55,m,n,d,NN,a,hL,b,g,OX,NH,NF,l,Ze,N1 o,N1 (show ¬Rt S from fun h=>o (h.2 _ (QH a))),SB,seval,NC,NJ,NG,NQ,reduceCtorEq,NB,place,NA,ND]
 ·obtain rfl:i=S.length:=by omega
  have f:Rt S:=⟨t,fun s hs=>by
   obtain ⟨j,hj,rfl⟩:=List.mem_iff_getElem.mp hs
   have:=r j hj
   rwa [PS hj] at this⟩
  simp only [n55,r55,m,n,d,NN,a,Np f,SB,seval,NC,NJ,NG,NQ,reduceCtorEq,NB,place,NA,ND]
def vK (m:Mk):Value:=.agg (Ru m).toArray
theorem N1v {κ ν:Type} {kv:κ->Value} {vv:ν->Value} {es:List (κ×ν)} {j:Nat} {e:Value×Value} (h:(TD kv vv es)[j]? = some e):∃x,es[j]? = some x/\e=(kv x.1,vv x.2):=by
 unfold TD at h
 rw [O6] at h
 cases hx:es[j]? with
 | none=>rw [hx] at h;cases h
 | some x=>rw [hx] at h;cases h;exact ⟨x,rfl,rfl⟩
theorem N1u {κ ν:Type} {kv:κ->Value} {vv:ν->Value} {es:List (κ×ν)}:(TD kv vv es).length=es.length:=Nv ..
theorem Ns8 [OB] {lim Y u R:Nat} {es:List ((Int×Int)×Mk)} {H:NE} {Q:Value->NE->Prop} (J:List Nat->NE->Prop) (g:lim<=H.length)
  (l:∀seen G G',J seen G->Chg [H.length] G G'->J seen G')
  (a:∀seen j x G,MetOk es.length (seen++[j])->es[j]? = some x->H.length<G.length->J seen G->WJ Ef false lim Y [vK x.2] G fun v H'=>v=.bool true/\J (seen++[j]) H'/\G.length<=H'.length/\NI H' R=NI G R/\NI H' H.length=NI G H.length)
  (h1:NI H u=Vc [.map (some R)]) (r:NI H R=.map (TD kM vK es)) (h0:J [] H)
  (E:∀seen H',MetOk es.length seen->Tt es.length seen=[]->J seen H'->Q (.tuple #[]) H') :
  NK Ef false lim 143 [.func (.yield Y) #[] #[],Vp u] H Q:=by
 refine Nhj (by decide) Od9 rfl ?_
 rw [Ofd,c143]
 have y:=PR r
 have q1:=fun X=>(OH.refl.app (X:=X)).cells h1
 have t:U4 (.map (some R)) (H++[])=some (Vp H.length,H++[.iter (some R) (TD kM vK es).length []]):=by
  rw [Nos (es:=TD kM vK es) (by rw [NR y];exact r)]
  simp
 simp only [n143,Nyl,q1,t,SB,seval,NC,NJ,NG,NQ,reduceCtorEq,NB,place,NA,ND]
 refine NS (fun seen:List Nat=>es.length-seen.length) (fun seen fr G=>MetOk es.length seen/\fr 0=.func (.yield Y) #[] #[]/\fr 6=Vp H.length/\NI G H.length=.iter (some R) (TD kM vK es).length seen/\NI G R=.map (TD kM vK es)/\H.length<G.length/\J seen G) []
  ⟨⟨List.nodup_nil,fun j h=>(Oe h).elim⟩,rfl,rfl,by rw [NV];rfl,by rw [NR y];exact r,by simp,l _ _ _ h0 ⟨by simp,fun j hj _=>NR hj⟩⟩ ?_
 rintro seen fr G ⟨hs,d,f,C,m,n,w⟩ D
 rw [NU N0r.eq_1]
 refine NL ?_
 simp only [n143,Nyl,d,f,SB,seval,NC,NJ,NG,NQ,reduceCtorEq,NB,place,NA,ND]
 have p:∀e∈TD kM vK es,VK e.1=true:=fun e he=>by
  unfold TD at he
  obtain ⟨x,_,rfl⟩:=List.mem_map.mp he
  rfl
 have i:∀s,Tt (TD kM vK es).length s=Tt es.length s:=fun s=>by rw [N1u]
 refine Nut (es:=TD kM vK es) (by rw [NR n];exact C) g (by rw [NR (by omega)];exact m) p ?_ ?_
 ·intro z
  rw [i] at z
  simp only [n143,Nyl,d,f,SB,seval,NC,NJ,NG,NQ,reduceCtorEq,NB,place,NA,ND]
  exact E seen _ hs z (l _ _ _ w Chg.refl.app)
 ·intro j e hj he
  obtain ⟨x,I,rfl⟩:=N1v he
  rw [i] at hj
  obtain ⟨G1,e1,h1,b⟩:=OP (G:=G) (R:=H.length) n (.iter (some R) (TD kM vK es).length (seen++[j]))
  have A:=b.other R (by omega)
  rw [e1]
  have o:YT (Vp H.length) (G1++[])=some (.tuple #[kM x.1,vK x.2],G1++[]):=by
   exact Nqo (es:=TD kM vK es) (by rw [NR (by rw [b.len];exact n)];exact h1) (by rw [NR (by rw [b.len];omega),A];exact m) he rfl
  have q:lim<=G1.length:=by rw [b.len];omega
  simp only [n143,Nyl,d,f,o,vK,QS,XU,YN,YM,NH,NF,q,SB,seval,NC,NJ,NG,NQ,reduceCtorEq,NB,place,NA,ND]
  have B:J seen (G1++[Vc (Ru x.2)]):=l _ _ _ w ⟨by simp [b.len],fun k hk hA=>by
   rw [NR (by rw [b.len];exact hk)]
   exact b.other k (by simpa using hA)⟩
  have c:=a seen j x _ (hs.add hj) I (by simp [b.len];omega) B
  unfold vK at c
  refine c.mono fun v H' F=>?_
  obtain ⟨rfl,K,L,M,N⟩:=F
  refine NL ?_
  simp only [n143,Nyl,d,f,SB,seval,NC,NJ,NG,NQ,reduceCtorEq,NB,place,NA,ND]
  have O:=b.len
  simp only [Nn,Nl,Ns] at L
  refine D (seen++[j]) _ _ ⟨hs.add hj,d,f, ?_, ?_,by simp;omega,l _ _ _ K Chg.refl.app⟩ ?_
  ·rw [NR (by omega),N,NR (by omega)];exact h1
  ·rw [NR (by omega),M,NR (by omega),A];exact m
  ·have:=(hs.add hj).len
   simp only [Nn,Nl,Ns] at this⊢
   omega
abbrev Ess:=List ((Int×Int)×Mk)
structure CSt (H:NE) (fr0:Nat->Value) (st cap:Nat) (p:Option Addr) (l:List Mk) (G:NE):Prop where
 box:NI G H.length=Vc [.slice p l.length cap]
 dfr:NI G (H.length+1)=.dfr
 loop:NI G (H.length+2)=.loop ⟨st,none,fr0,13,[7],WE,WC⟩
 own:Own (H.length+4) G Ru 3 p cap l
 len:H.length+3<=G.length
 old:∀j,j<H.length->NI G j=NI H j
theorem CSt.chg {H:NE} {fr0:Nat->Value} {st cap:Nat} {p:Option Addr} {l:List Mk} {G G':NE} (h:CSt H fr0 st cap p l G) {A:List Nat} (c:Chg A G G') (hA:∀j∈A,j=H.length+3):CSt H fr0 st cap p l G':=by
 have len:=h.len
 have b:∀j,j<H.length+3->j∉A:=fun j h1 h2=>by have:=hA j h2;omega
 refine ⟨c.cells h.box (b _ (by omega)),c.get h.dfr (by omega) (b _ (by omega)),c.get h.loop (by omega) (b _ (by omega)),h.own.chg c fun a e d=>?_,by have:=c.len;omega,fun j hj=>(c.other j (by omega) (b _ (by omega))).trans (h.old j hj)⟩
 have:=hA _ d
 have:=(h.own.block e).1
 omega
theorem Nop [OB] {lim:Nat} {H:NE} {fr0:Nat->Value} {cap:Nat} {p:Option Addr} {l:List Mk} {x:Mk} {G:NE} (hl:lim<=H.length) (f2:fr0 2=Vp H.length) (h:CSt H fr0 0 cap p l G) (y:H.length+3<G.length) (hn:l.length<2 ^ 20) :
  WJ Ef false lim (H.length+2) [vK x] G fun v H'=>v=.bool true/\(∃g M,CSt H fr0 0 g M (l++[x]) H')/\G.length<=H'.length/\(∀j,j<G.length->j≠H.length->j≠H.length+2->(∀a,p=some a->j≠a.block)->NI H' j=NI G j):=by
 rw [X7 h.loop (by omega) rfl rfl,Yy]
 obtain ⟨G1,e1,h1,k⟩:=OP (G:=G) (R:=H.length+2) (by omega) (.loop ⟨1,none,fr0,13,[7],WE,WC⟩)
 have I:=fun X=>(OH.refl.app (X:=X)).get' h.loop (by omega)
 have L:=k.len
 have ne:∀a,p=some a->a.block≠H.length+2:=fun a e=>by have:=(h.own.block e).1;omega
 have m:=h.own.mut k ne
 obtain ⟨G2,e2,d,_,b,i,s⟩:=m.step (lim':=lim) (bytes:=24) (by omega) QS (by decide) x (by unfold QG;omega) (by omega) (by omega) [Vc (Ru x),Vc (Ru x)] (G1.length+1) 1 (by rw [OC];rfl)
 simp only [Nl,Ns,Oc,Nat.reduceAdd] at e2 d i s
 have z:∀j,j<H.length+3->∀a,p=some a->j≠a.block:=fun j hj a e=>by have:=(h.own.block e).1;omega
 have o2:∀j,j<H.length+3->j≠H.length+2->NI (G2++[]) j=NI G j:=fun j hj t=>by
  rw [b j (by omega) (z j hj),k.other j t]
 have A:NI (G2++[]) (H.length+2)=.loop ⟨1,none,fr0,13,[7],WE,WC⟩:=(b _ (by omega) (z _ (by omega))).trans h1
 have b2:NI (G2++[]) H.length=Vc [.slice p l.length cap]:=(o2 _ (by omega) (by omega)).trans h.box
 rw [Nb] at d o2 A b2
 have r:=fun X=>(OH.refl.app (X:=X)).cells b2
 obtain ⟨B,e3,J,f⟩:=OP (G:=G2) (R:=H.length) (by omega) (Vc [.slice (Sa (G1.length+2)) (l.length+1) (loose 3)])
 have O:=f.alive A (by omega:H.length+2≠H.length)
 have w:=fun X=>(OH.refl.app (X:=X)).get' O (by have:=f.len;omega)
 obtain ⟨C,F,K,o⟩:=OP (G:=B) (R:=H.length+2) (by have:=f.len;omega) (.loop ⟨0,none,fr0,13,[7],WE,WC⟩)
 have u:lim<=G.length:=by omega
 have E:∀X,NI (G1++X) H.length=Vc [.slice p l.length cap]:=fun X=>(OH.refl.app).cells (k.cells h.box (by omega))
 have D:∀Y,NI (G1++Vc (Ru x)::Y) G.length=Vc (Ru x):=fun Y=>by rw [<-L];exact NV
 refine NL ?_
 rw [NU WE.eq_1]
 unfold vK
 simp only [f2,QS,NF,u,I,e1,show lim<=H.length+2 by omega,SB,seval,NC,NJ,NG,NQ,reduceCtorEq,NB,place,NA,ND]
 rw [NU WC.eq_1]
 simp only [f2,E,D,QS,XU,YN,YM,NH,NF,SB,seval,NC,NJ,NG,NQ,reduceCtorEq,NB,place,NA,ND]
 have q:=r []
 simp only [f2,e2,q,e3,w,F,show lim<=H.length+2 by omega,hl,SB,seval,NC,NJ,NG,NQ,reduceCtorEq,NB,place,NA,ND]
 have P:=f.len
 have Q:=o.len
 have n:=(d.mut f (fun a e=>by cases e;show G1.length+2≠H.length;omega)).mut o (fun a e=>by cases e;show G1.length+2≠H.length+2;omega)
 have c:∀j,j≠H.length->j≠H.length+2->NI C j=NI G2 j:=fun j q1 q2=>by rw [o.other j q2,f.other j q1]
 refine ⟨⟨loose 3,Sa (G1.length+2), ?_, ?_, ?_,n.app _, ?_,fun j hj=>?_⟩, ?_,fun j q1 q2 q3 N=>?_⟩
 ·rw [NR (by omega),o.other _ (by omega),J,Nn];rfl
 ·rw [NR (by omega),c _ (by omega) (by omega),o2 _ (by omega) (by omega)];exact h.dfr
 ·rw [NR (by omega)];exact K
 ·have:=h.len
  first | omega | (rw [Nn];omega)
 ·rw [NR (by omega),c _ (by omega) (by omega),o2 _ (by omega) (by omega)];exact h.old j hj
 ·first | omega | (rw [Nn];omega)
 ·have:=b j (by omega) N
  rw [Nb] at this
  rw [NR (by omega),c _ q2 q3,this,k.other j q3]
theorem Nwo [OB] {lim y R:Nat} {es:Ess} {H:NE} {Q:Value->NE->Prop} (hl:lim<=H.length) (h1:NI H y=Vc [.map (some R)]) (E:NI H R=.map (TD kM vK es)) (hn:es.length<2 ^ 20)
  (K:∀G p cap l,l.Perm (es.map (·.2))->Own H.length G Ru 3 p cap l->Chg [] H G->Q (.slice p l.length cap) G) :
  NK Ef false lim 167 [Vz,.func (.func 143) #[] #[Vp y]] H Q:=by
 refine Nhj (by decide) Od4 rfl ?_
 rw [Oe8,c167]
 have L:=PR E
 have hB:=NM h1
 have key:∀fr0:Nat->Value,fr0 2=Vp H.length->
   NK Ef false lim 143 [.func (.yield (H.length+2)) #[] #[],Vp y]
   (H++[Vc [Value.slice none 0 0],.dfr,.loop ⟨0,none,fr0,13,[7],WE,WC⟩])
   fun x C=>Ym (NI C ((H++[Vc [Value.slice none 0 0]]).length+1)) fun x=>PV Ef a167 lim (Y4 x++([.inBlock 0,.code (.seq (ACode.ops [i 12 (AOp.load1 (Sym.t 2)),i 4 (AOp.mov (Sym.t 12))]) .retM),.code .retM]++[.mark (H++[Vc [Value.slice none 0 0]]).length])) fr0 (C.set ((H++[Vc [Value.slice none 0 0]]).length+1) .dead) Q:=by
  intro fr0 f2
  have A:(H++[Vc [Value.slice none 0 0]]).length=H.length+1:=by simp
  rw [A]
  have d:(H++[Vc [Value.slice none 0 0],.dfr,.loop ⟨0,none,fr0,13,[7],WE,WC⟩]).length=H.length+3:=by simp
  refine Ns8 (es:=es) (fun seen G=>∃cap p,CSt H fr0 0 cap p (Nps es seen) G) (by rw [d];omega) ?_ ?_ (by rw [NR hB];exact h1) (by rw [NR L];exact E) ?_ ?_
  ·rintro seen G G' ⟨cap,p,k⟩ D
   rw [d] at D
   exact ⟨cap,p,k.chg D fun j hj=>by simpa using hj⟩
  ·rintro seen j x G b u n ⟨cap,p,k⟩
   rw [d] at n⊢
   have o:j<es.length:=by
    rcases Ol j es.length with h | h
    ·exact h
    ·rw [Nx h] at u;cases u
   have B:seen.length<2 ^ 20:=by
    have:=b.len
    simp only [Nn,Nl,Ns] at this;omega
   refine (Nop (x:=x.2) hl f2 k n (by unfold Nps;rw [Nv];exact B)).mono fun v H' N=>?_
   obtain ⟨rfl,⟨f,O,k'⟩,q1,q2⟩:=N
   have np:∀j,j<H.length+4->∀a,p=some a->j≠a.block:=fun j hj a e=>by have:=(k.own.block e).1;omega
   refine ⟨rfl,⟨f,O, ?_⟩,q1,q2 R (by omega) (by omega) (by omega) (np _ (by omega)),q2 _ (by omega) (by omega) (by omega) (np _ (by omega))⟩
   have e:Nps es (seen++[j])=Nps es seen++[x.2]:=by
    unfold Nps
    rw [Ou,N2,List.map_nil]
    congr 2
    rw [PS (by rw [Nv];exact o),P6]
    rw [Nf o] at u
    cases u;rfl
   rw [e];exact k'
  ·exact ⟨0,none,by rw [NV];rfl,by rw [OC];rfl,by rw [OC];rfl,.inl ⟨rfl,rfl,rfl⟩,by simp,fun j hj=>NR hj⟩
  ·rintro seen H' b M ⟨cap,p,k⟩
   have len:=k.len
   obtain ⟨s,e3,_,c⟩:=OP (G:=H') (R:=H.length+2) (by omega) .dead
   have m:=e3 []
   rw [Nb] at m
   have b3:∀X,NI (s++X) H.length=Vc [.slice p (Nps es seen).length cap]:=fun X=>(OH.refl.app).cells (c.cells k.box (by omega))
   have g:=(OH.refl.app (X:=[])).get' (c.alive k.dfr (by omega:H.length+1≠H.length+2)) (by have:=c.len;omega)
   obtain ⟨F,I,_,w⟩:=OP (G:=s) (R:=H.length+1) (by have:=c.len;omega) .dead
   have q:=Zg (lim:=lim) (i:=H.length+1) (l:=[]) g (by omega)
   have z:(s++[]).set (H.length+1) .dead=F++[]:=I []
   rw [z,MK] at q
   have J:([]:List Nat)++[H.length+1]=[H.length+1]:=rfl
   simp only [n167,N7n,k.loop,m,SB,seval,NC,NJ,NG,NQ,reduceCtorEq,NB,place,NA,ND]
   show PV Ef a167 lim (.inBlock 0::.code (.seq (ACode.ops [i 12 (AOp.load1 (Sym.t 2)),i 4 (AOp.mov (Sym.t 12))]) .retM)::.code .retM::.mark (H.length+1)::[]) fr0 (s++[]) Q
   simp only [n167,N7n,J,f2,b3,q,SB,seval,NC,NJ,NG,NQ,reduceCtorEq,NB,place,NA,ND]
   have r:=(k.own.mut c (fun a e=>by have:=(k.own.block e).1;omega)).mut w (fun a e=>by have:=(k.own.block e).1;omega)
   refine K _ p cap _ (Nzw b M) (Own.le (r.app _) (by omega)) ⟨by have:=c.len;have:=w.len;simp;omega,fun j hj _=>?_⟩
   rw [NR (by have:=c.len;have:=w.len;omega),w.other j (by omega),c.other j (by omega)]
   exact k.old j hj
 simp only [n167,N7n,SB,seval,NC,NJ,NG,NQ,reduceCtorEq,NB,place,NA,ND]
 exact key _ rfl
end Go.Proofs.YtkppjkkkdpcgiaaGreat.Fn


namespace Go.AM.Srt
open Go.AM Go.AM.Sym Go.Sort
variable {E:Env} {iz:Ids} [DT E E] [SortAt E iz] {α:Type} [Inhabited α] {enc:α->List Value} [EncOk enc iz]
def ltC {α:Type} (c:α->α->Int) (x y:α):Bool:=decide (c x y<0)
theorem N8g {G X:NE} {B lim cap n:Nat} {p:Option Addr} {c:α->α->Int} {cl:FuncId} {cs:List Value} {Q:Value->NE->Prop} (hp:p=Sa B) (hB:B<G.length) (hl:lim<=B) (Y:n<2 ^ 61) (hc:∀(mp:Bool) (lim:Nat) (x y:α) (H:NE) (Q:Value->NE->Prop),NK E mp lim cl (.agg (enc x).toArray::.agg (enc y).toArray::cs) H Q=Q (Vi (c x y)) H) {d:Array α} {a b:Nat} (hd:d.size=n) (hb:b<=n) (W:a<=b) :
  NK E false lim iz.INS [.slice p n cap,Vi a,Vi b,.func (.func cl) #[] cs.toArray] (DH enc G B d++X) Q=Q (.tuple #[]) (DH enc G B (insertionSort (ltC c) d a b)++X):=by
 refine runs (SortAt.INS (E:=E) (z:=iz)) ?_
 rw [Obt,N5h]
 have M:IntKind.i64.wrap ((a:Int)+1)=((a+1:Nat):Int):=OE (by omega)
 simp only [Nl7,Nld,M,SB,seval,NC,NJ,NG,NQ,reduceCtorEq,NB,place,NA,ND]
 refine NS (S:=Nat×Array α) (fun s=>b+1-s.1) (fun s fr H=>a<=s.1/\s.1<=b+1/\fr 0=.slice p n cap/\fr 1=Vi a/\fr 2=Vi b/\fr 3=.func (.func cl) #[] cs.toArray/\fr 8=Vi s.1/\
  H=DH enc G B s.2++X/\s.2.size=n/\insertionSort (ltC c) d a b=insOuter (ltC c) a b s.1 s.2) (a+1,d) ⟨by simp,by simp;omega,rfl,rfl,rfl,rfl,rfl,rfl,hd,rfl⟩ ?_
 rintro ⟨i,N⟩ fr H ⟨h1,h2,I,J,K,L,C,rfl,r,he⟩ O
 simp only at h1 h2 C r he
 rw [NU (Np6.eq_1 iz)]
 unfold insOuter at he
 by_cases m:i<b
 ·rw [Ni m] at he
  simp only [Nl7,Nld,I,J,K,L,C,m,SB,seval,NC,NJ,NG,NQ,reduceCtorEq,NB,place,NA,ND]
  refine NS (S:=Nat×Array α) (fun s=>s.1) (fun s fr H=>s.1<=i/\fr 0=.slice p n cap/\fr 1=Vi a/\fr 2=Vi b/\fr 3=.func (.func cl) #[] cs.toArray/\fr 8=Vi i/\fr 9=Vi s.1/\
   H=DH enc G B s.2++X/\s.2.size=n/\insInner (ltC c) a i N=insInner (ltC c) a s.1 s.2) (i,N) ⟨Nd _,I,J,K,L,C,rfl,by simp,r,rfl⟩ ?_
  rintro ⟨j,l⟩ U H2 ⟨k1,q,q1,q2,q3,D,F,rfl,f,hi⟩ V
  simp only at k1 F f hi
  rw [NU (N0i.eq_1 iz)]
  have t:IntKind.i64.wrap ((i:Int)+1)=((i+1:Nat):Int):=OE (by omega)
  by_cases g:a<j
  ·obtain ⟨j,rfl⟩:∃Z,j=Z+1:=⟨j-1,by omega⟩
   have u:IntKind.i64.wrap (((j+1:Nat):Int)-1)=(j:Int):=Rw (n:=j+1) (by omega) (by omega)
   have T:=fun (X:NE) (d:Array α) (hd:d.size=n)=>Zb (X:=X) (d:=d) (i:=j) hp hB (EncOk.len (enc:=enc) (z:=iz)) (by omega)
   have w:=fun (X:NE) (d:Array α) (hd:d.size=n)=>Zb (X:=X) (d:=d) (i:=j+1) hp hB (EncOk.len (enc:=enc) (z:=iz)) (by omega)
   have st:=fun (X:NE) (d:Array α) (hd:d.size=n) (y:α)=>Yl (X:=X) (d:=d) (i:=j) (y:=y) hp hB hl (EncOk.len (enc:=enc) (z:=iz)) (by omega)
   have A:=fun (X:NE) (d:Array α) (hd:d.size=n) (y:α)=>Yl (X:=X) (d:=d) (i:=j+1) (y:=y) hp hB hl (EncOk.len (enc:=enc) (z:=iz)) (by omega)
   have R:=fun c (k:IntKind) (H:NE)=>Ws (e:=iz.e) (i:=j) (n:=n) (c:=c) (k:=k) (H:=H) hp (by omega)
   have v:=fun c (k:IntKind) (H:NE)=>Ws (e:=iz.e) (i:=j+1) (n:=n) (c:=c) (k:=k) (H:=H) hp (by omega)
   rw [insInner] at hi
   by_cases o:ltC c l[j+1]! l[j]! = true
   ·have h:c l[j+1]! l[j]!<0:=by simpa [ltC] using o
    simp only [Nl7,Nld,q,q1,q2,q3,D,F,g,u,T,w,st,A,R,v,f,hc,h,Nh,(EncOk.len (enc:=enc) (z:=iz)),SB,seval,NC,NJ,NG,NQ,reduceCtorEq,NB,place,NA,ND]
    refine V (j,swp l (j+1) j) _ _ ⟨by simp only;omega,q,q1,q2,q3,D,rfl,by simp [swp],by simp [swp,f], ?_⟩ (by simp only;omega)
    rw [hi];simp [g,o]
   ·have h:¬c l[j+1]! l[j]!<0:=by simpa [ltC] using o
    simp only [Nl7,Nld,q,q1,q2,q3,D,F,g,u,T,w,st,A,R,v,f,hc,h,t,SB,seval,NC,NJ,NG,NQ,reduceCtorEq,NB,place,NA,ND]
    refine O (i+1,l) _ _ ⟨by simp only;omega,by simp only;omega,q,q1,q2,q3,rfl,by simp,f, ?_⟩ (by simp only;omega)
    rw [he,hi];simp [g,o]
  ·have P:¬(a:Int)<(j:Int):=by omega
   simp only [Nl7,Nld,q,q1,q2,q3,D,F,g,t,SB,seval,NC,NJ,NG,NQ,reduceCtorEq,NB,place,NA,ND]
   refine O (i+1,l) _ _ ⟨by simp only;omega,by simp only;omega,q,q1,q2,q3,rfl,by simp,f, ?_⟩ (by simp only;omega)
   rw [he,hi]
   cases j with
   | zero=>rfl
   | succ j=>rw [insInner];simp [show ¬j+1 > a by omega]
 ·rw [Ng m] at he
  simp only [Nl7,Nld,I,J,K,L,C,m,he,SB,seval,NC,NJ,NG,NQ,reduceCtorEq,NB,place,NA,ND]
theorem N7k {G X:NE} {B lim cap n:Nat} {p:Option Addr} {c:α->α->Int} {cl:FuncId} {cs:List Value} {Q:Value->NE->Prop} (hp:p=Sa B) (hB:B<G.length) (hl:lim<=B) (w:n<2 ^ 61) (hc:∀(mp:Bool) (lim:Nat) (x y:α) (H:NE) (Q:Value->NE->Prop),NK E mp lim cl (.agg (enc x).toArray::.agg (enc y).toArray::cs) H Q=Q (Vi (c x y)) H) {d:Array α} {a b:Nat} (hd:d.size=n) (D:b<=n) (v:a<b) :
  NK E false lim iz.REV [.slice p n cap,Vi a,Vi b,.func (.func cl) #[] cs.toArray] (DH enc G B d++X) Q=Q (.tuple #[]) (DH enc G B (reverseRange d a b)++X):=by
 refine runs (SortAt.REV (E:=E) (z:=iz)) ?_
 rw [Oez,N8y]
 have o:IntKind.i64.wrap ((b:Int)-1)=((b-1:Nat):Int):=Rw (by omega) (by omega)
 simp only [N77,N7m,o,SB,seval,NC,NJ,NG,NQ,reduceCtorEq,NB,place,NA,ND]
 have C:=fun (i:Nat) (X:NE) (d:Array α) (hd:d.size=n) (hi:i<n)=>Zb (X:=X) (d:=d) (i:=i) hp hB (EncOk.len (enc:=enc) (z:=iz)) (by omega);have st:=fun (i:Nat) (X:NE) (d:Array α) (hd:d.size=n) (hi:i<n) (y:α)=>Yl (X:=X) (d:=d) (i:=i) (y:=y) hp hB hl (EncOk.len (enc:=enc) (z:=iz)) (by omega);have A:=fun (i:Nat) (hi:i<n) c (k:IntKind) (H:NE)=>Ws (e:=iz.e) (i:=i) (n:=n) (c:=c) (k:=k) (H:=H) hp hi
 refine NS (S:=(Nat×Nat)×Array α) (fun s=>s.1.2+1-s.1.1) (fun s fr H=>s.1.1<=b/\s.1.2<b/\fr 0=.slice p n cap/\fr 8=Vi s.1.1/\fr 9=Vi s.1.2/\
  H=DH enc G B s.2++X/\s.2.size=n/\reverseRange d a b=reverseLoop s.1.1 s.1.2 s.2) ((a,b-1),d) ⟨by simp;omega,by simp;omega,rfl,rfl,rfl,rfl,hd,rfl⟩ ?_
 rintro ⟨⟨i,j⟩,t⟩ fr H ⟨h1,h2,h,l,m,rfl,g,he⟩ u
 simp only at h1 h2 l m g he
 rw [NU (N0b.eq_1 iz)]
 unfold reverseLoop at he
 by_cases f:i<j
 ·rw [Ni f] at he
  have q:IntKind.i64.wrap ((i:Int)+1)=((i+1:Nat):Int):=OE (by omega)
  have r:IntKind.i64.wrap ((j:Int)-1)=((j-1:Nat):Int):=Rw (by omega) (by omega)
  have hi:i<n:=by omega
  have hj:j<n:=by omega
  simp only [N77,N7m,h,l,m,f,q,r,C,st,A,Nb,Nh,(EncOk.len (enc:=enc) (z:=iz)),g,hi,hj,SB,seval,NC,NJ,NG,NQ,reduceCtorEq,NB,place,NA,ND]
  refine u ((i+1,j-1),swp t i j) _ _ ⟨by simp only;omega,by simp only;omega,h,rfl,rfl,by simp [swp],by simp [swp,g],he⟩ (by simp only;omega)
 ·rw [Ng f] at he
  simp only [N77,N7m,h,l,m,f,he,SB,seval,NC,NJ,NG,NQ,reduceCtorEq,NB,place,NA,ND]
theorem Ndd {G X:NE} {B lim cap n:Nat} {p:Option Addr} {c:α->α->Int} {cl:FuncId} {cs:List Value} {Q:Value->NE->Prop} (hp:p=Sa B) (hB:B<G.length) (hl:lim<=B) (W:n<2 ^ 61) (hc:∀(mp:Bool) (lim:Nat) (x y:α) (H:NE) (Q:Value->NE->Prop),NK E mp lim cl (.agg (enc x).toArray::.agg (enc y).toArray::cs) H Q=Q (Vi (c x y)) H) {d:Array α} {lo hi first:Nat} (hd:d.size=n) (Y:first+hi<=n) (V:lo<=hi) :
  NK E false lim iz.SIFT [.slice p n cap,Vi lo,Vi hi,Vi first,.func (.func cl) #[] cs.toArray] (DH enc G B d++X) Q=Q (.tuple #[]) (DH enc G B (siftDown (ltC c) hi first lo d)++X):=by
 refine runs (SortAt.SIFT (E:=E) (z:=iz)) ?_
 rw [Obo,N2d]
 generalize hT:siftDown (ltC c) hi first lo d=T
 simp only [Nci,Ncb,SB,seval,NC,NJ,NG,NQ,reduceCtorEq,NB,place,NA,ND]
 have O:=fun (i:Nat) (X:NE) (d:Array α) (hd:d.size=n) (hi:i<n)=>Zb (X:=X) (d:=d) (i:=i) hp hB (EncOk.len (enc:=enc) (z:=iz)) (by omega);have st:=fun (i:Nat) (X:NE) (d:Array α) (hd:d.size=n) (hi:i<n) (y:α)=>Yl (X:=X) (d:=d) (i:=i) (y:=y) hp hB hl (EncOk.len (enc:=enc) (z:=iz)) (by omega);have N:=fun (i:Nat) (hi:i<n) c (k:IntKind) (H:NE)=>Ws (e:=iz.e) (i:=i) (n:=n) (c:=c) (k:=k) (H:=H) hp hi
 refine NS (S:=Nat×Array α) (fun s=>hi-s.1) (fun s fr H=>s.1<=hi/\fr 0=.slice p n cap/\fr 2=Vi hi/\fr 3=Vi first/\fr 4=.func (.func cl) #[] cs.toArray/\fr 10=Vi s.1/\
  H=DH enc G B s.2++X/\s.2.size=n/\T=siftDown (ltC c) hi first s.1 s.2) (lo,d) ⟨V,rfl,rfl,rfl,rfl,rfl,rfl,hd,hT.symm⟩ ?_
 rintro ⟨r,l⟩ fr H ⟨h1,w,A,C,D,f,rfl,a,he⟩ U
 simp only at h1 f a he
 rw [NU (Nse.eq_1 iz)]
 unfold siftDown at he
 have g:IntKind.i64.wrap (2*(r:Int))=((2*r:Nat):Int):=by rw [NP (by omega) (by omega)];omega
 have j:IntKind.i64.wrap (((2*r:Nat):Int)+1)=((2*r+1:Nat):Int):=OE (by omega)
 have m:IntKind.i64.wrap (((2*r+1:Nat):Int)+1)=((2*r+2:Nat):Int):=OE (by omega)
 have o:IntKind.i64.wrap ((first:Int)+((2*r+1:Nat):Int))=((first+(2*r+1):Nat):Int):=by rw [NP (by omega) (by omega)];omega
 have q:IntKind.i64.wrap (((first+(2*r+1):Nat):Int)+1)=((first+(2*r+2):Nat):Int):=OE (by omega)
 have t:IntKind.i64.wrap ((first:Int)+((2*r+2:Nat):Int))=((first+(2*r+2):Nat):Int):=by rw [NP (by omega) (by omega)];omega
 have u:IntKind.i64.wrap ((first:Int)+(r:Int))=((first+r:Nat):Int):=by rw [NP (by omega) (by omega)];omega
 by_cases R:2*r+1>=hi
 ·rw [Rf R] at he
  have b:hi<=2*r+1:=R
  simp only [Nci,Ncb,w,A,C,D,f,g,j,b,he,SB,seval,NC,NJ,NG,NQ,reduceCtorEq,NB,place,NA,ND]
 ·rw [dif_neg R] at he
  have b:¬hi<=2*r+1:=R
  have K:first+(2*r+1)<n:=by omega
  have L:first+r<n:=by omega
  by_cases J:2*r+1+1<hi/\c l[first+(2*r+1)]! l[first+(2*r+2)]!<0
  ·obtain ⟨J,I⟩:=J
   have M:first+(2*r+2)<n:=by omega
   have F:2*r+2<hi:=by omega
   rw [Ni (by simp only [N0,N3,ltC];exact ⟨J,by rw [show first+(2*r+1)+1=first+(2*r+2) by omega];exact I⟩)] at he
   by_cases v:c l[first+r]! l[first+(2*r+2)]!<0
   ·rw [Ng (by simp [ltC,v]),Rf F] at he
    simp only [Nci,Ncb,w,A,C,D,f,g,j,m,o,q,t,u,b,F,I,v,O,st,N,Nb,Nh,(EncOk.len (enc:=enc) (z:=iz)),a,K,L,M,hc,SB,seval,NC,NJ,NG,NQ,reduceCtorEq,NB,place,NA,ND]
    refine U (2*r+2,swp l (first+r) (first+(2*r+2))) _ _ ⟨by simp only;omega,w,A,C,D,rfl,by simp [swp],by simp [swp,a],he⟩ (by simp only;omega)
   ·rw [Ni (by simp [ltC,v])] at he
    simp only [Nci,Ncb,w,A,C,D,f,g,j,m,o,q,t,u,b,F,I,v,O,st,N,Nb,Nh,(EncOk.len (enc:=enc) (z:=iz)),a,K,L,M,hc,he,SB,seval,NC,NJ,NG,NQ,reduceCtorEq,NB,place,NA,ND]
  ·rw [Ng (by simp only [N0,N3,ltC];rw [show first+(2*r+1)+1=first+(2*r+2) by omega];exact J)] at he
   by_cases v:c l[first+r]! l[first+(2*r+1)]!<0
   ·rw [Ng (by simp [ltC,v])] at he
    by_cases P:2*r+2<hi
    ·have I:¬c l[first+(2*r+1)]! l[first+(2*r+2)]!<0:=fun h=>J ⟨by omega,h⟩
     have M:first+(2*r+2)<n:=by omega
     simp only [Nci,Ncb,w,A,C,D,f,g,j,m,o,q,t,u,b,P,I,v,O,st,N,Nb,Nh,(EncOk.len (enc:=enc) (z:=iz)),a,K,L,M,hc,SB,seval,NC,NJ,NG,NQ,reduceCtorEq,NB,place,NA,ND]
     refine U (2*r+1,swp l (first+r) (first+(2*r+1))) _ _ ⟨by simp only;omega,w,A,C,D,rfl,by simp [swp],by simp [swp,a],he⟩ (by simp only;omega)
    ·simp only [Nci,Ncb,w,A,C,D,f,g,j,m,o,q,t,u,b,P,v,O,st,N,Nb,Nh,(EncOk.len (enc:=enc) (z:=iz)),a,K,L,hc,SB,seval,NC,NJ,NG,NQ,reduceCtorEq,NB,place,NA,ND]
     refine U (2*r+1,swp l (first+r) (first+(2*r+1))) _ _ ⟨by simp only;omega,w,A,C,D,rfl,by simp [swp],by simp [swp,a],he⟩ (by simp only;omega)
   ·rw [Ni (by simp [ltC,v])] at he
    by_cases P:2*r+2<hi
    ·have I:¬c l[first+(2*r+1)]! l[first+(2*r+2)]!<0:=fun h=>J ⟨by omega,h⟩
     have M:first+(2*r+2)<n:=by omega
     simp only [Nci,Ncb,w,A,C,D,f,g,j,m,o,q,t,u,b,P,I,v,O,st,N,Nb,Nh,(EncOk.len (enc:=enc) (z:=iz)),a,K,L,M,hc,he,SB,seval,NC,NJ,NG,NQ,reduceCtorEq,NB,place,NA,ND]
    ·simp only [Nci,Ncb,w,A,C,D,f,g,j,m,o,q,t,u,b,P,v,O,st,N,Nb,Nh,(EncOk.len (enc:=enc) (z:=iz)),a,K,L,hc,he,SB,seval,NC,NJ,NG,NQ,reduceCtorEq,NB,place,NA,ND]
variable {E:Env} {iz:Ids} [DT E E] [SortAt E iz] {α:Type} [Inhabited α] {enc:α->List Value} [EncOk enc iz]
theorem Noc {α:Type} [Inhabited α] {d:Array α} {i j:Nat}:(swp d i j).size=d.size:=by simp [swp]
theorem Wx {α:Type} [Inhabited α] {lt:α->α->Bool} {hi first:Nat}:∀(m r:Nat) (d:Array α),hi-r<=m->(siftDown lt hi first r d).size=d.size
 | 0,r,d,h=>by
   rw [siftDown,Rf (by omega)]
 | m+1,r,d,h=>by
   rw [siftDown]
   split
   ·rfl
   ·split
    ·split
     ·rfl
     ·split
      ·rw [Wx m _ _ (by omega),Noc]
      ·rfl
    ·split
     ·rfl
     ·rw [Wx m _ _ (by omega),Noc]
theorem N4x {G X:NE} {B lim cap n:Nat} {p:Option Addr} {c:α->α->Int} {cl:FuncId} {cs:List Value} {Q:Value->NE->Prop} (hp:p=Sa B) (hB:B<G.length) (hl:lim<=B) (J:n<2 ^ 61) (hc:∀(mp:Bool) (lim:Nat) (x y:α) (H:NE) (Q:Value->NE->Prop),NK E mp lim cl (.agg (enc x).toArray::.agg (enc y).toArray::cs) H Q=Q (Vi (c x y)) H) {d:Array α} {a b:Nat} (hd:d.size=n) (hb:b<=n) (aa:a<=b) :
  NK E false lim iz.HEAP [.slice p n cap,Vi a,Vi b,.func (.func cl) #[] cs.toArray] (DH enc G B d++X) Q=Q (.tuple #[]) (DH enc G B (heapSort (ltC c) d a b)++X):=by
 refine runs (SortAt.HEAP (E:=E) (z:=iz)) ?_
 rw [Obu,N2h]
 obtain ⟨h,rfl⟩:∃h,b=a+h:=⟨b-a,by omega⟩
 have K:IntKind.i64.wrap (((a+h:Nat):Int)-(a:Int))=(h:Int):=by rw [NP (by omega) (by omega)];omega
 have v:IntKind.i64.wrap ((h:Int)-1)=(h:Int)-1:=NP (by omega) (by omega)
 have L:IntKind.i64.wrap (((h:Int)-1).tdiv 2)=(((h-1) / 2+1:Nat):Int)-1:=by
  rcases Qp h with rfl | h0
  ·decide
  ·rw [Ps (by omega),NP (by omega) (by omega)];omega
 generalize hT:heapSort (ltC c) d a (a+h)=T
 rw [heapSort,show a+h-a=h by omega] at hT
 have ld:=fun (i:Nat) (X:NE) (d:Array α) (hd:d.size=n) (hi:i<n)=>Zb (X:=X) (d:=d) (i:=i) hp hB (EncOk.len (enc:=enc) (z:=iz)) (by omega);have st:=fun (i:Nat) (X:NE) (d:Array α) (hd:d.size=n) (hi:i<n) (y:α)=>Yl (X:=X) (d:=d) (i:=i) (y:=y) hp hB hl (EncOk.len (enc:=enc) (z:=iz)) (by omega);have ix:=fun (i:Nat) (hi:i<n) c (k:IntKind) (H:NE)=>Ws (e:=iz.e) (i:=i) (n:=n) (c:=c) (k:=k) (H:=H) hp hi
 have g:=fun (X:NE) (d:Array α) (lo hi:Nat) (hd:d.size=n) (V:hi<=h) (I:lo<=hi) Q=>Ndd (X:=X) (d:=d) (lo:=lo) (hi:=hi) (first:=a) (cap:=cap) (Q:=Q) hp hB hl J hc hd (by omega) I
 simp only [Nl8,Nle,K,v,L,SB,seval,NC,NJ,NG,NQ,reduceCtorEq,NB,place,NA,ND]
 refine NS (S:=Nat×Array α) (fun s=>s.1) (fun s fr H=>s.1<=h+1/\(h=0->s.1<=1)/\(0<h->s.1<=h)/\fr 0=.slice p n cap/\fr 3=.func (.func cl) #[] cs.toArray/\fr 8=Vi a/\fr 9=Vi 0/\fr 10=Vi h/\fr 11=Vi ((s.1:Int)-1)/\
  H=DH enc G B s.2++X/\s.2.size=n/\T=heapPop (ltC c) a h (heapBuild (ltC c) h a s.1 s.2)) ((h-1) / 2+1,d) ⟨by simp only;omega,by simp only;omega,by simp only;omega,rfl,rfl,rfl,rfl,rfl,rfl,rfl,hd,hT.symm⟩ ?_
 rintro ⟨k,R⟩ fr H ⟨h1,h2,Z,w,A,C,D,o,j,rfl,l,he⟩ U
 simp only at h1 h2 Z j l he
 rw [NU (Nsk.eq_1 iz)]
 cases k with
 | succ k=>
   have hk:((k+1:Nat):Int)-1=(k:Int):=by omega
   rw [hk] at j
   have u:IntKind.i64.wrap ((k:Int)-1)=(k:Int)-1:=NP (by omega) (by omega)
   have t:k<=h:=by omega
   have r:(0:Int)<=(k:Int):=by omega
   simp only [Nl8,Nle,w,A,C,D,o,j,r,u,g,l,t,SB,seval,NC,NJ,NG,NQ,reduceCtorEq,NB,place,NA,ND]
   refine U (k,siftDown (ltC c) h a k R) _ _ ⟨by simp only;omega,by simp only;omega,by simp only;omega,w,A,C,D,o,rfl,by simp,by simp only;rw [Wx _ _ _ (Nd _),l],he⟩ (by simp only;omega)
 | zero=>
   clear U
   rw [heapBuild] at he
   simp only [Nl8,Nle,w,A,C,D,o,j,v,Qq,Int.ofNat_eq_natCast,Int.reduceSub,Int.zero_sub,Int.reduceNeg,SB,seval,NC,NJ,NG,NQ,reduceCtorEq,NB,place,NA,ND]
   refine NS (S:=Nat×Array α) (fun s=>s.1) (fun s fr H=>s.1<=h/\fr 0=.slice p n cap/\fr 3=.func (.func cl) #[] cs.toArray/\fr 8=Vi a/\fr 9=Vi 0/\fr 12=Vi ((s.1:Int)-1)/\
    H=DH enc G B s.2++X/\s.2.size=n/\T=heapPop (ltC c) a s.1 s.2) (h,R) ⟨Nd _,w,A,C,D,rfl,by simp,l,he⟩ ?_
   rintro ⟨k,W⟩ Y H2 ⟨k1,N,q3,O,P,m,rfl,q,F⟩ hM
   simp only at k1 m q F
   rw [NU (Nsl.eq_1 iz)]
   cases k with
   | succ k=>
     have hk:((k+1:Nat):Int)-1=(k:Int):=by omega
     rw [hk] at m
     have u:IntKind.i64.wrap ((k:Int)-1)=(k:Int)-1:=NP (by omega) (by omega)
     have M:IntKind.i64.wrap ((a:Int)+(k:Int))=((a+k:Nat):Int):=by rw [NP (by omega) (by omega)];omega
     have i1:a<n:=by omega
     have i2:a+k<n:=by omega
     have t:k<=h:=by omega
     have r:(0:Int)<=(k:Int):=by omega
     have f:=fun (X:NE) (d:Array α) (hi:Nat) (hd:d.size=n) (V:hi<=h) Q=>g X d 0 hi hd V (Nw _) Q
     simp only [show ((0:Nat):Int)=0 from rfl] at f
     simp only [Nl8,Nle,N,q3,O,P,m,r,u,M,f,q,t,ld,st,ix,Nb,Nh,(EncOk.len (enc:=enc) (z:=iz)),i1,i2,SB,seval,NC,NJ,NG,NQ,reduceCtorEq,NB,place,NA,ND]
     refine hM (k,siftDown (ltC c) k a 0 (swp W a (a+k))) _ _ ⟨by simp only;omega,N,q3,O,P,rfl,by simp [swp],by simp only;rw [Wx _ _ _ (Nd _),Noc,q],F⟩ (by simp only;omega)
   | zero=>
     rw [heapPop] at F
     simp only [Nl8,Nle,N,q3,O,P,m,F,Int.reduceSub,Int.zero_sub,Int.reduceNeg,SB,seval,NC,NJ,NG,NQ,reduceCtorEq,NB,place,NA,ND]
variable {E:Env} {iz:Ids} [DT E E] [SortAt E iz] {α:Type} [Inhabited α] {enc:α->List Value} [EncOk enc iz]
theorem Y0 {α:Type} [Inhabited α] {p:α->Bool} {d:Array α} {j i:Nat} (h:i<=j) (hp:p d[i]! = true):scanUp p d j i=scanUp p d j (i+1):=by
 rw [scanUp];simp [h,hp]
theorem Yz {α:Type} [Inhabited α] {p:α->Bool} {d:Array α} {j i:Nat} (h:i<=j->p d[i]! = false):scanUp p d j i=i:=by
 rw [scanUp]
 by_cases q:i<=j
 ·simp [h q]
 ·simp [q]
theorem WM {α:Type} [Inhabited α] {p:α->Bool} {d:Array α} {j i:Nat} (h:i<=j) (h0:0<j) (hp:p d[j]! = true):scanDown p d i j=scanDown p d i (j-1):=by
 obtain ⟨j,rfl⟩:∃a,j=a+1:=⟨j-1,by omega⟩
 rw [scanDown];simp [h,hp]
theorem WL {α:Type} [Inhabited α] {p:α->Bool} {d:Array α} {j i:Nat} (h:i<=j->p d[j]! = false):scanDown p d i j=j:=by
 cases j with
 | zero=>rfl
 | succ j=>
   rw [scanDown]
   by_cases q:i<=j+1
   ·simp [h q]
   ·simp [q]
theorem Nli {α:Type} [Inhabited α] {lt:α->α->Bool} {a i j b c:Nat} {d:Array α} (h1:scanUp (fun x=>!lt d[a]! x) d j i=b) (h2:scanDown (fun x=>lt d[a]! x) d b j=c) (h:b > c):partEqLoop lt a i j d=(b,d):=by
 rw [partEqLoop];simp only [h1,h2];rw [Ni h]
theorem Nlj {α:Type} [Inhabited α] {lt:α->α->Bool} {a i j b c:Nat} {d:Array α} (h1:scanUp (fun x=>!lt d[a]! x) d j i=b) (h2:scanDown (fun x=>lt d[a]! x) d b j=c) (h:¬b > c) (e:i<=b) (f:c<=j) (g:0<b):partEqLoop lt a i j d=partEqLoop lt a (b+1) (c-1) (swp d b c):=by
 rw [partEqLoop];simp only [h1,h2];rw [Ng h,Rf (by omega)]
theorem N7t {G X:NE} {B lim cap n:Nat} {p:Option Addr} {c:α->α->Int} {cl:FuncId} {cs:List Value} {Q:Value->NE->Prop} (hp:p=Sa B) (hB:B<G.length) (hl:lim<=B) (ac:n<2 ^ 61) (hc:∀(mp:Bool) (lim:Nat) (x y:α) (H:NE) (Q:Value->NE->Prop),NK E mp lim cl (.agg (enc x).toArray::.agg (enc y).toArray::cs) H Q=Q (Vi (c x y)) H) {d:Array α} {a b v:Nat} (hd:d.size=n) (hb:b<=n) (ab:a<=v) (ad:v<b) :
  NK E false lim iz.PEQ [.slice p n cap,Vi a,Vi b,Vi v,.func (.func cl) #[] cs.toArray] (DH enc G B d++X) Q=Q (Vi ((partitionEqual (ltC c) d a b v).1:Nat)) (DH enc G B (partitionEqual (ltC c) d a b v).2++X):=by
 refine runs (SortAt.PEQ (E:=E) (z:=iz)) ?_
 rw [Oe1,N80]
 have V:IntKind.i64.wrap ((b:Int)-1)=((b-1:Nat):Int):=Rw (by omega) (by omega)
 have W:IntKind.i64.wrap ((a:Int)+1)=((a+1:Nat):Int):=OE (by omega)
 generalize hT:partitionEqual (ltC c) d a b v=T
 rw [partitionEqual] at hT
 have w:=fun (i:Nat) (X:NE) (d:Array α) (hd:d.size=n) (hi:i<n)=>Zb (X:=X) (d:=d) (i:=i) hp hB (EncOk.len (enc:=enc) (z:=iz)) (by omega);have st:=fun (i:Nat) (X:NE) (d:Array α) (hd:d.size=n) (hi:i<n) (y:α)=>Yl (X:=X) (d:=d) (i:=i) (y:=y) hp hB hl (EncOk.len (enc:=enc) (z:=iz)) (by omega);have u:=fun (i:Nat) (hi:i<n) c (k:IntKind) (H:NE)=>Ws (e:=iz.e) (i:=i) (n:=n) (c:=c) (k:=k) (H:=H) hp hi
 have N:a<n:=by omega
 have i2:v<n:=by omega
 simp only [Nl6,Nlc,V,W,w,st,u,Nb,Nh,(EncOk.len (enc:=enc) (z:=iz)),hd,N,i2,SB,seval,NC,NJ,NG,NQ,reduceCtorEq,NB,place,NA,ND]
 refine NS (S:=(Nat×Nat)×Array α) (fun s=>s.1.2+1-s.1.1) (fun s fr H=>a<s.1.1/\s.1.1<=b/\s.1.2<b/\fr 0=.slice p n cap/\fr 1=Vi a/\fr 4=.func (.func cl) #[] cs.toArray/\fr 11=Vi s.1.1/\fr 12=Vi s.1.2/\
  H=DH enc G B s.2++X/\s.2.size=n/\T=partEqLoop (ltC c) a s.1.1 s.1.2 s.2) ((a+1,b-1),swp d a v) ⟨by simp only;omega,by simp only;omega,by simp only;omega,rfl,rfl,rfl,rfl,rfl,by simp [swp],by simp [swp,hd],hT.symm⟩ ?_
 rintro ⟨⟨i,j⟩,f⟩ fr H ⟨h1,h2,h3,g0,g1,g4,F,I,rfl,l,he⟩ hN
 simp only at h1 h2 h3 F I l he
 rw [NU (N0f.eq_1 iz)]
 simp only [Nl6,Nlc,SB,seval,NC,NJ,NG,NQ,reduceCtorEq,NB,place,NA,ND]
 refine NS (S:=Nat) (fun s=>b+1-s) (fun s fr H=>i<=s/\s<=b/\fr 0=.slice p n cap/\fr 1=Vi a/\fr 4=.func (.func cl) #[] cs.toArray/\fr 11=Vi s/\fr 12=Vi j/\
  H=DH enc G B f++X/\scanUp (fun x=>!ltC c f[a]! x) f j i=scanUp (fun x=>!ltC c f[a]! x) f j s) i ⟨Nd _,h2,g0,g1,g4,F,I,rfl,rfl⟩ ?_
 rintro g fr1 H1 ⟨k1,k2,P,q1,R,r,m,rfl,hs⟩ J
 rw [NU (N0g.eq_1 iz)]
 by_cases C:g<=j/\¬c f[a]! f[g]!<0
 ·obtain ⟨C,c2⟩:=C
  have Y:IntKind.i64.wrap ((g:Int)+1)=((g+1:Nat):Int):=OE (by omega)
  have i3:g<n:=by omega
  simp only [Nl6,Nlc,P,q1,R,r,m,C,c2,Y,w,st,u,Nb,Nh,(EncOk.len (enc:=enc) (z:=iz)),l,N,i3,hc,SB,seval,NC,NJ,NG,NQ,reduceCtorEq,NB,place,NA,ND]
  exact J (g+1) _ _ ⟨by omega,by omega,P,q1,R,rfl,m,rfl,by rw [hs,Y0 C (by simp [ltC,c2])]⟩ (by omega)
 have L:scanUp (fun x=>!ltC c f[a]! x) f j i=g:=by
  rw [hs,Yz]
  intro q
  by_cases q2:c f[a]! f[g]!<0
  ·simp [ltC,q2]
  ·exact absurd ⟨q,q2⟩ C
 clear J
 have hx:(g<=j/\c f[a]! f[g]!<0)\/¬g<=j:=by
  by_cases q:g<=j
  ·exact .inl ⟨q,Ny fun q2=>C ⟨q,q2⟩⟩
  ·exact .inr q
 have i0:g<=j->g<n:=fun q=>by omega
 rcases hx with ⟨c2,c3⟩ | c2
 case' inl=>simp only [Nl6,Nlc,P,q1,R,r,m,c2,c3,w,st,u,Nb,Nh,(EncOk.len (enc:=enc) (z:=iz)),l,N,i0 c2,hc,SB,seval,NC,NJ,NG,NQ,reduceCtorEq,NB,place,NA,ND]
 case' inr=>simp only [Nl6,Nlc,P,q1,R,r,m,c2,w,st,u,Nb,Nh,(EncOk.len (enc:=enc) (z:=iz)),SB,seval,NC,NJ,NG,NQ,reduceCtorEq,NB,place,NA,ND]
 all_goals
  refine NS (S:=Nat) (fun s=>s) (fun s fr H=>s<=j/\fr 0=.slice p n cap/\fr 1=Vi a/\fr 4=.func (.func cl) #[] cs.toArray/\fr 11=Vi g/\fr 12=Vi s/\
   H=DH enc G B f++X/\scanDown (fun x=>ltC c f[a]! x) f g j=scanDown (fun x=>ltC c f[a]! x) f g s) j ⟨Nd _,P,q1,R,r,m,rfl,rfl⟩ ?_
  rintro h aa H2 ⟨m1,O,p1,p4,o,A,rfl,K⟩ J
  rw [NU (N0h.eq_1 iz)]
  have i4:h<n:=by omega
  by_cases D:g<=h/\c f[a]! f[h]!<0
  ·obtain ⟨D,c5⟩:=D
   have t:IntKind.i64.wrap ((h:Int)-1)=((h-1:Nat):Int):=Rw (by omega) (by omega)
   simp only [Nl6,Nlc,O,p1,p4,o,A,D,c5,t,w,st,u,Nb,Nh,(EncOk.len (enc:=enc) (z:=iz)),l,N,i4,hc,SB,seval,NC,NJ,NG,NQ,reduceCtorEq,NB,place,NA,ND]
   exact J (h-1) _ _ ⟨by omega,O,p1,p4,o,rfl,rfl,by rw [K,WM D (by omega) (by simp [ltC,c5])]⟩ (by omega)
  have M:scanDown (fun x=>ltC c f[a]! x) f g j=h:=by
   rw [K,WL]
   intro q
   have q2:¬c f[a]! f[h]!<0:=fun q2=>D ⟨q,q2⟩
   simp [ltC,q2]
  clear J
  by_cases c6:h<g
  ·have U:¬g<=h:=by omega
   rw [Nli L M c6] at he
   simp only [Nl6,Nlc,O,p1,p4,o,A,U,c6,w,st,u,Nb,Nh,(EncOk.len (enc:=enc) (z:=iz)),he,SB,seval,NC,NJ,NG,NQ,reduceCtorEq,NB,place,NA,ND]
  ·have U:g<=h:=by omega
   have c8:¬c f[a]! f[h]!<0:=fun q=>D ⟨U,q⟩
   rw [Nlj L M c6 k1 m1 (by omega)] at he
   have i5:g<n:=by omega
   have t:IntKind.i64.wrap ((h:Int)-1)=((h-1:Nat):Int):=Rw (by omega) (by omega)
   have Z:IntKind.i64.wrap ((g:Int)+1)=((g+1:Nat):Int):=OE (by omega)
   simp only [Nl6,Nlc,O,p1,p4,o,A,U,c6,c8,t,Z,w,st,u,Nb,Nh,(EncOk.len (enc:=enc) (z:=iz)),l,N,i4,i5,hc,SB,seval,NC,NJ,NG,NQ,reduceCtorEq,NB,place,NA,ND]
   exact hN ((g+1,h-1),swp f g h) _ _ ⟨by simp only;omega,by simp only;omega,by simp only;omega,O,p1,p4,rfl,rfl,by simp [swp],by simp [swp,l],he⟩ (by simp only;omega)
variable {E:Env} {iz:Ids} [DT E E] [SortAt E iz] {α:Type} [Inhabited α] {enc:α->List Value} [EncOk enc iz]
theorem Nty {α:Type} [Inhabited α] {lt:α->α->Bool} {a i j b c:Nat} {d:Array α} (h1:scanUp (fun x=>lt x d[a]!) d j i=b) (h2:scanDown (fun x=>!lt x d[a]!) d b j=c) (h:b > c):partLoop lt a i j d=(c,d):=by
 rw [partLoop];simp only [h1,h2];rw [Ni h]
theorem Nt0 {α:Type} [Inhabited α] {lt:α->α->Bool} {a i j b c:Nat} {d:Array α} (h1:scanUp (fun x=>lt x d[a]!) d j i=b) (h2:scanDown (fun x=>!lt x d[a]!) d b j=c) (h:¬b > c) (e:i<=b) (f:c<=j) (g:0<b):partLoop lt a i j d=partLoop lt a (b+1) (c-1) (swp d b c):=by
 rw [partLoop];simp only [h1,h2];rw [Ng h,Rf (by omega)]
theorem Ntz {G X:NE} {B lim cap n:Nat} {p:Option Addr} {c:α->α->Int} {cl:FuncId} {cs:List Value} {Q:Value->NE->Prop} (hp:p=Sa B) (hB:B<G.length) (hl:lim<=B) (aq:n<2 ^ 61) (hc:∀(mp:Bool) (lim:Nat) (x y:α) (H:NE) (Q:Value->NE->Prop),NK E mp lim cl (.agg (enc x).toArray::.agg (enc y).toArray::cs) H Q=Q (Vi (c x y)) H) {d:Array α} {a b v:Nat} (hd:d.size=n) (hb:b<=n) (ap:a<=v) (ar:v<b) :
  NK E false lim iz.PART [.slice p n cap,Vi a,Vi b,Vi v,.func (.func cl) #[] cs.toArray] (DH enc G B d++X) Q=Q (.tuple #[Vi ((Sort.partition (ltC c) d a b v).1:Nat),.bool (Sort.partition (ltC c) d a b v).2.1]) (DH enc G B (Sort.partition (ltC c) d a b v).2.2++X):=by
 refine runs (SortAt.PART (E:=E) (z:=iz)) ?_
 rw [Obp,N2f]
 have aj:IntKind.i64.wrap ((b:Int)-1)=((b-1:Nat):Int):=Rw (by omega) (by omega)
 have ak:IntKind.i64.wrap ((a:Int)+1)=((a+1:Nat):Int):=OE (by omega)
 generalize hT:Sort.partition (ltC c) d a b v=T
 rw [Sort.partition] at hT
 have A:=fun (i:Nat) (X:NE) (d:Array α) (hd:d.size=n) (hi:i<n)=>Zb (X:=X) (d:=d) (i:=i) hp hB (EncOk.len (enc:=enc) (z:=iz)) (by omega);have st:=fun (i:Nat) (X:NE) (d:Array α) (hd:d.size=n) (hi:i<n) (y:α)=>Yl (X:=X) (d:=d) (i:=i) (y:=y) hp hB hl (EncOk.len (enc:=enc) (z:=iz)) (by omega);have w:=fun (i:Nat) (hi:i<n) c (k:IntKind) (H:NE)=>Ws (e:=iz.e) (i:=i) (n:=n) (c:=c) (k:=k) (H:=H) hp hi
 have K:a<n:=by omega
 have i2:v<n:=by omega
 simp only [Wz,Wy,aj,ak,A,st,w,Nb,Nh,(EncOk.len (enc:=enc) (z:=iz)),hd,K,i2,SB,seval,NC,NJ,NG,NQ,reduceCtorEq,NB,place,NA,ND]
 have r:(swp d a v).size=n:=by simp [swp,hd]
 have ac:(d.setIfInBounds a d[v]!).setIfInBounds v d[a]! = swp d a v:=rfl
 rw [ac]
 generalize swp d a v=g at hT r
 have k0:a+1<=b:=by omega
 refine NS (S:=Nat) (fun s=>b+1-s) (fun s fr H=>(a+1)<=s/\s<=(b-1)+1/\fr 0=.slice p n cap/\fr 1=Vi a/\fr 4=.func (.func cl) #[] cs.toArray/\fr 12=Vi s/\fr 13=Vi ((b-1:Nat):Int)/\
  H=DH enc G B g++X/\scanUp (fun x=>ltC c x g[a]!) g (b-1) (a+1)=scanUp (fun x=>ltC c x g[a]!) g (b-1) s) (a+1) ⟨Nd _,by omega,rfl,rfl,rfl,rfl,rfl,rfl,rfl⟩ ?_
 rintro f fr1 H1 ⟨x1,k2,M,q1,N,o,m,rfl,hs⟩ I
 rw [NU (Nsf.eq_1 iz)]
 by_cases c1:f<=(b-1)/\c g[f]! g[a]!<0
 ·obtain ⟨C,cc2⟩:=c1
  have W:IntKind.i64.wrap ((f:Int)+1)=((f+1:Nat):Int):=OE (by omega)
  have i3:f<n:=by omega
  simp only [Wz,Wy,M,q1,N,o,m,C,cc2,W,A,st,w,Nb,Nh,(EncOk.len (enc:=enc) (z:=iz)),r,K,i3,hc,SB,seval,NC,NJ,NG,NQ,reduceCtorEq,NB,place,NA,ND]
  exact I (f+1) _ _ ⟨by omega,by omega,M,q1,N,rfl,m,rfl,by rw [hs,Y0 C (by simp [ltC,cc2])]⟩ (by omega)
 have U:scanUp (fun x=>ltC c x g[a]!) g (b-1) (a+1)=f:=by
  rw [hs,Yz]
  intro q
  have q2:¬c g[f]! g[a]!<0:=fun q2=>c1 ⟨q,q2⟩
  simp [ltC,q2]
 clear I
 have hx:(f<=(b-1)/\¬c g[f]! g[a]!<0)\/¬f<=(b-1):=by
  by_cases q:f<=(b-1)
  ·exact .inl ⟨q,fun q2=>c1 ⟨q,q2⟩⟩
  ·exact .inr q
 have i0:f<=(b-1)->f<n:=fun q=>by omega
 have ad:=hx
 rcases hx with ⟨cc2,P⟩ | cc2
 case' inl=>simp only [Wz,Wy,M,q1,N,o,m,cc2,P,A,st,w,Nb,Nh,(EncOk.len (enc:=enc) (z:=iz)),r,K,i0 cc2,hc,SB,seval,NC,NJ,NG,NQ,reduceCtorEq,NB,place,NA,ND]
 case' inr=>simp only [Wz,Wy,M,q1,N,o,m,cc2,A,st,w,Nb,Nh,(EncOk.len (enc:=enc) (z:=iz)),SB,seval,NC,NJ,NG,NQ,reduceCtorEq,NB,place,NA,ND]
 all_goals
  clear cc2
  refine NS (S:=Nat) (fun s=>s) (fun s fr H=>s<=(b-1)/\f<=s+1/\fr 0=.slice p n cap/\fr 1=Vi a/\fr 4=.func (.func cl) #[] cs.toArray/\fr 12=Vi f/\fr 13=Vi s/\
   H=DH enc G B g++X/\scanDown (fun x=>!ltC c x g[a]!) g f (b-1)=scanDown (fun x=>!ltC c x g[a]!) g f s) (b-1) ⟨Nd _,by omega,M,q1,N,o,m,rfl,rfl⟩ ?_
  rintro l ai H2 ⟨y1,y2,p0,p1,p4,O,Z,rfl,R⟩ I
  rw [NU (Nsg.eq_1 iz)]
  have i4:l<n:=by omega
  by_cases c4:f<=l/\¬c g[l]! g[a]!<0
  ·obtain ⟨D,F⟩:=c4
   have J:IntKind.i64.wrap ((l:Int)-1)=((l-1:Nat):Int):=Rw (by omega) (by omega)
   simp only [Wz,Wy,p0,p1,p4,O,Z,D,F,J,A,st,w,Nb,Nh,(EncOk.len (enc:=enc) (z:=iz)),r,K,i4,hc,SB,seval,NC,NJ,NG,NQ,reduceCtorEq,NB,place,NA,ND]
   exact I (l-1) _ _ ⟨by omega,by omega,p0,p1,p4,O,rfl,rfl,by rw [R,WM D (by omega) (by simp [ltC,F])]⟩ (by omega)
  have V:scanDown (fun x=>!ltC c x g[a]!) g f (b-1)=l:=by
   rw [R,WL]
   intro q
   have q2:c g[l]! g[a]!<0:=Ny fun q2=>c4 ⟨q,q2⟩
   simp [ltC,q2]
  clear I
  by_cases c6:l<f
  ·have c7:¬f<=l:=by omega
   have Y:l<n:=by omega
   simp only [U,V] at hT
   rw [Ni (show f > l from c6)] at hT
   simp only [Wz,Wy,p0,p1,p4,O,Z,c7,c6,A,st,w,Nb,Nh,(EncOk.len (enc:=enc) (z:=iz)),r,K,Y,SB,seval,NC,NJ,NG,NQ,reduceCtorEq,NB,place,NA,ND]
   rw [<-hT]
   exact ⟨rfl,rfl⟩
  ·have c7:f<=l:=by omega
   have c8:c g[l]! g[a]!<0:=Ny fun q=>c4 ⟨c7,q⟩
   have c9:f≠l:=by
    rintro rfl
    rcases ad with q | q
    ·exact q.2 c8
    ·exact q (by omega)
   simp only [U,V] at hT
   rw [Ng (show ¬f > l from c6)] at hT
   have i5:f<n:=by omega
   have Y:l<n:=by omega
   have J:IntKind.i64.wrap ((l:Int)-1)=((l-1:Nat):Int):=Rw (by omega) (by omega)
   have al:IntKind.i64.wrap ((f:Int)+1)=((f+1:Nat):Int):=OE (by omega)
   simp only [Wz,Wy,p0,p1,p4,O,Z,c7,c6,c8,J,al,A,st,w,Nb,Nh,(EncOk.len (enc:=enc) (z:=iz)),r,K,Y,i5,hc,SB,seval,NC,NJ,NG,NQ,reduceCtorEq,NB,place,NA,ND]
   generalize hL:partLoop (ltC c) a (f+1) (l-1) (swp g f l)=L at hT
   refine NS (S:=(Nat×Nat)×Array α) (fun s=>s.1.2+1-s.1.1) (fun s fr H=>a<s.1.1/\s.1.1<=s.1.2+1/\s.1.2<b/\fr 0=.slice p n cap/\fr 1=Vi a/\fr 4=.func (.func cl) #[] cs.toArray/\fr 12=Vi s.1.1/\fr 13=Vi s.1.2/\
    H=DH enc G B s.2++X/\s.2.size=n/\L=partLoop (ltC c) a s.1.1 s.1.2 s.2) ((f+1,l-1),swp g f l) ⟨by simp only;omega,by simp only;omega,by simp only;omega,p0,p1,p4,rfl,rfl,by simp [swp],by simp [swp,r],hL.symm⟩ ?_
   clear U V hs R c1 c4 ad i0 hL
   rintro ⟨⟨i,j⟩,h⟩ fr H ⟨h1,h2,h3,g0,g1,g4,aa,ab,rfl,t,he⟩ hN
   simp only at h1 h2 h3 aa ab t he
   rw [NU (Nsh.eq_1 iz)]
   simp only [Wz,Wy,SB,seval,NC,NJ,NG,NQ,reduceCtorEq,NB,place,NA,ND]
   refine NS (S:=Nat) (fun s=>b+1-s) (fun s fr H=>i<=s/\s<=j+1/\fr 0=.slice p n cap/\fr 1=Vi a/\fr 4=.func (.func cl) #[] cs.toArray/\fr 12=Vi s/\fr 13=Vi j/\
    H=DH enc G B h++X/\scanUp (fun u=>ltC c u h[a]!) h j i=scanUp (fun u=>ltC c u h[a]!) h j s) i ⟨Nd _,by omega,g0,g1,g4,aa,ab,rfl,rfl⟩ ?_
   rintro x fr1 H1 ⟨x1,k2,M,q1,N,o,m,rfl,us⟩ I
   rw [NU (Nsi.eq_1 iz)]
   by_cases z1:x<=j/\c h[x]! h[a]!<0
   ·obtain ⟨C,cc2⟩:=z1
    have W:IntKind.i64.wrap ((x:Int)+1)=((x+1:Nat):Int):=OE (by omega)
    have i3:x<n:=by omega
    simp only [Wz,Wy,M,q1,N,o,m,C,cc2,W,A,st,w,Nb,Nh,(EncOk.len (enc:=enc) (z:=iz)),t,K,i3,hc,SB,seval,NC,NJ,NG,NQ,reduceCtorEq,NB,place,NA,ND]
    exact I (x+1) _ _ ⟨by omega,by omega,M,q1,N,rfl,m,rfl,by rw [us,Y0 C (by simp [ltC,cc2])]⟩ (by omega)
   have ag:scanUp (fun u=>ltC c u h[a]!) h j i=x:=by
    rw [us,Yz]
    intro q
    have q2:¬c h[x]! h[a]!<0:=fun q2=>z1 ⟨q,q2⟩
    simp [ltC,q2]
   clear I
   have hz:(x<=j/\¬c h[x]! h[a]!<0)\/¬x<=j:=by
    by_cases q:x<=j
    ·exact .inl ⟨q,fun q2=>z1 ⟨q,q2⟩⟩
    ·exact .inr q
   have i0:x<=j->x<n:=fun q=>by omega
   have ao:=hz
   rcases hz with ⟨cc2,P⟩ | cc2
   case' inl=>simp only [Wz,Wy,M,q1,N,o,m,cc2,P,A,st,w,Nb,Nh,(EncOk.len (enc:=enc) (z:=iz)),t,K,i0 cc2,hc,SB,seval,NC,NJ,NG,NQ,reduceCtorEq,NB,place,NA,ND]
   case' inr=>simp only [Wz,Wy,M,q1,N,o,m,cc2,A,st,w,Nb,Nh,(EncOk.len (enc:=enc) (z:=iz)),SB,seval,NC,NJ,NG,NQ,reduceCtorEq,NB,place,NA,ND]
   all_goals
    clear cc2
    refine NS (S:=Nat) (fun s=>s) (fun s fr H=>s<=j/\x<=s+1/\fr 0=.slice p n cap/\fr 1=Vi a/\fr 4=.func (.func cl) #[] cs.toArray/\fr 12=Vi x/\fr 13=Vi s/\
     H=DH enc G B h++X/\scanDown (fun u=>!ltC c u h[a]!) h x j=scanDown (fun u=>!ltC c u h[a]!) h x s) j ⟨Nd _,by omega,M,q1,N,o,m,rfl,rfl⟩ ?_
    rintro y ai H2 ⟨y1,y2,t0,t1,t4,t12,t13,rfl,ae⟩ I
    rw [NU (Nsj.eq_1 iz)]
    have i4:y<n:=by omega
    by_cases z4:x<=y/\¬c h[y]! h[a]!<0
    ·obtain ⟨D,F⟩:=z4
     have J:IntKind.i64.wrap ((y:Int)-1)=((y-1:Nat):Int):=Rw (by omega) (by omega)
     simp only [Wz,Wy,t0,t1,t4,t12,t13,D,F,J,A,st,w,Nb,Nh,(EncOk.len (enc:=enc) (z:=iz)),t,K,i4,hc,SB,seval,NC,NJ,NG,NQ,reduceCtorEq,NB,place,NA,ND]
     exact I (y-1) _ _ ⟨by omega,by omega,t0,t1,t4,t12,rfl,rfl,by rw [ae,WM D (by omega) (by simp [ltC,F])]⟩ (by omega)
    have ah:scanDown (fun u=>!ltC c u h[a]!) h x j=y:=by
     rw [ae,WL]
     intro q
     have q2:c h[y]! h[a]!<0:=Ny fun q2=>z4 ⟨q,q2⟩
     simp [ltC,q2]
    clear I
    by_cases z6:y<x
    ·have z7:¬x<=y:=by omega
     have Y:y<n:=by omega
     rw [Nty ag ah z6] at he
     simp only [Wz,Wy,t0,t1,t4,t12,t13,z7,z6,A,st,w,Nb,Nh,(EncOk.len (enc:=enc) (z:=iz)),t,K,Y,SB,seval,NC,NJ,NG,NQ,reduceCtorEq,NB,place,NA,ND]
     rw [<-hT,he]
     exact ⟨rfl,rfl⟩
    ·have z7:x<=y:=by omega
     have z8:c h[y]! h[a]!<0:=Ny fun q=>z4 ⟨z7,q⟩
     have z9:x≠y:=by
      rintro rfl
      rcases ao with q | q
      ·exact q.2 z8
      ·exact q (by omega)
     rw [Nt0 ag ah z6 x1 y1 (by omega)] at he
     have i5:x<n:=by omega
     have Y:y<n:=by omega
     have am:IntKind.i64.wrap ((y:Int)-1)=((y-1:Nat):Int):=Rw (by omega) (by omega)
     have an:IntKind.i64.wrap ((x:Int)+1)=((x+1:Nat):Int):=OE (by omega)
     simp only [Wz,Wy,t0,t1,t4,t12,t13,z7,z6,z8,am,an,A,st,w,Nb,Nh,(EncOk.len (enc:=enc) (z:=iz)),t,K,Y,i5,hc,SB,seval,NC,NJ,NG,NQ,reduceCtorEq,NB,place,NA,ND]
     exact hN ((x+1,y-1),swp h x y) _ _ ⟨by simp only;omega,by simp only;omega,by simp only;omega,t0,t1,t4,rfl,rfl,by simp [swp],by simp [swp,t],he⟩ (by simp only;omega)
variable {E:Env} {iz:Ids} [DT E E] [SortAt E iz] {α:Type} [Inhabited α] {enc:α->List Value} [EncOk enc iz]
theorem Non {α:Type} [Inhabited α] {lt:α->α->Bool} {d:Array α} {b i:Nat} (h:i<b) (hp:lt d[i]! d[i-1]! = false):scanSorted lt d b i=scanSorted lt d b (i+1):=by
 rw [scanSorted];simp [h,hp]
theorem Neg {α:Type} [Inhabited α] {lt:α->α->Bool} {d:Array α} {b i:Nat} (h:i<b->lt d[i]! d[i-1]! = true):scanSorted lt d b i=i:=by
 rw [scanSorted]
 by_cases q:i<b
 ·simp [h q]
 ·simp [q]
def We {α:Type} [Inhabited α] (lt:α->α->Bool) (a i:Nat) (d:Array α):Array α:=if 2<=i-a then shiftDown lt (i-1) d else d
def WQ {α:Type} [Inhabited α] (lt:α->α->Bool) (b i:Nat) (d:Array α):Array α:=if 2<=b-i then shiftUp lt b (i+1) d else d
theorem Nc4 {α:Type} [Inhabited α] {lt:α->α->Bool} {a b k i c:Nat} {d:Array α} (hs:scanSorted lt d b i=c) (h1:¬c=b) (h2:¬b-a<50):partialIns lt a b (k+1) i d=partialIns lt a b k c (WQ lt b c (We lt a c (swp d c (c-1)))):=by
 rw [partialIns]
 simp only [hs]
 rw [Ng h1,Ng h2]
 rfl
theorem N7s {G X:NE} {B lim cap n:Nat} {p:Option Addr} {c:α->α->Int} {cl:FuncId} {cs:List Value} {Q:Value->NE->Prop} (hp:p=Sa B) (hB:B<G.length) (hl:lim<=B) (az:n<2 ^ 61) (hc:∀(mp:Bool) (lim:Nat) (x y:α) (H:NE) (Q:Value->NE->Prop),NK E mp lim cl (.agg (enc x).toArray::.agg (enc y).toArray::cs) H Q=Q (Vi (c x y)) H) {d:Array α} {a b:Nat} (hd:d.size=n) (hb:b<=n) (ay:a<b) :
  NK E false lim iz.PIS [.slice p n cap,Vi a,Vi b,.func (.func cl) #[] cs.toArray] (DH enc G B d++X) Q=Q (.bool (partialInsertionSort (ltC c) d a b).2) (DH enc G B (partialInsertionSort (ltC c) d a b).1++X):=by
 refine runs (SortAt.PIS (E:=E) (z:=iz)) ?_
 rw [Oe0,N8z]
 have aw:IntKind.i64.wrap ((a:Int)+1)=((a+1:Nat):Int):=OE (by omega)
 generalize hT:partialInsertionSort (ltC c) d a b=T
 rw [partialInsertionSort] at hT
 have N:=fun (i:Nat) (X:NE) (d:Array α) (hd:d.size=n) (hi:i<n)=>Zb (X:=X) (d:=d) (i:=i) hp hB (EncOk.len (enc:=enc) (z:=iz)) (by omega);have st:=fun (i:Nat) (X:NE) (d:Array α) (hd:d.size=n) (hi:i<n) (y:α)=>Yl (X:=X) (d:=d) (i:=i) (y:=y) hp hB hl (EncOk.len (enc:=enc) (z:=iz)) (by omega);have M:=fun (i:Nat) (hi:i<n) c (k:IntKind) (H:NE)=>Ws (e:=iz.e) (i:=i) (n:=n) (c:=c) (k:=k) (H:=H) hp hi
 simp only [VZ,VY,aw,SB,seval,NC,NJ,NG,NQ,reduceCtorEq,NB,place,NA,ND]
 refine NS (S:=Nat×Nat×Array α) (fun s=>s.1) (fun s fr H=>s.1<=5/\a<s.2.1/\s.2.1<=b/\fr 0=.slice p n cap/\fr 1=Vi a/\fr 2=Vi b/\fr 3=.func (.func cl) #[] cs.toArray/\fr 9=Vi s.2.1/\fr 10=Vi (5-(s.1:Int))/\
  H=DH enc G B s.2.2++X/\s.2.2.size=n/\T=partialIns (ltC c) a b s.1 s.2.1 s.2.2) (5,a+1,d) ⟨by simp only;omega,by simp only;omega,by simp only;omega,rfl,rfl,rfl,rfl,rfl,by rfl,rfl,hd,hT.symm⟩ ?_
 rintro ⟨k,i,A⟩ fr H ⟨h1,h2,h3,g0,g1,g2,g3,g9,aj,rfl,C,he⟩ hN
 simp only at h1 h2 h3 g9 aj C he
 rw [NU (N0c.eq_1 iz)]
 cases k with
 | zero=>
   have av:fr 10=Vi 5:=by simpa using aj
   clear hN aj
   simp only [VZ,VY,g0,g1,g2,g3,g9,av,SB,seval,NC,NJ,NG,NQ,reduceCtorEq,NB,place,NA,ND]
   rw [he,partialIns]
   exact ⟨rfl,rfl⟩
 | succ k=>
   have hk:(5:Int)-((k+1:Nat):Int)<5:=by omega
   have Z:IntKind.i64.wrap ((5:Int)-((k+1:Nat):Int)+1)=5-(k:Int):=by rw [NP (by omega) (by omega)];omega
   simp only [VZ,VY,g0,g1,g2,g3,g9,aj,hk,SB,seval,NC,NJ,NG,NQ,reduceCtorEq,NB,place,NA,ND]
   refine NS (S:=Nat) (fun s=>b+1-s) (fun s fr H=>i<=s/\s<=b/\fr 0=.slice p n cap/\fr 1=Vi a/\fr 2=Vi b/\fr 3=.func (.func cl) #[] cs.toArray/\fr 9=Vi s/\fr 10=Vi (5-((k+1:Nat):Int))/\
    H=DH enc G B A++X/\scanSorted (ltC c) A b i=scanSorted (ltC c) A b s) i ⟨Nd _,h3,g0,g1,g2,g3,g9,aj,rfl,rfl⟩ ?_
   rintro f fr1 H1 ⟨x1,x2,q0,q1,q2,q3,q9,aa,rfl,hs⟩ hM
   rw [NU (N0d.eq_1 iz)]
   have ak:IntKind.i64.wrap ((f:Int)-1)=((f-1:Nat):Int):=Rw (by omega) (by omega)
   have ad:IntKind.i64.wrap ((f:Int)+1)=((f+1:Nat):Int):=OE (by omega)
   have ap:IntKind.i64.wrap ((f:Int)-(a:Int))=((f-a:Nat):Int):=by rw [NP (by omega) (by omega)];omega
   have ae:IntKind.i64.wrap ((b:Int)-(f:Int))=((b-f:Nat):Int):=by rw [NP (by omega) (by omega)];omega
   have ao:IntKind.i64.wrap ((b:Int)-(a:Int))=((b-a:Nat):Int):=by rw [NP (by omega) (by omega)];omega
   have i6:f-1<n:=by omega
   by_cases c1:f=b
   ·subst c1
    have an:scanSorted (ltC c) A f i=f:=by rw [hs,Neg (fun q=>absurd q (Rl _))]
    have c2:¬f<f:=Rl _
    have e:partialIns (ltC c) a f (k+1) i A=(A,true):=by
     rw [partialIns];simp only [an];simp
    simp only [VZ,VY,q0,q1,q2,q3,q9,aa,c2,N,st,M,Nb,Nh,(EncOk.len (enc:=enc) (z:=iz)),SB,seval,NC,NJ,NG,NQ,reduceCtorEq,NB,place,NA,ND]
    rw [he,e]
    exact ⟨rfl,rfl⟩
   have c2:f<b:=by omega
   have i5:f<n:=by omega
   have al:¬((f:Int)=(b:Int)):=by omega
   by_cases c3:c A[f]! A[f-1]!<0
   case neg=>
    simp only [VZ,VY,q0,q1,q2,q3,q9,aa,c2,c3,ak,ad,N,st,M,Nb,Nh,(EncOk.len (enc:=enc) (z:=iz)),C,i5,i6,hc,SB,seval,NC,NJ,NG,NQ,reduceCtorEq,NB,place,NA,ND]
    exact hM (f+1) _ _ ⟨by omega,by omega,q0,q1,q2,q3,rfl,aa,rfl,by rw [hs,Non c2 (by simp [ltC,c3])]⟩ (by omega)
   clear hM
   have an:scanSorted (ltC c) A b i=f:=by rw [hs,Neg (fun _=>by simp [ltC,c3])]
   by_cases c4:b-a<50
   ·have ah:((b-a:Nat):Int)<50:=by omega
    simp only [VZ,VY,q0,q1,q2,q3,q9,aa,c2,c3,al,ah,ak,ao,N,st,M,Nb,Nh,(EncOk.len (enc:=enc) (z:=iz)),C,i5,i6,hc,SB,seval,NC,NJ,NG,NQ,reduceCtorEq,NB,place,NA,ND]
    have e:partialIns (ltC c) a b (k+1) i A=(A,false):=by
     rw [partialIns];simp only [an];rw [Ng c1,Ni c4]
    rw [he,e]
    exact ⟨rfl,rfl⟩
   have ah:¬((b-a:Nat):Int)<50:=by omega
   rw [Nc4 an c1 c4] at he
   by_cases hA:2<=f-a
   ·have am:(2:Int)<=((f-a:Nat):Int):=by omega
    simp only [VZ,VY,q0,q1,q2,q3,q9,aa,c2,c3,al,ah,ak,ao,ap,am,N,st,M,Nb,Nh,(EncOk.len (enc:=enc) (z:=iz)),C,i5,i6,hc,SB,seval,NC,NJ,NG,NQ,reduceCtorEq,NB,place,NA,ND]
    refine NS (S:=Nat×Array α) (fun s=>s.1) (fun s fr H=>s.1<f/\fr 0=.slice p n cap/\fr 1=Vi a/\fr 2=Vi b/\fr 3=.func (.func cl) #[] cs.toArray/\fr 9=Vi f/\fr 10=Vi (5-((k+1:Nat):Int))/\fr 11=Vi s.1/\
     H=DH enc G B s.2++X/\s.2.size=n/\shiftDown (ltC c) (f-1) (swp A f (f-1))=shiftDown (ltC c) s.1 s.2) (f-1,swp A f (f-1)) ⟨by simp only;omega,q0,q1,q2,q3,q9,aa,rfl,by simp [swp],by simp [swp,C],rfl⟩ ?_
    rintro ⟨v,dv⟩ ax Hv ⟨v1,D,F,I,J,K,r,ag,rfl,Y,hev⟩ hV
    simp only at v1 ag Y hev
    rw [NU (N0e.eq_1 iz)]
    cases v with
    | succ v=>
      have iv:v+1<n:=by omega
      have ar:v<n:=by omega
      have aq:IntKind.i64.wrap (((v+1:Nat):Int)-1)=(v:Int):=Rw (n:=v+1) (by omega) (by omega)
      have cv:(1:Int)<=((v+1:Nat):Int):=by omega
      rw [shiftDown] at hev
      by_cases ai:c dv[v+1]! dv[v]!<0
      ·rw [Ng (by simp [ltC,ai])] at hev
       simp only [VZ,VY,D,F,I,J,K,r,ag,cv,ai,aq,N,st,M,Nb,Nh,(EncOk.len (enc:=enc) (z:=iz)),Y,iv,ar,hc,SB,seval,NC,NJ,NG,NQ,reduceCtorEq,NB,place,NA,ND]
       exact hV (v,swp dv (v+1) v) _ _ ⟨by simp only;omega,D,F,I,J,K,r,rfl,by simp [swp],by simp [swp,Y],hev⟩ (by simp only;omega)
      ·rw [Ni (by simp [ltC,ai])] at hev
       clear hV
       have u:We (ltC c) a f (swp A f (f-1))=dv:=by rw [We,Ni hA,hev]
       by_cases hB:2<=b-f
       ·have t:(2:Int)<=((b-f:Nat):Int):=by omega
        simp only [VZ,VY,D,F,I,J,K,r,ae,t,ad,ag,cv,ai,aq,Y,iv,ar,hc,N,st,M,Nb,Nh,(EncOk.len (enc:=enc) (z:=iz)),SB,seval,NC,NJ,NG,NQ,reduceCtorEq,NB,place,NA,ND]
        generalize hU:shiftUp (ltC c) b (f+1) (dv)=U
        refine NS (S:=Nat×Array α) (fun s=>b+1-s.1) (fun s fr H=>f+1<=s.1/\s.1<=b/\fr 0=.slice p n cap/\fr 1=Vi a/\fr 2=Vi b/\fr 3=.func (.func cl) #[] cs.toArray/\fr 9=Vi f/\fr 10=Vi (5-((k+1:Nat):Int))/\fr 12=Vi s.1/\
         H=DH enc G B s.2++X/\s.2.size=n/\U=shiftUp (ltC c) b s.1 s.2) (f+1,dv) ⟨by simp only;omega,by simp only;omega,D,F,I,J,K,r,rfl,by simp [swp],by simp [swp,Y],hU.symm⟩ ?_
        rintro ⟨w,dw⟩ au Hw ⟨w1,w2,O,P,R,V,W,l,m,rfl,h,g⟩ hW
        simp only at w1 w2 m h g
        rw [NU (Njv.eq_1 iz)]
        unfold shiftUp at g
        by_cases L:w<b
        ·have iw:w<n:=by omega
         have ac:w-1<n:=by omega
         have ab:IntKind.i64.wrap ((w:Int)-1)=((w-1:Nat):Int):=Rw (by omega) (by omega)
         have o:IntKind.i64.wrap ((w:Int)+1)=((w+1:Nat):Int):=OE (by omega)
         by_cases j:c dw[w]! dw[w-1]!<0
         ·rw [Ni L,Ng (by simp [ltC,j])] at g
          simp only [VZ,VY,O,P,R,V,W,l,m,L,j,ab,o,N,st,M,Nb,Nh,(EncOk.len (enc:=enc) (z:=iz)),h,iw,ac,hc,SB,seval,NC,NJ,NG,NQ,reduceCtorEq,NB,place,NA,ND]
          exact hW (w+1,swp dw w (w-1)) _ _ ⟨by simp only;omega,by simp only;omega,O,P,R,V,W,l,rfl,by simp [swp],by simp [swp,h],g⟩ (by simp only;omega)
         ·rw [Ni L,Ni (by simp [ltC,j])] at g
          clear hW
          simp only [VZ,VY,O,P,R,V,W,l,m,L,j,ab,o,N,st,M,Nb,Nh,(EncOk.len (enc:=enc) (z:=iz)),h,iw,ac,hc,Z,SB,seval,NC,NJ,NG,NQ,reduceCtorEq,NB,place,NA,ND]
          exact hN (k,f,dw) _ _ ⟨by simp only;omega,by simp only;omega,by simp only;omega,O,P,R,V,W,rfl,by simp,h,by rw [he,u,WQ,Ni hB,hU,g]⟩ (by simp only;omega)
        ·rw [Ng L] at g
         clear hW
         simp only [VZ,VY,O,P,R,V,W,l,m,L,N,st,M,Nb,Nh,(EncOk.len (enc:=enc) (z:=iz)),Z,SB,seval,NC,NJ,NG,NQ,reduceCtorEq,NB,place,NA,ND]
         exact hN (k,f,dw) _ _ ⟨by simp only;omega,by simp only;omega,by simp only;omega,O,P,R,V,W,rfl,by simp,h,by rw [he,u,WQ,Ni hB,hU,g]⟩ (by simp only;omega)
       ·have t:¬(2:Int)<=((b-f:Nat):Int):=by omega
        simp only [VZ,VY,D,F,I,J,K,r,ae,t,Z,ag,cv,ai,aq,Y,iv,ar,hc,N,st,M,Nb,Nh,(EncOk.len (enc:=enc) (z:=iz)),SB,seval,NC,NJ,NG,NQ,reduceCtorEq,NB,place,NA,ND]
        exact hN (k,f,dv) _ _ ⟨by simp only;omega,by simp only;omega,by simp only;omega,D,F,I,J,K,rfl,by simp [swp],by simp [swp,Y],by rw [he,u,WQ,Ng hB]⟩ (by simp only;omega)
    | zero=>
      have cv:¬(1:Int)<=((0:Nat):Int):=by omega
      rw [shiftDown] at hev
      clear hV
      have u:We (ltC c) a f (swp A f (f-1))=dv:=by rw [We,Ni hA,hev]
      by_cases hB:2<=b-f
      ·have t:(2:Int)<=((b-f:Nat):Int):=by omega
       simp only [VZ,VY,D,F,I,J,K,r,ae,t,ad,ag,cv,N,st,M,Nb,Nh,(EncOk.len (enc:=enc) (z:=iz)),SB,seval,NC,NJ,NG,NQ,reduceCtorEq,NB,place,NA,ND]
       generalize hU:shiftUp (ltC c) b (f+1) (dv)=U
       refine NS (S:=Nat×Array α) (fun s=>b+1-s.1) (fun s fr H=>f+1<=s.1/\s.1<=b/\fr 0=.slice p n cap/\fr 1=Vi a/\fr 2=Vi b/\fr 3=.func (.func cl) #[] cs.toArray/\fr 9=Vi f/\fr 10=Vi (5-((k+1:Nat):Int))/\fr 12=Vi s.1/\
        H=DH enc G B s.2++X/\s.2.size=n/\U=shiftUp (ltC c) b s.1 s.2) (f+1,dv) ⟨by simp only;omega,by simp only;omega,D,F,I,J,K,r,rfl,by simp [swp],by simp [swp,Y],hU.symm⟩ ?_
       rintro ⟨w,dw⟩ au Hw ⟨w1,w2,O,P,R,V,W,l,m,rfl,h,g⟩ hW
       simp only at w1 w2 m h g
       rw [NU (Njv.eq_1 iz)]
       unfold shiftUp at g
       by_cases L:w<b
       ·have iw:w<n:=by omega
        have ac:w-1<n:=by omega
        have ab:IntKind.i64.wrap ((w:Int)-1)=((w-1:Nat):Int):=Rw (by omega) (by omega)
        have o:IntKind.i64.wrap ((w:Int)+1)=((w+1:Nat):Int):=OE (by omega)
        by_cases j:c dw[w]! dw[w-1]!<0
        ·rw [Ni L,Ng (by simp [ltC,j])] at g
         simp only [VZ,VY,O,P,R,V,W,l,m,L,j,ab,o,N,st,M,Nb,Nh,(EncOk.len (enc:=enc) (z:=iz)),h,iw,ac,hc,SB,seval,NC,NJ,NG,NQ,reduceCtorEq,NB,place,NA,ND]
         exact hW (w+1,swp dw w (w-1)) _ _ ⟨by simp only;omega,by simp only;omega,O,P,R,V,W,l,rfl,by simp [swp],by simp [swp,h],g⟩ (by simp only;omega)
        ·rw [Ni L,Ni (by simp [ltC,j])] at g
         clear hW
         simp only [VZ,VY,O,P,R,V,W,l,m,L,j,ab,o,N,st,M,Nb,Nh,(EncOk.len (enc:=enc) (z:=iz)),h,iw,ac,hc,Z,SB,seval,NC,NJ,NG,NQ,reduceCtorEq,NB,place,NA,ND]
         exact hN (k,f,dw) _ _ ⟨by simp only;omega,by simp only;omega,by simp only;omega,O,P,R,V,W,rfl,by simp,h,by rw [he,u,WQ,Ni hB,hU,g]⟩ (by simp only;omega)
       ·rw [Ng L] at g
        clear hW
        simp only [VZ,VY,O,P,R,V,W,l,m,L,N,st,M,Nb,Nh,(EncOk.len (enc:=enc) (z:=iz)),Z,SB,seval,NC,NJ,NG,NQ,reduceCtorEq,NB,place,NA,ND]
        exact hN (k,f,dw) _ _ ⟨by simp only;omega,by simp only;omega,by simp only;omega,O,P,R,V,W,rfl,by simp,h,by rw [he,u,WQ,Ni hB,hU,g]⟩ (by simp only;omega)
      ·have t:¬(2:Int)<=((b-f:Nat):Int):=by omega
       simp only [VZ,VY,D,F,I,J,K,r,ae,t,Z,ag,cv,N,st,M,Nb,Nh,(EncOk.len (enc:=enc) (z:=iz)),SB,seval,NC,NJ,NG,NQ,reduceCtorEq,NB,place,NA,ND]
       exact hN (k,f,dv) _ _ ⟨by simp only;omega,by simp only;omega,by simp only;omega,D,F,I,J,K,rfl,by simp [swp],by simp [swp,Y],by rw [he,u,WQ,Ng hB]⟩ (by simp only;omega)
   ·have am:¬(2:Int)<=((f-a:Nat):Int):=by omega
    have u:We (ltC c) a f (swp A f (f-1))=swp A f (f-1):=by rw [We,Ng hA]
    have a0:(swp A f (f-1)).size=n:=by simp [swp,C]
    by_cases hB:2<=b-f
    ·have t:(2:Int)<=((b-f:Nat):Int):=by omega
     simp only [VZ,VY,q0,q1,q2,q3,q9,aa,ae,t,ad,c2,c3,al,ah,ak,ao,ap,am,C,i5,i6,hc,N,st,M,Nb,Nh,(EncOk.len (enc:=enc) (z:=iz)),SB,seval,NC,NJ,NG,NQ,reduceCtorEq,NB,place,NA,ND]
     generalize hU:shiftUp (ltC c) b (f+1) (swp A f (f-1))=U
     refine NS (S:=Nat×Array α) (fun s=>b+1-s.1) (fun s fr H=>f+1<=s.1/\s.1<=b/\fr 0=.slice p n cap/\fr 1=Vi a/\fr 2=Vi b/\fr 3=.func (.func cl) #[] cs.toArray/\fr 9=Vi f/\fr 10=Vi (5-((k+1:Nat):Int))/\fr 12=Vi s.1/\
      H=DH enc G B s.2++X/\s.2.size=n/\U=shiftUp (ltC c) b s.1 s.2) (f+1,swp A f (f-1)) ⟨by simp only;omega,by simp only;omega,q0,q1,q2,q3,q9,aa,rfl,by simp [swp],by simp [swp,C],hU.symm⟩ ?_
     rintro ⟨w,dw⟩ au Hw ⟨w1,w2,O,P,R,V,W,l,m,rfl,h,g⟩ hW
     simp only at w1 w2 m h g
     rw [NU (Njv.eq_1 iz)]
     unfold shiftUp at g
     by_cases L:w<b
     ·have iw:w<n:=by omega
      have ac:w-1<n:=by omega
      have ab:IntKind.i64.wrap ((w:Int)-1)=((w-1:Nat):Int):=Rw (by omega) (by omega)
      have o:IntKind.i64.wrap ((w:Int)+1)=((w+1:Nat):Int):=OE (by omega)
      by_cases j:c dw[w]! dw[w-1]!<0
      ·rw [Ni L,Ng (by simp [ltC,j])] at g
       simp only [VZ,VY,O,P,R,V,W,l,m,L,j,ab,o,N,st,M,Nb,Nh,(EncOk.len (enc:=enc) (z:=iz)),h,iw,ac,hc,SB,seval,NC,NJ,NG,NQ,reduceCtorEq,NB,place,NA,ND]
       exact hW (w+1,swp dw w (w-1)) _ _ ⟨by simp only;omega,by simp only;omega,O,P,R,V,W,l,rfl,by simp [swp],by simp [swp,h],g⟩ (by simp only;omega)
      ·rw [Ni L,Ni (by simp [ltC,j])] at g
       clear hW
       simp only [VZ,VY,O,P,R,V,W,l,m,L,j,ab,o,N,st,M,Nb,Nh,(EncOk.len (enc:=enc) (z:=iz)),h,iw,ac,hc,Z,SB,seval,NC,NJ,NG,NQ,reduceCtorEq,NB,place,NA,ND]
       exact hN (k,f,dw) _ _ ⟨by simp only;omega,by simp only;omega,by simp only;omega,O,P,R,V,W,rfl,by simp,h,by rw [he,u,WQ,Ni hB,hU,g]⟩ (by simp only;omega)
     ·rw [Ng L] at g
      clear hW
      simp only [VZ,VY,O,P,R,V,W,l,m,L,N,st,M,Nb,Nh,(EncOk.len (enc:=enc) (z:=iz)),Z,SB,seval,NC,NJ,NG,NQ,reduceCtorEq,NB,place,NA,ND]
      exact hN (k,f,dw) _ _ ⟨by simp only;omega,by simp only;omega,by simp only;omega,O,P,R,V,W,rfl,by simp,h,by rw [he,u,WQ,Ni hB,hU,g]⟩ (by simp only;omega)
    ·have t:¬(2:Int)<=((b-f:Nat):Int):=by omega
     simp only [VZ,VY,q0,q1,q2,q3,q9,aa,ae,t,Z,c2,c3,al,ah,ak,ao,ap,am,C,i5,i6,hc,N,st,M,Nb,Nh,(EncOk.len (enc:=enc) (z:=iz)),SB,seval,NC,NJ,NG,NQ,reduceCtorEq,NB,place,NA,ND]
     exact hN (k,f,swp A f (f-1)) _ _ ⟨by simp only;omega,by simp only;omega,by simp only;omega,q0,q1,q2,q3,q9,rfl,by simp [swp],by simp [swp,C],by rw [he,u,WQ,Ng hB]⟩ (by simp only;omega)
variable {E:Env} {iz:Ids} [DT E E] [SortAt E iz] {α:Type} [Inhabited α] {enc:α->List Value} [EncOk enc iz]
section
variable {α:Type} {enc:α->List Value} {G X:NE} {B:Nat} {d:Array α} {c:Blk}
theorem Nsu:(DH enc G B d++X).length=G.length+X.length:=by rw [Nn,V8]
theorem VO:NI (DH enc G B d++(X++[c])) (G.length+X.length)=c:=by
 rw [<-Nq,<-Nsu (enc:=enc) (B:=B) (d:=d)];exact NV
theorem VN {a:Blk}:(DH enc G B d++(X++[c])).set (G.length+X.length) a=DH enc G B d++(X++[a]):=by
 rw [<-Nq,<-Nsu (enc:=enc) (B:=B) (d:=d),Nk3];simp
end
theorem No6 {G X:NE} {B lim cap n:Nat} {p:Option Addr} {c:α->α->Int} {cl:FuncId} {cs:List Value} (hp:p=Sa B) (hB:B<G.length) (hl:lim<=B) (q:n<2 ^ 61) (hc:∀(mp:Bool) (lim:Nat) (x y:α) (H:NE) (Q:Value->NE->Prop),NK E mp lim cl (.agg (enc x).toArray::.agg (enc y).toArray::cs) H Q=Q (Vi (c x y)) H) {d:Array α} {a b s:Nat} (hd:d.size=n) (h:a<n) (j:b<n) (hs:s<100) :
  ∃x y o:Nat,(x=a/\y=b\/x=b/\y=a)/\o<=s+1/\∀Q,NK E false lim iz.ORD [.slice p n cap,Vi a,Vi b,Vp (G.length+X.length),.func (.func cl) #[] cs.toArray] (DH enc G B d++(X++[Vc [Vi s]])) Q =
   Q (.tuple #[Vi x,Vi y]) (DH enc G B d++(X++[Vc [Vi o]])):=by
 have m:=fun (i:Nat) (X:NE) (d:Array α) (hd:d.size=n) (hi:i<n)=>Zb (X:=X) (d:=d) (i:=i) hp hB (EncOk.len (enc:=enc) (z:=iz)) (by omega);have st:=fun (i:Nat) (X:NE) (d:Array α) (hd:d.size=n) (hi:i<n) (y:α)=>Yl (X:=X) (d:=d) (i:=i) (y:=y) hp hB hl (EncOk.len (enc:=enc) (z:=iz)) (by omega);have l:=fun (i:Nat) (hi:i<n) c (k:IntKind) (H:NE)=>Ws (e:=iz.e) (i:=i) (n:=n) (c:=c) (k:=k) (H:=H) hp hi
 have r:IntKind.i64.wrap ((s:Int)+1)=((s+1:Nat):Int):=OE (by omega)
 have f:lim<=G.length+X.length:=by omega
 by_cases g:c d[b]! d[a]!<0
 ·refine ⟨b,a,s+1,.inr ⟨rfl,rfl⟩,Nd _,fun Q=>runs (SortAt.ORD (E:=E) (z:=iz)) ?_⟩
  rw [Obq,N5f]
  simp only [Oa4,Oae,m,st,l,Nb,Nh,(EncOk.len (enc:=enc) (z:=iz)),hd,h,j,hc,g,VO,VN,r,f,SB,seval,NC,NJ,NG,NQ,reduceCtorEq,NB,place,NA,ND]
 ·refine ⟨a,b,s,.inl ⟨rfl,rfl⟩,by omega,fun Q=>runs (SortAt.ORD (E:=E) (z:=iz)) ?_⟩
  rw [Obq,N5f]
  simp only [Oa4,Oae,m,st,l,Nb,Nh,(EncOk.len (enc:=enc) (z:=iz)),hd,h,j,hc,g,SB,seval,NC,NJ,NG,NQ,reduceCtorEq,NB,place,NA,ND]
theorem Nzx {G X:NE} {B lim cap n:Nat} {p:Option Addr} {c:α->α->Int} {cl:FuncId} {cs:List Value} (hp:p=Sa B) (hB:B<G.length) (hl:lim<=B) (f:n<2 ^ 61) (hc:∀(mp:Bool) (lim:Nat) (x y:α) (H:NE) (Q:Value->NE->Prop),NK E mp lim cl (.agg (enc x).toArray::.agg (enc y).toArray::cs) H Q=Q (Vi (c x y)) H) {d:Array α} {a b e s:Nat} (hd:d.size=n) (h:a<n) (i:b<n) (he:e<n) (hs:s<90) :
  ∃x g:Nat,(x=a\/x=b\/x=e)/\g<=s+3/\∀Q,NK E false lim iz.MED [.slice p n cap,Vi a,Vi b,Vi e,Vp (G.length+X.length),.func (.func cl) #[] cs.toArray] (DH enc G B d++(X++[Vc [Vi s]])) Q =
   Q (Vi x) (DH enc G B d++(X++[Vc [Vi g]])):=by
 obtain ⟨o,r,k,h1,k1,o1⟩:=No6 (X:=X) (cap:=cap) (lim:=lim) hp hB hl f hc hd h i (show s<100 by omega)
 obtain ⟨q,w,l,h2,k2,o2⟩:=No6 (X:=X) (cap:=cap) (lim:=lim) hp hB hl f hc hd (show r<n by omega) he (show k<100 by omega)
 obtain ⟨v,t,m,u,k3,j⟩:=No6 (X:=X) (cap:=cap) (lim:=lim) hp hB hl f hc hd (show o<n by omega) (show q<n by omega) (show l<100 by omega)
 refine ⟨t,m,by omega,by omega,fun Q=>runs (SortAt.MED (E:=E) (z:=iz)) ?_⟩
 rw [Oe3,N82]
 simp only [Odw,Odk,o1,o2,j,SB,seval,NC,NJ,NG,NQ,reduceCtorEq,NB,place,NA,ND]
theorem Njn {G X:NE} {B lim cap n:Nat} {p:Option Addr} {c:α->α->Int} {cl:FuncId} {cs:List Value} (hp:p=Sa B) (hB:B<G.length) (hl:lim<=B) (f:n<2 ^ 61) (hc:∀(mp:Bool) (lim:Nat) (x y:α) (H:NE) (Q:Value->NE->Prop),NK E mp lim cl (.agg (enc x).toArray::.agg (enc y).toArray::cs) H Q=Q (Vi (c x y)) H) {d:Array α} {a s:Nat} (hd:d.size=n) (h0:0<a) (l:a+1<n) (hs:s<90) :
  ∃x i:Nat,a<=x+1/\x<=a+1/\i<=s+3/\∀Q,NK E false lim iz.MEDA [.slice p n cap,Vi a,Vp (G.length+X.length),.func (.func cl) #[] cs.toArray] (DH enc G B d++(X++[Vc [Vi s]])) Q =
   Q (Vi x) (DH enc G B d++(X++[Vc [Vi i]])):=by
 obtain ⟨k,j,h1,k1,o1⟩:=Nzx (X:=X) (cap:=cap) (lim:=lim) (a:=a-1) (b:=a) (e:=a+1) hp hB hl f hc hd (by omega) (by omega) (by omega) hs
 have g:IntKind.i64.wrap ((a:Int)-1)=((a-1:Nat):Int):=Rw (by omega) (by omega)
 have h:IntKind.i64.wrap ((a:Int)+1)=((a+1:Nat):Int):=OE (by omega)
 refine ⟨k,j,by omega,by omega,k1,fun Q=>runs (SortAt.MEDA (E:=E) (z:=iz)) ?_⟩
 rw [Obr,N2g]
 simp only [Oa5,Oaf,g,h,o1,SB,seval,NC,NJ,NG,NQ,reduceCtorEq,NB,place,NA,ND]
theorem QF {m:Int} {k:Nat} (h:m=(k:Int)) (hk:k<2 ^ 62):IntKind.i64.wrap m=(k:Int):=by
 subst h;exact NP (by omega) (by omega)
theorem Nd1 {a b:Nat}:(a:Int).tdiv (b:Int)=((a / b:Nat):Int):=by
 rw [Ps (by omega)];rfl
theorem N8v {G X:NE} {B lim cap n:Nat} {p:Option Addr} {c:α->α->Int} {cl:FuncId} {cs:List Value} (hp:p=Sa B) (hB:B<G.length) (hl:lim<=B) (u:n<2 ^ 61) (hc:∀(mp:Bool) (lim:Nat) (x y:α) (H:NE) (Q:Value->NE->Prop),NK E mp lim cl (.agg (enc x).toArray::.agg (enc y).toArray::cs) H Q=Q (Vi (c x y)) H) {d:Array α} {a b:Nat} (hd:d.size=n) (hb:b<=n) (O:a+12<b) :
  ∃v h s:Nat,a<=v/\v<b/\h<=2/\∀Q,NK E false lim iz.CHO [.slice p n cap,Vi a,Vi b,.func (.func cl) #[] cs.toArray] (DH enc G B d++X) Q =
   Q (.tuple #[Vi v,Vi h]) (DH enc G B d++(X++[Vc [Vi s]])):=by
 obtain ⟨l,rfl⟩:∃l,b=a+l:=⟨b-a,by omega⟩
 have i:IntKind.i64.wrap (((a+l:Nat):Int)-(a:Int))=(l:Int):=QF (by omega) (by omega)
 have D:(l:Int).tdiv 4=((l / 4:Nat):Int):=Nd1 (b:=4)
 have j:IntKind.i64.wrap ((l / 4:Nat):Int)=((l / 4:Nat):Int):=QF rfl (by omega)
 have k:IntKind.i64.wrap (((l / 4:Nat):Int)*1)=((l / 4:Nat):Int):=QF (by omega) (by omega)
 have m:IntKind.i64.wrap (((l / 4:Nat):Int)*2)=((l / 4*2:Nat):Int):=QF (by omega) (by omega)
 have o:IntKind.i64.wrap (((l / 4:Nat):Int)*3)=((l / 4*3:Nat):Int):=QF (by omega) (by omega)
 have q:IntKind.i64.wrap ((a:Int)+((l / 4:Nat):Int))=((a+l / 4:Nat):Int):=QF (by omega) (by omega)
 have r:IntKind.i64.wrap ((a:Int)+((l / 4*2:Nat):Int))=((a+l / 4*2:Nat):Int):=QF (by omega) (by omega)
 have t:IntKind.i64.wrap ((a:Int)+((l / 4*3:Nat):Int))=((a+l / 4*3:Nat):Int):=QF (by omega) (by omega)
 have C:(8:Int)<=(l:Int):=by omega
 have key:∀(x y z s:Nat),a<=x->x<a+l->a<=y->y<a+l->a<=z->z<a+l->s<80->∃v g:Nat,a<=v/\v<a+l/\∀Q,NK E false lim iz.MED [.slice p n cap,Vi x,Vi y,Vi z,Vp (G.length+X.length),.func (.func cl) #[] cs.toArray] (DH enc G B d++(X++[Vc [Vi s]])) Q =
   Q (Vi v) (DH enc G B d++(X++[Vc [Vi g]])):=by
  intro x y z s q1 q2 q3 q4 q5 q6 q7
  obtain ⟨v,g,K,_,F⟩:=Nzx (X:=X) (cap:=cap) (lim:=lim) (a:=x) (b:=y) (e:=z) hp hB hl u hc hd (by omega) (by omega) (by omega) (show s<90 by omega)
  exact ⟨v,g,by omega,by omega,F⟩
 have fin:∀(v g:Nat) ,∃h:Nat,h<=2/\((g=0/\h=1)\/(¬(g:Int)=0/\g=12/\h=2)\/(¬(g:Int)=0/\¬(g:Int)=12/\h=0)):=by
  intro v g
  by_cases z:g=0
  ·exact ⟨1,by omega,.inl ⟨z,rfl⟩⟩
  ·by_cases J:g=12
   ·exact ⟨2,by omega,.inr (.inl ⟨by omega,J,rfl⟩)⟩
   ·exact ⟨0,by omega,.inr (.inr ⟨by omega,by omega,rfl⟩)⟩
 by_cases N:50<=l
 ·have f:(50:Int)<=(l:Int):=by omega
  obtain ⟨T,P,h1,h2,W,o1⟩:=Njn (X:=X) (cap:=cap) (lim:=lim) (a:=a+l / 4) (s:=0) hp hB hl u hc hd (by omega) (by omega) (by omega)
  obtain ⟨U,R,Y,Z,h6,o2⟩:=Njn (X:=X) (cap:=cap) (lim:=lim) (a:=a+l / 4*2) (s:=P) hp hB hl u hc hd (by omega) (by omega) (by omega)
  obtain ⟨V,S,h7,h8,h9,M⟩:=Njn (X:=X) (cap:=cap) (lim:=lim) (a:=a+l / 4*3) (s:=R) hp hB hl u hc hd (by omega) (by omega) (by omega)
  obtain ⟨v,g,K,F,w⟩:=key T U V S (by omega) (by omega) (by omega) (by omega) (by omega) (by omega) (by omega)
  obtain ⟨h,L,A⟩:=fin v g
  refine ⟨v,h,g,K,F,L,fun Q=>runs (SortAt.CHO (E:=E) (z:=iz)) ?_⟩
  rw [Obv,N5i]
  simp only [show ((0:Nat):Int)=0 from rfl] at o1
  rcases A with ⟨rfl,rfl⟩ | ⟨I,rfl,rfl⟩ | ⟨I,J,rfl⟩
  ·simp only [Nuv,Ntq,i,D,j,k,m,o,q,r,t,C,f,o1,o2,M,w,VO,VN,V8,SB,seval,NC,NJ,NG,NQ,reduceCtorEq,NB,place,NA,ND]
  ·simp only [Nuv,Ntq,i,D,j,k,m,o,q,r,t,C,f,o1,o2,M,w,VO,VN,V8,SB,seval,NC,NJ,NG,NQ,reduceCtorEq,NB,place,NA,ND]
  ·simp only [Nuv,Ntq,i,D,j,k,m,o,q,r,t,C,f,o1,o2,M,w,I,J,VO,VN,V8,SB,seval,NC,NJ,NG,NQ,reduceCtorEq,NB,place,NA,ND]
 ·have f:¬(50:Int)<=(l:Int):=by omega
  obtain ⟨v,g,K,F,w⟩:=key (a+l / 4) (a+l / 4*2) (a+l / 4*3) 0 (by omega) (by omega) (by omega) (by omega) (by omega) (by omega) (by omega)
  obtain ⟨h,L,A⟩:=fin v g
  refine ⟨v,h,g,K,F,L,fun Q=>runs (SortAt.CHO (E:=E) (z:=iz)) ?_⟩
  rw [Obv,N5i]
  simp only [show ((0:Nat):Int)=0 from rfl] at w
  rcases A with ⟨rfl,rfl⟩ | ⟨I,rfl,rfl⟩ | ⟨I,J,rfl⟩
  ·simp only [Nuv,Ntq,i,D,j,k,m,o,q,r,t,C,f,w,VO,VN,V8,SB,seval,NC,NJ,NG,NQ,reduceCtorEq,NB,place,NA,ND]
  ·simp only [Nuv,Ntq,i,D,j,k,m,o,q,r,t,C,f,w,VO,VN,V8,SB,seval,NC,NJ,NG,NQ,reduceCtorEq,NB,place,NA,ND]
  ·simp only [Nuv,Ntq,i,D,j,k,m,o,q,r,t,C,f,w,I,J,VO,VN,V8,SB,seval,NC,NJ,NG,NQ,reduceCtorEq,NB,place,NA,ND]
variable {E:Env} {iz:Ids} [DT E E] [SortAt E iz] {α:Type} [Inhabited α] {enc:α->List Value} [EncOk enc iz]
def len8:List UInt8:=[0,1,2,2,3,3,3,3,4,4,4,4,4,4,4,4,5,5,5,5,5,5,5,5,5,5,5,5,5,5,5,5,6,6,6,6,6,6,6,6,6,6,6,6,6,6,6,6,6,6,6,6,6,6,6,6,6,6,6,6,6,6,6,6,7,7,7,7,7,7,7,7,7,7,7,7,7,7,7,7,7,7,7,7,7,7,7,7,7,7,7,7,7,7,7,7,7,7,7,7,7,7,7,7,7,7,7,7,7,7,7,7,7,7,7,7,7,7,7,7,7,7,7,7,7,7,7,7,8,8,8,8,8,8,8,8,8,8,8,8,8,8,8,8,8,8,8,8,8,8,8,8,8,8,8,8,8,8,8,8,8,8,8,8,8,8,8,8,8,8,8,8,8,8,8,8,8,8,8,8,8,8,8,8,8,8,8,8,8,8,8,8,8,8,8,8,8,8,8,8,8,8,8,8,8,8,8,8,8,8,8,8,8,8,8,8,8,8,8,8,8,8,8,8,8,8,8,8,8,8,8,8,8,8,8,8,8,8,8,8,8,8,8,8,8,8,8,8,8,8,8,8,8,8,8,8]
theorem Nz7:len8.length=256:=by decide
theorem Nsc:∀m,m<256->m<2 ^ (len8.getD m 0).toNat/\(m=0\/2 ^ (len8.getD m 0).toNat<=2*m)/\(len8.getD m 0).toNat<=8:=by decide +kernel
theorem len8_get {m:Nat} (h:m<256):len8[m]? = some (len8.getD m 0):=by
 rw [Na,Nf (by rw [Nz7];exact h)];rfl
theorem wrap64 {n:Int}:IntKind.u64.wrap n=n % 2 ^ 64:=by simp [IntKind.wrap,IntKind.bits,IntKind.signed]
theorem N57 {n:Int}:IntKind.u8.wrap n=n % 2 ^ 8:=by simp [IntKind.wrap,IntKind.bits,IntKind.signed]
theorem fd8 {a:Int}:a.fdiv (2 ^ min (Int.toNat 8) IntKind.u64.bits)=a / 256:=by
 rw [show (2:Int) ^ min (Int.toNat 8) IntKind.u64.bits=256 from by decide,Q1 _ (by decide)]
theorem Nz6 {x:Nat} (r:x<65536) (h0:0<x):∃L:Nat,x<2 ^ L/\2 ^ L<=2*x/\L<=16/\∀(mp:Bool) (lim:Nat) (H:NE) (Q:Value->NE->Prop),NK E mp lim iz.LEN [.int .u64 (x:Int)] H Q=Q (Vi L) H:=by
 have key:∃L:Nat,x<2 ^ L/\2 ^ L<=2*x/\L<=16/\∀(mp:Bool) (lim:Nat) (H:NE) (Q:Value->NE->Prop),NK E mp lim iz.LEN64 [.int .u64 (x:Int)] H Q=Q (Vi L) H:=by
  have c32:¬(4294967296:Int)<=(x:Int):=by omega
  have c16:¬(65536:Int)<=(x:Int):=by omega
  by_cases q:256<=x
  ·obtain ⟨h1,h2,d⟩:=Nsc (x / 256) (by omega)
   have c:=len8_get (m:=x / 256) (by omega)
   generalize l:len8.getD (x / 256) 0=b at h1 h2 d c
   have j:2 ^ b.toNat<=2*(x / 256):=by rcases h2 with h | h<;>omega
   have e:(2:Nat) ^ (8+b.toNat)=256*2 ^ b.toNat:=by rw [Nat.pow_add]
   refine ⟨8+b.toNat,by rw [e];omega,by rw [e];omega,by omega,fun mp lim H Q=>?_⟩
   refine pcG (SortAt.LEN64 (E:=E) (z:=iz)) rfl ?_
   rw [Nrb,Nf1]
   unfold len8 at c
   have a:(256:Int)<=(x:Int):=by omega
   have n:IntKind.u64.wrap ((x:Int) / 256)=((x / 256:Nat):Int):=by rw [wrap64];omega
   have f:IntKind.u8.wrap ((x:Int) / 256)=((x / 256:Nat):Int):=by rw [N57];omega
   have g:IntKind.i64.wrap ((b.toNat:Nat):Int)=(b.toNat:Int):=QF rfl (by omega)
   have o:IntKind.i64.wrap (8+(b.toNat:Int))=((8+b.toNat:Nat):Int):=QF (by omega) (by omega)
   have p:IntKind.i64.wrap 8=8:=by decide
   have i:(0:Int)<=((x / 256:Nat):Int):=by omega
   simp only [Npr,Nou,c32,c16,a,fd8,n,f,g,o,p,i,c,Oa,Rp,SB,Nat.reduceLT,NC,NJ,Nat.reduceEqDiff,NG,NQ,reduceCtorEq,NB,place,NA,Nat.reduceAdd,Nat.reduceLeDiff,ND,Int.reduceEq,Int.reduceLT,Int.reduceLE]
  ·obtain ⟨h1,h2,d⟩:=Nsc x (by omega)
   have c:=len8_get (m:=x) (by omega)
   generalize l:len8.getD x 0=b at h1 h2 d c
   refine ⟨b.toNat,h1,by rcases h2 with h | h<;>omega,by omega,fun mp lim H Q=>?_⟩
   refine pcG (SortAt.LEN64 (E:=E) (z:=iz)) rfl ?_
   rw [Nrb,Nf1]
   unfold len8 at c
   have a:¬(256:Int)<=(x:Int):=by omega
   have f:IntKind.u8.wrap (x:Int)=(x:Int):=by rw [N57];omega
   have g:IntKind.i64.wrap ((b.toNat:Nat):Int)=(b.toNat:Int):=QF rfl (by omega)
   have i:(0:Int)<=(x:Int):=by omega
   simp only [Npr,Nou,c32,c16,a,f,g,i,c,Oa,Rp,SB,Nat.reduceLT,NC,NJ,Nat.reduceEqDiff,NG,NQ,reduceCtorEq,NB,place,NA,Nat.reduceAdd,Nat.reduceLeDiff,ND,Int.reduceEq,Int.reduceLT,Int.reduceLE]
 obtain ⟨L,h1,h2,d,k⟩:=key
 refine ⟨L,h1,h2,d,fun mp lim H Q=>?_⟩
 refine pcG (SortAt.LEN (E:=E) (z:=iz)) rfl ?_
 rw [Obs,N5g]
 simp only [Oa6,Oag,k,SB,Nat.reduceLT,NC,NJ,Nat.reduceEqDiff,NG,NQ,reduceCtorEq,NB,place,NA,Nat.reduceAdd,Nat.reduceLeDiff,ND,Int.reduceEq,Int.reduceLT,Int.reduceLE]
theorem N75 {x:Nat} (c:x<65536) (h0:0<x):∃m:Nat,0<m/\m<=2*x/\∀(mp:Bool) (lim:Nat) (H:NE) (Q:Value->NE->Prop),NK E mp lim iz.NPT [Vi x] H Q=Q (.int .u64 (m:Int)) H:=by
 obtain ⟨L,h1,h2,g,b⟩:=Nz6 (E:=E) (iz:=iz) c h0
 refine ⟨2 ^ L,Nat.pow_pos (by decide),h2,fun mp lim H Q=>?_⟩
 refine pcG (SortAt.NPT (E:=E) (z:=iz)) rfl ?_
 rw [Oe2,N81]
 have d:IntKind.u64.wrap (x:Int)=(x:Int):=by rw [wrap64];omega
 have e:min L IntKind.u64.bits=L:=by simp only [IntKind.bits];omega
 have hp:(2:Nat) ^ L<2 ^ 18:=by omega
 have f:IntKind.u64.wrap (1*2 ^ L)=((2 ^ L:Nat):Int):=by
  rw [wrap64,Int.one_mul]
  have:((2:Int) ^ L)=((2 ^ L:Nat):Int):=by simp
  rw [this];omega
 have a:¬(L:Int)<0:=by omega
 simp only [Odv,Odj,d,b,a,Oa,e,f,SB,Nat.reduceLT,NC,NJ,Nat.reduceEqDiff,NG,NQ,reduceCtorEq,NB,place,NA,Nat.reduceAdd,Nat.reduceLeDiff,ND,Int.reduceEq,Int.reduceLT,Int.reduceLE]
theorem N7e {α:Type} {enc:α->List Value} {G X:NE} {B lim:Nat} {d:Array α} {s:Int} (hl:lim<=B) (hB:B<G.length) :
  ∃a:Int,(0<=a/\a<2 ^ 64)/\∀Q,NK E false lim iz.XOR [Vp (G.length+X.length)] (DH enc G B d++(X++[Vc [.int .u64 s]])) Q=Q (.int .u64 a) (DH enc G B d++(X++[Vc [.int .u64 a]])):=by
 have b:lim<=G.length+X.length:=by omega
 have c:∀m:Int,0<=IntKind.u64.wrap m/\IntKind.u64.wrap m<2 ^ 64:=by intro m;rw [wrap64];omega
 have key:NK E false lim iz.XOR [Vp (G.length+X.length)] (DH enc G B d++(X++[Vc [.int .u64 s]])) fun v H'=>∃a,(0<=a/\a<2 ^ 64)/\v=.int .u64 a/\H'=DH enc G B d++(X++[Vc [.int .u64 a]]):=by
  rw [SF (E:=E) (g:=iz.XOR) (af:=(aXOR iz)) ((SortAt.XOR (E:=E) (z:=iz)).2.2 _ _) (SortAt.XOR (E:=E) (z:=iz)).1 (SortAt.XOR (E:=E) (z:=iz)).2.1 rfl]
  rw [Oey,N8x]
  simp only [Odu,Odi,VO,VN,b,Nb,SB,Nat.reduceLT,NC,NJ,Nat.reduceEqDiff,NG,NQ,reduceCtorEq,NB,place,NA,Nat.reduceAdd,Nat.reduceLeDiff,ND,Int.reduceEq,Int.reduceLT,Int.reduceLE]
  exact ⟨_,c _,rfl,rfl⟩
 obtain ⟨k,v,H',e,a,h1,rfl,rfl⟩:=oneG (SortAt.dt (E:=E) (z:=iz)) key
 exact ⟨a,h1,fun Q=>NK.det e⟩
theorem N9z {a b:Int} (c:0<=b/\b<2 ^ 64):0<=IntKind.u64.wrap ((BitVec.ofInt IntKind.u64.bits a &&& BitVec.ofInt IntKind.u64.bits b).toNat:Int)/\IntKind.u64.wrap ((BitVec.ofInt IntKind.u64.bits a &&& BitVec.ofInt IntKind.u64.bits b).toNat:Int)<=b:=by
 rw [wrap64]
 have h1:(BitVec.ofInt IntKind.u64.bits a &&& BitVec.ofInt IntKind.u64.bits b).toNat<=(BitVec.ofInt IntKind.u64.bits b).toNat:=by
  rw [BitVec.toNat_and];exact Nat.and_le_right
 have h2:((BitVec.ofInt IntKind.u64.bits b).toNat:Int)=b:=by
  rw [BitVec.toNat_ofInt]
  simp only [IntKind.bits]
  omega
 omega
variable {E:Env} {iz:Ids} [DT E E] [SortAt E iz] {α:Type} [Inhabited α] {enc:α->List Value} [EncOk enc iz]
theorem N9q {G X:NE} {B lim cap n:Nat} {p:Option Addr} {c:α->α->Int} {cl:FuncId} {cs:List Value} (hp:p=Sa B) (hB:B<G.length) (hl:lim<=B) (ag:n<2 ^ 61) (hc:∀(mp:Bool) (lim:Nat) (x y:α) (H:NE) (Q:Value->NE->Prop),NK E mp lim cl (.agg (enc x).toArray::.agg (enc y).toArray::cs) H Q=Q (Vi (c x y)) H) {d:Array α} {a b:Nat} (hd:d.size=n) (hb:b<=n) (ac:a+12<b) (ah:n<65536) :
  ∃q s,q.size=n/\PermIn a b d q/\∀Q,NK E false lim iz.BRK [.slice p n cap,Vi a,Vi b,.func (.func cl) #[] cs.toArray] (DH enc G B d++X) Q=Q (.tuple #[]) (DH enc G B q++(X++[Vc [.int .u64 s]])):=by
 have key:NK E false lim iz.BRK [.slice p n cap,Vi a,Vi b,.func (.func cl) #[] cs.toArray] (DH enc G B d++X) fun v H'=>∃q s,q.size=n/\PermIn a b d q/\v=.tuple #[]/\H'=DH enc G B q++(X++[Vc [.int .u64 s]]):=by
  rw [SF (E:=E) (g:=iz.BRK) (af:=(aBRK iz)) ((SortAt.BRK (E:=E) (z:=iz)).2.2 _ _) (SortAt.BRK (E:=E) (z:=iz)).1 (SortAt.BRK (E:=E) (z:=iz)).2.1 rfl]
  rw [Oe4,N83]
  have ld:=fun (i:Nat) (X:NE) (d:Array α) (hd:d.size=n) (hi:i<n)=>Zb (X:=X) (d:=d) (i:=i) hp hB (EncOk.len (enc:=enc) (z:=iz)) (by omega);have st:=fun (i:Nat) (X:NE) (d:Array α) (hd:d.size=n) (hi:i<n) (y:α)=>Yl (X:=X) (d:=d) (i:=i) (y:=y) hp hB hl (EncOk.len (enc:=enc) (z:=iz)) (by omega);have ix:=fun (i:Nat) (hi:i<n) c (k:IntKind) (H:NE)=>Ws (e:=iz.e) (i:=i) (n:=n) (c:=c) (k:=k) (H:=H) hp hi
  have Z:lim<=G.length+X.length:=by omega
  obtain ⟨l,rfl⟩:∃l,b=a+l:=⟨b-a,by omega⟩
  obtain ⟨m,ad,ae,L⟩:=N75 (E:=E) (iz:=iz) (x:=l) (by omega) (by omega)
  have u:IntKind.i64.wrap (((a+l:Nat):Int)-(a:Int))=(l:Int):=QF (by omega) (by omega)
  have T:(l:Int).tdiv 4=((l / 4:Nat):Int):=Nd1 (b:=4)
  have w:IntKind.i64.wrap ((l / 4:Nat):Int)=((l / 4:Nat):Int):=QF rfl (by omega)
  have A:IntKind.i64.wrap (((l / 4:Nat):Int)*2)=((l / 4*2:Nat):Int):=QF (by omega) (by omega)
  have C:IntKind.i64.wrap ((a:Int)+((l / 4*2:Nat):Int))=((a+l / 4*2:Nat):Int):=QF (by omega) (by omega)
  have aa:IntKind.i64.wrap (((a+l / 4*2:Nat):Int)-1)=((a+l / 4*2-1:Nat):Int):=QF (by omega) (by omega)
  have D:IntKind.i64.wrap (((a+l / 4*2:Nat):Int)+1)=((a+l / 4*2+1:Nat):Int):=QF (by omega) (by omega)
  have N:IntKind.u64.wrap ((m:Int)-1)=((m-1:Nat):Int):=by rw [wrap64];omega
  have c8:(8:Int)<=(l:Int):=by omega
  simp only [N4h,N3o,u,T,w,A,C,aa,c8,L,VO,VN,V8,Z,SB,seval,NC,NJ,NG,NQ,reduceCtorEq,NB,place,NA,ND]
  refine NS (S:=Nat×Array α×Int) (fun s=>a+l+5-s.1) (fun s fr H=>a<s.1/\s.1<=a+l / 4*2+2/\fr 0=.slice p n cap/\fr 1=Vi a/\fr 8=Vi l/\fr 9=Vp (G.length+X.length)/\fr 10=.int .u64 (m:Int)/\fr 11=Vi s.1/\
   H=DH enc G B s.2.1++(X++[Vc [.int .u64 s.2.2]])/\s.2.1.size=n/\PermIn a (a+l) d s.2.1) (a+l / 4*2-1,d,IntKind.u64.wrap (l:Int)) ⟨by simp only;omega,by simp only;omega,rfl,rfl,rfl,rfl,rfl,rfl,rfl,hd,permIn_refl _ _ _⟩ ?_
  rintro ⟨i,P,s⟩ fr H ⟨h1,h2,F,I,J,K,j,t,rfl,h,R⟩ Y
  simp only at h1 h2 t h R
  rw [NU (N0j.eq_1 iz)]
  by_cases W:i<=a+(l / 4*2+1)
  ·obtain ⟨V,_,U⟩:=N7e (E:=E) (iz:=iz) (X:=X) (d:=P) (s:=s) (enc:=enc) hl hB
   have hA:=N9z (a:=V) (b:=((m-1:Nat):Int)) (by omega)
   generalize hr:IntKind.u64.wrap ((BitVec.ofInt IntKind.u64.bits V &&& BitVec.ofInt IntKind.u64.bits ((m-1:Nat):Int)).toNat:Int)=r at hA
   obtain ⟨f,rfl⟩:∃f:Nat,r=(f:Int):=⟨r.toNat,by omega⟩
   have O:IntKind.i64.wrap (f:Int)=(f:Int):=QF rfl (by omega)
   have M:IntKind.i64.wrap ((i:Int)+1)=((i+1:Nat):Int):=OE (by omega)
   have i1:i<n:=by omega
   by_cases c2:l<=f
   ·have ab:IntKind.i64.wrap ((f:Int)-(l:Int))=((f-l:Nat):Int):=QF (by omega) (by omega)
    have o:IntKind.i64.wrap ((a:Int)+((f-l:Nat):Int))=((a+(f-l):Nat):Int):=QF (by omega) (by omega)
    have i2:a+(f-l)<n:=by omega
    simp only [N4h,N3o,F,I,J,K,j,t,u,T,w,A,C,D,W,U,N,hr,O,c2,ab,o,ld,st,ix,Nb,Nh,(EncOk.len (enc:=enc) (z:=iz)),h,i1,i2,M,SB,seval,NC,NJ,NG,NQ,reduceCtorEq,NB,place,NA,ND]
    exact Y (i+1,swp P i (a+(f-l)),V) _ _ ⟨by simp only;omega,by simp only;omega,F,I,J,K,j,rfl,by simp [swp],by simp [swp,h],permIn_trans _ _ _ _ _ R (swp_permIn _ _ _ _ _ (by omega) (by omega) (by omega) (by omega) (by omega))⟩ (by simp only;omega)
   ·have o:IntKind.i64.wrap ((a:Int)+(f:Int))=((a+f:Nat):Int):=QF (by omega) (by omega)
    have i2:a+f<n:=by omega
    simp only [N4h,N3o,F,I,J,K,j,t,u,T,w,A,C,D,W,U,N,hr,O,c2,o,ld,st,ix,Nb,Nh,(EncOk.len (enc:=enc) (z:=iz)),h,i1,i2,M,SB,seval,NC,NJ,NG,NQ,reduceCtorEq,NB,place,NA,ND]
    exact Y (i+1,swp P i (a+f),V) _ _ ⟨by simp only;omega,by simp only;omega,F,I,J,K,j,rfl,by simp [swp],by simp [swp,h],permIn_trans _ _ _ _ _ R (swp_permIn _ _ _ _ _ (by omega) (by omega) (by omega) (by omega) (by omega))⟩ (by simp only;omega)
  ·clear Y
   simp only [N4h,N3o,F,I,J,K,j,t,u,T,w,A,C,D,W,SB,seval,NC,NJ,NG,NQ,reduceCtorEq,NB,place,NA,ND]
   exact ⟨P,s,h,R,rfl⟩
 obtain ⟨k,v,H',U,q,s,h1,h2,rfl,rfl⟩:=oneG (SortAt.dt (E:=E) (z:=iz)) key
 exact ⟨q,s,h1,h2,fun Q=>NK.det U⟩
variable {E:Env} {iz:Ids} [DT E E] [SortAt E iz] {α:Type} [Inhabited α] {enc:α->List Value} [EncOk enc iz]
def tlc:ACode->ACode
 | .seq _ b=>b
 | x=>x
def unb:ACode->ACode
 | .block _ b=>b
 | x=>x
def q1 (iz:Ids):ACode:=tlc (tlc (tlc (tlc (unb (TC iz)))))
def q2 (iz:Ids):ACode:=tlc (tlc (q1 iz))
def q3 (iz:Ids):ACode:=tlc (q2 iz)
def hdc:ACode->ACode
 | .seq a _=>a
 | x=>x
def p1 (iz:Ids):ACode:=hdc (unb (TC iz))
def p2 (iz:Ids):ACode:=hdc (tlc (unb (TC iz)))
def p3 (iz:Ids):ACode:=hdc (tlc (tlc (unb (TC iz))))
def p4 (iz:Ids):ACode:=hdc (tlc (tlc (tlc (unb (TC iz)))))
theorem Nsx:(TC iz)=.block 1 (.seq (p1 iz) (.seq (p2 iz) (.seq (p3 iz) (.seq (p4 iz) (q1 iz))))):=rfl
def p5 (iz:Ids):ACode:=hdc (q2 iz)
theorem Nyo:(q2 iz)=.seq (p5 iz) (q3 iz):=rfl
def p6 (iz:Ids):ACode:=hdc (q1 iz)
def p7 (iz:Ids):ACode:=hdc (tlc (q1 iz))
theorem N59:(q1 iz)=.seq (p6 iz) (.seq (p7 iz) (q2 iz)):=rfl
def Za (enc:α->List Value) (G:NE) (B n:Nat) (c:α->α->Int) (a b:Nat) (d:Array α) (X:NE) (v:Value) (H':NE):Prop:=
 ∃e Y,e.size=n/\PermIn a b d e/\SortedIn (ltC c) a b e/\v=.tuple #[]/\H'=DH enc G B e++(X++Y)
theorem Za.perm {G:NE} {B n:Nat} {c:α->α->Int} {a b:Nat} {d e:Array α} {X Y:NE} {v:Value} {H':NE} (h:Za enc G B n c a b e (X++Y) v H') (k:PermIn a b d e):Za enc G B n c a b d X v H':=by
 obtain ⟨f,Z,h1,h2,g,i,j⟩:=h
 exact ⟨f,Y++Z,h1,permIn_trans _ _ _ _ _ k h2,g,i,by rw [j];simp⟩
theorem Ods {G X:NE} {B lim cap n:Nat} {p:Option Addr} {c:α->α->Int} {cl:FuncId} {cs:List Value} (hp:p=Sa B) (hB:B<G.length) (hl:lim<=B) (ab:n<2 ^ 61) (hc:∀(mp:Bool) (lim:Nat) (x y:α) (H:NE) (Q:Value->NE->Prop),NK E mp lim cl (.agg (enc x).toArray::.agg (enc y).toArray::cs) H Q=Q (Vi (c x y)) H) (hS:SWO (ltC c)) {d:Array α} {a b v lm m:Nat} {wb wp:Bool} {fr:Nat->Value} {L:List AItem} (hT:∀(a b lm:Nat) (wb wp:Bool) (d:Array α) (X:NE) (fr:Nat->Value),b-a<m->a<=b->b<=n->d.size=n->Below (ltC c) a b d->lm<2 ^ 60->fr 0=.slice p n cap->fr 1=Vi a->fr 2=Vi b->fr 3=Vi lm->fr 4=.func (.func cl) #[] cs.toArray->fr 10=.bool wb->fr 11=.bool wp->PV E (aPDQ iz) lim L fr (DH enc G B d++X) (Za enc G B n c a b d X)) (hC:∀(a b lm:Nat) (d:Array α) (X:NE),b-a<m->a<=b->b<=n->d.size=n->Below (ltC c) a b d->lm<2 ^ 60->∃f Y,f.size=n/\PermIn a b d f/\SortedIn (ltC c) a b f/\∀Q,NK E false lim iz.PDQ [.slice p n cap,Vi a,Vi b,Vi lm,.func (.func cl) #[] cs.toArray] (DH enc G B d++X) Q=Q (.tuple #[]) (DH enc G B f++(X++Y))) (hm:b-a<=m) (hd:d.size=n) (hb:b<=n) (S:a<=v/\v<b) (j:lm<2 ^ 60) (aa:Below (ltC c) a b d) (C:fr 0=.slice p n cap) (U:fr 1=Vi a) (R:fr 2=Vi b) (D:fr 3=Vi lm) (F:fr 4=.func (.func cl) #[] cs.toArray) (s:fr 10=.bool wb) (t:fr 11=.bool wp) (w:fr 12=Vi ((b-a:Nat):Int)) (A:fr 13=Vi v) :
  PV E (aPDQ iz) lim (.code (q3 iz)::.inBlock 1::L) fr (DH enc G B d++X) (Za enc G B n c a b d X):=by
 simp only [q3,q2,q1,tlc,unb,TC]
 have ld:=fun (i:Nat) (X:NE) (d:Array α) (hd:d.size=n) (hi:i<n)=>Zb (X:=X) (d:=d) (i:=i) hp hB (EncOk.len (enc:=enc) (z:=iz)) (by omega);have st:=fun (i:Nat) (X:NE) (d:Array α) (hd:d.size=n) (hi:i<n) (y:α)=>Yl (X:=X) (d:=d) (i:=i) (y:=y) hp hB hl (EncOk.len (enc:=enc) (z:=iz)) (by omega);have ix:=fun (i:Nat) (hi:i<n) c (k:IntKind) (H:NE)=>Ws (e:=iz.e) (i:=i) (n:=n) (c:=c) (k:=k) (H:=H) hp hi
 have V:0<a->IntKind.i64.wrap ((a:Int)-1)=((a-1:Nat):Int):=fun h=>Rw h (by omega)
 have i1:v<n:=by omega
 by_cases W:0<a/\¬c d[a-1]! d[v]!<0
 ·obtain ⟨W,c2⟩:=W
  have i2:a-1<n:=by omega
  have ad:=fun Q=>N7t (X:=X) (cap:=cap) (a:=a) (b:=b) (v:=v) (Q:=Q) hp hB hl ab hc hd hb S.1 S.2
  generalize hx:partitionEqual (ltC c) d a b v=r at ad
  obtain ⟨mid,d4⟩:=r
  obtain ⟨r1,r2,r3,r4,r5⟩:=round_eq hS (partitionEqual_holds (ltC c)) W S.1 S.2 (by omega) aa (by simp [ltC,c2]) hx
  have g:=V W
  simp only [Xk,Xh,C,U,R,D,F,s,t,w,A,W,c2,g,ld,st,ix,Nb,Nh,(EncOk.len (enc:=enc) (z:=iz)),hd,i1,i2,hc,ad,SB,seval,NC,NJ,NG,NQ,reduceCtorEq,NB,place,NA,ND]
  exact (hT mid b lm wb wp d4 X _ (by omega) r2 hb (by omega) r4 j (by exact C) (by rfl) (by exact R) (by exact D) (by exact F) (by exact s) (by exact t)).mono fun v H' ⟨f,Y,N,l,o,O,P⟩=>⟨f,Y,N,(r5 f l o).1,(r5 f l o).2,O,P⟩
 ·have u:=fun Q=>Ntz (X:=X) (cap:=cap) (a:=a) (b:=b) (v:=v) (Q:=Q) hp hB hl ab hc hd hb S.1 S.2
  generalize hx:Sort.partition (ltC c) d a b v=r at u
  obtain ⟨mid,ap,d4⟩:=r
  obtain ⟨r1,r2,r3,r4,r5,r6,r7⟩:=round_part hS (partition_holds (ltC c)) S.1 S.2 (by omega) aa hx
  simp only at u
  have I:IntKind.i64.wrap ((mid:Int)-(a:Int))=((mid-a:Nat):Int):=QF (by omega) (by omega)
  have J:IntKind.i64.wrap ((b:Int)-(mid:Int))=((b-mid:Nat):Int):=QF (by omega) (by omega)
  have K:IntKind.i64.wrap ((mid:Int)+1)=((mid+1:Nat):Int):=OE (by omega)
  have hq:((b-a:Nat):Int).tdiv 8=(((b-a) / 8:Nat):Int):=Nd1 (b:=8)
  have M:IntKind.i64.wrap (((b-a) / 8:Nat):Int)=(((b-a) / 8:Nat):Int):=QF rfl (by omega)
  have ac:(0<a/\c d[a-1]! d[v]!<0)\/¬0<a:=by
   by_cases q:0<a
   ·exact .inl ⟨q,Ny fun q2=>W ⟨q,q2⟩⟩
   ·exact .inr q
  by_cases c5:mid-a<b-mid
  ·obtain ⟨T,Y,l1,l2,l3,l4⟩:=hC a mid lm d4 X (by omega) r1 (by omega) (by omega) r4 j
   obtain ⟨k1,k2⟩:=r6 T l2 l3
   rcases ac with ⟨c2,c3⟩ | c2
   ·have g:=V c2
    have i2:a-1<n:=by omega
    simp only [Xk,Xh,C,U,R,D,F,s,t,w,A,c2,c3,g,ld,st,ix,Nb,Nh,(EncOk.len (enc:=enc) (z:=iz)),hd,i1,i2,hc,u,I,J,K,hq,M,c5,l4,SB,seval,NC,NJ,NG,NQ,reduceCtorEq,NB,place,NA,ND]
    exact (hT (mid+1) b lm (decide ((b-a) / 8<=mid-a)) ap T (X++Y) _ (by omega) (by omega) hb l1 k1 j (by exact C) (by rfl) (by exact R) (by exact D) (by exact F) (by rfl) (by rfl)).mono fun v H' ⟨f,Z,N,l,o,O,P⟩=>⟨f,Y++Z,N,(k2 f l o).1,(k2 f l o).2,O,by rw [P];simp⟩
   ·simp only [Xk,Xh,C,U,R,D,F,s,t,w,A,c2,ld,st,ix,Nb,Nh,(EncOk.len (enc:=enc) (z:=iz)),hd,i1,hc,u,I,J,K,hq,M,c5,l4,SB,seval,NC,NJ,NG,NQ,reduceCtorEq,NB,place,NA,ND]
    exact (hT (mid+1) b lm (decide ((b-a) / 8<=mid-a)) ap T (X++Y) _ (by omega) (by omega) hb l1 k1 j (by exact C) (by rfl) (by exact R) (by exact D) (by exact F) (by rfl) (by rfl)).mono fun v H' ⟨f,Z,N,l,o,O,P⟩=>⟨f,Y++Z,N,(k2 f l o).1,(k2 f l o).2,O,by rw [P];simp⟩
  ·obtain ⟨T,Y,l1,l2,l3,l4⟩:=hC (mid+1) b lm d4 X (by omega) (by omega) hb (by omega) r5 j
   obtain ⟨k1,k2⟩:=r7 T l2 l3
   rcases ac with ⟨c2,c3⟩ | c2
   ·have g:=V c2
    have i2:a-1<n:=by omega
    simp only [Xk,Xh,C,U,R,D,F,s,t,w,A,c2,c3,g,ld,st,ix,Nb,Nh,(EncOk.len (enc:=enc) (z:=iz)),hd,i1,i2,hc,u,I,J,K,hq,M,c5,l4,SB,seval,NC,NJ,NG,NQ,reduceCtorEq,NB,place,NA,ND]
    exact (hT a mid lm (decide ((b-a) / 8<=b-mid)) ap T (X++Y) _ (by omega) r1 (by omega) l1 k1 j (by exact C) (by exact U) (by rfl) (by exact D) (by exact F) (by rfl) (by rfl)).mono fun v H' ⟨f,Z,N,l,o,O,P⟩=>⟨f,Y++Z,N,(k2 f l o).1,(k2 f l o).2,O,by rw [P];simp⟩
   ·simp only [Xk,Xh,C,U,R,D,F,s,t,w,A,c2,ld,st,ix,Nb,Nh,(EncOk.len (enc:=enc) (z:=iz)),hd,i1,hc,u,I,J,K,hq,M,c5,l4,SB,seval,NC,NJ,NG,NQ,reduceCtorEq,NB,place,NA,ND]
    exact (hT a mid lm (decide ((b-a) / 8<=b-mid)) ap T (X++Y) _ (by omega) r1 (by omega) l1 k1 j (by exact C) (by exact U) (by rfl) (by exact D) (by exact F) (by rfl) (by rfl)).mono fun v H' ⟨f,Z,N,l,o,O,P⟩=>⟨f,Y++Z,N,(k2 f l o).1,(k2 f l o).2,O,by rw [P];simp⟩
theorem Oaq {G X:NE} {B lim cap n:Nat} {p:Option Addr} {c:α->α->Int} {cl:FuncId} {cs:List Value} (hp:p=Sa B) (hB:B<G.length) (hl:lim<=B) (F:n<2 ^ 61) (hc:∀(mp:Bool) (lim:Nat) (x y:α) (H:NE) (Q:Value->NE->Prop),NK E mp lim cl (.agg (enc x).toArray::.agg (enc y).toArray::cs) H Q=Q (Vi (c x y)) H) (hS:SWO (ltC c)) {d:Array α} {a b v h lm m:Nat} {wb wp:Bool} {fr:Nat->Value} {L:List AItem} (hT:∀(a b lm:Nat) (wb wp:Bool) (d:Array α) (X:NE) (fr:Nat->Value),b-a<m->a<=b->b<=n->d.size=n->Below (ltC c) a b d->lm<2 ^ 60->fr 0=.slice p n cap->fr 1=Vi a->fr 2=Vi b->fr 3=Vi lm->fr 4=.func (.func cl) #[] cs.toArray->fr 10=.bool wb->fr 11=.bool wp->PV E (aPDQ iz) lim L fr (DH enc G B d++X) (Za enc G B n c a b d X)) (V:∀(a b lm:Nat) (d:Array α) (X:NE),b-a<m->a<=b->b<=n->d.size=n->Below (ltC c) a b d->lm<2 ^ 60->∃J Y,J.size=n/\PermIn a b d J/\SortedIn (ltC c) a b J/\∀Q,NK E false lim iz.PDQ [.slice p n cap,Vi a,Vi b,Vi lm,.func (.func cl) #[] cs.toArray] (DH enc G B d++X) Q=Q (.tuple #[]) (DH enc G B J++(X++Y))) (W:b-a<=m) (hd:d.size=n) (S:b<=n) (hv:a<=v/\v<b) (O:lm<2 ^ 60) (hh:h<=2) (j:Below (ltC c) a b d) (k:fr 0=.slice p n cap) (l:fr 1=Vi a) (s:fr 2=Vi b) (t:fr 3=Vi lm) (u:fr 4=.func (.func cl) #[] cs.toArray) (e:fr 10=.bool wb) (f:fr 11=.bool wp) (g:fr 12=Vi ((b-a:Nat):Int)) (i:fr 13=Vi v) (o:fr 14=Vi h) :
  PV E (aPDQ iz) lim (.code (q2 iz)::.inBlock 1::L) fr (DH enc G B d++X) (Za enc G B n c a b d X):=by
 have M:=fun d fr hd j=>Ods (X:=X) (d:=d) (fr:=fr) (a:=a) (b:=b) (v:=v) (lm:=lm) (wb:=wb) (wp:=wp) hp hB hl F hc hS hT V W hd S hv O j
 by_cases R:wb=true/\wp=true/\h=1
 ·obtain ⟨rfl,rfl,rfl⟩:=R
  have w:=fun Q=>N7s (X:=X) (cap:=cap) (a:=a) (b:=b) (Q:=Q) hp hB hl F hc hd S (by omega)
  have I:=partialInsertionSort_holds hS d a b (by omega) (by omega) j
  generalize partialInsertionSort (ltC c) d a b=r at w I
  obtain ⟨K,U⟩:=r
  obtain ⟨C,P⟩:=I
  simp only at w C P
  have z:fr 14=Vi 1:=o
  have D:K.size=n:=by rw [C.1];exact hd
  cases U with
  | true=>
    rw [NU Nyo];simp only [p5,hdc,tlc,unb,q1,q2,TC]
    simp only [Xk,Xh,k,l,s,t,u,e,f,g,i,z,w,SB,seval,NC,NJ,NG,NQ,reduceCtorEq,NB,place,NA,ND]
    exact ⟨K,[],D,C,P rfl,rfl,by simp⟩
  | false=>
    have N:=j.perm (by omega) C
    have:=M K
    rw [NU Nyo];simp only [p5,hdc,tlc,unb,q1,q2,TC]
    simp only [Xk,Xh,k,l,s,t,u,e,f,g,i,z,w,SB,seval,NC,NJ,NG,NQ,reduceCtorEq,NB,place,NA,ND]
    refine PV.mono (M K _ D N (by exact k) (by exact l) (by exact s) (by exact t) (by exact u) (by exact e) (by exact f) (by exact g) (by exact i)) fun v' H' Z=>?_
    exact Za.perm (Y:=[]) (by rw [Nb];exact Z) C
 ·have A:=M d
  rw [NU Nyo];simp only [p5,hdc,tlc,unb,q1,q2,TC]
  cases wb with
  | false=>
    simp only [Xk,Xh,k,l,s,t,u,e,f,g,i,o,SB,seval,NC,NJ,NG,NQ,reduceCtorEq,NB,place,NA,ND]
    exact A _ hd j (by exact k) (by exact l) (by exact s) (by exact t) (by exact u) (by exact e) (by exact f) (by exact g) (by exact i)
  | true=>
    cases wp with
    | false=>
      simp only [Xk,Xh,k,l,s,t,u,e,f,g,i,o,SB,seval,NC,NJ,NG,NQ,reduceCtorEq,NB,place,NA,ND]
      exact A _ hd j (by exact k) (by exact l) (by exact s) (by exact t) (by exact u) (by exact e) (by exact f) (by exact g) (by exact i)
    | true=>
      have T:¬(h:Int)=1:=fun q=>R ⟨rfl,rfl,by omega⟩
      simp only [Xk,Xh,k,l,s,t,u,e,f,g,i,o,T,SB,seval,NC,NJ,NG,NQ,reduceCtorEq,NB,place,NA,ND]
      exact A _ hd j (by exact k) (by exact l) (by exact s) (by exact t) (by exact u) (by exact e) (by exact f) (by exact g) (by exact i)
theorem Odt {G X:NE} {B lim cap n:Nat} {p:Option Addr} {c:α->α->Int} {cl:FuncId} {cs:List Value} (hp:p=Sa B) (hB:B<G.length) (hl:lim<=B) (i:n<2 ^ 61) (hc:∀(mp:Bool) (lim:Nat) (x y:α) (H:NE) (Q:Value->NE->Prop),NK E mp lim cl (.agg (enc x).toArray::.agg (enc y).toArray::cs) H Q=Q (Vi (c x y)) H) (hS:SWO (ltC c)) {d:Array α} {a b lm m:Nat} {wb wp:Bool} {fr:Nat->Value} {L:List AItem} (hT:∀(a b lm:Nat) (wb wp:Bool) (d:Array α) (X:NE) (fr:Nat->Value),b-a<m->a<=b->b<=n->d.size=n->Below (ltC c) a b d->lm<2 ^ 60->fr 0=.slice p n cap->fr 1=Vi a->fr 2=Vi b->fr 3=Vi lm->fr 4=.func (.func cl) #[] cs.toArray->fr 10=.bool wb->fr 11=.bool wp->PV E (aPDQ iz) lim L fr (DH enc G B d++X) (Za enc G B n c a b d X)) (P:∀(a b lm:Nat) (d:Array α) (X:NE),b-a<m->a<=b->b<=n->d.size=n->Below (ltC c) a b d->lm<2 ^ 60->∃r Y,r.size=n/\PermIn a b d r/\SortedIn (ltC c) a b r/\∀Q,NK E false lim iz.PDQ [.slice p n cap,Vi a,Vi b,Vi lm,.func (.func cl) #[] cs.toArray] (DH enc G B d++X) Q=Q (.tuple #[]) (DH enc G B r++(X++Y))) (R:b-a<=m) (hd:d.size=n) (C:b<=n) (F:a+12<b) (o:lm<2 ^ 60) (l:Below (ltC c) a b d) (t:fr 0=.slice p n cap) (u:fr 1=Vi a) (w:fr 2=Vi b) (z:fr 3=Vi lm) (A:fr 4=.func (.func cl) #[] cs.toArray) (e:fr 10=.bool wb) (f:fr 11=.bool wp) (g:fr 12=Vi ((b-a:Nat):Int)) :
  PV E (aPDQ iz) lim (.code (q1 iz)::.inBlock 1::L) fr (DH enc G B d++X) (Za enc G B n c a b d X):=by
 obtain ⟨v,h,s,V,W,U,j⟩:=N8v (X:=X) (cap:=cap) (lim:=lim) hp hB hl i hc hd C F
 by_cases S:h=2
 ·subst S
  have hr:=fun Q=>N7k (X:=X++[Vc [Vi s]]) (cap:=cap) (a:=a) (b:=b) (Q:=Q) hp hB hl i hc hd C (by omega)
  have q:=reverseRange_holds d a b (by omega) (by omega)
  generalize reverseRange d a b=O at hr q
  have I:O.size=n:=by rw [q.1];exact hd
  have D:=l.perm (by omega) q
  have h2:=fun fr=>Oaq (X:=X++[Vc [Vi s]]) (d:=O) (fr:=fr) (a:=a) (b:=b) (v:=b-1-(v-a)) (h:=1) (lm:=lm) (wb:=wb) (wp:=wp) hp hB hl i hc hS hT P R I C (by omega) o (by omega) D
  have K:IntKind.i64.wrap ((b:Int)-1)=((b-1:Nat):Int):=QF (by omega) (by omega)
  have M:IntKind.i64.wrap ((v:Int)-(a:Int))=((v-a:Nat):Int):=QF (by omega) (by omega)
  have N:IntKind.i64.wrap (((b-1:Nat):Int)-((v-a:Nat):Int))=((b-1-(v-a):Nat):Int):=QF (by omega) (by omega)
  have k:∀Q,NK E false lim iz.CHO [.slice p n cap,Vi a,Vi b,.func (.func cl) #[] cs.toArray] (DH enc G B d++X) Q=Q (.tuple #[Vi v,Vi 2]) (DH enc G B d++(X++[Vc [Vi s]])):=j
  rw [NU N59];simp only [p6,p7,hdc,tlc,unb,q1,TC]
  simp only [Xk,Xh,t,u,w,z,A,e,f,g,k,hr,K,M,N,SB,seval,NC,NJ,NG,NQ,reduceCtorEq,NB,place,NA,ND]
  refine PV.mono (h2 _ (by exact t) (by exact u) (by exact w) (by exact z) (by exact A) (by exact e) (by exact f) (by exact g) (by rfl) (by simp only [upd_same,upd_ne,ne_eq,Nat.reduceEqDiff,not_false_eq_true];rfl)) fun v' H' J=>?_
  exact Za.perm J q
 ·have T:¬(h:Int)=2:=by omega
  have h2:=fun fr=>Oaq (X:=X++[Vc [Vi s]]) (d:=d) (fr:=fr) (a:=a) (b:=b) (v:=v) (h:=h) (lm:=lm) (wb:=wb) (wp:=wp) hp hB hl i hc hS hT P R hd C (by omega) o (by omega) l
  rw [NU N59];simp only [p6,p7,hdc,tlc,unb,q1,TC]
  simp only [Xk,Xh,t,u,w,z,A,e,f,g,j,T,SB,seval,NC,NJ,NG,NQ,reduceCtorEq,NB,place,NA,ND]
  refine PV.mono (h2 _ (by exact t) (by exact u) (by exact w) (by exact z) (by exact A) (by exact e) (by exact f) (by exact g) (by rfl) (by rfl)) fun v' H' J=>?_
  exact Za.perm J (permIn_refl _ _ _)
theorem Nys {G X:NE} {B lim cap n:Nat} {p:Option Addr} {c:α->α->Int} {cl:FuncId} {cs:List Value} (hp:p=Sa B) (hB:B<G.length) (hl:lim<=B) (q:n<2 ^ 61) (hc:∀(mp:Bool) (lim:Nat) (x y:α) (H:NE) (Q:Value->NE->Prop),NK E mp lim cl (.agg (enc x).toArray::.agg (enc y).toArray::cs) H Q=Q (Vi (c x y)) H) (hS:SWO (ltC c)) (M:n<65536):∀(m a b lm:Nat) (wb wp:Bool) (d:Array α) (X:NE) (fr:Nat->Value),b-a<m->a<=b->b<=n->d.size=n->Below (ltC c) a b d->lm<2 ^ 60->fr 0=.slice p n cap->fr 1=Vi a->fr 2=Vi b->fr 3=Vi lm->fr 4=.func (.func cl) #[] cs.toArray->fr 10=.bool wb->fr 11=.bool wp->
  PV E (aPDQ iz) lim (.inLoop (TC iz)::.inBlock 0::[]) fr (DH enc G B d++X) (Za enc G B n c a b d X):=by
 intro m
 induction m with
 | zero=>intro a b lm wb wp d X fr h;omega
 | succ m ih=>
   intro a b lm wb wp d X fr V i I hd o t w A C F D e f
   have U:∀(a b lm:Nat) (d:Array α) (X:NE),b-a<m->a<=b->b<=n->d.size=n->Below (ltC c) a b d->lm<2 ^ 60->∃u Y,u.size=n/\PermIn a b d u/\SortedIn (ltC c) a b u/\∀Q,NK E false lim iz.PDQ [.slice p n cap,Vi a,Vi b,Vi lm,.func (.func cl) #[] cs.toArray] (DH enc G B d++X) Q=Q (.tuple #[]) (DH enc G B u++(X++Y)):=by
    intro a b lm d X k1 k2 k3 k4 k5 k6
    have key:NK E false lim iz.PDQ [.slice p n cap,Vi a,Vi b,Vi lm,.func (.func cl) #[] cs.toArray] (DH enc G B d++X) (Za enc G B n c a b d X):=by
     rw [SF (E:=E) (g:=iz.PDQ) (af:=(aPDQ iz)) ((SortAt.PDQ (E:=E) (z:=iz)).2.2 _ _) (SortAt.PDQ (E:=E) (z:=iz)).1 (SortAt.PDQ (E:=E) (z:=iz)).2.1 rfl]
     rw [N9t,N2e]
     simp only [Xk,Xh,SB,seval,NC,NJ,NG,NQ,reduceCtorEq,NB,place,NA,ND]
     rw [X0,<-Uu]
     exact ih a b lm true true d X _ k1 k2 k3 k4 k5 k6 (by rfl) (by rfl) (by rfl) (by rfl) (by rfl) (by rfl) (by rfl)
    obtain ⟨k,v,H',Z,u,Y,h1,h2,T,rfl,rfl⟩:=oneG (SortAt.dt (E:=E) (z:=iz)) key
    exact ⟨u,Y,h1,h2,T,fun Q=>NK.det Z⟩
   have h1:=fun d X fr lm hd o i t=>Odt (X:=X) (d:=d) (fr:=fr) (a:=a) (b:=b) (lm:=lm) (wb:=wb) (wp:=wp) (m:=m) (L:=.inLoop (TC iz)::.inBlock 0::[]) hp hB hl q hc hS ih U (by omega) hd I i t o
   rw [Uu]
   generalize (AItem.inLoop (TC iz)::[AItem.inBlock 0])=L at h1
   rw [NU Nsx];simp only [p1,p2,p3,p4,hdc,tlc,unb,TC]
   have r:IntKind.i64.wrap ((b:Int)-(a:Int))=((b-a:Nat):Int):=QF (by omega) (by omega)
   by_cases c1:b-a<=12
   ·have j:((b-a:Nat):Int)<=12:=by omega
    have hi:=fun Q=>N8g (X:=X) (cap:=cap) (a:=a) (b:=b) (Q:=Q) hp hB hl q hc hd I i
    obtain ⟨P,S⟩:=insertionSort_holds hS d a b i (by omega)
    simp only [Xk,Xh,w,A,C,F,D,e,f,r,j,hi,SB,seval,NC,NJ,NG,NQ,reduceCtorEq,NB,place,NA,ND]
    exact ⟨_,[],by rw [P.1];exact hd,P,S,rfl,by simp⟩
   have j:¬((b-a:Nat):Int)<=12:=by omega
   by_cases c2:lm=0
   ·have l:(lm:Int)=0:=by omega
    have hi:=fun Q=>N4x (X:=X) (cap:=cap) (a:=a) (b:=b) (Q:=Q) hp hB hl q hc hd I i
    obtain ⟨P,S⟩:=heapSort_holds hS d a b i (by omega)
    simp only [Xk,Xh,w,A,C,F,D,e,f,r,j,l,hi,SB,seval,NC,NJ,NG,NQ,reduceCtorEq,NB,place,NA,ND]
    exact ⟨_,[],by rw [P.1];exact hd,P,S,rfl,by simp⟩
   have l:¬(lm:Int)=0:=by omega
   cases wb with
   | true=>
     simp only [Xk,Xh,w,A,C,F,D,e,f,r,j,l,SB,seval,NC,NJ,NG,NQ,reduceCtorEq,NB,place,NA,ND]
     exact h1 d X _ lm hd o (by omega) t (by exact w) (by exact A) (by exact C) (by exact F) (by exact D) (by exact e) (by exact f) (by rfl)
   | false=>
     obtain ⟨R,s,K,O,J⟩:=N9q (X:=X) (cap:=cap) (lim:=lim) hp hB hl q hc hd I (show a+12<b by omega) M
     have N:IntKind.i64.wrap ((lm:Int)-1)=((lm-1:Nat):Int):=QF (by omega) (by omega)
     simp only [Xk,Xh,w,A,C,F,D,e,f,r,j,l,J,N,SB,seval,NC,NJ,NG,NQ,reduceCtorEq,NB,place,NA,ND]
     refine PV.mono (h1 R (X++[Vc [.int .u64 s]]) _ (lm-1) K (o.perm (by omega) O) (by omega) (by omega) (by exact w) (by exact A) (by exact C) (by rfl) (by exact D) (by exact e) (by exact f) (by rfl)) fun v' H' W=>?_
     exact Za.perm W O
variable {E:Env} {iz:Ids} [DT E E] [SortAt E iz] {α:Type} [Inhabited α] {enc:α->List Value} [EncOk enc iz]
theorem Nsd {mp:Bool} {lim:Nat} {H:NE} {Q:Value->NE->Prop}:NK E mp lim iz.LEN [.int .u64 0] H Q=Q (Vi 0) H:=by
 have key:∀(mp:Bool) (lim:Nat) (H:NE) (Q:Value->NE->Prop),NK E mp lim iz.LEN64 [.int .u64 0] H Q=Q (Vi 0) H:=by
  intro mp lim H Q
  refine pcG (SortAt.LEN64 (E:=E) (z:=iz)) rfl ?_
  rw [Nrb,Nf1]
  have a:IntKind.u8.wrap 0=0:=by decide
  have b:IntKind.i64.wrap 0=0:=by decide
  simp only [Npr,Nou,a,b,Rk,O7,Nu,UInt8.toNat_zero,UInt8.toNat_ofNat,Nat.reduceMod,Nat.reducePow,Qq,Rh,SB,seval,NC,NJ,NG,NQ,reduceCtorEq,NB,place,NA,ND]
 refine pcG (SortAt.LEN (E:=E) (z:=iz)) rfl ?_
 rw [Obs,N5g]
 simp only [Oa6,Oag,key,SB,seval,NC,NJ,NG,NQ,reduceCtorEq,NB,place,NA,ND]
theorem Nlh {G X:NE} {B lim cap n:Nat} {p:Option Addr} {c:α->α->Int} {cl:FuncId} {cs:List Value} (hp:p=Sa B) (hB:B<G.length) (hl:lim<=B) (f:n<2 ^ 61) (hc:∀(mp:Bool) (lim:Nat) (x y:α) (H:NE) (Q:Value->NE->Prop),NK E mp lim cl (.agg (enc x).toArray::.agg (enc y).toArray::cs) H Q=Q (Vi (c x y)) H) (hS:SWO (ltC c)) (h:n<65536) {d:Array α} {lm:Nat} (hd:d.size=n) (e:lm<2 ^ 60) :
  ∃a Y,a.size=n/\PermIn 0 n d a/\SortedIn (ltC c) 0 n a/\∀Q,NK E false lim iz.PDQ [.slice p n cap,Vi 0,Vi n,Vi lm,.func (.func cl) #[] cs.toArray] (DH enc G B d++X) Q=Q (.tuple #[]) (DH enc G B a++(X++Y)):=by
 have b:Below (ltC c) 0 n d:=by simp [Below]
 have key:NK E false lim iz.PDQ [.slice p n cap,Vi 0,Vi n,Vi lm,.func (.func cl) #[] cs.toArray] (DH enc G B d++X) (Za enc G B n c 0 n d X):=by
  rw [SF (E:=E) (g:=iz.PDQ) (af:=(aPDQ iz)) ((SortAt.PDQ (E:=E) (z:=iz)).2.2 _ _) (SortAt.PDQ (E:=E) (z:=iz)).1 (SortAt.PDQ (E:=E) (z:=iz)).2.1 rfl]
  rw [N9t,N2e]
  simp only [Xk,Xh,SB,seval,NC,NJ,NG,NQ,reduceCtorEq,NB,place,NA,ND]
  rw [X0,<-Uu]
  exact Nys (X:=X) (cap:=cap) hp hB hl f hc hS h (n+1) 0 n lm true true d X _ (by omega) (by omega) (by omega) hd b e rfl (by simp only [Qq,FB,Nat.reduceEqDiff]) rfl rfl rfl rfl rfl
 obtain ⟨k,v,H',j,a,Y,h1,h2,i,rfl,rfl⟩:=oneG (SortAt.dt (E:=E) (z:=iz)) key
 exact ⟨a,Y,h1,h2,i,fun Q=>NK.det j⟩
theorem sort_ok {G X:NE} {B lim cap n:Nat} {p:Option Addr} {c:α->α->Int} {cl:FuncId} {cs:List Value} (hp:p=Sa B) (hB:B<G.length) (hl:lim<=B) (e:n<2 ^ 61) (hc:∀(mp:Bool) (lim:Nat) (x y:α) (H:NE) (Q:Value->NE->Prop),NK E mp lim cl (.agg (enc x).toArray::.agg (enc y).toArray::cs) H Q=Q (Vi (c x y)) H) (hS:SWO (ltC c)) (b:n<65536) {d:Array α} (hd:d.size=n) :
  ∃a Y,a.size=n/\PermIn 0 n d a/\SortedIn (ltC c) 0 n a/\∀Q,NK E false lim iz.SORT [.slice p n cap,.func (.func cl) #[] cs.toArray] (DH enc G B d++X) Q=Q (.tuple #[]) (DH enc G B a++(X++Y)):=by
 have key:NK E false lim iz.SORT [.slice p n cap,.func (.func cl) #[] cs.toArray] (DH enc G B d++X) (Za enc G B n c 0 n d X):=by
  rw [SF (E:=E) (g:=iz.SORT) (af:=(aSORT iz)) ((SortAt.SORT (E:=E) (z:=iz)).2.2 _ _) (SortAt.SORT (E:=E) (z:=iz)).1 (SortAt.SORT (E:=E) (z:=iz)).2.1 rfl]
  rw [N7a,Nsw]
  have o:IntKind.u64.wrap (n:Int)=(n:Int):=by rw [wrap64];omega
  by_cases h0:n=0
  ·subst h0
   obtain ⟨a,Y,k1,k2,k3,f⟩:=Nlh (X:=X) (lm:=0) (cap:=cap) hp hB hl e hc hS b hd (by omega)
   have h:∀Q,NK E false lim iz.PDQ [.slice p 0 cap,Vi 0,Vi 0,Vi 0,.func (.func cl) #[] cs.toArray] (DH enc G B d++X) Q=Q (.tuple #[]) (DH enc G B a++(X++Y)):=f
   have m:IntKind.u64.wrap 0=0:=by decide
   simp only [Nzr,Nyj,m,Nsd,h,SB,seval,NC,NJ,NG,NQ,reduceCtorEq,NB,place,NA,ND]
   exact ⟨_,_,k1,k2,k3,rfl,rfl⟩
  ·obtain ⟨L,q,r,s,l⟩:=Nz6 (E:=E) (iz:=iz) (x:=n) b (by omega)
   obtain ⟨a,Y,k1,k2,k3,f⟩:=Nlh (X:=X) (lm:=L) (cap:=cap) hp hB hl e hc hS b hd (by omega)
   simp only [Nzr,Nyj,o,l,f,SB,seval,NC,NJ,NG,NQ,reduceCtorEq,NB,place,NA,ND]
   exact ⟨_,_,k1,k2,k3,rfl,rfl⟩
 obtain ⟨k,v,H',j,a,Y,h1,h2,i,rfl,rfl⟩:=oneG (SortAt.dt (E:=E) (z:=iz)) key
 exact ⟨a,Y,h1,h2,i,fun Q=>NK.det j⟩
theorem sort_nil {lim cap:Nat} {p:Option Addr} {cl:FuncId} {cs:List Value} {H:NE} {Q:Value->NE->Prop}:NK E false lim iz.SORT [.slice p 0 cap,.func (.func cl) #[] cs.toArray] H Q=Q (.tuple #[]) H:=by
 have hi:∀Q,NK E false lim iz.INS [.slice p 0 cap,Vi 0,Vi 0,.func (.func cl) #[] cs.toArray] H Q=Q (.tuple #[]) H:=by
  intro Q
  refine runs (SortAt.INS (E:=E) (z:=iz)) ?_
  rw [Obt,N5h]
  have a:IntKind.i64.wrap 1=1:=by decide
  simp only [Nl7,Nld,a,Rp,Int.reduceLT,decide_false,SB,seval,NC,NJ,NG,NQ,reduceCtorEq,NB,place,NA,ND]
  rw [X0,NU (Np6.eq_1 iz)]
  simp only [Nl7,Nld,SB,seval,NC,NJ,NG,NQ,reduceCtorEq,NB,place,NA,ND]
 have b:∀Q,NK E false lim iz.PDQ [.slice p 0 cap,Vi 0,Vi 0,Vi 0,.func (.func cl) #[] cs.toArray] H Q=Q (.tuple #[]) H:=by
  intro Q
  refine runs (SortAt.PDQ (E:=E) (z:=iz)) ?_
  rw [N9t,N2e]
  simp only [Xk,Xh,SB,seval,NC,NJ,NG,NQ,reduceCtorEq,NB,place,NA,ND]
  rw [X0,NU Nsx]
  simp only [p1,p2,hdc,tlc,unb,TC]
  have a:IntKind.i64.wrap 0=0:=by decide
  simp only [Xk,Xh,a,hi,Int.sub_self,SB,seval,NC,NJ,NG,NQ,reduceCtorEq,NB,place,NA,ND]
 refine runs (SortAt.SORT (E:=E) (z:=iz)) ?_
 rw [N7a,Nsw]
 have c:IntKind.u64.wrap 0=0:=by decide
 simp only [Nzr,Nyj,c,Nsd,b,SB,seval,NC,NJ,NG,NQ,reduceCtorEq,NB,place,NA,ND]
end Go.AM.Srt


namespace Go.Proofs.YtkppjkkkdpcgiaaGreat.Fn
open Go.AM Go.AM.Sym Go.Scan Go.Sort
theorem kn [OB] [OB] {g:FuncId} {af:AFunc} {p:Bool} (h1:tr g=some af) (h2:pf g=p) (a:g≠18/\g≠36/\g≠27):Srt.Knows E g af p:=⟨h1,h2,fun as H=>by simp [E,OB.effN,orc,a]⟩
instance sortZE [OB]:Srt.SortAt E zE:=⟨rfl,kn rfl rfl (by decide),kn rfl rfl (by decide),kn rfl rfl (by decide),kn rfl rfl (by decide),kn rfl rfl (by decide),kn rfl rfl (by decide),kn rfl rfl (by decide),kn rfl rfl (by decide),kn rfl rfl (by decide),kn rfl rfl (by decide),kn rfl rfl (by decide),kn rfl rfl (by decide),kn rfl rfl (by decide),kn rfl rfl (by decide),kn rfl rfl (by decide),kn rfl rfl (by decide),kn rfl rfl (by decide),kn rfl rfl (by decide)⟩
instance sortZM [OB]:Srt.SortAt E zM:=⟨rfl,kn rfl rfl (by decide),kn rfl rfl (by decide),kn rfl rfl (by decide),kn rfl rfl (by decide),kn rfl rfl (by decide),kn rfl rfl (by decide),kn rfl rfl (by decide),kn rfl rfl (by decide),kn rfl rfl (by decide),kn rfl rfl (by decide),kn rfl rfl (by decide),kn rfl rfl (by decide),kn rfl rfl (by decide),kn rfl rfl (by decide),kn rfl rfl (by decide),kn rfl rfl (by decide),kn rfl rfl (by decide),kn rfl rfl (by decide)⟩
instance sortZL [OB]:Srt.SortAt E zL:=⟨rfl,kn rfl rfl (by decide),kn rfl rfl (by decide),kn rfl rfl (by decide),kn rfl rfl (by decide),kn rfl rfl (by decide),kn rfl rfl (by decide),kn rfl rfl (by decide),kn rfl rfl (by decide),kn rfl rfl (by decide),kn rfl rfl (by decide),kn rfl rfl (by decide),kn rfl rfl (by decide),kn rfl rfl (by decide),kn rfl rfl (by decide),kn rfl rfl (by decide),kn rfl rfl (by decide),kn rfl rfl (by decide),kn rfl rfl (by decide)⟩
instance encZE:Srt.EncOk encE zE:=⟨fun _=>rfl⟩
instance encZM:Srt.EncOk Ru zM:=⟨fun _=>rfl⟩
theorem Nrv {α:Type} {k:α->List Int} {n:Nat} (hn:∀x,(k x).length=n):SWO (fun x y:α=>decide (Tn (k x) (k y)<0)):=by
 have a:∀x y:α,(k x).length=(k y).length:=fun x y=>by rw [hn,hn]
 refine ⟨fun x=>?_,fun x y z h1 h2=>?_,fun x y z h1 h2=>?_⟩
 ·rw [Nhu];rfl
 ·simp only [N3] at *
  have b:=XK (k x) (k y) (k z) (a x y) (a y z) (by omega) (by omega)
  rcases Nmj (k x) (k z) with v | v | v
  ·omega
  ·have e:=Njs _ _ (a x z) v
   rw [<-e,Vt (k x) (k y)] at h2;omega
  ·omega
 ·simp only [decide_eq_false_iff_not] at *
  have c:=Vt (k x) (k y)
  have d:=Vt (k y) (k z)
  have f:=Vt (k x) (k z)
  have b:=XK (k z) (k y) (k x) (a z y) (a y x) (by omega) (by omega)
  omega
theorem Nbh {α:Type} [Inhabited α] {n:Nat} {d b:Array α} (hd:d.size=n) (h:PermIn 0 n d b):b.toList.Perm d.toList:=by
 obtain ⟨h1,h2,a⟩:=h
 subst hd
 rw [Array.extract_size] at a
 rw [<-h1,Array.extract_size] at a
 exact a
theorem Nb8 {α:Type} [Inhabited α] {k:α->List Int} {n:Nat} {d:Array α} (hd:d.size=n) (h:SortedIn (fun x y:α=>decide (Tn (k x) (k y)<0)) 0 n d):TW k d.toList:=by
 unfold TW
 rw [Pd]
 intro i j hi hj a
 have h1:=h i j (Nw _) a (by simpa [hd] using hj)
 have e1:d[i]! = d.toList[i]:=by rw [getElem!_pos d i (by simpa using hi)];simp
 have e2:d[j]! = d.toList[j]:=by rw [getElem!_pos d j (by simpa using hj)];simp
 rw [e1,e2] at h1
 simp only [decide_eq_false_iff_not] at h1
 rw [Vt (k d.toList[j]) (k d.toList[i])];omega
theorem Ndt {α:Type} {enc:α->List Value} {G:NE} {B:Nat} {l:List α} (hB:NI G B=Vc (l.flatMap enc)):DH enc G B l.toArray=G:=by
 have hl:=NM hB
 unfold DH
 apply Pn
 ·simp
 intro i h1 h2
 rw [List.getElem_set]
 split
 ·rename_i e;subst e
  unfold NI at hB
  rw [Na,Nf hl] at hB
  exact hB.symm
 ·rfl
theorem Nyd [OB] {lim R cap:Nat} {l:List Mk} {H:NE} (g:NI H R=Vc (l.flatMap Ru)) (hl:lim<=R) (hn:l.length<65536) :
  ∃H1,(∀Q:Value->NE->Prop,NK Ef false lim 142 [.slice (Sa R) l.length cap,.func (.func 124) #[] #[]] (H++[]) Q=Q (.tuple #[]) (H1++[]))/\NI H1 R=Vc ((UN Tm l).flatMap Ru)/\Chg [R] H H1:=by
 have e:=NM g
 obtain ⟨d,Y,h1,h2,h,f⟩:=Srt.sort_ok (E:=E) (iz:=zM) (enc:=Ru) (X:=[]) (G:=H) (B:=R) (lim:=lim) (cap:=cap) (n:=l.length) (p:=Sa R) (c:=fun a b=>Tn (Tm a) (Tm b)) (cl:=124) (cs:=[]) rfl e hl (by omega) (fun mp lim x y H Q=>N18 (mp:=mp) (lim:=lim) (H:=H) (Q:=Q)) (Nrv Zr) (by omega) (d:=l.toArray) (by simp)
 rw [Ndt g] at f
 have hp:d.toList.Perm l:=Nbh (d:=l.toArray) (n:=l.length) (by simp) h2
 have hs:d.toList=UN Tm l:=Ma Zr Nhz (Nb8 h1 h) hp
 refine ⟨DH Ru H R d++Y,fun Q=>NK.eqF' ?_, ?_, ?_⟩
 ·erw [f];exact ⟨rfl,by simp⟩
 ·rw [Nb3 e,hs]
 ·refine ⟨by simp [DH],fun j hj hA=>?_⟩
  rw [NR (by rw [V8];exact hj)]
  exact QV (by simpa using hA)
theorem Nye [OB] {lim R cap:Nat} {l:List Ev} {H:NE} (g:NI H R=Vc (l.flatMap encE)) (hl:lim<=R) (hn:l.length<65536) :
  ∃H1,(∀Q:Value->NE->Prop,NK Ef false lim 95 [.slice (Sa R) l.length cap,.func (.func 96) #[] #[]] (H++[]) Q=Q (.tuple #[]) (H1++[]))/\NI H1 R=Vc ((UN Uz l).flatMap encE)/\Chg [R] H H1:=by
 have e:=NM g
 obtain ⟨d,Y,h1,h2,h,f⟩:=Srt.sort_ok (E:=E) (iz:=zE) (enc:=encE) (X:=[]) (G:=H) (B:=R) (lim:=lim) (cap:=cap) (n:=l.length) (p:=Sa R) (c:=fun a b=>Tn (Uz a) (Uz b)) (cl:=96) (cs:=[]) rfl e hl (by omega) (fun mp lim x y H Q=>N19 (mp:=mp) (lim:=lim) (H:=H) (Q:=Q)) (Nrv Nbo) (by omega) (d:=l.toArray) (by simp)
 rw [Ndt g] at f
 have hp:d.toList.Perm l:=Nbh (d:=l.toArray) (n:=l.length) (by simp) h2
 have hs:d.toList=UN Uz l:=Ma Nbo Nu8 (Nb8 h1 h) hp
 refine ⟨DH encE H R d++Y,fun Q=>NK.eqF' ?_, ?_, ?_⟩
 ·erw [f];exact ⟨rfl,by simp⟩
 ·rw [Nb3 e,hs]
 ·refine ⟨by simp [DH],fun j hj hA=>?_⟩
  rw [NR (by rw [V8];exact hj)]
  exact QV (by simpa using hA)
theorem Ntk [OB] {lim cap:Nat} {p:Option Addr} {H:NE} {Q:Value->NE->Prop}:NK Ef false lim 142 [.slice p 0 cap,.func (.func 124) #[] #[]] H Q=Q (.tuple #[]) H:=
 NK.eqF (by erw [Srt.sort_nil (E:=E) (iz:=zM) (cs:=[])];exact ⟨rfl,rfl⟩)
theorem Ntj [OB] {lim e R:Nat} {es:Ess} {H:NE} {Q:Value->NE->Prop} (hl:lim<=H.length) (h1:NI H e=Vc [.map (some R)]) (r:NI H R=.map (TD kM vK es)) (hn:es.length<65536)
  (b:∀G p cap,Own H.length G Ru 3 p cap (UN Tm (es.map (·.2)))->Chg [] H G->Q (.slice p es.length cap) (G++[])) :
  NK Ef false lim 122 [.func (.func 143) #[] #[Vp e],.func (.func 124) #[] #[]] H Q:=by
 have a:∀(Q:Value->NE->Prop),(∀G p cap l,l.Perm (es.map (·.2))->Own H.length G Ru 3 p cap l->Chg [] H G->Q (.slice p l.length cap) (G++[]))->
   NK Ef false lim 141 [.func (.func 143) #[] #[Vp e]] H Q:=by
  intro Q b
  refine Nhj (by decide) Oea rfl ?_
  rw [Ofe,c141]
  simp only [n141,Oai,SB,seval,NC,NJ,NG,NQ,reduceCtorEq,NB,place,NA,ND]
  rw [Nb]
  refine Nwo hl h1 r (by omega) fun G p cap l h1 h2 n=>?_
  refine NL ?_
  simp only [n141,Oai,SB,seval,NC,NJ,NG,NQ,reduceCtorEq,NB,place,NA,ND]
  exact b G p cap l h1 h2 n
 refine Nhj (by decide) Oem rfl ?_
 rw [Ofr,N9h]
 simp only [n122,N7o,SB,seval,NC,NJ,NG,NQ,reduceCtorEq,NB,place,NA,ND]
 rw [Nb]
 refine a _ fun G p cap l hp o d=>?_
 have c:l.length=es.length:=by have:=hp.length_eq;simpa using this
 have hs:UN Tm (es.map (·.2))=UN Tm l:=(Nkz Zr Nhz hp).symm
 rw [hs] at b
 rcases o with ⟨h0,rfl,rfl⟩ | ⟨i,rfl,rfl,q,f⟩
 ·subst h0
  have g:=fun X (Q:Value->NE->Prop)=>Ntk (lim:=lim) (cap:=0) (p:=none) (H:=G++X) (Q:=Q)
  have:=b G none 0 (.inl ⟨rfl,rfl,rfl⟩) d
  rw [<-c] at this
  simp only [n122,N7o,g,Ns,SB,seval,NC,NJ,NG,NQ,reduceCtorEq,NB,place,NA,ND]
  exact this
 ·obtain ⟨G1,k,m,h⟩:=Nyd (lim:=lim) (cap:=loose 3) q (by omega) (by omega)
  simp only [n122,N7o,k,SB,seval,NC,NJ,NG,NQ,reduceCtorEq,NB,place,NA,ND]
  rw [c]
  exact b G1 _ _ (.inr ⟨i,rfl,rfl,m,f⟩) ⟨by have:=d.len;have:=h.len;omega,fun j hj _=>by
   rw [h.other j (by have:=d.len;omega) (by simp;omega),d.other j hj (by simp)]⟩
end Go.Proofs.YtkppjkkkdpcgiaaGreat.Fn


namespace Go.Proofs.YtkppjkkkdpcgiaaGreat.Fn
open Go.AM Go.AM.Sym Go.Net Go.Sort
def cmpL (a b:Leg):Int:=if a.id<b.id then -1 else if b.id<a.id then 1 else 0
instance encZL:Srt.EncOk RA zL:=⟨fun _=>rfl⟩
theorem N5e [OB] (mp:Bool) (lim:Nat) (a b:Leg) (H:NE) (Q:Value->NE->Prop):NK E mp lim 66 [.agg (RA a).toArray,.agg (RA b).toArray] H Q=Q (Vi (cmpL a b)) H:=by
 refine pc (by decide) e66 rfl rfl ?_
 rw [b66,c66]
 simp only [n66,r66,OI,QQ,QP,QO,QN,QM,QL,QK,QJ,NH,Nq3,Nnj,cmpL,SB,seval,NC,NJ,NG,NQ,reduceCtorEq,NB,place,NA,ND]
theorem Ndq (a b:Leg):Srt.ltC cmpL a b=decide (a.id<b.id):=by
 unfold Srt.ltC cmpL
 by_cases h1:a.id<b.id
 ·simp [h1]
 ·by_cases h2:b.id<a.id
  ·simp [h1,h2]
  ·simp [h1,h2]
theorem N2a:SWO (Srt.ltC cmpL):=by
 refine ⟨fun x=>?_,fun x y z h1 h2=>?_,fun x y z h1 h2=>?_⟩
 ·rw [Ndq];simp
 ·rw [Ndq] at *;simp only [N3] at *;omega
 ·rw [Ndq] at *;simp only [decide_eq_false_iff_not] at *;omega
theorem Noj {n:Nat} {d:Array Leg} (hd:d.size=n) (h:SortedIn (Srt.ltC cmpL) 0 n d) (e:d.toList.Pairwise (fun a b=>a.id≠b.id)):d.toList.Pairwise (fun a b=>a.id<b.id):=by
 rw [Pd] at *
 intro i j hi hj c
 have h1:=h i j (Nw _) c (by simpa [hd] using hj)
 have h2:=e i j hi hj c
 rw [Ndq] at h1
 have e1:d[i]! = d.toList[i]:=by rw [getElem!_pos d i (by simpa using hi)];simp
 have e2:d[j]! = d.toList[j]:=by rw [getElem!_pos d j (by simpa using hj)];simp
 rw [e1,e2] at h1
 simp only [decide_eq_false_iff_not] at h1
 omega
theorem Ne6 {P:List Int} {L:List Leg} (h:Wp P L):L.Pairwise (fun a b=>a.id≠b.id):=by
 rw [Pd]
 intro i j hi hj c e
 have h2:=(h j hj).2.1
 rw [PS hj] at h2
 apply h2
 rw [List.mem_map]
 exact ⟨L[i],List.mem_take_iff_getElem.2 ⟨i,by omega,rfl⟩,e⟩
theorem Nok [OB] {lim Bx c:Nat} {p:Option Addr} {o:Bool} {L:List Leg} {H:NE} {Q:Value->NE->Prop} (hB:NI H Bx=.cells o [.slice p L.length c]) (hs:Sl H RA 8 p L) (hn:L.length<=200) (g:lim<=H.length) (r:L.Pairwise (fun a b=>a.id≠b.id))
  (t:∀H' q cap (S:List Leg),Chg [] H H'->Sl H' RA 8 q S->S.Perm L->S.Pairwise (fun a b=>a.id<b.id)->(∀a,q=some a->H.length<=a.block)->Q (.slice q L.length cap) H') :
  NK E false lim 64 [.func (.func 103) #[] #[Vp Bx],.func (.func 66) #[] #[]] H Q:=by
 refine RG (by decide) e64 rfl ?_
 rw [b64,c64]
 simp only [n64,r64,SB,seval,NC,NJ,NG,NQ,reduceCtorEq,NB,place,NA,ND]
 rw [Nb]
 refine Nq2 hB hs (by omega) g fun H' q cap l v=>?_
 have hl:=l.len
 refine NL ?_
 rcases v with ⟨h0,rfl,rfl⟩ | ⟨R,rfl,rfl,m,w⟩
 ·subst h0
  have s:∀X Q,NK E false lim 102 [Vz,.func (.func 66) #[] #[]] (H'++X) Q=Q (.tuple #[]) (H'++X):=fun X Q=>Srt.sort_nil (E:=E) (iz:=zL) (cs:=[])
  simp only [n64,r64,s,Ns,SB,seval,NC,NJ,NG,NQ,reduceCtorEq,NB,place,NA,ND]
  exact t _ _ _ [] l.app (show Sl _ RA 8 none [] from rfl) (List.Perm.refl _) List.Pairwise.nil (fun a e=>by cases e)
 ·obtain ⟨d,Y,h1,h2,u,i⟩:=Srt.sort_ok (E:=E) (iz:=zL) (enc:=RA) (X:=[]) (G:=H') (B:=R) (lim:=lim) (cap:=loose 8) (n:=L.length) (p:=Sa R) (c:=cmpL) (cl:=66) (cs:=[]) rfl (NM m) (by omega) (by omega) (fun mp lim x y H Q=>N5e mp lim x y H Q) N2a (by omega) (d:=L.toArray) (by simp)
  rw [Ndt m] at i
  have hp:d.toList.Perm L:=Nbh (d:=L.toArray) (n:=L.length) (by simp) h2
  simp only [Ov] at i
  have k:∀Q,NK E false lim 102 [.slice (Sa R) L.length (loose 8),.func (.func 66) #[] #[]] (H'++[]) Q=Q (.tuple #[]) (DH RA H' R d++Y):=i
  simp only [n64,r64,k,SB,seval,NC,NJ,NG,NQ,reduceCtorEq,NB,place,NA,ND]
  have f:=NM m
  have z:Mut H' (DH RA H' R d) R:=⟨by simp [DH],fun j hj=>QV hj⟩
  refine t _ _ _ d.toList ((l.mut z (.inr (by omega))).app) (Ns2 rfl f OI) hp ?_ (fun a e=>by cases e;show H.length<=R;omega)
  exact Noj h1 u ((hp.pairwise_iff (fun h e=>h e.symm)).2 r)
end Go.Proofs.YtkppjkkkdpcgiaaGreat.Fn


namespace Go.Proofs.YtkppjkkkdpcgiaaGreat.Fn
open Go.AM Go.AM.Sym Go.Net
theorem Nn6 [OB] {lim n c:Nat} {p:Option Addr} {H:NE} {Q:Value->NE->Prop}:NK E false lim 65 [.slice p n c] H Q=Q (.func (.func 103) #[] #[Vp H.length]) (H++[Vc [.slice p n c]]):=by
 rw [SF (E:=E) (by simp [E,OB.effN,orc]) (show E.tr 65=some a65 from e65) rfl rfl,b65,c65]
 rw [<-Nb H]
 simp only [n65,r65,SB,seval,NC,NJ,NG,NQ,reduceCtorEq,NB,place,NA,ND]
def V4 (x:Leg×Int):Int×Int×Int:=(x.1.id,x.2,x.2+x.1.mins)
theorem Ntw {pos:Int->Nat} {late:List Int} {p t:Int} {S:List Leg} {i:Nat} (h:i<S.length):(S.drop i).findSome? (TA pos late p t)=match TA pos late p t (gt S i) with | some r=>some r | none=>(S.drop (i+1)).findSome? (TA pos late p t):=by
 rw [Ox h,List.findSome?_cons,PS h]
 cases TA pos late p t S[i]<;>rfl
theorem Ns3 [OB] {lim R left c16 cs cw:Nat} {q pw U:Option Addr} {P:List Int} {L S:List Leg} {Ts:List (List Int)} {w:List (Int×Int×Int)} {plant there:Int} {H G:NE} {fr:Nat->Value} {K:List AItem} {Z:Value->NE->Prop}
  (N:NetOk 50 P L (OO P)) (hS:∀l∈S,l∈L) (ax:S.length<=200) (hm:NI H R=.map (WN P)) (ad:lim<=H.length) (hE:Chg [] H G) (hq:Sl H RA 8 q S) (ar:Sl H Si 50 U Ts) (au:∀T∈Ts,okT T) (x:left<Ts.length) (ay:Ts.length<2 ^ 40) (aw:0<=there/\there<=NY) (hO:Own H.length G enc3 3 pw cw w) (hw:w.length<2 ^ 31)
  (f10:fr 10=.map (some R)) (aj:fr 16=.slice U Ts.length c16) (ak:fr 18=.slice pw w.length cw) (al:fr 19=Vi plant) (am:fr 20=Vi there) (an:fr 21=Vi left) (ao:fr 77=.slice q S.length cs) (ap:fr 78=Vi S.length) (aq:fr 79=Vi 0)
  (hR:∀fr' G' ah ac,Chg [] H G'->fr' 10=.map (some R)->fr' 16=.slice U Ts.length c16->fr' 17=fr 17->fr' 21=Vi left->
   (∀w':List (Int×Int×Int),∀b d:Int,(match Yh (OO P) S (gt Ts left) plant there with | some (l,a)=>w'=w++[V4 (l,a)]/\b=l.dst/\d=a+l.mins | none=>w'=w/\b=plant/\d=there)->fr' 18=.slice ah w'.length ac/\fr' 19=Vi b/\fr' 20=Vi d/\Own H.length G' enc3 3 ah ac w')->PV E a32 lim K fr' (G'++[]) Z) :
  PV E a32 lim (.code (.loop N0o)::.inBlock 2::K) fr G Z:=by
 refine NS (fun i=>S.length-i) (fun i fr' G'=>i<=S.length/\fr' 10=.map (some R)/\fr' 16=.slice U Ts.length c16/\fr' 17=fr 17/\fr' 18=.slice pw w.length cw/\fr' 19=Vi plant/\fr' 20=Vi there/\fr' 21=Vi left/\fr' 77=.slice q S.length cs/\fr' 78=Vi S.length/\fr' 79=Vi i/\
  Chg [] H G'/\Own H.length G' enc3 3 pw cw w/\Yh (OO P) S (gt Ts left) plant there=(S.drop i).findSome? (TA (OO P) (gt Ts left) plant there)) 0
  ⟨Nw _,f10,aj,rfl,ak,al,am,an,ao,ap,aq,hE,hO,rfl⟩ ?_
 intro i fr' G' ⟨hi,g,j,A,n,o,p,m,t,u,B,F,C,f⟩ hN
 have hl:=F.len
 rw [NU N0o.eq_1]
 refine NL ?_
 by_cases s:i<S.length
 case neg=>
  obtain rfl:i=S.length:=by omega
  rw [Qn,List.findSome?_nil] at f
  simp only [n32,r32,g,j,n,o,p,m,t,u,B,s,SB,seval,NC,NJ,NG,NQ,reduceCtorEq,NB,place,NA,ND]
  refine hR _ _ pw cw F g j (by rw [<-A];exact rfl) m fun w' b d h=>?_
  rw [f] at h
  obtain ⟨rfl,rfl,rfl⟩:=h
  exact ⟨n,o,p,C⟩
 have ag:=F.ext.sl hq
 have J:=fun X=>(ag.app X).loadCells OI s
 have z:=fun c (k:IntKind) (H1:NE)=>ag.idx (c:=c) (k:=k) (H1:=H1) s
 have O:IntKind.i64.wrap ((i:Int)+1)=((i+1:Nat):Int):=OE (by omega)
 have I:lim<=G'.length:=by omega
 have Y:=hS _ (QH s)
 have hf:=N.fine _ Y
 rw [Ntw s] at f
 by_cases v:(gt S i).frm=plant
 case neg=>
  have e:TA (OO P) (gt Ts left) plant there (gt S i)=none:=by unfold TA;rw [Ng v]
  rw [e] at f
  simp only [n32,r32,g,j,n,o,p,m,t,u,B,s,J,z,O,OI,QQ,QP,QO,QN,QM,QL,QK,QJ,NH,I,NF,No v,SB,seval,NC,NJ,NG,NQ,reduceCtorEq,NB,place,NA,ND]
  exact hN (i+1) _ _ ⟨by omega,g,j,by rw [<-A];exact rfl,n,o,p,m,t,u,rfl,F.app,C.app _,f⟩ (by omega)
 unfold NY at aw
 have y:=fun (H:NE) (mp:Bool) (lim:Nat) (Q:Value->NE->Prop)=>Nr5 (mp:=mp) (lim:=lim) (H:=H) (Q:=Q) (l:=gt S i) (r:=there) hf (by omega) (by omega)
 cases hx:Sm (gt S i) there with
 | none=>
   have e:TA (OO P) (gt Ts left) plant there (gt S i)=none:=by unfold TA;rw [Ni v];simp only [hx]
   rw [e] at f
   rw [hx] at y
   simp only [Oq,Ww] at y
   simp only [n32,r32,g,j,n,o,p,m,t,u,B,s,J,z,O,OI,QQ,QP,QO,QN,QM,QL,QK,QJ,NH,I,NF,N5 v,y,SB,seval,NC,NJ,NG,NQ,reduceCtorEq,NB,place,NA,ND]
   exact hN (i+1) _ _ ⟨by omega,g,j,by rw [<-A];exact rfl,n,o,p,m,t,u,rfl,F.app,C.app _,f⟩ (by omega)
 | some a=>
   rw [hx] at y
   simp only [Nu,Ww] at y
   have i2:OO P (gt S i).dst<50:=N.lt _ (N.dst _ Y)
   obtain ⟨j2,aa⟩:=Vk (i:=0) (N.dst _ Y)
   change findKey _ _ _=some (some (j2,Vi (OO P (gt S i).dst:Int))) at aa
   have ae:=F.get hm (PR hm) (by simp)
   have q3:∀X,NI (G'++X) R=.map (WN P):=fun X=>by rw [NR (PR ae)];exact ae
   have hT:=au _ (QH x)
   have V:=F.ext.sl ar
   have D:=fun X=>(V.app X).loadCell PN x i2
   rw [Wi hT.1 i2] at D
   have W:=fun c (k:IntKind) (H1:NE)=>V.idx (c:=c) (k:=k) (H1:=H1) x
   have z2:(0:Int)<=(OO P (gt S i).dst:Int):=by omega
   have z4:(OO P (gt S i).dst:Int)<50:=by omega
   by_cases M:a+(gt S i).mins<=(gt Ts left).getD (OO P (gt S i).dst) (-1)
   case neg=>
    have e:TA (OO P) (gt Ts left) plant there (gt S i)=none:=by unfold TA;rw [Ni v];simp only [hx];rw [Ng M]
    rw [e] at f
    simp only [n32,r32,g,j,n,o,p,m,t,u,B,s,J,z,O,OI,QQ,QP,QO,QN,QM,QL,QK,QJ,NH,I,NF,N5 v,y,q3,aa,D,W,z2,z4,No M,Pe,SB,seval,NC,NJ,NG,NQ,reduceCtorEq,NB,place,NA,ND]
    exact hN (i+1) _ _ ⟨by omega,g,j,by rw [<-A];exact rfl,n,o,p,m,t,u,rfl,F.app,C.app _,f⟩ (by omega)
   have e:TA (OO P) (gt Ts left) plant there (gt S i)=some (gt S i,a):=by unfold TA;rw [Ni v];simp only [hx];rw [Ni M]
   rw [e] at f
   obtain ⟨G3,e3,O3,C3,av,l3,ab⟩:=C.step (lim':=lim) (bytes:=24) ad OQ (by decide) (V4 (gt S i,a)) (by unfold QG;omega) (by omega) (by omega) [Vc (RA (gt S i)),Vc [Vi a,Vi (a+(gt S i).mins)],Vc (enc3 (V4 (gt S i,a)))] (G'.length+2) 1 OC
   have ai:enc3 (V4 (gt S i,a))=[Vi (gt S i).id,Vi a,Vi (a+(gt S i).mins)]:=rfl
   rw [ai] at e3 ab
   have d0:NI (G3++[]) G'.length=Vc (RA (gt S i)):=ab 0 (by simp)
   have d1:NI (G3++[]) (G'.length+1)=Vc [Vi a,Vi (a+(gt S i).mins)]:=ab 1 (by simp)
   simp only [n32,r32,g,j,n,o,p,m,t,u,B,s,J,z,O,OI,QQ,QP,QO,QN,QM,QL,QK,QJ,NH,I,NF,N5 v,y,q3,aa,D,W,z2,z4,N5 M,Pe,e3,d0,d1,SB,seval,NC,NJ,NG,NQ,reduceCtorEq,NB,place,NA,ND]
   have cH:=C3 [] H (Nd _) F
   rw [Nb] at cH O3
   refine hR _ _ (Sa (G'.length+3)) (loose 3) cH g j (by rw [<-A];exact rfl) m fun w' b d h=>?_
   rw [f] at h
   obtain ⟨rfl,rfl,rfl⟩:=h
   refine ⟨?_,rfl,rfl,O3⟩
   simp only [Nn,Nl,Ns,Oc]
   exact rfl
theorem Nyq {pos:Int->Nat} {S:List Leg} {late:List Int} {p t a:Int} {l:Leg} (h:Yh pos S late p t=some (l,a)):l∈S/\Sm l t=some a:=by
 unfold Yh at h
 obtain ⟨g,x,i,b,f,c⟩:=List.findSome?_eq_some_iff.1 h
 obtain ⟨j,d,e,k⟩:=Y3 f
 simp only at d e
 subst d
 exact ⟨by rw [b];simp,e⟩
theorem N90 [OB] {lim:Nat} {pp pl:Option Addr} {P:List Int} {L:List Leg} {cp cl:Nat} {p q ready:Int} {H:NE} {Q:Value->NE->Prop} (hn:NetIn H pp pl P L) (cy:lim<=H.length)
  (bd:∀H',Vw P L p q ready≠0->Chg [] H H'->Q (.tuple #[Vz,Vi (Vw P L p q ready)]) H')
  (ay:∀H',Vw P L p q ready=0->Ub L p ready q (-1)->Chg [] H H'->Q (.tuple #[Vz,Vi 6]) H')
  (co:∀H' v w pw cw,Vw P L p q ready=0->Chg [] H H'->0<=v->Ub L p ready q v->BestW L p ready q v w->w.length<2 ^ 30->Own H.length H' enc3 3 pw cw (w.map V4)->Q (.tuple #[.slice pw w.length cw,Vi 0]) H') :
  NK E false lim 32 [.agg (Tv pp P.length cp pl L.length cl).toArray,Vi p,Vi q,Vi ready] H Q:=by
 refine RG (by decide) e32 rfl ?_
 rw [b32,c32]
 simp only [n32,r32,PT,Sv,Su,NH,SB,seval,NC,NJ,NG,NQ,reduceCtorEq,NB,place,NA,ND]
 refine Ngc (hn.app _) (by simp;omega) (fun H' he hE=>?_) (fun H' R he hE hm hR=>?_)
 ·refine NL ?_
  simp only [n32,r32,he,No he,SB,seval,NC,NJ,NG,NQ,reduceCtorEq,NB,place,NA,ND]
  exact bd _ he (hE.chg.pre.app)
 obtain ⟨hv,hp,hq,hr,az⟩:=Mv he
 obtain ⟨v1,v2,v3,v4⟩:=Vo hv
 have u:=VR hv
 have cg:=hE.len
 simp only [Nn,Nl,Ns] at cg hR
 have aj:NI H' H.length=Vc (Tv pp P.length cp pl L.length cl):=hE.cells NV
 have ck:=fun X=>(OH.refl.app (X:=X)).cells aj
 have an:OH H H':=by obtain ⟨Y,rfl⟩:=hE;rw [Nq];exact OH.refl.app
 have hi:OO P q<50:=u.lt _ hq
 obtain ⟨j1,bk⟩:=Vk (i:=0) hq
 change findKey _ _ _=some (some (j1,Vi (OO P q:Int))) at bk
 have q3:∀X,NI (H'++X) R=.map (WN P):=fun X=>by rw [NR (PR hm)];exact hm
 refine NL ?_
 simp only [n32,r32,ck,PT,Sv,Su,NH,q3,bk,show lim<=H'.length by omega,SB,seval,NC,NJ,NG,NQ,reduceCtorEq,NB,place,NA,ND]
 refine Nc0 ((hn.ext an).app _) hv (q3 _) hp hr az (by simp;omega) fun H2 q1 cap n hC be cz c2 hO=>?_
 have W:=hC.pre
 have cb:=hC.len
 simp only [Nn,Nl,Ns] at cb
 have au:NI H2 H'.length=Vc [Vi (OO P q:Int)]:=hC.cells NV (by simp)
 have ar:=fun X=>(OH.refl.app (X:=X)).cells au
 have F:=W.cells aj (by simp)
 have ai:=fun X=>(OH.refl.app (X:=X)).cells F
 have e:((List.range (n+1)).map (Sd 50 (OO P) (ready+86400) L p ready)).length=n+1:=by simp
 have av:∀k,k<=n->gt ((List.range (n+1)).map (Sd 50 (OO P) (ready+86400) L p ready)) k=Sd 50 (OO P) (ready+86400) L p ready k:=fun k hk=>by
  rw [PS (by rw [e];omega)];simp
 have hS:=hO.sl PN
 have aw:=fun X=>(hS.app X).loadCell PN (i:=n) (j:=OO P q) (by rw [e];omega) hi
 rw [av n (Nd _),Wi UI hi] at aw
 have D:=fun c (kk:IntKind) (H1:NE)=>hS.idx (c:=c) (k:=kk) (H1:=H1) (i:=n) (by rw [e];omega)
 rw [e] at D
 have bq:IntKind.i64.wrap (((n+1:Nat):Int)-1)=(n:Int):=by rw [NP (by omega) (by omega)];omega
 have hv:=Nga u hp hr (by omega:ready<=ready+86400) be q hq
 change Ub L p ready q _ at hv
 generalize cu:(Sd 50 (OO P) (ready+86400) L p ready n).getD (OO P q) (-1)=v at *
 have z1:(0:Int)<=(OO P q:Int):=by omega
 have z2:(OO P q:Int)<50:=by omega
 have z3:OO P q<=49:=by omega
 refine NL ?_
 by_cases bp:v<0
 ·simp only [n32,r32,ai,ar,D,aw,bq,z1,z2,z3,Pe,PT,Sv,Su,NH,show lim<=H2.length by omega,N5 bp,SB,seval,NC,NJ,NG,NQ,reduceCtorEq,NB,place,NA,ND]
  refine ay _ he ?_ ((an.chg.trans W).app)
  rcases hv with ⟨rfl,h⟩ | ⟨⟨⟨j,hw⟩,_⟩,_⟩
  ·exact .inl ⟨rfl,h⟩
  ·have:=hw.later u.fine;omega
 obtain ⟨k,hk,aa,Z⟩:=Nm5 (f:=fun k=>(Sd 50 (OO P) (ready+86400) L p ready k).getD (OO P q) (-1)) cu
 replace aa:(Sd 50 (OO P) (ready+86400) L p ready k).getD (OO P q) (-1)=v:=aa
 replace Z:∀j,j<k->(Sd 50 (OO P) (ready+86400) L p ready j).getD (OO P q) (-1)≠v:=Z
 have a3:=fun X (mp:Bool) (lim:Nat) (Q:Value->NE->Prop)=>N1a (mp:=mp) (lim:=lim) (Q:=Q) (k:=k) (cap:=cap) (t:=v) (B:=H2.length) (H:=H2++Vc [Vi v]::X) hi (ar _) NV (hS.app _) (fun T hT=>by obtain ⟨j,_,rfl⟩:=List.mem_map.1 hT;exact UI) (by rw [e];omega) (by rw [e];omega) (by rw [av k hk];exact aa) (fun j hj=>by rw [av j (by omega)];exact Z j hj)
 rw [e] at a3
 have bv:=fun (H:NE) (mp:Bool) (lim:Nat) (Q:Value->NE->Prop)=>No7 (mp:=mp) (lim:=lim) (H:=H) (Q:=Q) (i:=OO P q) (t:=v) hi
 have a9:OH H H2:=by obtain ⟨Y,rfl⟩:=W.ext;exact an.app
 have ac:NI H2 R=.map (WN P):=W.get hm (PR hm) (by simp)
 have cx:∀X,NI (H2++X) R=.map (WN P):=fun X=>by rw [NR (PR ac)];exact ac
 have bo:0<=v:=by omega
 have c4:v<=NY:=by
  rcases hv with ⟨rfl,h⟩ | ⟨⟨⟨j,hw⟩,_⟩,_⟩
  ·omega
  ·cases hw with
   | nil=>exact az
   | snoc _ hl _ hd _=>
     obtain ⟨d,c1,aq,rfl⟩:=hd
     unfold goes at aq
     simp only [N0,N3] at aq
     exact aq.2
 simp only [n32,r32,ai,ar,D,aw,bq,z1,z2,z3,Pe,PT,Sv,Su,NH,show lim<=H2.length by omega,No bp,a3,bv,SB,seval,NC,NJ,NG,NQ,reduceCtorEq,NB,place,NA,ND]
 refine Nu5 (R:=R) (n0:=k) ((hn.ext a9).app _) u (cx _) (Njc hi (by omega)) (by omega) (by omega) (by simp;omega) fun H3 p3 ah a4 bx=>?_
 have cd:=a4.len
 simp only [Nn,Nl,Ns] at cd
 have A:=a4.pre
 have ax:=A.cells F (by simp)
 have bn:=fun X=>(OH.refl.app (X:=X)).cells ax
 have ba:OH H H3:=a9.trans A.ext
 have bm:NI H3 R=.map (WN P):=A.get ac (PR ac) (by simp)
 have o:((List.range (k+1)).map (WR P L (Z5 50 (OO P q) v))).length=k+1:=by simp
 have bg:∀j,j<=k->gt ((List.range (k+1)).map (WR P L (Z5 50 (OO P q) v))) j=Naj 50 (OO P) L q v j:=fun j hj=>by
  rw [PS (by rw [o];omega)];simp [Nia]
 have bz:=bx.sl PN
 refine NL ?_
 simp only [n32,r32,bn,PT,Sv,Su,Nn6,SB,seval,NC,NJ,NG,NQ,reduceCtorEq,NB,place,NA,ND]
 refine Nok (L:=L) (c:=cl) (p:=pl) NV ((ba.app).sl hn.sl) v2 (by simp;omega) (Ne6 v4) fun H4 q4 z S a5 b0 I J c3=>?_
 have cf:=a5.len
 simp only [Nn,Nl,Ns] at cf
 have C:=a5.pre
 have bw:OH H H4:=ba.trans C.ext
 have ci:NI H4 R=.map (WN P):=C.get bm (PR bm) (by simp)
 have bb:=C.ext.sl bz
 have x:∀l,l∈S↔l∈L:=fun l=>I.mem_iff
 have b7:S.length=L.length:=I.length_eq
 have bc:∀T∈(List.range (k+1)).map (WR P L (Z5 50 (OO P q) v)),okT T:=fun T hT=>by
  obtain ⟨j,_,rfl⟩:=List.mem_map.1 hT
  exact Nfm u (Njc hi (by omega)) j
 obtain ⟨ap,b8⟩:=N1d u hp hq hr bo x J (late:=Naj 50 (OO P) L q v) (fun _=>rfl) hv aa Z
 generalize c0:(List.range (k+1)).map (WR P L (Z5 50 (OO P q) v))=Ts at *
 refine NL ?_
 have wk:IntKind.i64.wrap ((k:Int)-1)=(k:Int)-1:=NP (by omega) (by omega)
 simp only [n32,r32,wk,SB,seval,NC,NJ,NG,NQ,reduceCtorEq,NB,place,NA,ND]
 refine NS (fun s:(Nat×Int×Int)×List (Int×Int×Int)×Option Addr×Nat=>s.1.1) (fun s fr G=>fr 10=.map (some R)/\fr 16=.slice p3 Ts.length ah/\fr 17=.slice q4 S.length z/\fr 18=.slice s.2.2.1 s.2.1.length s.2.2.2/\fr 19=Vi s.1.2.1/\fr 20=Vi s.1.2.2/\fr 21=Vi ((s.1.1:Int)-1)/\s.1.1<=k/\Chg [] H4 G/\Own H4.length G enc3 3 s.2.2.1 s.2.2.2 s.2.1/\
   0<=s.1.2.2/\s.1.2.2<=NY/\s.2.1++(goW (OO P) S (Naj 50 (OO P) L q v) s.1.1 s.1.2.1 s.1.2.2).map V4=(goW (OO P) S (Naj 50 (OO P) L q v) k p ready).map V4/\s.2.1.length+s.1.1<=k) ((k,p,ready),[],none,0)
  ⟨rfl,by rw [o];exact rfl,by rw [b7];exact rfl,(by simp only [Ns,FB,Nat.reduceEqDiff]),rfl,rfl,by rfl,Nd _,Chg.refl.app,.nil,hr,az,rfl,by simp⟩ ?_
 rintro ⟨⟨m,plant,there⟩,w,pw,cw⟩ fr G ⟨al,am,N,O,U,V,g,ab,a7,ao,a0,a1,b,ad⟩ hN
 simp only at O U V g ab ao a0 a1 b ad
 rw [NU N6z.eq_1]
 refine NL ?_
 match m,ab,b,ad,g,hN with
 | 0,ab,b,ad,g,hN=>
   have this:¬(0:Int)<=-1:=by decide
   replace g:fr 21=Vi (-1):=g
   simp only [goW,List.map_nil,Nb] at b
   subst b
   simp only [n32,r32,al,am,N,O,U,V,g,No this,SB,seval,NC,NJ,NG,NQ,reduceCtorEq,NB,place,NA,ND]
   rw [Nv]
   exact co _ v _ pw cw he ((bw.chg.trans a7).app) bo hv ap (by rw [b8];omega) ((ao.le (by omega)).app _)
 | m+1,ab,b,ad,g,hN=>
   have e1:((m+1:Nat):Int)-1=(m:Int):=by omega
   rw [e1] at g
   have cj:(0:Int)<=(m:Int):=by omega
   have ch:m<Ts.length:=by rw [o];omega
   have wm:IntKind.i64.wrap ((m:Int)-1)=(m:Int)-1:=NP (by omega) (by omega)
   simp only [n32,r32,al,am,N,O,U,V,g,N5 cj,SB,seval,NC,NJ,NG,NQ,reduceCtorEq,NB,place,NA,ND]
   refine Ns3 (c16:=ah) (cs:=z) (H:=H4) (S:=S) (L:=L) (left:=m) (Ts:=Ts) (w:=w) (q:=q4) (plant:=plant) (there:=there) u (fun l hl=>(x l).1 hl) (by omega) ci (by omega) (a7.app) b0 bb bc ch (by rw [o];omega) ⟨a0,a1⟩ (ao.app _) (by omega) al am O U V g (by simp only [N,ne_eq,FB,Nat.reduceEqDiff]) rfl rfl fun fr' G' bu a2 a8 ae ag cv bs ak=>?_
   have y:fr' 17=.slice q4 S.length z:=cv.trans N
   have bf:=bg m (by omega)
   cases hpk:Yh (OO P) S (gt Ts m) plant there with
   | none=>
     obtain ⟨r18,K,M,rO⟩:=ak w plant there (by rw [hpk];exact ⟨rfl,rfl,rfl⟩)
     rw [bf] at hpk
     simp only [goW,hpk] at b
     simp only [n32,r32,ae,ag,y,bs,r18,K,M,wm,SB,seval,NC,NJ,NG,NQ,reduceCtorEq,NB,place,NA,ND]
     exact hN ((m,plant,there),w,bu,a2) _ _ ⟨ae,ag,y,r18,K,M,rfl,by show m<=k;omega,a8.app,rO.app _,a0,a1,b,by show w.length+m<=k;omega⟩ (by show m<m+1;omega)
   | some r=>
     obtain ⟨l,a⟩:=r
     obtain ⟨r18,K,M,rO⟩:=ak (w++[V4 (l,a)]) l.dst (a+l.mins) (by rw [hpk];exact ⟨rfl,rfl,rfl⟩)
     obtain ⟨bh,cn⟩:=Nyq hpk
     obtain ⟨n1,n2,n3⟩:=Nho (u.fine l ((x l).1 bh)) cn
     have b9:=u.fine l ((x l).1 bh)
     unfold Fine at b9
     rw [bf] at hpk
     simp only [goW,hpk,N2] at b
     simp only [n32,r32,ae,ag,y,bs,r18,K,M,wm,SB,seval,NC,NJ,NG,NQ,reduceCtorEq,NB,place,NA,ND]
     exact hN ((m,l.dst,a+l.mins),w++[V4 (l,a)],bu,a2) _ _ ⟨ae,ag,y,r18,K,M,rfl,by show m<=k;omega,a8.app,rO.app _,by show 0<=a+l.mins;omega,n3,by rw [Nq];exact b,by show (w++[V4 (l,a)]).length+m<=k;rw [Nn];simp only [Nl,Ns];omega⟩ (by show m<m+1;omega)
end Go.Proofs.YtkppjkkkdpcgiaaGreat.Fn


namespace Go.Proofs.YtkppjkkkdpcgiaaGreat.Fn
open Go.AM Go.AM.Sym Go.Net Go.Scan
structure An where
 (kind ev other place mins:Int)
 deriving DecidableEq,Inhabited
abbrev Stp:=Int×Int×Int
theorem Nmw {L:List Leg} (h:L.Pairwise (fun a b=>a.id≠b.id)):∀a∈L,∀b∈L,a.id=b.id->a=b:=by
 intro a c b d e
 obtain ⟨i,hi,rfl⟩:=List.mem_iff_getElem.1 c
 obtain ⟨j,hj,rfl⟩:=List.mem_iff_getElem.1 d
 rw [Pd] at h
 rcases Nat.lt_trichotomy i j with h1 | h1 | h1
 ·exact absurd e (h i j hi hj h1)
 ·subst h1;rfl
 ·exact absurd e.symm (h j i hj hi h1)
def Won (P:List Int) (L:List Leg) (p q t:Int) (w:List (Leg×Int)):Prop:=Vw P L p q t=0/\∃v,0<=v/\Ub L p t q v/\BestW L p t q v w
theorem Won.uniq {P:List Int} {L:List Leg} {p q t:Int} {w w':List (Leg×Int)} (h:Won P L p q t w) (h':Won P L p q t w'):w=w':=by
 obtain ⟨he,v,h0,d,f⟩:=h
 obtain ⟨_,v',c,a,b⟩:=h'
 have e:v=v':=SN.uniq d a
 subst e
 exact BestW.uniq (fun _=>Iff.rfl) (Nmw (Ne6 (Vo (Mv he).1).2.2.2)) f b
noncomputable def ZV (P:List Int) (L:List Leg) (p q t:Int):List (Leg×Int):=open Classical in if h:∃w,Won P L p q t w then h.choose else []
theorem Ndv {P:List Int} {L:List Leg} {p q t:Int} {w:List (Leg×Int)} (h:Won P L p q t w):ZV P L p q t=w:=by
 have hex:∃w,Won P L p q t w:=⟨w,h⟩
 unfold ZV
 rw [Rf hex]
 exact hex.choose_spec.uniq h
theorem Nxu {P:List Int} {L:List Leg} {p q t:Int} (h:Vw P L p q t≠0):ZV P L p q t=[]:=by
 unfold ZV
 exact dif_neg fun ⟨_,a,_⟩=>h a
theorem Ns4 {P:List Int} {L:List Leg} {p q t:Int} (hn:Ub L p t q (-1)):ZV P L p q t=[]:=by
 unfold ZV
 refine dif_neg fun ⟨w,_,v,h0,a,_⟩=>?_
 have:=SN.uniq hn a
 omega
def Xl (s:Stp) (x:Leg×Int):An:=⟨5,s.2.1,s.1,x.1.dst,0⟩
noncomputable def TF (P:List Int) (L:List Leg) (es:List Ev) (s:Stp):List An:=
 (ZV P L (gt es s.1.toNat).place (gt es s.2.1.toNat).place (gt es s.1.toNat).time).dropLast.map (Xl s)
noncomputable def Sy (P:List Int) (L:List Leg) (es:List Ev) (s:Stp):List An:=
 let b:=(gt es s.2.1.toNat).place
 if (gt es s.1.toNat).kind=4 then [⟨2,s.2.1,s.1,b,0⟩] else if s.2.2=80 then [⟨3,s.2.1,s.1,b,0⟩] else if 0<s.2.2 then [⟨4,s.2.1,s.1,b,s.2.2⟩]
 else if (gt es s.1.toNat).place≠b then TF P L es s else []
def UB (y x:Ev):Prop:=y.place=x.place/\y.kind=x.kind
instance (y x:Ev):Decidable (UB y x):=by unfold UB;infer_instance
def TB (x:Ev):List Ev->Int
 | []=>NY+1
 | y::l=>if UB y x then y.time else TB x l
def Nqx (x:Ev) (i:Nat) (y:Ev):An:=⟨6,(i:Int),0,x.place,y.time-x.time⟩
def Ncp (x:Ev) (lim:Int) (y:Ev):Prop:=UB y x/\x.time<=y.time/\y.time<lim
instance (x:Ev) (lim:Int) (y:Ev):Decidable (Ncp x lim y):=by unfold Ncp;infer_instance
def PO (es tw:List Ev) (i:Nat):List An:=(tw.filter fun y=>Ncp (gt es i) (TB (gt es i) (es.drop (i+1))) y).map (Nqx (gt es i) i)
def SS (es:List Ev) (ks:List Int) (now:Int):List An:=
 match ks.getLast? with
 | none=>[]
 | some k=>if (gt es k.toNat).kind=4\/now-(gt es k.toNat).time<=20160 then [] else [⟨7,k,0,(gt es k.toNat).place,now-(gt es k.toNat).time⟩]
def VV (n:Nat) (ss:List Stp):List Stp:=ss.foldl (fun l s=>l.set s.2.1.toNat s) (List.replicate n (0,0,0))
def TZ (n:Nat) (ks:List Int):List Bool:=ks.foldl (fun l k=>l.set k.toNat true) (List.replicate n false)
noncomputable def atN (P:List Int) (L:List Leg) (es tw:List Ev) (ks:List Int) (ss:List Stp) (i:Nat):List An:=
 (if gt (TZ es.length ks) i then [] else [⟨1,(i:Int),0,(gt es i).place,0⟩])++((if (gt (VV es.length ss) i).1<(gt (VV es.length ss) i).2.1 then Sy P L es (gt (VV es.length ss) i) else [])++PO es tw i)
noncomputable def SG (P:List Int) (L:List Leg) (es tw:List Ev) (ks:List Int) (ss:List Stp) (now:Int):List An:=(List.range es.length).flatMap (atN P L es tw ks ss)++SS es ks now
def UA (P:List Int) (L:List Leg) (S:List Ev) (item now:Int):Int:=
 if R7 P L≠0 then R7 P L else if ¬Rt S\/item<1\/999999<item\/now<0\/NY<now then 2 else if Uq (OJ S).1 item=[] then 6 else WS P L (Uq (OJ S).1 item)
theorem VH {l:List Ev} {item:Int} (h:item≠0) {x:Ev}:x∈Uq l item↔x∈l/\x.item=item:=by
 unfold Uq
 simp [h]
theorem Zj (l:List Ev) (item:Int):(Uq l item).Sublist l:=List.filter_sublist
theorem Ner (S:List Ev) (item:Int):M6 (Uq (OJ S).1 item):=(Nk2 S).1.sublist (Zj _ _)
theorem Nes {S:List Ev} (hS:Rt S) {item:Int} (hi:1<=item) {x:Ev} (c:x∈Uq (OJ S).1 item):Sz x/\0<=x.time/\x.time<=NY/\x.item=item:=by
 obtain ⟨h1,h2⟩:=(VH (by omega)).1 c
 obtain ⟨s,hs,rfl⟩:=Yw (.inl h1)
 have ht:=Na8 hS.2 (.inl h1)
 have a:=hS.2 s hs
 refine ⟨a,ht.1, ?_,h2⟩
 have b:=a.2.2.2.2.2.2
 unfold VI at b
 unfold NY
 have d:({ s with time:=Xc (RI S) s }:Ev).time<=s.seen:=ht.2
 omega
theorem N30 {S:List Ev} (hS:Rt S) {item:Int} (hi:1<=item):Ngo (Uq (OJ S).1 item):=fun i a=>by
 have b:=Nes hS hi (QH a)
 refine ⟨b.1,b.2.1,b.2.2.1,fun h0=>⟨?_, ?_⟩⟩
 ·rw [b.2.2.2,(Nes hS hi (QH (i:=0) (by omega))).2.2.2]
 ·have:=Pd.1 (Ner S item) (i-1) i (by omega) a (by omega)
  rw [PS a,PS (show i-1<_ by omega)]
  exact this
theorem Nr1 {S:List Ev} {item:Int}:(Uq (OJ S).1 item).length<=S.length:=by
 have:=(Zj (OJ S).1 item).length_le
 have:=MJ S
 omega
theorem Nu1 {P:List Int} {L:List Leg} {S:List Ev} {item now:Int} (h:R7 P L≠0):UA P L S item now=R7 P L:=Ni h
theorem Nhs {P:List Int} {L:List Leg} {S:List Ev} {item now:Int} (h:R7 P L=0) (h2:¬Rt S\/item<1\/999999<item\/now<0\/NY<now):UA P L S item now=2:=by
 unfold UA
 rw [Ng (by simpa using h),Ni h2]
theorem Nhr {P:List Int} {L:List Leg} {S:List Ev} {item now:Int} (h:R7 P L=0) (hS:Rt S) (h1:1<=item) (h2:item<=999999) (b:0<=now) (c:now<=NY) :
  UA P L S item now=if Uq (OJ S).1 item=[] then 6 else if 40<(Uq (OJ S).1 item).length then 5 else 0:=by
 have a:¬(¬Rt S\/item<1\/999999<item\/now<0\/NY<now):=by
  rintro (h | h | h | h | h)
  ·exact h hS
  all_goals omega
 unfold UA
 rw [Ng (by simpa using h),Ng a]
 have e:WS P L (Uq (OJ S).1 item)=if 40<(Uq (OJ S).1 item).length then 5 else 0:=by
  unfold WS
  rw [Ng (by simpa using h),Ni (N30 hS h1)]
 rw [e]
theorem N4j {P:List Int} {L:List Leg} {S:List Ev} {item now:Int} (h:UA P L S item now=0):R7 P L=0/\Rt S/\1<=item/\item<=999999/\0<=now/\now<=NY/\Uq (OJ S).1 item≠[]/\WS P L (Uq (OJ S).1 item)=0:=by
 unfold UA at h
 split at h
 ·rename_i a;exact absurd h a
 rename_i a
 split at h
 ·cases h
 rename_i c
 split at h
 ·cases h
 rename_i ho
 have b:R7 P L=0:=by simpa using a
 refine ⟨b,Ny fun hn=>c (.inl hn), ?_, ?_, ?_, ?_,ho,h⟩
 all_goals (apply Ny;intro hn;apply c)
 ·exact .inr (.inl (by omega))
 ·exact .inr (.inr (.inl (by omega)))
 ·exact .inr (.inr (.inr (.inl (by omega))))
 ·exact .inr (.inr (.inr (.inr (by omega))))
theorem Ndp {α:Type} [Inhabited α] {l:List α} {i j:Nat} {x:α} (hi:i<l.length):gt (l.set i x) j=if i=j then x else gt l j:=by
 unfold gt
 rw [Na,Na,N7]
 split
 ·simp [hi]
 ·rfl
theorem Nbq:∀(ks:List Int) (l:List Bool),(ks.foldl (fun l k=>l.set k.toNat true) l).length=l.length
 | [],_=>rfl
 | k::ks,l=>by rw [Ok,Nbq ks,Py]
theorem Nmq:∀(ks:List Int) (l:List Bool),(∀k∈ks,0<=k/\k<l.length)->∀i,gt (ks.foldl (fun l k=>l.set k.toNat true) l) i=(decide ((i:Int)∈ks)||gt l i)
 | [],_,_,i=>by simp
 | k::ks,l,h,i=>by
   have hk:=h k Nm
   rw [Ok,Nmq ks _ (fun x a=>by rw [Py];exact h x (Nk _ a)),Ndp (by omega)]
   by_cases e:k.toNat=i
   ·have:(i:Int)=k:=by omega
    rw [Ni e];simp [this]
   ·have:(i:Int)≠k:=by omega
    rw [Ng e];simp [this]
theorem XO {α:Type} [Inhabited α] {n i:Nat} {x:α} (h:i<n):gt (List.replicate n x) i=x:=by
 rw [PS (by simpa using h),List.getElem_replicate]
theorem Nmp {n:Nat} {ks:List Int} (h:∀k∈ks,0<=k/\k<n) {i:Nat} (hi:i<n):gt (TZ n ks) i=decide ((i:Int)∈ks):=by
 unfold TZ
 rw [Nmq ks _ (by simpa using h),XO hi,Bool.or_false]
theorem Nh1 {n:Nat} {ks:List Int}:(TZ n ks).length=n:=by unfold TZ;rw [Nbq,On]
theorem Niu:∀(ss:List Stp) (l:List Stp),(ss.foldl (fun l s=>l.set s.2.1.toNat s) l).length=l.length
 | [],_=>rfl
 | k::ks,l=>by rw [Ok,Niu ks,Py]
theorem Nis {n:Nat} {ss:List Stp}:(VV n ss).length=n:=by unfold VV;rw [Niu,On]
def Tg (n:Nat) (s:Stp):Prop:=0<=s.1/\s.1<s.2.1/\s.2.1<n
def Ngq (ss:List Stp):Prop:=ss.Pairwise fun a b=>a.2.1≠b.2.1
theorem Nob:∀(ss:List Stp) (l:List Stp) (i:Nat),(∀s∈ss,Tg l.length s)->(∀s∈ss,s.2.1≠i)->gt (ss.foldl (fun l s=>l.set s.2.1.toNat s) l) i=gt l i
 | [],_,_,_,_=>rfl
 | s::ss,l,i,h,hn=>by
   have hs:=h s Nm
   have hi:=hn s Nm
   unfold Tg at hs
   rw [Ok,Nob ss _ i (fun x a=>by rw [Py];exact h x (Nk _ a)) (fun x a=>hn x (Nk _ a)),Ndp (by omega),Ng (by omega)]
theorem Nx8:∀(ss:List Stp) (l:List Stp),(∀s∈ss,Tg l.length s)->Ngq ss->∀s∈ss,gt (ss.foldl (fun l s=>l.set s.2.1.toNat s) l) s.2.1.toNat=s
 | [],_,_,_,_,h=>(Oe h).elim
 | a::ss,l,h,hd,s,hs=>by
   obtain ⟨c,d⟩:=List.pairwise_cons.1 hd
   have e:=h a Nm
   have h':∀x∈ss,Tg (l.set a.2.1.toNat a).length x:=fun x b=>by rw [Py];exact h x (Nk _ b)
   rw [Ok]
   rcases Nr.1 hs with rfl | hs
   ·unfold Tg at e
    rw [Nob ss _ _ h' (fun x b=>by have:=c x b;omega),Ndp (by omega),Ni rfl]
   ·exact Nx8 ss _ h' d s hs
theorem N7h {n:Nat} {ss:List Stp} (h:∀s∈ss,Tg n s) (hd:Ngq ss) {s:Stp} (hs:s∈ss):gt (VV n ss) s.2.1.toNat=s:=Nx8 ss _ (by simpa using h) hd s hs
theorem N7g {n:Nat} {ss:List Stp} (h:∀s∈ss,Tg n s) {i:Nat} (hi:i<n) (hn:∀s∈ss,s.2.1≠i):gt (VV n ss) i=(0,0,0):=by
 unfold VV
 rw [Nob ss _ i (by simpa using h) hn,XO hi]
theorem Nrt {n:Nat} {ss:List Stp} (h:∀s∈ss,Tg n s) (hd:Ngq ss) {i:Nat} (hi:i<n) (a:(gt (VV n ss) i).1<(gt (VV n ss) i).2.1):gt (VV n ss) i∈ss/\(gt (VV n ss) i).2.1=i:=by
 by_cases hex:∃s∈ss,s.2.1=i
 ·obtain ⟨s,hs,e⟩:=hex
  have:=N7h h hd hs
  have e2:s.2.1.toNat=i:=by omega
  rw [e2] at this
  rw [this]
  exact ⟨hs,e⟩
 ·rw [N7g h hi (fun s hs e=>hex ⟨s,hs,e⟩)] at a
  simp at a
def cS (s:Stp):Int:=if s.1<s.2.1 then s.2.2 else 0
theorem N3d (l:List Stp) {k:Nat} (hk:k<l.length) (h0:gt l k=(0,0,0)) (s:Stp):((l.set k s).map cS).sum=(l.map cS).sum+cS s:=by
 induction l generalizing k with
 | nil=>simp at hk
 | cons a l ih=>
   cases k with
   | zero=>
     have:a=(0,0,0):=h0
     subst this
     simp only [List.set_cons_zero,N2,List.sum_cons]
     have:cS (0,0,0)=0:=rfl
     omega
   | succ k=>
     simp only [Qu,N2,List.sum_cons]
     rw [ih (by simpa using hk) h0]
     omega
theorem Oaa:∀(ss:List Stp) (l:List Stp),(∀s∈ss,Tg l.length s)->Ngq ss->(∀s∈ss,gt l s.2.1.toNat=(0,0,0))->((ss.foldl (fun l s=>l.set s.2.1.toNat s) l).map cS).sum=(l.map cS).sum+UM ss
 | [],_,_,_,_=>by simp [UM]
 | a::ss,l,h,hd,h0=>by
   obtain ⟨f,g⟩:=List.pairwise_cons.1 hd
   have d:=h a Nm
   unfold Tg at d
   rw [Ok,Oaa ss _ (fun x b=>by rw [Py];exact h x (Nk _ b)) g (fun x b=>by
    have c:=h x (Nk _ b)
    unfold Tg at c
    rw [Ndp (by omega),Ng (by have:=f x b;omega)]
    exact h0 x (Nk _ b)),N3d l (by omega) (h0 a Nm)]
   have:cS a=a.2.2:=Ni d.2.1
   have e:UM (a::ss)=a.2.2+UM ss:=rfl
   omega
theorem N3b {n:Nat} {ss:List Stp} (h:∀s∈ss,Tg n s) (hd:Ngq ss):((VV n ss).map cS).sum=UM ss:=by
 unfold VV
 rw [Oaa ss _ (by simpa using h) hd (fun s hs=>by have:=h s hs;unfold Tg at this;exact XO (by omega))]
 have a:∀m:Nat,((List.replicate m ((0,0,0):Stp)).map cS).sum=0:=fun m=>by
  induction m with
  | zero=>rfl
  | succ m ih=>rw [Ph,N2,List.sum_cons,ih];rfl
 rw [a];omega
theorem Nd4 {P:List Int} {L:List Leg} {es:List Ev} {ks:List Int} (hk:YY es.length ks):(∀s∈QX P L es ks,Tg es.length s)/\Ngq (QX P L es ks):=by
 have asc:∀i,i+1<ks.length->gt ks i<gt ks (i+1):=fun i hi=>(hk.2 (i+1) hi).2.2 (by omega)
 have mono:∀j i,i<j->j<ks.length->gt ks i<gt ks j:=fun j=>by
  induction j with
  | zero=>intro i h;omega
  | succ j ih=>
    intro i h hj
    have h1:=asc j hj
    rcases Ol i j with h2 | h2
    ·have:=ih i h2 (by omega);omega
    ·rw [show i=j by omega];exact h1
 refine ⟨fun s hs=>?_, ?_⟩
 ·unfold QX at hs
  obtain ⟨i,hi,rfl⟩:=List.mem_map.1 hs
  rw [List.mem_range] at hi
  have h1:=hk.2 i (by omega)
  have h2:=hk.2 (i+1) (by omega)
  exact ⟨h1.1,asc i (by omega),h2.2.1⟩
 ·unfold Ngq QX
  rw [List.pairwise_map]
  refine (List.pairwise_lt_range (n:=ks.length-1)).imp_of_mem fun {i j} hi hj a=>?_
  rw [List.mem_range] at hi hj
  have:=mono (j+1) (i+1) (by omega) (by omega)
  show gt ks (i+1)≠gt ks (j+1)
  omega
def cA (a:An):Int:=if a.kind=1 then 30 else if a.kind=2\/a.kind=3 then 80 else if a.kind=4 then a.mins else 0
def ZZ (l:List An):Int:=(l.map cA).sum
def WA (a:An):Prop:=a.kind=2\/a.kind=3\/a.kind=4
instance (a:An):Decidable (WA a):=by unfold WA;infer_instance
def nS (l:List An) (i:Nat):Nat:=l.countP fun a=>decide (WA a/\a.ev=i)
def strayB (l:List An) (i:Nat):Bool:=l.any fun a=>decide (a.kind=1/\a.ev=i)
theorem MG {l m:List An}:ZZ (l++m)=ZZ l+ZZ m:=by unfold ZZ;rw [Ou,List.sum_append]
theorem Njj {l m:List An} {i:Nat}:nS (l++m) i=nS l i+nS m i:=List.countP_append
theorem XE {l m:List An} {i:Nat}:strayB (l++m) i=(strayB l i||strayB m i):=List.any_append
section
variable {P:List Int} {L:List Leg} {es tw:List Ev}
def N22 (P:List Int) (L:List Leg) (es:List Ev) (s:Stp):Prop:=s.2.2=Rv P L (gt es s.1.toNat) (gt es s.2.1.toNat)
theorem Nya {ks:List Int}:∀s∈QX P L es ks,N22 P L es s:=fun s hs=>by
 unfold QX at hs
 obtain ⟨i,_,rfl⟩:=List.mem_map.1 hs
 rfl
theorem Nyp {a b:Ev} (h:Rv P L a b≠80):0<=Rv P L a b/\Rv P L a b<=60/\a.kind≠4:=by
 unfold Rv at *
 by_cases h1:a.kind=4
 ·rw [Ni h1] at h;exact absurd rfl h
 rw [Ng h1] at h⊢
 refine ⟨?_, ?_,h1⟩
 all_goals (repeat' split at h)
 all_goals (repeat' split)
 all_goals first | contradiction | omega
theorem Ntu {a b:Ev} (h:a.kind=4):Rv P L a b=80:=Ni h
theorem Npf {s:Stp} (h:N22 P L es s):(∀a∈Sy P L es s,a.ev=s.2.1/\a.other=s.1/\2<=a.kind/\a.kind<=5/\(a.kind=2\/a.kind=3->((gt es s.1.toNat).kind=4↔a.kind=2))/\(a.kind=4->1<=a.mins/\a.mins<=60))/\ZZ (Sy P L es s)=s.2.2/\(∀i:Nat,s.2.1=i->nS (Sy P L es s) i=if 0<s.2.2 then 1 else 0):=by
 unfold N22 at h
 unfold Sy
 simp only
 by_cases h1:(gt es s.1.toNat).kind=4
 ·rw [Ni h1]
  have e:s.2.2=80:=by rw [h];exact Ntu h1
  refine ⟨fun a c=>?_, ?_,fun i hi=>?_⟩
  ·rw [Nj] at c;subst c;refine ⟨rfl,rfl, ?_, ?_,fun _=>⟨fun _=>rfl,fun _=>h1⟩,fun h=>?_⟩<;>simp at *
  ·rw [e];rfl
  ·rw [e,Ni (by omega)];unfold nS;rw [List.countP_cons_of_pos (by simp [WA,hi])];rfl
 rw [Ng h1]
 by_cases h2:s.2.2=80
 ·rw [Ni h2]
  refine ⟨fun a c=>?_, ?_,fun i hi=>?_⟩
  ·rw [Nj] at c;subst c;refine ⟨rfl,rfl, ?_, ?_,fun _=>⟨fun h=>absurd h h1,fun h=>?_⟩,fun h=>?_⟩<;>simp at *
  ·rw [h2];rfl
  ·rw [h2,Ni (by omega)];unfold nS;rw [List.countP_cons_of_pos (by simp [WA,hi])];rfl
 rw [Ng h2]
 have g:=Nyp (P:=P) (L:=L) (a:=gt es s.1.toNat) (b:=gt es s.2.1.toNat) (by omega)
 by_cases d:0<s.2.2
 ·rw [Ni d]
  refine ⟨fun a c=>?_, ?_,fun i hi=>?_⟩
  ·rw [Nj] at c;subst c;refine ⟨rfl,rfl, ?_, ?_,fun h=>?_,fun h=>⟨?_, ?_⟩⟩<;>simp at*<;> omega
  ·simp [ZZ,cA]
  ·rw [Ni d];unfold nS;rw [List.countP_cons_of_pos (by simp [WA,hi])];rfl
 rw [Ng d,Ng d]
 have h0:s.2.2=0:=by omega
 by_cases f:(gt es s.1.toNat).place≠(gt es s.2.1.toNat).place
 ·rw [Ni f]
  unfold TF
  generalize (ZV P L (gt es s.1.toNat).place (gt es s.2.1.toNat).place (gt es s.1.toNat).time).dropLast=w
  refine ⟨fun a c=>?_, ?_,fun i hi=>?_⟩
  ·obtain ⟨x,_,rfl⟩:=List.mem_map.1 c;refine ⟨rfl,rfl, ?_, ?_,fun h=>?_,fun h=>?_⟩<;>simp [Xl] at *
  ·rw [h0];unfold ZZ
   induction w with
   | nil=>rfl
   | cons x w ih=>rw [N2,N2,List.sum_cons,ih];rfl
  ·unfold nS
   rw [List.countP_eq_zero]
   intro a c
   obtain ⟨x,_,rfl⟩:=List.mem_map.1 c
   simp [Xl,WA]
 ·rw [Ng f]
  exact ⟨fun a c=>(Oe c).elim,h0.symm,fun _ _=>rfl⟩
theorem Nj4 {i:Nat}:(∀a∈PO es tw i,a.ev=i/\a.kind=6/\a.other=0)/\ZZ (PO es tw i)=0:=by
 unfold PO
 generalize tw.filter _=w
 refine ⟨fun a b=>?_, ?_⟩
 ·obtain ⟨x,_,rfl⟩:=List.mem_map.1 b;exact ⟨rfl,rfl,rfl⟩
 ·unfold ZZ
  induction w with
  | nil=>rfl
  | cons x w ih=>rw [N2,N2,List.sum_cons,ih];rfl
def N55 (a b:An):Prop:=(b.kind≠7->a.ev<=b.ev)/\(a.kind=1->b.kind=1->a.ev≠b.ev)
section
variable {ks:List Int} {ss:List Stp} (hk:YY es.length ks) (hs:∀s∈ss,Tg es.length s) (hd:Ngq ss) (hp:∀s∈ss,N22 P L es s)
include hs hd hp
structure AtOk (es:List Ev) (i:Nat) (a:An):Prop where
 ev:a.ev=i
 kind:1<=a.kind/\a.kind<=6
 place:a.kind=1->a.place=(gt es i).place
 oth:0<=a.other/\a.other<es.length
 del:a.kind=2\/a.kind=3->((gt es a.other.toNat).kind=4↔a.kind=2)
 mins:a.kind=4->1<=a.mins/\a.mins<=60
theorem N9v {i:Nat} (hi:i<es.length):(∀a∈atN P L es tw ks ss i,AtOk es i a)/\ZZ (atN P L es tw ks ss i)=(if gt (TZ es.length ks) i then 0 else 30)+cS (gt (VV es.length ss) i)/\
  nS (atN P L es tw ks ss i) i=(if 0<cS (gt (VV es.length ss) i) then 1 else 0)/\strayB (atN P L es tw ks ss i) i=!gt (TZ es.length ks) i/\(atN P L es tw ks ss i).Pairwise N55:=by
 have hB:=Nj4 (es:=es) (tw:=tw) (i:=i)
 have q:∃M:List An,(if (gt (VV es.length ss) i).1<(gt (VV es.length ss) i).2.1 then Sy P L es (gt (VV es.length ss) i) else [])=M/\(∀a∈M,AtOk es i a/\2<=a.kind)/\ZZ M=cS (gt (VV es.length ss) i)/\nS M i=if 0<cS (gt (VV es.length ss) i) then 1 else 0:=by
  by_cases h:(gt (VV es.length ss) i).1<(gt (VV es.length ss) i).2.1
  ·obtain ⟨d,f⟩:=Nrt hs hd hi h
   rw [Ni h]
   have hc:cS (gt (VV es.length ss) i)=(gt (VV es.length ss) i).2.2:=Ni h
   generalize gt (VV es.length ss) i=s at *
   obtain ⟨o1,o2,w⟩:=Npf (hp s d)
   have e:=hs s d
   unfold Tg at e
   refine ⟨_,rfl,fun a c=>?_,by rw [hc];exact o2,by rw [hc];exact w i f⟩
   obtain ⟨B,k,l,C,m,a6⟩:=o1 a c
   exact ⟨⟨by omega,by omega,fun h=>by omega,by omega,fun h=>by rw [k];exact m h,a6⟩,l⟩
  ·rw [Ng h]
   have hc:cS (gt (VV es.length ss) i)=0:=Ng h
   exact ⟨[],rfl,fun a c=>(Oe c).elim,by rw [hc];rfl,by rw [hc];rfl⟩
 obtain ⟨M,o,d,f,u⟩:=q
 have n:atN P L es tw ks ss i=(if gt (TZ es.length ks) i then [] else [⟨1,(i:Int),0,(gt es i).place,0⟩])++(M++PO es tw i):=by unfold atN;rw [o]
 have p:∀a∈PO es tw i,AtOk es i a:=fun a c=>by
  obtain ⟨b1,b2,b3⟩:=hB.1 a c
  exact ⟨b1,by omega,fun h=>by omega,by omega,fun h=>by omega,fun h=>by omega⟩
 have v:nS (PO es tw i) i=0:=by
  unfold nS;rw [List.countP_eq_zero];intro a c;have:=(hB.1 a c).2.1;simp only [N3];unfold WA;omega
 have A:strayB M i=false:=by
  unfold strayB;rw [List.any_eq_false];intro a c;have:=(d a c).2;simp only [N3];omega
 have z:strayB (PO es tw i) i=false:=by
  unfold strayB;rw [List.any_eq_false];intro a c;have:=(hB.1 a c).2.1;simp only [N3];omega
 have rest:∀a∈M++PO es tw i,AtOk es i a/\2<=a.kind:=fun a c=>by
  rcases Od.1 c with h | h
  ·exact d a h
  ·exact ⟨p a h,by have:=(hB.1 a h).2.1;omega⟩
 have j:(M++PO es tw i).Pairwise N55:=by
  rw [Pd]
  intro x y r t _
  have h1:=rest _ (P1 r)
  have h2:=rest _ (P1 t)
  exact ⟨fun _=>by rw [h1.1.ev,h2.1.ev];omega,fun h=>by omega⟩
 rw [n,MG,MG,Njj,Njj,XE,XE,f,hB.2,u,v,A,z]
 cases hg:gt (TZ es.length ks) i with
 | true=>
   simp only [if_true,Ov]
   refine ⟨fun a c=>(rest a c).1, ?_, ?_,rfl,j⟩
   ·show (0:Int)+_=_;omega
   ·show 0+_=_;omega
 | false=>
   simp only [Nz,if_false]
   refine ⟨fun a c=>?_, ?_, ?_, ?_, ?_⟩
   ·rcases Od.1 c with h | h
    ·rw [Nj] at h
     subst h
     exact ⟨rfl,by simp,fun _=>rfl,by simp;omega,fun h=>by simp at h,fun h=>by simp at h⟩
    ·exact (rest a h).1
   ·have:ZZ [⟨1,(i:Int),0,(gt es i).place,0⟩]=30:=rfl
    omega
   ·have:nS [⟨1,(i:Int),0,(gt es i).place,0⟩] i=0:=by unfold nS;rw [List.countP_eq_zero];intro a c;rw [Nj] at c;subst c;simp [WA]
    omega
   ·have:strayB [⟨1,(i:Int),0,(gt es i).place,0⟩] i=true:=by simp [strayB]
    rw [this];rfl
   ·rw [List.singleton_append,List.pairwise_cons]
    exact ⟨fun b g=>⟨fun _=>by rw [(rest b g).1.ev];exact Oo _,fun _ h=>by have:=(rest b g).2;omega⟩,j⟩
noncomputable def Xj (P:List Int) (L:List Leg) (es tw:List Ev) (ks:List Int) (ss:List Stp) (m:Nat):List An:=(List.range m).flatMap (atN P L es tw ks ss)
end
end
theorem Nrx (f g:Nat->Int) (l:List Nat):(l.map fun i=>f i+g i).sum=(l.map f).sum+(l.map g).sum:=by
 induction l with
 | nil=>rfl
 | cons a l ih=>simp only [N2,List.sum_cons,ih];omega
theorem Nkt (n:Nat):((List.range n).map fun _=>(0:Int)).sum=0:=by
 induction n with
 | zero=>rfl
 | succ m ih=>rw [Pa,Ou,List.sum_append,ih];rfl
theorem Nod {n k:Nat} (hk:k<n) (c:Int):((List.range n).map fun i=>if i=k then c else 0).sum=c:=by
 induction n with
 | zero=>omega
 | succ n ih=>
   rw [Pa,Ou,List.sum_append]
   simp only [N2,List.map_nil,List.sum_cons,List.sum_nil,Rh]
   by_cases e:k=n
   ·subst e
    have:((List.range k).map fun i=>if i=k then c else 0)=(List.range k).map fun _=>(0:Int):=O8 fun i hi=>Ng (by have:=List.mem_range.1 hi;omega)
    rw [this,Nkt,Ni rfl];omega
   ·rw [ih (by omega),Ng (fun h=>e h.symm)];omega
theorem Nrw {n:Nat}:∀ks:List Int,(∀k∈ks,0<=k/\k<n)->ks.Nodup->((List.range n).map fun (i:Nat)=>if (i:Int)∈ks then (1:Int) else 0).sum=ks.length
 | [],_,_=>by simpa using Nkt n
 | k::ks,h,hn=>by
   obtain ⟨c,d⟩:=List.nodup_cons.1 hn
   have hk:=h k Nm
   have e:(fun i:Nat=>if (i:Int)∈k::ks then (1:Int) else 0)=fun i:Nat=>(if i=k.toNat then 1 else 0)+(if (i:Int)∈ks then (1:Int) else 0):=funext fun i=>by
    by_cases h1:i=k.toNat
    ·have e1:(i:Int)=k:=by omega
     rw [Ni h1,Ni (by rw [e1];exact Nm),Ng (by rw [e1];exact c)];rfl
    ·have e1:(i:Int)≠k:=by omega
     rw [Ng h1]
     by_cases h2:(i:Int)∈ks
     ·rw [Ni h2,Ni (Nk _ h2)];rfl
     ·rw [Ng h2,Ng (fun a=>(Nr.1 a).elim e1 h2)];rfl
   rw [e,Nrx,Nod (by omega),Nrw ks (fun x b=>h x (Nk _ b)) d,Nl];omega
theorem N78 {α:Type} [Inhabited α] (l:List α):(List.range l.length).map (gt l)=l:=by
 refine Pn (by simp) fun i h1 h2=>?_
 rw [P6,List.getElem_range,PS h2]
section
variable {P:List Int} {L:List Leg} {es tw:List Ev} {ks:List Int} {ss:List Stp} (hs:∀s∈ss,Tg es.length s) (hd:Ngq ss) (hp:∀s∈ss,N22 P L es s)
include hs hd hp
theorem Nrz:∀m,m<=es.length->(∀a∈Xj P L es tw ks ss m,∃i,i<m/\AtOk es i a)/\ZZ (Xj P L es tw ks ss m)=((List.range m).map fun i=>(if gt (TZ es.length ks) i then (0:Int) else 30)+cS (gt (VV es.length ss) i)).sum/\
  (∀i,nS (Xj P L es tw ks ss m) i=if i<m/\0<cS (gt (VV es.length ss) i) then 1 else 0)/\(∀i,strayB (Xj P L es tw ks ss m) i=(decide (i<m)&&!gt (TZ es.length ks) i))/\(Xj P L es tw ks ss m).Pairwise N55
 | 0,_=>⟨fun a c=>(Oe c).elim,rfl,fun i=>by rw [Ng (by omega)];rfl,fun i=>by simp [Xj,strayB],List.Pairwise.nil⟩
 | m+1,hm=>by
   obtain ⟨p1,p2,p3,p4,p5⟩:=Nrz m (by omega)
   obtain ⟨d,f,g,j,k⟩:=N9v (tw:=tw) (ks:=ks) hs hd hp (i:=m) (by omega)
   have e:Xj P L es tw ks ss (m+1)=Xj P L es tw ks ss m++atN P L es tw ks ss m:=by
    unfold Xj;rw [Pa,P2,Oy,Ro,Nb]
   rw [e,Pa,Ou,List.sum_append,MG,p2,f]
   refine ⟨fun a c=>?_, ?_,fun i=>?_,fun i=>?_, ?_⟩
   ·rcases Od.1 c with h | h
    ·obtain ⟨i,h1,h2⟩:=p1 a h;exact ⟨i,by omega,h2⟩
    ·exact ⟨m,by omega,d a h⟩
   ·simp only [N2,List.map_nil,List.sum_cons,List.sum_nil,Rh]
   ·rw [Njj,p3]
    by_cases h:i=m
    ·subst h
     rw [g,Ng (by omega)]
     by_cases h2:0<cS (gt (VV es.length ss) i)
     ·rw [Ni h2,Ni ⟨by omega,h2⟩]
     ·rw [Ng h2,Ng (fun h=>h2 h.2)]
    ·have:nS (atN P L es tw ks ss m) i=0:=by
      unfold nS;rw [List.countP_eq_zero];intro a c;have:=(d a c).ev;simp only [N3,not_and];intro _;omega
     rw [this,O9]
     by_cases h2:0<cS (gt (VV es.length ss) i)/\i<m
     ·rw [Ni ⟨h2.2,h2.1⟩,Ni ⟨by omega,h2.1⟩]
     ·rw [Ng (fun h=>h2 ⟨h.2,h.1⟩),Ng (fun h=>h2 ⟨h.2,by omega⟩)]
   ·rw [XE,p4]
    by_cases h:i=m
    ·subst h
     rw [j,N1 (by omega),Np (by omega),Bool.false_and,Bool.false_or,Bool.true_and]
    ·have:strayB (atN P L es tw ks ss m) i=false:=by
      unfold strayB;rw [List.any_eq_false];intro a c;have:=(d a c).ev;simp only [N3,not_and];intro _;omega
     rw [this,Bool.or_false,show decide (i<m+1)=decide (i<m) from decide_eq_decide.2 (by omega)]
   ·rw [Qj]
    refine ⟨p5,k,fun a c b l=>?_⟩
    obtain ⟨i,h1,h2⟩:=p1 a c
    have n:=h2.ev
    have o:=(d b l).ev
    exact ⟨fun _=>by omega,fun _ _=>by omega⟩
end
theorem Xn {es:List Ev} {ks:List Int} {now:Int}:SS es ks now=[]\/∃k,ks.getLast? = some k/\SS es ks now=[⟨7,k,0,(gt es k.toNat).place,now-(gt es k.toNat).time⟩]/\(gt es k.toNat).kind≠4/\20160<now-(gt es k.toNat).time:=by
 unfold SS
 cases h:ks.getLast? with
 | none=>exact .inl rfl
 | some k=>
   simp only
   by_cases h2:(gt es k.toNat).kind=4\/now-(gt es k.toNat).time<=20160
   ·rw [Ni h2];exact .inl rfl
   ·rw [Ng h2];exact .inr ⟨k,rfl,rfl,fun h=>h2 (.inl h),by omega⟩
theorem N00 {n:Nat} {ks:List Int} (hk:YY n ks):ks.Nodup:=by
 have mono:∀j i,i<j->j<ks.length->gt ks i<gt ks j:=fun j=>by
  induction j with
  | zero=>intro i h;omega
  | succ j ih=>
    intro i h hj
    have h1:gt ks j<gt ks (j+1):=(hk.2 (j+1) hj).2.2 (by omega)
    rcases Ol i j with h2 | h2
    ·have:=ih i h2 (by omega);omega
    ·rw [show i=j by omega];exact h1
 unfold List.Nodup
 rw [Pd]
 intro i j hi hj a
 have:=mono j i a hj
 rw [PS hi,PS hj] at this
 omega
structure ListOk (P:List Int) (L:List Leg) (es:List Ev) (ks:List Int) (ss:List Stp) (now:Int) (A:List An):Prop where
 all:∀a∈A,(∃i,i<es.length/\AtOk es i a)\/(a.kind=7/\a.other=0/\ks.getLast? = some a.ev/\(gt es a.ev.toNat).kind≠4/\a.mins=now-(gt es a.ev.toNat).time/\20160<a.mins)
 ord:A.Pairwise N55
 sum:ZZ A=Te P L es ks
 stp:∀i,i<es.length->nS A i=if 0<cS (gt (VV es.length ss) i) then 1 else 0
 str:∀i:Nat,i<es.length->strayB A i=!decide ((i:Int)∈ks)
theorem Nsa {P:List Int} {L:List Leg} {es tw:List Ev} {ks:List Int} {now:Int} (hk:YY es.length ks):ListOk P L es ks (QX P L es ks) now (SG P L es tw ks (QX P L es ks) now):=by
 obtain ⟨hs,hd⟩:=Nd4 (P:=P) (L:=L) (es:=es) hk
 obtain ⟨p1,p2,p3,p4,p5⟩:=Nrz (tw:=tw) (ks:=ks) hs hd Nya es.length (Nd _)
 have g:SG P L es tw ks (QX P L es ks) now=Xj P L es tw ks (QX P L es ks) es.length++SS es ks now:=rfl
 have hl:=Xn (es:=es) (ks:=ks) (now:=now)
 have n7:∀a∈SS es ks now,a.kind=7:=fun a d=>by
  rcases hl with h | ⟨k,_,h,_⟩
  ·rw [h] at d;exact (Oe d).elim
  ·rw [h,Nj] at d;subst d;rfl
 have r:ZZ (SS es ks now)=0:=by
  rcases hl with h | ⟨k,_,h,_⟩<;>rw [h]<;>rfl
 have e:=hk.mem
 refine ⟨fun a d=>?_, ?_, ?_,fun i hi=>?_,fun i hi=>?_⟩
 ·rw [g] at d
  rcases Od.1 d with h | h
  ·exact .inl (p1 a h)
  ·rcases hl with h' | ⟨k,m,n,o,p⟩
   ·rw [h'] at h;exact (Oe h).elim
   ·rw [n,Nj] at h;subst h;exact .inr ⟨rfl,rfl,m,o,rfl,p⟩
 ·rw [g,Qj]
  refine ⟨p5, ?_,fun a d b j=>⟨fun h=>absurd (n7 b j) h,fun _ h=>by have:=n7 b j;omega⟩⟩
  rcases hl with h | ⟨k,_,h,_⟩<;>rw [h]
  ·exact List.Pairwise.nil
  ·exact List.pairwise_singleton _ _
 ·have ht:=N3b hs hd
  rw [<-N78 ((VV es.length (QX P L es ks))),Nis,List.map_map] at ht
  have q:=Nrw ks e (N00 hk)
  have he:((List.range es.length).map fun i=>(if gt (TZ es.length ks) i then (0:Int) else 30))=(List.range es.length).map fun (i:Nat)=>30+(-30)*(if (i:Int)∈ks then (1:Int) else 0):=O8 fun i hi=>by
   rw [Nmp e (List.mem_range.1 hi)]
   by_cases h:(i:Int)∈ks
   ·rw [Ni h,Np h,Ni rfl];rfl
   ·rw [Ng h,N1 h,Ng (by simp)];rfl
  have hc:∀(c:Int) (f:Nat->Int) (l:List Nat),(l.map fun i=>30+c*f i).sum=30*l.length+c*(l.map f).sum:=fun c f l=>by
   induction l with
   | nil=>simp
   | cons a l ih=>simp only [N2,List.sum_cons,Nl,ih,Int.mul_add];omega
  rw [g,MG,r,p2,Nrx,he,hc,q,Pr]
  have:((List.range es.length).map fun i=>cS (gt (VV es.length (QX P L es ks)) i)).sum=UM (QX P L es ks):=ht
  rw [this]
  unfold Te
  omega
 ·rw [g,Njj,p3]
  have:nS (SS es ks now) i=0:=by
   unfold nS;rw [List.countP_eq_zero];intro a d;have:=n7 a d;simp only [N3];unfold WA;omega
  rw [this,O9]
  by_cases h2:0<cS (gt (VV es.length (QX P L es ks)) i)
  ·rw [Ni ⟨hi,h2⟩,Ni h2]
  ·rw [Ng (fun h=>h2 h.2),Ng h2]
 ·rw [g,XE,p4,Nmp e hi,Np hi,Bool.true_and]
  have:strayB (SS es ks now) i=false:=by
   unfold strayB;rw [List.any_eq_false];intro a d;have:=n7 a d;simp only [N3];omega
  rw [this,Bool.or_false]
end Go.Proofs.YtkppjkkkdpcgiaaGreat.Fn


namespace Go.Scan
open Go.AM Go.AM.Sym
theorem Nft (x:Mk):∀(l:List Mk) (p:Mk),UO p (l++[x])=UO p l++(if Sg x ((p::l).getLast (by simp)) then [] else [x])
 | [],p=>by
   by_cases h:Sg x p
   ·simp [UO,h]
   ·simp [UO,h]
 | m::l,p=>by
   rw [O2,UO,Nft x l m,UO]
   have e:(p::m::l).getLast (by simp)=(m::l).getLast (by simp):=List.getLast_cons (by simp)
   rw [e]
   split
   ·rfl
   ·rfl
theorem XV {l:List Mk} {m:Nat} (h0:1<=m) (h1:m<l.length):Sw (l.take (m+1))=Sw (l.take m)++(if Sg (gt l m) (gt l (m-1)) then [] else [gt l m]):=by
 cases l with
 | nil=>simp at h1
 | cons p l=>
   obtain ⟨m,rfl⟩:∃k,m=k+1:=⟨m-1,by omega⟩
   have a:m<l.length:=by simpa using h1
   have e1:(p::l).take (m+1+1)=p::(l.take m++[l[m]]):=by
    rw [Q2,N4 a]
   have e2:(p::l).take (m+1)=p::l.take m:=Q2 ..
   rw [e1,e2]
   show p::UO p (l.take m++[l[m]])=(p::UO p (l.take m))++_
   rw [Nft,UF,PS a,P0,O2]
   have e3:(p::l.take m).getLast (by simp)=gt (p::l) m:=by
    rw [List.getLast_eq_getElem,PS (by simp;omega)]
    simp only [Nl,Om,Pt (Nat.le_of_lt a),P0]
    cases m with
    | zero=>rfl
    | succ k=>simp
   rw [e3]
theorem XW {l:List Mk}:∀m,m<=l.length->(∀j,1<=j->j<m->¬Sg (gt l j) (gt l (j-1)))->Sw (l.take m)=l.take m
 | 0,_,_=>by rw [Q4];rfl
 | 1,h,_=>by
   cases l with
   | nil=>simp at h
   | cons p l=>rfl
 | m+2,h,hs=>by
   rw [XV (m:=m+1) (by omega) (by omega),XW (m+1) (by omega) fun j h1 h2=>hs j h1 (by omega),Ng (hs (m+1) (by omega) (by omega)),N4 (i:=m+1) (by omega),PS]
end Go.Scan


namespace Go.Proofs.YtkppjkkkdpcgiaaGreat.Fn
open Go.AM Go.AM.Sym Go.Scan Go.Sort
theorem Nd9 {R n lo:Nat} (h:lo<=n) (hn:n<2 ^ 62):VW 3 (.slice (Sa R) n (loose 3)) (some (Vi lo)) none none=some (.slice (some ⟨R,lo*3,none⟩) (n-lo) (loose 3)):=by
 have a:bounds unV n n ((some (Value.int .i64 (lo:Int))).map .const) ((none:Option Value).map .const) none=some (lo,n,n):=by
  rw [Naq]
  exact (Nq6 (by omega) (by omega)).trans (by rw [Oa])
 simp only [Nu,Oq] at a
 simp only [VW,Un,Nu,Oq,if_true,a]
 rw [addr_add,Oc]
theorem Nyf {R n hi:Nat} (h:hi<=n) (hn:n<2 ^ 62):VW 3 (.slice (Sa R) n (loose 3)) none (some (Vi hi)) none=some (.slice (Sa R) hi (loose 3)):=by
 have a:bounds unV n n ((none:Option Value).map .const) ((some (Value.int .i64 (hi:Int))).map .const) none=some (0,hi,n):=by
  rw [Naq]
  exact (Mx (by omega) (by omega)).trans (by rw [Oa])
 simp only [Nu,Oq] at a
 simp only [VW,Un,Nu,Oq,if_true,a]
 rw [addr_add,Qg,Nat.sub_zero]
theorem Nxr {m:Nat}:((List.range (m*3)).map fun j=>[Value.int .i64 0,Vi 0,Vi 0].getD (j % 3) undef)=(List.replicate m Uf).flatMap Ru:=by
 have e:(List.replicate m Uf).flatMap Ru=List.replicate (m*3) (Vi 0):=by
  induction m with
  | zero=>rfl
  | succ m ih=>
    rw [Ph,Oy,ih,show (m+1)*3=m*3+1+1+1 by omega,Ph,Ph,Ph]
    rfl
 rw [e,List.eq_replicate_iff]
 refine ⟨by simp,fun v a=>?_⟩
 obtain ⟨j,_,rfl⟩:=List.mem_map.mp a
 have:j % 3<3:=P7 _ (by decide)
 generalize j % 3=k at this
 match k,this with
 | 0,_=>rfl
 | 1,_=>rfl
 | 2,_=>rfl
theorem Nnm {d:List Mk} {k:Nat} (hk:k<=d.length):QW (d.flatMap Ru) (k*3) ((List.replicate (d.length-k) Uf).flatMap Ru)=(d.take k++List.replicate (d.length-k) Uf).flatMap Ru:=by
 have h1:(d.take k).flatMap Ru++(d.drop k).flatMap Ru++[]=d.flatMap Ru:=by rw [Nb,<-P2,Qc]
 have h2:((d.take k).flatMap Ru).length=k*3:=by rw [QT QS,Om,Pt hk]
 have a:((List.replicate (d.length-k) Uf).flatMap Ru).length=((d.drop k).flatMap Ru).length:=by rw [QT QS,QT QS];simp
 rw [<-h1,<-h2,Nef _ _ _ _ a,Nb,P2]
theorem Nq1 [OB] {lim R:Nat} {l:List Mk} {H:NE} {Q:Value->NE->Prop} (hR:NI H R=Vc (l.flatMap Ru)) (hl:lim<=R) (hn:l.length<65536)
  (hQ:∀G,Sl G Ru 3 (Sa R) (Sw l)->Chg [R] H G->Q (.slice (Sa R) (Sw l).length (loose 3)) (G++[])) :
  NK E false lim 126 [.slice (Sa R) l.length (loose 3),.func (.func 127) #[] #[]] H Q:=by
 have t:=NM hR
 refine RG (by decide) Obi rfl ?_
 rw [Obw,N5m]
 have done:Sw l=l->Q (.slice (Sa R) l.length (loose 3)) (H++[]):=fun he=>by
  have:=hQ H (by rw [he];exact Sl.row QS hR) (Chg.refl)
  rwa [he] at this
 by_cases h2:l.length<2
 ·have hc:(l.length:Int)<2:=by omega
  simp only [n126,Ni5,hc,SB,seval,NC,NJ,NG,NQ,reduceCtorEq,NB,place,NA,ND]
  refine done ?_
  match l,h2 with
  | [],_=>rfl
  | [_],_=>rfl
 have hc:¬(l.length:Int)<2:=by omega
 simp only [n126,Ni5,hc,SB,seval,NC,NJ,NG,NQ,reduceCtorEq,NB,place,NA,ND]
 refine NS (fun i=>l.length-i) (fun i fr G=>1<=i/\i<=l.length/\fr 0=.slice (Sa R) l.length (loose 3)/\fr 1=.func (.func 127) #[] #[]/\fr 5=Vi i/\G=H++[]/\∀j,1<=j->j<i->¬Sg (gt l j) (gt l (j-1))) 1
  ⟨Nd _,by omega,rfl,rfl,by rfl,rfl,fun j h1 h2=>by omega⟩ ?_
 rintro i fr G ⟨i1,i2,F,I,g5,rfl,x⟩ hN
 rw [NU N0v.eq_1]
 have z:Sl H Ru 3 (Sa R) l:=Sl.row QS hR
 have V:IntKind.i64.wrap ((i:Int)+1)=((i+1:Nat):Int):=OE (by omega)
 have U:IntKind.i64.wrap ((i:Int)-1)=((i-1:Nat):Int):=Rw (by omega) (by omega)
 by_cases b:i<l.length
 case neg=>
  obtain rfl:i=l.length:=by omega
  simp only [n126,Ni5,F,I,g5,NN,b,SB,seval,NC,NJ,NG,NQ,reduceCtorEq,NB,place,NA,ND]
  refine done ?_
  have:=XW l.length (Nd _) x
  rwa [Oh] at this
 have N:∀X j,j<l.length->AM.loadCells (H++X) (Zv (Sa R) 3 j) 3=some (Ru (gt l j)):=fun X j hj=>(z.app X).loadCells QS hj
 have v:=fun c (k:IntKind) (H1:NE)=>z.idx (c:=c) (k:=k) (H1:=H1) b
 have o:=fun c (k:IntKind) (H1:NE)=>z.idx (c:=c) (k:=k) (H1:=H1) (show i-1<l.length by omega)
 have g:=fun X=>N X i b
 have f:=fun X=>N X (i-1) (by omega)
 by_cases a:Sg (gt l i) (gt l (i-1))
 case neg=>
  simp only [n126,Ni5,F,I,g5,NN,b,v,o,g,f,U,V,ML,N1 a,SB,seval,NC,NJ,NG,NQ,reduceCtorEq,NB,place,NA,ND]
  refine hN (i+1) _ _ ⟨by omega,by omega,F,I,rfl,rfl,fun j h1 h2=>?_⟩ (by omega)
  rcases (by omega:j<i\/j=i) with h | rfl
  ·exact x j h1 h
  ·exact a
 have ag:=Nd9 (R:=R) (n:=l.length) (lo:=i) (by omega) (by omega)
 simp only [n126,Ni5,F,I,g5,NN,b,v,o,g,f,U,V,ML,Np a,ag,SB,seval,NC,NJ,NG,NQ,reduceCtorEq,NB,place,NA,ND]
 have ci:Sw (l.take (i+1))=l.take i:=by
  rw [XV (m:=i) i1 b,Ni a,Nb]
  exact XW i i2 x
 refine NS (S:=Nat×Nat×List Mk) (fun s=>l.length-i-s.1) (fun s fr G=>1<=s.1/\s.1<=l.length-i/\s.2.1+1<=i+s.1/\s.2.2.length=l.length/\s.2.2.take s.2.1=Sw (l.take (i+s.1))/\(∀j,s.2.1<=j->j<l.length->gt s.2.2 j=gt l j)/\
  fr 0=.slice (Sa R) l.length (loose 3)/\fr 1=.func (.func 127) #[] #[]/\fr 5=Vi s.2.1/\fr 6=.slice (some ⟨R,i*3,none⟩) (l.length-i) (loose 3)/\fr 7=Vi s.1/\G=DH Ru H R s.2.2.toArray++[]) (1,i,l)
  ⟨Nd _,by simp only;omega,Nd _,rfl,ci.symm,fun _ _ _=>rfl,F,I,g5,rfl,by rfl,by rw [Ndt hR]⟩ ?_
 rintro ⟨q,k,d⟩ al G ⟨q1,q2,k1,B,A,C,f0,f1,f5,D,Z,rfl⟩ hM
 simp only at q1 q2 k1 B A C f5 Z
 rw [NU N0w.eq_1]
 have P:∀X,Sl (DH Ru H R d.toArray++X) Ru 3 (Sa R) d:=fun X=>by
  have:=Ns2 (X:=X) (d:=d.toArray) (p:=Sa R) rfl t QS
  simpa using this
 have Y:IntKind.i64.wrap ((q:Int)+1)=((q+1:Nat):Int):=OE (by omega)
 have W:IntKind.i64.wrap ((q:Int)-1)=((q-1:Nat):Int):=Rw (by omega) (by omega)
 have ak:IntKind.i64.wrap ((k:Int)+1)=((k+1:Nat):Int):=OE (by omega)
 by_cases hq:q<l.length-i
 ·have M:∀r,r<l.length-i->∀(c:Nat) (kk:IntKind) (H1:NE),Z6 3 (.slice (some ⟨R,i*3,none⟩) (l.length-i) c) (.int kk (r:Int)) H1=some (.pointer (some (Zv (Sa R) 3 (i+r))),H1):=fun r hr c kk H1=>by
   rw [Xo hr]
   simp only [Zv,addrOf,Pc,addr_add,Oc,Pv]
  have K:=M q hq
  have J:=M (q-1) (by omega)
  have g:=fun X=>(P X).loadCells QS (i:=i+q) (by omega)
  have f:=fun X=>(P X).loadCells QS (i:=i+(q-1)) (by omega)
  rw [C (i+q) (by omega) (by omega)] at g
  rw [C (i+(q-1)) (by omega) (by omega)] at f
  have ct:=XV (l:=l) (m:=i+q) (by omega) (by omega)
  rw [show i+q-1=i+(q-1) by omega] at ct
  by_cases u:Sg (gt l (i+q)) (gt l (i+(q-1)))
  ·rw [Ni u,Nb] at ct
   simp only [n126,Ni5,f0,f1,f5,D,Z,NN,hq,K,J,g,f,Y,W,ML,Np u,SB,seval,NC,NJ,NG,NQ,reduceCtorEq,NB,place,NA,ND]
   exact hM (q+1,k,d) _ _ ⟨by simp only;omega,by simp only;omega,by simp only;omega,B,by rw [A];exact ct.symm,C,f0,f1,f5,D,rfl,rfl⟩ (by simp only;omega)
  ·rw [Ng u] at ct
   have T:=Yl (lim:=lim) (X:=[]) (d:=d.toArray) (p:=Sa R) (i:=k) (y:=gt l (i+q)) rfl t hl QS (by simp;omega)
   have ae:d.toArray.setIfInBounds k (gt l (i+q))=(d.set k (gt l (i+q))).toArray:=by simp
   rw [ae] at T
   have L:=fun c (kk:IntKind) (H1:NE)=>Xo (e:=3) (n:=k) (len:=l.length) (c:=c) (p:=⟨R,0,none⟩) (k:=kk) (H:=H1) (by omega)
   have ab:(⟨R,0,none⟩:Addr).add (k*3)=Zv (Sa R) 3 k:=rfl
   rw [ab] at L
   simp only [n126,Ni5,f0,f1,f5,D,Z,NN,hq,K,J,g,f,Y,W,ak,ML,N1 u,L,T,QS,SB,seval,NC,NJ,NG,NQ,reduceCtorEq,NB,place,NA,ND]
   refine hM (q+1,k+1,d.set k (gt l (i+q))) _ _ ⟨by simp only;omega,by simp only;omega,by simp only;omega,by simp only [Py];exact B, ?_,fun j h1 h2=>?_,f0,f1,rfl,D,rfl,rfl⟩ (by simp only;omega)
   ·show (d.set k (gt l (i+q))).take (k+1)=Sw (l.take (i+q+1))
    rw [ct,<-A,N4 (by simp;omega),List.getElem_set_self,List.take_set_of_le (Nd _)]
   ·simp only at h1⊢
    have h3:j<(d.set k (gt l (i+q))).length:=by simp;omega
    rw [PS h3,List.getElem_set_ne (by omega),<-PS (by omega)]
    exact C j (by omega) h2
 ·obtain rfl:q=l.length-i:=by omega
  rw [show i+(l.length-i)=l.length by omega,Oh] at A
  rw [show i+(l.length-i)=l.length by omega] at k1
  have ac:(Sw l).length=k:=by rw [<-A,Om];omega
  have ah:=Nd9 (R:=R) (n:=l.length) (lo:=k) (by omega) (by omega)
  have aj:=Nyf (R:=R) (n:=l.length) (hi:=k) (by omega) (by omega)
  have ad:¬l.length-k=0:=by omega
  have aa:AM.storeAt lim (DH Ru H R d.toArray++[]) ⟨R,k*3,none⟩ ((List.replicate (l.length-k) Uf).flatMap Ru)=some (DH Ru H R (d.take k++List.replicate (d.length-k) Uf).toArray++[]):=by
   have hg:=Nb3 (enc:=Ru) (X:=[]) (d:=d.toArray) t
   rw [Vr,hg]
   have O:((List.replicate (l.length-k) Uf).flatMap Ru).length=(l.length-k)*3:=by rw [QT QS,On]
   have w:(d.flatMap Ru).length=l.length*3:=by rw [QT QS,B]
   simp only [O,w]
   rw [Ni ⟨hl,by omega⟩,<-B,Nnm (by omega)]
   simp only [Nb,DH,List.set_set]
  simp only [n126,Ni5,f0,f1,f5,D,Z,NN,hq,ah,aj,ad,Nxr,aa,SB,seval,NC,NJ,NG,NQ,reduceCtorEq,NB,place,NA,ND]
  have ai:Sl (DH Ru H R (d.take k++List.replicate (d.length-k) Uf).toArray) Ru 3 (Sa R) (Sw l):=by
   have h1:=Ns2 (X:=[]) (d:=(d.take k++List.replicate (d.length-k) Uf).toArray) (p:=Sa R) rfl t QS
   rw [Nb] at h1
   have h2:=Sl.pre h1 QS
   rw [<-A];exact h2
  have:=hQ _ ai ⟨by simp [DH],fun j hj hA=>QV (by simpa using hA)⟩
  rwa [ac] at this
theorem Nni [OB] {lim:Nat} {H:NE} {Q:Value->NE->Prop}:NK E false lim 126 [Vz,.func (.func 127) #[] #[]] H Q=Q Vz H:=by
 refine NK.eq ?_
 refine RG (by decide) Obi rfl ?_
 rw [Obw,N5m]
 simp only [n126,Ni5,SB,seval,NC,NJ,NG,NQ,reduceCtorEq,NB,place,NA,ND]
 exact Nb H
end Go.Proofs.YtkppjkkkdpcgiaaGreat.Fn


