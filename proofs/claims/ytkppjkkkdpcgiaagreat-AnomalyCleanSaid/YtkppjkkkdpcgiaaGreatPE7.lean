/-
  Joined texts, 7 of 9. A part of the claim that the last text states.
-/
import Derived.Test.YtkppjkkkdpcgiaaGreatPE6
set_option linter.unusedVariables false
set_option linter.unusedSimpArgs false
set_option linter.defProp false
set_option linter.unusedSectionVars false
set_option maxRecDepth 100000
set_option maxHeartbeats 4000000
namespace Go.Proofs.YtkppjkkkdpcgiaaGreat.Fn
open Go.AM Go.AM.Sym Go.Scan
structure OSt (L:Nat) (fr0:Nat->Value) (t r:Int) (last:Mk) (st:Nat) (pd:Option ACode) (G:NE):Prop where
 bt:NF G L=Vc [Vi t]
 br:NF G (L+1)=Vc [Vi r]
 bl:NF G (L+2)=Vc (QT last)
 dfr:NF G (L+5)=.dfr
 loop:NF G (L+6)=.loop ⟨st,pd,fr0,46,[12],UX,UW⟩
 len:L+7<=G.length
theorem OSt.chg {L:Nat} {fr0:Nat->Value} {t r:Int} {last:Mk} {st:Nat} {pd:Option ACode} {G G':NE} (h:OSt L fr0 t r last st pd G) (a:Chg [] G G'):OSt L fr0 t r last st pd G':=by
 have len:=h.len
 exact ⟨a.cells h.bt (by simp),a.cells h.br (by simp),a.cells h.bl (by simp),a.get h.dfr (by omega) (by simp),a.get h.loop (by omega) (by simp),by have:=a.len;omega⟩
def Nnd (t:Int) (last:Mk) (rest:List Mk):Prop:=(last=TT\/MQ last/\last.at'<t)/\(∀m∈rest,MQ m/\(last=TT\/last.at'<m.at'))/\N5b rest
theorem Nnd.next {t:Int} {last m:Mk} {rest:List Mk} (h:Nnd t last (m::rest)) (hm:m.at'<t):Nnd t m rest:=by
 obtain ⟨h1,h2,b⟩:=h
 obtain ⟨k1,k2⟩:=List.pairwise_cons.mp b
 exact ⟨.inr ⟨(h2 m No).1,hm⟩,fun x a=>⟨(h2 x (Nk _ a)).1,.inr (k1 x a)⟩,k2⟩
theorem N0z {a b:Mk}:(a.scanner=b.scanner/\a.at'=b.at'/\a.off=b.off)↔a=b:=by
 obtain ⟨c,d,e⟩:=a;obtain ⟨b1,b2,b3⟩:=b
 simp
theorem N00 {a b:Mk}:aEq (.agg [.int .i64,.int .i64,.int .i64]) (.agg (QT a).toArray) (.agg (QT b).toArray)=some (decide (a=b)):=by
 simp only [aEq,QT,PL,TB,and_self,if_true]
 congr 1
 rw [Re,decide_eq_true_iff,<-N0z]
 simp
theorem Njm {a:Mk}:aEq (.agg [.int .i64,.int .i64,.int .i64]) (.agg (QT a).toArray) (.agg #[Vi 0,Vi 0,Vi 0])=some (decide (a=TT)):=N00 (b:=TT)
theorem Yw {fr:Nat->Value} {p:Nat} {v:Value}:Te fr [p] [v]=upd fr p v:=rfl
theorem Nt0 {a b A B:Int} (h1:-A<=a) (h2:a<=A) (c:0<=b) (d:b<=B):-(A*B)<=a*b/\a*b<=A*B:=by
 have e:0<=A:=by omega
 constructor
 ·have e1:-A*b<=a*b:=Int.mul_le_mul_of_nonneg_right h1 c
  have e2:A*b<=A*B:=Int.mul_le_mul_of_nonneg_left d e
  rw [Int.neg_mul] at e1;omega
 ·exact Int.le_trans (Int.mul_le_mul_of_nonneg_right h2 c) (Int.mul_le_mul_of_nonneg_left d e)
theorem Nsu [OB] {lim L:Nat} {fr0:Nat->Value} {t r:Int} {last m:Mk} {rest:List Mk} {G:NE} (hl:lim<=L) (f5:fr0 5=Vp L) (p:fr0 6=Vp (L+1)) (q:fr0 7=Vp (L+2))
  (h:OSt L fr0 t r last 0 none G) (J:Nnd t last (m::rest)) (K:0<=t/\t<=VE) :
  WL E false lim (L+6) [.agg (QT m).toArray] G fun v H'=>Nhq (fun j=>j<L\/j=L+4) G H'/\
   (v=.bool true/\m.at'<t/\OSt L fr0 t r m 0 none H'\/v=.bool false/\OSt L fr0 t (Xk t last (m::rest)) last 2 (some .retM) H'):=by
 have len:=h.len
 rw [X0 h.loop (by omega) rfl rfl,Yw]
 obtain ⟨G1,e1,h1,n⟩:=OP (G:=G) (R:=L+6) (by omega) (.loop ⟨1,none,fr0,46,[12],UX,UW⟩)
 have I:=fun X=>(OM.refl.app (X:=X)).get' h.loop (by omega)
 have y:lim<=G.length:=by omega
 refine NM ?_
 rw [NS UX.eq_1]
 simp only [f5,p,q,QJ,NH,y,I,e1,show lim<=L+6 by omega,SB,seval,NC,NJ,NG,NQ,reduceCtorEq,NB,place,NA,ND]
 have bt:=fun X=>(OM.refl.app (X:=X)).cells (n.cells h.bt (by omega:L≠L+6))
 have br:=fun X=>(OM.refl.app (X:=X)).cells (n.cells h.br (by omega:L+1≠L+6))
 have bl:=fun X=>(OM.refl.app (X:=X)).cells (n.cells h.bl (by omega:L+2≠L+6))
 have z:G1.length=G.length:=n.len
 have s:∀Y,NF (G1++Vc (QT m)::Y) G.length=Vc (QT m):=fun Y=>by rw [<-z];exact NV
 rw [NS UW.eq_1]
 by_cases hm:m.at'<t
 ·obtain ⟨G2,e2,h2,e⟩:=OP (G:=G1) (R:=L+2) (by omega) (Vc (QT m))
  have k:=e.alive h1 (by omega:L+6≠L+2)
  have i:=fun X=>(OM.refl.app (X:=X)).get' k (by have:=e.len;omega)
  obtain ⟨c,e3,o,f⟩:=OP (G:=G2) (R:=L+6) (by have:=e.len;omega) (.loop ⟨0,none,fr0,46,[12],UX,UW⟩)
  simp only [f5,p,q,bt,br,bl,s,QJ,XQ,YH,YG,NI,NH,gt_iff_lt,hm,e2,i,e3,show lim<=L+6 by omega,show lim<=L+2 by omega,SB,seval,NC,NJ,NG,NQ,reduceCtorEq,NB,place,NA,ND]
  have N:c.length=G.length:=by rw [f.len,e.len,z]
  have old:∀X j,j<G.length->j≠L+6->j≠L+2->NF (c++X) j=NF G j:=fun X j q1 q2 q3=>by
   rw [NN (by omega),f.other j q2,e.other j q3,n.other j q2]
  refine ⟨⟨by simp;omega,fun j x=>old _ j (by omega) (by omega) (by omega)⟩,.inl ⟨(old _ L (by omega) (by omega) (by omega)).trans h.bt,(old _ _ (by omega) (by omega) (by omega)).trans h.br, ?_,(old _ _ (by omega) (by omega) (by omega)).trans h.dfr, ?_,by simp;omega⟩⟩
  ·rw [NN (by omega),f.other _ (by omega)];exact h2
  ·rw [NN (by omega)];exact o
 ·have fin:∀(v:Int) (G2 c:NE) (X:NE),(∀j,j≠L+1->NF G2 j=NF G1 j)->G2.length=G1.length->NF G2 (L+1)=Vc [Vi v]->Mut G2 c (L+6)->NF c (L+6)=.loop ⟨2,some .retM,fr0,46,[12],UX,UW⟩->
    Nhq (fun j=>j<L\/j=L+4) G (c++X)/\OSt L fr0 t v last 2 (some .retM) (c++X):=by
   intro v G2 c X o2 M h2 f o
   have N:c.length=G.length:=by rw [f.len,M,z]
   have old:∀j,j<G.length->j≠L+6->j≠L+1->NF (c++X) j=NF G j:=fun j q1 q2 q3=>by
    rw [NN (by omega),f.other j q2,o2 j q3,n.other j q2]
   refine ⟨⟨by simp;omega,fun j x=>old j (by omega) (by omega) (by omega)⟩,⟨(old L (by omega) (by omega) (by omega)).trans h.bt, ?_,(old _ (by omega) (by omega) (by omega)).trans h.bl,(old _ (by omega) (by omega) (by omega)).trans h.dfr, ?_,by simp;omega⟩⟩
   ·rw [NN (by omega),f.other _ (by omega)];exact h2
   ·rw [NN (by omega)];exact o
  have key:∀v,∃G2,(∀X:NE,(G1++X).set (L+1) (Vc [Vi v])=G2++X)/\(∀X,NF (G2++X) (L+6)=.loop ⟨1,none,fr0,46,[12],UX,UW⟩)/\∃c,(∀X:NE,(G2++X).set (L+6) (.loop ⟨2,some .retM,fr0,46,[12],UX,UW⟩)=c++X)/\∀X,Nhq (fun j=>j<L\/j=L+4) G (c++X)/\OSt L fr0 t v last 2 (some .retM) (c++X):=by
   intro v
   obtain ⟨G2,e2,h2,e⟩:=OP (G:=G1) (R:=L+1) (by omega) (Vc [Vi v])
   have k:=e.alive h1 (by omega:L+6≠L+1)
   have i:=fun X=>(OM.refl.app (X:=X)).get' k (by have:=e.len;omega)
   obtain ⟨c,e3,o,f⟩:=OP (G:=G2) (R:=L+6) (by have:=e.len;omega) (.loop ⟨2,some .retM,fr0,46,[12],UX,UW⟩)
   exact ⟨G2,e2,i,c,e3,fun X=>fin v G2 c X (fun j x=>e.other j x) e.len h2 f o⟩
  have w:Xk t last (m::rest)=if last=TT then m.off else last.off+(m.off-last.off)*(t-last.at') / (m.at'-last.at'):=by
   rw [Xk,Nh (by omega)]
  rw [w]
  by_cases l:last=TT
  ·obtain ⟨G2,e2,i,c,e3,d⟩:=key m.off
   rw [Ni l]
   have g:=Nq l
   simp only [f5,p,q,bt,br,bl,s,QJ,XQ,YH,YG,NI,NH,gt_iff_lt,hm,e2,i,e3,Njm,g,show lim<=L+6 by omega,show lim<=L+1 by omega,SB,seval,NC,NJ,NG,NQ,reduceCtorEq,NB,place,NA,ND]
   exact ⟨(d _).1,.inr (d _).2⟩
  ·rw [Nh l]
   have g:=N8 l
   obtain ⟨D,F,V⟩:=J
   obtain ⟨k1,k2⟩:=(D.resolve_left l)
   obtain ⟨k3,C⟩:=F m No
   have C:=C.resolve_left l
   unfold MQ at k1 k3
   unfold VE at k1 k3 K
   have W:=Nt0 (a:=m.off-last.off) (b:=t-last.at') (A:=2103796798) (B:=1051898399) (by omega) (by omega) (by omega) (by omega)
   have hd:0<m.at'-last.at':=by omega
   have Z:-2 ^ 62<=(m.off-last.off)*(t-last.at') / (m.at'-last.at')/\(m.off-last.off)*(t-last.at') / (m.at'-last.at')<=2 ^ 62:=by
    constructor
    ·refine Int.le_ediv_of_mul_le hd ?_
     have:-2 ^ 62*(m.at'-last.at')<=-2 ^ 62*1:=Int.mul_le_mul_of_nonpos_left (by decide) (by omega)
     omega
    ·refine Int.ediv_le_of_le_mul hd ?_
     have:2 ^ 62*1<=2 ^ 62*(m.at'-last.at'):=Int.mul_le_mul_of_nonneg_left (by omega) (by decide)
     omega
   have O:IntKind.i64.wrap (m.off-last.off)=m.off-last.off:=NT (by omega) (by omega)
   have P:IntKind.i64.wrap (t-last.at')=t-last.at':=NT (by omega) (by omega)
   have S:IntKind.i64.wrap ((m.off-last.off)*(t-last.at'))=(m.off-last.off)*(t-last.at'):=NT (by omega) (by omega)
   have T:IntKind.i64.wrap (m.at'-last.at')=m.at'-last.at':=NT (by omega) (by omega)
   have U:IntKind.i64.wrap (last.off+(m.off-last.off)*(t-last.at') / (m.at'-last.at'))=last.off+(m.off-last.off)*(t-last.at') / (m.at'-last.at'):=NT (by omega) (by omega)
   have u:=fun (mp:Bool) (lim:Nat) (H:NE) (Q:Value->NE->Prop)=>N7f (mp:=mp) (lim:=lim) (H:=H) (Q:=Q) (a:=(m.off-last.off)*(t-last.at')) hd (by omega) (by omega)
   obtain ⟨G2,e2,i,c,e3,d⟩:=key (last.off+(m.off-last.off)*(t-last.at') / (m.at'-last.at'))
   simp only [f5,p,q,bt,br,bl,s,QJ,XQ,YH,YG,NI,NH,gt_iff_lt,hm,e2,i,e3,Njm,g,O,P,S,T,U,u,show lim<=L+6 by omega,show lim<=L+1 by omega,SB,seval,NC,NJ,NG,NQ,reduceCtorEq,NB,place,NA,ND]
   exact ⟨(d _).1,.inr (d _).2⟩
theorem Ntj [OB] {mp:Bool} {lim c:Nat} {p:Option Addr} {M:List Mk} {sc t:Int} {H:NE} {Q:Value->NE->Prop} (hs:Sl H QT 3 p M) (hc:Ws 3 c M.length) (hn:M.length<2 ^ 40) (hM:Zt M) (Y:0<=t/\t<=VE) :
  NL E mp lim 128 [.slice p M.length c,Vi sc,Vi t] H Q=Q (Vi (ME M sc t)) H:=by
 refine pc (by decide) Oc5 rfl rfl ?_
 rw [Od9,N71]
 have F:=fun (X:NE) (lim:Nat) (Q:Value->NE->Prop)=>N9l (lim:=lim) (c:=c) (n:=M.length) (p:=p) (sc:=sc) (H:=H++X) (Q:=Q)
 have key:∀fr0:Nat->Value,fr0 5=Vp H.length->fr0 6=Vp (H.length+1)->fr0 7=Vp (H.length+2)->
   NL E false H.length 169 [.func (.yield (H.length+6)) #[] #[],Vp (H.length+3),Vp (H.length+4)]
   (H++[Vc [Value.int .i64 t],Vc [Value.int .i64 0],Vc [Value.int .i64 0,Value.int .i64 0,Value.int .i64 0],Vc [Value.slice p M.length c],Vc [Value.int .i64 sc],.dfr,.loop ⟨0,none,fr0,46,[12],UX,UW⟩])
   fun x N=>Ym (NF N ((H++[Vc [Value.int .i64 t],Vc [Value.int .i64 0],Vc [Value.int .i64 0,Value.int .i64 0,Value.int .i64 0],Vc [Value.slice p M.length c],Vc [Value.int .i64 sc]]).length+1)) fun x=>PV E Nje H.length (Y2 x++([.inBlock 0,.code (.seq (ACode.ops [i 44 (AOp.fieldAddr 2 (Sym.t 7)),i 45 (AOp.load1 (Sym.t 44)),⟨none,none,AOp.store 1 (Sym.t 6) (Sym.t 45),none,[]⟩]) .retM),.code .retM]++[.mark (H++[Vc [Value.int .i64 t],Vc [Value.int .i64 0],Vc [Value.int .i64 0,Value.int .i64 0,Value.int .i64 0],Vc [Value.slice p M.length c],Vc [Value.int .i64 sc]]).length])) fr0 (N.set ((H++[Vc [Value.int .i64 t],Vc [Value.int .i64 0],Vc [Value.int .i64 0,Value.int .i64 0,Value.int .i64 0],Vc [Value.slice p M.length c],Vc [Value.int .i64 sc]]).length+1) .dead) fun v' _=>v'=Vi (ME M sc t):=by
  intro fr0 f5 B O
  have hm:(H++[Vc [Value.int .i64 t],Vc [Value.int .i64 0],Vc [Value.int .i64 0,Value.int .i64 0,Value.int .i64 0],Vc [Value.slice p M.length c],Vc [Value.int .i64 sc]]).length=H.length+5:=by simp
  rw [hm]
  have w:ofN M sc ⊆ M:=fun m hm=>(O0.mp hm).1
  refine N27 (fun rest G=>∃r last,OSt H.length fr0 t r last 0 none G/\Nnd t last rest/\Xk t last rest=ME M sc t) (fun j=>j<H.length\/j=H.length+4) ?_ ?_ (by rw [NW];rfl) (by rw [NW];rfl) (hs.app _) hc hn (N2m hM.2) (by simp) (.inr rfl) ?_ ?_ ?_
  ·rintro rest G G' ⟨r,last,k1,k2,k3⟩ T
   exact ⟨r,last,k1.chg T,k2,k3⟩
  ·rintro m rest G V W P ⟨r,last,k1,k2,k3⟩
   refine (Nsu (Nd _) f5 B O k1 k2 Y).mono fun v H' I=>?_
   obtain ⟨hk,⟨rfl,C,q⟩ | ⟨rfl,q⟩⟩:=I
   ·refine ⟨hk,.inl ⟨rfl,r,m,q,k2.next C, ?_⟩⟩
    rw [<-k3,Xk,Ni (by omega)]
   ·refine ⟨hk,.inr ⟨rfl,fun X=>?_⟩⟩
    have o:OSt H.length fr0 t (Xk t last (m::rest)) last 2 (some .retM) (H'++X):=q.chg Chg.refl.app
    rw [k3] at o
    generalize H'++X=G2 at o
    have len:=o.len
    obtain ⟨f,e3,_,e⟩:=OP (G:=G2) (R:=H.length+6) (by omega) .dead
    have s:=(OM.refl.app (X:=[])).get' (e.alive o.dfr (by omega)) (by have:=e.len;omega)
    obtain ⟨y,z,_,J⟩:=OP (G:=f) (R:=H.length+5) (by have:=e.len;omega) .dead
    have b:=e3 []
    rw [Nb] at b
    have g:=(OM.refl.app (X:=[])).cells (J.cells (e.cells o.br (by omega)) (by omega))
    simp only [n128,Nxp,o.loop,b,SB,seval,NC,NJ,NG,NQ,reduceCtorEq,NB,place,NA,ND]
    have d:=Zb (lim:=H.length) (i:=H.length+5) (l:=[]) s (by omega)
    have k:(f++[]).set (H.length+5) .dead=y++[]:=z []
    rw [k,Mx] at d
    have A:([]:List Nat)++[H.length+5]=[H.length+5]:=rfl
    show PV E Nje H.length (.code .retM::.inBlock 0::.code (.seq (ACode.ops [i 44 (AOp.fieldAddr 2 (Sym.t 7)),i 45 (AOp.load1 (Sym.t 44)),⟨none,none,AOp.store 1 (Sym.t 6) (Sym.t 45),none,[]⟩]) .retM)::.code .retM::.mark (H.length+5)::[]) fr0 (f++[]) fun v' _=>v'=Vi (ME M sc t)
    simp only [n128,Nxp,A,d,B,g,SB,seval,NC,NJ,NG,NQ,reduceCtorEq,NB,place,NA,ND]
  ·intro D a U
   left
   subst U
   have:=hs.lt D
   omega
  ·refine ⟨0,TT,⟨by rw [NV];rfl,by rw [NW];rfl,by rw [NW];rfl,by rw [NW];rfl,by rw [NW];rfl,by simp⟩,⟨.inl rfl,fun m hm=>⟨hM.1 m (w hm),.inl rfl⟩,Nya hM.2⟩,rfl⟩
  ·rintro H' ⟨r,last,k1,k2,k3⟩
   have len:=k1.len
   obtain ⟨f,e3,_,e⟩:=OP (G:=H') (R:=H.length+6) (by omega) .dead
   have b:=e3 []
   rw [Nb] at b
   have Z:∀X,NF (f++X) (H.length+2)=Vc (QT last):=fun X=>(OM.refl.app).cells (e.cells k1.bl (by omega))
   have q7:∀X,NF (f++X) (H.length+1)=Vc [Vi r]:=fun X=>(OM.refl.app).cells (e.cells k1.br (by omega))
   have h:=e.alive k1.dfr (by omega:H.length+5≠H.length+6)
   obtain ⟨L,S,h5,K⟩:=OP (G:=f) (R:=H.length+1) (by have:=e.len;omega) (Vc [Vi last.off])
   have u:=(OM.refl.app (X:=[])).get' (K.alive h (by omega)) (by have:=e.len;have:=K.len;omega)
   obtain ⟨y,z,_,J⟩:=OP (G:=L) (R:=H.length+5) (by have:=e.len;have:=K.len;omega) .dead
   have g:=(OM.refl.app (X:=[])).cells (J.cells h5 (by omega))
   have d:=Zb (lim:=H.length) (i:=H.length+5) (l:=[]) u (by omega)
   have k:(L++[]).set (H.length+5) .dead=y++[]:=z []
   rw [k,Mx] at d
   have A:([]:List Nat)++[H.length+5]=[H.length+5]:=rfl
   have I:ME M sc t=last.off:=by rw [<-k3];rfl
   simp only [n128,Nxp,k1.loop,b,SB,seval,NC,NJ,NG,NQ,reduceCtorEq,NB,place,NA,ND]
   show PV E Nje H.length (.inBlock 0::.code (.seq (ACode.ops [i 44 (AOp.fieldAddr 2 (Sym.t 7)),i 45 (AOp.load1 (Sym.t 44)),⟨none,none,AOp.store 1 (Sym.t 6) (Sym.t 45),none,[]⟩]) .retM)::.code .retM::.mark (H.length+5)::[]) fr0 (f++[]) fun v' _=>v'=Vi (ME M sc t)
   simp only [n128,Nxp,A,B,O,Z,q7,QJ,XQ,YH,YG,NI,S,d,g,I,show H.length<=H.length+1 by omega,SB,seval,NC,NJ,NG,NQ,reduceCtorEq,NB,place,NA,ND]
 simp only [n128,Nxp,F,SB,seval,NC,NJ,NG,NQ,reduceCtorEq,NB,place,NA,ND]
 exact key _ rfl rfl rfl
theorem Nop {M:List Mk} {sc t:Int} (hM:Zt M):-VE<=ME M sc t/\ME M sc t<=VE:=by
 have a:(0:Int)<=VE:=by decide
 refine Nbt _ _ (Nya hM.2) (fun m hm=>?_) (by show -VE<=0;omega) (by show (0:Int)<=VE;omega) (fun m _=>.inl rfl) (.inl rfl)
 have:=hM.1 m (O0.mp hm).1
 unfold MQ at this;omega
theorem Np6 [OB] {mp:Bool} {lim c:Nat} {p:Option Addr} {M:List Mk} {s:Ev} {H:NE} {Q:Value->NE->Prop} (hs:Sl H QT 3 p M) (hc:Ws 3 c M.length) (hn:M.length<2 ^ 40) (hM:Zt M) (b:Sb s) :
  NL E mp lim 94 [.slice p M.length c,.agg (QL s).toArray] H Q=Q (Vi (V4 M s)) H:=by
 have a:=b
 unfold Sb at a
 have h:=Nop (sc:=s.scanner) (t:=s.at') hM
 have ho:=fun (X:NE) (mp:Bool) (lim:Nat) (Q:Value->NE->Prop)=>Ntj (mp:=mp) (lim:=lim) (Q:=Q) (sc:=s.scanner) (t:=s.at') ((OM.refl.app (X:=X)).sl hs) hc hn hM a.2.2.2.2.1
 have g:IntKind.i64.wrap (s.at'+ME M s.scanner s.at')=s.at'+ME M s.scanner s.at':=by unfold VE at *;exact NT (by omega) (by omega)
 refine pc (by decide) e94 rfl rfl ?_
 rw [b94,c94]
 have e:V4 M s=min (max (s.at'+ME M s.scanner s.at') 0) s.seen:=rfl
 rw [e]
 generalize ME M s.scanner s.at'=o at *
 have d:R9 true (Vi (s.at'+o)) [Vi 0]=some (Vi (max (s.at'+o) 0)):=by
  simp only [R9,WK]
  grind
 have f:R9 false (Vi (max (s.at'+o) 0)) [Vi s.seen]=some (Vi (min (max (s.at'+o) 0) s.seen)):=by
  simp only [R9,WK]
  grind
 simp only [n94,r94,OU,Vy,Vx,Vw,Vv,Vu,Vt,NI,ho,g,d,f,SB,seval,NC,NJ,NG,NQ,reduceCtorEq,NB,place,NA,ND]
instance (M:List Mk):Decidable (Zt M):=by unfold Zt;infer_instance
theorem Nsv [OB] {mp:Bool} {lim c:Nat} {p:Option Addr} {S:List Ev} {H:NE} {Q:Value->NE->Prop} (hs:Sl H QL 6 p S) (hn:S.length<2 ^ 63) :
  NL E mp lim 55 [.slice p S.length c] H Q=Q (.bool (decide (QW S))) H:=by
 refine pc (by decide) e55 rfl rfl ?_
 rw [b55,c55]
 by_cases u:S.length<=2000
 case neg=>
  have e:(2000:Int)<(S.length:Int):=by omega
  simp only [n55,r55,gt_iff_lt,e,N8 (show ¬QW S from fun h=>u h.1),SB,seval,NC,NJ,NG,NQ,reduceCtorEq,NB,place,NA,ND]
 have e:¬(2000:Int)<(S.length:Int):=by omega
 simp only [n55,r55,gt_iff_lt,e,SB,seval,NC,NJ,NG,NQ,reduceCtorEq,NB,place,NA,ND]
 refine NR (fun i=>S.length-i) (fun i fr G=>i<=S.length/\fr 8=.slice p S.length c/\fr 9=Vi S.length/\fr 10=Vi i/\H.length<=G.length/\Sl G QL 6 p S/\∀j,j<i->Sb (gt S j)) 0 ⟨Nz _,rfl,rfl,by rfl,by simp,hs.app _,fun j h=>absurd h (Nat.not_lt_zero j)⟩ ?_
 intro i fr G ⟨hi,m,n,d,hL,q,t⟩ v
 rw [NS Nrs.eq_1]
 refine NM ?_
 by_cases a:i<S.length
 ·have g:=fun X=>(q.app X).loadCells OU a
  have b:=fun c (k:IntKind) (H1:NE)=>q.idx (c:=c) (k:=k) (H1:=H1) a
  have l:IntKind.i64.wrap ((i:Int)+1)=((i+1:Nat):Int):=OG (by omega)
  by_cases o:Sb (gt S i)
  ·simp only [n55,r55,m,n,d,NU,a,hL,b,g,OU,NI,NH,l,YZ,Nq o,SB,seval,NC,NJ,NG,NQ,reduceCtorEq,NB,place,NA,ND]
   refine v (i+1) _ _ ⟨by omega,m,n,rfl,by simp;omega,q.app _,fun j r=>?_⟩ (by omega)
   rcases (by omega:j<i\/j=i) with h | rfl
   ·exact t j h
   ·exact o
  ·simp only [n55,r55,m,n,d,NU,a,hL,b,g,OU,NI,NH,l,YZ,N8 o,N8 (show ¬QW S from fun h=>o (h.2 _ (R6 a))),SB,seval,NC,NJ,NG,NQ,reduceCtorEq,NB,place,NA,ND]
 ·obtain rfl:i=S.length:=by omega
  have f:QW S:=⟨u,fun s hs=>by
   obtain ⟨j,r,rfl⟩:=List.mem_iff_getElem.mp hs
   have:=t j r
   rwa [PZ r] at this⟩
  simp only [n55,r55,m,n,d,NU,a,Nq f,SB,seval,NC,NJ,NG,NQ,reduceCtorEq,NB,place,NA,ND]
def vK (m:Mk):Value:=.agg (QT m).toArray
theorem N0y {κ ν:Type} {kv:κ->Value} {vv:ν->Value} {es:List (κ×ν)} {j:Nat} {e:Value×Value} (h:(Tm kv vv es)[j]? = some e):∃x,es[j]? = some x/\e=(kv x.1,vv x.2):=by
 unfold Tm at h
 rw [O2] at h
 cases hx:es[j]? with
 | none=>rw [hx] at h;cases h
 | some x=>rw [hx] at h;cases h;exact ⟨x,rfl,rfl⟩
theorem N0x {κ ν:Type} {kv:κ->Value} {vv:ν->Value} {es:List (κ×ν)}:(Tm kv vv es).length=es.length:=Nu ..
theorem Nsd [OB] {lim Y u R:Nat} {es:List ((Int×Int)×Mk)} {H:NE} {Q:Value->NE->Prop} (J:List Nat->NE->Prop) (i:lim<=H.length)
  (m:∀seen G G',J seen G->Chg [H.length] G G'->J seen G')
  (a:∀seen j x G,MetOk es.length (seen++[j])->es[j]? = some x->H.length<G.length->J seen G->WL Ef false lim Y [vK x.2] G fun v H'=>v=.bool true/\J (seen++[j]) H'/\G.length<=H'.length/\NF H' R=NF G R/\NF H' H.length=NF G H.length)
  (h1:NF H u=Vc [.map (some R)]) (hm:NF H R=.map (Tm kM vK es)) (D:J [] H)
  (I:∀seen H',MetOk es.length seen->SY es.length seen=[]->J seen H'->Q (.tuple #[]) H') :
  NL Ef false lim 143 [.func (.yield Y) #[] #[],Vp u] H Q:=by
 refine Ngo (by decide) Ocx rfl ?_
 rw [Od1,c143]
 have y:=PQ hm
 have q1:=fun X=>(OM.refl.app (X:=X)).cells h1
 have t:Ux (.map (some R)) (H++[])=some (Vp H.length,H++[.iter (some R) (Tm kM vK es).length []]):=by
  rw [Nn4 (es:=Tm kM vK es) (by rw [NN y];exact hm)]
  simp
 simp only [n143,Nxo,q1,t,SB,seval,NC,NJ,NG,NQ,reduceCtorEq,NB,place,NA,ND]
 refine NR (fun seen:List Nat=>es.length-seen.length) (fun seen fr G=>MetOk es.length seen/\fr 0=.func (.yield Y) #[] #[]/\fr 6=Vp H.length/\NF G H.length=.iter (some R) (Tm kM vK es).length seen/\NF G R=.map (Tm kM vK es)/\H.length<G.length/\J seen G) []
  ⟨⟨List.nodup_nil,fun j h=>(O8 h).elim⟩,rfl,rfl,by rw [NV];rfl,by rw [NN y];exact hm,by simp,m _ _ _ D ⟨by simp,fun j d _=>NN d⟩⟩ ?_
 rintro seen fr G ⟨hs,f,g,C,n,o,w⟩ F
 rw [NS Nzu.eq_1]
 refine NM ?_
 simp only [n143,Nxo,f,g,SB,seval,NC,NJ,NG,NQ,reduceCtorEq,NB,place,NA,ND]
 have q:∀e∈Tm kM vK es,VG e.1=true:=fun e he=>by
  unfold Tm at he
  obtain ⟨x,_,rfl⟩:=List.mem_map.mp he
  rfl
 have l:∀s,SY (Tm kM vK es).length s=SY es.length s:=fun s=>by rw [N0x]
 refine Ntx (es:=Tm kM vK es) (by rw [NN o];exact C) i (by rw [NN (by omega)];exact n) q ?_ ?_
 ·intro z
  rw [l] at z
  simp only [n143,Nxo,f,g,SB,seval,NC,NJ,NG,NQ,reduceCtorEq,NB,place,NA,ND]
  exact I seen _ hs z (m _ _ _ w Chg.refl.app)
 ·intro j e d he
  obtain ⟨x,L,rfl⟩:=N0y he
  rw [l] at d
  obtain ⟨G1,e1,h1,b⟩:=OP (G:=G) (R:=H.length) o (.iter (some R) (Tm kM vK es).length (seen++[j]))
  have A:=b.other R (by omega)
  rw [e1]
  have p:YN (Vp H.length) (G1++[])=some (.tuple #[kM x.1,vK x.2],G1++[]):=by
   exact Npy (es:=Tm kM vK es) (by rw [NN (by rw [b.len];exact o)];exact h1) (by rw [NN (by rw [b.len];omega),A];exact n) he rfl
  have r:lim<=G1.length:=by rw [b.len];omega
  simp only [n143,Nxo,f,g,p,vK,QJ,XQ,YH,YG,NI,NH,r,SB,seval,NC,NJ,NG,NQ,reduceCtorEq,NB,place,NA,ND]
  have B:J seen (G1++[Vc (QT x.2)]):=m _ _ _ w ⟨by simp [b.len],fun k hk E=>by
   rw [NN (by rw [b.len];exact hk)]
   exact b.other k (by simpa using E)⟩
  have c:=a seen j x _ (hs.add d) L (by simp [b.len];omega) B
  unfold vK at c
  refine c.mono fun v H' K=>?_
  obtain ⟨rfl,M,N,O,P⟩:=K
  refine NM ?_
  simp only [n143,Nxo,f,g,SB,seval,NC,NJ,NG,NQ,reduceCtorEq,NB,place,NA,ND]
  have S:=b.len
  simp only [Nm,Nl,Ns] at N
  refine F (seen++[j]) _ _ ⟨hs.add d,f,g, ?_, ?_,by simp;omega,m _ _ _ M Chg.refl.app⟩ ?_
  ·rw [NN (by omega),P,NN (by omega)];exact h1
  ·rw [NN (by omega),O,NN (by omega),A];exact n
  ·have:=(hs.add d).len
   simp only [Nm,Nl,Ns] at this⊢
   omega
abbrev Ess:=List ((Int×Int)×Mk)
structure CSt (H:NE) (fr0:Nat->Value) (st cap:Nat) (p:Option Addr) (l:List Mk) (G:NE):Prop where
 box:NF G H.length=Vc [.slice p l.length cap]
 dfr:NF G (H.length+1)=.dfr
 loop:NF G (H.length+2)=.loop ⟨st,none,fr0,13,[7],WH,WG⟩
 own:Own (H.length+4) G QT 3 p cap l
 len:H.length+3<=G.length
 old:∀j,j<H.length->NF G j=NF H j
theorem CSt.chg {H:NE} {fr0:Nat->Value} {st cap:Nat} {p:Option Addr} {l:List Mk} {G G':NE} (h:CSt H fr0 st cap p l G) {A:List Nat} (c:Chg A G G') (d:∀j∈A,j=H.length+3):CSt H fr0 st cap p l G':=by
 have len:=h.len
 have b:∀j,j<H.length+3->j∉A:=fun j h1 h2=>by have:=d j h2;omega
 refine ⟨c.cells h.box (b _ (by omega)),c.get h.dfr (by omega) (b _ (by omega)),c.get h.loop (by omega) (b _ (by omega)),h.own.chg c fun a e f=>?_,by have:=c.len;omega,fun j g=>(c.other j (by omega) (b _ (by omega))).trans (h.old j g)⟩
 have:=d _ f
 have:=(h.own.block e).1
 omega
theorem Nn1 [OB] {lim:Nat} {H:NE} {fr0:Nat->Value} {cap:Nat} {p:Option Addr} {l:List Mk} {x:Mk} {G:NE} (hl:lim<=H.length) (f2:fr0 2=Vp H.length) (h:CSt H fr0 0 cap p l G) (z:H.length+3<G.length) (hn:l.length<2 ^ 20) :
  WL Ef false lim (H.length+2) [vK x] G fun v H'=>v=.bool true/\(∃g N,CSt H fr0 0 g N (l++[x]) H')/\G.length<=H'.length/\(∀j,j<G.length->j≠H.length->j≠H.length+2->(∀a,p=some a->j≠a.block)->NF H' j=NF G j):=by
 rw [X0 h.loop (by omega) rfl rfl,Yw]
 obtain ⟨G1,e1,h1,k⟩:=OP (G:=G) (R:=H.length+2) (by omega) (.loop ⟨1,none,fr0,13,[7],WH,WG⟩)
 have J:=fun X=>(OM.refl.app (X:=X)).get' h.loop (by omega)
 have M:=k.len
 have ne:∀a,p=some a->a.block≠H.length+2:=fun a e=>by have:=(h.own.block e).1;omega
 have m:=h.own.mut k ne
 obtain ⟨G2,e2,d,_,b,i,t⟩:=m.step (lim':=lim) (bytes:=24) (by omega) QJ (by decide) x (by unfold PN;omega) (by omega) (by omega) [Vc (QT x),Vc (QT x)] (G1.length+1) 1 (by rw [NW];rfl)
 simp only [Nl,Ns,N0,Nat.reduceAdd] at e2 d i t
 have A:∀j,j<H.length+3->∀a,p=some a->j≠a.block:=fun j o a e=>by have:=(h.own.block e).1;omega
 have o2:∀j,j<H.length+3->j≠H.length+2->NF (G2++[]) j=NF G j:=fun j o u=>by
  rw [b j (by omega) (A j o),k.other j u]
 have B:NF (G2++[]) (H.length+2)=.loop ⟨1,none,fr0,13,[7],WH,WG⟩:=(b _ (by omega) (A _ (by omega))).trans h1
 have b2:NF (G2++[]) H.length=Vc [.slice p l.length cap]:=(o2 _ (by omega) (by omega)).trans h.box
 rw [Nb] at d o2 B b2
 have s:=fun X=>(OM.refl.app (X:=X)).cells b2
 obtain ⟨C,e3,K,f⟩:=OP (G:=G2) (R:=H.length) (by omega) (Vc [.slice (Sa (G1.length+2)) (l.length+1) (loose 3)])
 have P:=f.alive B (by omega:H.length+2≠H.length)
 have y:=fun X=>(OM.refl.app (X:=X)).get' P (by have:=f.len;omega)
 obtain ⟨D,I,L,q⟩:=OP (G:=C) (R:=H.length+2) (by have:=f.len;omega) (.loop ⟨0,none,fr0,13,[7],WH,WG⟩)
 have w:lim<=G.length:=by omega
 have F:∀X,NF (G1++X) H.length=Vc [.slice p l.length cap]:=fun X=>(OM.refl.app).cells (k.cells h.box (by omega))
 have E:∀Y,NF (G1++Vc (QT x)::Y) G.length=Vc (QT x):=fun Y=>by rw [<-M];exact NV
 refine NM ?_
 rw [NS WH.eq_1]
 unfold vK
 simp only [f2,QJ,NH,w,J,e1,show lim<=H.length+2 by omega,SB,seval,NC,NJ,NG,NQ,reduceCtorEq,NB,place,NA,ND]
 rw [NS WG.eq_1]
 simp only [f2,F,E,QJ,XQ,YH,YG,NI,NH,SB,seval,NC,NJ,NG,NQ,reduceCtorEq,NB,place,NA,ND]
 have r:=s []
 simp only [f2,e2,r,e3,y,I,show lim<=H.length+2 by omega,hl,SB,seval,NC,NJ,NG,NQ,reduceCtorEq,NB,place,NA,ND]
 have Q:=f.len
 have S:=q.len
 have n:=(d.mut f (fun a e=>by cases e;show G1.length+2≠H.length;omega)).mut q (fun a e=>by cases e;show G1.length+2≠H.length+2;omega)
 have c:∀j,j≠H.length->j≠H.length+2->NF D j=NF G2 j:=fun j q1 q2=>by rw [q.other j q2,f.other j q1]
 refine ⟨⟨loose 3,Sa (G1.length+2), ?_, ?_, ?_,n.app _, ?_,fun j o=>?_⟩, ?_,fun j q1 q2 q3 O=>?_⟩
 ·rw [NN (by omega),q.other _ (by omega),K,Nm];rfl
 ·rw [NN (by omega),c _ (by omega) (by omega),o2 _ (by omega) (by omega)];exact h.dfr
 ·rw [NN (by omega)];exact L
 ·have:=h.len
  first | omega | (rw [Nm];omega)
 ·rw [NN (by omega),c _ (by omega) (by omega),o2 _ (by omega) (by omega)];exact h.old j o
 ·first | omega | (rw [Nm];omega)
 ·have:=b j (by omega) O
  rw [Nb] at this
  rw [NN (by omega),c _ q2 q3,this,k.other j q3]
theorem Nvq [OB] {lim z R:Nat} {es:Ess} {H:NE} {Q:Value->NE->Prop} (hl:lim<=H.length) (h1:NF H z=Vc [.map (some R)]) (hm:NF H R=.map (Tm kM vK es)) (hn:es.length<2 ^ 20)
  (K:∀G p cap l,l.Perm (es.map (·.2))->Own H.length G QT 3 p cap l->Chg [] H G->Q (.slice p l.length cap) G) :
  NL Ef false lim 167 [Vz,.func (.func 143) #[] #[Vp z]] H Q:=by
 refine Ngo (by decide) Ocr rfl ?_
 rw [Odw,c167]
 have L:=PQ hm
 have hB:=NK h1
 have key:∀fr0:Nat->Value,fr0 2=Vp H.length->
   NL Ef false lim 143 [.func (.yield (H.length+2)) #[] #[],Vp z]
   (H++[Vc [Value.slice none 0 0],.dfr,.loop ⟨0,none,fr0,13,[7],WH,WG⟩])
   fun x D=>Ym (NF D ((H++[Vc [Value.slice none 0 0]]).length+1)) fun x=>PV Ef a167 lim (Y2 x++([.inBlock 0,.code (.seq (ACode.ops [i 12 (AOp.load1 (Sym.t 2)),i 4 (AOp.mov (Sym.t 12))]) .retM),.code .retM]++[.mark (H++[Vc [Value.slice none 0 0]]).length])) fr0 (D.set ((H++[Vc [Value.slice none 0 0]]).length+1) .dead) Q:=by
  intro fr0 f2
  have B:(H++[Vc [Value.slice none 0 0]]).length=H.length+1:=by simp
  rw [B]
  have d:(H++[Vc [Value.slice none 0 0],.dfr,.loop ⟨0,none,fr0,13,[7],WH,WG⟩]).length=H.length+3:=by simp
  refine Nsd (es:=es) (fun seen G=>∃cap p,CSt H fr0 0 cap p (No3 es seen) G) (by rw [d];omega) ?_ ?_ (by rw [NN hB];exact h1) (by rw [NN L];exact hm) ?_ ?_
  ·rintro seen G G' ⟨cap,p,k⟩ E
   rw [d] at E
   exact ⟨cap,p,k.chg E fun j f=>by simpa using f⟩
  ·rintro seen j x G b w o ⟨cap,p,k⟩
   rw [d] at o⊢
   have q:j<es.length:=by
    rcases Oh j es.length with h | h
    ·exact h
    ·rw [Nw h] at w;cases w
   have C:seen.length<2 ^ 20:=by
    have:=b.len
    simp only [Nm,Nl,Ns] at this;omega
   refine (Nn1 (x:=x.2) hl f2 k o (by unfold No3;rw [Nu];exact C)).mono fun v H' N=>?_
   obtain ⟨rfl,⟨g,O,k'⟩,q1,q2⟩:=N
   have np:∀j,j<H.length+4->∀a,p=some a->j≠a.block:=fun j f a e=>by have:=(k.own.block e).1;omega
   refine ⟨rfl,⟨g,O, ?_⟩,q1,q2 R (by omega) (by omega) (by omega) (np _ (by omega)),q2 _ (by omega) (by omega) (by omega) (np _ (by omega))⟩
   have e:No3 es (seen++[j])=No3 es seen++[x.2]:=by
    unfold No3
    rw [O1,Oc,List.map_nil]
    congr 2
    rw [PZ (by rw [Nu];exact q),Pu]
    rw [Nf q] at w
    cases w;rfl
   rw [e];exact k'
  ·exact ⟨0,none,by rw [NV];rfl,by rw [NW];rfl,by rw [NW];rfl,.inl ⟨rfl,rfl,rfl⟩,by simp,fun j f=>NN f⟩
  ·rintro seen H' b M ⟨cap,p,k⟩
   have len:=k.len
   obtain ⟨u,e3,_,c⟩:=OP (G:=H') (R:=H.length+2) (by omega) .dead
   have n:=e3 []
   rw [Nb] at n
   have b3:∀X,NF (u++X) H.length=Vc [.slice p (No3 es seen).length cap]:=fun X=>(OM.refl.app).cells (c.cells k.box (by omega))
   have m:=(OM.refl.app (X:=[])).get' (c.alive k.dfr (by omega:H.length+1≠H.length+2)) (by have:=c.len;omega)
   obtain ⟨F,I,_,y⟩:=OP (G:=u) (R:=H.length+1) (by have:=c.len;omega) .dead
   have r:=Zb (lim:=lim) (i:=H.length+1) (l:=[]) m (by omega)
   have A:(u++[]).set (H.length+1) .dead=F++[]:=I []
   rw [A,Mx] at r
   have J:([]:List Nat)++[H.length+1]=[H.length+1]:=rfl
   simp only [n167,N6g,k.loop,n,SB,seval,NC,NJ,NG,NQ,reduceCtorEq,NB,place,NA,ND]
   show PV Ef a167 lim (.inBlock 0::.code (.seq (ACode.ops [i 12 (AOp.load1 (Sym.t 2)),i 4 (AOp.mov (Sym.t 12))]) .retM)::.code .retM::.mark (H.length+1)::[]) fr0 (u++[]) Q
   simp only [n167,N6g,J,f2,b3,r,SB,seval,NC,NJ,NG,NQ,reduceCtorEq,NB,place,NA,ND]
   have s:=(k.own.mut c (fun a e=>by have:=(k.own.block e).1;omega)).mut y (fun a e=>by have:=(k.own.block e).1;omega)
   refine K _ p cap _ (Nyz b M) (Own.le (s.app _) (by omega)) ⟨by have:=c.len;have:=y.len;simp;omega,fun j f _=>?_⟩
   rw [NN (by have:=c.len;have:=y.len;omega),y.other j (by omega),c.other j (by omega)]
   exact k.old j f
 simp only [n167,N6g,SB,seval,NC,NJ,NG,NQ,reduceCtorEq,NB,place,NA,ND]
 exact key _ rfl
end Go.Proofs.YtkppjkkkdpcgiaaGreat.Fn


namespace Go.AM.Srt
open Go.AM Go.AM.Sym Go.Sort
variable {E:Env} {iz:Ids} [DT E E] [SortAt E iz] {α:Type} [Inhabited α] {enc:α->List Value} [EncOk enc iz]
def ltC {α:Type} (c:α->α->Int) (x y:α):Bool:=decide (c x y<0)
theorem N69 {G X:NE} {B lim cap n:Nat} {p:Option Addr} {c:α->α->Int} {cl:FuncId} {cs:List Value} {Q:Value->NE->Prop} (hp:p=Sa B) (hB:B<G.length) (hl:lim<=B) (W:n<2 ^ 61) (hc:∀(mp:Bool) (lim:Nat) (x y:α) (H:NE) (Q:Value->NE->Prop),NL E mp lim cl (.agg (enc x).toArray::.agg (enc y).toArray::cs) H Q=Q (Vi (c x y)) H) {d:Array α} {a b:Nat} (hd:d.size=n) (hb:b<=n) (V:a<=b) :
  NL E false lim iz.INS [.slice p n cap,Vi a,Vi b,.func (.func cl) #[] cs.toArray] (DH enc G B d++X) Q=Q (.tuple #[]) (DH enc G B (insertionSort (ltC c) d a b)++X):=by
 refine runs (SortAt.INS (E:=E) (z:=iz)) ?_
 rw [Oad,N4e]
 have M:IntKind.i64.wrap ((a:Int)+1)=((a+1:Nat):Int):=OG (by omega)
 simp only [Nlh,Nkn,M,SB,seval,NC,NJ,NG,NQ,reduceCtorEq,NB,place,NA,ND]
 refine NR (S:=Nat×Array α) (fun s=>b+1-s.1) (fun s fr H=>a<=s.1/\s.1<=b+1/\fr 0=.slice p n cap/\fr 1=Vi a/\fr 2=Vi b/\fr 3=.func (.func cl) #[] cs.toArray/\fr 8=Vi s.1/\
  H=DH enc G B s.2++X/\s.2.size=n/\insertionSort (ltC c) d a b=insOuter (ltC c) a b s.1 s.2) (a+1,d) ⟨by simp,by simp;omega,rfl,rfl,rfl,rfl,rfl,rfl,hd,rfl⟩ ?_
 rintro ⟨i,N⟩ fr H ⟨h1,h2,I,J,K,L,C,rfl,r,he⟩ O
 simp only at h1 h2 C r he
 rw [NS (Npe.eq_1 iz)]
 unfold insOuter at he
 by_cases m:i<b
 ·rw [Ni m] at he
  simp only [Nlh,Nkn,I,J,K,L,C,m,SB,seval,NC,NJ,NG,NQ,reduceCtorEq,NB,place,NA,ND]
  refine NR (S:=Nat×Array α) (fun s=>s.1) (fun s fr H=>s.1<=i/\fr 0=.slice p n cap/\fr 1=Vi a/\fr 2=Vi b/\fr 3=.func (.func cl) #[] cs.toArray/\fr 8=Vi i/\fr 9=Vi s.1/\
   H=DH enc G B s.2++X/\s.2.size=n/\insInner (ltC c) a i N=insInner (ltC c) a s.1 s.2) (i,N) ⟨Nd _,I,J,K,L,C,rfl,by simp,r,rfl⟩ ?_
  rintro ⟨j,l⟩ U Z ⟨k1,q,q1,q2,q3,D,F,rfl,f,hi⟩ hM
  simp only at k1 F f hi
  rw [NS (Nzl.eq_1 iz)]
  have t:IntKind.i64.wrap ((i:Int)+1)=((i+1:Nat):Int):=OG (by omega)
  by_cases g:a<j
  ·obtain ⟨j,rfl⟩:∃Y,j=Y+1:=⟨j-1,by omega⟩
   have u:IntKind.i64.wrap (((j+1:Nat):Int)-1)=(j:Int):=QX (n:=j+1) (by omega) (by omega)
   have T:=fun (X:NE) (d:Array α) (hd:d.size=n)=>YW (X:=X) (d:=d) (i:=j) hp hB (EncOk.len (enc:=enc) (z:=iz)) (by omega)
   have w:=fun (X:NE) (d:Array α) (hd:d.size=n)=>YW (X:=X) (d:=d) (i:=j+1) hp hB (EncOk.len (enc:=enc) (z:=iz)) (by omega)
   have st:=fun (X:NE) (d:Array α) (hd:d.size=n) (y:α)=>Yi (X:=X) (d:=d) (i:=j) (y:=y) hp hB hl (EncOk.len (enc:=enc) (z:=iz)) (by omega)
   have A:=fun (X:NE) (d:Array α) (hd:d.size=n) (y:α)=>Yi (X:=X) (d:=d) (i:=j+1) (y:=y) hp hB hl (EncOk.len (enc:=enc) (z:=iz)) (by omega)
   have R:=fun c (k:IntKind) (H:NE)=>Wq (e:=iz.e) (i:=j) (n:=n) (c:=c) (k:=k) (H:=H) hp (by omega)
   have v:=fun c (k:IntKind) (H:NE)=>Wq (e:=iz.e) (i:=j+1) (n:=n) (c:=c) (k:=k) (H:=H) hp (by omega)
   rw [insInner] at hi
   by_cases o:ltC c l[j+1]! l[j]! = true
   ·have h:c l[j+1]! l[j]!<0:=by simpa [ltC] using o
    simp only [Nlh,Nkn,q,q1,q2,q3,D,F,g,u,T,w,st,A,R,v,f,hc,h,Ng,(EncOk.len (enc:=enc) (z:=iz)),SB,seval,NC,NJ,NG,NQ,reduceCtorEq,NB,place,NA,ND]
    refine hM (j,swp l (j+1) j) _ _ ⟨by simp only;omega,q,q1,q2,q3,D,rfl,by simp [swp],by simp [swp,f], ?_⟩ (by simp only;omega)
    rw [hi];simp [g,o]
   ·have h:¬c l[j+1]! l[j]!<0:=by simpa [ltC] using o
    simp only [Nlh,Nkn,q,q1,q2,q3,D,F,g,u,T,w,st,A,R,v,f,hc,h,t,SB,seval,NC,NJ,NG,NQ,reduceCtorEq,NB,place,NA,ND]
    refine O (i+1,l) _ _ ⟨by simp only;omega,by simp only;omega,q,q1,q2,q3,rfl,by simp,f, ?_⟩ (by simp only;omega)
    rw [he,hi];simp [g,o]
  ·have P:¬(a:Int)<(j:Int):=by omega
   simp only [Nlh,Nkn,q,q1,q2,q3,D,F,g,t,SB,seval,NC,NJ,NG,NQ,reduceCtorEq,NB,place,NA,ND]
   refine O (i+1,l) _ _ ⟨by simp only;omega,by simp only;omega,q,q1,q2,q3,rfl,by simp,f, ?_⟩ (by simp only;omega)
   rw [he,hi]
   cases j with
   | zero=>rfl
   | succ j=>rw [insInner];simp [show ¬j+1 > a by omega]
 ·rw [Nh m] at he
  simp only [Nlh,Nkn,I,J,K,L,C,m,he,SB,seval,NC,NJ,NG,NQ,reduceCtorEq,NB,place,NA,ND]
theorem N6e {G X:NE} {B lim cap n:Nat} {p:Option Addr} {c:α->α->Int} {cl:FuncId} {cs:List Value} {Q:Value->NE->Prop} (hp:p=Sa B) (hB:B<G.length) (hl:lim<=B) (A:n<2 ^ 61) (hc:∀(mp:Bool) (lim:Nat) (x y:α) (H:NE) (Q:Value->NE->Prop),NL E mp lim cl (.agg (enc x).toArray::.agg (enc y).toArray::cs) H Q=Q (Vi (c x y)) H) {d:Array α} {a b:Nat} (hd:d.size=n) (F:b<=n) (v:a<b) :
  NL E false lim iz.REV [.slice p n cap,Vi a,Vi b,.func (.func cl) #[] cs.toArray] (DH enc G B d++X) Q=Q (.tuple #[]) (DH enc G B (reverseRange d a b)++X):=by
 refine runs (SortAt.REV (E:=E) (z:=iz)) ?_
 rw [Odn,N7l]
 have o:IntKind.i64.wrap ((b:Int)-1)=((b-1:Nat):Int):=QX (by omega) (by omega)
 simp only [N60,N6f,o,SB,seval,NC,NJ,NG,NQ,reduceCtorEq,NB,place,NA,ND]
 have D:=fun (i:Nat) (X:NE) (d:Array α) (hd:d.size=n) (hi:i<n)=>YW (X:=X) (d:=d) (i:=i) hp hB (EncOk.len (enc:=enc) (z:=iz)) (by omega);have st:=fun (i:Nat) (X:NE) (d:Array α) (hd:d.size=n) (hi:i<n) (y:α)=>Yi (X:=X) (d:=d) (i:=i) (y:=y) hp hB hl (EncOk.len (enc:=enc) (z:=iz)) (by omega);have C:=fun (i:Nat) (hi:i<n) c (k:IntKind) (H:NE)=>Wq (e:=iz.e) (i:=i) (n:=n) (c:=c) (k:=k) (H:=H) hp hi
 refine NR (S:=(Nat×Nat)×Array α) (fun s=>s.1.2+1-s.1.1) (fun s fr H=>s.1.1<=b/\s.1.2<b/\fr 0=.slice p n cap/\fr 8=Vi s.1.1/\fr 9=Vi s.1.2/\
  H=DH enc G B s.2++X/\s.2.size=n/\reverseRange d a b=reverseLoop s.1.1 s.1.2 s.2) ((a,b-1),d) ⟨by simp;omega,by simp;omega,rfl,rfl,rfl,rfl,hd,rfl⟩ ?_
 rintro ⟨⟨i,j⟩,t⟩ fr H ⟨h1,h2,h,l,m,rfl,g,he⟩ u
 simp only at h1 h2 l m g he
 rw [NS (Nze.eq_1 iz)]
 unfold reverseLoop at he
 by_cases f:i<j
 ·rw [Ni f] at he
  have q:IntKind.i64.wrap ((i:Int)+1)=((i+1:Nat):Int):=OG (by omega)
  have r:IntKind.i64.wrap ((j:Int)-1)=((j-1:Nat):Int):=QX (by omega) (by omega)
  have hi:i<n:=by omega
  have w:j<n:=by omega
  simp only [N60,N6f,h,l,m,f,q,r,D,st,C,Nb,Ng,(EncOk.len (enc:=enc) (z:=iz)),g,hi,w,SB,seval,NC,NJ,NG,NQ,reduceCtorEq,NB,place,NA,ND]
  refine u ((i+1,j-1),swp t i j) _ _ ⟨by simp only;omega,by simp only;omega,h,rfl,rfl,by simp [swp],by simp [swp,g],he⟩ (by simp only;omega)
 ·rw [Nh f] at he
  simp only [N60,N6f,h,l,m,f,he,SB,seval,NC,NJ,NG,NQ,reduceCtorEq,NB,place,NA,ND]
theorem Ncp {G X:NE} {B lim cap n:Nat} {p:Option Addr} {c:α->α->Int} {cl:FuncId} {cs:List Value} {Q:Value->NE->Prop} (hp:p=Sa B) (hB:B<G.length) (hl:lim<=B) (Y:n<2 ^ 61) (hc:∀(mp:Bool) (lim:Nat) (x y:α) (H:NE) (Q:Value->NE->Prop),NL E mp lim cl (.agg (enc x).toArray::.agg (enc y).toArray::cs) H Q=Q (Vi (c x y)) H) {d:Array α} {lo hi first:Nat} (hd:d.size=n) (Z:first+hi<=n) (V:lo<=hi) :
  NL E false lim iz.SIFT [.slice p n cap,Vi lo,Vi hi,Vi first,.func (.func cl) #[] cs.toArray] (DH enc G B d++X) Q=Q (.tuple #[]) (DH enc G B (siftDown (ltC c) hi first lo d)++X):=by
 refine runs (SortAt.SIFT (E:=E) (z:=iz)) ?_
 rw [N98,N1f]
 generalize W:siftDown (ltC c) hi first lo d=T
 simp only [Nbw,Nbq,SB,seval,NC,NJ,NG,NQ,reduceCtorEq,NB,place,NA,ND]
 have O:=fun (i:Nat) (X:NE) (d:Array α) (hd:d.size=n) (hi:i<n)=>YW (X:=X) (d:=d) (i:=i) hp hB (EncOk.len (enc:=enc) (z:=iz)) (by omega);have st:=fun (i:Nat) (X:NE) (d:Array α) (hd:d.size=n) (hi:i<n) (y:α)=>Yi (X:=X) (d:=d) (i:=i) (y:=y) hp hB hl (EncOk.len (enc:=enc) (z:=iz)) (by omega);have N:=fun (i:Nat) (hi:i<n) c (k:IntKind) (H:NE)=>Wq (e:=iz.e) (i:=i) (n:=n) (c:=c) (k:=k) (H:=H) hp hi
 refine NR (S:=Nat×Array α) (fun s=>hi-s.1) (fun s fr H=>s.1<=hi/\fr 0=.slice p n cap/\fr 2=Vi hi/\fr 3=Vi first/\fr 4=.func (.func cl) #[] cs.toArray/\fr 10=Vi s.1/\
  H=DH enc G B s.2++X/\s.2.size=n/\T=siftDown (ltC c) hi first s.1 s.2) (lo,d) ⟨V,rfl,rfl,rfl,rfl,rfl,rfl,hd,W.symm⟩ ?_
 rintro ⟨r,l⟩ fr H ⟨h1,w,A,C,D,f,rfl,a,he⟩ U
 simp only at h1 f a he
 rw [NS (Nrk.eq_1 iz)]
 unfold siftDown at he
 have g:IntKind.i64.wrap (2*(r:Int))=((2*r:Nat):Int):=by rw [NT (by omega) (by omega)];omega
 have j:IntKind.i64.wrap (((2*r:Nat):Int)+1)=((2*r+1:Nat):Int):=OG (by omega)
 have m:IntKind.i64.wrap (((2*r+1:Nat):Int)+1)=((2*r+2:Nat):Int):=OG (by omega)
 have o:IntKind.i64.wrap ((first:Int)+((2*r+1:Nat):Int))=((first+(2*r+1):Nat):Int):=by rw [NT (by omega) (by omega)];omega
 have q:IntKind.i64.wrap (((first+(2*r+1):Nat):Int)+1)=((first+(2*r+2):Nat):Int):=OG (by omega)
 have t:IntKind.i64.wrap ((first:Int)+((2*r+2:Nat):Int))=((first+(2*r+2):Nat):Int):=by rw [NT (by omega) (by omega)];omega
 have u:IntKind.i64.wrap ((first:Int)+(r:Int))=((first+r:Nat):Int):=by rw [NT (by omega) (by omega)];omega
 by_cases R:2*r+1>=hi
 ·rw [Rc R] at he
  have b:hi<=2*r+1:=R
  simp only [Nbw,Nbq,w,A,C,D,f,g,j,b,he,SB,seval,NC,NJ,NG,NQ,reduceCtorEq,NB,place,NA,ND]
 ·rw [dif_neg R] at he
  have b:¬hi<=2*r+1:=R
  have K:first+(2*r+1)<n:=by omega
  have L:first+r<n:=by omega
  by_cases J:2*r+1+1<hi/\c l[first+(2*r+1)]! l[first+(2*r+2)]!<0
  ·obtain ⟨J,I⟩:=J
   have M:first+(2*r+2)<n:=by omega
   have F:2*r+2<hi:=by omega
   rw [Ni (by simp only [Ny,Oa,ltC];exact ⟨J,by rw [show first+(2*r+1)+1=first+(2*r+2) by omega];exact I⟩)] at he
   by_cases v:c l[first+r]! l[first+(2*r+2)]!<0
   ·rw [Nh (by simp [ltC,v]),Rc F] at he
    simp only [Nbw,Nbq,w,A,C,D,f,g,j,m,o,q,t,u,b,F,I,v,O,st,N,Nb,Ng,(EncOk.len (enc:=enc) (z:=iz)),a,K,L,M,hc,SB,seval,NC,NJ,NG,NQ,reduceCtorEq,NB,place,NA,ND]
    refine U (2*r+2,swp l (first+r) (first+(2*r+2))) _ _ ⟨by simp only;omega,w,A,C,D,rfl,by simp [swp],by simp [swp,a],he⟩ (by simp only;omega)
   ·rw [Ni (by simp [ltC,v])] at he
    simp only [Nbw,Nbq,w,A,C,D,f,g,j,m,o,q,t,u,b,F,I,v,O,st,N,Nb,Ng,(EncOk.len (enc:=enc) (z:=iz)),a,K,L,M,hc,he,SB,seval,NC,NJ,NG,NQ,reduceCtorEq,NB,place,NA,ND]
  ·rw [Nh (by simp only [Ny,Oa,ltC];rw [show first+(2*r+1)+1=first+(2*r+2) by omega];exact J)] at he
   by_cases v:c l[first+r]! l[first+(2*r+1)]!<0
   ·rw [Nh (by simp [ltC,v])] at he
    by_cases P:2*r+2<hi
    ·have I:¬c l[first+(2*r+1)]! l[first+(2*r+2)]!<0:=fun h=>J ⟨by omega,h⟩
     have M:first+(2*r+2)<n:=by omega
     simp only [Nbw,Nbq,w,A,C,D,f,g,j,m,o,q,t,u,b,P,I,v,O,st,N,Nb,Ng,(EncOk.len (enc:=enc) (z:=iz)),a,K,L,M,hc,SB,seval,NC,NJ,NG,NQ,reduceCtorEq,NB,place,NA,ND]
     refine U (2*r+1,swp l (first+r) (first+(2*r+1))) _ _ ⟨by simp only;omega,w,A,C,D,rfl,by simp [swp],by simp [swp,a],he⟩ (by simp only;omega)
    ·simp only [Nbw,Nbq,w,A,C,D,f,g,j,m,o,q,t,u,b,P,v,O,st,N,Nb,Ng,(EncOk.len (enc:=enc) (z:=iz)),a,K,L,hc,SB,seval,NC,NJ,NG,NQ,reduceCtorEq,NB,place,NA,ND]
     refine U (2*r+1,swp l (first+r) (first+(2*r+1))) _ _ ⟨by simp only;omega,w,A,C,D,rfl,by simp [swp],by simp [swp,a],he⟩ (by simp only;omega)
   ·rw [Ni (by simp [ltC,v])] at he
    by_cases P:2*r+2<hi
    ·have I:¬c l[first+(2*r+1)]! l[first+(2*r+2)]!<0:=fun h=>J ⟨by omega,h⟩
     have M:first+(2*r+2)<n:=by omega
     simp only [Nbw,Nbq,w,A,C,D,f,g,j,m,o,q,t,u,b,P,I,v,O,st,N,Nb,Ng,(EncOk.len (enc:=enc) (z:=iz)),a,K,L,M,hc,he,SB,seval,NC,NJ,NG,NQ,reduceCtorEq,NB,place,NA,ND]
    ·simp only [Nbw,Nbq,w,A,C,D,f,g,j,m,o,q,t,u,b,P,v,O,st,N,Nb,Ng,(EncOk.len (enc:=enc) (z:=iz)),a,K,L,hc,he,SB,seval,NC,NJ,NG,NQ,reduceCtorEq,NB,place,NA,ND]
variable {E:Env} {iz:Ids} [DT E E] [SortAt E iz] {α:Type} [Inhabited α] {enc:α->List Value} [EncOk enc iz]
theorem Nnm {α:Type} [Inhabited α] {d:Array α} {i j:Nat}:(swp d i j).size=d.size:=by simp [swp]
theorem Wz {α:Type} [Inhabited α] {lt:α->α->Bool} {hi first:Nat}:∀(m r:Nat) (d:Array α),hi-r<=m->(siftDown lt hi first r d).size=d.size
 | 0,r,d,h=>by
   rw [siftDown,Rc (by omega)]
 | m+1,r,d,h=>by
   rw [siftDown]
   split
   ·rfl
   ·split
    ·split
     ·rfl
     ·split
      ·rw [Wz m _ _ (by omega),Nnm]
      ·rfl
    ·split
     ·rfl
     ·rw [Wz m _ _ (by omega),Nnm]
theorem N3w {G X:NE} {B lim cap n:Nat} {p:Option Addr} {c:α->α->Int} {cl:FuncId} {cs:List Value} {Q:Value->NE->Prop} (hp:p=Sa B) (hB:B<G.length) (hl:lim<=B) (J:n<2 ^ 61) (hc:∀(mp:Bool) (lim:Nat) (x y:α) (H:NE) (Q:Value->NE->Prop),NL E mp lim cl (.agg (enc x).toArray::.agg (enc y).toArray::cs) H Q=Q (Vi (c x y)) H) {d:Array α} {a b:Nat} (hd:d.size=n) (hb:b<=n) (aa:a<=b) :
  NL E false lim iz.HEAP [.slice p n cap,Vi a,Vi b,.func (.func cl) #[] cs.toArray] (DH enc G B d++X) Q=Q (.tuple #[]) (DH enc G B (heapSort (ltC c) d a b)++X):=by
 refine runs (SortAt.HEAP (E:=E) (z:=iz)) ?_
 rw [Oae,N1j]
 obtain ⟨h,rfl⟩:∃h,b=a+h:=⟨b-a,by omega⟩
 have K:IntKind.i64.wrap (((a+h:Nat):Int)-(a:Int))=(h:Int):=by rw [NT (by omega) (by omega)];omega
 have v:IntKind.i64.wrap ((h:Int)-1)=(h:Int)-1:=NT (by omega) (by omega)
 have L:IntKind.i64.wrap (((h:Int)-1).tdiv 2)=(((h-1) / 2+1:Nat):Int)-1:=by
  rcases Qq h with rfl | h0
  ·decide
  ·rw [Ph (by omega),NT (by omega) (by omega)];omega
 generalize V:heapSort (ltC c) d a (a+h)=T
 rw [heapSort,show a+h-a=h by omega] at V
 have ld:=fun (i:Nat) (X:NE) (d:Array α) (hd:d.size=n) (hi:i<n)=>YW (X:=X) (d:=d) (i:=i) hp hB (EncOk.len (enc:=enc) (z:=iz)) (by omega);have st:=fun (i:Nat) (X:NE) (d:Array α) (hd:d.size=n) (hi:i<n) (y:α)=>Yi (X:=X) (d:=d) (i:=i) (y:=y) hp hB hl (EncOk.len (enc:=enc) (z:=iz)) (by omega);have ix:=fun (i:Nat) (hi:i<n) c (k:IntKind) (H:NE)=>Wq (e:=iz.e) (i:=i) (n:=n) (c:=c) (k:=k) (H:=H) hp hi
 have g:=fun (X:NE) (d:Array α) (lo hi:Nat) (hd:d.size=n) (W:hi<=h) (I:lo<=hi) Q=>Ncp (X:=X) (d:=d) (lo:=lo) (hi:=hi) (first:=a) (cap:=cap) (Q:=Q) hp hB hl J hc hd (by omega) I
 simp only [Nli,Nko,K,v,L,SB,seval,NC,NJ,NG,NQ,reduceCtorEq,NB,place,NA,ND]
 refine NR (S:=Nat×Array α) (fun s=>s.1) (fun s fr H=>s.1<=h+1/\(h=0->s.1<=1)/\(0<h->s.1<=h)/\fr 0=.slice p n cap/\fr 3=.func (.func cl) #[] cs.toArray/\fr 8=Vi a/\fr 9=Vi 0/\fr 10=Vi h/\fr 11=Vi ((s.1:Int)-1)/\
  H=DH enc G B s.2++X/\s.2.size=n/\T=heapPop (ltC c) a h (heapBuild (ltC c) h a s.1 s.2)) ((h-1) / 2+1,d) ⟨by simp only;omega,by simp only;omega,by simp only;omega,rfl,rfl,rfl,rfl,rfl,rfl,rfl,hd,V.symm⟩ ?_
 rintro ⟨k,R⟩ fr H ⟨h1,h2,h3,w,A,C,D,o,j,rfl,l,he⟩ U
 simp only at h1 h2 h3 j l he
 rw [NS (Nrq.eq_1 iz)]
 cases k with
 | succ k=>
   have hk:((k+1:Nat):Int)-1=(k:Int):=by omega
   rw [hk] at j
   have u:IntKind.i64.wrap ((k:Int)-1)=(k:Int)-1:=NT (by omega) (by omega)
   have t:k<=h:=by omega
   have r:(0:Int)<=(k:Int):=by omega
   simp only [Nli,Nko,w,A,C,D,o,j,r,u,g,l,t,SB,seval,NC,NJ,NG,NQ,reduceCtorEq,NB,place,NA,ND]
   refine U (k,siftDown (ltC c) h a k R) _ _ ⟨by simp only;omega,by simp only;omega,by simp only;omega,w,A,C,D,o,rfl,by simp,by simp only;rw [Wz _ _ _ (Nd _),l],he⟩ (by simp only;omega)
 | zero=>
   clear U
   rw [heapBuild] at he
   simp only [Nli,Nko,w,A,C,D,o,j,v,Qr,Int.ofNat_eq_natCast,Int.reduceSub,Int.zero_sub,Int.reduceNeg,SB,seval,NC,NJ,NG,NQ,reduceCtorEq,NB,place,NA,ND]
   refine NR (S:=Nat×Array α) (fun s=>s.1) (fun s fr H=>s.1<=h/\fr 0=.slice p n cap/\fr 3=.func (.func cl) #[] cs.toArray/\fr 8=Vi a/\fr 9=Vi 0/\fr 12=Vi ((s.1:Int)-1)/\
    H=DH enc G B s.2++X/\s.2.size=n/\T=heapPop (ltC c) a s.1 s.2) (h,R) ⟨Nd _,w,A,C,D,rfl,by simp,l,he⟩ ?_
   rintro ⟨k,Y⟩ Z H2 ⟨k1,N,q3,O,P,m,rfl,q,F⟩ hM
   simp only at k1 m q F
   rw [NS (Nrr.eq_1 iz)]
   cases k with
   | succ k=>
     have hk:((k+1:Nat):Int)-1=(k:Int):=by omega
     rw [hk] at m
     have u:IntKind.i64.wrap ((k:Int)-1)=(k:Int)-1:=NT (by omega) (by omega)
     have M:IntKind.i64.wrap ((a:Int)+(k:Int))=((a+k:Nat):Int):=by rw [NT (by omega) (by omega)];omega
     have i1:a<n:=by omega
     have i2:a+k<n:=by omega
     have t:k<=h:=by omega
     have r:(0:Int)<=(k:Int):=by omega
     have f:=fun (X:NE) (d:Array α) (hi:Nat) (hd:d.size=n) (W:hi<=h) Q=>g X d 0 hi hd W (Nz _) Q
     simp only [show ((0:Nat):Int)=0 from rfl] at f
     simp only [Nli,Nko,N,q3,O,P,m,r,u,M,f,q,t,ld,st,ix,Nb,Ng,(EncOk.len (enc:=enc) (z:=iz)),i1,i2,SB,seval,NC,NJ,NG,NQ,reduceCtorEq,NB,place,NA,ND]
     refine hM (k,siftDown (ltC c) k a 0 (swp Y a (a+k))) _ _ ⟨by simp only;omega,N,q3,O,P,rfl,by simp [swp],by simp only;rw [Wz _ _ _ (Nd _),Nnm,q],F⟩ (by simp only;omega)
   | zero=>
     rw [heapPop] at F
     simp only [Nli,Nko,N,q3,O,P,m,F,Int.reduceSub,Int.zero_sub,Int.reduceNeg,SB,seval,NC,NJ,NG,NQ,reduceCtorEq,NB,place,NA,ND]
variable {E:Env} {iz:Ids} [DT E E] [SortAt E iz] {α:Type} [Inhabited α] {enc:α->List Value} [EncOk enc iz]
theorem Yy {α:Type} [Inhabited α] {p:α->Bool} {d:Array α} {j i:Nat} (h:i<=j) (hp:p d[i]! = true):scanUp p d j i=scanUp p d j (i+1):=by
 rw [scanUp];simp [h,hp]
theorem Yx {α:Type} [Inhabited α] {p:α->Bool} {d:Array α} {j i:Nat} (h:i<=j->p d[i]! = false):scanUp p d j i=i:=by
 rw [scanUp]
 by_cases q:i<=j
 ·simp [h q]
 ·simp [q]
theorem WP {α:Type} [Inhabited α] {p:α->Bool} {d:Array α} {j i:Nat} (h:i<=j) (b:0<j) (hp:p d[j]! = true):scanDown p d i j=scanDown p d i (j-1):=by
 obtain ⟨j,rfl⟩:∃a,j=a+1:=⟨j-1,by omega⟩
 rw [scanDown];simp [h,hp]
theorem WO {α:Type} [Inhabited α] {p:α->Bool} {d:Array α} {j i:Nat} (h:i<=j->p d[j]! = false):scanDown p d i j=j:=by
 cases j with
 | zero=>rfl
 | succ j=>
   rw [scanDown]
   by_cases q:i<=j+1
   ·simp [h q]
   ·simp [q]
theorem Nks {α:Type} [Inhabited α] {lt:α->α->Bool} {a i j b c:Nat} {d:Array α} (h1:scanUp (fun x=>!lt d[a]! x) d j i=b) (h2:scanDown (fun x=>lt d[a]! x) d b j=c) (h:b > c):partEqLoop lt a i j d=(b,d):=by
 rw [partEqLoop];simp only [h1,h2];rw [Ni h]
theorem Nkt {α:Type} [Inhabited α] {lt:α->α->Bool} {a i j b c:Nat} {d:Array α} (h1:scanUp (fun x=>!lt d[a]! x) d j i=b) (h2:scanDown (fun x=>lt d[a]! x) d b j=c) (h:¬b > c) (e:i<=b) (f:c<=j) (g:0<b):partEqLoop lt a i j d=partEqLoop lt a (b+1) (c-1) (swp d b c):=by
 rw [partEqLoop];simp only [h1,h2];rw [Nh h,Rc (by omega)]
theorem N6m {G X:NE} {B lim cap n:Nat} {p:Option Addr} {c:α->α->Int} {cl:FuncId} {cs:List Value} {Q:Value->NE->Prop} (hp:p=Sa B) (hB:B<G.length) (hl:lim<=B) (ac:n<2 ^ 61) (hc:∀(mp:Bool) (lim:Nat) (x y:α) (H:NE) (Q:Value->NE->Prop),NL E mp lim cl (.agg (enc x).toArray::.agg (enc y).toArray::cs) H Q=Q (Vi (c x y)) H) {d:Array α} {a b v:Nat} (hd:d.size=n) (hb:b<=n) (ab:a<=v) (ad:v<b) :
  NL E false lim iz.PEQ [.slice p n cap,Vi a,Vi b,Vi v,.func (.func cl) #[] cs.toArray] (DH enc G B d++X) Q=Q (Vi ((partitionEqual (ltC c) d a b v).1:Nat)) (DH enc G B (partitionEqual (ltC c) d a b v).2++X):=by
 refine runs (SortAt.PEQ (E:=E) (z:=iz)) ?_
 rw [Odp,N7n]
 have V:IntKind.i64.wrap ((b:Int)-1)=((b-1:Nat):Int):=QX (by omega) (by omega)
 have W:IntKind.i64.wrap ((a:Int)+1)=((a+1:Nat):Int):=OG (by omega)
 generalize hT:partitionEqual (ltC c) d a b v=T
 rw [partitionEqual] at hT
 have w:=fun (i:Nat) (X:NE) (d:Array α) (hd:d.size=n) (hi:i<n)=>YW (X:=X) (d:=d) (i:=i) hp hB (EncOk.len (enc:=enc) (z:=iz)) (by omega);have st:=fun (i:Nat) (X:NE) (d:Array α) (hd:d.size=n) (hi:i<n) (y:α)=>Yi (X:=X) (d:=d) (i:=i) (y:=y) hp hB hl (EncOk.len (enc:=enc) (z:=iz)) (by omega);have u:=fun (i:Nat) (hi:i<n) c (k:IntKind) (H:NE)=>Wq (e:=iz.e) (i:=i) (n:=n) (c:=c) (k:=k) (H:=H) hp hi
 have M:a<n:=by omega
 have i2:v<n:=by omega
 simp only [Nlg,Nkm,V,W,w,st,u,Nb,Ng,(EncOk.len (enc:=enc) (z:=iz)),hd,M,i2,SB,seval,NC,NJ,NG,NQ,reduceCtorEq,NB,place,NA,ND]
 refine NR (S:=(Nat×Nat)×Array α) (fun s=>s.1.2+1-s.1.1) (fun s fr H=>a<s.1.1/\s.1.1<=b/\s.1.2<b/\fr 0=.slice p n cap/\fr 1=Vi a/\fr 4=.func (.func cl) #[] cs.toArray/\fr 11=Vi s.1.1/\fr 12=Vi s.1.2/\
  H=DH enc G B s.2++X/\s.2.size=n/\T=partEqLoop (ltC c) a s.1.1 s.1.2 s.2) ((a+1,b-1),swp d a v) ⟨by simp only;omega,by simp only;omega,by simp only;omega,rfl,rfl,rfl,rfl,rfl,by simp [swp],by simp [swp,hd],hT.symm⟩ ?_
 rintro ⟨⟨i,j⟩,f⟩ fr H ⟨h1,h2,h3,g0,g1,g4,F,I,rfl,l,he⟩ hN
 simp only at h1 h2 h3 F I l he
 rw [NS (Nzi.eq_1 iz)]
 simp only [Nlg,Nkm,SB,seval,NC,NJ,NG,NQ,reduceCtorEq,NB,place,NA,ND]
 refine NR (S:=Nat) (fun s=>b+1-s) (fun s fr H=>i<=s/\s<=b/\fr 0=.slice p n cap/\fr 1=Vi a/\fr 4=.func (.func cl) #[] cs.toArray/\fr 11=Vi s/\fr 12=Vi j/\
  H=DH enc G B f++X/\scanUp (fun x=>!ltC c f[a]! x) f j i=scanUp (fun x=>!ltC c f[a]! x) f j s) i ⟨Nd _,h2,g0,g1,g4,F,I,rfl,rfl⟩ ?_
 rintro g fr1 H1 ⟨k1,k2,O,q1,P,r,m,rfl,hs⟩ hM
 rw [NS (Nzj.eq_1 iz)]
 by_cases C:g<=j/\¬c f[a]! f[g]!<0
 ·obtain ⟨C,c2⟩:=C
  have Y:IntKind.i64.wrap ((g:Int)+1)=((g+1:Nat):Int):=OG (by omega)
  have i3:g<n:=by omega
  simp only [Nlg,Nkm,O,q1,P,r,m,C,c2,Y,w,st,u,Nb,Ng,(EncOk.len (enc:=enc) (z:=iz)),l,M,i3,hc,SB,seval,NC,NJ,NG,NQ,reduceCtorEq,NB,place,NA,ND]
  exact hM (g+1) _ _ ⟨by omega,by omega,O,q1,P,rfl,m,rfl,by rw [hs,Yy C (by simp [ltC,c2])]⟩ (by omega)
 have K:scanUp (fun x=>!ltC c f[a]! x) f j i=g:=by
  rw [hs,Yx]
  intro q
  by_cases q2:c f[a]! f[g]!<0
  ·simp [ltC,q2]
  ·exact absurd ⟨q,q2⟩ C
 clear hM
 have hx:(g<=j/\c f[a]! f[g]!<0)\/¬g<=j:=by
  by_cases q:g<=j
  ·exact .inl ⟨q,N4 fun q2=>C ⟨q,q2⟩⟩
  ·exact .inr q
 have i0:g<=j->g<n:=fun q=>by omega
 rcases hx with ⟨c2,c3⟩ | c2
 case' inl=>simp only [Nlg,Nkm,O,q1,P,r,m,c2,c3,w,st,u,Nb,Ng,(EncOk.len (enc:=enc) (z:=iz)),l,M,i0 c2,hc,SB,seval,NC,NJ,NG,NQ,reduceCtorEq,NB,place,NA,ND]
 case' inr=>simp only [Nlg,Nkm,O,q1,P,r,m,c2,w,st,u,Nb,Ng,(EncOk.len (enc:=enc) (z:=iz)),SB,seval,NC,NJ,NG,NQ,reduceCtorEq,NB,place,NA,ND]
 all_goals
  refine NR (S:=Nat) (fun s=>s) (fun s fr H=>s<=j/\fr 0=.slice p n cap/\fr 1=Vi a/\fr 4=.func (.func cl) #[] cs.toArray/\fr 11=Vi g/\fr 12=Vi s/\
   H=DH enc G B f++X/\scanDown (fun x=>ltC c f[a]! x) f g j=scanDown (fun x=>ltC c f[a]! x) f g s) j ⟨Nd _,O,q1,P,r,m,rfl,rfl⟩ ?_
  rintro h aa H2 ⟨m1,N,p1,p4,o,A,rfl,J⟩ hM
  rw [NS (Nzk.eq_1 iz)]
  have i4:h<n:=by omega
  by_cases D:g<=h/\c f[a]! f[h]!<0
  ·obtain ⟨D,c5⟩:=D
   have t:IntKind.i64.wrap ((h:Int)-1)=((h-1:Nat):Int):=QX (by omega) (by omega)
   simp only [Nlg,Nkm,N,p1,p4,o,A,D,c5,t,w,st,u,Nb,Ng,(EncOk.len (enc:=enc) (z:=iz)),l,M,i4,hc,SB,seval,NC,NJ,NG,NQ,reduceCtorEq,NB,place,NA,ND]
   exact hM (h-1) _ _ ⟨by omega,N,p1,p4,o,rfl,rfl,by rw [J,WP D (by omega) (by simp [ltC,c5])]⟩ (by omega)
  have L:scanDown (fun x=>ltC c f[a]! x) f g j=h:=by
   rw [J,WO]
   intro q
   have q2:¬c f[a]! f[h]!<0:=fun q2=>D ⟨q,q2⟩
   simp [ltC,q2]
  clear hM
  by_cases R:h<g
  ·have U:¬g<=h:=by omega
   rw [Nks K L R] at he
   simp only [Nlg,Nkm,N,p1,p4,o,A,U,R,w,st,u,Nb,Ng,(EncOk.len (enc:=enc) (z:=iz)),he,SB,seval,NC,NJ,NG,NQ,reduceCtorEq,NB,place,NA,ND]
  ·have U:g<=h:=by omega
   have c8:¬c f[a]! f[h]!<0:=fun q=>D ⟨U,q⟩
   rw [Nkt K L R k1 m1 (by omega)] at he
   have i5:g<n:=by omega
   have t:IntKind.i64.wrap ((h:Int)-1)=((h-1:Nat):Int):=QX (by omega) (by omega)
   have Z:IntKind.i64.wrap ((g:Int)+1)=((g+1:Nat):Int):=OG (by omega)
   simp only [Nlg,Nkm,N,p1,p4,o,A,U,R,c8,t,Z,w,st,u,Nb,Ng,(EncOk.len (enc:=enc) (z:=iz)),l,M,i4,i5,hc,SB,seval,NC,NJ,NG,NQ,reduceCtorEq,NB,place,NA,ND]
   exact hN ((g+1,h-1),swp f g h) _ _ ⟨by simp only;omega,by simp only;omega,by simp only;omega,N,p1,p4,rfl,rfl,by simp [swp],by simp [swp,l],he⟩ (by simp only;omega)
variable {E:Env} {iz:Ids} [DT E E] [SortAt E iz] {α:Type} [Inhabited α] {enc:α->List Value} [EncOk enc iz]
theorem Ns4 {α:Type} [Inhabited α] {lt:α->α->Bool} {a i j b c:Nat} {d:Array α} (h1:scanUp (fun x=>lt x d[a]!) d j i=b) (h2:scanDown (fun x=>!lt x d[a]!) d b j=c) (h:b > c):partLoop lt a i j d=(c,d):=by
 rw [partLoop];simp only [h1,h2];rw [Ni h]
theorem Ns6 {α:Type} [Inhabited α] {lt:α->α->Bool} {a i j b c:Nat} {d:Array α} (h1:scanUp (fun x=>lt x d[a]!) d j i=b) (h2:scanDown (fun x=>!lt x d[a]!) d b j=c) (h:¬b > c) (e:i<=b) (f:c<=j) (g:0<b):partLoop lt a i j d=partLoop lt a (b+1) (c-1) (swp d b c):=by
 rw [partLoop];simp only [h1,h2];rw [Nh h,Rc (by omega)]
theorem Ns5 {G X:NE} {B lim cap n:Nat} {p:Option Addr} {c:α->α->Int} {cl:FuncId} {cs:List Value} {Q:Value->NE->Prop} (hp:p=Sa B) (hB:B<G.length) (hl:lim<=B) (aq:n<2 ^ 61) (hc:∀(mp:Bool) (lim:Nat) (x y:α) (H:NE) (Q:Value->NE->Prop),NL E mp lim cl (.agg (enc x).toArray::.agg (enc y).toArray::cs) H Q=Q (Vi (c x y)) H) {d:Array α} {a b v:Nat} (hd:d.size=n) (hb:b<=n) (ap:a<=v) (ar:v<b) :
  NL E false lim iz.PART [.slice p n cap,Vi a,Vi b,Vi v,.func (.func cl) #[] cs.toArray] (DH enc G B d++X) Q=Q (.tuple #[Vi ((Sort.partition (ltC c) d a b v).1:Nat),.bool (Sort.partition (ltC c) d a b v).2.1]) (DH enc G B (Sort.partition (ltC c) d a b v).2.2++X):=by
 refine runs (SortAt.PART (E:=E) (z:=iz)) ?_
 rw [N99,N1h]
 have aj:IntKind.i64.wrap ((b:Int)-1)=((b-1:Nat):Int):=QX (by omega) (by omega)
 have ak:IntKind.i64.wrap ((a:Int)+1)=((a+1:Nat):Int):=OG (by omega)
 generalize N:Sort.partition (ltC c) d a b v=T
 rw [Sort.partition] at N
 have A:=fun (i:Nat) (X:NE) (d:Array α) (hd:d.size=n) (hi:i<n)=>YW (X:=X) (d:=d) (i:=i) hp hB (EncOk.len (enc:=enc) (z:=iz)) (by omega);have st:=fun (i:Nat) (X:NE) (d:Array α) (hd:d.size=n) (hi:i<n) (y:α)=>Yi (X:=X) (d:=d) (i:=i) (y:=y) hp hB hl (EncOk.len (enc:=enc) (z:=iz)) (by omega);have w:=fun (i:Nat) (hi:i<n) c (k:IntKind) (H:NE)=>Wq (e:=iz.e) (i:=i) (n:=n) (c:=c) (k:=k) (H:=H) hp hi
 have J:a<n:=by omega
 have i2:v<n:=by omega
 simp only [WB,W9,aj,ak,A,st,w,Nb,Ng,(EncOk.len (enc:=enc) (z:=iz)),hd,J,i2,SB,seval,NC,NJ,NG,NQ,reduceCtorEq,NB,place,NA,ND]
 have r:(swp d a v).size=n:=by simp [swp,hd]
 have ac:(d.setIfInBounds a d[v]!).setIfInBounds v d[a]! = swp d a v:=rfl
 rw [ac]
 generalize swp d a v=g at N r
 have k0:a+1<=b:=by omega
 refine NR (S:=Nat) (fun s=>b+1-s) (fun s fr H=>(a+1)<=s/\s<=(b-1)+1/\fr 0=.slice p n cap/\fr 1=Vi a/\fr 4=.func (.func cl) #[] cs.toArray/\fr 12=Vi s/\fr 13=Vi ((b-1:Nat):Int)/\
  H=DH enc G B g++X/\scanUp (fun x=>ltC c x g[a]!) g (b-1) (a+1)=scanUp (fun x=>ltC c x g[a]!) g (b-1) s) (a+1) ⟨Nd _,by omega,rfl,rfl,rfl,rfl,rfl,rfl,rfl⟩ ?_
 rintro f fr1 H1 ⟨x1,k2,K,q1,M,o,m,rfl,hs⟩ hM
 rw [NS (Nrl.eq_1 iz)]
 by_cases c1:f<=(b-1)/\c g[f]! g[a]!<0
 ·obtain ⟨C,cc2⟩:=c1
  have W:IntKind.i64.wrap ((f:Int)+1)=((f+1:Nat):Int):=OG (by omega)
  have i3:f<n:=by omega
  simp only [WB,W9,K,q1,M,o,m,C,cc2,W,A,st,w,Nb,Ng,(EncOk.len (enc:=enc) (z:=iz)),r,J,i3,hc,SB,seval,NC,NJ,NG,NQ,reduceCtorEq,NB,place,NA,ND]
  exact hM (f+1) _ _ ⟨by omega,by omega,K,q1,M,rfl,m,rfl,by rw [hs,Yy C (by simp [ltC,cc2])]⟩ (by omega)
 have U:scanUp (fun x=>ltC c x g[a]!) g (b-1) (a+1)=f:=by
  rw [hs,Yx]
  intro q
  have q2:¬c g[f]! g[a]!<0:=fun q2=>c1 ⟨q,q2⟩
  simp [ltC,q2]
 clear hM
 have hx:(f<=(b-1)/\¬c g[f]! g[a]!<0)\/¬f<=(b-1):=by
  by_cases q:f<=(b-1)
  ·exact .inl ⟨q,fun q2=>c1 ⟨q,q2⟩⟩
  ·exact .inr q
 have i0:f<=(b-1)->f<n:=fun q=>by omega
 have ad:=hx
 rcases hx with ⟨cc2,P⟩ | cc2
 case' inl=>simp only [WB,W9,K,q1,M,o,m,cc2,P,A,st,w,Nb,Ng,(EncOk.len (enc:=enc) (z:=iz)),r,J,i0 cc2,hc,SB,seval,NC,NJ,NG,NQ,reduceCtorEq,NB,place,NA,ND]
 case' inr=>simp only [WB,W9,K,q1,M,o,m,cc2,A,st,w,Nb,Ng,(EncOk.len (enc:=enc) (z:=iz)),SB,seval,NC,NJ,NG,NQ,reduceCtorEq,NB,place,NA,ND]
 all_goals
  clear cc2
  refine NR (S:=Nat) (fun s=>s) (fun s fr H=>s<=(b-1)/\f<=s+1/\fr 0=.slice p n cap/\fr 1=Vi a/\fr 4=.func (.func cl) #[] cs.toArray/\fr 12=Vi f/\fr 13=Vi s/\
   H=DH enc G B g++X/\scanDown (fun x=>!ltC c x g[a]!) g f (b-1)=scanDown (fun x=>!ltC c x g[a]!) g f s) (b-1) ⟨Nd _,by omega,K,q1,M,o,m,rfl,rfl⟩ ?_
  rintro l ai H2 ⟨y1,y2,p0,p1,p4,O,Z,rfl,R⟩ hM
  rw [NS (Nrm.eq_1 iz)]
  have i4:l<n:=by omega
  by_cases c4:f<=l/\¬c g[l]! g[a]!<0
  ·obtain ⟨D,F⟩:=c4
   have I:IntKind.i64.wrap ((l:Int)-1)=((l-1:Nat):Int):=QX (by omega) (by omega)
   simp only [WB,W9,p0,p1,p4,O,Z,D,F,I,A,st,w,Nb,Ng,(EncOk.len (enc:=enc) (z:=iz)),r,J,i4,hc,SB,seval,NC,NJ,NG,NQ,reduceCtorEq,NB,place,NA,ND]
   exact hM (l-1) _ _ ⟨by omega,by omega,p0,p1,p4,O,rfl,rfl,by rw [R,WP D (by omega) (by simp [ltC,F])]⟩ (by omega)
  have V:scanDown (fun x=>!ltC c x g[a]!) g f (b-1)=l:=by
   rw [R,WO]
   intro q
   have q2:c g[l]! g[a]!<0:=N4 fun q2=>c4 ⟨q,q2⟩
   simp [ltC,q2]
  clear hM
  by_cases c6:l<f
  ·have c7:¬f<=l:=by omega
   have Y:l<n:=by omega
   simp only [U,V] at N
   rw [Ni (show f > l from c6)] at N
   simp only [WB,W9,p0,p1,p4,O,Z,c7,c6,A,st,w,Nb,Ng,(EncOk.len (enc:=enc) (z:=iz)),r,J,Y,SB,seval,NC,NJ,NG,NQ,reduceCtorEq,NB,place,NA,ND]
   rw [<-N]
   exact ⟨rfl,rfl⟩
  ·have c7:f<=l:=by omega
   have c8:c g[l]! g[a]!<0:=N4 fun q=>c4 ⟨c7,q⟩
   have c9:f≠l:=by
    rintro rfl
    rcases ad with q | q
    ·exact q.2 c8
    ·exact q (by omega)
   simp only [U,V] at N
   rw [Nh (show ¬f > l from c6)] at N
   have i5:f<n:=by omega
   have Y:l<n:=by omega
   have I:IntKind.i64.wrap ((l:Int)-1)=((l-1:Nat):Int):=QX (by omega) (by omega)
   have al:IntKind.i64.wrap ((f:Int)+1)=((f+1:Nat):Int):=OG (by omega)
   simp only [WB,W9,p0,p1,p4,O,Z,c7,c6,c8,I,al,A,st,w,Nb,Ng,(EncOk.len (enc:=enc) (z:=iz)),r,J,Y,i5,hc,SB,seval,NC,NJ,NG,NQ,reduceCtorEq,NB,place,NA,ND]
   generalize hL:partLoop (ltC c) a (f+1) (l-1) (swp g f l)=L at N
   refine NR (S:=(Nat×Nat)×Array α) (fun s=>s.1.2+1-s.1.1) (fun s fr H=>a<s.1.1/\s.1.1<=s.1.2+1/\s.1.2<b/\fr 0=.slice p n cap/\fr 1=Vi a/\fr 4=.func (.func cl) #[] cs.toArray/\fr 12=Vi s.1.1/\fr 13=Vi s.1.2/\
    H=DH enc G B s.2++X/\s.2.size=n/\L=partLoop (ltC c) a s.1.1 s.1.2 s.2) ((f+1,l-1),swp g f l) ⟨by simp only;omega,by simp only;omega,by simp only;omega,p0,p1,p4,rfl,rfl,by simp [swp],by simp [swp,r],hL.symm⟩ ?_
   clear U V hs R c1 c4 ad i0 hL
   rintro ⟨⟨i,j⟩,h⟩ fr H ⟨h1,h2,h3,g0,g1,g4,aa,ab,rfl,t,he⟩ hN
   simp only at h1 h2 h3 aa ab t he
   rw [NS (Nrn.eq_1 iz)]
   simp only [WB,W9,SB,seval,NC,NJ,NG,NQ,reduceCtorEq,NB,place,NA,ND]
   refine NR (S:=Nat) (fun s=>b+1-s) (fun s fr H=>i<=s/\s<=j+1/\fr 0=.slice p n cap/\fr 1=Vi a/\fr 4=.func (.func cl) #[] cs.toArray/\fr 12=Vi s/\fr 13=Vi j/\
    H=DH enc G B h++X/\scanUp (fun u=>ltC c u h[a]!) h j i=scanUp (fun u=>ltC c u h[a]!) h j s) i ⟨Nd _,by omega,g0,g1,g4,aa,ab,rfl,rfl⟩ ?_
   rintro x fr1 H1 ⟨x1,k2,K,q1,M,o,m,rfl,us⟩ hM
   rw [NS (Nro.eq_1 iz)]
   by_cases z1:x<=j/\c h[x]! h[a]!<0
   ·obtain ⟨C,cc2⟩:=z1
    have W:IntKind.i64.wrap ((x:Int)+1)=((x+1:Nat):Int):=OG (by omega)
    have i3:x<n:=by omega
    simp only [WB,W9,K,q1,M,o,m,C,cc2,W,A,st,w,Nb,Ng,(EncOk.len (enc:=enc) (z:=iz)),t,J,i3,hc,SB,seval,NC,NJ,NG,NQ,reduceCtorEq,NB,place,NA,ND]
    exact hM (x+1) _ _ ⟨by omega,by omega,K,q1,M,rfl,m,rfl,by rw [us,Yy C (by simp [ltC,cc2])]⟩ (by omega)
   have ag:scanUp (fun u=>ltC c u h[a]!) h j i=x:=by
    rw [us,Yx]
    intro q
    have q2:¬c h[x]! h[a]!<0:=fun q2=>z1 ⟨q,q2⟩
    simp [ltC,q2]
   clear hM
   have hz:(x<=j/\¬c h[x]! h[a]!<0)\/¬x<=j:=by
    by_cases q:x<=j
    ·exact .inl ⟨q,fun q2=>z1 ⟨q,q2⟩⟩
    ·exact .inr q
   have i0:x<=j->x<n:=fun q=>by omega
   have ao:=hz
   rcases hz with ⟨cc2,P⟩ | cc2
   case' inl=>simp only [WB,W9,K,q1,M,o,m,cc2,P,A,st,w,Nb,Ng,(EncOk.len (enc:=enc) (z:=iz)),t,J,i0 cc2,hc,SB,seval,NC,NJ,NG,NQ,reduceCtorEq,NB,place,NA,ND]
   case' inr=>simp only [WB,W9,K,q1,M,o,m,cc2,A,st,w,Nb,Ng,(EncOk.len (enc:=enc) (z:=iz)),SB,seval,NC,NJ,NG,NQ,reduceCtorEq,NB,place,NA,ND]
   all_goals
    clear cc2
    refine NR (S:=Nat) (fun s=>s) (fun s fr H=>s<=j/\x<=s+1/\fr 0=.slice p n cap/\fr 1=Vi a/\fr 4=.func (.func cl) #[] cs.toArray/\fr 12=Vi x/\fr 13=Vi s/\
     H=DH enc G B h++X/\scanDown (fun u=>!ltC c u h[a]!) h x j=scanDown (fun u=>!ltC c u h[a]!) h x s) j ⟨Nd _,by omega,K,q1,M,o,m,rfl,rfl⟩ ?_
    rintro y ai H2 ⟨y1,y2,t0,t1,t4,t12,t13,rfl,ae⟩ hM
    rw [NS (Nrp.eq_1 iz)]
    have i4:y<n:=by omega
    by_cases z4:x<=y/\¬c h[y]! h[a]!<0
    ·obtain ⟨D,F⟩:=z4
     have I:IntKind.i64.wrap ((y:Int)-1)=((y-1:Nat):Int):=QX (by omega) (by omega)
     simp only [WB,W9,t0,t1,t4,t12,t13,D,F,I,A,st,w,Nb,Ng,(EncOk.len (enc:=enc) (z:=iz)),t,J,i4,hc,SB,seval,NC,NJ,NG,NQ,reduceCtorEq,NB,place,NA,ND]
     exact hM (y-1) _ _ ⟨by omega,by omega,t0,t1,t4,t12,rfl,rfl,by rw [ae,WP D (by omega) (by simp [ltC,F])]⟩ (by omega)
    have ah:scanDown (fun u=>!ltC c u h[a]!) h x j=y:=by
     rw [ae,WO]
     intro q
     have q2:c h[y]! h[a]!<0:=N4 fun q2=>z4 ⟨q,q2⟩
     simp [ltC,q2]
    clear hM
    by_cases z6:y<x
    ·have z7:¬x<=y:=by omega
     have Y:y<n:=by omega
     rw [Ns4 ag ah z6] at he
     simp only [WB,W9,t0,t1,t4,t12,t13,z7,z6,A,st,w,Nb,Ng,(EncOk.len (enc:=enc) (z:=iz)),t,J,Y,SB,seval,NC,NJ,NG,NQ,reduceCtorEq,NB,place,NA,ND]
     rw [<-N,he]
     exact ⟨rfl,rfl⟩
    ·have z7:x<=y:=by omega
     have z8:c h[y]! h[a]!<0:=N4 fun q=>z4 ⟨z7,q⟩
     have z9:x≠y:=by
      rintro rfl
      rcases ao with q | q
      ·exact q.2 z8
      ·exact q (by omega)
     rw [Ns6 ag ah z6 x1 y1 (by omega)] at he
     have i5:x<n:=by omega
     have Y:y<n:=by omega
     have am:IntKind.i64.wrap ((y:Int)-1)=((y-1:Nat):Int):=QX (by omega) (by omega)
     have an:IntKind.i64.wrap ((x:Int)+1)=((x+1:Nat):Int):=OG (by omega)
     simp only [WB,W9,t0,t1,t4,t12,t13,z7,z6,z8,am,an,A,st,w,Nb,Ng,(EncOk.len (enc:=enc) (z:=iz)),t,J,Y,i5,hc,SB,seval,NC,NJ,NG,NQ,reduceCtorEq,NB,place,NA,ND]
     exact hN ((x+1,y-1),swp h x y) _ _ ⟨by simp only;omega,by simp only;omega,by simp only;omega,t0,t1,t4,rfl,rfl,by simp [swp],by simp [swp,t],he⟩ (by simp only;omega)
variable {E:Env} {iz:Ids} [DT E E] [SortAt E iz] {α:Type} [Inhabited α] {enc:α->List Value} [EncOk enc iz]
theorem Nnx {α:Type} [Inhabited α] {lt:α->α->Bool} {d:Array α} {b i:Nat} (h:i<b) (hp:lt d[i]! d[i-1]! = false):scanSorted lt d b i=scanSorted lt d b (i+1):=by
 rw [scanSorted];simp [h,hp]
theorem Ndq {α:Type} [Inhabited α] {lt:α->α->Bool} {d:Array α} {b i:Nat} (h:i<b->lt d[i]! d[i-1]! = true):scanSorted lt d b i=i:=by
 rw [scanSorted]
 by_cases q:i<b
 ·simp [h q]
 ·simp [q]
def VY {α:Type} [Inhabited α] (lt:α->α->Bool) (a i:Nat) (d:Array α):Array α:=if 2<=i-a then shiftDown lt (i-1) d else d
def WT {α:Type} [Inhabited α] (lt:α->α->Bool) (b i:Nat) (d:Array α):Array α:=if 2<=b-i then shiftUp lt b (i+1) d else d
theorem Nci {α:Type} [Inhabited α] {lt:α->α->Bool} {a b k i c:Nat} {d:Array α} (hs:scanSorted lt d b i=c) (h1:¬c=b) (h2:¬b-a<50):partialIns lt a b (k+1) i d=partialIns lt a b k c (WT lt b c (VY lt a c (swp d c (c-1)))):=by
 rw [partialIns]
 simp only [hs]
 rw [Nh h1,Nh h2]
 rfl
theorem N6l {G X:NE} {B lim cap n:Nat} {p:Option Addr} {c:α->α->Int} {cl:FuncId} {cs:List Value} {Q:Value->NE->Prop} (hp:p=Sa B) (hB:B<G.length) (hl:lim<=B) (az:n<2 ^ 61) (hc:∀(mp:Bool) (lim:Nat) (x y:α) (H:NE) (Q:Value->NE->Prop),NL E mp lim cl (.agg (enc x).toArray::.agg (enc y).toArray::cs) H Q=Q (Vi (c x y)) H) {d:Array α} {a b:Nat} (hd:d.size=n) (hb:b<=n) (ay:a<b) :
  NL E false lim iz.PIS [.slice p n cap,Vi a,Vi b,.func (.func cl) #[] cs.toArray] (DH enc G B d++X) Q=Q (.bool (partialInsertionSort (ltC c) d a b).2) (DH enc G B (partialInsertionSort (ltC c) d a b).1++X):=by
 refine runs (SortAt.PIS (E:=E) (z:=iz)) ?_
 rw [Odo,N7m]
 have aw:IntKind.i64.wrap ((a:Int)+1)=((a+1:Nat):Int):=OG (by omega)
 generalize hT:partialInsertionSort (ltC c) d a b=T
 rw [partialInsertionSort] at hT
 have N:=fun (i:Nat) (X:NE) (d:Array α) (hd:d.size=n) (hi:i<n)=>YW (X:=X) (d:=d) (i:=i) hp hB (EncOk.len (enc:=enc) (z:=iz)) (by omega);have st:=fun (i:Nat) (X:NE) (d:Array α) (hd:d.size=n) (hi:i<n) (y:α)=>Yi (X:=X) (d:=d) (i:=i) (y:=y) hp hB hl (EncOk.len (enc:=enc) (z:=iz)) (by omega);have M:=fun (i:Nat) (hi:i<n) c (k:IntKind) (H:NE)=>Wq (e:=iz.e) (i:=i) (n:=n) (c:=c) (k:=k) (H:=H) hp hi
 simp only [VV,VU,aw,SB,seval,NC,NJ,NG,NQ,reduceCtorEq,NB,place,NA,ND]
 refine NR (S:=Nat×Nat×Array α) (fun s=>s.1) (fun s fr H=>s.1<=5/\a<s.2.1/\s.2.1<=b/\fr 0=.slice p n cap/\fr 1=Vi a/\fr 2=Vi b/\fr 3=.func (.func cl) #[] cs.toArray/\fr 9=Vi s.2.1/\fr 10=Vi (5-(s.1:Int))/\
  H=DH enc G B s.2.2++X/\s.2.2.size=n/\T=partialIns (ltC c) a b s.1 s.2.1 s.2.2) (5,a+1,d) ⟨by simp only;omega,by simp only;omega,by simp only;omega,rfl,rfl,rfl,rfl,rfl,by rfl,rfl,hd,hT.symm⟩ ?_
 rintro ⟨k,i,A⟩ fr H ⟨h1,h2,h3,g0,g1,g2,g3,g9,aj,rfl,C,he⟩ hN
 simp only at h1 h2 h3 g9 aj C he
 rw [NS (Nzf.eq_1 iz)]
 cases k with
 | zero=>
   have av:fr 10=Vi 5:=by simpa using aj
   clear hN aj
   simp only [VV,VU,g0,g1,g2,g3,g9,av,SB,seval,NC,NJ,NG,NQ,reduceCtorEq,NB,place,NA,ND]
   rw [he,partialIns]
   exact ⟨rfl,rfl⟩
 | succ k=>
   have hk:(5:Int)-((k+1:Nat):Int)<5:=by omega
   have Z:IntKind.i64.wrap ((5:Int)-((k+1:Nat):Int)+1)=5-(k:Int):=by rw [NT (by omega) (by omega)];omega
   simp only [VV,VU,g0,g1,g2,g3,g9,aj,hk,SB,seval,NC,NJ,NG,NQ,reduceCtorEq,NB,place,NA,ND]
   refine NR (S:=Nat) (fun s=>b+1-s) (fun s fr H=>i<=s/\s<=b/\fr 0=.slice p n cap/\fr 1=Vi a/\fr 2=Vi b/\fr 3=.func (.func cl) #[] cs.toArray/\fr 9=Vi s/\fr 10=Vi (5-((k+1:Nat):Int))/\
    H=DH enc G B A++X/\scanSorted (ltC c) A b i=scanSorted (ltC c) A b s) i ⟨Nd _,h3,g0,g1,g2,g3,g9,aj,rfl,rfl⟩ ?_
   rintro f fr1 H1 ⟨x1,x2,q0,q1,q2,q3,q9,aa,rfl,hs⟩ hM
   rw [NS (Nzg.eq_1 iz)]
   have ak:IntKind.i64.wrap ((f:Int)-1)=((f-1:Nat):Int):=QX (by omega) (by omega)
   have ad:IntKind.i64.wrap ((f:Int)+1)=((f+1:Nat):Int):=OG (by omega)
   have ap:IntKind.i64.wrap ((f:Int)-(a:Int))=((f-a:Nat):Int):=by rw [NT (by omega) (by omega)];omega
   have ae:IntKind.i64.wrap ((b:Int)-(f:Int))=((b-f:Nat):Int):=by rw [NT (by omega) (by omega)];omega
   have ao:IntKind.i64.wrap ((b:Int)-(a:Int))=((b-a:Nat):Int):=by rw [NT (by omega) (by omega)];omega
   have i6:f-1<n:=by omega
   by_cases c1:f=b
   ·subst c1
    have an:scanSorted (ltC c) A f i=f:=by rw [hs,Ndq (fun q=>absurd q (Rh _))]
    have c2:¬f<f:=Rh _
    have e:partialIns (ltC c) a f (k+1) i A=(A,true):=by
     rw [partialIns];simp only [an];simp
    simp only [VV,VU,q0,q1,q2,q3,q9,aa,c2,N,st,M,Nb,Ng,(EncOk.len (enc:=enc) (z:=iz)),SB,seval,NC,NJ,NG,NQ,reduceCtorEq,NB,place,NA,ND]
    rw [he,e]
    exact ⟨rfl,rfl⟩
   have c2:f<b:=by omega
   have i5:f<n:=by omega
   have al:¬((f:Int)=(b:Int)):=by omega
   by_cases c3:c A[f]! A[f-1]!<0
   case neg=>
    simp only [VV,VU,q0,q1,q2,q3,q9,aa,c2,c3,ak,ad,N,st,M,Nb,Ng,(EncOk.len (enc:=enc) (z:=iz)),C,i5,i6,hc,SB,seval,NC,NJ,NG,NQ,reduceCtorEq,NB,place,NA,ND]
    exact hM (f+1) _ _ ⟨by omega,by omega,q0,q1,q2,q3,rfl,aa,rfl,by rw [hs,Nnx c2 (by simp [ltC,c3])]⟩ (by omega)
   clear hM
   have an:scanSorted (ltC c) A b i=f:=by rw [hs,Ndq (fun _=>by simp [ltC,c3])]
   by_cases c4:b-a<50
   ·have ah:((b-a:Nat):Int)<50:=by omega
    simp only [VV,VU,q0,q1,q2,q3,q9,aa,c2,c3,al,ah,ak,ao,N,st,M,Nb,Ng,(EncOk.len (enc:=enc) (z:=iz)),C,i5,i6,hc,SB,seval,NC,NJ,NG,NQ,reduceCtorEq,NB,place,NA,ND]
    have e:partialIns (ltC c) a b (k+1) i A=(A,false):=by
     rw [partialIns];simp only [an];rw [Nh c1,Ni c4]
    rw [he,e]
    exact ⟨rfl,rfl⟩
   have ah:¬((b-a:Nat):Int)<50:=by omega
   rw [Nci an c1 c4] at he
   by_cases hA:2<=f-a
   ·have am:(2:Int)<=((f-a:Nat):Int):=by omega
    simp only [VV,VU,q0,q1,q2,q3,q9,aa,c2,c3,al,ah,ak,ao,ap,am,N,st,M,Nb,Ng,(EncOk.len (enc:=enc) (z:=iz)),C,i5,i6,hc,SB,seval,NC,NJ,NG,NQ,reduceCtorEq,NB,place,NA,ND]
    refine NR (S:=Nat×Array α) (fun s=>s.1) (fun s fr H=>s.1<f/\fr 0=.slice p n cap/\fr 1=Vi a/\fr 2=Vi b/\fr 3=.func (.func cl) #[] cs.toArray/\fr 9=Vi f/\fr 10=Vi (5-((k+1:Nat):Int))/\fr 11=Vi s.1/\
     H=DH enc G B s.2++X/\s.2.size=n/\shiftDown (ltC c) (f-1) (swp A f (f-1))=shiftDown (ltC c) s.1 s.2) (f-1,swp A f (f-1)) ⟨by simp only;omega,q0,q1,q2,q3,q9,aa,rfl,by simp [swp],by simp [swp,C],rfl⟩ ?_
    rintro ⟨v,dv⟩ ax Hv ⟨v1,D,F,I,J,K,r,ag,rfl,Y,hev⟩ hV
    simp only at v1 ag Y hev
    rw [NS (Nzh.eq_1 iz)]
    cases v with
    | succ v=>
      have iv:v+1<n:=by omega
      have ar:v<n:=by omega
      have aq:IntKind.i64.wrap (((v+1:Nat):Int)-1)=(v:Int):=QX (n:=v+1) (by omega) (by omega)
      have cv:(1:Int)<=((v+1:Nat):Int):=by omega
      rw [shiftDown] at hev
      by_cases ai:c dv[v+1]! dv[v]!<0
      ·rw [Nh (by simp [ltC,ai])] at hev
       simp only [VV,VU,D,F,I,J,K,r,ag,cv,ai,aq,N,st,M,Nb,Ng,(EncOk.len (enc:=enc) (z:=iz)),Y,iv,ar,hc,SB,seval,NC,NJ,NG,NQ,reduceCtorEq,NB,place,NA,ND]
       exact hV (v,swp dv (v+1) v) _ _ ⟨by simp only;omega,D,F,I,J,K,r,rfl,by simp [swp],by simp [swp,Y],hev⟩ (by simp only;omega)
      ·rw [Ni (by simp [ltC,ai])] at hev
       clear hV
       have u:VY (ltC c) a f (swp A f (f-1))=dv:=by rw [VY,Ni hA,hev]
       by_cases hB:2<=b-f
       ·have t:(2:Int)<=((b-f:Nat):Int):=by omega
        simp only [VV,VU,D,F,I,J,K,r,ae,t,ad,ag,cv,ai,aq,Y,iv,ar,hc,N,st,M,Nb,Ng,(EncOk.len (enc:=enc) (z:=iz)),SB,seval,NC,NJ,NG,NQ,reduceCtorEq,NB,place,NA,ND]
        generalize hU:shiftUp (ltC c) b (f+1) (dv)=U
        refine NR (S:=Nat×Array α) (fun s=>b+1-s.1) (fun s fr H=>f+1<=s.1/\s.1<=b/\fr 0=.slice p n cap/\fr 1=Vi a/\fr 2=Vi b/\fr 3=.func (.func cl) #[] cs.toArray/\fr 9=Vi f/\fr 10=Vi (5-((k+1:Nat):Int))/\fr 12=Vi s.1/\
         H=DH enc G B s.2++X/\s.2.size=n/\U=shiftUp (ltC c) b s.1 s.2) (f+1,dv) ⟨by simp only;omega,by simp only;omega,D,F,I,J,K,r,rfl,by simp [swp],by simp [swp,Y],hU.symm⟩ ?_
        rintro ⟨w,dw⟩ au Hw ⟨w1,w2,O,P,R,V,W,l,m,rfl,h,g⟩ hW
        simp only at w1 w2 m h g
        rw [NS (Niw.eq_1 iz)]
        unfold shiftUp at g
        by_cases L:w<b
        ·have iw:w<n:=by omega
         have ac:w-1<n:=by omega
         have ab:IntKind.i64.wrap ((w:Int)-1)=((w-1:Nat):Int):=QX (by omega) (by omega)
         have o:IntKind.i64.wrap ((w:Int)+1)=((w+1:Nat):Int):=OG (by omega)
         by_cases j:c dw[w]! dw[w-1]!<0
         ·rw [Ni L,Nh (by simp [ltC,j])] at g
          simp only [VV,VU,O,P,R,V,W,l,m,L,j,ab,o,N,st,M,Nb,Ng,(EncOk.len (enc:=enc) (z:=iz)),h,iw,ac,hc,SB,seval,NC,NJ,NG,NQ,reduceCtorEq,NB,place,NA,ND]
          exact hW (w+1,swp dw w (w-1)) _ _ ⟨by simp only;omega,by simp only;omega,O,P,R,V,W,l,rfl,by simp [swp],by simp [swp,h],g⟩ (by simp only;omega)
         ·rw [Ni L,Ni (by simp [ltC,j])] at g
          clear hW
          simp only [VV,VU,O,P,R,V,W,l,m,L,j,ab,o,N,st,M,Nb,Ng,(EncOk.len (enc:=enc) (z:=iz)),h,iw,ac,hc,Z,SB,seval,NC,NJ,NG,NQ,reduceCtorEq,NB,place,NA,ND]
          exact hN (k,f,dw) _ _ ⟨by simp only;omega,by simp only;omega,by simp only;omega,O,P,R,V,W,rfl,by simp,h,by rw [he,u,WT,Ni hB,hU,g]⟩ (by simp only;omega)
        ·rw [Nh L] at g
         clear hW
         simp only [VV,VU,O,P,R,V,W,l,m,L,N,st,M,Nb,Ng,(EncOk.len (enc:=enc) (z:=iz)),Z,SB,seval,NC,NJ,NG,NQ,reduceCtorEq,NB,place,NA,ND]
         exact hN (k,f,dw) _ _ ⟨by simp only;omega,by simp only;omega,by simp only;omega,O,P,R,V,W,rfl,by simp,h,by rw [he,u,WT,Ni hB,hU,g]⟩ (by simp only;omega)
       ·have t:¬(2:Int)<=((b-f:Nat):Int):=by omega
        simp only [VV,VU,D,F,I,J,K,r,ae,t,Z,ag,cv,ai,aq,Y,iv,ar,hc,N,st,M,Nb,Ng,(EncOk.len (enc:=enc) (z:=iz)),SB,seval,NC,NJ,NG,NQ,reduceCtorEq,NB,place,NA,ND]
        exact hN (k,f,dv) _ _ ⟨by simp only;omega,by simp only;omega,by simp only;omega,D,F,I,J,K,rfl,by simp [swp],by simp [swp,Y],by rw [he,u,WT,Nh hB]⟩ (by simp only;omega)
    | zero=>
      have cv:¬(1:Int)<=((0:Nat):Int):=by omega
      rw [shiftDown] at hev
      clear hV
      have u:VY (ltC c) a f (swp A f (f-1))=dv:=by rw [VY,Ni hA,hev]
      by_cases hB:2<=b-f
      ·have t:(2:Int)<=((b-f:Nat):Int):=by omega
       simp only [VV,VU,D,F,I,J,K,r,ae,t,ad,ag,cv,N,st,M,Nb,Ng,(EncOk.len (enc:=enc) (z:=iz)),SB,seval,NC,NJ,NG,NQ,reduceCtorEq,NB,place,NA,ND]
       generalize hU:shiftUp (ltC c) b (f+1) (dv)=U
       refine NR (S:=Nat×Array α) (fun s=>b+1-s.1) (fun s fr H=>f+1<=s.1/\s.1<=b/\fr 0=.slice p n cap/\fr 1=Vi a/\fr 2=Vi b/\fr 3=.func (.func cl) #[] cs.toArray/\fr 9=Vi f/\fr 10=Vi (5-((k+1:Nat):Int))/\fr 12=Vi s.1/\
        H=DH enc G B s.2++X/\s.2.size=n/\U=shiftUp (ltC c) b s.1 s.2) (f+1,dv) ⟨by simp only;omega,by simp only;omega,D,F,I,J,K,r,rfl,by simp [swp],by simp [swp,Y],hU.symm⟩ ?_
       rintro ⟨w,dw⟩ au Hw ⟨w1,w2,O,P,R,V,W,l,m,rfl,h,g⟩ hW
       simp only at w1 w2 m h g
       rw [NS (Niw.eq_1 iz)]
       unfold shiftUp at g
       by_cases L:w<b
       ·have iw:w<n:=by omega
        have ac:w-1<n:=by omega
        have ab:IntKind.i64.wrap ((w:Int)-1)=((w-1:Nat):Int):=QX (by omega) (by omega)
        have o:IntKind.i64.wrap ((w:Int)+1)=((w+1:Nat):Int):=OG (by omega)
        by_cases j:c dw[w]! dw[w-1]!<0
        ·rw [Ni L,Nh (by simp [ltC,j])] at g
         simp only [VV,VU,O,P,R,V,W,l,m,L,j,ab,o,N,st,M,Nb,Ng,(EncOk.len (enc:=enc) (z:=iz)),h,iw,ac,hc,SB,seval,NC,NJ,NG,NQ,reduceCtorEq,NB,place,NA,ND]
         exact hW (w+1,swp dw w (w-1)) _ _ ⟨by simp only;omega,by simp only;omega,O,P,R,V,W,l,rfl,by simp [swp],by simp [swp,h],g⟩ (by simp only;omega)
        ·rw [Ni L,Ni (by simp [ltC,j])] at g
         clear hW
         simp only [VV,VU,O,P,R,V,W,l,m,L,j,ab,o,N,st,M,Nb,Ng,(EncOk.len (enc:=enc) (z:=iz)),h,iw,ac,hc,Z,SB,seval,NC,NJ,NG,NQ,reduceCtorEq,NB,place,NA,ND]
         exact hN (k,f,dw) _ _ ⟨by simp only;omega,by simp only;omega,by simp only;omega,O,P,R,V,W,rfl,by simp,h,by rw [he,u,WT,Ni hB,hU,g]⟩ (by simp only;omega)
       ·rw [Nh L] at g
        clear hW
        simp only [VV,VU,O,P,R,V,W,l,m,L,N,st,M,Nb,Ng,(EncOk.len (enc:=enc) (z:=iz)),Z,SB,seval,NC,NJ,NG,NQ,reduceCtorEq,NB,place,NA,ND]
        exact hN (k,f,dw) _ _ ⟨by simp only;omega,by simp only;omega,by simp only;omega,O,P,R,V,W,rfl,by simp,h,by rw [he,u,WT,Ni hB,hU,g]⟩ (by simp only;omega)
      ·have t:¬(2:Int)<=((b-f:Nat):Int):=by omega
       simp only [VV,VU,D,F,I,J,K,r,ae,t,Z,ag,cv,N,st,M,Nb,Ng,(EncOk.len (enc:=enc) (z:=iz)),SB,seval,NC,NJ,NG,NQ,reduceCtorEq,NB,place,NA,ND]
       exact hN (k,f,dv) _ _ ⟨by simp only;omega,by simp only;omega,by simp only;omega,D,F,I,J,K,rfl,by simp [swp],by simp [swp,Y],by rw [he,u,WT,Nh hB]⟩ (by simp only;omega)
   ·have am:¬(2:Int)<=((f-a:Nat):Int):=by omega
    have u:VY (ltC c) a f (swp A f (f-1))=swp A f (f-1):=by rw [VY,Nh hA]
    have a0:(swp A f (f-1)).size=n:=by simp [swp,C]
    by_cases hB:2<=b-f
    ·have t:(2:Int)<=((b-f:Nat):Int):=by omega
     simp only [VV,VU,q0,q1,q2,q3,q9,aa,ae,t,ad,c2,c3,al,ah,ak,ao,ap,am,C,i5,i6,hc,N,st,M,Nb,Ng,(EncOk.len (enc:=enc) (z:=iz)),SB,seval,NC,NJ,NG,NQ,reduceCtorEq,NB,place,NA,ND]
     generalize hU:shiftUp (ltC c) b (f+1) (swp A f (f-1))=U
     refine NR (S:=Nat×Array α) (fun s=>b+1-s.1) (fun s fr H=>f+1<=s.1/\s.1<=b/\fr 0=.slice p n cap/\fr 1=Vi a/\fr 2=Vi b/\fr 3=.func (.func cl) #[] cs.toArray/\fr 9=Vi f/\fr 10=Vi (5-((k+1:Nat):Int))/\fr 12=Vi s.1/\
      H=DH enc G B s.2++X/\s.2.size=n/\U=shiftUp (ltC c) b s.1 s.2) (f+1,swp A f (f-1)) ⟨by simp only;omega,by simp only;omega,q0,q1,q2,q3,q9,aa,rfl,by simp [swp],by simp [swp,C],hU.symm⟩ ?_
     rintro ⟨w,dw⟩ au Hw ⟨w1,w2,O,P,R,V,W,l,m,rfl,h,g⟩ hW
     simp only at w1 w2 m h g
     rw [NS (Niw.eq_1 iz)]
     unfold shiftUp at g
     by_cases L:w<b
     ·have iw:w<n:=by omega
      have ac:w-1<n:=by omega
      have ab:IntKind.i64.wrap ((w:Int)-1)=((w-1:Nat):Int):=QX (by omega) (by omega)
      have o:IntKind.i64.wrap ((w:Int)+1)=((w+1:Nat):Int):=OG (by omega)
      by_cases j:c dw[w]! dw[w-1]!<0
      ·rw [Ni L,Nh (by simp [ltC,j])] at g
       simp only [VV,VU,O,P,R,V,W,l,m,L,j,ab,o,N,st,M,Nb,Ng,(EncOk.len (enc:=enc) (z:=iz)),h,iw,ac,hc,SB,seval,NC,NJ,NG,NQ,reduceCtorEq,NB,place,NA,ND]
       exact hW (w+1,swp dw w (w-1)) _ _ ⟨by simp only;omega,by simp only;omega,O,P,R,V,W,l,rfl,by simp [swp],by simp [swp,h],g⟩ (by simp only;omega)
      ·rw [Ni L,Ni (by simp [ltC,j])] at g
       clear hW
       simp only [VV,VU,O,P,R,V,W,l,m,L,j,ab,o,N,st,M,Nb,Ng,(EncOk.len (enc:=enc) (z:=iz)),h,iw,ac,hc,Z,SB,seval,NC,NJ,NG,NQ,reduceCtorEq,NB,place,NA,ND]
       exact hN (k,f,dw) _ _ ⟨by simp only;omega,by simp only;omega,by simp only;omega,O,P,R,V,W,rfl,by simp,h,by rw [he,u,WT,Ni hB,hU,g]⟩ (by simp only;omega)
     ·rw [Nh L] at g
      clear hW
      simp only [VV,VU,O,P,R,V,W,l,m,L,N,st,M,Nb,Ng,(EncOk.len (enc:=enc) (z:=iz)),Z,SB,seval,NC,NJ,NG,NQ,reduceCtorEq,NB,place,NA,ND]
      exact hN (k,f,dw) _ _ ⟨by simp only;omega,by simp only;omega,by simp only;omega,O,P,R,V,W,rfl,by simp,h,by rw [he,u,WT,Ni hB,hU,g]⟩ (by simp only;omega)
    ·have t:¬(2:Int)<=((b-f:Nat):Int):=by omega
     simp only [VV,VU,q0,q1,q2,q3,q9,aa,ae,t,Z,c2,c3,al,ah,ak,ao,ap,am,C,i5,i6,hc,N,st,M,Nb,Ng,(EncOk.len (enc:=enc) (z:=iz)),SB,seval,NC,NJ,NG,NQ,reduceCtorEq,NB,place,NA,ND]
     exact hN (k,f,swp A f (f-1)) _ _ ⟨by simp only;omega,by simp only;omega,by simp only;omega,q0,q1,q2,q3,q9,rfl,by simp [swp],by simp [swp,C],by rw [he,u,WT,Nh hB]⟩ (by simp only;omega)
variable {E:Env} {iz:Ids} [DT E E] [SortAt E iz] {α:Type} [Inhabited α] {enc:α->List Value} [EncOk enc iz]
section
variable {α:Type} {enc:α->List Value} {G X:NE} {B:Nat} {d:Array α} {c:Blk}
theorem Nry:(DH enc G B d++X).length=G.length+X.length:=by rw [Nm,V3]
theorem VK:NF (DH enc G B d++(X++[c])) (G.length+X.length)=c:=by
 rw [<-Nn,<-Nry (enc:=enc) (B:=B) (d:=d)];exact NV
theorem VJ {a:Blk}:(DH enc G B d++(X++[c])).set (G.length+X.length) a=DH enc G B d++(X++[a]):=by
 rw [<-Nn,<-Nry (enc:=enc) (B:=B) (d:=d),Nkd];simp
end
theorem Noh {G X:NE} {B lim cap n:Nat} {p:Option Addr} {c:α->α->Int} {cl:FuncId} {cs:List Value} (hp:p=Sa B) (hB:B<G.length) (hl:lim<=B) (q:n<2 ^ 61) (hc:∀(mp:Bool) (lim:Nat) (x y:α) (H:NE) (Q:Value->NE->Prop),NL E mp lim cl (.agg (enc x).toArray::.agg (enc y).toArray::cs) H Q=Q (Vi (c x y)) H) {d:Array α} {a b s:Nat} (hd:d.size=n) (h:a<n) (j:b<n) (hs:s<100) :
  ∃x y o:Nat,(x=a/\y=b\/x=b/\y=a)/\o<=s+1/\∀Q,NL E false lim iz.ORD [.slice p n cap,Vi a,Vi b,Vp (G.length+X.length),.func (.func cl) #[] cs.toArray] (DH enc G B d++(X++[Vc [Vi s]])) Q =
   Q (.tuple #[Vi x,Vi y]) (DH enc G B d++(X++[Vc [Vi o]])):=by
 have m:=fun (i:Nat) (X:NE) (d:Array α) (hd:d.size=n) (hi:i<n)=>YW (X:=X) (d:=d) (i:=i) hp hB (EncOk.len (enc:=enc) (z:=iz)) (by omega);have st:=fun (i:Nat) (X:NE) (d:Array α) (hd:d.size=n) (hi:i<n) (y:α)=>Yi (X:=X) (d:=d) (i:=i) (y:=y) hp hB hl (EncOk.len (enc:=enc) (z:=iz)) (by omega);have l:=fun (i:Nat) (hi:i<n) c (k:IntKind) (H:NE)=>Wq (e:=iz.e) (i:=i) (n:=n) (c:=c) (k:=k) (H:=H) hp hi
 have r:IntKind.i64.wrap ((s:Int)+1)=((s+1:Nat):Int):=OG (by omega)
 have f:lim<=G.length+X.length:=by omega
 by_cases g:c d[b]! d[a]!<0
 ·refine ⟨b,a,s+1,.inr ⟨rfl,rfl⟩,Nd _,fun Q=>runs (SortAt.ORD (E:=E) (z:=iz)) ?_⟩
  rw [Oaa,N4c]
  simp only [N9o,N8x,m,st,l,Nb,Ng,(EncOk.len (enc:=enc) (z:=iz)),hd,h,j,hc,g,VK,VJ,r,f,SB,seval,NC,NJ,NG,NQ,reduceCtorEq,NB,place,NA,ND]
 ·refine ⟨a,b,s,.inl ⟨rfl,rfl⟩,by omega,fun Q=>runs (SortAt.ORD (E:=E) (z:=iz)) ?_⟩
  rw [Oaa,N4c]
  simp only [N9o,N8x,m,st,l,Nb,Ng,(EncOk.len (enc:=enc) (z:=iz)),hd,h,j,hc,g,SB,seval,NC,NJ,NG,NQ,reduceCtorEq,NB,place,NA,ND]
theorem Ny0 {G X:NE} {B lim cap n:Nat} {p:Option Addr} {c:α->α->Int} {cl:FuncId} {cs:List Value} (hp:p=Sa B) (hB:B<G.length) (hl:lim<=B) (f:n<2 ^ 61) (hc:∀(mp:Bool) (lim:Nat) (x y:α) (H:NE) (Q:Value->NE->Prop),NL E mp lim cl (.agg (enc x).toArray::.agg (enc y).toArray::cs) H Q=Q (Vi (c x y)) H) {d:Array α} {a b e s:Nat} (hd:d.size=n) (h:a<n) (i:b<n) (he:e<n) (hs:s<90) :
  ∃x g:Nat,(x=a\/x=b\/x=e)/\g<=s+3/\∀Q,NL E false lim iz.MED [.slice p n cap,Vi a,Vi b,Vi e,Vp (G.length+X.length),.func (.func cl) #[] cs.toArray] (DH enc G B d++(X++[Vc [Vi s]])) Q =
   Q (Vi x) (DH enc G B d++(X++[Vc [Vi g]])):=by
 obtain ⟨o,r,k,h1,k1,o1⟩:=Noh (X:=X) (cap:=cap) (lim:=lim) hp hB hl f hc hd h i (show s<100 by omega)
 obtain ⟨q,w,l,h2,k2,o2⟩:=Noh (X:=X) (cap:=cap) (lim:=lim) hp hB hl f hc hd (show r<n by omega) he (show k<100 by omega)
 obtain ⟨v,t,m,u,k3,j⟩:=Noh (X:=X) (cap:=cap) (lim:=lim) hp hB hl f hc hd (show o<n by omega) (show q<n by omega) (show l<100 by omega)
 refine ⟨t,m,by omega,by omega,fun Q=>runs (SortAt.MED (E:=E) (z:=iz)) ?_⟩
 rw [Odr,N7p]
 simp only [Ocj,Ob7,o1,o2,j,SB,seval,NC,NJ,NG,NQ,reduceCtorEq,NB,place,NA,ND]
theorem Nio {G X:NE} {B lim cap n:Nat} {p:Option Addr} {c:α->α->Int} {cl:FuncId} {cs:List Value} (hp:p=Sa B) (hB:B<G.length) (hl:lim<=B) (f:n<2 ^ 61) (hc:∀(mp:Bool) (lim:Nat) (x y:α) (H:NE) (Q:Value->NE->Prop),NL E mp lim cl (.agg (enc x).toArray::.agg (enc y).toArray::cs) H Q=Q (Vi (c x y)) H) {d:Array α} {a s:Nat} (hd:d.size=n) (l:0<a) (m:a+1<n) (hs:s<90) :
  ∃x i:Nat,a<=x+1/\x<=a+1/\i<=s+3/\∀Q,NL E false lim iz.MEDA [.slice p n cap,Vi a,Vp (G.length+X.length),.func (.func cl) #[] cs.toArray] (DH enc G B d++(X++[Vc [Vi s]])) Q =
   Q (Vi x) (DH enc G B d++(X++[Vc [Vi i]])):=by
 obtain ⟨k,j,h1,k1,o1⟩:=Ny0 (X:=X) (cap:=cap) (lim:=lim) (a:=a-1) (b:=a) (e:=a+1) hp hB hl f hc hd (by omega) (by omega) (by omega) hs
 have g:IntKind.i64.wrap ((a:Int)-1)=((a-1:Nat):Int):=QX (by omega) (by omega)
 have h:IntKind.i64.wrap ((a:Int)+1)=((a+1:Nat):Int):=OG (by omega)
 refine ⟨k,j,by omega,by omega,k1,fun Q=>runs (SortAt.MEDA (E:=E) (z:=iz)) ?_⟩
 rw [Oab,N1i]
 simp only [N9p,N8y,g,h,o1,SB,seval,NC,NJ,NG,NQ,reduceCtorEq,NB,place,NA,ND]
theorem PY {m:Int} {k:Nat} (h:m=(k:Int)) (hk:k<2 ^ 62):IntKind.i64.wrap m=(k:Int):=by
 subst h;exact NT (by omega) (by omega)
theorem Ndc {a b:Nat}:(a:Int).tdiv (b:Int)=((a / b:Nat):Int):=by
 rw [Ph (by omega)];rfl
theorem N7i {G X:NE} {B lim cap n:Nat} {p:Option Addr} {c:α->α->Int} {cl:FuncId} {cs:List Value} (hp:p=Sa B) (hB:B<G.length) (hl:lim<=B) (u:n<2 ^ 61) (hc:∀(mp:Bool) (lim:Nat) (x y:α) (H:NE) (Q:Value->NE->Prop),NL E mp lim cl (.agg (enc x).toArray::.agg (enc y).toArray::cs) H Q=Q (Vi (c x y)) H) {d:Array α} {a b:Nat} (hd:d.size=n) (hb:b<=n) (N:a+12<b) :
  ∃v h s:Nat,a<=v/\v<b/\h<=2/\∀Q,NL E false lim iz.CHO [.slice p n cap,Vi a,Vi b,.func (.func cl) #[] cs.toArray] (DH enc G B d++X) Q =
   Q (.tuple #[Vi v,Vi h]) (DH enc G B d++(X++[Vc [Vi s]])):=by
 obtain ⟨l,rfl⟩:∃l,b=a+l:=⟨b-a,by omega⟩
 have i:IntKind.i64.wrap (((a+l:Nat):Int)-(a:Int))=(l:Int):=PY (by omega) (by omega)
 have C:(l:Int).tdiv 4=((l / 4:Nat):Int):=Ndc (b:=4)
 have j:IntKind.i64.wrap ((l / 4:Nat):Int)=((l / 4:Nat):Int):=PY rfl (by omega)
 have k:IntKind.i64.wrap (((l / 4:Nat):Int)*1)=((l / 4:Nat):Int):=PY (by omega) (by omega)
 have m:IntKind.i64.wrap (((l / 4:Nat):Int)*2)=((l / 4*2:Nat):Int):=PY (by omega) (by omega)
 have o:IntKind.i64.wrap (((l / 4:Nat):Int)*3)=((l / 4*3:Nat):Int):=PY (by omega) (by omega)
 have q:IntKind.i64.wrap ((a:Int)+((l / 4:Nat):Int))=((a+l / 4:Nat):Int):=PY (by omega) (by omega)
 have r:IntKind.i64.wrap ((a:Int)+((l / 4*2:Nat):Int))=((a+l / 4*2:Nat):Int):=PY (by omega) (by omega)
 have t:IntKind.i64.wrap ((a:Int)+((l / 4*3:Nat):Int))=((a+l / 4*3:Nat):Int):=PY (by omega) (by omega)
 have c8:(8:Int)<=(l:Int):=by omega
 have key:∀(x y z s:Nat),a<=x->x<a+l->a<=y->y<a+l->a<=z->z<a+l->s<80->∃v g:Nat,a<=v/\v<a+l/\∀Q,NL E false lim iz.MED [.slice p n cap,Vi x,Vi y,Vi z,Vp (G.length+X.length),.func (.func cl) #[] cs.toArray] (DH enc G B d++(X++[Vc [Vi s]])) Q =
   Q (Vi v) (DH enc G B d++(X++[Vc [Vi g]])):=by
  intro x y z s q1 q2 q3 q4 q5 q6 q7
  obtain ⟨v,g,J,_,D⟩:=Ny0 (X:=X) (cap:=cap) (lim:=lim) (a:=x) (b:=y) (e:=z) hp hB hl u hc hd (by omega) (by omega) (by omega) (show s<90 by omega)
  exact ⟨v,g,by omega,by omega,D⟩
 have fin:∀(v g:Nat) ,∃h:Nat,h<=2/\((g=0/\h=1)\/(¬(g:Int)=0/\g=12/\h=2)\/(¬(g:Int)=0/\¬(g:Int)=12/\h=0)):=by
  intro v g
  by_cases z:g=0
  ·exact ⟨1,by omega,.inl ⟨z,rfl⟩⟩
  ·by_cases I:g=12
   ·exact ⟨2,by omega,.inr (.inl ⟨by omega,I,rfl⟩)⟩
   ·exact ⟨0,by omega,.inr (.inr ⟨by omega,by omega,rfl⟩)⟩
 by_cases M:50<=l
 ·have f:(50:Int)<=(l:Int):=by omega
  obtain ⟨S,O,h1,h2,V,o1⟩:=Nio (X:=X) (cap:=cap) (lim:=lim) (a:=a+l / 4) (s:=0) hp hB hl u hc hd (by omega) (by omega) (by omega)
  obtain ⟨T,P,W,h5,Y,o2⟩:=Nio (X:=X) (cap:=cap) (lim:=lim) (a:=a+l / 4*2) (s:=O) hp hB hl u hc hd (by omega) (by omega) (by omega)
  obtain ⟨U,R,Z,h8,h9,L⟩:=Nio (X:=X) (cap:=cap) (lim:=lim) (a:=a+l / 4*3) (s:=P) hp hB hl u hc hd (by omega) (by omega) (by omega)
  obtain ⟨v,g,J,D,w⟩:=key S T U R (by omega) (by omega) (by omega) (by omega) (by omega) (by omega) (by omega)
  obtain ⟨h,K,A⟩:=fin v g
  refine ⟨v,h,g,J,D,K,fun Q=>runs (SortAt.CHO (E:=E) (z:=iz)) ?_⟩
  rw [Oaf,N4f]
  simp only [show ((0:Nat):Int)=0 from rfl] at o1
  rcases A with ⟨rfl,rfl⟩ | ⟨F,rfl,rfl⟩ | ⟨F,I,rfl⟩
  ·simp only [Ntz,Nsx,i,C,j,k,m,o,q,r,t,c8,f,o1,o2,L,w,VK,VJ,V3,SB,seval,NC,NJ,NG,NQ,reduceCtorEq,NB,place,NA,ND]
  ·simp only [Ntz,Nsx,i,C,j,k,m,o,q,r,t,c8,f,o1,o2,L,w,VK,VJ,V3,SB,seval,NC,NJ,NG,NQ,reduceCtorEq,NB,place,NA,ND]
  ·simp only [Ntz,Nsx,i,C,j,k,m,o,q,r,t,c8,f,o1,o2,L,w,F,I,VK,VJ,V3,SB,seval,NC,NJ,NG,NQ,reduceCtorEq,NB,place,NA,ND]
 ·have f:¬(50:Int)<=(l:Int):=by omega
  obtain ⟨v,g,J,D,w⟩:=key (a+l / 4) (a+l / 4*2) (a+l / 4*3) 0 (by omega) (by omega) (by omega) (by omega) (by omega) (by omega) (by omega)
  obtain ⟨h,K,A⟩:=fin v g
  refine ⟨v,h,g,J,D,K,fun Q=>runs (SortAt.CHO (E:=E) (z:=iz)) ?_⟩
  rw [Oaf,N4f]
  simp only [show ((0:Nat):Int)=0 from rfl] at w
  rcases A with ⟨rfl,rfl⟩ | ⟨F,rfl,rfl⟩ | ⟨F,I,rfl⟩
  ·simp only [Ntz,Nsx,i,C,j,k,m,o,q,r,t,c8,f,w,VK,VJ,V3,SB,seval,NC,NJ,NG,NQ,reduceCtorEq,NB,place,NA,ND]
  ·simp only [Ntz,Nsx,i,C,j,k,m,o,q,r,t,c8,f,w,VK,VJ,V3,SB,seval,NC,NJ,NG,NQ,reduceCtorEq,NB,place,NA,ND]
  ·simp only [Ntz,Nsx,i,C,j,k,m,o,q,r,t,c8,f,w,F,I,VK,VJ,V3,SB,seval,NC,NJ,NG,NQ,reduceCtorEq,NB,place,NA,ND]
variable {E:Env} {iz:Ids} [DT E E] [SortAt E iz] {α:Type} [Inhabited α] {enc:α->List Value} [EncOk enc iz]
def len8:List UInt8:=[0,1,2,2,3,3,3,3,4,4,4,4,4,4,4,4,5,5,5,5,5,5,5,5,5,5,5,5,5,5,5,5,6,6,6,6,6,6,6,6,6,6,6,6,6,6,6,6,6,6,6,6,6,6,6,6,6,6,6,6,6,6,6,6,7,7,7,7,7,7,7,7,7,7,7,7,7,7,7,7,7,7,7,7,7,7,7,7,7,7,7,7,7,7,7,7,7,7,7,7,7,7,7,7,7,7,7,7,7,7,7,7,7,7,7,7,7,7,7,7,7,7,7,7,7,7,7,7,8,8,8,8,8,8,8,8,8,8,8,8,8,8,8,8,8,8,8,8,8,8,8,8,8,8,8,8,8,8,8,8,8,8,8,8,8,8,8,8,8,8,8,8,8,8,8,8,8,8,8,8,8,8,8,8,8,8,8,8,8,8,8,8,8,8,8,8,8,8,8,8,8,8,8,8,8,8,8,8,8,8,8,8,8,8,8,8,8,8,8,8,8,8,8,8,8,8,8,8,8,8,8,8,8,8,8,8,8,8,8,8,8,8,8,8,8,8,8,8,8,8,8,8,8,8,8,8]
theorem Nza:len8.length=256:=by decide
theorem Nri:∀m,m<256->m<2 ^ (len8.getD m 0).toNat/\(m=0\/2 ^ (len8.getD m 0).toNat<=2*m)/\(len8.getD m 0).toNat<=8:=by decide +kernel
theorem len8_get {m:Nat} (h:m<256):len8[m]? = some (len8.getD m 0):=by
 rw [Na,Nf (by rw [Nza];exact h)];rfl
theorem wrap64 {n:Int}:IntKind.u64.wrap n=n % 2 ^ 64:=by simp [IntKind.wrap,IntKind.bits,IntKind.signed]
theorem N5c {n:Int}:IntKind.u8.wrap n=n % 2 ^ 8:=by simp [IntKind.wrap,IntKind.bits,IntKind.signed]
theorem fd8 {a:Int}:a.fdiv (2 ^ min (Int.toNat 8) IntKind.u64.bits)=a / 256:=by
 rw [show (2:Int) ^ min (Int.toNat 8) IntKind.u64.bits=256 from by decide,Qw _ (by decide)]
theorem Ny9 {x:Nat} (r:x<65536) (q:0<x):∃L:Nat,x<2 ^ L/\2 ^ L<=2*x/\L<=16/\∀(mp:Bool) (lim:Nat) (H:NE) (Q:Value->NE->Prop),NL E mp lim iz.LEN [.int .u64 (x:Int)] H Q=Q (Vi L) H:=by
 have key:∃L:Nat,x<2 ^ L/\2 ^ L<=2*x/\L<=16/\∀(mp:Bool) (lim:Nat) (H:NE) (Q:Value->NE->Prop),NL E mp lim iz.LEN64 [.int .u64 (x:Int)] H Q=Q (Vi L) H:=by
  have c32:¬(4294967296:Int)<=(x:Int):=by omega
  have c16:¬(65536:Int)<=(x:Int):=by omega
  by_cases c8:256<=x
  ·obtain ⟨h1,h2,d⟩:=Nri (x / 256) (by omega)
   have c:=len8_get (m:=x / 256) (by omega)
   generalize l:len8.getD (x / 256) 0=b at h1 h2 d c
   have j:2 ^ b.toNat<=2*(x / 256):=by rcases h2 with h | h<;>omega
   have e:(2:Nat) ^ (8+b.toNat)=256*2 ^ b.toNat:=by rw [Nat.pow_add]
   refine ⟨8+b.toNat,by rw [e];omega,by rw [e];omega,by omega,fun mp lim H Q=>?_⟩
   refine pcG (SortAt.LEN64 (E:=E) (z:=iz)) rfl ?_
   rw [Nqi,Nfa]
   unfold len8 at c
   have a:(256:Int)<=(x:Int):=by omega
   have n:IntKind.u64.wrap ((x:Int) / 256)=((x / 256:Nat):Int):=by rw [wrap64];omega
   have f:IntKind.u8.wrap ((x:Int) / 256)=((x / 256:Nat):Int):=by rw [N5c];omega
   have g:IntKind.i64.wrap ((b.toNat:Nat):Int)=(b.toNat:Int):=PY rfl (by omega)
   have o:IntKind.i64.wrap (8+(b.toNat:Int))=((8+b.toNat:Nat):Int):=PY (by omega) (by omega)
   have p:IntKind.i64.wrap 8=8:=by decide
   have i:(0:Int)<=((x / 256:Nat):Int):=by omega
   simp only [No2,Nn5,c32,c16,a,fd8,n,f,g,o,p,i,c,N2,Rk,SB,Nat.reduceLT,NC,NJ,Nat.reduceEqDiff,NG,NQ,reduceCtorEq,NB,place,NA,Nat.reduceAdd,Nat.reduceLeDiff,ND,Int.reduceEq,Int.reduceLT,Int.reduceLE]
  ·obtain ⟨h1,h2,d⟩:=Nri x (by omega)
   have c:=len8_get (m:=x) (by omega)
   generalize l:len8.getD x 0=b at h1 h2 d c
   refine ⟨b.toNat,h1,by rcases h2 with h | h<;>omega,by omega,fun mp lim H Q=>?_⟩
   refine pcG (SortAt.LEN64 (E:=E) (z:=iz)) rfl ?_
   rw [Nqi,Nfa]
   unfold len8 at c
   have a:¬(256:Int)<=(x:Int):=by omega
   have f:IntKind.u8.wrap (x:Int)=(x:Int):=by rw [N5c];omega
   have g:IntKind.i64.wrap ((b.toNat:Nat):Int)=(b.toNat:Int):=PY rfl (by omega)
   have i:(0:Int)<=(x:Int):=by omega
   simp only [No2,Nn5,c32,c16,a,f,g,i,c,N2,Rk,SB,Nat.reduceLT,NC,NJ,Nat.reduceEqDiff,NG,NQ,reduceCtorEq,NB,place,NA,Nat.reduceAdd,Nat.reduceLeDiff,ND,Int.reduceEq,Int.reduceLT,Int.reduceLE]
 obtain ⟨L,h1,h2,d,k⟩:=key
 refine ⟨L,h1,h2,d,fun mp lim H Q=>?_⟩
 refine pcG (SortAt.LEN (E:=E) (z:=iz)) rfl ?_
 rw [Oac,N4d]
 simp only [N9q,N8z,k,SB,Nat.reduceLT,NC,NJ,Nat.reduceEqDiff,NG,NQ,reduceCtorEq,NB,place,NA,Nat.reduceAdd,Nat.reduceLeDiff,ND,Int.reduceEq,Int.reduceLT,Int.reduceLE]
theorem N6y {x:Nat} (d:x<65536) (b:0<x):∃m:Nat,0<m/\m<=2*x/\∀(mp:Bool) (lim:Nat) (H:NE) (Q:Value->NE->Prop),NL E mp lim iz.NPT [Vi x] H Q=Q (.int .u64 (m:Int)) H:=by
 obtain ⟨L,h1,h2,h,c⟩:=Ny9 (E:=E) (iz:=iz) d b
 refine ⟨2 ^ L,Nat.pow_pos (by decide),h2,fun mp lim H Q=>?_⟩
 refine pcG (SortAt.NPT (E:=E) (z:=iz)) rfl ?_
 rw [Odq,N7o]
 have e:IntKind.u64.wrap (x:Int)=(x:Int):=by rw [wrap64];omega
 have f:min L IntKind.u64.bits=L:=by simp only [IntKind.bits];omega
 have hp:(2:Nat) ^ L<2 ^ 18:=by omega
 have g:IntKind.u64.wrap (1*2 ^ L)=((2 ^ L:Nat):Int):=by
  rw [wrap64,Int.one_mul]
  have:((2:Int) ^ L)=((2 ^ L:Nat):Int):=by simp
  rw [this];omega
 have a:¬(L:Int)<0:=by omega
 simp only [Oci,Ob6,e,c,a,N2,f,g,SB,Nat.reduceLT,NC,NJ,Nat.reduceEqDiff,NG,NQ,reduceCtorEq,NB,place,NA,Nat.reduceAdd,Nat.reduceLeDiff,ND,Int.reduceEq,Int.reduceLT,Int.reduceLE]
theorem N6b {α:Type} {enc:α->List Value} {G X:NE} {B lim:Nat} {d:Array α} {s:Int} (hl:lim<=B) (hB:B<G.length) :
  ∃a:Int,(0<=a/\a<2 ^ 64)/\∀Q,NL E false lim iz.XOR [Vp (G.length+X.length)] (DH enc G B d++(X++[Vc [.int .u64 s]])) Q=Q (.int .u64 a) (DH enc G B d++(X++[Vc [.int .u64 a]])):=by
 have b:lim<=G.length+X.length:=by omega
 have c:∀m:Int,0<=IntKind.u64.wrap m/\IntKind.u64.wrap m<2 ^ 64:=by intro m;rw [wrap64];omega
 have key:NL E false lim iz.XOR [Vp (G.length+X.length)] (DH enc G B d++(X++[Vc [.int .u64 s]])) fun v H'=>∃a,(0<=a/\a<2 ^ 64)/\v=.int .u64 a/\H'=DH enc G B d++(X++[Vc [.int .u64 a]]):=by
  rw [Sn (E:=E) (g:=iz.XOR) (af:=(aXOR iz)) ((SortAt.XOR (E:=E) (z:=iz)).2.2 _ _) (SortAt.XOR (E:=E) (z:=iz)).1 (SortAt.XOR (E:=E) (z:=iz)).2.1 rfl]
  rw [Odm,N7k]
  simp only [Och,Ob5,VK,VJ,b,Nb,SB,Nat.reduceLT,NC,NJ,Nat.reduceEqDiff,NG,NQ,reduceCtorEq,NB,place,NA,Nat.reduceAdd,Nat.reduceLeDiff,ND,Int.reduceEq,Int.reduceLT,Int.reduceLE]
  exact ⟨_,c _,rfl,rfl⟩
 obtain ⟨k,v,H',e,a,h1,rfl,rfl⟩:=oneG (SortAt.dt (E:=E) (z:=iz)) key
 exact ⟨a,h1,fun Q=>NL.det e⟩
theorem N8l {a b:Int} (c:0<=b/\b<2 ^ 64):0<=IntKind.u64.wrap ((BitVec.ofInt IntKind.u64.bits a &&& BitVec.ofInt IntKind.u64.bits b).toNat:Int)/\IntKind.u64.wrap ((BitVec.ofInt IntKind.u64.bits a &&& BitVec.ofInt IntKind.u64.bits b).toNat:Int)<=b:=by
 rw [wrap64]
 have h1:(BitVec.ofInt IntKind.u64.bits a &&& BitVec.ofInt IntKind.u64.bits b).toNat<=(BitVec.ofInt IntKind.u64.bits b).toNat:=by
  rw [BitVec.toNat_and];exact Nat.and_le_right
 have h2:((BitVec.ofInt IntKind.u64.bits b).toNat:Int)=b:=by
  rw [BitVec.toNat_ofInt]
  simp only [IntKind.bits]
  omega
 omega
variable {E:Env} {iz:Ids} [DT E E] [SortAt E iz] {α:Type} [Inhabited α] {enc:α->List Value} [EncOk enc iz]
theorem N8d {G X:NE} {B lim cap n:Nat} {p:Option Addr} {c:α->α->Int} {cl:FuncId} {cs:List Value} (hp:p=Sa B) (hB:B<G.length) (hl:lim<=B) (ag:n<2 ^ 61) (hc:∀(mp:Bool) (lim:Nat) (x y:α) (H:NE) (Q:Value->NE->Prop),NL E mp lim cl (.agg (enc x).toArray::.agg (enc y).toArray::cs) H Q=Q (Vi (c x y)) H) {d:Array α} {a b:Nat} (hd:d.size=n) (hb:b<=n) (ac:a+12<b) (ah:n<65536) :
  ∃q s,q.size=n/\PermIn a b d q/\∀Q,NL E false lim iz.BRK [.slice p n cap,Vi a,Vi b,.func (.func cl) #[] cs.toArray] (DH enc G B d++X) Q=Q (.tuple #[]) (DH enc G B q++(X++[Vc [.int .u64 s]])):=by
 have key:NL E false lim iz.BRK [.slice p n cap,Vi a,Vi b,.func (.func cl) #[] cs.toArray] (DH enc G B d++X) fun v H'=>∃q s,q.size=n/\PermIn a b d q/\v=.tuple #[]/\H'=DH enc G B q++(X++[Vc [.int .u64 s]]):=by
  rw [Sn (E:=E) (g:=iz.BRK) (af:=(aBRK iz)) ((SortAt.BRK (E:=E) (z:=iz)).2.2 _ _) (SortAt.BRK (E:=E) (z:=iz)).1 (SortAt.BRK (E:=E) (z:=iz)).2.1 rfl]
  rw [Ods,N7q]
  have ld:=fun (i:Nat) (X:NE) (d:Array α) (hd:d.size=n) (hi:i<n)=>YW (X:=X) (d:=d) (i:=i) hp hB (EncOk.len (enc:=enc) (z:=iz)) (by omega);have st:=fun (i:Nat) (X:NE) (d:Array α) (hd:d.size=n) (hi:i<n) (y:α)=>Yi (X:=X) (d:=d) (i:=i) (y:=y) hp hB hl (EncOk.len (enc:=enc) (z:=iz)) (by omega);have ix:=fun (i:Nat) (hi:i<n) c (k:IntKind) (H:NE)=>Wq (e:=iz.e) (i:=i) (n:=n) (c:=c) (k:=k) (H:=H) hp hi
  have Z:lim<=G.length+X.length:=by omega
  obtain ⟨l,rfl⟩:∃l,b=a+l:=⟨b-a,by omega⟩
  obtain ⟨m,ad,ae,L⟩:=N6y (E:=E) (iz:=iz) (x:=l) (by omega) (by omega)
  have u:IntKind.i64.wrap (((a+l:Nat):Int)-(a:Int))=(l:Int):=PY (by omega) (by omega)
  have T:(l:Int).tdiv 4=((l / 4:Nat):Int):=Ndc (b:=4)
  have w:IntKind.i64.wrap ((l / 4:Nat):Int)=((l / 4:Nat):Int):=PY rfl (by omega)
  have A:IntKind.i64.wrap (((l / 4:Nat):Int)*2)=((l / 4*2:Nat):Int):=PY (by omega) (by omega)
  have C:IntKind.i64.wrap ((a:Int)+((l / 4*2:Nat):Int))=((a+l / 4*2:Nat):Int):=PY (by omega) (by omega)
  have aa:IntKind.i64.wrap (((a+l / 4*2:Nat):Int)-1)=((a+l / 4*2-1:Nat):Int):=PY (by omega) (by omega)
  have D:IntKind.i64.wrap (((a+l / 4*2:Nat):Int)+1)=((a+l / 4*2+1:Nat):Int):=PY (by omega) (by omega)
  have N:IntKind.u64.wrap ((m:Int)-1)=((m-1:Nat):Int):=by rw [wrap64];omega
  have c8:(8:Int)<=(l:Int):=by omega
  simp only [N3h,N2q,u,T,w,A,C,aa,c8,L,VK,VJ,V3,Z,SB,seval,NC,NJ,NG,NQ,reduceCtorEq,NB,place,NA,ND]
  refine NR (S:=Nat×Array α×Int) (fun s=>a+l+5-s.1) (fun s fr H=>a<s.1/\s.1<=a+l / 4*2+2/\fr 0=.slice p n cap/\fr 1=Vi a/\fr 8=Vi l/\fr 9=Vp (G.length+X.length)/\fr 10=.int .u64 (m:Int)/\fr 11=Vi s.1/\
   H=DH enc G B s.2.1++(X++[Vc [.int .u64 s.2.2]])/\s.2.1.size=n/\PermIn a (a+l) d s.2.1) (a+l / 4*2-1,d,IntKind.u64.wrap (l:Int)) ⟨by simp only;omega,by simp only;omega,rfl,rfl,rfl,rfl,rfl,rfl,rfl,hd,permIn_refl _ _ _⟩ ?_
  rintro ⟨i,P,s⟩ fr H ⟨h1,h2,F,I,J,K,j,t,rfl,h,R⟩ Y
  simp only at h1 h2 t h R
  rw [NS (Nzm.eq_1 iz)]
  by_cases W:i<=a+(l / 4*2+1)
  ·obtain ⟨V,_,U⟩:=N6b (E:=E) (iz:=iz) (X:=X) (d:=P) (s:=s) (enc:=enc) hl hB
   have hA:=N8l (a:=V) (b:=((m-1:Nat):Int)) (by omega)
   generalize hr:IntKind.u64.wrap ((BitVec.ofInt IntKind.u64.bits V &&& BitVec.ofInt IntKind.u64.bits ((m-1:Nat):Int)).toNat:Int)=r at hA
   obtain ⟨f,rfl⟩:∃f:Nat,r=(f:Int):=⟨r.toNat,by omega⟩
   have O:IntKind.i64.wrap (f:Int)=(f:Int):=PY rfl (by omega)
   have M:IntKind.i64.wrap ((i:Int)+1)=((i+1:Nat):Int):=OG (by omega)
   have i1:i<n:=by omega
   by_cases c2:l<=f
   ·have ab:IntKind.i64.wrap ((f:Int)-(l:Int))=((f-l:Nat):Int):=PY (by omega) (by omega)
    have o:IntKind.i64.wrap ((a:Int)+((f-l:Nat):Int))=((a+(f-l):Nat):Int):=PY (by omega) (by omega)
    have i2:a+(f-l)<n:=by omega
    simp only [N3h,N2q,F,I,J,K,j,t,u,T,w,A,C,D,W,U,N,hr,O,c2,ab,o,ld,st,ix,Nb,Ng,(EncOk.len (enc:=enc) (z:=iz)),h,i1,i2,M,SB,seval,NC,NJ,NG,NQ,reduceCtorEq,NB,place,NA,ND]
    exact Y (i+1,swp P i (a+(f-l)),V) _ _ ⟨by simp only;omega,by simp only;omega,F,I,J,K,j,rfl,by simp [swp],by simp [swp,h],permIn_trans _ _ _ _ _ R (swp_permIn _ _ _ _ _ (by omega) (by omega) (by omega) (by omega) (by omega))⟩ (by simp only;omega)
   ·have o:IntKind.i64.wrap ((a:Int)+(f:Int))=((a+f:Nat):Int):=PY (by omega) (by omega)
    have i2:a+f<n:=by omega
    simp only [N3h,N2q,F,I,J,K,j,t,u,T,w,A,C,D,W,U,N,hr,O,c2,o,ld,st,ix,Nb,Ng,(EncOk.len (enc:=enc) (z:=iz)),h,i1,i2,M,SB,seval,NC,NJ,NG,NQ,reduceCtorEq,NB,place,NA,ND]
    exact Y (i+1,swp P i (a+f),V) _ _ ⟨by simp only;omega,by simp only;omega,F,I,J,K,j,rfl,by simp [swp],by simp [swp,h],permIn_trans _ _ _ _ _ R (swp_permIn _ _ _ _ _ (by omega) (by omega) (by omega) (by omega) (by omega))⟩ (by simp only;omega)
  ·clear Y
   simp only [N3h,N2q,F,I,J,K,j,t,u,T,w,A,C,D,W,SB,seval,NC,NJ,NG,NQ,reduceCtorEq,NB,place,NA,ND]
   exact ⟨P,s,h,R,rfl⟩
 obtain ⟨k,v,H',U,q,s,h1,h2,rfl,rfl⟩:=oneG (SortAt.dt (E:=E) (z:=iz)) key
 exact ⟨q,s,h1,h2,fun Q=>NL.det U⟩
variable {E:Env} {iz:Ids} [DT E E] [SortAt E iz] {α:Type} [Inhabited α] {enc:α->List Value} [EncOk enc iz]
def tlc:ACode->ACode
 | .seq _ b=>b
 | x=>x
def unb:ACode->ACode
 | .block _ b=>b
 | x=>x
def q1 (iz:Ids):ACode:=tlc (tlc (tlc (tlc (unb (Tk iz)))))
def q2 (iz:Ids):ACode:=tlc (tlc (q1 iz))
def q3 (iz:Ids):ACode:=tlc (q2 iz)
def hdc:ACode->ACode
 | .seq a _=>a
 | x=>x
def p1 (iz:Ids):ACode:=hdc (unb (Tk iz))
def p2 (iz:Ids):ACode:=hdc (tlc (unb (Tk iz)))
def p3 (iz:Ids):ACode:=hdc (tlc (tlc (unb (Tk iz))))
def p4 (iz:Ids):ACode:=hdc (tlc (tlc (tlc (unb (Tk iz)))))
theorem Nr1:(Tk iz)=.block 1 (.seq (p1 iz) (.seq (p2 iz) (.seq (p3 iz) (.seq (p4 iz) (q1 iz))))):=rfl
def p5 (iz:Ids):ACode:=hdc (q2 iz)
theorem Nxr:(q2 iz)=.seq (p5 iz) (q3 iz):=rfl
def p6 (iz:Ids):ACode:=hdc (q1 iz)
def p7 (iz:Ids):ACode:=hdc (tlc (q1 iz))
theorem N5f:(q1 iz)=.seq (p6 iz) (.seq (p7 iz) (q2 iz)):=rfl
def YV (enc:α->List Value) (G:NE) (B n:Nat) (c:α->α->Int) (a b:Nat) (d:Array α) (X:NE) (v:Value) (H':NE):Prop:=
 ∃e Y,e.size=n/\PermIn a b d e/\SortedIn (ltC c) a b e/\v=.tuple #[]/\H'=DH enc G B e++(X++Y)
theorem YV.perm {G:NE} {B n:Nat} {c:α->α->Int} {a b:Nat} {d e:Array α} {X Y:NE} {v:Value} {H':NE} (h:YV enc G B n c a b e (X++Y) v H') (j:PermIn a b d e):YV enc G B n c a b d X v H':=by
 obtain ⟨f,Z,h1,h2,g,i,h5⟩:=h
 exact ⟨f,Y++Z,h1,permIn_trans _ _ _ _ _ j h2,g,i,by rw [h5];simp⟩
theorem Ocf {G X:NE} {B lim cap n:Nat} {p:Option Addr} {c:α->α->Int} {cl:FuncId} {cs:List Value} (hp:p=Sa B) (hB:B<G.length) (hl:lim<=B) (ab:n<2 ^ 61) (hc:∀(mp:Bool) (lim:Nat) (x y:α) (H:NE) (Q:Value->NE->Prop),NL E mp lim cl (.agg (enc x).toArray::.agg (enc y).toArray::cs) H Q=Q (Vi (c x y)) H) (hS:SWO (ltC c)) {d:Array α} {a b v lm m:Nat} {wb wp:Bool} {fr:Nat->Value} {L:List AItem} (hT:∀(a b lm:Nat) (wb wp:Bool) (d:Array α) (X:NE) (fr:Nat->Value),b-a<m->a<=b->b<=n->d.size=n->Below (ltC c) a b d->lm<2 ^ 60->fr 0=.slice p n cap->fr 1=Vi a->fr 2=Vi b->fr 3=Vi lm->fr 4=.func (.func cl) #[] cs.toArray->fr 10=.bool wb->fr 11=.bool wp->PV E (aPDQ iz) lim L fr (DH enc G B d++X) (YV enc G B n c a b d X)) (hC:∀(a b lm:Nat) (d:Array α) (X:NE),b-a<m->a<=b->b<=n->d.size=n->Below (ltC c) a b d->lm<2 ^ 60->∃f Y,f.size=n/\PermIn a b d f/\SortedIn (ltC c) a b f/\∀Q,NL E false lim iz.PDQ [.slice p n cap,Vi a,Vi b,Vi lm,.func (.func cl) #[] cs.toArray] (DH enc G B d++X) Q=Q (.tuple #[]) (DH enc G B f++(X++Y))) (hm:b-a<=m) (hd:d.size=n) (hb:b<=n) (S:a<=v/\v<b) (j:lm<2 ^ 60) (aa:Below (ltC c) a b d) (C:fr 0=.slice p n cap) (U:fr 1=Vi a) (R:fr 2=Vi b) (D:fr 3=Vi lm) (F:fr 4=.func (.func cl) #[] cs.toArray) (s:fr 10=.bool wb) (t:fr 11=.bool wp) (w:fr 12=Vi ((b-a:Nat):Int)) (A:fr 13=Vi v) :
  PV E (aPDQ iz) lim (.code (q3 iz)::.inBlock 1::L) fr (DH enc G B d++X) (YV enc G B n c a b d X):=by
 simp only [q3,q2,q1,tlc,unb,Tk]
 have ld:=fun (i:Nat) (X:NE) (d:Array α) (hd:d.size=n) (hi:i<n)=>YW (X:=X) (d:=d) (i:=i) hp hB (EncOk.len (enc:=enc) (z:=iz)) (by omega);have st:=fun (i:Nat) (X:NE) (d:Array α) (hd:d.size=n) (hi:i<n) (y:α)=>Yi (X:=X) (d:=d) (i:=i) (y:=y) hp hB hl (EncOk.len (enc:=enc) (z:=iz)) (by omega);have ix:=fun (i:Nat) (hi:i<n) c (k:IntKind) (H:NE)=>Wq (e:=iz.e) (i:=i) (n:=n) (c:=c) (k:=k) (H:=H) hp hi
 have V:0<a->IntKind.i64.wrap ((a:Int)-1)=((a-1:Nat):Int):=fun h=>QX h (by omega)
 have i1:v<n:=by omega
 by_cases W:0<a/\¬c d[a-1]! d[v]!<0
 ·obtain ⟨W,c2⟩:=W
  have i2:a-1<n:=by omega
  have ad:=fun Q=>N6m (X:=X) (cap:=cap) (a:=a) (b:=b) (v:=v) (Q:=Q) hp hB hl ab hc hd hb S.1 S.2
  generalize hx:partitionEqual (ltC c) d a b v=r at ad
  obtain ⟨mid,d4⟩:=r
  obtain ⟨r1,r2,r3,r4,r5⟩:=round_eq hS (partitionEqual_holds (ltC c)) W S.1 S.2 (by omega) aa (by simp [ltC,c2]) hx
  have g:=V W
  simp only [Xl,Xi,C,U,R,D,F,s,t,w,A,W,c2,g,ld,st,ix,Nb,Ng,(EncOk.len (enc:=enc) (z:=iz)),hd,i1,i2,hc,ad,SB,seval,NC,NJ,NG,NQ,reduceCtorEq,NB,place,NA,ND]
  exact (hT mid b lm wb wp d4 X _ (by omega) r2 hb (by omega) r4 j (by exact C) (by rfl) (by exact R) (by exact D) (by exact F) (by exact s) (by exact t)).mono fun v H' ⟨f,Y,N,l,o,O,P⟩=>⟨f,Y,N,(r5 f l o).1,(r5 f l o).2,O,P⟩
 ·have u:=fun Q=>Ns5 (X:=X) (cap:=cap) (a:=a) (b:=b) (v:=v) (Q:=Q) hp hB hl ab hc hd hb S.1 S.2
  generalize hx:Sort.partition (ltC c) d a b v=r at u
  obtain ⟨mid,ap,d4⟩:=r
  obtain ⟨r1,r2,r3,r4,r5,r6,r7⟩:=round_part hS (partition_holds (ltC c)) S.1 S.2 (by omega) aa hx
  simp only at u
  have I:IntKind.i64.wrap ((mid:Int)-(a:Int))=((mid-a:Nat):Int):=PY (by omega) (by omega)
  have J:IntKind.i64.wrap ((b:Int)-(mid:Int))=((b-mid:Nat):Int):=PY (by omega) (by omega)
  have K:IntKind.i64.wrap ((mid:Int)+1)=((mid+1:Nat):Int):=OG (by omega)
  have hq:((b-a:Nat):Int).tdiv 8=(((b-a) / 8:Nat):Int):=Ndc (b:=8)
  have M:IntKind.i64.wrap (((b-a) / 8:Nat):Int)=(((b-a) / 8:Nat):Int):=PY rfl (by omega)
  have ac:(0<a/\c d[a-1]! d[v]!<0)\/¬0<a:=by
   by_cases q:0<a
   ·exact .inl ⟨q,N4 fun q2=>W ⟨q,q2⟩⟩
   ·exact .inr q
  by_cases c5:mid-a<b-mid
  ·obtain ⟨T,Y,l1,l2,l3,l4⟩:=hC a mid lm d4 X (by omega) r1 (by omega) (by omega) r4 j
   obtain ⟨k1,k2⟩:=r6 T l2 l3
   rcases ac with ⟨c2,c3⟩ | c2
   ·have g:=V c2
    have i2:a-1<n:=by omega
    simp only [Xl,Xi,C,U,R,D,F,s,t,w,A,c2,c3,g,ld,st,ix,Nb,Ng,(EncOk.len (enc:=enc) (z:=iz)),hd,i1,i2,hc,u,I,J,K,hq,M,c5,l4,SB,seval,NC,NJ,NG,NQ,reduceCtorEq,NB,place,NA,ND]
    exact (hT (mid+1) b lm (decide ((b-a) / 8<=mid-a)) ap T (X++Y) _ (by omega) (by omega) hb l1 k1 j (by exact C) (by rfl) (by exact R) (by exact D) (by exact F) (by rfl) (by rfl)).mono fun v H' ⟨f,Z,N,l,o,O,P⟩=>⟨f,Y++Z,N,(k2 f l o).1,(k2 f l o).2,O,by rw [P];simp⟩
   ·simp only [Xl,Xi,C,U,R,D,F,s,t,w,A,c2,ld,st,ix,Nb,Ng,(EncOk.len (enc:=enc) (z:=iz)),hd,i1,hc,u,I,J,K,hq,M,c5,l4,SB,seval,NC,NJ,NG,NQ,reduceCtorEq,NB,place,NA,ND]
    exact (hT (mid+1) b lm (decide ((b-a) / 8<=mid-a)) ap T (X++Y) _ (by omega) (by omega) hb l1 k1 j (by exact C) (by rfl) (by exact R) (by exact D) (by exact F) (by rfl) (by rfl)).mono fun v H' ⟨f,Z,N,l,o,O,P⟩=>⟨f,Y++Z,N,(k2 f l o).1,(k2 f l o).2,O,by rw [P];simp⟩
  ·obtain ⟨T,Y,l1,l2,l3,l4⟩:=hC (mid+1) b lm d4 X (by omega) (by omega) hb (by omega) r5 j
   obtain ⟨k1,k2⟩:=r7 T l2 l3
   rcases ac with ⟨c2,c3⟩ | c2
   ·have g:=V c2
    have i2:a-1<n:=by omega
    simp only [Xl,Xi,C,U,R,D,F,s,t,w,A,c2,c3,g,ld,st,ix,Nb,Ng,(EncOk.len (enc:=enc) (z:=iz)),hd,i1,i2,hc,u,I,J,K,hq,M,c5,l4,SB,seval,NC,NJ,NG,NQ,reduceCtorEq,NB,place,NA,ND]
    exact (hT a mid lm (decide ((b-a) / 8<=b-mid)) ap T (X++Y) _ (by omega) r1 (by omega) l1 k1 j (by exact C) (by exact U) (by rfl) (by exact D) (by exact F) (by rfl) (by rfl)).mono fun v H' ⟨f,Z,N,l,o,O,P⟩=>⟨f,Y++Z,N,(k2 f l o).1,(k2 f l o).2,O,by rw [P];simp⟩
   ·simp only [Xl,Xi,C,U,R,D,F,s,t,w,A,c2,ld,st,ix,Nb,Ng,(EncOk.len (enc:=enc) (z:=iz)),hd,i1,hc,u,I,J,K,hq,M,c5,l4,SB,seval,NC,NJ,NG,NQ,reduceCtorEq,NB,place,NA,ND]
    exact (hT a mid lm (decide ((b-a) / 8<=b-mid)) ap T (X++Y) _ (by omega) r1 (by omega) l1 k1 j (by exact C) (by exact U) (by rfl) (by exact D) (by exact F) (by rfl) (by rfl)).mono fun v H' ⟨f,Z,N,l,o,O,P⟩=>⟨f,Y++Z,N,(k2 f l o).1,(k2 f l o).2,O,by rw [P];simp⟩
theorem N89 {G X:NE} {B lim cap n:Nat} {p:Option Addr} {c:α->α->Int} {cl:FuncId} {cs:List Value} (hp:p=Sa B) (hB:B<G.length) (hl:lim<=B) (F:n<2 ^ 61) (hc:∀(mp:Bool) (lim:Nat) (x y:α) (H:NE) (Q:Value->NE->Prop),NL E mp lim cl (.agg (enc x).toArray::.agg (enc y).toArray::cs) H Q=Q (Vi (c x y)) H) (hS:SWO (ltC c)) {d:Array α} {a b v h lm m:Nat} {wb wp:Bool} {fr:Nat->Value} {L:List AItem} (W:∀(a b lm:Nat) (wb wp:Bool) (d:Array α) (X:NE) (fr:Nat->Value),b-a<m->a<=b->b<=n->d.size=n->Below (ltC c) a b d->lm<2 ^ 60->fr 0=.slice p n cap->fr 1=Vi a->fr 2=Vi b->fr 3=Vi lm->fr 4=.func (.func cl) #[] cs.toArray->fr 10=.bool wb->fr 11=.bool wp->PV E (aPDQ iz) lim L fr (DH enc G B d++X) (YV enc G B n c a b d X)) (V:∀(a b lm:Nat) (d:Array α) (X:NE),b-a<m->a<=b->b<=n->d.size=n->Below (ltC c) a b d->lm<2 ^ 60->∃J Y,J.size=n/\PermIn a b d J/\SortedIn (ltC c) a b J/\∀Q,NL E false lim iz.PDQ [.slice p n cap,Vi a,Vi b,Vi lm,.func (.func cl) #[] cs.toArray] (DH enc G B d++X) Q=Q (.tuple #[]) (DH enc G B J++(X++Y))) (hm:b-a<=m) (hd:d.size=n) (S:b<=n) (hv:a<=v/\v<b) (O:lm<2 ^ 60) (hh:h<=2) (j:Below (ltC c) a b d) (k:fr 0=.slice p n cap) (l:fr 1=Vi a) (s:fr 2=Vi b) (t:fr 3=Vi lm) (u:fr 4=.func (.func cl) #[] cs.toArray) (e:fr 10=.bool wb) (f:fr 11=.bool wp) (g:fr 12=Vi ((b-a:Nat):Int)) (i:fr 13=Vi v) (o:fr 14=Vi h) :
  PV E (aPDQ iz) lim (.code (q2 iz)::.inBlock 1::L) fr (DH enc G B d++X) (YV enc G B n c a b d X):=by
 have M:=fun d fr hd j=>Ocf (X:=X) (d:=d) (fr:=fr) (a:=a) (b:=b) (v:=v) (lm:=lm) (wb:=wb) (wp:=wp) hp hB hl F hc hS W V hm hd S hv O j
 by_cases R:wb=true/\wp=true/\h=1
 ·obtain ⟨rfl,rfl,rfl⟩:=R
  have w:=fun Q=>N6l (X:=X) (cap:=cap) (a:=a) (b:=b) (Q:=Q) hp hB hl F hc hd S (by omega)
  have I:=partialInsertionSort_holds hS d a b (by omega) (by omega) j
  generalize partialInsertionSort (ltC c) d a b=r at w I
  obtain ⟨K,U⟩:=r
  obtain ⟨C,P⟩:=I
  simp only at w C P
  have z:fr 14=Vi 1:=o
  have D:K.size=n:=by rw [C.1];exact hd
  cases U with
  | true=>
    rw [NS Nxr];simp only [p5,hdc,tlc,unb,q1,q2,Tk]
    simp only [Xl,Xi,k,l,s,t,u,e,f,g,i,z,w,SB,seval,NC,NJ,NG,NQ,reduceCtorEq,NB,place,NA,ND]
    exact ⟨K,[],D,C,P rfl,rfl,by simp⟩
  | false=>
    have N:=j.perm (by omega) C
    have:=M K
    rw [NS Nxr];simp only [p5,hdc,tlc,unb,q1,q2,Tk]
    simp only [Xl,Xi,k,l,s,t,u,e,f,g,i,z,w,SB,seval,NC,NJ,NG,NQ,reduceCtorEq,NB,place,NA,ND]
    refine PV.mono (M K _ D N (by exact k) (by exact l) (by exact s) (by exact t) (by exact u) (by exact e) (by exact f) (by exact g) (by exact i)) fun v' H' Z=>?_
    exact YV.perm (Y:=[]) (by rw [Nb];exact Z) C
 ·have A:=M d
  rw [NS Nxr];simp only [p5,hdc,tlc,unb,q1,q2,Tk]
  cases wb with
  | false=>
    simp only [Xl,Xi,k,l,s,t,u,e,f,g,i,o,SB,seval,NC,NJ,NG,NQ,reduceCtorEq,NB,place,NA,ND]
    exact A _ hd j (by exact k) (by exact l) (by exact s) (by exact t) (by exact u) (by exact e) (by exact f) (by exact g) (by exact i)
  | true=>
    cases wp with
    | false=>
      simp only [Xl,Xi,k,l,s,t,u,e,f,g,i,o,SB,seval,NC,NJ,NG,NQ,reduceCtorEq,NB,place,NA,ND]
      exact A _ hd j (by exact k) (by exact l) (by exact s) (by exact t) (by exact u) (by exact e) (by exact f) (by exact g) (by exact i)
    | true=>
      have T:¬(h:Int)=1:=fun q=>R ⟨rfl,rfl,by omega⟩
      simp only [Xl,Xi,k,l,s,t,u,e,f,g,i,o,T,SB,seval,NC,NJ,NG,NQ,reduceCtorEq,NB,place,NA,ND]
      exact A _ hd j (by exact k) (by exact l) (by exact s) (by exact t) (by exact u) (by exact e) (by exact f) (by exact g) (by exact i)
theorem Ocg {G X:NE} {B lim cap n:Nat} {p:Option Addr} {c:α->α->Int} {cl:FuncId} {cs:List Value} (hp:p=Sa B) (hB:B<G.length) (hl:lim<=B) (i:n<2 ^ 61) (hc:∀(mp:Bool) (lim:Nat) (x y:α) (H:NE) (Q:Value->NE->Prop),NL E mp lim cl (.agg (enc x).toArray::.agg (enc y).toArray::cs) H Q=Q (Vi (c x y)) H) (hS:SWO (ltC c)) {d:Array α} {a b lm m:Nat} {wb wp:Bool} {fr:Nat->Value} {L:List AItem} (R:∀(a b lm:Nat) (wb wp:Bool) (d:Array α) (X:NE) (fr:Nat->Value),b-a<m->a<=b->b<=n->d.size=n->Below (ltC c) a b d->lm<2 ^ 60->fr 0=.slice p n cap->fr 1=Vi a->fr 2=Vi b->fr 3=Vi lm->fr 4=.func (.func cl) #[] cs.toArray->fr 10=.bool wb->fr 11=.bool wp->PV E (aPDQ iz) lim L fr (DH enc G B d++X) (YV enc G B n c a b d X)) (P:∀(a b lm:Nat) (d:Array α) (X:NE),b-a<m->a<=b->b<=n->d.size=n->Below (ltC c) a b d->lm<2 ^ 60->∃r Y,r.size=n/\PermIn a b d r/\SortedIn (ltC c) a b r/\∀Q,NL E false lim iz.PDQ [.slice p n cap,Vi a,Vi b,Vi lm,.func (.func cl) #[] cs.toArray] (DH enc G B d++X) Q=Q (.tuple #[]) (DH enc G B r++(X++Y))) (hm:b-a<=m) (hd:d.size=n) (C:b<=n) (F:a+12<b) (o:lm<2 ^ 60) (l:Below (ltC c) a b d) (t:fr 0=.slice p n cap) (u:fr 1=Vi a) (w:fr 2=Vi b) (z:fr 3=Vi lm) (A:fr 4=.func (.func cl) #[] cs.toArray) (e:fr 10=.bool wb) (f:fr 11=.bool wp) (g:fr 12=Vi ((b-a:Nat):Int)) :
  PV E (aPDQ iz) lim (.code (q1 iz)::.inBlock 1::L) fr (DH enc G B d++X) (YV enc G B n c a b d X):=by
 obtain ⟨v,h,s,V,W,U,j⟩:=N7i (X:=X) (cap:=cap) (lim:=lim) hp hB hl i hc hd C F
 by_cases S:h=2
 ·subst S
  have hr:=fun Q=>N6e (X:=X++[Vc [Vi s]]) (cap:=cap) (a:=a) (b:=b) (Q:=Q) hp hB hl i hc hd C (by omega)
  have q:=reverseRange_holds d a b (by omega) (by omega)
  generalize reverseRange d a b=O at hr q
  have I:O.size=n:=by rw [q.1];exact hd
  have D:=l.perm (by omega) q
  have h2:=fun fr=>N89 (X:=X++[Vc [Vi s]]) (d:=O) (fr:=fr) (a:=a) (b:=b) (v:=b-1-(v-a)) (h:=1) (lm:=lm) (wb:=wb) (wp:=wp) hp hB hl i hc hS R P hm I C (by omega) o (by omega) D
  have K:IntKind.i64.wrap ((b:Int)-1)=((b-1:Nat):Int):=PY (by omega) (by omega)
  have M:IntKind.i64.wrap ((v:Int)-(a:Int))=((v-a:Nat):Int):=PY (by omega) (by omega)
  have N:IntKind.i64.wrap (((b-1:Nat):Int)-((v-a:Nat):Int))=((b-1-(v-a):Nat):Int):=PY (by omega) (by omega)
  have k:∀Q,NL E false lim iz.CHO [.slice p n cap,Vi a,Vi b,.func (.func cl) #[] cs.toArray] (DH enc G B d++X) Q=Q (.tuple #[Vi v,Vi 2]) (DH enc G B d++(X++[Vc [Vi s]])):=j
  rw [NS N5f];simp only [p6,p7,hdc,tlc,unb,q1,Tk]
  simp only [Xl,Xi,t,u,w,z,A,e,f,g,k,hr,K,M,N,SB,seval,NC,NJ,NG,NQ,reduceCtorEq,NB,place,NA,ND]
  refine PV.mono (h2 _ (by exact t) (by exact u) (by exact w) (by exact z) (by exact A) (by exact e) (by exact f) (by exact g) (by rfl) (by simp only [upd_same,upd_ne,ne_eq,Nat.reduceEqDiff,not_false_eq_true];rfl)) fun v' H' J=>?_
  exact YV.perm J q
 ·have T:¬(h:Int)=2:=by omega
  have h2:=fun fr=>N89 (X:=X++[Vc [Vi s]]) (d:=d) (fr:=fr) (a:=a) (b:=b) (v:=v) (h:=h) (lm:=lm) (wb:=wb) (wp:=wp) hp hB hl i hc hS R P hm hd C (by omega) o (by omega) l
  rw [NS N5f];simp only [p6,p7,hdc,tlc,unb,q1,Tk]
  simp only [Xl,Xi,t,u,w,z,A,e,f,g,j,T,SB,seval,NC,NJ,NG,NQ,reduceCtorEq,NB,place,NA,ND]
  refine PV.mono (h2 _ (by exact t) (by exact u) (by exact w) (by exact z) (by exact A) (by exact e) (by exact f) (by exact g) (by rfl) (by rfl)) fun v' H' J=>?_
  exact YV.perm J (permIn_refl _ _ _)
theorem Nxw {G X:NE} {B lim cap n:Nat} {p:Option Addr} {c:α->α->Int} {cl:FuncId} {cs:List Value} (hp:p=Sa B) (hB:B<G.length) (hl:lim<=B) (q:n<2 ^ 61) (hc:∀(mp:Bool) (lim:Nat) (x y:α) (H:NE) (Q:Value->NE->Prop),NL E mp lim cl (.agg (enc x).toArray::.agg (enc y).toArray::cs) H Q=Q (Vi (c x y)) H) (hS:SWO (ltC c)) (M:n<65536):∀(m a b lm:Nat) (wb wp:Bool) (d:Array α) (X:NE) (fr:Nat->Value),b-a<m->a<=b->b<=n->d.size=n->Below (ltC c) a b d->lm<2 ^ 60->fr 0=.slice p n cap->fr 1=Vi a->fr 2=Vi b->fr 3=Vi lm->fr 4=.func (.func cl) #[] cs.toArray->fr 10=.bool wb->fr 11=.bool wp->
  PV E (aPDQ iz) lim (.inLoop (Tk iz)::.inBlock 0::[]) fr (DH enc G B d++X) (YV enc G B n c a b d X):=by
 intro m
 induction m with
 | zero=>intro a b lm wb wp d X fr h;omega
 | succ m ih=>
   intro a b lm wb wp d X fr V i I hd o t w A C F D e f
   have U:∀(a b lm:Nat) (d:Array α) (X:NE),b-a<m->a<=b->b<=n->d.size=n->Below (ltC c) a b d->lm<2 ^ 60->∃u Y,u.size=n/\PermIn a b d u/\SortedIn (ltC c) a b u/\∀Q,NL E false lim iz.PDQ [.slice p n cap,Vi a,Vi b,Vi lm,.func (.func cl) #[] cs.toArray] (DH enc G B d++X) Q=Q (.tuple #[]) (DH enc G B u++(X++Y)):=by
    intro a b lm d X k1 k2 k3 k4 k5 k6
    have key:NL E false lim iz.PDQ [.slice p n cap,Vi a,Vi b,Vi lm,.func (.func cl) #[] cs.toArray] (DH enc G B d++X) (YV enc G B n c a b d X):=by
     rw [Sn (E:=E) (g:=iz.PDQ) (af:=(aPDQ iz)) ((SortAt.PDQ (E:=E) (z:=iz)).2.2 _ _) (SortAt.PDQ (E:=E) (z:=iz)).1 (SortAt.PDQ (E:=E) (z:=iz)).2.1 rfl]
     rw [N8g,N1g]
     simp only [Xl,Xi,SB,seval,NC,NJ,NG,NQ,reduceCtorEq,NB,place,NA,ND]
     rw [Xz,<-Uk]
     exact ih a b lm true true d X _ k1 k2 k3 k4 k5 k6 (by rfl) (by rfl) (by rfl) (by rfl) (by rfl) (by rfl) (by rfl)
    obtain ⟨k,v,H',Z,u,Y,h1,h2,T,rfl,rfl⟩:=oneG (SortAt.dt (E:=E) (z:=iz)) key
    exact ⟨u,Y,h1,h2,T,fun Q=>NL.det Z⟩
   have h1:=fun d X fr lm hd o i t=>Ocg (X:=X) (d:=d) (fr:=fr) (a:=a) (b:=b) (lm:=lm) (wb:=wb) (wp:=wp) (m:=m) (L:=.inLoop (Tk iz)::.inBlock 0::[]) hp hB hl q hc hS ih U (by omega) hd I i t o
   rw [Uk]
   generalize (AItem.inLoop (Tk iz)::[AItem.inBlock 0])=L at h1
   rw [NS Nr1];simp only [p1,p2,p3,p4,hdc,tlc,unb,Tk]
   have r:IntKind.i64.wrap ((b:Int)-(a:Int))=((b-a:Nat):Int):=PY (by omega) (by omega)
   by_cases c1:b-a<=12
   ·have j:((b-a:Nat):Int)<=12:=by omega
    have hi:=fun Q=>N69 (X:=X) (cap:=cap) (a:=a) (b:=b) (Q:=Q) hp hB hl q hc hd I i
    obtain ⟨P,S⟩:=insertionSort_holds hS d a b i (by omega)
    simp only [Xl,Xi,w,A,C,F,D,e,f,r,j,hi,SB,seval,NC,NJ,NG,NQ,reduceCtorEq,NB,place,NA,ND]
    exact ⟨_,[],by rw [P.1];exact hd,P,S,rfl,by simp⟩
   have j:¬((b-a:Nat):Int)<=12:=by omega
   by_cases c2:lm=0
   ·have l:(lm:Int)=0:=by omega
    have hi:=fun Q=>N3w (X:=X) (cap:=cap) (a:=a) (b:=b) (Q:=Q) hp hB hl q hc hd I i
    obtain ⟨P,S⟩:=heapSort_holds hS d a b i (by omega)
    simp only [Xl,Xi,w,A,C,F,D,e,f,r,j,l,hi,SB,seval,NC,NJ,NG,NQ,reduceCtorEq,NB,place,NA,ND]
    exact ⟨_,[],by rw [P.1];exact hd,P,S,rfl,by simp⟩
   have l:¬(lm:Int)=0:=by omega
   cases wb with
   | true=>
     simp only [Xl,Xi,w,A,C,F,D,e,f,r,j,l,SB,seval,NC,NJ,NG,NQ,reduceCtorEq,NB,place,NA,ND]
     exact h1 d X _ lm hd o (by omega) t (by exact w) (by exact A) (by exact C) (by exact F) (by exact D) (by exact e) (by exact f) (by rfl)
   | false=>
     obtain ⟨R,s,K,O,J⟩:=N8d (X:=X) (cap:=cap) (lim:=lim) hp hB hl q hc hd I (show a+12<b by omega) M
     have N:IntKind.i64.wrap ((lm:Int)-1)=((lm-1:Nat):Int):=PY (by omega) (by omega)
     simp only [Xl,Xi,w,A,C,F,D,e,f,r,j,l,J,N,SB,seval,NC,NJ,NG,NQ,reduceCtorEq,NB,place,NA,ND]
     refine PV.mono (h1 R (X++[Vc [.int .u64 s]]) _ (lm-1) K (o.perm (by omega) O) (by omega) (by omega) (by exact w) (by exact A) (by exact C) (by rfl) (by exact D) (by exact e) (by exact f) (by rfl)) fun v' H' W=>?_
     exact YV.perm W O
variable {E:Env} {iz:Ids} [DT E E] [SortAt E iz] {α:Type} [Inhabited α] {enc:α->List Value} [EncOk enc iz]
theorem Nrj {mp:Bool} {lim:Nat} {H:NE} {Q:Value->NE->Prop}:NL E mp lim iz.LEN [.int .u64 0] H Q=Q (Vi 0) H:=by
 have key:∀(mp:Bool) (lim:Nat) (H:NE) (Q:Value->NE->Prop),NL E mp lim iz.LEN64 [.int .u64 0] H Q=Q (Vi 0) H:=by
  intro mp lim H Q
  refine pcG (SortAt.LEN64 (E:=E) (z:=iz)) rfl ?_
  rw [Nqi,Nfa]
  have a:IntKind.u8.wrap 0=0:=by decide
  have b:IntKind.i64.wrap 0=0:=by decide
  simp only [No2,Nn5,a,b,Rg,O5,Nv,UInt8.toNat_zero,UInt8.toNat_ofNat,Nat.reduceMod,Nat.reducePow,Qr,Int.add_zero,SB,seval,NC,NJ,NG,NQ,reduceCtorEq,NB,place,NA,ND]
 refine pcG (SortAt.LEN (E:=E) (z:=iz)) rfl ?_
 rw [Oac,N4d]
 simp only [N9q,N8z,key,SB,seval,NC,NJ,NG,NQ,reduceCtorEq,NB,place,NA,ND]
theorem Nkr {G X:NE} {B lim cap n:Nat} {p:Option Addr} {c:α->α->Int} {cl:FuncId} {cs:List Value} (hp:p=Sa B) (hB:B<G.length) (hl:lim<=B) (f:n<2 ^ 61) (hc:∀(mp:Bool) (lim:Nat) (x y:α) (H:NE) (Q:Value->NE->Prop),NL E mp lim cl (.agg (enc x).toArray::.agg (enc y).toArray::cs) H Q=Q (Vi (c x y)) H) (hS:SWO (ltC c)) (h:n<65536) {d:Array α} {lm:Nat} (hd:d.size=n) (e:lm<2 ^ 60) :
  ∃a Y,a.size=n/\PermIn 0 n d a/\SortedIn (ltC c) 0 n a/\∀Q,NL E false lim iz.PDQ [.slice p n cap,Vi 0,Vi n,Vi lm,.func (.func cl) #[] cs.toArray] (DH enc G B d++X) Q=Q (.tuple #[]) (DH enc G B a++(X++Y)):=by
 have b:Below (ltC c) 0 n d:=by simp [Below]
 have key:NL E false lim iz.PDQ [.slice p n cap,Vi 0,Vi n,Vi lm,.func (.func cl) #[] cs.toArray] (DH enc G B d++X) (YV enc G B n c 0 n d X):=by
  rw [Sn (E:=E) (g:=iz.PDQ) (af:=(aPDQ iz)) ((SortAt.PDQ (E:=E) (z:=iz)).2.2 _ _) (SortAt.PDQ (E:=E) (z:=iz)).1 (SortAt.PDQ (E:=E) (z:=iz)).2.1 rfl]
  rw [N8g,N1g]
  simp only [Xl,Xi,SB,seval,NC,NJ,NG,NQ,reduceCtorEq,NB,place,NA,ND]
  rw [Xz,<-Uk]
  exact Nxw (X:=X) (cap:=cap) hp hB hl f hc hS h (n+1) 0 n lm true true d X _ (by omega) (by omega) (by omega) hd b e rfl (by simp only [Qr,FB,Nat.reduceEqDiff]) rfl rfl rfl rfl rfl
 obtain ⟨k,v,H',j,a,Y,h1,h2,i,rfl,rfl⟩:=oneG (SortAt.dt (E:=E) (z:=iz)) key
 exact ⟨a,Y,h1,h2,i,fun Q=>NL.det j⟩
theorem sort_ok {G X:NE} {B lim cap n:Nat} {p:Option Addr} {c:α->α->Int} {cl:FuncId} {cs:List Value} (hp:p=Sa B) (hB:B<G.length) (hl:lim<=B) (e:n<2 ^ 61) (hc:∀(mp:Bool) (lim:Nat) (x y:α) (H:NE) (Q:Value->NE->Prop),NL E mp lim cl (.agg (enc x).toArray::.agg (enc y).toArray::cs) H Q=Q (Vi (c x y)) H) (hS:SWO (ltC c)) (b:n<65536) {d:Array α} (hd:d.size=n) :
  ∃a Y,a.size=n/\PermIn 0 n d a/\SortedIn (ltC c) 0 n a/\∀Q,NL E false lim iz.SORT [.slice p n cap,.func (.func cl) #[] cs.toArray] (DH enc G B d++X) Q=Q (.tuple #[]) (DH enc G B a++(X++Y)):=by
 have key:NL E false lim iz.SORT [.slice p n cap,.func (.func cl) #[] cs.toArray] (DH enc G B d++X) (YV enc G B n c 0 n d X):=by
  rw [Sn (E:=E) (g:=iz.SORT) (af:=(aSORT iz)) ((SortAt.SORT (E:=E) (z:=iz)).2.2 _ _) (SortAt.SORT (E:=E) (z:=iz)).1 (SortAt.SORT (E:=E) (z:=iz)).2.1 rfl]
  rw [N58,Nr0]
  have q:IntKind.u64.wrap (n:Int)=(n:Int):=by rw [wrap64];omega
  by_cases i:n=0
  ·subst i
   obtain ⟨a,Y,k1,k2,k3,f⟩:=Nkr (X:=X) (lm:=0) (cap:=cap) hp hB hl e hc hS b hd (by omega)
   have h:∀Q,NL E false lim iz.PDQ [.slice p 0 cap,Vi 0,Vi 0,Vi 0,.func (.func cl) #[] cs.toArray] (DH enc G B d++X) Q=Q (.tuple #[]) (DH enc G B a++(X++Y)):=f
   have o:IntKind.u64.wrap 0=0:=by decide
   simp only [Nyv,Nxm,o,Nrj,h,SB,seval,NC,NJ,NG,NQ,reduceCtorEq,NB,place,NA,ND]
   exact ⟨_,_,k1,k2,k3,rfl,rfl⟩
  ·obtain ⟨L,r,s,t,m⟩:=Ny9 (E:=E) (iz:=iz) (x:=n) b (by omega)
   obtain ⟨a,Y,k1,k2,k3,f⟩:=Nkr (X:=X) (lm:=L) (cap:=cap) hp hB hl e hc hS b hd (by omega)
   simp only [Nyv,Nxm,q,m,f,SB,seval,NC,NJ,NG,NQ,reduceCtorEq,NB,place,NA,ND]
   exact ⟨_,_,k1,k2,k3,rfl,rfl⟩
 obtain ⟨k,v,H',l,a,Y,h1,h2,j,rfl,rfl⟩:=oneG (SortAt.dt (E:=E) (z:=iz)) key
 exact ⟨a,Y,h1,h2,j,fun Q=>NL.det l⟩
theorem sort_nil {lim cap:Nat} {p:Option Addr} {cl:FuncId} {cs:List Value} {H:NE} {Q:Value->NE->Prop}:NL E false lim iz.SORT [.slice p 0 cap,.func (.func cl) #[] cs.toArray] H Q=Q (.tuple #[]) H:=by
 have hi:∀Q,NL E false lim iz.INS [.slice p 0 cap,Vi 0,Vi 0,.func (.func cl) #[] cs.toArray] H Q=Q (.tuple #[]) H:=by
  intro Q
  refine runs (SortAt.INS (E:=E) (z:=iz)) ?_
  rw [Oad,N4e]
  have a:IntKind.i64.wrap 1=1:=by decide
  simp only [Nlh,Nkn,a,Rk,Int.reduceLT,decide_false,SB,seval,NC,NJ,NG,NQ,reduceCtorEq,NB,place,NA,ND]
  rw [Xz,NS (Npe.eq_1 iz)]
  simp only [Nlh,Nkn,SB,seval,NC,NJ,NG,NQ,reduceCtorEq,NB,place,NA,ND]
 have b:∀Q,NL E false lim iz.PDQ [.slice p 0 cap,Vi 0,Vi 0,Vi 0,.func (.func cl) #[] cs.toArray] H Q=Q (.tuple #[]) H:=by
  intro Q
  refine runs (SortAt.PDQ (E:=E) (z:=iz)) ?_
  rw [N8g,N1g]
  simp only [Xl,Xi,SB,seval,NC,NJ,NG,NQ,reduceCtorEq,NB,place,NA,ND]
  rw [Xz,NS Nr1]
  simp only [p1,p2,hdc,tlc,unb,Tk]
  have a:IntKind.i64.wrap 0=0:=by decide
  simp only [Xl,Xi,a,hi,Int.sub_self,SB,seval,NC,NJ,NG,NQ,reduceCtorEq,NB,place,NA,ND]
 refine runs (SortAt.SORT (E:=E) (z:=iz)) ?_
 rw [N58,Nr0]
 have c:IntKind.u64.wrap 0=0:=by decide
 simp only [Nyv,Nxm,c,Nrj,b,SB,seval,NC,NJ,NG,NQ,reduceCtorEq,NB,place,NA,ND]
end Go.AM.Srt


namespace Go.Proofs.YtkppjkkkdpcgiaaGreat.Fn
open Go.AM Go.AM.Sym Go.Scan Go.Sort
theorem kn [OB] [OB] {g:FuncId} {af:AFunc} {p:Bool} (h1:tr g=some af) (h2:pf g=p) (a:g≠18/\g≠36/\g≠27):Srt.Knows E g af p:=⟨h1,h2,fun as H=>by simp [E,OB.effN,orc,a]⟩
instance sortZE [OB]:Srt.SortAt E zE:=⟨rfl,kn rfl rfl (by decide),kn rfl rfl (by decide),kn rfl rfl (by decide),kn rfl rfl (by decide),kn rfl rfl (by decide),kn rfl rfl (by decide),kn rfl rfl (by decide),kn rfl rfl (by decide),kn rfl rfl (by decide),kn rfl rfl (by decide),kn rfl rfl (by decide),kn rfl rfl (by decide),kn rfl rfl (by decide),kn rfl rfl (by decide),kn rfl rfl (by decide),kn rfl rfl (by decide),kn rfl rfl (by decide),kn rfl rfl (by decide)⟩
instance sortZM [OB]:Srt.SortAt E zM:=⟨rfl,kn rfl rfl (by decide),kn rfl rfl (by decide),kn rfl rfl (by decide),kn rfl rfl (by decide),kn rfl rfl (by decide),kn rfl rfl (by decide),kn rfl rfl (by decide),kn rfl rfl (by decide),kn rfl rfl (by decide),kn rfl rfl (by decide),kn rfl rfl (by decide),kn rfl rfl (by decide),kn rfl rfl (by decide),kn rfl rfl (by decide),kn rfl rfl (by decide),kn rfl rfl (by decide),kn rfl rfl (by decide),kn rfl rfl (by decide)⟩
instance sortZL [OB]:Srt.SortAt E zL:=⟨rfl,kn rfl rfl (by decide),kn rfl rfl (by decide),kn rfl rfl (by decide),kn rfl rfl (by decide),kn rfl rfl (by decide),kn rfl rfl (by decide),kn rfl rfl (by decide),kn rfl rfl (by decide),kn rfl rfl (by decide),kn rfl rfl (by decide),kn rfl rfl (by decide),kn rfl rfl (by decide),kn rfl rfl (by decide),kn rfl rfl (by decide),kn rfl rfl (by decide),kn rfl rfl (by decide),kn rfl rfl (by decide),kn rfl rfl (by decide)⟩
instance encZE:Srt.EncOk encE zE:=⟨fun _=>rfl⟩
instance encZM:Srt.EncOk QT zM:=⟨fun _=>rfl⟩
theorem Nq5 {α:Type} {k:α->List Int} {n:Nat} (hn:∀x,(k x).length=n):SWO (fun x y:α=>decide (S9 (k x) (k y)<0)):=by
 have a:∀x y:α,(k x).length=(k y).length:=fun x y=>by rw [hn,hn]
 refine ⟨fun x=>?_,fun x y z h1 h2=>?_,fun x y z h1 h2=>?_⟩
 ·rw [Ngy];rfl
 ·simp only [Oa] at *
  have b:=XI (k x) (k y) (k z) (a x y) (a y z) (by omega) (by omega)
  rcases Nlq (k x) (k z) with v | v | v
  ·omega
  ·have e:=Nis _ _ (a x z) v
   rw [<-e,Vg (k x) (k y)] at h2;omega
  ·omega
 ·simp only [decide_eq_false_iff_not] at *
  have c:=Vg (k x) (k y)
  have d:=Vg (k y) (k z)
  have f:=Vg (k x) (k z)
  have b:=XI (k z) (k y) (k x) (a z y) (a y x) (by omega) (by omega)
  omega
theorem Naw {α:Type} [Inhabited α] {n:Nat} {d b:Array α} (hd:d.size=n) (h:PermIn 0 n d b):b.toList.Perm d.toList:=by
 obtain ⟨h1,h2,a⟩:=h
 subst hd
 rw [Array.extract_size] at a
 rw [<-h1,Array.extract_size] at a
 exact a
theorem Nbn {α:Type} [Inhabited α] {k:α->List Int} {n:Nat} {d:Array α} (hd:d.size=n) (h:SortedIn (fun x y:α=>decide (S9 (k x) (k y)<0)) 0 n d):TJ k d.toList:=by
 unfold TJ
 rw [P2]
 intro i j hi b a
 have h1:=h i j (Nz _) a (by simpa [hd] using b)
 have e1:d[i]! = d.toList[i]:=by rw [getElem!_pos d i (by simpa using hi)];simp
 have e2:d[j]! = d.toList[j]:=by rw [getElem!_pos d j (by simpa using b)];simp
 rw [e1,e2] at h1
 simp only [decide_eq_false_iff_not] at h1
 rw [Vg (k d.toList[j]) (k d.toList[i])];omega
theorem Nc3 {α:Type} {enc:α->List Value} {G:NE} {B:Nat} {l:List α} (hB:NF G B=Vc (l.flatMap enc)):DH enc G B l.toArray=G:=by
 have hl:=NK hB
 unfold DH
 apply Pn
 ·simp
 intro i h1 h2
 rw [List.getElem_set]
 split
 ·rename_i e;subst e
  unfold NF at hB
  rw [Na,Nf hl] at hB
  exact hB.symm
 ·rfl
theorem Nxg [OB] {lim R cap:Nat} {l:List Mk} {H:NE} (g:NF H R=Vc (l.flatMap QT)) (hl:lim<=R) (hn:l.length<65536) :
  ∃H1,(∀Q:Value->NE->Prop,NL Ef false lim 142 [.slice (Sa R) l.length cap,.func (.func 124) #[] #[]] (H++[]) Q=Q (.tuple #[]) (H1++[]))/\NF H1 R=Vc ((UE SS l).flatMap QT)/\Chg [R] H H1:=by
 have e:=NK g
 obtain ⟨d,Y,h1,h2,h,f⟩:=Srt.sort_ok (E:=E) (iz:=zM) (enc:=QT) (X:=[]) (G:=H) (B:=R) (lim:=lim) (cap:=cap) (n:=l.length) (p:=Sa R) (c:=fun a b=>S9 (SS a) (SS b)) (cl:=124) (cs:=[]) rfl e hl (by omega) (fun mp lim x y H Q=>N09 (mp:=mp) (lim:=lim) (H:=H) (Q:=Q)) (Nq5 Zj) (by omega) (d:=l.toArray) (by simp)
 rw [Nc3 g] at f
 have hp:d.toList.Perm l:=Naw (d:=l.toArray) (n:=l.length) (by simp) h2
 have hs:d.toList=UE SS l:=XA Zj Ng1 (Nbn h1 h) hp
 refine ⟨DH QT H R d++Y,fun Q=>NL.eqF' ?_, ?_, ?_⟩
 ·erw [f];exact ⟨rfl,by simp⟩
 ·rw [Nbi e,hs]
 ·refine ⟨by simp [DH],fun j k i=>?_⟩
  rw [NN (by rw [V3];exact k)]
  exact QK (by simpa using i)
theorem Nxh [OB] {lim R cap:Nat} {l:List Ev} {H:NE} (g:NF H R=Vc (l.flatMap encE)) (hl:lim<=R) (hn:l.length<65536) :
  ∃H1,(∀Q:Value->NE->Prop,NL Ef false lim 95 [.slice (Sa R) l.length cap,.func (.func 96) #[] #[]] (H++[]) Q=Q (.tuple #[]) (H1++[]))/\NF H1 R=Vc ((UE Tx l).flatMap encE)/\Chg [R] H H1:=by
 have e:=NK g
 obtain ⟨d,Y,h1,h2,h,f⟩:=Srt.sort_ok (E:=E) (iz:=zE) (enc:=encE) (X:=[]) (G:=H) (B:=R) (lim:=lim) (cap:=cap) (n:=l.length) (p:=Sa R) (c:=fun a b=>S9 (Tx a) (Tx b)) (cl:=96) (cs:=[]) rfl e hl (by omega) (fun mp lim x y H Q=>N1a (mp:=mp) (lim:=lim) (H:=H) (Q:=Q)) (Nq5 Zk) (by omega) (d:=l.toArray) (by simp)
 rw [Nc3 g] at f
 have hp:d.toList.Perm l:=Naw (d:=l.toArray) (n:=l.length) (by simp) h2
 have hs:d.toList=UE Tx l:=XA Zk Ng2 (Nbn h1 h) hp
 refine ⟨DH encE H R d++Y,fun Q=>NL.eqF' ?_, ?_, ?_⟩
 ·erw [f];exact ⟨rfl,by simp⟩
 ·rw [Nbi e,hs]
 ·refine ⟨by simp [DH],fun j k i=>?_⟩
  rw [NN (by rw [V3];exact k)]
  exact QK (by simpa using i)
theorem Nsp [OB] {lim cap:Nat} {p:Option Addr} {H:NE} {Q:Value->NE->Prop}:NL Ef false lim 142 [.slice p 0 cap,.func (.func 124) #[] #[]] H Q=Q (.tuple #[]) H:=
 NL.eqF (by erw [Srt.sort_nil (E:=E) (iz:=zM) (cs:=[])];exact ⟨rfl,rfl⟩)
theorem Nso [OB] {lim e R:Nat} {es:Ess} {H:NE} {Q:Value->NE->Prop} (hl:lim<=H.length) (h1:NF H e=Vc [.map (some R)]) (hm:NF H R=.map (Tm kM vK es)) (hn:es.length<65536)
  (b:∀G p cap,Own H.length G QT 3 p cap (UE SS (es.map (·.2)))->Chg [] H G->Q (.slice p es.length cap) (G++[])) :
  NL Ef false lim 122 [.func (.func 143) #[] #[Vp e],.func (.func 124) #[] #[]] H Q:=by
 have a:∀(Q:Value->NE->Prop),(∀G p cap l,l.Perm (es.map (·.2))->Own H.length G QT 3 p cap l->Chg [] H G->Q (.slice p l.length cap) (G++[]))->
   NL Ef false lim 141 [.func (.func 143) #[] #[Vp e]] H Q:=by
  intro Q b
  refine Ngo (by decide) Ocy rfl ?_
  rw [Od2,c141]
  simp only [n141,N81,SB,seval,NC,NJ,NG,NQ,reduceCtorEq,NB,place,NA,ND]
  rw [Nb]
  refine Nvq hl h1 hm (by omega) fun G p cap l h1 h2 o=>?_
  refine NM ?_
  simp only [n141,N81,SB,seval,NC,NJ,NG,NQ,reduceCtorEq,NB,place,NA,ND]
  exact b G p cap l h1 h2 o
 refine Ngo (by decide) Oda rfl ?_
 rw [Oee,N74]
 simp only [n122,N6h,SB,seval,NC,NJ,NG,NQ,reduceCtorEq,NB,place,NA,ND]
 rw [Nb]
 refine a _ fun G p cap l hp q d=>?_
 have c:l.length=es.length:=by have:=hp.length_eq;simpa using this
 have hs:UE SS (es.map (·.2))=UE SS l:=(Nj7 Zj Ng1 hp).symm
 rw [hs] at b
 rcases q with ⟨n,rfl,rfl⟩ | ⟨i,rfl,rfl,r,f⟩
 ·subst n
  have g:=fun X (Q:Value->NE->Prop)=>Nsp (lim:=lim) (cap:=0) (p:=none) (H:=G++X) (Q:=Q)
  have:=b G none 0 (.inl ⟨rfl,rfl,rfl⟩) d
  rw [<-c] at this
  simp only [n122,N6h,g,Ns,SB,seval,NC,NJ,NG,NQ,reduceCtorEq,NB,place,NA,ND]
  exact this
 ·obtain ⟨G1,k,m,h⟩:=Nxg (lim:=lim) (cap:=loose 3) r (by omega) (by omega)
  simp only [n122,N6h,k,SB,seval,NC,NJ,NG,NQ,reduceCtorEq,NB,place,NA,ND]
  rw [c]
  exact b G1 _ _ (.inr ⟨i,rfl,rfl,m,f⟩) ⟨by have:=d.len;have:=h.len;omega,fun j s _=>by
   rw [h.other j (by have:=d.len;omega) (by simp;omega),d.other j s (by simp)]⟩
end Go.Proofs.YtkppjkkkdpcgiaaGreat.Fn


namespace Go.Proofs.YtkppjkkkdpcgiaaGreat.Fn
open Go.AM Go.AM.Sym Go.Net Go.Sort
def cmpL (a b:Leg):Int:=if a.id<b.id then -1 else if b.id<a.id then 1 else 0
instance encZL:Srt.EncOk Rz zL:=⟨fun _=>rfl⟩
theorem N4b [OB] (mp:Bool) (lim:Nat) (a b:Leg) (H:NE) (Q:Value->NE->Prop):NL E mp lim 66 [.agg (Rz a).toArray,.agg (Rz b).toArray] H Q=Q (Vi (cmpL a b)) H:=by
 refine pc (by decide) e66 rfl rfl ?_
 rw [b66,c66]
 simp only [n66,r66,OH,QH,QG,QF,QE,QD,QC,QB,QA,NI,Nqb,Nml,cmpL,SB,seval,NC,NJ,NG,NQ,reduceCtorEq,NB,place,NA,ND]
theorem Nc0 (a b:Leg):Srt.ltC cmpL a b=decide (a.id<b.id):=by
 unfold Srt.ltC cmpL
 by_cases h1:a.id<b.id
 ·simp [h1]
 ·by_cases h2:b.id<a.id
  ·simp [h1,h2]
  ·simp [h1,h2]
theorem N1b:SWO (Srt.ltC cmpL):=by
 refine ⟨fun x=>?_,fun x y z h1 h2=>?_,fun x y z h1 h2=>?_⟩
 ·rw [Nc0];simp
 ·rw [Nc0] at *;simp only [Oa] at *;omega
 ·rw [Nc0] at *;simp only [decide_eq_false_iff_not] at *;omega
theorem Nns {n:Nat} {d:Array Leg} (hd:d.size=n) (h:SortedIn (Srt.ltC cmpL) 0 n d) (e:d.toList.Pairwise (fun a b=>a.id≠b.id)):d.toList.Pairwise (fun a b=>a.id<b.id):=by
 rw [P2] at *
 intro i j hi f c
 have h1:=h i j (Nz _) c (by simpa [hd] using f)
 have h2:=e i j hi f c
 rw [Nc0] at h1
 have e1:d[i]! = d.toList[i]:=by rw [getElem!_pos d i (by simpa using hi)];simp
 have e2:d[j]! = d.toList[j]:=by rw [getElem!_pos d j (by simpa using f)];simp
 rw [e1,e2] at h1
 simp only [decide_eq_false_iff_not] at h1
 omega
theorem Ned {P:List Int} {L:List Leg} (h:Wo P L):L.Pairwise (fun a b=>a.id≠b.id):=by
 rw [P2]
 intro i j hi c d e
 have h2:=(h j c).2.1
 rw [PZ c] at h2
 apply h2
 rw [List.mem_map]
 exact ⟨L[i],List.mem_take_iff_getElem.2 ⟨i,by omega,rfl⟩,e⟩
theorem Nnt [OB] {lim Bx c:Nat} {p:Option Addr} {o:Bool} {L:List Leg} {H:NE} {Q:Value->NE->Prop} (hB:NF H Bx=.cells o [.slice p L.length c]) (hs:Sl H Rz 8 p L) (hn:L.length<=200) (g:lim<=H.length) (r:L.Pairwise (fun a b=>a.id≠b.id))
  (t:∀H' q cap (S:List Leg),Chg [] H H'->Sl H' Rz 8 q S->S.Perm L->S.Pairwise (fun a b=>a.id<b.id)->(∀a,q=some a->H.length<=a.block)->Q (.slice q L.length cap) H') :
  NL E false lim 64 [.func (.func 103) #[] #[Vp Bx],.func (.func 66) #[] #[]] H Q:=by
 refine R8 (by decide) e64 rfl ?_
 rw [b64,c64]
 simp only [n64,r64,SB,seval,NC,NJ,NG,NQ,reduceCtorEq,NB,place,NA,ND]
 rw [Nb]
 refine Nqa hB hs (by omega) g fun H' q cap l w=>?_
 have hl:=l.len
 refine NM ?_
 rcases w with ⟨u,rfl,rfl⟩ | ⟨R,rfl,rfl,m,z⟩
 ·subst u
  have s:∀X Q,NL E false lim 102 [Vz,.func (.func 66) #[] #[]] (H'++X) Q=Q (.tuple #[]) (H'++X):=fun X Q=>Srt.sort_nil (E:=E) (iz:=zL) (cs:=[])
  simp only [n64,r64,s,Ns,SB,seval,NC,NJ,NG,NQ,reduceCtorEq,NB,place,NA,ND]
  exact t _ _ _ [] l.app (show Sl _ Rz 8 none [] from rfl) (List.Perm.refl _) List.Pairwise.nil (fun a e=>by cases e)
 ·obtain ⟨d,Y,h1,h2,v,i⟩:=Srt.sort_ok (E:=E) (iz:=zL) (enc:=Rz) (X:=[]) (G:=H') (B:=R) (lim:=lim) (cap:=loose 8) (n:=L.length) (p:=Sa R) (c:=cmpL) (cl:=66) (cs:=[]) rfl (NK m) (by omega) (by omega) (fun mp lim x y H Q=>N4b mp lim x y H Q) N1b (by omega) (d:=L.toArray) (by simp)
  rw [Nc3 m] at i
  have hp:d.toList.Perm L:=Naw (d:=L.toArray) (n:=L.length) (by simp) h2
  simp only [Ok] at i
  have k:∀Q,NL E false lim 102 [.slice (Sa R) L.length (loose 8),.func (.func 66) #[] #[]] (H'++[]) Q=Q (.tuple #[]) (DH Rz H' R d++Y):=i
  simp only [n64,r64,k,SB,seval,NC,NJ,NG,NQ,reduceCtorEq,NB,place,NA,ND]
  have f:=NK m
  have hm:Mut H' (DH Rz H' R d) R:=⟨by simp [DH],fun j A=>QK A⟩
  refine t _ _ _ d.toList ((l.mut hm (.inr (by omega))).app) (Nr7 rfl f OH) hp ?_ (fun a e=>by cases e;show H.length<=R;omega)
  exact Nns h1 v ((hp.pairwise_iff (fun h e=>h e.symm)).2 r)
end Go.Proofs.YtkppjkkkdpcgiaaGreat.Fn


namespace Go.Proofs.YtkppjkkkdpcgiaaGreat.Fn
open Go.AM Go.AM.Sym Go.Net
theorem Nnf [OB] {lim n c:Nat} {p:Option Addr} {H:NE} {Q:Value->NE->Prop}:NL E false lim 65 [.slice p n c] H Q=Q (.func (.func 103) #[] #[Vp H.length]) (H++[Vc [.slice p n c]]):=by
 rw [Sn (E:=E) (by simp [E,OB.effN,orc]) (show E.tr 65=some a65 from e65) rfl rfl,b65,c65]
 rw [<-Nb H]
 simp only [n65,r65,SB,seval,NC,NJ,NG,NQ,reduceCtorEq,NB,place,NA,ND]
def Vn (x:Leg×Int):Int×Int×Int:=(x.1.id,x.2,x.2+x.1.mins)
theorem Ns2 {pos:Int->Nat} {late:List Int} {p t:Int} {S:List Leg} {i:Nat} (h:i<S.length):(S.drop i).findSome? (Ti pos late p t)=match Ti pos late p t (gt S i) with | some r=>some r | none=>(S.drop (i+1)).findSome? (Ti pos late p t):=by
 rw [Ou h,List.findSome?_cons,PZ h]
 cases Ti pos late p t S[i]<;>rfl
theorem Nr8 [OB] {lim R left c16 cs cw:Nat} {q pw U:Option Addr} {P:List Int} {L S:List Leg} {Ts:List (List Int)} {w:List (Int×Int×Int)} {plant there:Int} {H G:NE} {fr:Nat->Value} {K:List AItem} {Z:Value->NE->Prop}
  (N:NetOk 50 P L (OL P)) (hS:∀l∈S,l∈L) (ax:S.length<=200) (hm:NF H R=.map (WQ P)) (ad:lim<=H.length) (hE:Chg [] H G) (hq:Sl H Rz 8 q S) (ar:Sl H RU 50 U Ts) (au:∀T∈Ts,okT T) (x:left<Ts.length) (ay:Ts.length<2 ^ 40) (aw:0<=there/\there<=OA) (hO:Own H.length G enc3 3 pw cw w) (hw:w.length<2 ^ 31)
  (f10:fr 10=.map (some R)) (aj:fr 16=.slice U Ts.length c16) (ak:fr 18=.slice pw w.length cw) (al:fr 19=Vi plant) (am:fr 20=Vi there) (an:fr 21=Vi left) (ao:fr 77=.slice q S.length cs) (ap:fr 78=Vi S.length) (aq:fr 79=Vi 0)
  (hR:∀fr' G' ah ac,Chg [] H G'->fr' 10=.map (some R)->fr' 16=.slice U Ts.length c16->fr' 17=fr 17->fr' 21=Vi left->
   (∀w':List (Int×Int×Int),∀b d:Int,(match Yf (OL P) S (gt Ts left) plant there with | some (l,a)=>w'=w++[Vn (l,a)]/\b=l.dst/\d=a+l.mins | none=>w'=w/\b=plant/\d=there)->fr' 18=.slice ah w'.length ac/\fr' 19=Vi b/\fr' 20=Vi d/\Own H.length G' enc3 3 ah ac w')->PV E a32 lim K fr' (G'++[]) Z) :
  PV E a32 lim (.code (.loop Nzr)::.inBlock 2::K) fr G Z:=by
 refine NR (fun i=>S.length-i) (fun i fr' G'=>i<=S.length/\fr' 10=.map (some R)/\fr' 16=.slice U Ts.length c16/\fr' 17=fr 17/\fr' 18=.slice pw w.length cw/\fr' 19=Vi plant/\fr' 20=Vi there/\fr' 21=Vi left/\fr' 77=.slice q S.length cs/\fr' 78=Vi S.length/\fr' 79=Vi i/\
  Chg [] H G'/\Own H.length G' enc3 3 pw cw w/\Yf (OL P) S (gt Ts left) plant there=(S.drop i).findSome? (Ti (OL P) (gt Ts left) plant there)) 0
  ⟨Nz _,f10,aj,rfl,ak,al,am,an,ao,ap,aq,hE,hO,rfl⟩ ?_
 intro i fr' G' ⟨hi,g,j,A,n,o,p,m,t,u,B,F,C,f⟩ hN
 have hl:=F.len
 rw [NS Nzr.eq_1]
 refine NM ?_
 by_cases s:i<S.length
 case neg=>
  obtain rfl:i=S.length:=by omega
  rw [Qo,List.findSome?_nil] at f
  simp only [n32,r32,g,j,n,o,p,m,t,u,B,s,SB,seval,NC,NJ,NG,NQ,reduceCtorEq,NB,place,NA,ND]
  refine hR _ _ pw cw F g j (by rw [<-A];exact rfl) m fun w' b d h=>?_
  rw [f] at h
  obtain ⟨rfl,rfl,rfl⟩:=h
  exact ⟨n,o,p,C⟩
 have ag:=F.ext.sl hq
 have J:=fun X=>(ag.app X).loadCells OH s
 have z:=fun c (k:IntKind) (H1:NE)=>ag.idx (c:=c) (k:=k) (H1:=H1) s
 have O:IntKind.i64.wrap ((i:Int)+1)=((i+1:Nat):Int):=OG (by omega)
 have I:lim<=G'.length:=by omega
 have Y:=hS _ (R6 s)
 have hf:=N.fine _ Y
 rw [Ns2 s] at f
 by_cases v:(gt S i).frm=plant
 case neg=>
  have e:Ti (OL P) (gt Ts left) plant there (gt S i)=none:=by unfold Ti;rw [Nh v]
  rw [e] at f
  simp only [n32,r32,g,j,n,o,p,m,t,u,B,s,J,z,O,OH,QH,QG,QF,QE,QD,QC,QB,QA,NI,I,NH,Nr v,SB,seval,NC,NJ,NG,NQ,reduceCtorEq,NB,place,NA,ND]
  exact hN (i+1) _ _ ⟨by omega,g,j,by rw [<-A];exact rfl,n,o,p,m,t,u,rfl,F.app,C.app _,f⟩ (by omega)
 unfold OA at aw
 have y:=fun (H:NE) (mp:Bool) (lim:Nat) (Q:Value->NE->Prop)=>Nre (mp:=mp) (lim:=lim) (H:=H) (Q:=Q) (l:=gt S i) (r:=there) hf (by omega) (by omega)
 cases hx:RY (gt S i) there with
 | none=>
   have e:Ti (OL P) (gt Ts left) plant there (gt S i)=none:=by unfold Ti;rw [Ni v];simp only [hx]
   rw [e] at f
   rw [hx] at y
   simp only [On,Wy] at y
   simp only [n32,r32,g,j,n,o,p,m,t,u,B,s,J,z,O,OH,QH,QG,QF,QE,QD,QC,QB,QA,NI,I,NH,N7 v,y,SB,seval,NC,NJ,NG,NQ,reduceCtorEq,NB,place,NA,ND]
   exact hN (i+1) _ _ ⟨by omega,g,j,by rw [<-A];exact rfl,n,o,p,m,t,u,rfl,F.app,C.app _,f⟩ (by omega)
 | some a=>
   rw [hx] at y
   simp only [Nv,Wy] at y
   have i2:OL P (gt S i).dst<50:=N.lt _ (N.dst _ Y)
   obtain ⟨j2,aa⟩:=UU (i:=0) (N.dst _ Y)
   change findKey _ _ _=some (some (j2,Vi (OL P (gt S i).dst:Int))) at aa
   have ae:=F.get hm (PQ hm) (by simp)
   have q3:∀X,NF (G'++X) R=.map (WQ P):=fun X=>by rw [NN (PQ ae)];exact ae
   have hT:=au _ (R6 x)
   have V:=F.ext.sl ar
   have D:=fun X=>(V.app X).loadCell PO x i2
   rw [Wd hT.1 i2] at D
   have W:=fun c (k:IntKind) (H1:NE)=>V.idx (c:=c) (k:=k) (H1:=H1) x
   have z2:(0:Int)<=(OL P (gt S i).dst:Int):=by omega
   have z4:(OL P (gt S i).dst:Int)<50:=by omega
   by_cases M:a+(gt S i).mins<=(gt Ts left).getD (OL P (gt S i).dst) (-1)
   case neg=>
    have e:Ti (OL P) (gt Ts left) plant there (gt S i)=none:=by unfold Ti;rw [Ni v];simp only [hx];rw [Nh M]
    rw [e] at f
    simp only [n32,r32,g,j,n,o,p,m,t,u,B,s,J,z,O,OH,QH,QG,QF,QE,QD,QC,QB,QA,NI,I,NH,N7 v,y,q3,aa,D,W,z2,z4,Nr M,Pd,SB,seval,NC,NJ,NG,NQ,reduceCtorEq,NB,place,NA,ND]
    exact hN (i+1) _ _ ⟨by omega,g,j,by rw [<-A];exact rfl,n,o,p,m,t,u,rfl,F.app,C.app _,f⟩ (by omega)
   have e:Ti (OL P) (gt Ts left) plant there (gt S i)=some (gt S i,a):=by unfold Ti;rw [Ni v];simp only [hx];rw [Ni M]
   rw [e] at f
   obtain ⟨G3,e3,O3,C3,av,l3,ab⟩:=C.step (lim':=lim) (bytes:=24) ad OY (by decide) (Vn (gt S i,a)) (by unfold PN;omega) (by omega) (by omega) [Vc (Rz (gt S i)),Vc [Vi a,Vi (a+(gt S i).mins)],Vc (enc3 (Vn (gt S i,a)))] (G'.length+2) 1 NW
   have ai:enc3 (Vn (gt S i,a))=[Vi (gt S i).id,Vi a,Vi (a+(gt S i).mins)]:=rfl
   rw [ai] at e3 ab
   have d0:NF (G3++[]) G'.length=Vc (Rz (gt S i)):=ab 0 (by simp)
   have d1:NF (G3++[]) (G'.length+1)=Vc [Vi a,Vi (a+(gt S i).mins)]:=ab 1 (by simp)
   simp only [n32,r32,g,j,n,o,p,m,t,u,B,s,J,z,O,OH,QH,QG,QF,QE,QD,QC,QB,QA,NI,I,NH,N7 v,y,q3,aa,D,W,z2,z4,N7 M,Pd,e3,d0,d1,SB,seval,NC,NJ,NG,NQ,reduceCtorEq,NB,place,NA,ND]
   have cH:=C3 [] H (Nd _) F
   rw [Nb] at cH O3
   refine hR _ _ (Sa (G'.length+3)) (loose 3) cH g j (by rw [<-A];exact rfl) m fun w' b d h=>?_
   rw [f] at h
   obtain ⟨rfl,rfl,rfl⟩:=h
   refine ⟨?_,rfl,rfl,O3⟩
   simp only [Nm,Nl,Ns,N0]
   exact rfl
theorem Nxu {pos:Int->Nat} {S:List Leg} {late:List Int} {p t a:Int} {l:Leg} (h:Yf pos S late p t=some (l,a)):l∈S/\RY l t=some a:=by
 unfold Yf at h
 obtain ⟨g,x,i,b,f,c⟩:=List.findSome?_eq_some_iff.1 h
 obtain ⟨j,d,e,k⟩:=Y1 f
 simp only at d e
 subst d
 exact ⟨by rw [b];simp,e⟩
theorem N8m [OB] {lim:Nat} {pp pl:Option Addr} {P:List Int} {L:List Leg} {cp cl:Nat} {p q ready:Int} {H:NE} {Q:Value->NE->Prop} (hn:NetIn H pp pl P L) (cz:lim<=H.length)
  (bd:∀H',UD P L p q ready≠0->Chg [] H H'->Q (.tuple #[Vz,Vi (UD P L p q ready)]) H')
  (ay:∀H',UD P L p q ready=0->TN L p ready q (-1)->Chg [] H H'->Q (.tuple #[Vz,Vi 6]) H')
  (cu:∀H' v w pw cw,UD P L p q ready=0->Chg [] H H'->0<=v->TN L p ready q v->BestW L p ready q v w->w.length<2 ^ 30->Own H.length H' enc3 3 pw cw (w.map Vn)->Q (.tuple #[.slice pw w.length cw,Vi 0]) H') :
  NL E false lim 32 [.agg (Tj pp P.length cp pl L.length cl).toArray,Vi p,Vi q,Vi ready] H Q:=by
 refine R8 (by decide) e32 rfl ?_
 rw [b32,c32]
 simp only [n32,r32,PR,Sg,Sd,NI,SB,seval,NC,NJ,NG,NQ,reduceCtorEq,NB,place,NA,ND]
 refine Nfj (hn.app _) (by simp;omega) (fun H' he hE=>?_) (fun H' R he hE hm hR=>?_)
 ·refine NM ?_
  simp only [n32,r32,he,Nr he,SB,seval,NC,NJ,NG,NQ,reduceCtorEq,NB,place,NA,ND]
  exact bd _ he (hE.chg.pre.app)
 obtain ⟨hv,hp,hq,hr,az⟩:=Me he
 obtain ⟨v1,v2,v3,v4⟩:=Va hv
 have u:=VM hv
 have ch:=hE.len
 simp only [Nm,Nl,Ns] at ch hR
 have aj:NF H' H.length=Vc (Tj pp P.length cp pl L.length cl):=hE.cells NV
 have cn:=fun X=>(OM.refl.app (X:=X)).cells aj
 have an:OM H H':=by obtain ⟨Y,rfl⟩:=hE;rw [Nn];exact OM.refl.app
 have hi:OL P q<50:=u.lt _ hq
 obtain ⟨j1,bk⟩:=UU (i:=0) hq
 change findKey _ _ _=some (some (j1,Vi (OL P q:Int))) at bk
 have q3:∀X,NF (H'++X) R=.map (WQ P):=fun X=>by rw [NN (PQ hm)];exact hm
 refine NM ?_
 simp only [n32,r32,cn,PR,Sg,Sd,NI,q3,bk,show lim<=H'.length by omega,SB,seval,NC,NJ,NG,NQ,reduceCtorEq,NB,place,NA,ND]
 refine Nce ((hn.ext an).app _) hv (q3 _) hp hr az (by simp;omega) fun H2 q1 cap n hC be c0 c3 hO=>?_
 have W:=hC.pre
 have cd:=hC.len
 simp only [Nm,Nl,Ns] at cd
 have au:NF H2 H'.length=Vc [Vi (OL P q:Int)]:=hC.cells NV (by simp)
 have ar:=fun X=>(OM.refl.app (X:=X)).cells au
 have F:=W.cells aj (by simp)
 have ai:=fun X=>(OM.refl.app (X:=X)).cells F
 have e:((List.range (n+1)).map (RQ 50 (OL P) (ready+86400) L p ready)).length=n+1:=by simp
 have av:∀k,k<=n->gt ((List.range (n+1)).map (RQ 50 (OL P) (ready+86400) L p ready)) k=RQ 50 (OL P) (ready+86400) L p ready k:=fun k hk=>by
  rw [PZ (by rw [e];omega)];simp
 have hS:=hO.sl PO
 have aw:=fun X=>(hS.app X).loadCell PO (i:=n) (j:=OL P q) (by rw [e];omega) hi
 rw [av n (Nd _),Wd U8 hi] at aw
 have D:=fun c (kk:IntKind) (H1:NE)=>hS.idx (c:=c) (k:=kk) (H1:=H1) (i:=n) (by rw [e];omega)
 rw [e] at D
 have bu:IntKind.i64.wrap (((n+1:Nat):Int)-1)=(n:Int):=by rw [NT (by omega) (by omega)];omega
 have hv:=Nfh u hp hr (by omega:ready<=ready+86400) be q hq
 change TN L p ready q _ at hv
 generalize cv:(RQ 50 (OL P) (ready+86400) L p ready n).getD (OL P q) (-1)=v at *
 have z1:(0:Int)<=(OL P q:Int):=by omega
 have z2:(OL P q:Int)<50:=by omega
 have z3:OL P q<=49:=by omega
 refine NM ?_
 by_cases bq:v<0
 ·simp only [n32,r32,ai,ar,D,aw,bu,z1,z2,z3,Pd,PR,Sg,Sd,NI,show lim<=H2.length by omega,N7 bq,SB,seval,NC,NJ,NG,NQ,reduceCtorEq,NB,place,NA,ND]
  refine ay _ he ?_ ((an.chg.trans W).app)
  rcases hv with ⟨rfl,h⟩ | ⟨⟨⟨j,hw⟩,_⟩,_⟩
  ·exact .inl ⟨rfl,h⟩
  ·have:=hw.later u.fine;omega
 obtain ⟨k,hk,aa,Z⟩:=Nl9 (f:=fun k=>(RQ 50 (OL P) (ready+86400) L p ready k).getD (OL P q) (-1)) cv
 replace aa:(RQ 50 (OL P) (ready+86400) L p ready k).getD (OL P q) (-1)=v:=aa
 replace Z:∀j,j<k->(RQ 50 (OL P) (ready+86400) L p ready j).getD (OL P q) (-1)≠v:=Z
 have a3:=fun X (mp:Bool) (lim:Nat) (Q:Value->NE->Prop)=>N0c (mp:=mp) (lim:=lim) (Q:=Q) (k:=k) (cap:=cap) (t:=v) (B:=H2.length) (H:=H2++Vc [Vi v]::X) hi (ar _) NV (hS.app _) (fun T hT=>by obtain ⟨j,_,rfl⟩:=List.mem_map.1 hT;exact U8) (by rw [e];omega) (by rw [e];omega) (by rw [av k hk];exact aa) (fun j hj=>by rw [av j (by omega)];exact Z j hj)
 rw [e] at a3
 have bx:=fun (H:NE) (mp:Bool) (lim:Nat) (Q:Value->NE->Prop)=>Noi (mp:=mp) (lim:=lim) (H:=H) (Q:=Q) (i:=OL P q) (t:=v) hi
 have a9:OM H H2:=by obtain ⟨Y,rfl⟩:=W.ext;exact an.app
 have ac:NF H2 R=.map (WQ P):=W.get hm (PQ hm) (by simp)
 have cy:∀X,NF (H2++X) R=.map (WQ P):=fun X=>by rw [NN (PQ ac)];exact ac
 have bo:0<=v:=by omega
 have c5:v<=OA:=by
  rcases hv with ⟨rfl,h⟩ | ⟨⟨⟨j,hw⟩,_⟩,_⟩
  ·omega
  ·cases hw with
   | nil=>exact az
   | snoc _ hl _ hd _=>
     obtain ⟨d,c2,aq,rfl⟩:=hd
     unfold goes at aq
     simp only [Ny,Oa] at aq
     exact aq.2
 simp only [n32,r32,ai,ar,D,aw,bu,z1,z2,z3,Pd,PR,Sg,Sd,NI,show lim<=H2.length by omega,Nr bq,a3,bx,SB,seval,NC,NJ,NG,NQ,reduceCtorEq,NB,place,NA,ND]
 refine Nua (R:=R) (n0:=k) ((hn.ext a9).app _) u (cy _) (Nie hi (by omega)) (by omega) (by omega) (by simp;omega) fun H3 p3 ah a4 b0=>?_
 have cf:=a4.len
 simp only [Nm,Nl,Ns] at cf
 have A:=a4.pre
 have ax:=A.cells F (by simp)
 have bn:=fun X=>(OM.refl.app (X:=X)).cells ax
 have ba:OM H H3:=a9.trans A.ext
 have bm:NF H3 R=.map (WQ P):=A.get ac (PQ ac) (by simp)
 have o:((List.range (k+1)).map (WU P L (Zu 50 (OL P q) v))).length=k+1:=by simp
 have bg:∀j,j<=k->gt ((List.range (k+1)).map (WU P L (Zu 50 (OL P q) v))) j=MS 50 (OL P) L q v j:=fun j hj=>by
  rw [PZ (by rw [o];omega)];simp [Nhe]
 have b6:=b0.sl PO
 refine NM ?_
 simp only [n32,r32,bn,PR,Sg,Sd,Nnf,SB,seval,NC,NJ,NG,NQ,reduceCtorEq,NB,place,NA,ND]
 refine Nnt (L:=L) (c:=cl) (p:=pl) NV ((ba.app).sl hn.sl) v2 (by simp;omega) (Ned v4) fun H4 q4 z S a5 b7 I J c4=>?_
 have cg:=a5.len
 simp only [Nm,Nl,Ns] at cg
 have C:=a5.pre
 have bz:OM H H4:=ba.trans C.ext
 have cj:NF H4 R=.map (WQ P):=C.get bm (PQ bm) (by simp)
 have bb:=C.ext.sl b6
 have x:∀l,l∈S↔l∈L:=fun l=>I.mem_iff
 have b9:S.length=L.length:=I.length_eq
 have bc:∀T∈(List.range (k+1)).map (WU P L (Zu 50 (OL P q) v)),okT T:=fun T hT=>by
  obtain ⟨j,_,rfl⟩:=List.mem_map.1 hT
  exact Nev u (Nie hi (by omega)) j
 obtain ⟨ap,cb⟩:=N0f u hp hq hr bo x J (late:=MS 50 (OL P) L q v) (fun _=>rfl) hv aa Z
 generalize c1:(List.range (k+1)).map (WU P L (Zu 50 (OL P q) v))=Ts at *
 refine NM ?_
 have wk:IntKind.i64.wrap ((k:Int)-1)=(k:Int)-1:=NT (by omega) (by omega)
 simp only [n32,r32,wk,SB,seval,NC,NJ,NG,NQ,reduceCtorEq,NB,place,NA,ND]
 refine NR (fun s:(Nat×Int×Int)×List (Int×Int×Int)×Option Addr×Nat=>s.1.1) (fun s fr G=>fr 10=.map (some R)/\fr 16=.slice p3 Ts.length ah/\fr 17=.slice q4 S.length z/\fr 18=.slice s.2.2.1 s.2.1.length s.2.2.2/\fr 19=Vi s.1.2.1/\fr 20=Vi s.1.2.2/\fr 21=Vi ((s.1.1:Int)-1)/\s.1.1<=k/\Chg [] H4 G/\Own H4.length G enc3 3 s.2.2.1 s.2.2.2 s.2.1/\
   0<=s.1.2.2/\s.1.2.2<=OA/\s.2.1++(goW (OL P) S (MS 50 (OL P) L q v) s.1.1 s.1.2.1 s.1.2.2).map Vn=(goW (OL P) S (MS 50 (OL P) L q v) k p ready).map Vn/\s.2.1.length+s.1.1<=k) ((k,p,ready),[],none,0)
  ⟨rfl,by rw [o];exact rfl,by rw [b9];exact rfl,(by simp only [Ns,FB,Nat.reduceEqDiff]),rfl,rfl,by rfl,Nd _,Chg.refl.app,.nil,hr,az,rfl,by simp⟩ ?_
 rintro ⟨⟨m,plant,there⟩,w,pw,cw⟩ fr G ⟨al,am,N,O,U,V,g,ab,a6,ao,a0,a1,b,ad⟩ hN
 simp only at O U V g ab ao a0 a1 b ad
 rw [NS N51.eq_1]
 refine NM ?_
 match m,ab,b,ad,g,hN with
 | 0,ab,b,ad,g,hN=>
   have this:¬(0:Int)<=-1:=by decide
   replace g:fr 21=Vi (-1):=g
   simp only [goW,List.map_nil,Nb] at b
   subst b
   simp only [n32,r32,al,am,N,O,U,V,g,Nr this,SB,seval,NC,NJ,NG,NQ,reduceCtorEq,NB,place,NA,ND]
   rw [Nu]
   exact cu _ v _ pw cw he ((bz.chg.trans a6).app) bo hv ap (by rw [cb];omega) ((ao.le (by omega)).app _)
 | m+1,ab,b,ad,g,hN=>
   have e1:((m+1:Nat):Int)-1=(m:Int):=by omega
   rw [e1] at g
   have ck:(0:Int)<=(m:Int):=by omega
   have ci:m<Ts.length:=by rw [o];omega
   have wm:IntKind.i64.wrap ((m:Int)-1)=(m:Int)-1:=NT (by omega) (by omega)
   simp only [n32,r32,al,am,N,O,U,V,g,N7 ck,SB,seval,NC,NJ,NG,NQ,reduceCtorEq,NB,place,NA,ND]
   refine Nr8 (c16:=ah) (cs:=z) (H:=H4) (S:=S) (L:=L) (left:=m) (Ts:=Ts) (w:=w) (q:=q4) (plant:=plant) (there:=there) u (fun l hl=>(x l).1 hl) (by omega) cj (by omega) (a6.app) b7 bb bc ci (by rw [o];omega) ⟨a0,a1⟩ (ao.app _) (by omega) al am O U V g (by simp only [N,ne_eq,FB,Nat.reduceEqDiff]) rfl rfl fun fr' G' bw a2 a7 ae ag cx bv ak=>?_
   have y:fr' 17=.slice q4 S.length z:=cx.trans N
   have bf:=bg m (by omega)
   cases hpk:Yf (OL P) S (gt Ts m) plant there with
   | none=>
     obtain ⟨r18,K,M,rO⟩:=ak w plant there (by rw [hpk];exact ⟨rfl,rfl,rfl⟩)
     rw [bf] at hpk
     simp only [goW,hpk] at b
     simp only [n32,r32,ae,ag,y,bv,r18,K,M,wm,SB,seval,NC,NJ,NG,NQ,reduceCtorEq,NB,place,NA,ND]
     exact hN ((m,plant,there),w,bw,a2) _ _ ⟨ae,ag,y,r18,K,M,rfl,by show m<=k;omega,a7.app,rO.app _,a0,a1,b,by show w.length+m<=k;omega⟩ (by show m<m+1;omega)
   | some r=>
     obtain ⟨l,a⟩:=r
     obtain ⟨r18,K,M,rO⟩:=ak (w++[Vn (l,a)]) l.dst (a+l.mins) (by rw [hpk];exact ⟨rfl,rfl,rfl⟩)
     obtain ⟨bh,co⟩:=Nxu hpk
     obtain ⟨n1,n2,n3⟩:=Ngu (u.fine l ((x l).1 bh)) co
     have cc:=u.fine l ((x l).1 bh)
     unfold Fine at cc
     rw [bf] at hpk
     simp only [goW,hpk,Oc] at b
     simp only [n32,r32,ae,ag,y,bv,r18,K,M,wm,SB,seval,NC,NJ,NG,NQ,reduceCtorEq,NB,place,NA,ND]
     exact hN ((m,l.dst,a+l.mins),w++[Vn (l,a)],bw,a2) _ _ ⟨ae,ag,y,r18,K,M,rfl,by show m<=k;omega,a7.app,rO.app _,by show 0<=a+l.mins;omega,n3,by rw [Nn];exact b,by show (w++[Vn (l,a)]).length+m<=k;rw [Nm];simp only [Nl,Ns];omega⟩ (by show m<m+1;omega)
end Go.Proofs.YtkppjkkkdpcgiaaGreat.Fn


namespace Go.Proofs.YtkppjkkkdpcgiaaGreat.Fn
open Go.AM Go.AM.Sym Go.Net Go.Scan
structure An where
 (kind ev other place mins:Int)
 deriving DecidableEq,Inhabited
abbrev Stp:=Int×Int×Int
theorem Nl3 {L:List Leg} (h:L.Pairwise (fun a b=>a.id≠b.id)):∀a∈L,∀b∈L,a.id=b.id->a=b:=by
 intro a d b f e
 obtain ⟨i,hi,rfl⟩:=List.mem_iff_getElem.1 d
 obtain ⟨j,c,rfl⟩:=List.mem_iff_getElem.1 f
 rw [P2] at h
 rcases Nat.lt_trichotomy i j with h1 | h1 | h1
 ·exact absurd e (h i j hi c h1)
 ·subst h1;rfl
 ·exact absurd e.symm (h j i c hi h1)
def Won (P:List Int) (L:List Leg) (p q t:Int) (w:List (Leg×Int)):Prop:=UD P L p q t=0/\∃v,0<=v/\TN L p t q v/\BestW L p t q v w
theorem Won.uniq {P:List Int} {L:List Leg} {p q t:Int} {w w':List (Leg×Int)} (h:Won P L p q t w) (h':Won P L p q t w'):w=w':=by
 obtain ⟨he,v,g,d,f⟩:=h
 obtain ⟨_,v',c,a,b⟩:=h'
 have e:v=v':=Sv.uniq d a
 subst e
 exact BestW.uniq (fun _=>Iff.rfl) (Nl3 (Ned (Va (Me he).1).2.2.2)) f b
noncomputable def Yj (P:List Int) (L:List Leg) (p q t:Int):List (Leg×Int):=open Classical in if h:∃w,Won P L p q t w then h.choose else []
theorem Nc5 {P:List Int} {L:List Leg} {p q t:Int} {w:List (Leg×Int)} (h:Won P L p q t w):Yj P L p q t=w:=by
 have hex:∃w,Won P L p q t w:=⟨w,h⟩
 unfold Yj
 rw [Rc hex]
 exact hex.choose_spec.uniq h
theorem Nwx {P:List Int} {L:List Leg} {p q t:Int} (h:UD P L p q t≠0):Yj P L p q t=[]:=by
 unfold Yj
 exact dif_neg fun ⟨_,a,_⟩=>h a
theorem Nr9 {P:List Int} {L:List Leg} {p q t:Int} (hn:TN L p t q (-1)):Yj P L p q t=[]:=by
 unfold Yj
 refine dif_neg fun ⟨w,_,v,b,a,_⟩=>?_
 have:=Sv.uniq hn a
 omega
def Xm (s:Stp) (x:Leg×Int):An:=⟨5,s.2.1,s.1,x.1.dst,0⟩
noncomputable def Tp (P:List Int) (L:List Leg) (es:List Ev) (s:Stp):List An:=
 (Yj P L (gt es s.1.toNat).place (gt es s.2.1.toNat).place (gt es s.1.toNat).time).dropLast.map (Xm s)
noncomputable def TZ (P:List Int) (L:List Leg) (es:List Ev) (s:Stp):List An:=
 let b:=(gt es s.2.1.toNat).place
 if (gt es s.1.toNat).kind=4 then [⟨2,s.2.1,s.1,b,0⟩] else if s.2.2=80 then [⟨3,s.2.1,s.1,b,0⟩] else if 0<s.2.2 then [⟨4,s.2.1,s.1,b,s.2.2⟩]
 else if (gt es s.1.toNat).place≠b then Tp P L es s else []
def Z8 (y x:Ev):Prop:=y.place=x.place/\y.kind=x.kind
instance (y x:Ev):Decidable (Z8 y x):=by unfold Z8;infer_instance
def Vq (x:Ev):List Ev->Int
 | []=>OA+1
 | y::l=>if Z8 y x then y.time else Vq x l
def Nu5 (x:Ev) (i:Nat) (y:Ev):An:=⟨6,(i:Int),0,x.place,y.time-x.time⟩
def Neg (x:Ev) (lim:Int) (y:Ev):Prop:=Z8 y x/\x.time<=y.time/\y.time<lim
instance (x:Ev) (lim:Int) (y:Ev):Decidable (Neg x lim y):=by unfold Neg;infer_instance
def R5 (es tw:List Ev) (i:Nat):List An:=(tw.filter fun y=>Neg (gt es i) (Vq (gt es i) (es.drop (i+1))) y).map (Nu5 (gt es i) i)
def VW (es:List Ev) (ks:List Int) (now:Int):List An:=
 match ks.getLast? with
 | none=>[]
 | some k=>if (gt es k.toNat).kind=4\/now-(gt es k.toNat).time<=20160 then [] else [⟨7,k,0,(gt es k.toNat).place,now-(gt es k.toNat).time⟩]
def toN (n:Nat) (ss:List Stp):List Stp:=ss.foldl (fun l s=>l.set s.2.1.toNat s) (List.replicate n (0,0,0))
def V7 (n:Nat) (ks:List Int):List Bool:=ks.foldl (fun l k=>l.set k.toNat true) (List.replicate n false)
noncomputable def atN (P:List Int) (L:List Leg) (es tw:List Ev) (ks:List Int) (ss:List Stp) (i:Nat):List An:=
 (if gt (V7 es.length ks) i then [] else [⟨1,(i:Int),0,(gt es i).place,0⟩])++((if (gt (toN es.length ss) i).1<(gt (toN es.length ss) i).2.1 then TZ P L es (gt (toN es.length ss) i) else [])++R5 es tw i)
noncomputable def Tv (P:List Int) (L:List Leg) (es tw:List Ev) (ks:List Int) (ss:List Stp) (now:Int):List An:=(List.range es.length).flatMap (atN P L es tw ks ss)++VW es ks now
def U1 (P:List Int) (L:List Leg) (S:List Ev) (item now:Int):Int:=
 if R3 P L≠0 then R3 P L else if ¬QW S\/item<1\/999999<item\/now<0\/OA<now then 2 else if Vf (OO S).1 item=[] then 6 else Yl P L (Vf (OO S).1 item)
theorem Nrd {l:List Ev} {item:Int} (h:item≠0) {x:Ev}:x∈Vf l item↔x∈l/\x.item=item:=by
 unfold Vf
 simp [h]
theorem Nct (l:List Ev) (item:Int):(Vf l item).Sublist l:=List.filter_sublist
theorem Nof (S:List Ev) (item:Int):Njf (Vf (OO S).1 item):=(Nka S).1.sublist (Nct _ _)
theorem Nh8 {S:List Ev} (hS:QW S) {item:Int} (hi:1<=item) {x:Ev} (d:x∈Vf (OO S).1 item):Sb x/\0<=x.time/\x.time<=OA/\x.item=item:=by
 obtain ⟨h1,h2⟩:=(Nrd (by omega)).1 d
 obtain ⟨s,hs,rfl⟩:=Ndl (.inl h1)
 have b:=Ngk hS.2 (.inl h1)
 have a:=hS.2 s hs
 refine ⟨a,b.1, ?_,h2⟩
 have c:=a.2.2.2.2.2.2
 unfold VE at c
 unfold OA
 have e:({ s with time:=V4 (Ro S) s }:Ev).time<=s.seen:=b.2
 omega
theorem N21 {S:List Ev} (hS:QW S) {item:Int} (hi:1<=item):Nfw (Vf (OO S).1 item):=fun i a=>by
 have b:=Nh8 hS hi (R6 a)
 refine ⟨b.1,b.2.1,b.2.2.1,fun c=>⟨?_, ?_⟩⟩
 ·rw [b.2.2.2,(Nh8 hS hi (R6 (i:=0) (by omega))).2.2.2]
 ·have:=P2.1 (Nof S item) (i-1) i (by omega) a (by omega)
  rw [PZ a,PZ (show i-1<_ by omega)]
  exact this
theorem N20 {S:List Ev} {item:Int}:(Vf (OO S).1 item).length<=S.length:=by
 have:=(Nct (OO S).1 item).length_le
 have:=Nkb S
 omega
theorem Nt5 {P:List Int} {L:List Leg} {S:List Ev} {item now:Int} (h:R3 P L≠0):U1 P L S item now=R3 P L:=Ni h
theorem Ngx {P:List Int} {L:List Leg} {S:List Ev} {item now:Int} (h:R3 P L=0) (h2:¬QW S\/item<1\/999999<item\/now<0\/OA<now):U1 P L S item now=2:=by
 unfold U1
 rw [Nh (by simpa using h),Ni h2]
theorem Na0 {P:List Int} {L:List Leg} {S:List Ev} {item now:Int} (h:R3 P L=0) (hS:QW S) (h1:1<=item) (h2:item<=999999) (b:0<=now) (c:now<=OA) :
  U1 P L S item now=if Vf (OO S).1 item=[] then 6 else if 40<(Vf (OO S).1 item).length then 5 else 0:=by
 have a:¬(¬QW S\/item<1\/999999<item\/now<0\/OA<now):=by
  rintro (h | h | h | h | h)
  ·exact h hS
  all_goals omega
 unfold U1
 rw [Nh (by simpa using h),Nh a]
 have e:Yl P L (Vf (OO S).1 item)=if 40<(Vf (OO S).1 item).length then 5 else 0:=by
  unfold Yl
  rw [Nh (by simpa using h),Ni (N21 hS h1)]
 rw [e]
theorem Niy {α:Type} [Inhabited α] {l:List α} {i j:Nat} {x:α} (hi:i<l.length):gt (l.set i x) j=if i=j then x else gt l j:=by
 unfold gt
 rw [Na,Na,N3]
 split
 ·simp [hi]
 ·rfl
theorem Na4:∀(ks:List Int) (l:List Bool),(ks.foldl (fun l k=>l.set k.toNat true) l).length=l.length
 | [],_=>rfl
 | k::ks,l=>by rw [Oi,Na4 ks,P3]
theorem Nlx:∀(ks:List Int) (l:List Bool),(∀k∈ks,0<=k/\k<l.length)->∀i,gt (ks.foldl (fun l k=>l.set k.toNat true) l) i=(decide ((i:Int)∈ks)||gt l i)
 | [],_,_,i=>by simp
 | k::ks,l,h,i=>by
   have hk:=h k No
   rw [Oi,Nlx ks _ (fun x a=>by rw [P3];exact h x (Nk _ a)),Niy (by omega)]
   by_cases e:k.toNat=i
   ·have:(i:Int)=k:=by omega
    rw [Ni e];simp [this]
   ·have:(i:Int)≠k:=by omega
    rw [Nh e];simp [this]
theorem MK {α:Type} [Inhabited α] {n i:Nat} {x:α} (h:i<n):gt (List.replicate n x) i=x:=by
 rw [PZ (by simpa using h),List.getElem_replicate]
theorem Nz7 {n:Nat} {ks:List Int} (h:∀k∈ks,0<=k/\k<n) {i:Nat} (hi:i<n):gt (V7 n ks) i=decide ((i:Int)∈ks):=by
 unfold V7
 rw [Nlx ks _ (by simpa using h),MK hi,Bool.or_false]
theorem Ng4 {n:Nat} {ks:List Int}:(V7 n ks).length=n:=by unfold V7;rw [Na4,Om]
theorem Nhv:∀(ss:List Stp) (l:List Stp),(ss.foldl (fun l s=>l.set s.2.1.toNat s) l).length=l.length
 | [],_=>rfl
 | k::ks,l=>by rw [Oi,Nhv ks,P3]
theorem Nq3 {n:Nat} {ss:List Stp}:(toN n ss).length=n:=by unfold toN;rw [Nhv,Om]
def U9 (n:Nat) (s:Stp):Prop:=0<=s.1/\s.1<s.2.1/\s.2.1<n
def Njj (ss:List Stp):Prop:=ss.Pairwise fun a b=>a.2.1≠b.2.1
theorem Nnl:∀(ss:List Stp) (l:List Stp) (i:Nat),(∀s∈ss,U9 l.length s)->(∀s∈ss,s.2.1≠i)->gt (ss.foldl (fun l s=>l.set s.2.1.toNat s) l) i=gt l i
 | [],_,_,_,_=>rfl
 | s::ss,l,i,h,hn=>by
   have hs:=h s No
   have hi:=hn s No
   unfold U9 at hs
   rw [Oi,Nnl ss _ i (fun x a=>by rw [P3];exact h x (Nk _ a)) (fun x a=>hn x (Nk _ a)),Niy (by omega),Nh (by omega)]
theorem Nxa:∀(ss:List Stp) (l:List Stp),(∀s∈ss,U9 l.length s)->Njj ss->∀s∈ss,gt (ss.foldl (fun l s=>l.set s.2.1.toNat s) l) s.2.1.toNat=s
 | [],_,_,_,_,h=>(O8 h).elim
 | a::ss,l,h,hd,s,hs=>by
   obtain ⟨c,d⟩:=List.pairwise_cons.1 hd
   have e:=h a No
   have h':∀x∈ss,U9 (l.set a.2.1.toNat a).length x:=fun x b=>by rw [P3];exact h x (Nk _ b)
   rw [Oi]
   rcases Np.1 hs with rfl | hs
   ·unfold U9 at e
    rw [Nnl ss _ _ h' (fun x b=>by have:=c x b;omega),Niy (by omega),Ni rfl]
   ·exact Nxa ss _ h' d s hs
theorem Nw7 {n:Nat} {ss:List Stp} (h:∀s∈ss,U9 n s) (hd:Njj ss) {s:Stp} (hs:s∈ss):gt (toN n ss) s.2.1.toNat=s:=Nxa ss _ (by simpa using h) hd s hs
theorem Nw6 {n:Nat} {ss:List Stp} (h:∀s∈ss,U9 n s) {i:Nat} (hi:i<n) (hn:∀s∈ss,s.2.1≠i):gt (toN n ss) i=(0,0,0):=by
 unfold toN
 rw [Nnl ss _ i (by simpa using h) hn,MK hi]
theorem N2g {n:Nat} {ss:List Stp} (h:∀s∈ss,U9 n s) (hd:Njj ss) {i:Nat} (hi:i<n) (a:(gt (toN n ss) i).1<(gt (toN n ss) i).2.1):gt (toN n ss) i∈ss/\(gt (toN n ss) i).2.1=i:=by
 by_cases hex:∃s∈ss,s.2.1=i
 ·obtain ⟨s,hs,e⟩:=hex
  have:=Nw7 h hd hs
  have e2:s.2.1.toNat=i:=by omega
  rw [e2] at this
  rw [this]
  exact ⟨hs,e⟩
 ·rw [Nw6 h hi (fun s hs e=>hex ⟨s,hs,e⟩)] at a
  simp at a
def cS (s:Stp):Int:=if s.1<s.2.1 then s.2.2 else 0
theorem Nj2 {P:List Int} {L:List Leg} {es:List Ev} {ks:List Int} (hk:Nfv es.length ks):(∀s∈R4 P L es ks,U9 es.length s)/\Njj (R4 P L es ks):=by
 have asc:∀i,i+1<ks.length->gt ks i<gt ks (i+1):=fun i hi=>(hk.2 (i+1) hi).2.2 (by omega)
 have mono:∀j i,i<j->j<ks.length->gt ks i<gt ks j:=fun j=>by
  induction j with
  | zero=>intro i h;omega
  | succ j ih=>
    intro i h a
    have h1:=asc j a
    rcases Oh i j with h2 | h2
    ·have:=ih i h2 (by omega);omega
    ·rw [show i=j by omega];exact h1
 refine ⟨fun s hs=>?_, ?_⟩
 ·unfold R4 at hs
  obtain ⟨i,hi,rfl⟩:=List.mem_map.1 hs
  rw [List.mem_range] at hi
  have h1:=hk.2 i (by omega)
  have h2:=hk.2 (i+1) (by omega)
  exact ⟨h1.1,asc i (by omega),h2.2.1⟩
 ·unfold Njj R4
  rw [List.pairwise_map]
  refine (List.pairwise_lt_range (n:=ks.length-1)).imp_of_mem fun {i j} hi a b=>?_
  rw [List.mem_range] at hi a
  have:=mono (j+1) (i+1) (by omega) (by omega)
  show gt ks (i+1)≠gt ks (j+1)
  omega
def cA (a:An):Int:=if a.kind=1 then 30 else if a.kind=2\/a.kind=3 then 80 else if a.kind=4 then a.mins else 0
def Ob4 (l:List An):Int:=(l.map cA).sum
def Yk (a:An):Prop:=a.kind=2\/a.kind=3\/a.kind=4
instance (a:An):Decidable (Yk a):=by unfold Yk;infer_instance
def nS (l:List An) (i:Nat):Nat:=l.countP fun a=>decide (Yk a/\a.ev=i)
def N6d (l:List An) (i:Nat):Bool:=l.any fun a=>decide (a.kind=1/\a.ev=i)
section
variable {P:List Int} {L:List Leg} {es tw:List Ev}
def Oak (P:List Int) (L:List Leg) (es:List Ev) (s:Stp):Prop:=s.2.2=QO P L (gt es s.1.toNat) (gt es s.2.1.toNat)
def Oet (a b:An):Prop:=(b.kind≠7->a.ev<=b.ev)/\(a.kind=1->b.kind=1->a.ev≠b.ev)
section
variable {ks:List Int} {ss:List Stp} (hk:Nfv es.length ks) (hs:∀s∈ss,U9 es.length s) (hd:Njj ss) (hp:∀s∈ss,Oak P L es s)
include hs hd hp
structure AtOk (es:List Ev) (i:Nat) (a:An):Prop where
 ev:a.ev=i
 kind:1<=a.kind/\a.kind<=6
 place:a.kind=1->a.place=(gt es i).place
 oth:0<=a.other/\a.other<es.length
 del:a.kind=2\/a.kind=3->((gt es a.other.toNat).kind=4↔a.kind=2)
 mins:a.kind=4->1<=a.mins/\a.mins<=60
noncomputable def Nh6 (P:List Int) (L:List Leg) (es tw:List Ev) (ks:List Int) (ss:List Stp) (m:Nat):List An:=(List.range m).flatMap (atN P L es tw ks ss)
end
end
section
variable {P:List Int} {L:List Leg} {es tw:List Ev} {ks:List Int} {ss:List Stp} (hs:∀s∈ss,U9 es.length s) (hd:Njj ss) (hp:∀s∈ss,Oak P L es s)
include hs hd hp
end
theorem Ny6 {es:List Ev} {ks:List Int} {now:Int}:VW es ks now=[]\/∃k,ks.getLast? = some k/\VW es ks now=[⟨7,k,0,(gt es k.toNat).place,now-(gt es k.toNat).time⟩]/\(gt es k.toNat).kind≠4/\20160<now-(gt es k.toNat).time:=by
 unfold VW
 cases h:ks.getLast? with
 | none=>exact .inl rfl
 | some k=>
   simp only
   by_cases h2:(gt es k.toNat).kind=4\/now-(gt es k.toNat).time<=20160
   ·rw [Ni h2];exact .inl rfl
   ·rw [Nh h2];exact .inr ⟨k,rfl,rfl,fun h=>h2 (.inl h),by omega⟩
structure ListOk (P:List Int) (L:List Leg) (es:List Ev) (ks:List Int) (ss:List Stp) (now:Int) (A:List An):Prop where
 all:∀a∈A,(∃i,i<es.length/\AtOk es i a)\/(a.kind=7/\a.other=0/\ks.getLast? = some a.ev/\(gt es a.ev.toNat).kind≠4/\a.mins=now-(gt es a.ev.toNat).time/\20160<a.mins)
 ord:A.Pairwise Oet
 sum:Ob4 A=SH P L es ks
 stp:∀i,i<es.length->nS A i=if 0<cS (gt (toN es.length ss) i) then 1 else 0
 str:∀i:Nat,i<es.length->N6d A i=!decide ((i:Int)∈ks)
end Go.Proofs.YtkppjkkkdpcgiaaGreat.Fn


namespace Go.Scan
open Go.AM Go.AM.Sym
theorem Ne2 (x:Mk):∀(l:List Mk) (p:Mk),UF p (l++[x])=UF p l++(if RS x ((p::l).getLast (by simp)) then [] else [x])
 | [],p=>by
   by_cases h:RS x p
   ·simp [UF,h]
   ·simp [UF,h]
 | m::l,p=>by
   rw [Ox,UF,Ne2 x l m,UF]
   have e:(p::m::l).getLast (by simp)=(m::l).getLast (by simp):=List.getLast_cons (by simp)
   rw [e]
   split
   ·rfl
   ·rfl
theorem XR {l:List Mk} {m:Nat} (a:1<=m) (h1:m<l.length):Si (l.take (m+1))=Si (l.take m)++(if RS (gt l m) (gt l (m-1)) then [] else [gt l m]):=by
 cases l with
 | nil=>simp at h1
 | cons p l=>
   obtain ⟨m,rfl⟩:∃k,m=k+1:=⟨m-1,by omega⟩
   have hm:m<l.length:=by simpa using h1
   have e1:(p::l).take (m+1+1)=p::(l.take m++[l[m]]):=by
    rw [Qy,Of hm]
   have e2:(p::l).take (m+1)=p::l.take m:=Qy ..
   rw [e1,e2]
   show p::UF p (l.take m++[l[m]])=(p::UF p (l.take m))++_
   rw [Ne2,U5,PZ hm,Pj,Ox]
   have e3:(p::l.take m).getLast (by simp)=gt (p::l) m:=by
    rw [List.getLast_eq_getElem,PZ (by simp;omega)]
    simp only [Nl,Oy,Pz (Nat.le_of_lt hm),Pj]
    cases m with
    | zero=>rfl
    | succ k=>simp
   rw [e3]
theorem XT {l:List Mk}:∀m,m<=l.length->(∀j,1<=j->j<m->¬RS (gt l j) (gt l (j-1)))->Si (l.take m)=l.take m
 | 0,_,_=>by rw [Q0];rfl
 | 1,h,_=>by
   cases l with
   | nil=>simp at h
   | cons p l=>rfl
 | m+2,h,hs=>by
   rw [XR (m:=m+1) (by omega) (by omega),XT (m+1) (by omega) fun j h1 h2=>hs j h1 (by omega),Nh (hs (m+1) (by omega) (by omega)),Of (i:=m+1) (by omega),PZ]
end Go.Scan


namespace Go.Proofs.YtkppjkkkdpcgiaaGreat.Fn
open Go.AM Go.AM.Sym Go.Scan Go.Sort
theorem Ndi {R n lo:Nat} (h:lo<=n) (hn:n<2 ^ 62):VS 3 (.slice (Sa R) n (loose 3)) (some (Vi lo)) none none=some (.slice (some ⟨R,lo*3,none⟩) (n-lo) (loose 3)):=by
 have a:bounds unV n n ((some (Value.int .i64 (lo:Int))).map .const) ((none:Option Value).map .const) none=some (lo,n,n):=by
  rw [Nab]
  exact (Nqd (by omega) (by omega)).trans (by rw [N2])
 simp only [Nv,On] at a
 simp only [VS,Uc,Nv,On,if_true,a]
 rw [addr_add,N0]
theorem Nxi {R n hi:Nat} (h:hi<=n) (hn:n<2 ^ 62):VS 3 (.slice (Sa R) n (loose 3)) none (some (Vi hi)) none=some (.slice (Sa R) hi (loose 3)):=by
 have a:bounds unV n n ((none:Option Value).map .const) ((some (Value.int .i64 (hi:Int))).map .const) none=some (0,hi,n):=by
  rw [Nab]
  exact (Nbf (by omega) (by omega)).trans (by rw [N2])
 simp only [Nv,On] at a
 simp only [VS,Uc,Nv,On,if_true,a]
 rw [addr_add,Qh,Nat.sub_zero]
theorem Nwu {m:Nat}:((List.range (m*3)).map fun j=>[Value.int .i64 0,Vi 0,Vi 0].getD (j % 3) undef)=(List.replicate m TT).flatMap QT:=by
 have e:(List.replicate m TT).flatMap QT=List.replicate (m*3) (Vi 0):=by
  induction m with
  | zero=>rfl
  | succ m ih=>
    rw [Pi,Ow,ih,show (m+1)*3=m*3+1+1+1 by omega,Pi,Pi,Pi]
    rfl
 rw [e,List.eq_replicate_iff]
 refine ⟨by simp,fun v a=>?_⟩
 obtain ⟨j,_,rfl⟩:=List.mem_map.mp a
 have:j % 3<3:=P1 _ (by decide)
 generalize j % 3=k at this
 match k,this with
 | 0,_=>rfl
 | 1,_=>rfl
 | 2,_=>rfl
theorem Nmo {d:List Mk} {k:Nat} (hk:k<=d.length):QN (d.flatMap QT) (k*3) ((List.replicate (d.length-k) TT).flatMap QT)=(d.take k++List.replicate (d.length-k) TT).flatMap QT:=by
 have h1:(d.take k).flatMap QT++(d.drop k).flatMap QT++[]=d.flatMap QT:=by rw [Nb,<-P8,Qc]
 have h2:((d.take k).flatMap QT).length=k*3:=by rw [PS QJ,Oy,Pz hk]
 have a:((List.replicate (d.length-k) TT).flatMap QT).length=((d.drop k).flatMap QT).length:=by rw [PS QJ,PS QJ];simp
 rw [<-h1,<-h2,Ndp _ _ _ _ a,Nb,P8]
theorem Np9 [OB] {lim R:Nat} {l:List Mk} {H:NE} {Q:Value->NE->Prop} (hR:NF H R=Vc (l.flatMap QT)) (hl:lim<=R) (hn:l.length<65536)
  (hQ:∀G,Sl G QT 3 (Sa R) (Si l)->Chg [R] H G->Q (.slice (Sa R) (Si l).length (loose 3)) (G++[])) :
  NL E false lim 126 [.slice (Sa R) l.length (loose 3),.func (.func 127) #[] #[]] H Q:=by
 have t:=NK hR
 refine R8 (by decide) N93 rfl ?_
 rw [Oag,N4i]
 have done:Si l=l->Q (.slice (Sa R) l.length (loose 3)) (H++[]):=fun he=>by
  have:=hQ H (by rw [he];exact Sl.row QJ hR) (Chg.refl)
  rwa [he] at this
 by_cases h2:l.length<2
 ·have hc:(l.length:Int)<2:=by omega
  simp only [n126,Nh5,hc,SB,seval,NC,NJ,NG,NQ,reduceCtorEq,NB,place,NA,ND]
  refine done ?_
  match l,h2 with
  | [],_=>rfl
  | [_],_=>rfl
 have hc:¬(l.length:Int)<2:=by omega
 simp only [n126,Nh5,hc,SB,seval,NC,NJ,NG,NQ,reduceCtorEq,NB,place,NA,ND]
 refine NR (fun i=>l.length-i) (fun i fr G=>1<=i/\i<=l.length/\fr 0=.slice (Sa R) l.length (loose 3)/\fr 1=.func (.func 127) #[] #[]/\fr 5=Vi i/\G=H++[]/\∀j,1<=j->j<i->¬RS (gt l j) (gt l (j-1))) 1
  ⟨Nd _,by omega,rfl,rfl,by rfl,rfl,fun j h1 h2=>by omega⟩ ?_
 rintro i fr G ⟨i1,i2,D,F,Z,rfl,x⟩ hN
 rw [NS Nzy.eq_1]
 have z:Sl H QT 3 (Sa R) l:=Sl.row QJ hR
 have U:IntKind.i64.wrap ((i:Int)+1)=((i+1:Nat):Int):=OG (by omega)
 have T:IntKind.i64.wrap ((i:Int)-1)=((i-1:Nat):Int):=QX (by omega) (by omega)
 by_cases b:i<l.length
 case neg=>
  obtain rfl:i=l.length:=by omega
  simp only [n126,Nh5,D,F,Z,NU,b,SB,seval,NC,NJ,NG,NQ,reduceCtorEq,NB,place,NA,ND]
  refine done ?_
  have:=XT l.length (Nd _) x
  rwa [Oo] at this
 have M:∀X j,j<l.length->AM.loadCells (H++X) (YI (Sa R) 3 j) 3=some (QT (gt l j)):=fun X j hj=>(z.app X).loadCells QJ hj
 have v:=fun c (k:IntKind) (H1:NE)=>z.idx (c:=c) (k:=k) (H1:=H1) b
 have o:=fun c (k:IntKind) (H1:NE)=>z.idx (c:=c) (k:=k) (H1:=H1) (show i-1<l.length by omega)
 have g:=fun X=>M X i b
 have f:=fun X=>M X (i-1) (by omega)
 by_cases a:RS (gt l i) (gt l (i-1))
 case neg=>
  simp only [n126,Nh5,D,F,Z,NU,b,v,o,g,f,T,U,M0,N8 a,SB,seval,NC,NJ,NG,NQ,reduceCtorEq,NB,place,NA,ND]
  refine hN (i+1) _ _ ⟨by omega,by omega,D,F,rfl,rfl,fun j h1 h2=>?_⟩ (by omega)
  rcases (by omega:j<i\/j=i) with h | rfl
  ·exact x j h1 h
  ·exact a
 have ag:=Ndi (R:=R) (n:=l.length) (lo:=i) (by omega) (by omega)
 simp only [n126,Nh5,D,F,Z,NU,b,v,o,g,f,T,U,M0,Nq a,ag,SB,seval,NC,NJ,NG,NQ,reduceCtorEq,NB,place,NA,ND]
 have ci:Si (l.take (i+1))=l.take i:=by
  rw [XR (m:=i) i1 b,Ni a,Nb]
  exact XT i i2 x
 refine NR (S:=Nat×Nat×List Mk) (fun s=>l.length-i-s.1) (fun s fr G=>1<=s.1/\s.1<=l.length-i/\s.2.1+1<=i+s.1/\s.2.2.length=l.length/\s.2.2.take s.2.1=Si (l.take (i+s.1))/\(∀j,s.2.1<=j->j<l.length->gt s.2.2 j=gt l j)/\
  fr 0=.slice (Sa R) l.length (loose 3)/\fr 1=.func (.func 127) #[] #[]/\fr 5=Vi s.2.1/\fr 6=.slice (some ⟨R,i*3,none⟩) (l.length-i) (loose 3)/\fr 7=Vi s.1/\G=DH QT H R s.2.2.toArray++[]) (1,i,l)
  ⟨Nd _,by simp only;omega,Nd _,rfl,ci.symm,fun _ _ _=>rfl,D,F,Z,rfl,by rfl,by rw [Nc3 hR]⟩ ?_
 rintro ⟨q,k,d⟩ al G ⟨q1,q2,k1,dl,A,B,f0,f1,f5,C,Y,rfl⟩ hM
 simp only at q1 q2 k1 dl A B f5 Y
 rw [NS Nzz.eq_1]
 have O:∀X,Sl (DH QT H R d.toArray++X) QT 3 (Sa R) d:=fun X=>by
  have:=Nr7 (X:=X) (d:=d.toArray) (p:=Sa R) rfl t QJ
  simpa using this
 have W:IntKind.i64.wrap ((q:Int)+1)=((q+1:Nat):Int):=OG (by omega)
 have V:IntKind.i64.wrap ((q:Int)-1)=((q-1:Nat):Int):=QX (by omega) (by omega)
 have ak:IntKind.i64.wrap ((k:Int)+1)=((k+1:Nat):Int):=OG (by omega)
 by_cases hq:q<l.length-i
 ·have L:∀r,r<l.length-i->∀(c:Nat) (kk:IntKind) (H1:NE),Zv 3 (.slice (some ⟨R,i*3,none⟩) (l.length-i) c) (.int kk (r:Int)) H1=some (.pointer (some (YI (Sa R) 3 (i+r))),H1):=fun r hr c kk H1=>by
   rw [Xo hr]
   simp only [YI,addrOf,Pa,addr_add,N0,Ps]
  have J:=L q hq
  have I:=L (q-1) (by omega)
  have g:=fun X=>(O X).loadCells QJ (i:=i+q) (by omega)
  have f:=fun X=>(O X).loadCells QJ (i:=i+(q-1)) (by omega)
  rw [B (i+q) (by omega) (by omega)] at g
  rw [B (i+(q-1)) (by omega) (by omega)] at f
  have ct:=XR (l:=l) (m:=i+q) (by omega) (by omega)
  rw [show i+q-1=i+(q-1) by omega] at ct
  by_cases u:RS (gt l (i+q)) (gt l (i+(q-1)))
  ·rw [Ni u,Nb] at ct
   simp only [n126,Nh5,f0,f1,f5,C,Y,NU,hq,J,I,g,f,W,V,M0,Nq u,SB,seval,NC,NJ,NG,NQ,reduceCtorEq,NB,place,NA,ND]
   exact hM (q+1,k,d) _ _ ⟨by simp only;omega,by simp only;omega,by simp only;omega,dl,by rw [A];exact ct.symm,B,f0,f1,f5,C,rfl,rfl⟩ (by simp only;omega)
  ·rw [Nh u] at ct
   have P:=Yi (lim:=lim) (X:=[]) (d:=d.toArray) (p:=Sa R) (i:=k) (y:=gt l (i+q)) rfl t hl QJ (by simp;omega)
   have ae:d.toArray.setIfInBounds k (gt l (i+q))=(d.set k (gt l (i+q))).toArray:=by simp
   rw [ae] at P
   have K:=fun c (kk:IntKind) (H1:NE)=>Xo (e:=3) (n:=k) (len:=l.length) (c:=c) (p:=⟨R,0,none⟩) (k:=kk) (H:=H1) (by omega)
   have ab:(⟨R,0,none⟩:Addr).add (k*3)=YI (Sa R) 3 k:=rfl
   rw [ab] at K
   simp only [n126,Nh5,f0,f1,f5,C,Y,NU,hq,J,I,g,f,W,V,ak,M0,N8 u,K,P,QJ,SB,seval,NC,NJ,NG,NQ,reduceCtorEq,NB,place,NA,ND]
   refine hM (q+1,k+1,d.set k (gt l (i+q))) _ _ ⟨by simp only;omega,by simp only;omega,by simp only;omega,by simp only [P3];exact dl, ?_,fun j h1 h2=>?_,f0,f1,rfl,C,rfl,rfl⟩ (by simp only;omega)
   ·show (d.set k (gt l (i+q))).take (k+1)=Si (l.take (i+q+1))
    rw [ct,<-A,Of (by simp;omega),List.getElem_set_self,List.take_set_of_le (Nd _)]
   ·simp only at h1⊢
    have h3:j<(d.set k (gt l (i+q))).length:=by simp;omega
    rw [PZ h3,List.getElem_set_ne (by omega),<-PZ (by omega)]
    exact B j (by omega) h2
 ·obtain rfl:q=l.length-i:=by omega
  rw [show i+(l.length-i)=l.length by omega,Oo] at A
  rw [show i+(l.length-i)=l.length by omega] at k1
  have ac:(Si l).length=k:=by rw [<-A,Oy];omega
  have ah:=Ndi (R:=R) (n:=l.length) (lo:=k) (by omega) (by omega)
  have aj:=Nxi (R:=R) (n:=l.length) (hi:=k) (by omega) (by omega)
  have ad:¬l.length-k=0:=by omega
  have aa:AM.storeAt lim (DH QT H R d.toArray++[]) ⟨R,k*3,none⟩ ((List.replicate (l.length-k) TT).flatMap QT)=some (DH QT H R (d.take k++List.replicate (d.length-k) TT).toArray++[]):=by
   have hg:=Nbi (enc:=QT) (X:=[]) (d:=d.toArray) t
   rw [Vd,hg]
   have N:((List.replicate (l.length-k) TT).flatMap QT).length=(l.length-k)*3:=by rw [PS QJ,Om]
   have w:(d.flatMap QT).length=l.length*3:=by rw [PS QJ,dl]
   simp only [N,w]
   rw [Ni ⟨hl,by omega⟩,<-dl,Nmo (by omega)]
   simp only [Nb,DH,List.set_set]
  simp only [n126,Nh5,f0,f1,f5,C,Y,NU,hq,ah,aj,ad,Nwu,aa,SB,seval,NC,NJ,NG,NQ,reduceCtorEq,NB,place,NA,ND]
  have ai:Sl (DH QT H R (d.take k++List.replicate (d.length-k) TT).toArray) QT 3 (Sa R) (Si l):=by
   have h1:=Nr7 (X:=[]) (d:=(d.take k++List.replicate (d.length-k) TT).toArray) (p:=Sa R) rfl t QJ
   rw [Nb] at h1
   have h2:=Sl.pre h1 QJ
   rw [<-A];exact h2
  have:=hQ _ ai ⟨by simp [DH],fun j hj hA=>QK (by simpa using hA)⟩
  rwa [ac] at this
theorem Nmk [OB] {lim:Nat} {H:NE} {Q:Value->NE->Prop}:NL E false lim 126 [Vz,.func (.func 127) #[] #[]] H Q=Q Vz H:=by
 refine NL.eq ?_
 refine R8 (by decide) N93 rfl ?_
 rw [Oag,N4i]
 simp only [n126,Nh5,SB,seval,NC,NJ,NG,NQ,reduceCtorEq,NB,place,NA,ND]
 exact Nb H
theorem Nsb [OB] {lim R:Nat} {H:NE} {Q:Value->NE->Prop}:NL E false lim 123 [.map (some R)] H Q=Q (.func (.func 143) #[] #[Vp H.length]) (H++[Vc [.map (some R)]]):=by
 refine NL.eq ?_
 refine R8 (by decide) Oc9 rfl ?_
 rw [Oed,N73]
 simp only [n123,Occ,SB,seval,NC,NJ,NG,NQ,reduceCtorEq,NB,place,NA,ND]
def UN (S:List Ev) (i:Nat):Ess:=(S.take i).foldl SC []
theorem Nhf {S:List Ev} {i:Nat} (h:i<S.length):UN S (i+1)=SC (UN S i) (gt S i):=by
 unfold UN
 rw [Of h,List.foldl_append,PZ h];rfl
theorem Nex (S:List Ev):∀i,(UN S i).length<=i
 | 0=>Nd _
 | i+1=>by
   rcases Oh i S.length with h | h
   ·rw [Nhf h]
    have:=Nex S i
    unfold SC
    split
    ·rw [Nav];have:=Ndy (k:=U2 (gt S i)) (v:=mkM (gt S i)) (l:=UN S i);omega
    split
    ·rw [Nav];have:=Ndy (k:=U2 (gt S i)) (v:=mkM (gt S i)) (l:=UN S i);omega
    ·omega
   ·have e:UN S (i+1)=UN S i:=by unfold UN;rw [Og h,Og (by omega)]
    rw [e];have:=Nex S i;omega
theorem gather_ok [OB] {lim c:Nat} {p:Option Addr} {S:List Ev} {H:NE} {Q:Value->NE->Prop} (hs:Sl H QL 6 p S) (hS:QW S) (hl:lim<=H.length)
  (hQ:∀G p' c',Sl G QT 3 p' (Ro S)->Ws 3 c' (Ro S).length->Chg [] H G->Q (.slice p' (Ro S).length c') (G++[])) :
  NL Ef false lim 93 [.slice p S.length c] H Q:=by
 have hn:=hS.1
 refine Ngo (by decide) e93 rfl ?_
 rw [b93,c93]
 simp only [n93,r93,SB,seval,NC,NJ,NG,NQ,reduceCtorEq,NB,place,NA,ND]
 refine NR (fun i=>S.length-i) (fun i fr G=>i<=S.length/\fr 3=.map (some H.length)/\fr 12=.slice p S.length c/\fr 13=Vi S.length/\fr 14=Vi i/\NF G H.length=.map (Tm kM vK (UN S i))/\H.length<G.length/\Sl G QL 6 p S/\∀j,j<H.length->NF G j=NF H j) 0
  ⟨Nz _,rfl,rfl,rfl,by rfl,by rw [NV];rfl,by simp,hs.app _,fun j A=>NN A⟩ ?_
 rintro i fr G ⟨hi,n,d,e,m,U,gl,gs,go⟩ J
 rw [NS N5l.eq_1]
 refine NM ?_
 have l:∀X,NF (G++X) H.length=.map (Tm kM vK (UN S i)):=fun X=>by rw [NN gl];exact U
 by_cases g:i<S.length
 ·have q:=fun X=>(gs.app X).loadCells OU g
  have h:=fun c (k:IntKind) (H1:NE)=>gs.idx (c:=c) (k:=k) (H1:=H1) g
  have r:IntKind.i64.wrap ((i:Int)+1)=((i+1:Nat):Int):=OG (by omega)
  have hf:Sb (gt S i):=hS.2 _ (R6 g)
  have Z:=hf
  unfold Sb VE at Z
  have O:=Nhf g
  generalize ag:gt S i=s at *
  have P:IntKind.i64.wrap (Int.tdiv s.seen 1440)=s.seen / 1440:=by
   rw [Ph (by omega)];exact NT (by omega) (by omega)
  have wd:IntKind.i64.wrap (s.seen-s.at')=s.seen-s.at':=NT (by omega) (by omega)
  have o:lim<=G.length:=by omega
  have hk:Us (.ints [.i64,.i64]) (.agg #[Vi s.scanner,Vi (s.seen / 1440)])=true:=N9z (k:=U2 s)
  have f:=YE (vv:=vK) N90 (U2 s) (UN S i) 0
  have L:kM (U2 s)=.agg #[Vi s.scanner,Vi (s.seen / 1440)]:=rfl
  have ae:vK (mkM s)=.agg #[Vi s.scanner,Vi s.at',Vi (s.seen-s.at')]:=rfl
  rw [L] at f
  have b:=Npt (U2 s) (UN S i) 0
  rw [<-N0g] at b
  have fin:∀(es':Ess) (G1:NE) (X:NE),NF G1 H.length=.map (Tm kM vK es')->es'=UN S (i+1)->(∀j,j≠H.length->NF G1 j=NF G j)->G1.length=G.length->
    NF (G1++X) H.length=.map (Tm kM vK (UN S (i+1)))/\H.length<(G1++X).length/\Sl (G1++X) QL 6 p S/\∀j,j<H.length->NF (G1++X) j=NF H j:=by
   intro es' G1 X h1 h2 t l1
   subst h2
   refine ⟨by rw [NN (by omega)];exact h1,by simp;omega, ?_,fun j A=>by rw [NN (by omega),t j (by omega)];exact go j A⟩
   refine (Sl.same gs fun a ha ab=>?_).app _
   subst ha
   have:=hs.lt ab
   exact t _ (by omega)
  have D:∀es':List (Value×Value),∃G1,(∀X:NE,(G++X).set H.length (.map es')=G1++X)/\NF G1 H.length=.map es'/\Mut G G1 H.length:=fun es'=>OP gl _
  cases hc:fk (U2 s) (UN S i) 0 with
  | none=>
    rw [hc] at f b
    simp only [On] at f b
    have N:UN S (i+1)=Xj (U2 s) (mkM s) (UN S i):=by rw [O];unfold SC;rw [<-b]
    obtain ⟨G1,e1,h1,t⟩:=D (Tm kM vK (UN S i)++[(.agg #[Vi s.scanner,Vi (s.seen / 1440)],.agg #[Vi s.scanner,Vi s.at',Vi (s.seen-s.at')])])
    have z:NF G1 H.length=.map (Tm kM vK (Ww (U2 s) (mkM s) (UN S i))):=by
     rw [h1,<-Ni2 (v':=mkM s) hc];simp only [Tm,O1,Oc,List.map_nil];rfl
    simp only [n93,r93,n,d,e,m,NU,g,h,q,o,OU,Vy,Vx,Vw,Vv,Vu,Vt,NI,NH,P,wd,r,l,hk,f,e1,hl,SB,seval,NC,NJ,NG,NQ,reduceCtorEq,NB,place,NA,ND]
    obtain ⟨u,v,w,y⟩:=fin _ G1 _ z (by rw [N,Nav]) t.other t.len
    exact J (i+1) _ _ ⟨by omega,n,d,e,rfl,u,v,w,y⟩ (by omega)
  | some x=>
    obtain ⟨j,old⟩:=x
    rw [hc] at f b
    simp only [Nv] at f b
    have ad:vK old=.agg #[Vi old.scanner,Vi old.at',Vi old.off]:=rfl
    rw [ad] at f
    have B:UN S (i+1)=if SI (mkM s) old then Xj (U2 s) (mkM s) (UN S i) else UN S i:=by rw [O];unfold SC;rw [<-b]
    obtain ⟨G1,e1,h1,t⟩:=D ((Tm kM vK (UN S i)).set j (.agg #[Vi s.scanner,Vi (s.seen / 1440)],.agg #[Vi s.scanner,Vi s.at',Vi (s.seen-s.at')]))
    have z:NF G1 H.length=.map (Tm kM vK (Ww (U2 s) (mkM s) (UN S i))):=by
     rw [h1,<-(Ni1 (v':=mkM s) hc).2.2];simp only [Tm,List.map_set,Nat.sub_zero];rfl
    by_cases F:s.seen-s.at'<old.off
    ·simp only [n93,r93,n,d,e,m,NU,g,h,q,o,OU,Vy,Vx,Vw,Vv,Vu,Vt,NI,NH,P,wd,r,l,hk,f,e1,hl,N7 F,SB,seval,NC,NJ,NG,NQ,reduceCtorEq,NB,place,NA,ND]
     obtain ⟨u,v,w,y⟩:=fin _ G1 _ z (by rw [B,Ni (.inl F),Nav]) t.other t.len
     exact J (i+1) _ _ ⟨by omega,n,d,e,rfl,u,v,w,y⟩ (by omega)
    by_cases T:s.seen-s.at'=old.off
    ·by_cases V:s.at'<old.at'
     ·simp only [n93,r93,n,d,e,m,NU,g,h,q,o,OU,Vy,Vx,Vw,Vv,Vu,Vt,NI,NH,P,wd,r,l,hk,f,e1,hl,Nr F,N7 T,N7 V,SB,seval,NC,NJ,NG,NQ,reduceCtorEq,NB,place,NA,ND]
      obtain ⟨u,v,w,y⟩:=fin _ G1 _ z (by rw [B,Ni (.inr ⟨T,V⟩),Nav]) t.other t.len
      exact J (i+1) _ _ ⟨by omega,n,d,e,rfl,u,v,w,y⟩ (by omega)
     ·simp only [n93,r93,n,d,e,m,NU,g,h,q,o,OU,Vy,Vx,Vw,Vv,Vu,Vt,NI,NH,P,wd,r,l,hk,f,e1,hl,Nr F,N7 T,Nr V,SB,seval,NC,NJ,NG,NQ,reduceCtorEq,NB,place,NA,ND]
      obtain ⟨u,v,w,y⟩:=fin _ G _ U (by rw [B,Nh (by unfold SI mkM;simp only;omega)]) (fun _ _=>rfl) rfl
      exact J (i+1) _ _ ⟨by omega,n,d,e,rfl,u,v,w,y⟩ (by omega)
    ·simp only [n93,r93,n,d,e,m,NU,g,h,q,o,OU,Vy,Vx,Vw,Vv,Vu,Vt,NI,NH,P,wd,r,l,hk,f,e1,hl,Nr F,Nr T,SB,seval,NC,NJ,NG,NQ,reduceCtorEq,NB,place,NA,ND]
     obtain ⟨u,v,w,y⟩:=fin _ G _ U (by rw [B,Nh (by unfold SI mkM;simp only;omega)]) (fun _ _=>rfl) rfl
     exact J (i+1) _ _ ⟨by omega,n,d,e,rfl,u,v,w,y⟩ (by omega)
 ·obtain rfl:i=S.length:=by omega
  have K:UN S S.length=UL S:=by unfold UN UL;rw [Oo]
  rw [K] at U l
  have hv:=fun (X:NE) (Q:Value->NE->Prop)=>NL.eqF' (Q:=Q) (show NL E false lim 123 [.map (some H.length)] (G++X) (fun v' H1=>v'=_/\H1=_) by rw [Nsb];exact ⟨rfl,rfl⟩)
  simp only [n93,r93,n,d,e,m,NU,g,hv,SB,seval,NC,NJ,NG,NQ,reduceCtorEq,NB,place,NA,ND]
  have aa:=Nex S S.length
  rw [K] at aa
  refine Nso (es:=UL S) (R:=H.length) (by simp;omega) (by rw [NV];rfl) (l _) (by omega) fun G1 p1 F hO hC=>?_
  have hL:(UE SS ((UL S).map (·.2))).length=(UL S).length:=by rw [(Tu SS _).length_eq,Nu]
  have C:∀j,j<H.length->NF G1 j=NF H j:=fun j A=>by
   rw [hC.other j (by simp;omega) (by simp),NN (by omega)];exact go j A
  have M:=hC.len
  simp only [Nm,Nl,Ns] at M
  rcases hO with ⟨h0,rfl,rfl⟩ | ⟨R,rfl,rfl,hR,W⟩
  ·have hg:Ro S=[]:=by unfold Ro;rw [h0];rfl
   have hz:(UL S).length=0:=by rw [<-hL,h0];rfl
   rw [hz]
   have Y:=fun X (Q:Value->NE->Prop)=>NL.eqF (Q:=Q) (show NL E false lim 126 [Vz,.func (.func 127) #[] #[]] (G1++X) (fun v' H1=>v'=Vz/\H1=G1++X) by rw [Nmk];exact ⟨rfl,rfl⟩)
   simp only [n93,r93,Y,SB,seval,NC,NJ,NG,NQ,reduceCtorEq,NB,place,NA,ND]
   have:=hQ G1 none 0 (by rw [hg];rfl) (by rw [hg];exact .inr ⟨Nd _,by decide⟩) ⟨by omega,fun j A _=>C j A⟩
   rw [hg] at this
   exact this
  ·rw [<-hL]
   simp only [n93,r93,SB,seval,NC,NJ,NG,NQ,reduceCtorEq,NB,place,NA,ND]
   simp only [Nm,Nl,Ns] at W
   refine NL.weak (E':=E) ?_
   rw [Nb]
   refine Np9 hR (by omega) (by omega) fun G2 ac I=>?_
   refine NM ?_
   simp only [n93,r93,SB,seval,NC,NJ,NG,NQ,reduceCtorEq,NB,place,NA,ND]
   refine hQ G2 _ _ ac (.inl rfl) ⟨by have:=I.len;omega,fun j A _=>?_⟩
   rw [I.other j (by omega) (by simp;omega)]
   exact C j A
theorem Nae {α:Type} {lim R e bytes cap k b:Nat} {dest:Option Nat} {H:NE} {enc:α->List Value} {old:List α} {x:α} {ro:Bool} {rest:List Value} (he:∀x,(enc x).length=e) (h:e≠0) (j:NF H b=.cells ro (enc x)) (a:NF H R=Vc (old.flatMap enc++rest)) (hl:lim<=R)
  (hc:old.length+1<=cap) (hr:rest.length=(cap-old.length)*e) (f:cap<2 ^ 61) (m:(old.length+1)*bytes<=PN) :
  OT lim dest e bytes false (.slice (Sa R) old.length cap) (.slice (Sa b) 1 k) H=some (.slice (Sa R) (old.length+1) cap,H.set R (Vc ((old++[x]).flatMap enc++rest.drop e))):=by
 have g:=NK a
 have d:AM.loadCells H ⟨b,0,none⟩ (1*e)=some (enc x):=by
  rw [PU,j]
  simp only [N0,Ov,Nat.one_mul]
  rw [Ni (by rw [he];exact Nd _),<-he x,Oo]
 have i:e<=rest.length:=by rw [hr];exact Nat.le_mul_of_pos_left e (by omega)
 have l:AM.loadCells H ⟨R,0,none⟩ (old.length*e)=some (old.flatMap enc):=by
  rw [PU,a]
  simp only [N0,Ov]
  rw [Ni (by rw [Nm,PS he];omega),<-PS he,List.take_left]
 have c:AM.storeAt lim H (Addr.add ⟨R,0,none⟩ (old.length*e)) (enc x)=some (H.set R (Vc ((old++[x]).flatMap enc++rest.drop e))):=by
  simp only [addr_add,Vd,a,N0]
  rw [Ni ⟨hl,by rw [Nm,PS he,he];omega⟩]
  have:=Ndp (enc x) (old.flatMap enc) (rest.take e) (rest.drop e) (by rw [he,Oy];omega)
  rw [Nn,Qc,PS he] at this
  rw [this,P8,Ow,List.flatMap_nil,Nb]
 simp only [OT,firstCells,lenOf,d,l,c,if_false,Nx,Nat.one_ne_zero]
 rw [Nh (by omega),Nh (by unfold loose;omega),Ni (by omega),Ni (by omega)]
def Nmf (M:List Mk) (S:List Ev):List Ev:=S.map fun s=>{ s with time:=V4 M s }
theorem Xr {M:List Mk} {S:List Ev}:(Nmf M S).length=S.length:=Nu ..
theorem N33 {M:List Mk} {S:List Ev} {i:Nat} (h:i<S.length):gt (Nmf M S) i={ gt S i with time:=V4 M (gt S i) }:=by
 rw [PZ (by rw [Xr];exact h),PZ h]
 unfold Nmf
 rw [Pu]
structure ESt (H:NE) (M:List Mk) (S:List Ev) (p pm:Option Addr) (B i:Nat) (G:NE):Prop where
 row:∃rest,rest.length=(S.length-i)*7/\NF G B=Vc (((Nmf M S).take i).flatMap encE++rest)
 sm:Sl G QT 3 pm M
 ss:Sl G QL 6 p S
 old:∀j,j<H.length->NF G j=NF H j
 len:B<G.length
end Go.Proofs.YtkppjkkkdpcgiaaGreat.Fn


