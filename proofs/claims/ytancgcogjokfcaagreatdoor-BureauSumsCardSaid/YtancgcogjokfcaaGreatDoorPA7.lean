/-
  Joined texts, 7 of 8. A part of the claim that the last text states.
-/
import Derived.Test.YtancgcogjokfcaaGreatDoorPA6
set_option linter.unusedVariables false
set_option linter.unusedSimpArgs false
set_option linter.defProp false
set_option linter.unusedSectionVars false
set_option maxRecDepth 100000
set_option maxHeartbeats 4000000
namespace Go.Proofs.YtancgcogjokfcaaGreatDoor.Fn
open Go.AM Go.AM.Sym
structure Lies (lim:Nat) (H:NB) (J D S area e lf n sc:Nat) (pp:Option Addr) (cp:Nat) (safe:List Rh) (pend:List Wr):Prop where
 jl:JLies lim H J D area e lf n safe.length sc (Sa S) pp cp pend
 s:NF H S=Vc (safe.flatMap Sr)
 lS:lim<=S
 SD:S≠D
 SJ:S≠J
 ps:∀a,pp=some a->a.block≠S
 ne:safe≠[]
theorem Nyr {a b:Nat}:R6 true (Vi 0) [Vi ((a:Int)-(b:Int))]=some (Vi ((a-b:Nat):Int)):=by
 simp only [R6,VB,if_true]
 congr 2
 split<;>omega
theorem Nqn (n:Nat):OU n<=n+1:=by unfold OU;omega
theorem Nuj [OA] {mp:Bool} {lim l2 J D S area e lf n sc cp:Nat} {pp:Option Addr} {safe:List Rh} {pend:List Wr} {H:NB} {Q:Value->NB->Prop} (h:Lies l2 H J D S area e lf n sc pp cp safe pend) (hn:safe.length<2 ^ 30) (f:n<2 ^ 30) :
  NQ E mp lim 82 [Vp J] H Q=Q (Vi ((safe.length / 2-n:Nat):Int)) H:=by
 refine pc (by decide) e82 rfl rfl ?_
 rw [b82,c82]
 have a:=fun X=>(QP.refl.app (X:=X)).cells h.jl.j
 have b:=fun X=>(QP.refl.app (X:=X)).cells h.jl.d
 have c:=fun X (mp:Bool) (lim:Nat) (Q:Value->NB->Prop)=>Wh (mp:=mp) (lim:=lim) (Q:=Q) (a X)
 have g:=fun X (mp:Bool) (lim:Nat) (Q:Value->NB->Prop)=>Nd0 (mp:=mp) (lim:=lim) (Q:=Q) (b X) (by omega)
 have i:IntKind.i64.wrap (((safe.length / 2:Nat):Int)-(n:Int))=((safe.length / 2:Nat):Int)-(n:Int):=QJ (by omega) (by omega)
 simp only [n82,r82,c,g,a,i,Nyr,SB,Nat.reduceLT,NC,NH,Nat.reduceEqDiff,NG,NT,reduceCtorEq,ND,place,NA,Nat.reduceAdd,Nat.reduceLeDiff,NE,Int.reduceEq,Int.reduceLT,Int.reduceLE]
theorem Nop [OA] {lim J D S area e lf n sc cp:Nat} {pp:Option Addr} {safe:List Rh} {pend:List Wr} {H:NB} {Q:Value->NB->Prop} (h:Lies lim H J D S area e lf n sc pp cp safe pend) (hn:safe.length<2 ^ 30) (l:pend.length<2 ^ 30)
  (i:∀H',Chg [S,D] H H'->Lies lim H' J D S area e lf n sc none 0 (QS [] pend safe) []->Q (Vi 0) H') :
  NQ E false lim 66 [Vp J] H Q:=by
 refine runs (by decide) e66 rfl ?_
 rw [b66,c66]
 have b:=fun X=>(QP.refl.app (X:=X)).cells h.jl.j
 have k:=fun X (mp:Bool) (lim:Nat) (Q:Value->NB->Prop)=>Wh (mp:=mp) (lim:=lim) (Q:=Q) (b X)
 simp only [n66,r66,k,b,SB,Nat.reduceLT,NC,NH,Nat.reduceEqDiff,NG,NT,reduceCtorEq,ND,place,NA,Nat.reduceAdd,Nat.reduceLeDiff,NE,Int.reduceEq,Int.reduceLT,Int.reduceLE]
 rw [Nb]
 refine Nkz h.jl.d h.jl.lD (fun _=>⟨rfl,h.s,h.lS⟩) h.SD (h.jl.own.sl Rz) (fun a e _=>⟨h.ps a e,(h.jl.ap a e).2⟩) (by omega) (by omega) fun H' g c f=>?_
 refine NI ?_
 simp only [n66,r66,SB,Nat.reduceLT,NC,NH,Nat.reduceEqDiff,NG,NT,reduceCtorEq,ND,place,NA,Nat.reduceAdd,Nat.reduceLeDiff,NE,Int.reduceEq,Int.reduceLT,Int.reduceLE]
 have hl:(QS [] pend safe).length=safe.length:=Re
 rw [Nb]
 refine i H' g ⟨⟨g.cells h.jl.j (by simp [h.SJ.symm,h.jl.JD]),by rw [hl];exact c,Own.nil,h.jl.lJ,h.jl.lD,h.jl.JD,by intro a e;cases e⟩,f h.ne,h.lS,h.SD,h.SJ,(by intro a e;cases e),fun e=>h.ne (by rw [<-List.length_eq_zero_iff,<-hl,e];rfl)⟩
theorem Chg.lies {lim J D S area e lf n sc cp:Nat} {pp:Option Addr} {safe:List Rh} {pend:List Wr} {H H':NB} {L:List Nat} (h:Lies lim H J D S area e lf n sc pp cp safe pend) (hc:Chg L H H') (c:∀j∈L,j≠J/\j≠D/\j≠S/\∀a,pp=some a->a.block≠j):Lies lim H' J D S area e lf n sc pp cp safe pend:=by
 have b:∀j,(j=J\/j=D\/j=S)->j∉L:=fun j h1 h2=>by have:=c j h2;omega
 exact ⟨⟨hc.cells h.jl.j (b _ (by omega)),hc.cells h.jl.d (b _ (by omega)),h.jl.own.chg hc fun a e f=>(c _ f).2.2.2 a e rfl,h.jl.lJ,h.jl.lD,h.jl.JD,h.jl.ap⟩,hc.cells h.s (b _ (by omega)),h.lS,h.SD,h.SJ,h.ps,h.ne⟩
theorem Nct [OA] {lim J D S area e lf n sc cp c:Nat} {pp p:Option Addr} {safe:List Rh} {pend:List Wr} {b:List UInt8} {H:NB} {Q:Value->NB->Prop} (h:Lies lim H J D S area e lf n sc pp cp safe pend) (t:Sl H Uf 1 p b) (hc:Us 1 c b.length) (u:b=[]->p=none) (hp:∀a,p=some a->b≠[]->a.block≠J/\a.block≠D/\a.block∉blk pp) (hb:b.length<2 ^ 20) (hn:safe.length<2 ^ 30) (m:pend.length<2 ^ 30) (l:n<2 ^ 30) (j:area<=1)
  (q:∀H' d f,Chg (J::D::blk pp) H H'->(∀a,d=some a->a.block∉blk pp->H.length<=a.block)->Lies lim H' J D S area e lf (n+OU b.length) sc d f safe (pend++Rx (area*(safe.length / 2)) e lf n (W9 b))->Q (.tuple #[]) (H'++[])) :
  NQ E false lim 78 [Vp J,.slice p b.length c] H Q:=by
 refine Noy h.jl t hc u hp hb m l hn j fun H' d f k1 k2 k3=>q H' d f k1 k3 ?_
 rw [Td] at k2
 have i:S∉blk pp:=fun k=>by
  cases pp with
  | none=>simp [blk] at k
  | some a=>simp only [blk,Ng] at k;exact h.ps a rfl k.symm
 have r:S<H.length:=NJ h.s
 refine ⟨k2,k1.cells h.s (by simp only [Ni,not_or];exact ⟨h.SJ,h.SD,i⟩),h.lS,h.SD,h.SJ,fun a o=>?_,h.ne⟩
 by_cases g:a.block∈blk pp
 ·intro e1;rw [e1] at g;exact i g
 ·have:=k3 a o g;omega
theorem Nos [OA] {lim J D S area e lf n sc cp c:Nat} {pp p:Option Addr} {safe:List Rh} {pend:List Wr} {b:List UInt8} {H:NB} {Q:Value->NB->Prop} (h:Lies lim H J D S area e lf n sc pp cp safe pend) (x:Sl H Uf 1 p b) (hc:Us 1 c b.length) (y:b=[]->p=none) (hp:∀a,p=some a->b≠[]->a.block≠J/\a.block≠D/\a.block∉blk pp) (hb:b.length<=4000) (hn:safe.length<2 ^ 30) (s:pend.length<2 ^ 30) (m:n<2 ^ 30) (r:area<=1)
  (v:safe.length / 2-n<OU b.length->Q (Vi 4) H)
  (w:∀H' d f,OU b.length<=safe.length / 2-n->Chg (J::D::blk pp) H H'->(∀a,d=some a->a.block∉blk pp->H.length<=a.block)->Lies lim H' J D S area e lf (n+OU b.length) sc d f safe (pend++Rx (area*(safe.length / 2)) e lf n (W9 b))->Q (Vi 0) H') :
  NQ E false lim 36 [Vp J,.slice p b.length c] H Q:=by
 refine runs (by decide) e36 rfl ?_
 rw [b36,c36]
 have g:=fun X=>(QP.refl.app (X:=X)).cells h.jl.j
 have u:=fun X (mp:Bool) (lim:Nat) (Q:Value->NB->Prop)=>Wh (mp:=mp) (lim:=lim) (Q:=Q) (g X)
 have l:=fun X (mp:Bool) (lim:Nat) (Q:Value->NB->Prop)=>Nth (mp:=mp) (lim:=lim) (Q:=Q) (H:=H++X) (p:=p) (k:=c) (n:=b.length) (by omega)
 have q:=fun X=>Chg.lies h (Chg.refl.app (X:=X):Chg [] H (H++X)) (by simp)
 have o:=fun X (mp:Bool) (l2:Nat) (Q:Value->NB->Prop)=>Nuj (mp:=mp) (lim:=l2) (Q:=Q) (q X) hn m
 have t:¬(4000:Int)<(b.length:Int):=by omega
 by_cases hr:safe.length / 2-n<OU b.length
 ·have i:(((safe.length / 2-n:Nat):Int)<(OU b.length:Int)):=by omega
  simp only [n36,r36,u,g,t,l,o,i,SB,Nat.reduceLT,NC,NH,Nat.reduceEqDiff,NG,NT,reduceCtorEq,ND,place,NA,Nat.reduceAdd,Nat.reduceLeDiff,NE,Int.reduceEq,Int.reduceLT,Int.reduceLE]
  rw [Nb]
  exact v hr
 ·have i:¬(((safe.length / 2-n:Nat):Int)<(OU b.length:Int)):=by omega
  simp only [n36,r36,u,g,t,l,o,i,SB,Nat.reduceLT,NC,NH,Nat.reduceEqDiff,NG,NT,reduceCtorEq,ND,place,NA,Nat.reduceAdd,Nat.reduceLeDiff,NE,Int.reduceEq,Int.reduceLT,Int.reduceLE]
  rw [Nb]
  refine Nct h x hc y hp (by omega) hn s m r fun H' d f k1 k2 k3=>?_
  simp only [n36,r36,SB,Nat.reduceLT,NC,NH,Nat.reduceEqDiff,NG,NT,reduceCtorEq,ND,place,NA,Nat.reduceAdd,Nat.reduceLeDiff,NE,Int.reduceEq,Int.reduceLT,Int.reduceLE]
  rw [Nb]
  exact w H' d f (by omega) k1 k2 k3
def TN (pend:List Wr) (safe:List Rh) (area:Nat):List Rh:=((XG pend safe).drop (area*(safe.length / 2))).take (safe.length / 2)
theorem Nlm {pend:List Wr} {safe:List Rh}:(XG pend safe).length=safe.length:=by unfold XG;exact Re
theorem X0 {pend:List Wr} {safe:List Rh} {area:Nat} (h:area<=1):(TN pend safe area).length=safe.length / 2:=by
 unfold TN
 rw [N2,Ov,Nlm]
 rcases (show area=0\/area=1 by omega) with rfl | rfl<;>omega
theorem Nkw {pend:List Wr} {safe:List Rh}:TN pend safe 0=(XG pend safe).take (safe.length / 2):=by simp [TN]
theorem Nkv {pend:List Wr} {safe:List Rh}:TN pend safe 1=((XG pend safe).drop (safe.length / 2)).take (safe.length / 2):=by simp [TN]
theorem Nka [OA] {lim J D S area e lf n sc cp l2:Nat} {pp:Option Addr} {safe:List Rh} {pend:List Wr} {H:NB} {Q:Value->NB->Prop} (h:Lies l2 H J D S area e lf n sc pp cp safe pend) (hn:safe.length<2 ^ 20) (o:pend.length<2 ^ 30) (g:area<=1) (hl:lim<=H.length)
  (l:∀G h0 q cq ds,Chg [] H G->H.length<=h0->RowsAt h0 G q cq ds (recs (TN pend safe area)).1->Q (.slice q (recs (TN pend safe area)).1.length cq) G) :
  NQ E false lim 68 [Vp J] H Q:=by
 refine runs (by decide) e68 rfl ?_
 rw [b68,c68]
 have f:=fun X=>(QP.refl.app (X:=X)).cells h.jl.j
 have m:=fun X (mp:Bool) (lim:Nat) (Q:Value->NB->Prop)=>Wh (mp:=mp) (lim:=lim) (Q:=Q) (f X)
 simp only [n68,r68,m,f,SB,Nat.reduceLT,NC,NH,Nat.reduceEqDiff,NG,NT,reduceCtorEq,ND,place,NA,Nat.reduceAdd,Nat.reduceLeDiff,NE,Int.reduceEq,Int.reduceLT,Int.reduceLE]
 rw [Nb]
 have hS:Sl H Sr 32 (Sa S) safe:=Sl.row RS h.s
 refine Nhh h.jl.d hS h.ne (h.jl.own.sl Rz) (by omega) (by omega) (by omega) fun H' p c q c' i h0 h1=>?_
 rw [<-Nkw] at h0
 rw [<-Nkv] at h1
 have a:=i.len
 refine NI ?_
 have b:=fun X=>(QP.refl.app (X:=X)).cells (i.cells h.jl.j (by simp))
 have key:∀(p:Option Addr) (c:Nat) (k:Value->NB->Prop),Sl H' Sr 32 p (TN pend safe area)->(∀G q cq ds,Chg [] H' G->RowsAt H'.length G q cq ds (recs (TN pend safe area)).1->k (.tuple #[.slice q (recs (TN pend safe area)).1.length cq,Vi (QB (TN pend safe area):Int),Vi ((recs (TN pend safe area)).2:Int)]) G)->NQ E false lim 76 [.slice p (safe.length / 2) c] H' k:=fun p c k t r=>XZ t (X0 g).symm (by rw [X0 g];omega) (by omega) r
 rcases (show area=0\/area=1 by omega) with rfl | rfl
 ·simp only [n68,r68,b,N6,Qg,Int.toNat_one,N8,Ou,Oq,SB,Nat.reduceLT,NC,NH,Nat.reduceEqDiff,NG,NT,reduceCtorEq,ND,place,NA,Nat.reduceAdd,Nat.reduceLeDiff,NE,Int.reduceEq,Int.reduceLT,Int.reduceLE]
  rw [Nb]
  refine key p c _ h0 fun G q cq ds k1 k2=>?_
  refine NI ?_
  simp only [n68,r68,SB,Nat.reduceLT,NC,NH,Nat.reduceEqDiff,NG,NT,reduceCtorEq,ND,place,NA,Nat.reduceAdd,Nat.reduceLeDiff,NE,Int.reduceEq,Int.reduceLT,Int.reduceLE]
  rw [Nb]
  exact l G _ q cq ds (i.trans' k1 fun j h _=>by simp at h) a k2
 ·simp only [n68,r68,b,N6,Qg,Int.toNat_one,N8,Ou,Oq,SB,Nat.reduceLT,NC,NH,Nat.reduceEqDiff,NG,NT,reduceCtorEq,ND,place,NA,Nat.reduceAdd,Nat.reduceLeDiff,NE,Int.reduceEq,Int.reduceLT,Int.reduceLE]
  rw [Nb]
  refine key q c' _ h1 fun G q cq ds k1 k2=>?_
  refine NI ?_
  simp only [n68,r68,SB,Nat.reduceLT,NC,NH,Nat.reduceEqDiff,NG,NT,reduceCtorEq,ND,place,NA,Nat.reduceAdd,Nat.reduceLeDiff,NE,Int.reduceEq,Int.reduceLT,Int.reduceLE]
  rw [Nb]
  exact l G _ q cq ds (i.trans' k1 fun j h _=>by simp at h) a k2
abbrev OpS:=Bool×Nat×Nat×Nat
def Ui (a:List Rh) (x:OpS):Bool:=decide (0<(recs a).1.length)&&(!x.1||decide (x.2.2.1<QB a))
def QZ (i:Nat) (a:List Rh) (x:OpS):OpS:=if Ui a x then (true,i,QB a,(recs a).2) else x
def XK (D life:Nat) (x:OpS):List Value:=[Vp D,Vi x.2.1,Vi x.2.2.1,Vi life,Vi x.2.2.2]
theorem Ntu [OA] {lim J D life c c':Nat} {p q:Option Addr} {A B:List Rh} {fr:Nat->Value} {G:NB} {K:List AItem} {R:Value->NB->Prop} (hA:Sl G Sr 32 p A) (hB:Sl G Sr 32 q B) (nA:A.length<2 ^ 20) (nB:B.length<2 ^ 20) (pJ:∀a,p=some a->a.block≠J) (qJ:∀a,q=some a->a.block≠J) (hJ:NF G J=Vc (XK D life (false,0,0,0))) (lJ:lim<=J) (f7:fr 7=Vp J) (f8:fr 8=.bool false) (Y:fr 36=.agg #[.slice p A.length c,.slice q B.length c']) (Z:fr 37=Vi 0)
  (hR:∀fr' G',Chg [J] G G'->NF G' J=Vc (XK D life (QZ 1 B (QZ 0 A (false,0,0,0))))->fr' 8=.bool (QZ 1 B (QZ 0 A (false,0,0,0))).1->fr' 7=fr 7->fr' 0=fr 0->fr' 5=fr 5->QW E a33 lim K fr' (G'++[]) R) :
  QW E a33 lim (.code (.loop Nqy)::.inBlock 0::K) fr G R:=by
 have ab:=NJ hJ
 refine QD (fun s:Nat×OpS=>2-s.1) (fun s fr' G'=>s.1<=2/\Chg [J] G G'/\NF G' J=Vc (XK D life s.2)/\fr' 8=.bool s.2.1/\fr' 7=Vp J/\fr' 36=.agg #[.slice p A.length c,.slice q B.length c']/\fr' 37=Vi s.1/\fr' 0=fr 0/\fr' 5=fr 5/\(s.1=0->s.2=(false,0,0,0))/\(s.1=1->s.2=QZ 0 A (false,0,0,0))/\(s.1=2->s.2=QZ 1 B (QZ 0 A (false,0,0,0)))) (0,(false,0,0,0))
  ⟨N7 _,Chg.refl,hJ,f8,f7,Y,Z,rfl,rfl,fun _=>rfl,fun h=>by simp at h,fun h=>by simp at h⟩ ?_
 rintro ⟨i,x⟩ fr' G' ⟨hi,N,I,n,m,d,k,F,H,h0,h1,h2⟩ L
 simp only at hi I n k h0 h1 h2
 rw [QG Nqy.eq_1]
 refine NI ?_
 have z:IntKind.i64.wrap ((0:Int)+1)=1:=by decide
 have C:IntKind.i64.wrap ((1:Int)+1)=2:=by decide
 have hl:=N.len
 rcases (show i=0\/i=1\/i=2 by omega) with rfl | rfl | rfl
 ·simp only [n33,r33,n,m,d,k,N6,Qg,Int.toNat_one,N8,Ou,Oq,z,C,SB,Nat.reduceLT,NC,NH,Nat.reduceEqDiff,NG,NT,reduceCtorEq,ND,place,NA,Nat.reduceAdd,Nat.reduceLeDiff,NE,Int.reduceEq,Int.reduceLT,Int.reduceLE]
  rw [Nb]
  refine XZ (N.sl hA fun a W _=>by simpa using pJ a W) rfl (by omega) (by omega) fun O q2 cq ds k1 k2=>?_
  refine NI ?_
  have l:=fun X=>(QP.refl.app (X:=X)).cells (k1.cells I (by simp))
  simp only [XK] at l
  have o:Chg [J] G O:=N.trans' k1 fun j h _=>by simp at h
  cases ht:Ui A x with
  | true=>
    have e:QZ 0 A x=(true,0,QB A,(recs A).2):=by unfold QZ;rw [ht];rfl
    have aa:=k1.len
    obtain ⟨G3,T,Q,m3⟩:=RN (G:=O) (R:=J) (by omega) (Vc [Vp D,Vi 0,Vi x.2.2.1,Vi life,Vi x.2.2.2])
    obtain ⟨G4,U,S,m4⟩:=RN (NJ Q) (Vc [Vp D,Vi 0,Vi (QB A:Int),Vi life,Vi x.2.2.2])
    obtain ⟨P,V,M,m5⟩:=RN (NJ S) (Vc [Vp D,Vi 0,Vi (QB A:Int),Vi life,Vi ((recs A).2:Int)])
    have t:=fun X=>(QP.refl.app (X:=X)).cells Q
    have u:=fun X=>(QP.refl.app (X:=X)).cells S
    have v:Chg [J] G (P++[]):=(((o.mut m3 (.inl (by simp))).mut m4 (.inl (by simp))).mut m5 (.inl (by simp))).app
    have w:NF (P++[]) J=Vc (XK D life (QZ 0 A x)):=by rw [e,Nb];exact M
    have g:=ht
    have b:(0:Int)<((recs A).1.length:Int):=by
     simp only [Ui,Nq,Nx] at g;omega
    cases f:x.1 with
    | false=>
      simp only [n33,r33,n,m,d,k,l,b,f,lJ,T,U,V,t,u,z,C,SB,Nat.reduceLT,NC,NH,Nat.reduceEqDiff,NG,NT,reduceCtorEq,ND,place,NA,Nat.reduceAdd,Nat.reduceLeDiff,NE,Int.reduceEq,Int.reduceLT,Int.reduceLE]
      exact L (1,QZ 0 A x) _ _ ⟨by show 1<=2;omega,v,w,by rw [e];exact (by simp only [FB,Nat.reduceEqDiff]),(by simp only [m,FB,Nat.reduceEqDiff]),(by simp only [d,FB,Nat.reduceEqDiff]),(by simp only [N6,FB,Nat.reduceEqDiff]),by rw [<-F];exact (by simp only [FB,Nat.reduceEqDiff]),by rw [<-H];exact (by simp only [FB,Nat.reduceEqDiff]),by simp,fun _=>by rw [h0 rfl],by simp⟩ (by show 2-1<2-0;omega)
    | true=>
      have r:(x.2.2.1:Int)<(QB A:Int):=by
       simp only [Ui,f,O1,Bool.false_or,Nq,Nx] at g;omega
      simp only [n33,r33,n,m,d,k,l,b,f,r,lJ,T,U,V,t,u,z,C,SB,Nat.reduceLT,NC,NH,Nat.reduceEqDiff,NG,NT,reduceCtorEq,ND,place,NA,Nat.reduceAdd,Nat.reduceLeDiff,NE,Int.reduceEq,Int.reduceLT,Int.reduceLE]
      exact L (1,QZ 0 A x) _ _ ⟨by show 1<=2;omega,v,w,by rw [e];exact (by simp only [FB,Nat.reduceEqDiff]),(by simp only [m,FB,Nat.reduceEqDiff]),(by simp only [d,FB,Nat.reduceEqDiff]),(by simp only [N6,FB,Nat.reduceEqDiff]),by rw [<-F];exact (by simp only [FB,Nat.reduceEqDiff]),by rw [<-H];exact (by simp only [FB,Nat.reduceEqDiff]),by simp,fun _=>by rw [h0 rfl],by simp⟩ (by show 2-1<2-0;omega)
  | false=>
    have e:QZ 0 A x=x:=by unfold QZ;rw [ht];rfl
    have g:=ht
    by_cases y:0<(recs A).1.length
    ·have b:(0:Int)<((recs A).1.length:Int):=by omega
     have f:x.1=true:=by
      simp only [Ui,Of y,Bool.true_and,Bool.or_eq_false_iff,Bool.not_eq_false'] at g;exact g.1
     have r:¬(x.2.2.1:Int)<(QB A:Int):=by
      simp only [Ui,Of y,Bool.true_and,Bool.or_eq_false_iff,Bool.not_eq_false',decide_eq_false_iff_not] at g;omega
     simp only [n33,r33,n,m,d,k,l,b,f,r,z,C,SB,Nat.reduceLT,NC,NH,Nat.reduceEqDiff,NG,NT,reduceCtorEq,ND,place,NA,Nat.reduceAdd,Nat.reduceLeDiff,NE,Int.reduceEq,Int.reduceLT,Int.reduceLE]
     exact L (1,QZ 0 A x) _ _ ⟨by show 1<=2;omega,(by rw [Nb];exact o),(by rw [e,Nb];exact k1.cells I (by simp)),by rw [e,f];exact (by simp only [n,f,FB,Nat.reduceEqDiff]),(by simp only [m,FB,Nat.reduceEqDiff]),(by simp only [d,FB,Nat.reduceEqDiff]),(by simp only [N6,FB,Nat.reduceEqDiff]),by rw [<-F];exact (by simp only [FB,Nat.reduceEqDiff]),by rw [<-H];exact (by simp only [FB,Nat.reduceEqDiff]),by simp,fun _=>by rw [h0 rfl],by simp⟩ (by show 2-1<2-0;omega)
    ·have b:¬(0:Int)<((recs A).1.length:Int):=by omega
     simp only [n33,r33,n,m,d,k,l,b,z,C,SB,Nat.reduceLT,NC,NH,Nat.reduceEqDiff,NG,NT,reduceCtorEq,ND,place,NA,Nat.reduceAdd,Nat.reduceLeDiff,NE,Int.reduceEq,Int.reduceLT,Int.reduceLE]
     exact L (1,QZ 0 A x) _ _ ⟨by show 1<=2;omega,(by rw [Nb];exact o),(by rw [e,Nb];exact k1.cells I (by simp)),by rw [e];exact (by simp only [n,FB,Nat.reduceEqDiff]),(by simp only [m,FB,Nat.reduceEqDiff]),(by simp only [d,FB,Nat.reduceEqDiff]),(by simp only [N6,FB,Nat.reduceEqDiff]),by rw [<-F];exact (by simp only [FB,Nat.reduceEqDiff]),by rw [<-H];exact (by simp only [FB,Nat.reduceEqDiff]),by simp,fun _=>by rw [h0 rfl],by simp⟩ (by show 2-1<2-0;omega)
 ·simp only [n33,r33,n,m,d,k,N6,Qg,Int.toNat_one,N8,Ou,Oq,z,C,SB,Nat.reduceLT,NC,NH,Nat.reduceEqDiff,NG,NT,reduceCtorEq,ND,place,NA,Nat.reduceAdd,Nat.reduceLeDiff,NE,Int.reduceEq,Int.reduceLT,Int.reduceLE]
  rw [Nb]
  refine XZ (N.sl hB fun a W _=>by simpa using qJ a W) rfl (by omega) (by omega) fun O q2 cq ds k1 k2=>?_
  refine NI ?_
  have l:=fun X=>(QP.refl.app (X:=X)).cells (k1.cells I (by simp))
  simp only [XK] at l
  have o:Chg [J] G O:=N.trans' k1 fun j h _=>by simp at h
  cases ht:Ui B x with
  | true=>
    have e:QZ 1 B x=(true,1,QB B,(recs B).2):=by unfold QZ;rw [ht];rfl
    have aa:=k1.len
    obtain ⟨G3,T,Q,m3⟩:=RN (G:=O) (R:=J) (by omega) (Vc [Vp D,Vi 1,Vi x.2.2.1,Vi life,Vi x.2.2.2])
    obtain ⟨G4,U,S,m4⟩:=RN (NJ Q) (Vc [Vp D,Vi 1,Vi (QB B:Int),Vi life,Vi x.2.2.2])
    obtain ⟨P,V,M,m5⟩:=RN (NJ S) (Vc [Vp D,Vi 1,Vi (QB B:Int),Vi life,Vi ((recs B).2:Int)])
    have t:=fun X=>(QP.refl.app (X:=X)).cells Q
    have u:=fun X=>(QP.refl.app (X:=X)).cells S
    have v:Chg [J] G (P++[]):=(((o.mut m3 (.inl (by simp))).mut m4 (.inl (by simp))).mut m5 (.inl (by simp))).app
    have w:NF (P++[]) J=Vc (XK D life (QZ 1 B x)):=by rw [e,Nb];exact M
    have g:=ht
    have b:(0:Int)<((recs B).1.length:Int):=by
     simp only [Ui,Nq,Nx] at g;omega
    cases f:x.1 with
    | false=>
      simp only [n33,r33,n,m,d,k,l,b,f,lJ,T,U,V,t,u,z,C,SB,Nat.reduceLT,NC,NH,Nat.reduceEqDiff,NG,NT,reduceCtorEq,ND,place,NA,Nat.reduceAdd,Nat.reduceLeDiff,NE,Int.reduceEq,Int.reduceLT,Int.reduceLE]
      exact L (2,QZ 1 B x) _ _ ⟨by show 2<=2;omega,v,w,by rw [e];exact (by simp only [FB,Nat.reduceEqDiff]),(by simp only [m,FB,Nat.reduceEqDiff]),(by simp only [d,FB,Nat.reduceEqDiff]),(by simp only [N6,FB,Nat.reduceEqDiff]),by rw [<-F];exact (by simp only [FB,Nat.reduceEqDiff]),by rw [<-H];exact (by simp only [FB,Nat.reduceEqDiff]),by simp,by simp,fun _=>by rw [h1 rfl]⟩ (by show 2-2<2-1;omega)
    | true=>
      have r:(x.2.2.1:Int)<(QB B:Int):=by
       simp only [Ui,f,O1,Bool.false_or,Nq,Nx] at g;omega
      simp only [n33,r33,n,m,d,k,l,b,f,r,lJ,T,U,V,t,u,z,C,SB,Nat.reduceLT,NC,NH,Nat.reduceEqDiff,NG,NT,reduceCtorEq,ND,place,NA,Nat.reduceAdd,Nat.reduceLeDiff,NE,Int.reduceEq,Int.reduceLT,Int.reduceLE]
      exact L (2,QZ 1 B x) _ _ ⟨by show 2<=2;omega,v,w,by rw [e];exact (by simp only [FB,Nat.reduceEqDiff]),(by simp only [m,FB,Nat.reduceEqDiff]),(by simp only [d,FB,Nat.reduceEqDiff]),(by simp only [N6,FB,Nat.reduceEqDiff]),by rw [<-F];exact (by simp only [FB,Nat.reduceEqDiff]),by rw [<-H];exact (by simp only [FB,Nat.reduceEqDiff]),by simp,by simp,fun _=>by rw [h1 rfl]⟩ (by show 2-2<2-1;omega)
  | false=>
    have e:QZ 1 B x=x:=by unfold QZ;rw [ht];rfl
    have g:=ht
    by_cases y:0<(recs B).1.length
    ·have b:(0:Int)<((recs B).1.length:Int):=by omega
     have f:x.1=true:=by
      simp only [Ui,Of y,Bool.true_and,Bool.or_eq_false_iff,Bool.not_eq_false'] at g;exact g.1
     have r:¬(x.2.2.1:Int)<(QB B:Int):=by
      simp only [Ui,Of y,Bool.true_and,Bool.or_eq_false_iff,Bool.not_eq_false',decide_eq_false_iff_not] at g;omega
     simp only [n33,r33,n,m,d,k,l,b,f,r,z,C,SB,Nat.reduceLT,NC,NH,Nat.reduceEqDiff,NG,NT,reduceCtorEq,ND,place,NA,Nat.reduceAdd,Nat.reduceLeDiff,NE,Int.reduceEq,Int.reduceLT,Int.reduceLE]
     exact L (2,QZ 1 B x) _ _ ⟨by show 2<=2;omega,(by rw [Nb];exact o),(by rw [e,Nb];exact k1.cells I (by simp)),by rw [e,f];exact (by simp only [n,f,FB,Nat.reduceEqDiff]),(by simp only [m,FB,Nat.reduceEqDiff]),(by simp only [d,FB,Nat.reduceEqDiff]),(by simp only [N6,FB,Nat.reduceEqDiff]),by rw [<-F];exact (by simp only [FB,Nat.reduceEqDiff]),by rw [<-H];exact (by simp only [FB,Nat.reduceEqDiff]),by simp,by simp,fun _=>by rw [h1 rfl]⟩ (by show 2-2<2-1;omega)
    ·have b:¬(0:Int)<((recs B).1.length:Int):=by omega
     simp only [n33,r33,n,m,d,k,l,b,z,C,SB,Nat.reduceLT,NC,NH,Nat.reduceEqDiff,NG,NT,reduceCtorEq,ND,place,NA,Nat.reduceAdd,Nat.reduceLeDiff,NE,Int.reduceEq,Int.reduceLT,Int.reduceLE]
     exact L (2,QZ 1 B x) _ _ ⟨by show 2<=2;omega,(by rw [Nb];exact o),(by rw [e,Nb];exact k1.cells I (by simp)),by rw [e];exact (by simp only [n,FB,Nat.reduceEqDiff]),(by simp only [m,FB,Nat.reduceEqDiff]),(by simp only [d,FB,Nat.reduceEqDiff]),(by simp only [N6,FB,Nat.reduceEqDiff]),by rw [<-F];exact (by simp only [FB,Nat.reduceEqDiff]),by rw [<-H];exact (by simp only [FB,Nat.reduceEqDiff]),by simp,by simp,fun _=>by rw [h1 rfl]⟩ (by show 2-2<2-1;omega)
 ·simp only [n33,r33,n,m,d,k,N6,z,C,SB,Nat.reduceLT,NC,NH,Nat.reduceEqDiff,NG,NT,reduceCtorEq,ND,place,NA,Nat.reduceAdd,Nat.reduceLeDiff,NE,Int.reduceEq,Int.reduceLT,Int.reduceLE]
  rw [h2 rfl] at I n
  exact hR _ G' N I (by simp only [n,FB,Nat.reduceEqDiff]) (by rw [f7];exact (by simp only [m,FB,Nat.reduceEqDiff])) (by rw [<-F];exact (by simp only [FB,Nat.reduceEqDiff])) (by rw [<-H];exact (by simp only [FB,Nat.reduceEqDiff]))
theorem Nkt [OA] {lim:Nat} {H:NB} {Q:Value->NB->Prop} (a:Q Vz H):NQ E false lim 77 [Vz] H Q:=by
 refine runs (by decide) e77 rfl ?_
 rw [b77,c77]
 have b:WJ 33 Vz none (some (Vi 0)) (some (Vi 0))=some Vz:=by rfl
 simp only [n77,r77,b,SB,Nat.reduceLT,NC,NH,Nat.reduceEqDiff,NG,NT,reduceCtorEq,ND,place,NA,Nat.reduceAdd,Nat.reduceLeDiff,NE,Int.reduceEq,Int.reduceLT,Int.reduceLE]
 rw [Nb]
 exact a
def opA (safe:List Rh):List Rh:=TN [] safe 0
def Nf3 (safe:List Rh):List Rh:=TN [] safe 1
def VZ (safe:List Rh):Nat×Nat:=Vn 0 (Nf3 safe) (Vn 0 (opA safe) (0,0))
def opX (safe:List Rh):OpS:=QZ 1 (Nf3 safe) (QZ 0 (opA safe) (false,0,0,0))
theorem YG {i:Nat} {a:List Rh} {x:OpS} (h:(QZ i a x).1=false):QZ i a x=x:=by
 unfold QZ at h⊢
 split
 ·rename_i h1;rw [Nj h1] at h;cases h
 ·rfl
theorem Npu {safe:List Rh} (h:(opX safe).1=false):opX safe=(false,0,0,0):=by
 unfold opX at h⊢
 have h1:=YG h
 rw [h1] at h
 rw [h1,YG h]
theorem Nk2 [OA] {lim D S sc:Nat} {safe:List Rh} {H:NB} {Q:Value->NB->Prop} (C:NF H D=Vc [.slice (Sa S) safe.length sc,Vz]) (hS:NF H S=Vc (safe.flatMap Sr)) (lD:lim<=D) (lS:lim<=S) (k:S≠D) (hn:4<=safe.length) (ag:safe.length<=32768) (ae:(VZ safe).2<1073741824) (P:(opX safe).1=false->(VZ safe).1<1073741824)
  (hF:∀H' J,(opX safe).1=true->Chg [D] H H'->H.length<=J->Lies lim H' J D S (opX safe).2.1 (opX safe).2.2.1 ((VZ safe).2+1) (opX safe).2.2.2 sc none 0 safe []->Q (.tuple #[Vp J,Vi 0]) H')
  (hN:∀H' J,(opX safe).1=false->Chg [S,D] H H'->H.length<=J->Lies lim H' J D S 0 ((VZ safe).1+1) ((VZ safe).2+1) 1 sc none 0 (QS [] (Rx 0 ((VZ safe).1+1) ((VZ safe).2+1) 0 (W9 [])) safe) []->Q (.tuple #[Vp J,Vi 0]) H') :
  NQ E false lim 33 [Vp D] H Q:=by
 have l:safe≠[]:=fun e=>by rw [e] at hn;simp at hn
 have ab:=NJ C
 have ad:=NJ hS
 have sS:Sl H Sr 32 (Sa S) safe:=Sl.row RS hS
 have sP:Sl H Wo 33 none ([]:List Wr):=(Own.nil (lim:=lim)).sl Rz
 refine runs (by decide) e33 rfl ?_
 rw [b33,c33]
 have y:=fun X=>(QP.refl.app (X:=X)).cells C
 have u:=fun X (mp:Bool) (lim:Nat) (Q:Value->NB->Prop)=>Npk (mp:=mp) (lim:=lim) (Q:=Q) (pend:=[]) (y X) (sP.app X) (by simp)
 have hR:WK safe.length []=true:=by simp [WK];omega
 rw [hR] at u
 simp only [n33,r33,u,VR,O1,SB,Nat.reduceLT,NC,NH,Nat.reduceEqDiff,NG,NT,reduceCtorEq,ND,place,NA,Nat.reduceAdd,Nat.reduceLeDiff,NE,Int.reduceEq,Int.reduceLT,Int.reduceLE]
 rw [Nb]
 refine Nhh (safe:=safe) (pend:=[]) C sS l sP (by omega) (by simp) (by omega) fun H' p c q c' T h0 h1=>?_
 rw [<-Nkw] at h0
 rw [<-Nkv] at h1
 change Sl H' Sr 32 p (opA safe) at h0
 change Sl H' Sr 32 q (Nf3 safe) at h1
 have F:(opA safe).length=safe.length / 2:=X0 (by omega)
 have lB:(Nf3 safe).length=safe.length / 2:=X0 (by omega)
 have V:=T.len
 refine NI ?_
 have n:=fun X (mp:Bool) (lim:Nat) (Q:Value->NB->Prop)=>Ng2 (mp:=mp) (lim:=lim) (Q:=Q) (c:=c) (c':=c') (h0.app X) (h1.app X) (by omega) (by omega)
 rw [F,lB] at n
 change ∀X mp lim Q,NQ E mp lim 75 [.agg #[.slice p (safe.length / 2) c,.slice q (safe.length / 2) c']] (H'++X) Q=Q (.tuple #[Vi ((VZ safe).1:Int),Vi ((VZ safe).2:Int)]) (H'++X) at n
 have w1:IntKind.i64.wrap (((VZ safe).2:Int)+1)=(((VZ safe).2+1:Nat):Int):=QU (by omega)
 have c1:¬(1073741824:Int)<(((VZ safe).2+1:Nat):Int):=by omega
 have lh:lim<=H'.length:=by omega
 simp only [n33,r33,n,w1,c1,lh,SB,Nat.reduceLT,NC,NH,Nat.reduceEqDiff,NG,NT,reduceCtorEq,ND,place,NA,Nat.reduceAdd,Nat.reduceLeDiff,NE,Int.reduceEq,Int.reduceLT,Int.reduceLE]
 refine Ntu (J:=H'.length+1) (D:=D) (life:=(VZ safe).2+1) (c:=c) (c':=c') (h0.app _) (h1.app _) (by omega) (by omega) (fun a K=>?_) (fun a K=>?_) (by rw [NP];rfl) (by omega) (by simp only [FB,Nat.reduceEqDiff]) (by simp only [FB,Nat.reduceEqDiff]) (by simp only [F,lB,FB,Nat.reduceEqDiff]) (by simp only [N6,FB,Nat.reduceEqDiff]) fun fr' G' k1 k2 w Z W Y=>?_
 ·subst K
  have:=h0.lt fun e=>by rw [e] at F;simp at F;omega
  omega
 ·subst K
  have:=h1.lt fun e=>by rw [e] at lB;simp at lB;omega
  omega
 have h:fr' 7=Vp (H'.length+1):=Z.trans (by simp only [FB,Nat.reduceEqDiff])
 have m:fr' 0=Vp D:=W.trans (by simp only [FB,Nat.reduceEqDiff])
 have r:fr' 5=Vi ((VZ safe).1:Int):=Y.trans (by simp only [FB,Nat.reduceEqDiff])
 change NF G' (H'.length+1)=Vc (XK D ((VZ safe).2+1) (opX safe)) at k2
 change fr' 8=.bool (opX safe).1 at w
 have i:Chg [] H G':=T.app.trans' k1 fun j h1 h2=>by simp only [Ng] at h1;omega
 have o:=i.cells C (by simp)
 have B:=i.cells hS (by simp)
 have lG:=i.len
 have A:=NJ k2
 generalize ac:H'.length+1=J at h k2 k1 A
 have v:H.length<=J:=by omega
 clear Z W Y y u n
 cases hx:(opX safe).1 with
 | true=>
   rw [hx] at w
   obtain ⟨G1,s1,L,t⟩:=RN (NJ o) (Vc [.slice (Sa S) safe.length sc,Vz])
   have f:=fun X=>(QP.refl.app (X:=X)).cells o
   simp only [n33,r33,h,m,r,w,f,O1,SB,Nat.reduceLT,NC,NH,Nat.reduceEqDiff,NG,NT,reduceCtorEq,ND,place,NA,Nat.reduceAdd,Nat.reduceLeDiff,NE,Int.reduceEq,Int.reduceLT,Int.reduceLE]
   rw [Nb]
   refine Nkt ?_
   refine NI ?_
   simp only [n33,r33,h,m,r,w,f,lD,s1,SB,Nat.reduceLT,NC,NH,Nat.reduceEqDiff,NG,NT,reduceCtorEq,ND,place,NA,Nat.reduceAdd,Nat.reduceLeDiff,NE,Int.reduceEq,Int.reduceLT,Int.reduceLE]
   rw [Nb]
   refine hF G1 J hx ((i.mono (by simp)).mut t (.inl (by simp))) v ⟨⟨t.cells k2 (by omega),L,Own.nil,by omega,lD,by omega,by intro a e;cases e⟩,t.cells B k,lS,k,by omega,(by intro a e;cases e),l⟩
 | false=>
   rw [hx] at w
   have U:=P hx
   have w3:IntKind.i64.wrap (((VZ safe).1:Int)+1)=(((VZ safe).1+1:Nat):Int):=QU (by omega)
   have c3:¬(1073741824:Int)<(((VZ safe).1+1:Nat):Int):=by omega
   have O:opX safe=(false,0,0,0):=Npu hx
   rw [O] at k2
   obtain ⟨G1,s1,L,t⟩:=RN A (Vc (XK D ((VZ safe).2+1) (false,0,(VZ safe).1+1,0)))
   obtain ⟨I,s2,g2,R⟩:=RN (NJ (t.cells o (by omega))) (Vc [.slice (Sa S) safe.length sc,Vz])
   have z:=fun X=>(QP.refl.app (X:=X)).cells k2
   have f:=fun X=>(QP.refl.app (X:=X)).cells (t.cells o (by omega))
   simp only [XK,N6] at z s1
   have lJ:lim<=J:=by omega
   simp only [n33,r33,h,m,r,w,f,Bool.not_false,w3,c3,z,s1,lJ,SB,Nat.reduceLT,NC,NH,Nat.reduceEqDiff,NG,NT,reduceCtorEq,ND,place,NA,Nat.reduceAdd,Nat.reduceLeDiff,NE,Int.reduceEq,Int.reduceLT,Int.reduceLE]
   rw [Nb]
   refine Nkt ?_
   refine NI ?_
   simp only [n33,r33,h,m,r,w,f,lD,s2,SB,Nat.reduceLT,NC,NH,Nat.reduceEqDiff,NG,NT,reduceCtorEq,ND,place,NA,Nat.reduceAdd,Nat.reduceLeDiff,NE,Int.reduceEq,Int.reduceLT,Int.reduceLE]
   rw [Nb]
   have hL:Lies lim I J D S 0 ((VZ safe).1+1) ((VZ safe).2+1) 0 sc none 0 safe []:=⟨⟨R.cells L (by omega),g2,Own.nil,by omega,lD,by omega,by intro a e;cases e⟩,R.cells (t.cells B (by omega)) k,lS,k,by omega,(by intro a e;cases e),l⟩
   refine Nct (b:=[]) hL ((Own.nil (lim:=lim)).sl Rv) (Own.nil (lim:=lim) (enc:=Uf) (e:=1) (G:=I)).capOk (fun _=>rfl) (by intro a e;cases e) (by simp) (by omega) (by simp) (by omega) (by omega) fun G3 ah aa q1 q2 g=>?_
   simp only [n33,r33,m,SB,Nat.reduceLT,NC,NH,Nat.reduceEqDiff,NG,NT,reduceCtorEq,ND,place,NA,Nat.reduceAdd,Nat.reduceLeDiff,NE,Int.reduceEq,Int.reduceLT,Int.reduceLE]
   rw [Nb]
   rw [N4,Ou] at g
   refine Nkz g.jl.d g.jl.lD (fun _=>⟨rfl,g.s,g.lS⟩) g.SD (g.jl.own.sl Rz) (fun a e _=>⟨g.ps a e,(g.jl.ap a e).2⟩) (by omega) (by rw [Zf,Td];decide) fun H2 x M N=>?_
   refine NI ?_
   simp only [n33,r33,h,SB,Nat.reduceLT,NC,NH,Nat.reduceEqDiff,NG,NT,reduceCtorEq,ND,place,NA,Nat.reduceAdd,Nat.reduceLeDiff,NE,Int.reduceEq,Int.reduceLT,Int.reduceLE]
   rw [Nb]
   have hl:(QS [] (Rx 0 ((VZ safe).1+1) ((VZ safe).2+1) 0 (W9 [])) safe).length=safe.length:=Re
   refine hN H2 J hx ?_ v ⟨⟨x.cells g.jl.j (by simp [g.SJ.symm,g.jl.JD]),by rw [hl];exact M,Own.nil,g.jl.lJ,g.jl.lD,g.jl.JD,by intro a e;cases e⟩,N l,lS,k,g.SJ,(by intro a e;cases e),fun e=>l (by rw [<-List.length_eq_zero_iff,<-hl,e];rfl)⟩
   have c2:Chg [S,D] H I:=((i.mono (by simp)).mut t (.inr v)).mut R (.inl (by simp))
   exact (c2.trans' q1 fun j h1 h2=>by
    simp only [blk,Ni,Np,or_false] at h1⊢
    rcases h1 with h1 | h1
    ·omega
    ·exact .inr h1).trans' x fun j h1 _=>h1
structure Fresh (h0:Nat) (G:NB) (q:Option Addr) (cq:Nat) (l:List UInt8):Prop where
 own:Own h0 G Uf 1 q cq l
 nil:l=[]->q=none
 len:l.length<=4000
def VC:Rh:=Vector.replicate 32 0
theorem Nou:Rl VC 0=0:=by decide +kernel
theorem Ze (i:Nat):QK VC i=false:=by
 unfold QK
 rw [Nou];simp
theorem Njk:∀(m i:Nat) (x:Nat×Nat),Vn i (List.replicate m VC) x=x
 | 0,i,x=>rfl
 | m+1,i,x=>by rw [Qd,Vn,Ze];exact Njk m (i+1) x
theorem Npl (m:Nat):recs (List.replicate m VC)=([],0):=by
 cases m with
 | zero=>rfl
 | succ m=>
   rw [Qd]
   unfold recs TK
   have:Sq (QB (VC::List.replicate m VC)) 0 false 0 VC=false:=by unfold Sq;rw [Ze];rfl
   rw [this];rfl
theorem MC {n a:Nat}:∃m,TN [] (List.replicate n VC) a=List.replicate m VC:=by
 unfold TN
 have:XG [] (List.replicate n VC)=List.replicate n VC:=rfl
 rw [this,List.drop_replicate,List.take_replicate]
 exact ⟨_,rfl⟩
theorem Npw {n:Nat}:VZ (List.replicate n VC)=(0,0):=by
 obtain ⟨a,c⟩:=MC (n:=n) (a:=0)
 obtain ⟨b,hb⟩:=MC (n:=n) (a:=1)
 unfold VZ opA Nf3
 rw [c,hb,Njk,Njk]
theorem Nxj {n:Nat}:opX (List.replicate n VC)=(false,0,0,0):=by
 obtain ⟨a,c⟩:=MC (n:=n) (a:=0)
 obtain ⟨b,hb⟩:=MC (n:=n) (a:=1)
 unfold opX opA Nf3 QZ Ui
 rw [c,hb,Npl,Npl];rfl
def Nfl (n:Nat):List Rh:=QS [] (Rx 0 1 1 0 (W9 [])) (List.replicate n VC)
theorem Nli (n:Nat):(Nfl n).length=n:=by unfold Nfl;rw [Re,Pi]
theorem Sd {lost:List Bool} {base e lf:Nat}:∀(r:List (Nat×List UInt8)) (n i:Nat) (s:List Rh) (j:Nat),(j<base+n\/base+n+r.length<=j)->(RO lost i (Rx base e lf n r) s)[j]? = s[j]?
 | [],n,i,s,j,h=>rfl
 | x::r,n,i,s,j,h=>by
   have hl:(x::r).length=r.length+1:=rfl
   rw [Rx,RO,Sd r (n+1) (i+1) _ j (by omega)]
   split
   ·rw [P2]
    simp only [O5]
    omega
   ·rfl
def be4 (n:Nat):List UInt8:=[Xi n 0,Xi n 1,Xi n 2,Xi n 3]
theorem Zr {n:Nat} (h:n<2 ^ 32):numOf (be4 n)=n:=by
 simp only [numOf,be4,Pc,List.foldl_nil,Xi,UInt8.toNat_ofNat']
 simp only [Nat.reducePow,Nat.reduceMul,Nat.reduceSub] at h⊢
 omega
theorem TT {e lf n:Nat} {x:Nat×List UInt8} (h:x.2.length<=18):(Ur e lf n x).toList=be4 e++(be4 lf++(be4 n++(UInt8.ofNat x.1::UInt8.ofNat x.2.length::(x.2++List.replicate (18-x.2.length) 0)))):=by
 unfold Ur
 rw [No7 (by rw [Tq,Tq,Tq,UF h])]
 have e1:Ux x=0::0::0::0::0::0::0::0::0::0::0::0::UInt8.ofNat x.1::UInt8.ofNat x.2.length::(x.2++List.replicate (18-x.2.length) 0):=by
  unfold Ux
  rw [Nl]
  rfl
 rw [e1]
 generalize UInt8.ofNat x.1::UInt8.ofNat x.2.length::(x.2++List.replicate (18-x.2.length) 0)=r
 simp [Uq,be4]
section
variable {e lf n:Nat} {x:Nat×List UInt8}
theorem Tt (h:x.2.length<=18) (he:e<2 ^ 32):Rl (Ur e lf n x) 0=e:=by
 unfold Rl;rw [TT h];exact Zr he
theorem Sn (h:x.2.length<=18) (he:lf<2 ^ 32):Rl (Ur e lf n x) 4=lf:=by
 unfold Rl;rw [TT h];exact Zr he
theorem Ni1 (h:x.2.length<=18) (he:n<2 ^ 32):Rl (Ur e lf n x) 8=n:=by
 unfold Rl;rw [TT h];exact Zr he
theorem WV (h:x.2.length<=18) (he:x.1<256):fl (Ur e lf n x)=x.1:=by
 unfold fl;rw [TT h]
 show (UInt8.ofNat x.1).toNat=_
 rw [UInt8.toNat_ofNat_of_lt' (by show _<256;exact he)]
theorem Ngr (h:x.2.length<=18):ln (Ur e lf n x)=x.2.length:=by
 unfold ln;rw [TT h]
 show (UInt8.ofNat x.2.length).toNat=_
 rw [UInt8.toNat_ofNat_of_lt' (by show _<256;omega)]
theorem Nc5 (h:x.2.length<=18):pay (Ur e lf n x)=x.2:=by
 unfold pay;rw [Ngr h,TT h]
 show (x.2++List.replicate (18-x.2.length) 0).take x.2.length=_
 rw [List.take_left]
theorem We (h:x.2.length<=18) (h1:x.1<=3) (h2:x.1<2->x.2.length=18) (e1:1<=e) (e2:e<=1073741824) (l1:1<=lf) (l2:lf<=1073741824) (hn:n<2 ^ 32):QK (Ur e lf n x) n=true:=by
 unfold QK
 rw [Tt h (by omega),Sn h (by omega),Ni1 h hn,WV h (by omega),Ngr h]
 rw [Nq,Nx,Nx]
 refine ⟨⟨e1,e2,l1,l2,rfl,h1,h,h2⟩, ?_⟩
 rw [TT h]
 rw [<-List.drop_drop]
 show (x.2++List.replicate (18-x.2.length) 0).drop x.2.length=_
 rw [List.drop_left]
end
def SH (e lf:Nat):Nat->List (Nat×List UInt8)->List Rh
 | _,[]=>[]
 | n,x::r=>Ur e lf n x::SH e lf (n+1) r
theorem Vq {e lf:Nat}:∀(r:List (Nat×List UInt8)) (n:Nat),(SH e lf n r).length=r.length
 | [],_=>rfl
 | x::r,n=>by rw [SH,Nm,Nm,Vq r]
theorem Ma {e lf:Nat}:∀(a b:List (Nat×List UInt8)) (n:Nat),SH e lf n (a++b)=SH e lf n a++SH e lf (n+a.length) b
 | [],b,n=>rfl
 | x::a,b,n=>by
   rw [N1,SH,SH,Ma a b,N1,Nm]
   congr 3;omega
theorem Yu {base e lf:Nat}:∀(a b:List (Nat×List UInt8)) (n:Nat),Rx base e lf n (a++b)=Rx base e lf n a++Rx base e lf (n+a.length) b
 | [],b,n=>rfl
 | x::a,b,n=>by
   rw [N1,Rx,Rx,Yu a b,N1,Nm]
   congr 3;omega
theorem Neu {e lf n life:Nat} {ins:Bool} {x:Nat×List UInt8} (h:x.2.length<=18) (h1:x.1<=3) (h2:x.1<2->x.2.length=18) (e1:1<=e) (e2:e<=1073741824) (l1:1<=lf) (l2:lf<=1073741824) (hn:n<2 ^ 32) (hi:ins=decide (x.1 % 2=0)) (hl:life<=lf) (b:ins=true->life=lf):Sq e n ins life (Ur e lf n x)=true:=by
 unfold Sq
 rw [We h h1 h2 e1 e2 l1 l2 hn,Tt h (by omega),WV h (by omega),Sn h (by omega)]
 cases ins with
 | true=>
   have c:x.1 % 2=0:=Pa hi.symm
   have a:¬x.1 % 2=1:=by omega
   have:=b rfl
   simp [a,this]
 | false=>
   have c:¬x.1 % 2=0:=of_decide_eq_false hi.symm
   have a:x.1 % 2=1:=by omega
   simp [a,hl]
theorem Nfr {e lf:Nat} (e1:1<=e) (e2:e<=1073741824) (l1:1<=lf) (l2:lf<=1073741824):∀(f a:Nat) (b:List UInt8) (i life:Nat) (rec:List UInt8) (l:List (List UInt8)) (d:Nat) (r:List Rh),b.length<f->a<=1->i+f<2 ^ 31->life<=lf->(a=0->life=lf)->
  TK e i (SH e lf i (Sv f a b)++r) (decide (a=0)) life rec l d=TK e (i+(Sv f a b).length) r false lf [] (l++[rec++b]) (i+(Sv f a b).length)
 | 0,a,b,i,life,rec,l,d,r,h,_,_,_,_=>by omega
 | f+1,a,b,i,life,rec,l,d,r,h,hf,hi,hl,hl2=>by
   simp only [Sv]
   split
   ·rename_i c
    rw [SH,SH,N1,N4,TK,Nj (Neu c (by show a+2<=3;omega) (by show a+2<2->_;omega) e1 e2 l1 l2 (by omega) (by show _=decide ((a+2) % 2=0);congr 1;apply propext;omega) hl (by intro h;exact hl2 (Pa h)))]
    rw [WV c (by show a+2<256;omega),Nh (by show ¬a+2<2;omega),Sn c (by omega),Nc5 c]
    rfl
   ·rename_i c
    have g:(b.take 18).length=18:=by rw [N2];omega
    rw [SH,N1,TK,Nj (Neu (by show (b.take 18).length<=18;omega) (by show a<=3;omega) (fun _=>g) e1 e2 l1 l2 (by omega) (by show _=decide (a % 2=0);congr 1;apply propext;omega) hl (by intro h;exact hl2 (Pa h)))]
    rw [WV (by show (b.take 18).length<=18;omega) (by show a<256;omega),Nj (by show a<2;omega),Sn (by show (b.take 18).length<=18;omega) (by omega),Nc5 (by show (b.take 18).length<=18;omega)]
    have:=Nfr e1 e2 l1 l2 f 0 (b.drop 18) (i+1) lf (rec++b.take 18) l d r (by simp;omega) (by omega) (by omega) (Nd _) (fun _=>rfl)
    rw [show (decide ((0:Nat)=0))=true from rfl] at this
    rw [this,Nm,Nl,O8,Om,Q4 1]
def TE (e:Nat):Nat->List Rh->Bool->Nat->Bool
 | _,[],_,_=>true
 | i,s::r,ins,life=>if Sq e i ins life s then decide (fl s<2)&&TE e (i+1) r true (Rl s 4) else true
theorem WO {e:Nat}:∀(s:List Rh) (i:Nat) (ins:Bool) (life:Nat) (rec:List UInt8) (l:List (List UInt8)) (a:Nat),TE e i s ins life=true->TK e i s ins life rec l a=(l,a)
 | [],_,_,_,_,_,_,_=>rfl
 | s::r,i,ins,life,rec,l,a,h=>by
   rw [TK]
   rw [TE] at h
   split
   ·rename_i b
    rw [Nj b,Nq,Nx] at h
    rw [Nj h.1]
    exact WO r _ _ _ _ _ _ h.2
   ·rfl
def VT (e lf i:Nat) (s:Rh):Prop:=QK s i=true->Rl s 0=e->Rl s 4<lf
theorem Yg {e lf i:Nat} {ins:Bool} {s:Rh} (h:VT e lf i s):Sq e i ins lf s=false:=by
 cases hg:Sq e i ins lf s with
 | false=>rfl
 | true=>
   simp only [Sq,Nq,Nx] at hg
   have:=h hg.1.1.1.1 hg.1.1.1.2
   omega
theorem Nc2 {e lf:Nat} (e1:1<=e) (e2:e<=1073741824) (l1:1<=lf) (l2:lf<=1073741824):∀(f a:Nat) (b:List UInt8) (i life q:Nat) (s:Rh) (r:List Rh),b.length<f->a<=1->i+f<2 ^ 31->life<=lf->(a=0->life=lf)->q<(Sv f a b).length->(q=0->life=lf)->VT e lf (i+q) s->
  TE e i ((SH e lf i (Sv f a b)).take q++s::r) (decide (a=0)) life=true
 | 0,a,b,i,life,q,s,r,h,_,_,_,_,_,_,_=>by omega
 | f+1,a,b,i,life,0,s,r,h,hf,hi,hl,hl2,hq,hq0,hs=>by
   have d:VT e lf i s:=hs
   rw [Qc,N4,TE,hq0 rfl,Yg d]
   rfl
 | f+1,a,b,i,life,q+1,s,r,h,hf,hi,hl,hl2,hq,hq0,hs=>by
   simp only [Sv] at hq⊢
   split
   ·rename_i c
    rw [Nj c] at hq
    simp at hq
   ·rename_i c
    rw [Nh c,Nm] at hq
    have g:(b.take 18).length=18:=by rw [N2];omega
    rw [SH,Pv,N1,TE,Nj (Neu (by show (b.take 18).length<=18;omega) (by show a<=3;omega) (fun _=>g) e1 e2 l1 l2 (by omega) (by show _=decide (a % 2=0);congr 1;apply propext;omega) hl (by intro h;exact hl2 (Pa h)))]
    rw [WV (by show (b.take 18).length<=18;omega) (by show a<256;omega),Sn (by show (b.take 18).length<=18;omega) (by omega)]
    have:=Nc2 e1 e2 l1 l2 f 0 (b.drop 18) (i+1) lf q s r (by simp;omega) (by omega) (by omega) (Nd _) (fun _=>rfl) (by omega) (fun _=>rfl) (by rw [show i+1+q=i+(q+1) by omega];exact hs)
    rw [show (decide ((0:Nat)=0))=true from rfl] at this
    rw [this]
    simp;omega
theorem Nc4 {e L:Nat}:∀(r r':List Rh) (i life:Nat),r.length=r'.length->TE e i r true life=true->(∀j,j<r.length->gt r' j=gt r j\/Rl (gt r' j) 4=L)->(∀j,j<r.length->VT e L (i+j) (gt r j))->life<L->TE e i r' true life=true
 | [],[],i,life,hl,h,h1,h2,h3=>rfl
 | s::r,s'::r',i,life,hl,h,h1,h2,h3=>by
   have k1:=h1 0 (by simp)
   have k2:=h2 0 (by simp)
   rw [Si] at k1 k2
   rw [Si] at k1
   rw [TE]
   split
   ·rename_i b
    rcases k1 with rfl | k1
    ·rw [TE,Nj b,Nq] at h
     rw [h.1,Bool.true_and]
     have a:=b
     simp only [Sq,Nq,Nx] at a
     refine Nc4 r r' (i+1) _ (by simpa using hl) h.2 (fun j c=>?_) (fun j c=>?_) (k2 a.1.1.1.1 a.1.1.1.2)
     ·have:=h1 (j+1) (by simp;omega)
      rwa [Rq,Rq] at this
     ·have:=h2 (j+1) (by simp;omega)
      rwa [Rq,show i+(j+1)=i+1+j by omega] at this
    ·simp only [Sq,Nq,Nx,Bool.true_and,Bool.not_eq_true',Bool.not_eq_false'] at b
     omega
   ·rfl
theorem Ni0 {e L i life:Nat} {s:Rh} {r r':List Rh} (hl:r.length=r'.length) (h:TE e i (s::r) false life=true) (h1:∀j,j<r.length->gt r' j=gt r j\/Rl (gt r' j) 4=L) (h2:∀j,j<(s::r).length->VT e L (i+j) (gt (s::r) j)):TE e i (s::r') false life=true:=by
 rw [TE] at h⊢
 split
 ·rename_i a
  rw [Nj a,Nq] at h
  rw [h.1,Bool.true_and]
  simp only [Sq,Nq,Nx] at a
  have k2:=h2 0 (by simp)
  rw [Si] at k2
  refine Nc4 r r' (i+1) _ hl h.2 h1 (fun j b=>?_) (k2 a.1.1.1.1 a.1.1.1.2)
  have:=h2 (j+1) (by simp;omega)
  rwa [Rq,show i+(j+1)=i+1+j by omega] at this
 ·rfl
abbrev LR:=List (Nat×List UInt8)
def OC:LR->Nat
 | []=>0
 | x::r=>OU x.2.length+OC r
def QX (e:Nat):Nat->LR->List Rh
 | _,[]=>[]
 | i,x::r=>SH e x.1 i (W9 x.2)++QX e (i+OU x.2.length) r
def Uj:Nat->LR->Nat
 | l,[]=>l
 | _,x::r=>Uj x.1 r
def upL (b:Nat):Nat->LR->Prop
 | l,[]=>l<=b
 | l,x::r=>l<=x.1/\1<=x.1/\upL b x.1 r
theorem RB {e:Nat}:∀(r:LR) (i:Nat),(QX e i r).length=OC r
 | [],_=>rfl
 | x::r,i=>by rw [QX,Nk,RB r,Vq,Td,OC]
theorem Sg:∀(a b:LR),OC (a++b)=OC a+OC b
 | [],b=>by simp [OC]
 | x::a,b=>by rw [N1,OC,OC,Sg a b];omega
theorem Wi {e:Nat}:∀(a b:LR) (i:Nat),QX e i (a++b)=QX e i a++QX e (i+OC a) b
 | [],b,i=>rfl
 | x::a,b,i=>by rw [N1,QX,QX,Wi a b,OC,Nl,Om]
theorem MK {b:Nat}:∀(a:LR) (l:Nat) (x:Nat×List UInt8),upL x.1 l a->1<=x.1->x.1<=b->upL b l (a++[x])
 | [],l,x,h,h1,h2=>⟨h,h1,h2⟩
 | y::a,l,x,h,h1,h2=>⟨h.1,h.2.1,MK a _ x h.2.2 h1 h2⟩
theorem Nfa {b b':Nat} (hb:b<=b'):∀(a:LR) (l:Nat),upL b l a->upL b' l a
 | [],l,h=>P5 h hb
 | y::a,l,h=>⟨h.1,h.2.1,Nfa hb a _ h.2.2⟩
theorem MJ {b:Nat}:∀(a:LR) (l:Nat),upL b l a->upL (Uj l a) l a/\Uj l a<=b
 | [],l,h=>⟨Nd _,h⟩
 | y::a,l,h=>by
   have:=MJ a _ h.2.2
   exact ⟨⟨h.1,h.2.1,this.1⟩,this.2⟩
theorem Nhu {b:Nat}:∀(a:LR) (l:Nat),upL b l a->l<=b
 | [],l,h=>h
 | y::a,l,h=>P5 h.1 (Nhu a _ h.2.2)
theorem Ya {e b:Nat} (e1:1<=e) (e2:e<=1073741824) (hb:b<=1073741824):∀(rl:LR) (i life:Nat) (l:List (List UInt8)) (r:List Rh),i+OC rl<2 ^ 30->(∀x∈rl,x.2.length<2 ^ 20)->upL b life rl->
  TK e i (QX e i rl++r) false life [] l i=TK e (i+OC rl) r false (Uj life rl) [] (l++rl.map (·.2)) (i+OC rl)
 | [],i,life,l,r,_,_,_=>by simp [QX,OC,Uj]
 | x::rl,i,life,l,r,hi,hx,hu=>by
   have h1:=Nhu rl _ hu.2.2
   have a:=hx x (by simp)
   simp only [OC] at hi
   rw [QX,Nl]
   have h2:=Nfr (e:=e) (lf:=x.1) e1 e2 hu.2.1 (by omega) (x.2.length+1) 1 x.2 i life [] l i (QX e (i+OU x.2.length) rl++r) (Nat.lt_succ_self _) (Nd _) (by omega) hu.1 (by intro h;cases h)
   rw [show (decide ((1:Nat)=0))=false from rfl] at h2
   have hp:(Sv (x.2.length+1) 1 x.2).length=OU x.2.length:=Td x.2
   rw [hp] at h2
   unfold W9
   rw [h2,Ya e1 e2 hb rl (i+OU x.2.length) x.1 _ r (by omega) (fun y c=>hx y (by simp [c])) hu.2.2]
   simp only [OC,Uj,Og,N4,Nl,List.singleton_append,Om]
def ov (lost:List Bool):Nat->List Rh->List Rh->List Rh
 | _,[],old=>old
 | _,_,[]=>[]
 | i,x::xs,o::os=>(if lost.getD i false then o else x)::ov lost (i+1) xs os
theorem Neb {lost:List Bool} {i:Nat} {old:List Rh}:ov lost i [] old=old:=by cases old<;>rfl
theorem Nii {lost:List Bool}:∀(a old:List Rh) (i:Nat),(ov lost i a old).length=old.length
 | [],old,i=>by rw [Neb]
 | x::xs,[],i=>rfl
 | x::xs,o::os,i=>by rw [ov,Nm,Nm,Nii xs os]
theorem Nec {lost:List Bool}:∀(a old:List Rh) (i j:Nat),a.length<=old.length->(ov lost i a old)[j]? = if j<a.length/\lost.getD (i+j) false=false then a[j]? else old[j]?
 | [],old,i,j,h=>by rw [Neb];simp
 | x::xs,[],i,j,h=>by simp at h
 | x::xs,o::os,i,0,h=>by
   rw [ov]
   cases hl:lost.getD i false<;>simp [hl]
 | x::xs,o::os,i,j+1,h=>by
   rw [ov,Oq,Nec xs os (i+1) j (by simpa using h)]
   simp only [Oq,Nm,Nat.add_lt_add_iff_right]
   rw [show i+1+j=i+(j+1) by omega]
theorem Zq {lost:List Bool}:∀(a b old:List Rh) (i:Nat),a.length<=old.length->ov lost i (a++b) old=ov lost i a (old.take a.length)++ov lost (i+a.length) b (old.drop a.length)
 | [],b,old,i,h=>by simp [ov]
 | x::xs,b,[],i,h=>by simp at h
 | x::xs,b,o::os,i,h=>by
   rw [N1,ov,Zq xs b os (i+1) (by simpa using h)]
   simp only [Nm,Pv,List.drop_succ_cons,ov,N1]
   rw [show i+1+xs.length=i+(xs.length+1) by omega]
theorem Nij {lost:List Bool}:∀(a old:List Rh) (i:Nat),a.length=old.length->(∀j,j<a.length->lost.getD (i+j) false=false)->ov lost i a old=a
 | [],[],i,h,_=>rfl
 | x::xs,o::os,i,h,hl=>by
   rw [ov,Nij xs os (i+1) (by simpa using h) fun j b=>by rw [show i+1+j=i+(j+1) by omega];exact hl (j+1) (by simpa using b)]
   rw [show lost.getD i false=false from hl 0 (by simp)]
   simp
theorem Nf1 {lost:List Bool}:∀(a old:List Rh) (i q:Nat),a.length<=old.length->q<a.length->(∀j,j<q->lost.getD (i+j) false=false)->lost.getD (i+q) false=true->∃r r',old.drop q=gt old q::r/\ov lost i a old=a.take q++gt old q::r'/\r.length=r'.length/\∀j,j<r.length->gt r' j=gt r j\/gt r' j∈a
 | [],old,i,q,h,hq,_,_=>by simp at hq
 | x::xs,[],i,q,h,_,_,_=>by simp at h
 | x::xs,o::os,i,0,h,hq,hl,hl2=>by
   have h':xs.length<=os.length:=by simpa using h
   refine ⟨os,ov lost (i+1) xs os,rfl, ?_,(Nii _ _ _).symm,fun j b=>?_⟩
   ·rw [ov,show lost.getD i false=true from hl2];rfl
   ·have c:=Nec (lost:=lost) xs os (i+1) j h'
    have e1:gt (ov lost (i+1) xs os) j=((ov lost (i+1) xs os)[j]?).getD default:=by unfold gt;rw [Na]
    rw [c] at e1
    split at e1
    ·rename_i hc
     refine .inr ?_
     rw [e1,Nf hc.1]
     simp
    ·refine .inl ?_
     rw [e1];unfold gt;rw [Na]
 | x::xs,o::os,i,q+1,h,hq,hl,hl2=>by
   obtain ⟨r,r',k1,k2,k3,d⟩:=Nf1 xs os (i+1) q (by simpa using h) (by simpa using hq) (fun j b=>by rw [show i+1+j=i+(j+1) by omega];exact hl (j+1) (by omega)) (by rw [show i+1+q=i+(q+1) by omega];exact hl2)
   refine ⟨r,r',by rw [List.drop_succ_cons,Rq];exact k1, ?_,k3,fun j b=>(d j b).imp_right fun h=>by simp [h]⟩
   rw [ov,k2,show lost.getD i false=false from hl 0 (by omega),Rq]
   simp
structure Ar (e lf:Nat) (S:List Rh) (rl:LR):Prop where
 lay:∃T,S=QX e 0 rl++T/\TE e (OC rl) T false (Uj 0 rl)=true/\∀j,j<T.length->VT e lf (OC rl+j) (gt T j)
 up:upL lf 0 rl
 short:∀x∈rl,x.2.length<2 ^ 20
 ne:rl≠[]
theorem Ndg {e lf:Nat} (hl:lf<=1073741824):∀(f a:Nat) (b:List UInt8) (i:Nat),a<=1->∀s∈SH e lf i (Sv f a b),Rl s 4=lf
 | 0,_,_,_,_,s,h=>by simp [Sv,SH] at h
 | f+1,a,b,i,hf,s,h=>by
   simp only [Sv] at h
   split at h
   ·rename_i c
    simp only [SH,Ni,Np,or_false] at h
    rw [h,Sn c (by omega)]
   ·simp only [SH,Ni] at h
    rcases h with h | h
    ·rw [h,Sn (by show (b.take 18).length<=18;rw [N2];omega) (by omega)]
    ·exact Ndg hl f 0 _ _ (by omega) s h
theorem Na1 {lost:List Bool} {i:Nat}:∀n,(∀j,j<n->lost.getD (i+j) false=false)\/∃q,q<n/\(∀j,j<q->lost.getD (i+j) false=false)/\lost.getD (i+q) false=true
 | 0=>.inl fun j h=>by omega
 | n+1=>by
   rcases Na1 (lost:=lost) (i:=i) n with h | ⟨q,h1,h2,a⟩
   ·cases hl:lost.getD (i+n) false with
    | true=>exact .inr ⟨n,by omega,h,hl⟩
    | false=>
      refine .inl fun j b=>?_
      rcases Ok j n with h1 | h1
      ·exact h j h1
      ·rw [show j=n by omega];exact hl
   ·exact .inr ⟨q,by omega,h2,a⟩
theorem Nkj {e lf:Nat} {lost:List Bool} (e1:1<=e) (e2:e<=1073741824) (l1:1<=lf) (l2:lf<=1073741824):∀(bs:LR) (i:Nat) (m life:Nat) (T:List Rh),(∀x∈bs,x.1=lf/\x.2.length<2 ^ 20)->OC bs<=T.length->m+T.length<2 ^ 30->life<=lf->TE e m T false life=true->(∀j,j<T.length->VT e lf (m+j) (gt T j))->
  ∃k f,k<=bs.length/\ov lost i (QX e m bs) T=QX e m (bs.take k)++f/\TE e (m+OC (bs.take k)) f false (Uj life (bs.take k))=true/\
   ((∀j,j<OC bs->lost.getD (i+j) false=false)->k=bs.length/\f=T.drop (OC bs))
 | [],i,m,life,T,hb,hT,t,hl,hn,hs=>⟨0,T,Nd _,by rw [QX,Neb];rfl,hn,fun _=>⟨rfl,rfl⟩⟩
 | x::bs,i,m,life,T,hb,hT,t,hl,hn,hs=>by
   obtain ⟨b,a⟩:=x
   obtain ⟨n,D⟩:=hb _ (Ox ..)
   simp only at n D
   subst n
   simp only [OC] at hT
   have c:(SH e b m (W9 a)).length=OU a.length:=by rw [Vq,Td]
   have v:=Zq (lost:=lost) (SH e b m (W9 a)) (QX e (m+OU a.length) bs) T i (by omega)
   have B:(T.take (OU a.length)).length=OU a.length:=by rw [N2];omega
   rcases Na1 (lost:=lost) (i:=i) (OU a.length) with g | ⟨q,G,z,d⟩
   ·
    have F:∀j,j<(T.drop (OU a.length)).length->VT e b (m+OU a.length+j) (gt (T.drop (OU a.length)) j):=fun j p=>by
     have:=hs (OU a.length+j) (by rw [Ov] at p;omega)
     rw [<-Om] at this
     rw [show gt (T.drop (OU a.length)) j=gt T (OU a.length+j) by unfold gt;rw [Na,Na,Pn]]
     exact this
    have u:TE e (m+OU a.length) (T.drop (OU a.length)) false b=true:=by
     cases hc:T.drop (OU a.length) with
     | nil=>rfl
     | cons s r=>
       have h0:=F 0 (by rw [hc];simp)
       rw [hc,Si,Oo] at h0
       rw [TE,Yg h0];rfl
    obtain ⟨k,f,k1,k2,k3,E⟩:=Nkj e1 e2 l1 l2 bs (i+OU a.length) (m+OU a.length) b (T.drop (OU a.length)) (fun y o=>hb y (by simp [o])) (by rw [Ov];omega) (by rw [Ov];omega) (Nd _) u F
    refine ⟨k+1,f,by simp;omega, ?_, ?_,fun hl=>?_⟩
    ·rw [QX,v,c,Nij _ _ _ (by rw [c,B]) (by rw [c];exact g),k2,Pv,QX,Nl]
    ·rw [Pv,OC,Uj,<-Om];exact k3
    ·have:=E fun j p=>by rw [Om];exact hl (OU a.length+j) (by simp only [OC];omega)
     exact ⟨by rw [this.1];rfl,by rw [this.2,List.drop_drop];rfl⟩
   ·
    refine ⟨0,ov lost i (QX e m ((b,a)::bs)) T,N7 _,rfl, ?_,fun hl=>?_⟩
    ·show TE e m _ false life=true
     have w:q<(QX e m ((b,a)::bs)).length:=by rw [RB,OC];show q<OU a.length+_;omega
     obtain ⟨r,r',k1,k2,k3,E⟩:=Nf1 (lost:=lost) (QX e m ((b,a)::bs)) T i q (by rw [RB];simp only [OC];omega) w z d
     rw [k2,QX,Qn (by rw [c];omega)]
     have A:q<T.length:=by omega
     by_cases h0:q=0
     ·subst h0
      rw [Oh] at k1
      rw [Qc,N4]
      refine Ni0 (L:=b) (r:=r) k3 (by rw [<-k1];exact hn) (fun j p=>(E j p).imp_right fun t=>?_) (by rw [<-k1];exact hs)
      have key:∀(l:LR) (m:Nat),(∀x∈l,x.1=b)->∀s∈QX e m l,Rl s 4=b:=by
       intro l
       induction l with
       | nil=>intro m _ s h;simp [QX] at h
       | cons y l ih=>
         intro m o s h
         rw [QX,Oa] at h
         rcases h with h | h
         ·have:=Ndg (e:=e) (lf:=y.1) (by rw [o y (by simp)];exact l2) _ 1 y.2 m (Nd _) s h
          rw [this];exact o y (by simp)
         ·exact ih _ (fun x C=>o x (by simp [C])) s h
      exact key _ _ (fun x C=>(hb x C).1) _ t
     ·have:=Nc2 (e:=e) (lf:=b) e1 e2 l1 l2 (a.length+1) 1 a m life q (gt T q) r' (Nat.lt_succ_self _) (Nd _) (by omega) hl (by intro h;cases h) (by have hp:(Sv (a.length+1) 1 a).length=OU a.length:=Td a;omega) (by omega) (hs q A)
      exact this
    ·have:=hl q (by simp only [OC];omega)
     rw [this] at d;cases d
theorem Ar.recs {e lf:Nat} {S:List Rh} {rl:LR} (h:Ar e lf S rl) (e1:1<=e) (e2:e<=1073741824) (l2:lf<=1073741824) (hS:S.length<2 ^ 30):recs S=(rl.map (·.2),OC rl)/\QB S=e:=by
 obtain ⟨T,k1,k2,k3⟩:=h.lay
 have he:QB S=e:=by
  rw [k1]
  match rl,h.ne,h.up,h.short with
  | x::r,_,hu,hx=>
    have:=hx x (by simp)
    have hl:=Nhu r _ hu.2.2
    rw [QX]
    unfold W9
    rw [Sv]
    split
    ·rename_i a
     exact Tt a (by omega)
    ·rw [SH]
     exact Tt (by show (x.2.take 18).length<=18;rw [N2];omega) (by omega)
 refine ⟨?_,he⟩
 have hl:OC rl<=S.length:=by rw [k1,Nk,RB];omega
 unfold Go.Proofs.YtancgcogjokfcaaGreatDoor.Fn.recs
 rw [he]
 have:=Ya (e:=e) (b:=lf) e1 e2 l2 rl 0 0 [] T (by omega) h.short h.up
 rw [k1,this,Nr,N4]
 exact WO _ _ _ _ _ _ _ k2
def OY (safe:List Rh) (a:Nat):List Rh:=(safe.drop (a*(safe.length / 2))).take (safe.length / 2)
theorem SK {safe:List Rh} {a:Nat} (h:a<=1):(OY safe a).length=safe.length / 2:=by
 unfold OY
 rw [N2,Ov]
 rcases (show a=0\/a=1 by omega) with rfl | rfl<;>omega
theorem Nbp {pend:List Wr} {safe:List Rh} {a:Nat}:TN pend safe a=OY (QS [] pend safe) a:=by
 unfold TN OY XG
 rw [Re]
theorem Vw {safe:List Rh} {a j:Nat} (b:j<safe.length / 2):(OY safe a)[j]? = safe[a*(safe.length / 2)+j]?:=by
 unfold OY
 rw [Pk,Nj b,Pn]
theorem YW {lost:List Bool} {base e lf:Nat}:∀(r:List (Nat×List UInt8)) (n i:Nat) (s:List Rh) (k:Nat),k<r.length->base+n+r.length<=s.length->(RO lost i (Rx base e lf n r) s)[base+n+k]? = if lost.getD (i+k) false=false then (SH e lf n r)[k]? else s[base+n+k]?
 | [],n,i,s,k,h,_=>by simp at h
 | x::r,n,i,s,0,h,hs=>by
   have hl:(x::r).length=r.length+1:=rfl
   rw [Rx,RO,Oo,Oo,Sd r (n+1) (i+1) _ _ (by omega),SH]
   have b:UI s.length ((base+n:Nat):Int)=true:=by unfold UI;rw [Nx];omega
   rw [b]
   cases hl:lost.getD i false with
   | true=>simp
   | false=>
     simp only [Bool.not_false,Bool.and_self,if_true,O5]
     show (s.set (base+n) (Ur e lf n x))[base+n]? = _
     rw [Qv (by omega)]
     rfl
 | x::r,n,i,s,k+1,h,hs=>by
   have hl:(x::r).length=r.length+1:=rfl
   rw [Rx,RO,SH,Oq]
   have:=YW (lost:=lost) (base:=base) (e:=e) (lf:=lf) r (n+1) (i+1) (if UI s.length ((base+n:Nat):Int)&&!lost.getD i false then s.set ((base+n:Nat):Int).toNat (Ur e lf n x) else s) k (by omega) (by
    have a:(if UI s.length ((base+n:Nat):Int)&&!lost.getD i false then s.set ((base+n:Nat):Int).toNat (Ur e lf n x) else s).length=s.length:=by
     split
     ·rw [P0]
     ·rfl
    rw [a];omega)
   rw [show base+(n+1)+k=base+n+(k+1) by omega,show i+1+k=i+(k+1) by omega] at this
   simp only at this⊢
   rw [this]
   split
   ·rfl
   ·split
    ·rw [P2 (by simp only [O5];omega)]
    ·rfl
theorem Nbb {lost:List Bool} {area e lf m:Nat} {r:List (Nat×List UInt8)} {safe:List Rh} (a:area<=1) (c:m+r.length<=safe.length / 2) :
  OY (QS lost (Rx (area*(safe.length / 2)) e lf m r) safe) area=(OY safe area).take m++ov lost 0 (SH e lf m r) ((OY safe area).drop m):=by
 have hb:area*(safe.length / 2)+safe.length / 2<=safe.length:=by rcases (show area=0\/area=1 by omega) with rfl | rfl<;>omega
 have hl:=SK (safe:=safe) a
 apply List.ext_getElem?
 intro j
 by_cases b:j<safe.length / 2
 ·rw [Vw (by rw [Re];exact b),Re]
  by_cases h1:j<m
  ·rw [Ny (by rw [N2];omega),Pk,Nj h1,Vw b]
   exact Sd r m 0 safe _ (by omega)
  ·rw [N0 (by rw [N2];omega),N2,hl,Ph (by omega),Nec _ _ _ _ (by rw [Vq,Ov];omega),Vq,Pn,Nat.add_sub_cancel' (by omega),Vw b,Nr]
   by_cases h2:j-m<r.length
   ·have:=YW (lost:=lost) (base:=area*(safe.length / 2)) (e:=e) (lf:=lf) r m 0 safe (j-m) h2 (by omega)
    rw [show area*(safe.length / 2)+m+(j-m)=area*(safe.length / 2)+j by omega,Nr] at this
    unfold QS
    rw [this]
    simp only [h2,Qq]
   ·rw [Nh (by omega)]
    exact Sd r m 0 safe _ (by omega)
 ·rw [Nv (by rw [SK a,Re];omega),Nv (by rw [Nk,N2,Nii,Ov];omega)]
theorem Mf {lost:List Bool} {area e lf m:Nat} {r:List (Nat×List UInt8)} {safe:List Rh} (b:area<=1) (c:m+r.length<=safe.length / 2) :
  OY (QS lost (Rx (area*(safe.length / 2)) e lf m r) safe) (1-area)=OY safe (1-area):=by
 apply List.ext_getElem?
 intro j
 by_cases a:j<safe.length / 2
 ·rw [Vw (by rw [Re];exact a),Re,Vw a]
  refine Sd r m 0 safe _ ?_
  rcases (show area=0\/area=1 by omega) with rfl | rfl
  ·simp only [Nat.sub_zero,Nat.one_mul,Ou];omega
  ·simp only [Qe,Nat.one_mul,Ou];omega
 ·rw [Nv (by rw [SK (by omega),Re];omega),Nv (by rw [SK (by omega)];omega)]
def X8 (bs:LR):List (Nat×List UInt8):=bs.flatMap fun x=>W9 x.2
theorem VP:∀(bs:LR),(X8 bs).length=OC bs
 | []=>rfl
 | x::bs=>by
   have:=VP bs
   unfold X8 at this⊢
   rw [Oi,Nk,this,Td,OC]
theorem Ndn {e lf:Nat}:∀(bs:LR) (m:Nat),(∀x∈bs,x.1=lf)->SH e lf m (X8 bs)=QX e m bs
 | [],m,_=>rfl
 | x::bs,m,h=>by
   have:=Ndn (e:=e) (lf:=lf) bs (m+OU x.2.length) fun y a=>h y (by simp [a])
   unfold X8 at this⊢
   rw [Oi,Ma,Td,this,QX,h x (by simp)]
theorem Nns {bs:LR} {x:Nat×List UInt8}:X8 (bs++[x])=X8 bs++W9 x.2:=by simp [X8]
def SF (S:List Rh) (a lf:Nat):Prop:=∀j,j<S.length->QK (gt S j) j=true->Rl (gt S j) 0<a/\Rl (gt S j) 4<=lf
theorem SF.mono {S:List Rh} {b a lf lf':Nat} (h:SF S b lf) (he:b<=a) (hl:lf<=lf'):SF S a lf':=fun j c d=>by
 have:=h j c d;omega
theorem Yb {e lf:Nat} (e2:e<=1073741824) (l2:lf<=1073741824):∀(f a:Nat) (b:List UInt8) (i:Nat),a<=1->∀s∈SH e lf i (Sv f a b),Rl s 0=e/\Rl s 4=lf
 | 0,_,_,_,_,s,h=>by simp [Sv,SH] at h
 | f+1,a,b,i,hf,s,h=>by
   simp only [Sv] at h
   split at h
   ·rename_i c
    simp only [SH,Ni,Np,or_false] at h
    rw [h,Sn c (by omega),Tt c (by omega)]
    exact ⟨rfl,rfl⟩
   ·have d:(a,b.take 18).2.length<=18:=by show (b.take 18).length<=18;rw [N2];omega
    simp only [SH,Ni] at h
    rcases h with h | h
    ·rw [h,Sn d (by omega),Tt d (by omega)]
     exact ⟨rfl,rfl⟩
    ·exact Yb e2 l2 f 0 _ _ (by omega) s h
theorem Mo {e lf:Nat} (e2:e<=1073741824) (l2:lf<=1073741824):∀(bs:LR) (i:Nat),(∀x∈bs,x.1=lf)->∀s∈QX e i bs,Rl s 0=e/\Rl s 4=lf
 | [],i,_,s,h=>by simp [QX] at h
 | x::bs,i,hb,s,h=>by
   rw [QX,Oa,hb x (by simp)] at h
   rcases h with h | h
   ·exact Yb e2 l2 _ 1 _ _ (Nd _) s h
   ·exact Mo e2 l2 bs _ (fun y a=>hb y (by simp [a])) s h
theorem ZR {e b:Nat} (e1:1<=e) (e2:e<=1073741824) (hb:b<=1073741824):∀(rl:LR) (i l:Nat),i+OC rl<2 ^ 30->(∀x∈rl,x.2.length<2 ^ 20)->upL b l rl->rl≠[]->∃j,j<(QX e i rl).length/\QK (gt (QX e i rl) j) (i+j)=true/\Rl (gt (QX e i rl) j) 4=Uj l rl
 | [],i,l,_,_,_,h=>absurd rfl h
 | x::rl,i,l,hi,hx,hu,_=>by
   have a:(SH e x.1 i (W9 x.2)).length=OU x.2.length:=by rw [Vq,Td]
   simp only [OC] at hi
   cases rl with
   | nil=>
     have h1:x.1<=b:=hu.2.2
     have d:0<OU x.2.length:=by unfold OU;omega
     refine ⟨0,by rw [RB,OC];omega, ?_⟩
     rw [QX,Rc (by omega)]
     show QK (gt (SH e x.1 i (Sv (x.2.length+1) 1 x.2)) 0) (i+0)=true/\Rl (gt (SH e x.1 i (Sv (x.2.length+1) 1 x.2)) 0) 4=x.1
     rw [Sv]
     have:=hu.2.1
     split
     ·rename_i c
      rw [SH,Si]
      exact ⟨We c (by show 1+2<=3;omega) (by show 1+2<2->_;omega) e1 e2 hu.2.1 (by omega) (by omega),Sn c (by omega)⟩
     ·have g:(x.2.take 18).length=18:=by rw [N2];omega
      rw [SH,Si]
      exact ⟨We (by show (x.2.take 18).length<=18;omega) (by show 1<=3;omega) (fun _=>g) e1 e2 hu.2.1 (by omega) (by omega),Sn (by show (x.2.take 18).length<=18;omega) (by omega)⟩
   | cons y rl=>
     obtain ⟨j,h1,h2,f⟩:=ZR e1 e2 hb (y::rl) (i+OU x.2.length) x.1 (by omega) (fun z k=>hx z (by simp [k])) hu.2.2 (by simp)
     refine ⟨OU x.2.length+j,by rw [QX,Nk,a];omega, ?_⟩
     rw [QX,<-a,Rf,a]
     exact ⟨by rw [<-Om];exact h2,f⟩
structure KD (area e lf:Nat) (safe:List Rh) (rl:LR):Prop where
 ar:Ar e lf (OY safe area) rl
 cur:SF (OY safe area) (e+1) lf
 oth:SF (OY safe (1-area)) e lf
 e1:1<=e
 e2:e<=1073741824
 l1:1<=lf
 l2:lf<=1073741824
 a1:area<=1
 sz:safe.length<2 ^ 20
structure KO (area e lf:Nat) (safe:List Rh) (rl:LR):Prop where
 lay:∃T,OY safe area=QX e 0 rl++T/\TE e (OC rl) T false (Uj 0 rl)=true
 up:upL lf 0 rl
 short:∀x∈rl,x.2.length<2 ^ 20
 ne:rl≠[]
 cur:SF (OY safe area) (e+1) lf
 oth:SF (OY safe (1-area)) e lf
 e1:1<=e
 e2:e<=1073741824
 l1:1<=lf
 l2:lf<=1073741824
 a1:area<=1
 sz:safe.length<2 ^ 20
theorem KD.ko {area e lf:Nat} {safe:List Rh} {rl:LR} (h:KD area e lf safe rl):KO area e lf safe rl:=by
 obtain ⟨T,k1,k2,_⟩:=h.ar.lay
 exact ⟨⟨T,k1,k2⟩,h.ar.up,h.ar.short,h.ar.ne,h.cur,h.oth,h.e1,h.e2,h.l1,h.l2,h.a1,h.sz⟩
theorem KD.recs {area e lf:Nat} {safe:List Rh} {rl:LR} (h:KD area e lf safe rl):recs (OY safe area)=(rl.map (·.2),OC rl):=
 (h.ar.recs h.e1 h.e2 h.l2 (by rw [SK h.a1];have:=h.sz;omega)).1
theorem X9 {b:Nat}:∀(bs rl:LR) (l:Nat),upL b l rl->(∀x∈bs,x.1=b)->1<=b->upL b l (rl++bs)
 | [],rl,l,h,_,_=>by rw [Nb];exact h
 | x::bs,rl,l,h,hx,hb=>by
   have e1:rl++x::bs=(rl++[x])++bs:=by simp
   rw [e1]
   refine X9 bs _ l (MK rl l x ?_ (by rw [hx x (by simp)];exact hb) (by rw [hx x (by simp)];exact Nd _)) (fun y a=>hx y (by simp [a])) hb
   rw [hx x (by simp)];exact h
theorem UQ:∀(rl bs:LR) (l:Nat),Uj l (rl++bs)=Uj (Uj l rl) bs
 | [],bs,l=>rfl
 | x::rl,bs,l=>by rw [N1,Uj,UQ rl bs];rfl
theorem Nme {lost:List Bool} {a old:List Rh} {i j:Nat} (hl:a.length<=old.length) (c:j<old.length):gt (ov lost i a old) j=gt old j\/gt (ov lost i a old) j∈a:=by
 have b:=Nec (lost:=lost) a old i j hl
 have e1:gt (ov lost i a old) j=((ov lost i a old)[j]?).getD default:=by unfold gt;rw [Na]
 rw [b] at e1
 split at e1
 ·rename_i hc
  refine .inr ?_
  rw [e1,Nf hc.1]
  simp
 ·refine .inl ?_
  rw [e1];unfold gt;rw [Na]
theorem KD.crash {area e lf:Nat} {safe:List Rh} {rl bs:LR} {lost:List Bool} (h:KD area e lf safe rl) (hb:∀x∈bs,x.1=lf/\x.2.length<2 ^ 20) (L:OC rl+OC bs<=safe.length / 2) :
  ∃k,k<=bs.length/\KO area e lf (QS lost (Rx (area*(safe.length / 2)) e lf (OC rl) (X8 bs)) safe) (rl++bs.take k)/\
   ((∀j,j<OC bs->lost.getD j false=false)->k=bs.length/\KD area e lf (QS lost (Rx (area*(safe.length / 2)) e lf (OC rl) (X8 bs)) safe) (rl++bs)):=by
 have a1:=h.a1
 have Q:=h.sz
 have e1:=h.e1
 have e2:=h.e2
 have l1:=h.l1
 have l2:=h.l2
 obtain ⟨T,k1,k2,k3⟩:=h.ar.lay
 have t:=SK (safe:=safe) a1
 have P:OC rl+T.length=safe.length / 2:=by rw [<-t,k1,Nk,RB]
 have v:=Nbb (lost:=lost) (e:=e) (lf:=lf) (m:=OC rl) (r:=X8 bs) (safe:=safe) a1 (by rw [VP];exact L)
 have J:=Mf (lost:=lost) (e:=e) (lf:=lf) (m:=OC rl) (r:=X8 bs) (safe:=safe) a1 (by rw [VP];exact L)
 have y:(QS lost (Rx (area*(safe.length / 2)) e lf (OC rl) (X8 bs)) safe).length=safe.length:=Re
 generalize QS lost (Rx (area*(safe.length / 2)) e lf (OC rl) (X8 bs)) safe=c at v J y⊢
 rw [Ndn bs _ fun x hx=>(hb x hx).1] at v
 have q:(OY safe area).drop (OC rl)=T:=by rw [k1];rw [<-RB (e:=e) rl 0,List.drop_left]
 have u:(OY safe area).take (OC rl)=QX e 0 rl:=by rw [k1];rw [<-RB (e:=e) rl 0,List.take_left]
 rw [q,u] at v
 obtain ⟨V,U⟩:=MJ rl 0 h.ar.up
 obtain ⟨k,I,R,G,H,S⟩:=Nkj (lost:=lost) e1 e2 l1 l2 bs 0 (OC rl) (Uj 0 rl) T hb (by omega) (by omega) U k2 k3
 have D:∀n,∀x∈rl++bs.take n,x.2.length<2 ^ 20:=fun n x hx=>by
  rcases Oa.1 hx with hx | hx
  ·exact h.ar.short x hx
  ·exact (hb x (Pt hx)).2
 have E:∀n,upL lf 0 (rl++bs.take n):=fun n=>X9 _ _ _ h.ar.up (fun x hx=>(hb x (Pt hx)).1) l1
 have C:∀n,rl++bs.take n≠[]:=fun n K=>h.ar.ne (by simp at K;exact K.1)
 have f:SF (OY c area) (e+1) lf:=fun j w b=>by
  have z:j<safe.length / 2:=by rw [SK a1,y] at w;exact w
  rw [v] at b⊢
  rcases Ok j (OC rl) with B | hge
  ·have e3:gt (QX e 0 rl++ov lost 0 (QX e (OC rl) bs) T) j=gt (OY safe area) j:=by
    rw [k1,Rc (by rw [RB];exact B),Rc (by rw [RB];exact B)]
   rw [e3] at b⊢
   exact h.cur j (by rw [t];exact z) b
  ·obtain ⟨d,rfl⟩:∃d,j=OC rl+d:=⟨j-OC rl,by omega⟩
   have e3:gt (QX e 0 rl++ov lost 0 (QX e (OC rl) bs) T) (OC rl+d)=gt (ov lost 0 (QX e (OC rl) bs) T) d:=by
    rw [<-RB (e:=e) rl 0,Rf]
   rw [e3] at b⊢
   rcases Nme (lost:=lost) (a:=QX e (OC rl) bs) (old:=T) (i:=0) (j:=d) (by rw [RB];omega) (by omega) with hm1 | hm1
   ·rw [hm1] at b⊢
    have O:gt (OY safe area) (OC rl+d)=gt T d:=by rw [k1,<-RB (e:=e) rl 0,Rf]
    have:=h.cur (OC rl+d) (by rw [t];exact z)
    rw [O] at this
    exact this b
   ·have:=Mo e2 l2 bs _ (fun x hx=>(hb x hx).1) _ hm1
    omega
 have l:SF (OY c (1-area)) e lf:=by rw [J];exact h.oth
 have A:∀n,OC (rl++bs.take n)=OC rl+OC (bs.take n):=fun n=>Sg _ _
 refine ⟨k,R,⟨⟨I, ?_, ?_⟩,E k,D k,C k,f,l,e1,e2,l1,l2,a1,by omega⟩,fun hl=>?_⟩
 ·rw [v,G,Wi,Nr,Nl]
 ·rw [A,UQ];exact H
 ·obtain ⟨M,N⟩:=S fun j w=>by rw [Nr];exact hl j w
  refine ⟨M, ?_⟩
  have s:bs.take k=bs:=by rw [M];exact O3
  have F:=A k
  have p:=E k
  have o:=D k
  have g:=C k
  rw [s] at G H F p o g
  refine ⟨⟨⟨I, ?_, ?_,fun j w=>?_⟩,p,o,g⟩,f,l,e1,e2,l1,l2,a1,by omega⟩
  ·rw [v,G,Wi,Nr,Nl]
  ·rw [F,UQ];exact H
  ·rw [F]
   have:=k3 (OC bs+j) (by rw [N,Ov] at w;omega)
   rw [<-Om] at this
   rw [N,show gt (T.drop (OC bs)) j=gt T (OC bs+j) by unfold gt;rw [Na,Na,Pn]]
   exact this
theorem KD.sync {area e lf:Nat} {safe:List Rh} {rl bs:LR} (h:KD area e lf safe rl) (hb:∀x∈bs,x.1=lf/\x.2.length<2 ^ 20) (b:OC rl+OC bs<=safe.length / 2):KD area e lf (QS [] (Rx (area*(safe.length / 2)) e lf (OC rl) (X8 bs)) safe) (rl++bs):=by
 obtain ⟨k,_,_,a⟩:=h.crash (lost:=[]) hb b
 exact (a fun j _=>by simp).2
theorem M8:∀(a:List Rh) (i:Nat) (x:Nat×Nat),x.2<=(Vn i a x).2/\∀j,j<a.length->QK (gt a j) (i+j)=true->Rl (gt a j) 4<=(Vn i a x).2
 | [],i,x=>⟨Nd _,fun j h=>by simp at h⟩
 | s::r,i,x=>by
   rw [Vn]
   obtain ⟨h1,h2⟩:=M8 r (i+1) (if QK s i then (max x.1 (Rl s 0),max x.2 (Rl s 4)) else x)
   refine ⟨P5 ?_ h1,fun j c b=>?_⟩
   ·split
    ·exact Py _ _
    ·exact Nd _
   ·match j,c,b with
    | 0,c,b=>
      rw [Si,Oo] at b
      rw [Si]
      rw [Nj b] at h1⊢
      exact P5 (O9 x.2 _) h1
    | j+1,c,b=>
      rw [Rq] at b⊢
      exact h2 j (by simpa using c) (by rw [show i+1+j=i+(j+1) by omega];exact b)
theorem Net {b:Nat}:∀(a:List Rh) (i:Nat) (x:Nat×Nat),x.2<=b->(∀j,j<a.length->QK (gt a j) (i+j)=true->Rl (gt a j) 4<=b)->(Vn i a x).2<=b
 | [],i,x,h,_=>h
 | s::r,i,x,h,ha=>by
   rw [Vn]
   refine Net r (i+1) _ ?_ fun j d c=>?_
   ·split
    ·rename_i c
     exact Nat.max_le.2 ⟨h,ha 0 (by simp) c⟩
    ·exact h
   ·have:=ha (j+1) (by simpa using d)
    rw [Rq] at this
    exact this (by rw [show i+(j+1)=i+1+j by omega];exact c)
theorem Nc0 {safe:List Rh}:QS [] [] safe=safe:=rfl
theorem Nim {safe:List Rh}:opA safe=OY safe 0:=by unfold opA;rw [Nbp,Nc0]
theorem Nik {safe:List Rh}:Nf3 safe=OY safe 1:=by unfold Nf3;rw [Nbp,Nc0]
theorem Nf2 {a:List Rh} {e lf:Nat} (h:SF a e lf) (hr:0<(recs a).1.length):QB a<e:=by
 match a,h,hr with
 | [],_,hr=>simp [recs,TK] at hr
 | s::r,h,hr=>
   unfold recs at hr
   rw [TK] at hr
   split at hr
   ·rename_i b
    simp only [Sq,Nq,Nx] at b
    exact (h 0 (by simp) b.1.1.1.1).1
   ·simp at hr
theorem WT {i:Nat} {a:List Rh} {x:OpS} (h1:0<(recs a).1.length) (h2:x.1=false\/x.2.2.1<QB a):QZ i a x=(true,i,QB a,(recs a).2):=by
 unfold QZ Ui
 rw [Nj]
 rcases h2 with h2 | h2<;>simp [h1,h2]
theorem YF {i:Nat} {a:List Rh} {x:OpS} (h:0<(recs a).1.length->x.1=true/\¬x.2.2.1<QB a):QZ i a x=x:=by
 unfold QZ Ui
 by_cases h1:0<(recs a).1.length
 ·have:=h h1
  rw [Nh]
  simp [h1,this]
 ·rw [Nh]
  simp only [h1,decide_false,Bool.false_and]
  decide
theorem KO.opened {area e lf:Nat} {safe:List Rh} {rl:LR} (h:KO area e lf safe rl):opX safe=(true,area,e,OC rl)/\(VZ safe).2<=lf/\((VZ safe).2<1073741824->KD area e ((VZ safe).2+1) safe rl):=by
 have a1:=h.a1
 have e1:=h.e1
 have e2:=h.e2
 have l2:=h.l2
 have s:=h.sz
 obtain ⟨T,k1,k2⟩:=h.lay
 have p:=SK (safe:=safe) a1
 have y:=SK (safe:=safe) (a:=1-area) (by omega)
 have A:OC rl<=safe.length / 2:=by rw [<-p,k1,Nk,RB];omega
 have g:∀a,a<=1->∀j,j<(OY safe a).length->QK (gt (OY safe a) j) j=true->Rl (gt (OY safe a) j) 4<=(VZ safe).2:=fun a v j f d=>by
  unfold VZ
  rw [Nim,Nik]
  rcases (show a=0\/a=1 by omega) with rfl | rfl
  ·exact P5 ((M8 (OY safe 0) 0 (0,0)).2 j f (by rw [Nr];exact d)) (M8 _ _ _).1
  ·exact (M8 (OY safe 1) 0 _).2 j f (by rw [Nr];exact d)
 have m:∀a,a<=1->∀j,j<(OY safe a).length->QK (gt (OY safe a) j) (0+j)=true->Rl (gt (OY safe a) j) 4<=lf:=fun a v j f d=>by
  rw [Nr] at d
  rcases (show a=area\/a=1-area by omega) with rfl | rfl
  ·exact (h.cur j f d).2
  ·exact (h.oth j f d).2
 have w:(VZ safe).2<=lf:=by
  unfold VZ
  rw [Nim,Nik]
  exact Net _ _ _ (Net _ _ _ (N7 _) (m 0 (by omega))) (m 1 (by omega))
 obtain ⟨j,B,t,C⟩:=ZR e1 e2 l2 rl 0 0 (by omega) h.short h.up h.ne
 have q:Uj 0 rl<=(VZ safe).2:=by
  have:=g area a1 j (by rw [k1,Nk];omega)
  rw [k1,Rc B,C] at this
  rw [Nr] at t
  exact this t
 obtain ⟨u,D⟩:=MJ rl 0 h.up
 have k:Ar e ((VZ safe).2+1) (OY safe area) rl:=⟨⟨T,k1,k2,fun j f d _=>by
  have:=g area a1 (OC rl+j) (by rw [k1,Nk,RB];omega)
  have e3:gt (OY safe area) (OC rl+j)=gt T j:=by rw [k1,<-RB (e:=e) rl 0,Rf]
  rw [e3] at this
  have:=this d
  omega⟩,Nfa (by omega) _ _ u,h.short,h.ne⟩
 have c:recs (OY safe area)=(rl.map (·.2),OC rl)/\QB (OY safe area)=e:=by
  rcases Ok (VZ safe).2 1073741824 with hb | hb
  ·exact k.recs e1 e2 (by omega) (by omega)
  ·have z:(VZ safe).2=1073741824:=by omega
   have he:Uj 0 rl<=1073741824:=by omega
   have hl:=Ya (e:=e) (b:=Uj 0 rl) e1 e2 he rl 0 0 [] T (by omega) h.short u
   have l:QB (OY safe area)=e:=by
    rw [k1]
    match rl,h.ne,h.up,h.short with
    | x::r,_,hu,hx=>
      rw [QX]
      unfold W9
      rw [Sv]
      split
      ·rename_i o
       exact Tt o (by omega)
      ·rw [SH]
       exact Tt (by show (x.2.take 18).length<=18;rw [N2];omega) (by omega)
   refine ⟨?_,l⟩
   unfold Go.Proofs.YtancgcogjokfcaaGreatDoor.Fn.recs
   rw [l,k1,hl,Nr,N4]
   exact WO _ _ _ _ _ _ _ k2
 have i:0<(recs (OY safe area)).1.length:=by
  rw [c.1]
  have:=List.length_pos_iff.2 h.ne
  simpa using this
 have n:=Nf2 h.oth
 refine ⟨?_,w,fun hb=>⟨k,fun j f d=>?_,fun j f d=>?_,e1,e2,by omega,by omega,a1,s⟩⟩
 ·unfold opX
  rw [Nim,Nik]
  rcases (show area=0\/area=1 by omega) with rfl | rfl
  ·rw [WT i (.inl rfl),YF,c.1,c.2]
   intro hr
   refine ⟨rfl, ?_⟩
   have:=n hr
   rw [c.2]
   simp only [Nat.sub_zero] at this⊢
   omega
  ·rw [WT (a:=OY safe 1) i,c.1,c.2]
   by_cases hr:0<(recs (OY safe 0)).1.length
   ·rw [WT hr (.inl rfl),c.2]
    exact .inr (n hr)
   ·rw [YF fun h=>absurd h hr]
    exact .inl rfl
 ·exact ⟨(h.cur j f d).1,Nat.le_succ_of_le (g area a1 j f d)⟩
 ·exact ⟨(h.oth j f d).1,Nat.le_succ_of_le (g (1-area) (by omega) j f d)⟩
theorem KD.fresh {area e lf:Nat} {safe:List Rh} {b:List UInt8} (e1:1<=e) (e2:e<=1073741824) (l1:1<=lf) (l2:lf<=1073741824) (a1:area<=1) (B:safe.length<2 ^ 20) (u:SF (OY safe area) e lf) (y:SF (OY safe (1-area)) e lf) (hb:OU b.length<=safe.length / 2) (k:b.length<2 ^ 20) :
  KD area e lf (QS [] (Rx (area*(safe.length / 2)) e lf 0 (W9 b)) safe) [(lf,b)]:=by
 have z:=SK (safe:=safe) a1
 have h1:=Nbb (lost:=[]) (e:=e) (lf:=lf) (m:=0) (r:=W9 b) (safe:=safe) a1 (by rw [Td];omega)
 have h2:=Mf (lost:=[]) (e:=e) (lf:=lf) (m:=0) (r:=W9 b) (safe:=safe) a1 (by rw [Td];omega)
 have n:(QS [] (Rx (area*(safe.length / 2)) e lf 0 (W9 b)) safe).length=safe.length:=Re
 generalize QS [] (Rx (area*(safe.length / 2)) e lf 0 (W9 b)) safe=f at h1 h2 n⊢
 rw [Qc,Oh,N4] at h1
 have o:(SH e lf 0 (W9 b)).length=OU b.length:=by rw [Vq,Td]
 have q:ov [] 0 (SH e lf 0 (W9 b)) (OY safe area)=SH e lf 0 (W9 b)++(OY safe area).drop (OU b.length):=by
  have t:=Zq (lost:=[]) (SH e lf 0 (W9 b)) [] (OY safe area) 0 (by omega)
  rw [Nb] at t
  rw [t,Neb,Nij _ _ _ (by rw [N2];omega) (fun j _=>by simp),o]
 rw [q] at h1
 have p:OC [(lf,b)]=OU b.length:=rfl
 have v:∀j,j<((OY safe area).drop (OU b.length)).length->gt ((OY safe area).drop (OU b.length)) j=gt (OY safe area) (OU b.length+j):=fun j a=>by
  unfold gt;rw [Na,Na,Pn]
 have h:∀j,j<((OY safe area).drop (OU b.length)).length->VT e lf (OU b.length+j) (gt ((OY safe area).drop (OU b.length)) j):=fun j a c he=>by
  rw [v j a] at c he
  rw [Ov] at a
  have:=u (OU b.length+j) (by omega) c
  omega
 have g:SF (OY f area) (e+1) lf:=fun j a c=>by
  rw [h1] at a c⊢
  rw [Nk,o] at a
  rcases Ok j (OU b.length) with A | hge
  ·rw [Rc (by omega)] at c⊢
   have:=Yb e2 l2 (b.length+1) 1 b 0 (Nd _) _ (Vl (l:=SH e lf 0 (W9 b)) (i:=j) (by omega))
   omega
  ·obtain ⟨d,rfl⟩:∃d,j=OU b.length+d:=⟨j-OU b.length,by omega⟩
   have e3:gt (SH e lf 0 (W9 b)++(OY safe area).drop (OU b.length)) (OU b.length+d)=gt (OY safe area) (OU b.length+d):=by
    rw [<-v d (by omega)]
    rw [<-o,Rf]
   rw [e3] at c⊢
   rw [Ov] at a
   have:=u _ (by omega) c
   omega
 refine ⟨⟨⟨(OY safe area).drop (OU b.length), ?_, ?_,h⟩,⟨N7 _,l1,Nd _⟩, ?_,by simp⟩,g,by rw [h2];exact y,e1,e2,l1,l2,a1,by omega⟩
 ·rw [h1];simp [QX]
 ·rw [p]
  show TE e (OU b.length) _ false lf=true
  cases hc:(OY safe area).drop (OU b.length) with
  | nil=>rfl
  | cons s r=>
    have h0:=h 0 (by rw [hc];simp)
    rw [hc,Si,Oo] at h0
    rw [TE,Yg h0];rfl
 ·intro x w
  simp only [Ng] at w
  subst w
  exact k
theorem KD.begun (n:Nat) (hn:4<=n) (h2:n<2 ^ 20):KD 0 1 1 (Nfl n) [(1,[])]:=by
 have key:∀a,SF (OY (List.replicate n VC) a) 1 1:=fun a j d c=>by
  have:gt (OY (List.replicate n VC) a) j=VC:=by
   have:=Vl d
   unfold OY at this
   exact List.eq_of_mem_replicate (List.mem_of_mem_drop (Pt this))
  rw [this,Ze] at c
  cases c
 have:=KD.fresh (area:=0) (e:=1) (lf:=1) (safe:=List.replicate n VC) (b:=[]) (by omega) (by omega) (by omega) (by omega) (by omega) (by rw [Pi];exact h2) (key 0) (key 1) (by rw [Pi];show OU 0<=n / 2;unfold OU;omega) (by simp)
 rw [Ou] at this
 exact this
structure RowsR (G:NB) (p:Option Addr) (ds:List V3) (l:List (List UInt8)):Prop where
 sl:Sl G U1 1 p ds
 len:ds.length=l.length
 row:∀k,k<l.length->(gt ds k).2.1=(gt l k).length/\Sl G Uf 1 (gt ds k).1 (gt l k)
theorem RowsR.ext {G G':NB} {p:Option Addr} {ds:List V3} {l:List (List UInt8)} (h:RowsR G p ds l) (he:QP G G'):RowsR G' p ds l:=
 ⟨he.sl h.sl,h.len,fun k a=>⟨(h.row k a).1,he.sl (h.row k a).2⟩⟩
theorem Njs {d:V3}:(U1 d)[0]? = some (.slice d.1 d.2.1 d.2.2):=id rfl
structure Mod (h0:Nat) (G:NB) (R cq:Nat) (ds:List V3) (l:List (List UInt8)) (A:List Nat):Prop where
 blkR:∃rest,NF G R=Vc (ds.flatMap U1++rest)
 cap:cq=loose 1\/(cq=1/\l.length=1)
 pos:0<l.length
 len:ds.length=l.length
 row:∀k,k<l.length->(gt ds k).2.1=(gt l k).length/\Sl G Uf 1 (gt ds k).1 (gt l k)/\∀a,(gt ds k).1=some a->a.block∉A/\a.block≠R/\h0<=a.block
 lo:h0<=R
 out:R∉A
theorem Ndf (ds:List V3):(ds.flatMap U1).length=ds.length:=by rw [QO TL,N8]
theorem Mod.chg {h0:Nat} {G G':NB} {R cq:Nat} {ds:List V3} {l:List (List UInt8)} {A B:List Nat} (h:Mod h0 G R cq ds l A) (hc:Chg B G G') (e:∀j∈B,j∈A\/j<h0):Mod h0 G' R cq ds l A:=by
 obtain ⟨rest,hr⟩:=h.blkR
 have b:∀j,j∉A->h0<=j->j∉B:=fun j h1 h2 d=>by rcases e j d with h4 | h4;exact h1 h4;omega
 refine ⟨⟨rest,hc.cells hr (b _ h.out h.lo)⟩,h.cap,h.pos,h.len,fun k f=>?_,h.lo,h.out⟩
 obtain ⟨k1,k2,k3⟩:=h.row k f
 exact ⟨k1,hc.sl k2 fun a c _=>b _ (k3 a c).1 (k3 a c).2.2,k3⟩
theorem Mod.cut {h0:Nat} {G:NB} {R cq:Nat} {ds:List V3} {l:List (List UInt8)} {A:List Nat} (h:Mod h0 G R cq ds l A) {k:Nat} (c:0<k) (b:k<=l.length):Mod h0 G R cq (ds.take k) (l.take k) A:=by
 obtain ⟨rest,hr⟩:=h.blkR
 have hl:=h.len
 refine ⟨⟨(ds.drop k).flatMap U1++rest, ?_⟩, ?_,by rw [N2];omega,by rw [N2,N2,hl],fun j a=>?_,h.lo,h.out⟩
 ·rw [hr,<-Nl,<-P7,O8]
 ·rcases h.cap with h1 | ⟨h1,h2⟩
  ·exact .inl h1
  ·refine .inr ⟨h1, ?_⟩
   rw [N2];omega
 ·rw [N2] at a
  have e1:gt (ds.take k) j=gt ds j:=by unfold gt;rw [Na,Na,Pk,Nj (by omega)]
  have e2:gt (l.take k) j=gt l j:=by unfold gt;rw [Na,Na,Pk,Nj (by omega)]
  rw [e1,e2]
  exact h.row j (by omega)
theorem Mod.snoc {h0 lim:Nat} {G:NB} {R cq:Nat} {ds:List V3} {l:List (List UInt8)} {A:List Nat} (h:Mod h0 G R cq ds l A) (w:lim<=h0) {q:Option Addr} {c:Nat} {r:List UInt8} (E:Sl G Uf 1 q r) (s:∀a,q=some a->a.block∉A/\a.block≠R/\h0<=a.block/\a.block<G.length) (u:∀k,k<l.length->∀a,(gt ds k).1=some a->a.block<G.length) (y:∀j∈A,j<G.length) (hl:l.length<2 ^ 30) (H:h0<=G.length) (X:NB) (b k:Nat) (F:NF (G++X) b=Vc (U1 (q,r.length,c))) :
  ∃f,OI lim none 1 24 false (.slice (Sa R) l.length cq) (.slice (Sa b) 1 k) (G++X)=some (.slice (Sa (G.length+X.length)) (l.length+1) (loose 1),f)/\Mod h0 f (G.length+X.length) (loose 1) (ds++[(q,r.length,c)]) (l++[r]) A/\Chg [R] G f/\f.length=G.length+X.length+1:=by
 obtain ⟨rest,hr⟩:=h.blkR
 have p:=NJ hr
 have x:=h.pos
 have e:=h.len
 have D:=h.lo
 have hb:AM.loadCells (G++X) ⟨b,0,none⟩ (1*1)=some (U1 (q,r.length,c)):=by
  rw [NW,F];rfl
 have o:NF (G++X) R=Vc (ds.flatMap U1++rest):=by rw [NZ p];exact hr
 have g:AM.loadCells (G++X) ⟨R,0,none⟩ (l.length*1)=some (ds.flatMap U1):=by
  rw [NW,o]
  simp only [Nr,Oh,N8,Nk,Ndf]
  rw [Nj (by omega),<-e,<-Ndf ds,List.take_left]
 have m:(ds++[(q,r.length,c)]).flatMap U1=ds.flatMap U1++U1 (q,r.length,c):=by simp
 have fin:∀f:NB,Chg [R] G f->NF f (G.length+X.length)=Vc (ds.flatMap U1++U1 (q,r.length,c))->Mod h0 f (G.length+X.length) (loose 1) (ds++[(q,r.length,c)]) (l++[r]) A:=fun f v z=>by
  refine ⟨⟨[],by rw [Nb,m];exact z⟩,.inl rfl,by simp,by simp [e],fun j C=>?_,by omega,fun B=>by have:=y _ B;omega⟩
  by_cases n:j<l.length
  ·rw [Rc (by omega),Rc n]
   obtain ⟨k1,k2,k3⟩:=h.row j n
   exact ⟨k1,v.sl k2 fun a d _=>by simpa using (k3 a d).2.1,fun a d=>⟨(k3 a d).1,by have:=u j n a d;omega,(k3 a d).2.2⟩⟩
  ·have:j=l.length:=by simp at C;omega
   subst this
   rw [show gt (ds++[(q,r.length,c)]) l.length=(q,r.length,c) by rw [<-e];exact Rf (i:=0),show gt (l++[r]) l.length=r from Rf (i:=0)]
   exact ⟨rfl,v.sl E fun a d _=>by simpa using (s a d).2.1,fun a d=>⟨(s a d).1,by have:=(s a d).2.2.2;show a.block≠_;omega,(s a d).2.2.1⟩⟩
 have t:(G++X).length=G.length+X.length:=Nk
 rcases h.cap with h1 | ⟨h1,h2⟩
 ·refine ⟨(G.set R .dead++X)++[Vc (ds.flatMap U1++U1 (q,r.length,c))], ?_,fin _ ?_ ?_, ?_, ?_⟩
  ·subst h1
   have hc:¬((l.length+1)*24 > PQ\/l.length+1>=2 ^ 62\/loose 1<l.length):=by unfold loose PQ;omega
   unfold OI
   simp only [firstCells,lenOf,hb,No,if_false,show ((1:Nat)=0)=False from Q1 (by decide),false_or]
   rw [Nh hc,g]
   dsimp only
   rw [Nj trivial,o]
   dsimp only
   rw [Nj (by omega)]
   simp [place,O0 _ _ p,Nl]
  ·exact ((Chg.refl.set (.inl (by simp))).app).app
  ·rw [show G.length+X.length=(G.set R .dead++X).length by simp];exact NU
  ·exact ((Chg.refl.set (.inl (by simp))).app).app
  ·simp;omega
 ·refine ⟨(G++X)++[Vc (ds.flatMap U1++U1 (q,r.length,c))], ?_,fin _ ?_ ?_, ?_, ?_⟩
  ·subst h1
   have hc:¬((l.length+1)*24 > PQ\/l.length+1>=2 ^ 62\/1<l.length):=by unfold PQ;omega
   unfold OI
   simp only [firstCells,lenOf,hb,No,if_false,show ((1:Nat)=0)=False from Q1 (by decide),false_or]
   rw [Nh hc,g]
   dsimp only
   rw [Nh (by unfold loose;omega),Nj (by decide),Nh (by omega)]
   simp [place,Nl]
  ·exact (Chg.refl.app).app
  ·rw [<-t];exact NU
  ·exact (Chg.refl.app).app
  ·simp;omega
structure RLies (lim:Nat) (H:NB) (J D S area e lf n sc:Nat) (pp:Option Addr) (cp:Nat) (safe:List Rh) (pend:List Wr):Prop where
 j:NF H J=Vc [Vp D,Vi area,Vi e,Vi lf,Vi n]
 d:NF H D=Vc [.slice (Sa S) safe.length sc,.slice pp pend.length cp]
 s:NF H S=Vc (safe.flatMap Sr)
 sl:Sl H Wo 33 pp pend
 lJ:lim<=J
 lD:lim<=D
 lS:lim<=S
 JD:J≠D
 SD:S≠D
 SJ:S≠J
 ps:∀a,pp=some a->a.block≠S/\a.block≠D/\a.block≠J
 ne:safe≠[]
section
variable {lim J D S area e lf n sc cp:Nat} {pp:Option Addr} {safe:List Rh} {pend:List Wr} {H:NB} {Q:Value->NB->Prop}
theorem Lies.r (h:Lies lim H J D S area e lf n sc pp cp safe pend):RLies lim H J D S area e lf n sc pp cp safe pend:=
 ⟨h.jl.j,h.jl.d,h.s,h.jl.own.sl Rz,h.jl.lJ,h.jl.lD,h.lS,h.jl.JD,h.SD,h.SJ,fun a b=>⟨h.ps a b,(h.jl.ap a b).2,(h.jl.ap a b).1⟩,h.ne⟩
theorem RLies.chg {H':NB} {L:List Nat} (h:RLies lim H J D S area e lf n sc pp cp safe pend) (hc:Chg L H H') (c:∀j∈L,j≠J/\j≠D/\j≠S/\∀a,pp=some a->a.block≠j):RLies lim H' J D S area e lf n sc pp cp safe pend:=by
 have b:∀j,(j=J\/j=D\/j=S)->j∉L:=fun j h1 h2=>by have:=c j h2;omega
 exact ⟨hc.cells h.j (b _ (by omega)),hc.cells h.d (b _ (by omega)),hc.cells h.s (b _ (by omega)),hc.sl h.sl fun a f _ g=>(c _ g).2.2.2 a f rfl,h.lJ,h.lD,h.lS,h.JD,h.SD,h.SJ,h.ps,h.ne⟩
end
structure SJ where
 area:Nat
 e:Nat
 lf:Nat
 nn:Nat
 pp:Option Addr
 cp:Nat
 safe:List Rh
 pend:List Wr
 rl:LR
 bs:LR
structure KJ (lim n J D S:Nat) (H:NB) (i:Nat) (s:SJ) (G:NB):Prop where
 li:Lies lim G J D S s.area s.e s.lf s.nn n s.pp s.cp s.safe s.pend
 kd:KD s.area s.e s.lf s.safe s.rl
 hb:∀x∈s.bs,x.1=s.lf/\x.2.length<2 ^ 20
 len:s.safe.length=n
 nn:s.nn=OC s.rl+OC s.bs
 fits:s.nn<=n / 2
 pend:s.pend=Rx (s.area*(n / 2)) s.e s.lf (OC s.rl) (X8 s.bs)
 lf:s.lf<=i+1
 e:s.e<=i+1
 chg:Chg [] H G
 new:∀a,s.pp=some a->H.length<=a.block
 jn:H.length<=J
 dn:H.length<=D
 sn:H.length<=S
section
variable {lim n J D S i h cb:Nat} {H G:NB} {s:SJ} {q:Option Addr} {b:List UInt8} {Q:Value->NB->Prop}
theorem KJ.plen (I:KJ lim n J D S H i s G):s.pend.length=OC s.bs:=by rw [I.pend,Zf,VP]
theorem KJ.step {a:Nat} (I:KJ lim n J D S H i s G) (h:i<=a):KJ lim n J D S H a s G:=
 ⟨I.li,I.kd,I.hb,I.len,I.nn,I.fits,I.pend,by have:=I.lf;omega,by have:=I.e;omega,I.chg,I.new,I.jn,I.dn,I.sn⟩
theorem KJ.to {G':NB} {B:List Nat} (I:KJ lim n J D S H i s G) (hc:Chg B G G') (b:∀j∈B,H.length<=j/\j≠J/\j≠D/\j≠S/\∀a,s.pp=some a->a.block≠j):KJ lim n J D S H i s G':=
 ⟨Chg.lies I.li hc fun j c=>(b j c).2,I.kd,I.hb,I.len,I.nn,I.fits,I.pend,I.lf,I.e,I.chg.trans' hc fun j h1 h2=>absurd (b j h1).1 (by omega),I.new,I.jn,I.dn,I.sn⟩
theorem KJ.sync (I:KJ lim n J D S H i s G):KD s.area s.e s.lf (QS [] s.pend s.safe) (s.rl++s.bs):=by
 have:=I.kd.sync I.hb (by rw [<-I.nn,I.len];exact I.fits)
 rwa [I.len,<-I.pend] at this
theorem KJ.recs (I:KJ lim n J D S H i s G):(recs (TN s.pend s.safe s.area)).1=(s.rl++s.bs).map (·.2):=by
 rw [Nbp,I.sync.recs]
theorem KJ.lives (I:KJ lim n J D S H i s G):J<G.length/\D<G.length/\S<G.length/\∀a,s.pp=some a->a.block<G.length:=
 ⟨NJ I.li.jl.j,NJ I.li.jl.d,NJ I.li.s,fun a b=>(I.li.jl.own.block b).2⟩
theorem Nrl {L:List Nat} (e:Fresh h G q cb b) (c:∀j∈L,j<h):∀a,q=some a->a.block∉L:=fun a d f=>by
 have:=(e.own.block d).1
 have:=c _ f
 omega
theorem KJ.append [OA] (I:KJ lim n J D S H i s G) (hn:n<2 ^ 19) (hi:i<1000) (k:Fresh h G q cb b) (t:∀j∈J::D::S::blk s.pp,j<h)
  (z:n / 2<s.nn+OU b.length->Q (Vi 4) G)
  (h0:∀s' G',KJ lim n J D S H (i+1) s' G'->s'.rl=s.rl->s'.bs=s.bs++[(s.lf,b)]->s'.lf=s.lf->Chg (J::D::blk s.pp) G G'->(∀a,s'.pp=some a->a.block∈blk s.pp\/G.length<=a.block)->Q (Vi 0) G') :
  NQ E false lim 36 [Vp J,.slice q b.length cb] G Q:=by
 have F:=I.fits
 have o:=I.nn
 have B:=I.plen
 have c:=I.len
 have v:=k.len
 have A:=Nqn b.length
 have a1:=I.kd.a1
 have r:=Nrl k t
 refine Nos I.li (k.own.sl Rv) k.own.capOk k.nil (fun a f _=>by
  have:=r a f
  simp only [Ni,not_or] at this
  exact ⟨this.1,this.2.1,this.2.2.2⟩) (by omega) (by omega) (by omega) (by omega) a1 (fun hr=>z (by omega)) fun w u p hr g m d=>?_
 rw [c] at hr d
 refine h0 ⟨s.area,s.e,s.lf,s.nn+OU b.length,u,p,s.safe,s.pend++Rx (s.area*(n / 2)) s.e s.lf s.nn (W9 b),s.rl,s.bs++[(s.lf,b)]⟩ w ⟨d,I.kd, ?_,c, ?_, ?_, ?_,by have:=I.lf;show s.lf<=_;omega,by have:=I.e;show s.e<=_;omega, ?_, ?_,I.jn,I.dn,I.sn⟩ rfl rfl rfl g (fun a f=>by
  by_cases l:a.block∈blk s.pp
  ·exact .inl l
  ·exact .inr (m a f l))
 ·intro x hx
  rcases Oa.1 hx with hx | hx
  ·exact I.hb x hx
  ·simp only [Ng] at hx
   subst hx
   exact ⟨rfl,by show b.length<_;omega⟩
 ·show s.nn+OU b.length=OC s.rl+OC (s.bs++[(s.lf,b)])
  rw [Sg,o]
  simp only [OC];omega
 ·show s.nn+OU b.length<=n / 2
  omega
 ·show s.pend++_=Rx _ _ _ _ (X8 (s.bs++[(s.lf,b)]))
  rw [Nns,Yu,VP,<-o,I.pend]
 ·refine I.chg.trans' g fun j h1 h2=>?_
  have:=I.jn
  have:=I.dn
  simp only [Ni] at h1
  rcases h1 with h1 | h1 | h1
  ·omega
  ·omega
  ·obtain ⟨a',e1,e2⟩:=SE.1 h1
   have:=I.new a' e1
   omega
 ·intro a f
  by_cases l:a.block∈blk s.pp
  ·obtain ⟨y,e3,C⟩:=SE.1 l
   have:=I.new y e3
   omega
  ·have:=m a f l
   have:=I.chg.len
   omega
theorem KJ.commit [OA] (I:KJ lim n J D S H i s G) (hn:n<2 ^ 19)
  (h0:∀s' G',KJ lim n J D S H i s' G'->s'.rl=s.rl++s.bs->s'.bs=[]->s'.pp=none->s'.pend=[]->s'.safe=QS [] s.pend s.safe->s'.lf=s.lf->Chg [S,D] G G'->Q (Vi 0) G') :
  NQ E false lim 66 [Vp J] G Q:=by
 have h:=I.fits
 have d:=I.nn
 have k:=I.plen
 have b:=I.len
 refine Nop I.li (by omega) (by omega) fun H' f c=>?_
 refine h0 ⟨s.area,s.e,s.lf,s.nn,none,0,QS [] s.pend s.safe,[],s.rl++s.bs,[]⟩ H' ⟨c,I.sync,by simp,by rw [Re];exact b,by rw [Sg];exact d,h,rfl,I.lf,I.e,I.chg.trans' f (fun j h1 h2=>by
  have:=I.dn
  have:=I.sn
  simp only [Ni,Np,or_false] at h1;omega),(by intro a g;cases g),I.jn,I.dn,I.sn⟩ rfl rfl rfl rfl rfl rfl f
theorem KJ.right (I:KJ lim n J D S H i s G) (hn:4<=n) (b:n<=32768):WK s.safe.length s.pend=true:=by
 have d:=I.fits
 have c:=I.nn
 have a1:=I.kd.a1
 have key:∀(r:List (Nat×List UInt8)) (k:Nat),s.area*(n / 2)+k+r.length<=n->(Rx (s.area*(n / 2)) s.e s.lf k r).all (fun w=>UI n w.pos)=true:=by
  intro r
  induction r with
  | nil=>intro k _;rfl
  | cons x r ih=>
    intro k a
    simp only [Nm] at a
    rw [Rx,List.all_cons,ih (k+1) (by omega),Bool.and_true]
    unfold UI
    rw [Nx]
    show 0<=((s.area*(n / 2)+k:Nat):Int)/\((s.area*(n / 2)+k:Nat):Int)<(n:Int)
    omega
 unfold WK
 rw [I.len,I.pend,key _ _ (by rw [VP];rcases (show s.area=0\/s.area=1 by omega) with h | h<;>rw [h]<;>omega),Bool.and_true,Nx]
 omega
theorem KJ.begun (c:4<=n) (hn:n<2 ^ 15) (b:Chg [] H G) (f:H.length<=J) (e:H.length<=D) (hS:H.length<=S) (g:Lies lim G J D S 0 1 1 1 n none 0 (Nfl n) []):KJ lim n J D S H 0 ⟨0,1,1,1,none,0,Nfl n,[],[(1,[])],[]⟩ G:=
 ⟨g,KD.begun n c (by omega),by simp,Nli n,rfl,by show 1<=n / 2;omega,rfl,Nd _,Nd _,b,(by intro a d;cases d),f,e,hS⟩
end
def BU0:BU:=⟨[],[],[],[]⟩
def RF:List (List ByteArray)->BU->Option BU
 | [],u=>some u
 | c::cs,u=>if RY u c=0 then RF cs (doneD u c) else none
theorem U7:∀{a b:List (List ByteArray)} {u:BU},RF (a++b) u=(RF a u).bind (RF b)
 | [],b,u=>rfl
 | c::a,b,u=>by
   rw [N1,RF,RF]
   split
   ·exact U7
   ·rfl
theorem V8 {u:BU} {c:List ByteArray} (h:RY u c=0):(doneD u c).calls=u.calls++[c]:=by
 unfold RY at h
 unfold doneD
 cases e:QV c with
 | none=>rw [e] at h;cases h
 | some x=>rfl
theorem Y5:∀{cs:List (List ByteArray)} {u v:BU},RF cs u=some v->v.calls=u.calls++cs
 | [],u,v,h=>by cases h;simp
 | c::cs,u,v,h=>by
   rw [RF] at h
   split at h
   ·rename_i h1
    rw [Y5 h,V8 h1,Nl];rfl
   ·cases h
theorem Wf.stepD {n:Nat} {u:BU} {c:List ByteArray} (h:Wf n u) (he:RY u c=0):Wf (n+1) (doneD u c):=by
 have e1:=V8 he
 unfold RY at he
 unfold doneD at e1⊢
 cases e:QV c with
 | none=>rw [e] at he;cases he
 | some x=>
   rw [e] at he
   have h1:=h.step he
   have hc:=h.calls
   rw [e] at e1
   exact ⟨by rw [e1,Nk];show u.calls.length+1<=_;omega,h1.ents,h1.frm,h1.sc⟩
theorem Zo:∀{cs:List (List ByteArray)} {u v:BU} {n:Nat},RF cs u=some v->Wf n u->Wf (n+cs.length) v
 | [],u,v,n,h,hw=>by cases h;exact hw
 | c::cs,u,v,n,h,hw=>by
   rw [RF] at h
   split at h
   ·rename_i h1
    have:=Zo h (hw.stepD h1)
    rw [show (c::cs).length=cs.length+1 from rfl,show n+(cs.length+1)=n+1+cs.length by omega]
    exact this
   ·cases h
theorem Nfp {cs:List (List ByteArray)} {u v:BU} (k:Nat) (h:RF cs u=some v):∃v',RF (cs.take k) u=some v':=by
 rw [<-O8 k cs,U7] at h
 cases e:RF (cs.take k) u with
 | none=>rw [e] at h;cases h
 | some v'=>exact ⟨v',rfl⟩
theorem ZJ {cs:List (List ByteArray)} {c:List ByteArray} {u v:BU} (h:RF cs u=some v) (he:RY v c=0):RF (cs++[c]) u=some (doneD v c):=by
 rw [U7,h]
 show RF [c] v=_
 rw [RF,Nj he];rfl
structure Fine (l:List ByteArray):Prop where
 ne:l≠[]
 len:l.length<=7
 size:∀s∈l,s.size<=40
theorem RI {t:ByteArray} {v:Int} (h:Rs t=some v):t.size<=40:=by
 unfold Rs at h
 split at h
 ·split at h
  ·rename_i e
   have:=Vj (n:=v)
   first | (rw [<-e];rename_i v' _;have:=Vj (n:=v');omega) | (rw [e];rename_i v' _;have:=Vj (n:=v');omega)
  ·cases h
 ·cases h
theorem YP {l:List ByteArray} (h0:l≠[]) (h1:l.length<=7) (h2:∀s∈l,s.size<=40):Fine l:=⟨h0,h1,h2⟩
theorem Nkq {u:BU} {l:List ByteArray} {g:Cl} (hr:QV l=some g) (he:Rm u g=0):Fine l:=by
 have j:Tj.size<=40:=by decide
 have m:Ug.size<=40:=by decide
 have k:SY.size<=40:=by decide
 have o:TJ.size<=40:=by decide
 have n:Rw.size<=40:=by decide
 unfold QV at hr
 split at hr
 ·rename_i w a b
  split at hr
  ·rename_i e
   obtain ⟨id,h1,rfl⟩:=Nc.1 hr
   have hb:b.size<=40:=by
    unfold Rm at he
    simp only at he
    split at he
    ·cases he
    ·rename_i q;omega
   refine YP (by simp) (by simp) fun s c=>?_
   simp only [Ni,Np,or_false] at c
   rcases c with rfl | rfl | rfl
   ·rw [e];exact j
   ·exact RI h1
   ·exact hb
  split at hr
  ·rename_i e
   split at hr
   ·rename_i h1 h2
    refine YP (by simp) (by simp) fun s c=>?_
    simp only [Ni,Np,or_false] at c
    rcases c with rfl | rfl | rfl
    ·rw [e];exact m
    ·exact RI h1
    ·exact RI h2
   ·cases hr
  split at hr
  ·rename_i e
   split at hr
   ·rename_i h1 h2
    refine YP (by simp) (by simp) fun s c=>?_
    simp only [Ni,Np,or_false] at c
    rcases c with rfl | rfl | rfl
    ·rw [e];exact n
    ·exact RI h1
    ·exact RI h2
   ·cases hr
  ·cases hr
 ·split at hr
  ·rename_i e
   split at hr
   ·rename_i h1 h2 d f
    refine YP (by simp) (by simp) fun s c=>?_
    simp only [Ni,Np,or_false] at c
    rcases c with rfl | rfl | rfl | rfl | rfl
    ·rw [e];exact k
    ·exact RI h1
    ·exact RI h2
    ·exact RI d
    ·exact RI f
   ·cases hr
  ·cases hr
 ·split at hr
  ·rename_i e
   split at hr
   ·rename_i h1 h2 d f h i
    refine YP (by simp) (by simp) fun s c=>?_
    simp only [Ni,Np,or_false] at c
    rcases c with rfl | rfl | rfl | rfl | rfl | rfl | rfl
    ·rw [e];exact o
    ·exact RI h1
    ·exact RI h2
    ·exact RI d
    ·exact RI f
    ·exact RI h
    ·exact RI i
   ·cases hr
  ·cases hr
 ·cases hr
theorem Xw {u:BU} {c:List ByteArray} (h:RY u c=0):Fine c:=by
 unfold RY at h
 cases e:QV c with
 | none=>rw [e] at h;cases h
 | some x=>rw [e] at h;exact Nkq e h
theorem Fine.pack {l:List ByteArray} (h:Fine l):VK l=(Ri l,0)/\(Ri l).length<=300:=by
 have key:∀l:List ByteArray,(∀s∈l,s.size<=40)->(Ri l).length<=l.length*42:=fun l=>by
  induction l with
  | nil=>intro _;simp [Ri]
  | cons s l ih=>
    intro h
    have h1:=ih fun x c=>h x (by simp [c])
    have h2:=h s (by simp)
    simp only [Ri,Oi,Nk,Vk,Nm,Nn,Vg] at h1⊢
    omega
 have h1:=key l h.size
 have h2:=h.len
 have a:(Ri l).length<=300:=by omega
 refine ⟨?_,a⟩
 unfold VK
 rw [Nh (by omega),Nh,Nh (by omega)]
 rw [Bool.not_eq_true,List.any_eq_false]
 intro s b
 have:=h.size s b
 simp;omega
theorem Nmd {s:ByteArray} (h:s.size<65536):SN (UInt8.ofNat (s.size / 256)) (UInt8.ofNat s.size)=s.size:=by
 unfold SN
 rw [UInt8.toNat_ofNat',UInt8.toNat_ofNat']
 omega
theorem Nai {s:ByteArray} {l:List ByteArray}:Ri (s::l)=UInt8.ofNat (s.size / 256)::UInt8.ofNat s.size::(s.data.toList++Ri l):=by
 simp [Ri,Vk]
theorem Nsb {s:ByteArray}:(⟨s.data.toList.toArray⟩:ByteArray)=s:=by cases s;simp
theorem ZL:∀(l:List ByteArray) (c:Nat),l.length<=c->(∀s∈l,s.size<=1000)->UN c (Ri l)=some l
 | [],c,_,_=>by cases c<;>rfl
 | s::l,0,h,_=>by simp at h
 | s::l,c+1,h,hs=>by
   have h1:=hs s (by simp)
   have hl:=Vg s
   rw [Nai,UN,Nmd (by omega),Nj ⟨h1,by rw [Nk,hl];omega⟩]
   rw [show s.size=s.data.toList.length from hl.symm,List.drop_left,List.take_left,ZL l c (by simp at h;omega) fun x a=>hs x (by simp [a]),Nsb]
   rfl
theorem Fine.unp {l:List ByteArray} (h:Fine l):Mr (Ri l)=(l,0):=by
 have h1:=h.pack.2
 have h2:=h.len
 unfold Mr
 rw [Nh (by omega),ZL l 100 (by omega) fun s a=>by have:=h.size s a;omega]
theorem Njj {α β:Type} [Inhabited α] [Inhabited β] {f:α->β} {l:List α} {k:Nat} (h:k<l.length):gt (l.map f) k=f (gt l k):=by
 rw [Vm (by simpa using h),Vm h,Q6]
section
variable {lim l0 n J D S iv B:Nat} {H0:NB} {s:SU} {sj:SJ} {G:NB} {Q:Value->NB->Prop}
structure JB (lim l0 n J D S:Nat) (H0:NB) (iv B:Nat) (s:SU) (sj:SJ) (G:NB):Prop where
 kb:KB l0 B (Vp J) s G
 kj:KJ lim n J D S H0 iv sj G
 sep:∀j∈J::D::S::blk sj.pp,(∀r,s.ptr B r≠some j)/\∀c∈s.calls,∀a,c.p=some a->a.block≠j
 rcs:(sj.rl++sj.bs).map (·.2)=[]::s.st.calls.map Ri
 val:RF s.st.calls BU0=some s.st
theorem Zv:∀(l:LR),l.length<=OC l
 | []=>by simp [OC]
 | x::l=>by
   have:=Zv l
   have h:1<=OU x.2.length:=by unfold OU;omega
   simp only [OC,Nm];omega
theorem JB.many (h:JB lim l0 n J D S H0 iv B s sj G):s.calls.length+1<=n / 2:=by
 have h1:=Zv (sj.rl++sj.bs)
 rw [Sg,<-h.kj.nn] at h1
 have h2:=Qj List.length h.rcs
 simp only [Nz,Nm,SU.st] at h2
 have:=h.kj.fits
 omega
theorem JB.wf (h:JB lim l0 n J D S H0 iv B s sj G):Wf s.calls.length s.st:=by
 have:=Zo (n:=0) h.val ⟨by simp [BU0],(fun id m a=>by cases a),(fun id m a=>by cases a),by simp [BU0]⟩
 rw [Nr] at this
 simpa [SU.st] using this
theorem JB.lives (h:JB lim l0 n J D S H0 iv B s sj G):∀j∈J::D::S::blk sj.pp,j<G.length:=fun j hj=>by
 obtain ⟨k1,k2,k3,b⟩:=h.kj.lives
 simp only [Ni] at hj
 rcases hj with hj | hj | hj | hj
 ·omega
 ·omega
 ·omega
 ·obtain ⟨a,e1,e2⟩:=SE.1 hj
  have:=b a e1;omega
theorem JB.to {G':NB} {A:List Nat} (h:JB lim l0 n J D S H0 iv B s sj G) (hc:Chg A G G') (f:∀j∈A,H0.length<=j/\(∀r,s.ptr B r≠some j)/\(∀c∈s.calls,∀a,c.p=some a->a.block≠j)/\j∉J::D::S::blk sj.pp):JB lim l0 n J D S H0 iv B s sj G':=
 ⟨h.kb.to hc fun j d=>⟨(f j d).2.1,(f j d).2.2.1⟩,h.kj.to hc fun j d=>by
  obtain ⟨i,_,_,b⟩:=f j d
  simp only [Ni,not_or] at b
  exact ⟨i,b.1,b.2.1,b.2.2.1,fun a g e=>b.2.2.2 (SE.2 ⟨a,g,e⟩)⟩,h.sep,h.rcs,h.val⟩
theorem JB.new {G':NB} (h:JB lim l0 n J D S H0 iv B s sj G) (hc:Chg [] G G'):JB lim l0 n J D S H0 iv B s sj G':=h.to hc fun _ a=>by cases a
theorem JB.step {a:Nat} (h:JB lim l0 n J D S H0 iv B s sj G) (hi:iv<=a):JB lim l0 n J D S H0 a B s sj G:=⟨h.kb,h.kj.step hi,h.sep,h.rcs,h.val⟩
theorem Nw2 [OA] {fr:Nat->Value} {H:NB} {g:FuncId} {cs:Array Value} {p:Option Addr} {c:List ByteArray} {k N:Nat} {u:BU} {v1 v2 v3 v4:Value} (r:fr 0=Vp B) (t:fr 1=.slice p c.length k) (hl:lim<=l0) (F:lim<=H.length)
  (w:NF H B=Vc [Vp J,v1,v2,v3,v4]) (Y:B∉J::D::blk sj.pp) (hs:Sl H SL 1 p c) (f:Fine c) (I:KJ lim n J D S H0 iv sj H) (hn:n<2 ^ 19) (hi:iv<1000)
  (C:∀H',Chg (J::D::blk sj.pp) H H'->∀L:Value->NB->Prop,(∀s1 G1,Mid l0 B (Vp J) s N H.length H' p c u s1 G1->L (.tuple #[]) G1)->NQ E false lim g cs.toList H' L)
  (U:∀H',n / 2<sj.nn+OU (Ri c).length->Chg [] H H'->Q (Vi 4) H')
  (Z:∀b H' s1 G1 s' G',KJ lim n J D S H0 (iv+1) b H'->b.rl=sj.rl->b.bs=sj.bs++[(sj.lf,Ri c)]->b.lf=sj.lf->Chg (J::D::blk sj.pp) H H'->(∀a,b.pp=some a->a.block∈blk sj.pp\/H.length<=a.block)->
   Mid l0 B (Vp J) s N H.length H' p c u s1 G1->Aft l0 B (Vp J) s1 G1 { s1.st with calls:=s1.st.calls++[c] } s' G'->Q (Vi 0) G') :
  QW E a18 lim [.ops none [mT 26 31,Et 32 0 26,Et 33 1 26,mT 7 32,mT 8 33],.code R18] (upd fr 31 (.tuple #[.func (.func g) #[] cs,Vi 0])) H Q:=by
 simp only [R18,c18,Vf]
 have W:=fun X=>(QP.refl.app (X:=X)).cells w
 simp only [n18,r18,r,t,w,VR,Nb,SB,seval,NC,NH,NG,NT,reduceCtorEq,ND,place,NA,NE]
 refine Nuq hs rfl F fun q cq K d m=>?_
 rw [f.pack.1] at m⊢
 simp only at m⊢
 have y:=d.cells w (by simp)
 have v:=fun X=>(QP.refl.app (X:=X)).cells y
 refine NI ?_
 simp only [n18,r18,r,t,v,SB,seval,NC,NH,NG,NT,reduceCtorEq,ND,place,NA,NE]
 rw [Nb]
 have O:KJ lim n J D S H0 iv sj K:=I.to d fun _ hj=>by cases hj
 obtain ⟨b1,b2,b3,R⟩:=I.lives
 have A:Ri c=[]->q=none:=fun e=>by
  obtain ⟨x,l,rfl⟩:=List.exists_cons_of_ne_nil f.ne
  rw [Nai] at e;cases e
 have ab:=f.pack.2
 refine O.append hn hi (h:=H.length) ⟨m,A,by omega⟩ (fun j hj=>?_) (fun o=>?_) fun b H' P e1 e2 e3 z G=>?_
 ·simp only [Ni] at hj
  rcases hj with hj | hj | hj | hj
  ·omega
  ·omega
  ·omega
  ·obtain ⟨a,e1,e2⟩:=SE.1 hj
   have:=R a e1;omega
 ·refine NI ?_
  simp only [n18,r18,r,t,SB,seval,NC,NH,NG,NT,reduceCtorEq,ND,place,NA,NE]
  rw [Nb]
  exact U K o d
 ·have i:Chg (J::D::blk sj.pp) H H':=(d.mono fun _ _ hj=>by cases hj).trans' z fun j hj _=>hj
  refine NI ?_
  simp only [n18,r18,r,t,SB,seval,NC,NH,NG,NT,reduceCtorEq,ND,place,NA,NE]
  rw [Nb]
  refine C H' i _ fun s1 G1 M=>?_
  refine NI ?_
  have aa:=d.len
  exact Nus (fr:=upd _ _ _) r t hl f.ne (by have:=f.len;omega) M.kb M.arg M.len M.big fun s' G' V=>Z b H' s1 G1 s' G' P e1 e2 e3 i (fun a T=>(G a T).imp (fun q=>q) fun q=>by omega) M V
theorem Nwc [OA] {k:Nat} {p:Option Addr} {c:List ByteArray} (h:JB lim l0 n J D S H0 iv B s sj G) (hn:n<2 ^ 19) (hi:iv<1000) (hl:lim<=l0) (N:l0<=G.length) (W:Sl G SL 1 p c) (y:Us 1 k c.length) (P:∀a,p=some a->a.block<G.length) (z:∀a,p=some a->(∀r,s.ptr B r≠some a.block)/\a.block∉J::D::S::blk sj.pp) (hz:∀t∈c,t.size<=281474976710656) (hc:c.length<2 ^ 30) (aa:H0.length<=l0)
  (hE:∀G',RY s.st c≠0->Chg [] G G'->Q (Vi (RY s.st c)) G')
  (h4:∀G',RY s.st c=0->n / 2<sj.nn+OU (Ri c).length->Chg [] G G'->Q (Vi 4) G')
  (h0:∀s' d G',RY s.st c=0->JB lim l0 n J D S H0 (iv+1) B s' d G'->s'.st=doneD s.st c->d.rl=sj.rl->d.bs=sj.bs++[(sj.lf,Ri c)]->(∃A,(∀j∈A,(∃r,s.ptr B r=some j)\/j∈J::D::blk sj.pp)/\Chg A G G')->
   (∀r j,s'.ptr B r=some j->s.ptr B r=some j\/G.length<=j)->(∀x∈s'.calls,x∈s.calls\/∀a,x.p=some a->G.length<=a.block)->(∀a,d.pp=some a->a.block∈blk sj.pp\/G.length<=a.block)->Q (Vi 0) G') :
  NQ E false lim 18 [Vp B,.slice p c.length k] G Q:=by
 have O:=h.many
 have sub:∀j,j∈J::D::blk sj.pp->j∈J::D::S::blk sj.pp:=fun j hj=>by
  simp only [Ni] at hj⊢
  rcases hj with hj | hj | hj<;>simp [hj]
 have o:∀j∈J::D::blk sj.pp,j<G.length/\(∀r,s.ptr B r≠some j)/\(∀x∈s.calls,∀a,x.p=some a->a.block≠j)/\∀a,p=some a->a.block≠j:=fun j hj=>⟨h.lives j (sub j hj),(h.sep j (sub j hj)).1,(h.sep j (sub j hj)).2,fun a f e=>(z a f).2 (e▸sub j hj)⟩
 refine Nu5 (A:=J::D::blk sj.pp) h.kb h.wf (by omega) hl N W y P (fun a f=>(z a f).1) hz hc o (fun G' l he=>hE G' he l) fun cl hr he fr H g cs f0 f1 l L=>?_
 have e0:RY s.st c=0:=by unfold RY;rw [hr];exact he
 have ab:=l.len
 refine Nw2 f0 f1 hl (by omega) (h.new l).kb.b (fun hB=>(h.sep B (sub B hB)).1 .b rfl) (l.sl W fun _ _ _ hj=>by cases hj) (Nkq hr he) (h.kj.to l fun _ hj=>by cases hj) hn hi L (fun H' w K=>h4 H' e0 w (l.trans' K fun _ hj=>by cases hj)) fun d H' s1 G1 s' G' I e1 e2 e3 v C M F=>?_
 have U:=v.len
 obtain ⟨q1,q2,X,Y,A',T,Z⟩:=M.aft (fun j hj=>(o j hj).1) l v F
 have u:s'.st=doneD s.st c:=by rw [q2,M.st];unfold doneD;rw [hr];simp only [Me]
 have i:∀j∈J::D::S::blk d.pp,j∈J::D::S::blk sj.pp\/H.length<=j/\j<H'.length:=fun j hj=>by
  simp only [Ni] at hj⊢
  rcases hj with hj | hj | hj | hj
  ·simp [hj]
  ·simp [hj]
  ·simp [hj]
  ·obtain ⟨a,f,e⟩:=SE.1 hj
   have h1:=I.lives.2.2.2 a f
   rcases C a f with q | q
   ·rw [e] at q;simp [q]
   ·omega
 refine h0 s' d G' e0 ⟨q1,I.to Z fun j hj=>?_,fun j hj=>⟨fun r hr=>?_,fun x R a f e=>?_⟩, ?_, ?_⟩ u e1 e2 ⟨(J::D::blk sj.pp++A').filter (fun j=>decide (j<G.length)),fun j hj=>?_, ?_⟩ (fun r j hr=>(X r j hr).imp (fun q=>q) fun q=>by omega) (fun x R=>(Y x R).imp (fun q=>q) fun q a f=>by have:=q a f;omega) (fun a f=>(C a f).imp (fun q=>q) fun q=>by omega)
 ·have key:∀m,m∈J::D::S::blk d.pp->j≠m:=fun m V e=>by
   subst e
   rcases T j hj with ⟨r,q⟩ | q
   ·rcases i j V with k | k
    ·exact (h.sep j k).1 r q
    ·have:=(h.kb.lt q).2;omega
   ·rcases i j V with k | k
    ·have:=h.lives j k;omega
    ·omega
  refine ⟨?_,key J (by simp),key D (by simp),key S (by simp),fun a f e=>key a.block (by simp [SE.2 ⟨a,f,rfl⟩]) e.symm⟩
  rcases T j hj with ⟨r,q⟩ | q
  ·have:=(h.kb.lt q).1;omega
  ·omega
 ·rcases X r j hr with q | q
  ·rcases i j hj with k | k
   ·exact (h.sep j k).1 r q
   ·have:=(h.kb.lt q).2;omega
  ·rcases i j hj with k | k
   ·have:=h.lives j k;omega
   ·omega
 ·rcases Y x R with q | q
  ·rcases i j hj with k | k
   ·exact (h.sep j k).2 x q a f e
   ·have:=(h.kb.cs x q).2 a f;omega
  ·have q:=q a f
   rcases i j hj with k | k
   ·have:=h.lives j k;omega
   ·omega
 ·rw [e1,e2,<-Nl,Po,h.rcs,u,V8 e0,Po]
  rfl
 ·rw [u,V8 e0]
  exact ZJ h.val e0
 ·simp only [On,Oa,Nx] at hj
  rcases hj.1 with q | q
  ·exact .inr q
  ·rcases T j q with r | r
   ·exact .inl r
   ·omega
 ·refine ((l.mono fun _ _ hj=>by cases hj).trans' v fun j hj hl=>?_).trans' Z fun j hj hl=>?_
  ·exact On.2 ⟨Ow _ hj,by simpa using hl⟩
  ·exact On.2 ⟨Ps _ hj,by simpa using hl⟩
end
section
variable {lim l0 n J D S iv B:Nat} {H0:NB} {jv:Value} {s:SU} {sj:SJ} {G:NB} {Q:Value->NB->Prop}
theorem KB.le {l1:Nat} (h:KB l0 B jv s G) (hl:l1<=l0):KB l1 B jv s G:=
 ⟨h.b,h.m,h.x,h.oc.le hl,h.os.le hl,fun id m a=>(h.oe id m a).le hl,fun id m a=>(h.oi id m a).le hl,h.cs,by have:=h.lB;omega,by have:=h.lM;omega,by have:=h.lX;omega,h.inj,h.cf⟩
theorem KB.swap {l:Value} {G':NB} (h:KB l0 B jv s G) (hc:Chg [B] G G') (hb:NF G' B=Vc [l,.slice s.cp s.calls.length s.cc,.map (some s.M),.map (some s.X),.slice s.sp s.sc.length s.sk]):KB l0 B l s G':=by
 have hn:∀{r:Ro} {j:Nat},s.ptr B r=some j->r≠.b->j∉[B]:=fun {r j} hr f n=>by
  rw [Ng.1 n] at hr
  exact f (h.inj r .b B hr rfl)
 have hp:∀{p:Option Addr} {r:Ro},s.ptr B r=bk p->r≠.b->∀a,p=some a->a.block∉[B]:=fun {p r} e f a g=>hn (r:=r) (by rw [e,g];rfl) f
 exact ⟨hb,hc.get h.m (h.lt (r:=.m) rfl).2 (hn (r:=.m) rfl (by simp)),hc.get h.x (h.lt (r:=.x) rfl).2 (hn (r:=.x) rfl (by simp)),h.oc.chg hc (hp (r:=.c) rfl (by simp)),h.os.chg hc (hp (r:=.s) rfl (by simp)),fun id m k=>(h.oe id m k).chg hc (hp (r:=.e id) (by simp [SU.ptr,k]) (by simp)),fun id m k=>(h.oi id m k).chg hc (hp (r:=.i id) (by simp [SU.ptr,k]) (by simp)),fun c d=>⟨hc.sl (h.cs c d).1 fun a g _ n=>h.cf c d a g .b (by rw [Ng.1 n];rfl),fun a g=>by have:=(h.cs c d).2 a g;have:=hc.len;omega⟩,h.lB,h.lM,h.lX,h.inj,h.cf⟩
theorem Aft.sep {u:BU} {s':SU} {G':NB} {A:Nat->Prop} (h:Aft l0 B jv s G u s' G') (f:∀j,A j->j<G.length/\(∀r,s.ptr B r≠some j)/\∀c∈s.calls,∀a,c.p=some a->a.block≠j):∀j,A j->(∀r,s'.ptr B r≠some j)/\∀c∈s'.calls,∀a,c.p=some a->a.block≠j:=fun j g=>by
 obtain ⟨h1,h2,d⟩:=f j g
 refine ⟨fun r hr=>?_,fun x i a b e=>?_⟩
 ·rcases h.ptr r j hr with q | q
  ·exact h2 r q
  ·omega
 ·rcases h.calls x i with q | q
  ·exact d x q a b e
  ·have:=q a b;omega
theorem N0k:Wf 0 BU0:=⟨by simp [BU0],(fun id m a=>by cases a),(fun id m a=>by cases a),by simp [BU0]⟩
theorem Ncz {cs:List (List ByteArray)} {u v w:BU} {k:Nat} (h:RF cs w=some u) (b:k<cs.length) (a:RF (cs.take k) w=some v):RY v (gt cs k)=0/\RF (cs.take (k+1)) w=some (doneD v (gt cs k)):=by
 have e:cs.take (k+1)=cs.take k++[gt cs k]:=Sk b
 have he:RY v (gt cs k)=0:=by
  rw [<-O8 (k+1) cs,e,Nl,U7,a] at h
  change RF (gt cs k::cs.drop (k+1)) v=some u at h
  rw [RF] at h
  split at h
  ·assumption
  ·cases h
 exact ⟨he,by rw [e];exact ZJ a he⟩
theorem Nsk [OA] {cs:List (List ByteArray)} {u:BU} {H:NB} (hl:lim<=H0.length) (a9:H0.length<=H.length) (hn:n<2 ^ 19) (C:RF cs BU0=some u)
  (hO:∀Q':Value->NB->Prop,(∀J sj G1,KJ lim n J D S H0 iv sj G1->sj.bs=[]->sj.rl.map (·.2)=[]::cs.map Ri->sj.pend.length<2 ^ 30->Chg [S,D] H G1->Q' (.tuple #[Vp J,Vi 0]) G1)->NQ E false lim 33 [Vp D] H Q')
  (hQ:∀s sj J B G',JB lim H0.length n J D S H0 iv B s sj G'->s.st=u->sj.bs=[]->Chg [S,D] H G'->Q (.tuple #[Vp B,Vi 0]) G') :
  NQ E false lim 26 [Vp D] H Q:=by
 refine runs (by decide) e26 rfl ?_
 rw [b26,c26]
 simp only [n26,r26,SB,seval,NC,NH,NG,NT,reduceCtorEq,ND,place,NA,NE]
 rw [Nb]
 refine hO _ fun J sj G1 I U ag a2 ai=>?_
 have bd:=ai.len
 refine NI ?_
 simp only [n26,r26,SB,seval,NC,NH,NG,NT,reduceCtorEq,ND,place,NA,NE]
 rw [Nb]
 refine Nsl (by omega) fun G2 K2 aa=>?_
 have be:=aa.len
 refine NI ?_
 simp only [n26,r26,SB,seval,NC,NH,NG,NT,reduceCtorEq,ND,place,NA,NE]
 rw [Nb]
 have I2:=I.to aa fun _ hj=>by cases hj
 have a5:=I.kd.sz
 have aj:(recs (TN sj.pend sj.safe sj.area)).1=[]::cs.map Ri:=by rw [I.recs,U,Nb,ag]
 refine Nka I2.li a5 a2 I.kd.a1 (by omega) fun G3 h3 q cq ds R bc hR=>?_
 rw [aj] at hR⊢
 have bf:=R.len
 have K3:=K2.new R
 have I3:=I2.to R fun _ hj=>by cases hj
 have ah:Chg [S,D] H G3:=(ai.trans' aa fun _ hj=>by cases hj).trans' R fun _ hj=>by cases hj
 have bb:cs.length<2 ^ 30:=by
  have h1:=Zv sj.rl
  have h2:=Qj List.length ag
  have h3:=I.nn
  have h4:=I.fits
  simp only [Nz,Nm] at h2
  rw [U] at h3
  simp only [OC] at h3
  omega
 obtain ⟨L,hL⟩:∃L,L=[]::cs.map Ri:=⟨_,rfl⟩
 rw [<-hL] at hR⊢
 have au:L.length=cs.length+1:=by rw [hL];simp
 have lv:=I.lives
 have ad:∀j,j∈J::D::S::blk sj.pp->j<G1.length:=fun j hj=>by
  simp only [Ni] at hj
  rcases hj with hj | hj | hj | hj
  ·omega
  ·omega
  ·omega
  ·obtain ⟨a,e1,e2⟩:=SE.1 hj
   have:=lv.2.2.2 a e1;omega
 have av:∀k a,k<L.length->(gt ds k).1=some a->h3<=a.block/\a.block<G3.length:=fun k a hk N=>((hR.row k hk).2.block N)
 refine NI ?_
 simp only [n26,r26,SB,seval,NC,NH,NG,NT,reduceCtorEq,ND,place,NA,NE]
 refine QD (fun x:Nat×SU=>L.length-x.1) (fun x fr G=>x.1<=L.length/\fr 4=Vp J/\fr 6=Vp (G1.length+2)/\fr 21=.slice q L.length cq/\fr 22=Vi L.length/\fr 23=Vi x.1/\
   KB G1.length (G1.length+2) (.pointer none) x.2 G/\RF (cs.take (x.1-1)) BU0=some x.2.st/\RowsAt h3 G q cq ds L/\KJ lim n J D S H0 iv sj G/\Chg [S,D] H G/\G3.length<=G.length/\
   ∀j,(j<G1.length\/h3<=j/\j<G3.length)->(∀r,x.2.ptr (G1.length+2) r≠some j)/\∀c∈x.2.calls,∀a,c.p=some a->a.block≠j) (0,SU0 G1.length)
  ⟨N7 _,rfl,rfl,rfl,rfl,rfl,by rw [Nb];exact K3,rfl,by rw [Nb];exact hR,by rw [Nb];exact I3,by rw [Nb];exact ah,by simp,fun j hj=>⟨fun r hr=>?_,fun c hc=>by cases hc⟩⟩ ?_
 ·have:=K2.lt hr
  omega
 rintro ⟨k,s⟩ fr G ⟨hk,Y,Z,g,l,o,K,F,y,Ik,ac,a8,f⟩ hN
 simp only at hk o K F f
 rw [QG Nu1.eq_1]
 refine NI ?_
 by_cases a0:k<L.length
 ·have O:(k:Int)<(L.length:Int):=by omega
  have aw:=y.len
  have ak:=y.own.sl TL
  have az:=fun X=>(ak.app X).loadCell0 TL (i:=k) (by omega) (by decide)
  have W:=fun c (kk:IntKind) (H1:NB)=>ak.idx (c:=c) (k:=kk) (H1:=H1) (i:=k) (by omega)
  rw [aw] at W
  obtain ⟨r1,r2⟩:=y.row k a0
  have al:IntKind.i64.wrap ((k:Int)+1)=((k+1:Nat):Int):=QU (by omega)
  simp only [n26,r26,Y,Z,g,l,o,O,az,W,Njs,SB,seval,NC,NH,NG,NT,reduceCtorEq,ND,place,NA,NE]
  rw [r1,Nb]
  have aq:(gt L k).length<2 ^ 60:=by
   have:=r2.capOk
   have h1:k=0\/∃m,k=m+1/\m<cs.length:=by
    cases k with
    | zero=>exact .inl rfl
    | succ m=>exact .inr ⟨m,rfl,by omega⟩
   rcases h1 with rfl | ⟨m,rfl,hm⟩
   ·rw [hL];show 0<_;decide
   ·obtain ⟨v,hv⟩:=Nfp m C
    have hf:=(Xw (Ncz C hm hv).1).pack.2
    have e:gt L (m+1)=Ri (gt cs m):=by rw [hL,Rq,Njj hm]
    rw [e];omega
  refine Nof (r2.sl Rv) r2.capOk rfl (by omega) aq fun p c G5 d w=>?_
  have bg:=d.len
  cases k with
  | zero=>
    have e0:gt L 0=[]:=by rw [hL];rfl
    have eu:Mr []=([],0):=rfl
    rw [e0,eu]
    refine NI ?_
    simp only [n26,r26,Y,Z,g,l,o,al,e0,Nn,N6,SB,seval,NC,NH,NG,NT,reduceCtorEq,ND,place,NA,NE]
    refine hN (1,s) _ _ ⟨by omega,Y,Z,g,l,rfl,by rw [Nb];exact K.new d,F,by rw [Nb];exact y.chg d (fun _ _ h=>by cases h) (fun _ _ _ _ h=>by cases h),by rw [Nb];exact Ik.to d fun _ hj=>(by cases hj),by rw [Nb];exact ac.trans' d fun _ hj=>(by cases hj),by rw [Nb];omega,f⟩ (by show L.length-1<L.length-0;omega)
  | succ m=>
    have hm:m<cs.length:=by omega
    have e0:gt L (m+1)=Ri (gt cs m):=by rw [hL,Rq,Njj hm]
    obtain ⟨he,a4⟩:=Ncz C hm F
    have ae:=Xw he
    rw [e0,ae.unp] at w⊢
    simp only at w⊢
    have ax:¬(((m+1:Nat):Int)=0):=by omega
    refine NI ?_
    simp only [n26,r26,Y,Z,g,l,o,ax,SB,seval,NC,NH,NG,NT,reduceCtorEq,ND,place,NA,NE]
    rw [Nb]
    have a7:=Zo (n:=0) F N0k
    refine Nr2 (K.new d) a7 (by rw [N2];omega) (by omega) (by omega) (w.sl Ru) w.capOk (fun a N=>(w.block N).2) (fun a N r hr=>by have:=(w.block N).1;have:=(K.lt hr).2;omega) (fun t ht=>by have:=ae.size t ht;omega) (by have:=ae.len;omega) fun s' G6 hA=>?_
    rw [Nj he] at hA
    rw [he]
    obtain ⟨A,am,T⟩:=hA.chg
    have bh:=T.len
    have P:∀j∈A,G1.length<=j/\¬(h3<=j/\j<G3.length):=fun j hj=>by
     obtain ⟨r,hr⟩:=am j hj
     exact ⟨(K.lt hr).1,fun q=>(f j (.inr q)).1 r hr⟩
    refine NI ?_
    simp only [n26,r26,Y,Z,g,l,o,al,SB,seval,NC,NH,NG,NT,reduceCtorEq,ND,place,NA,NE]
    rw [Nb]
    have ba:=y.own
    refine hN (m+1+1,s') _ _ ⟨by show m+1+1<=_;omega,Y,Z,g,l,rfl,hA.kb,by rw [hA.st];exact a4,(y.chg d (fun _ _ h=>by cases h) (fun _ _ _ _ h=>by cases h)).chg T (fun b eb hb=>?_) (fun i hi a N hb=>(P _ hb).2 (av i a hi N)),(Ik.to d fun _ hj=>(by cases hj)).to T fun j hj=>?_,(ac.trans' d fun _ hj=>(by cases hj)).trans' T fun j hj h2=>absurd (P j hj).1 (by omega),by omega,hA.sep fun j hj=>⟨?_,f j hj⟩⟩ (by show L.length-(m+1+1)<L.length-(m+1);omega)
    ·have q:=hR.own.block eb
     exact (P _ hb).2 q
    ·have q:=(P j hj).1
     have z:∀x,x∈J::D::S::blk sj.pp->j≠x:=fun x hx e=>by have:=ad x hx;omega
     exact ⟨by omega,z J (by simp),z D (by simp),z S (by simp),fun a N e=>z a.block (by simp [SE.2 ⟨a,N,rfl⟩]) e.symm⟩
    ·rcases hj with q | q<;>omega
 ·obtain rfl:k=L.length:=by omega
  have O:¬((L.length:Int)<(L.length:Int)):=by omega
  have an:=fun X=>(QP.refl.app (X:=X)).cells K.b
  have lB:=K.lB
  have ao:=(K.lt (r:=.b) rfl).2
  obtain ⟨G',s1,g1,m1⟩:=RN ao (Vc [Vp J,.slice s.cp s.calls.length s.cc,.map (some s.M),.map (some s.X),.slice s.sp s.sc.length s.sk])
  have ay:lim<=G1.length+2:=by omega
  simp only [n26,r26,Y,Z,g,l,o,O,an,ay,s1,SB,seval,NC,NH,NG,NT,reduceCtorEq,ND,place,NA,NE]
  rw [Nb]
  have a6:cs.take (L.length-1)=cs:=by rw [au];exact O3
  rw [a6,C] at F
  have hu:s.st=u:=(Option.some.inj F).symm
  have V:s.st.calls=cs:=by rw [hu,Y5 C];rfl
  have ab:Chg [G1.length+2] G G':=Chg.refl.mut m1 (.inl (by simp))
  refine hQ s sj J (G1.length+2) G' ⟨(K.swap ab g1).le (by omega),Ik.to ab fun j hj=>?_,fun j hj=>f j (.inl (ad j hj)),by rw [U,Nb,ag,V],by rw [V,hu];exact C⟩ hu U (ac.trans' ab fun j hj h2=>by rw [Ng.1 hj] at h2;omega)
  rw [Ng.1 hj]
  have z:∀x,x∈J::D::S::blk sj.pp->G1.length+2≠x:=fun x hx e=>by have:=ad x hx;omega
  exact ⟨by omega,z J (by simp),z D (by simp),z S (by simp),fun a N e=>z a.block (by simp [SE.2 ⟨a,N,rfl⟩]) e.symm⟩
end
theorem Nti [OA] {lim n:Nat} {m:Int} {H:NB} {Q:Value->NB->Prop} (hl:lim<=H.length) (hn:n<2 ^ 40) (q:∀p cap H',Chg [] H H'->Own H.length H' Nez 1 p cap (WX m n)->Q (.slice p n cap) H'):NQ E false lim 25 [.int .u64 m,Vi n] H Q:=by
 refine runs (by decide) e25 rfl ?_
 rw [b25,c25]
 simp only [n25,r25,SB,seval,NC,NH,NG,NT,reduceCtorEq,ND,place,NA,NE]
 refine QD (fun s:Nat×Option Addr×Nat=>n-s.1) (fun s fr G=>s.1<=n/\fr 0=.int .u64 m/\fr 1=Vi n/\fr 5=.slice s.2.1 s.1 s.2.2/\fr 6=Vi s.1/\Chg [] H G/\Own H.length G Nez 1 s.2.1 s.2.2 (WX m s.1)) (0,none,0) ⟨N7 _,rfl,rfl,rfl,by rfl,Chg.refl.app,Own.nil⟩ ?_
 rintro ⟨i,p,cap⟩ fr G ⟨hi,h0,h1,e,f,g,d⟩ l
 simp only at hi e f d
 rw [QG Nu2.eq_1]
 refine NI ?_
 by_cases a:i<n
 ·have k:IntKind.i64.wrap ((i:Int)+1)=((i+1:Nat):Int):=QU (by omega)
  have b:Int.tmod (i:Int) 64=((i % 64:Nat):Int):=rfl
  have c:(((i % 64:Nat):Int)<0)=False:=by simp;omega
  have o:=d
  obtain ⟨r,hp,j,h,_⟩:=d.step (lim':=lim) (bytes:=1) hl Na7 (by decide) (U8 m i) (by rw [Va];unfold PQ;omega) (by rw [Va];omega) g.len [Vc [.bool (U8 m i)]] G.length 1 (by rw [NU];rfl)
  rw [Va] at hp
  simp only [n25,r25,h0,h1,e,f,a,b,k,c,O5,Ni7,hp,SB,seval,NC,NH,NG,NT,reduceCtorEq,ND,place,NA,NE]
  exact l (i+1,Sa (G.length+1),loose 1) _ _ ⟨by show i+1<=_;omega,h0,h1,rfl,rfl,h _ _ (Nd _) g,by rw [Ni6];exact j⟩ (by show _-(i+1)<_;omega)
 ·obtain rfl:i=n:=by omega
  simp only [n25,r25,h0,h1,e,f,a,SB,seval,NC,NH,NG,NT,reduceCtorEq,ND,place,NA,NE]
  exact q _ _ _ g.app (d.app _)
section
variable {lim l0 n J D S iv B:Nat} {H0:NB} {jv:Value} {s:SU} {sj:SJ} {G:NB} {Q:Value->NB->Prop}
structure CD (lim n D S:Nat) (H0:NB) (iv area e lf:Nat) (safe:List Rh) (rl:LR) (G:NB):Prop where
 d:NF G D=Vc [.slice (Sa S) safe.length n,Vz]
 s:NF G S=Vc (safe.flatMap Sr)
 lD:lim<=D
 lS:lim<=S
 SD:S≠D
 ko:KO area e lf safe rl
 len:safe.length=n
 fits:OC rl<=n / 2
 lf:lf<=iv+1
 e:e<=iv+1
 chg:Chg [] H0 G
 dn:H0.length<=D
 sn:H0.length<=S
def OpJ [OA] (lim n D S:Nat) (H0:NB) (iv:Nat) (cs:List (List ByteArray)) (G:NB):Prop:=
 ∀a:Value->NB->Prop,(∀J sj G1,KJ lim n J D S H0 iv sj G1->sj.bs=[]->sj.rl.map (·.2)=[]::cs.map Ri->sj.pend.length<2 ^ 30->Chg [S,D] G G1->a (.tuple #[Vp J,Vi 0]) G1)->NQ E false lim 33 [Vp D] G a
theorem CD.opj [OA] {area e lf:Nat} {safe:List Rh} {rl:LR} {cs:List (List ByteArray)} (c:CD lim n D S H0 iv area e lf safe rl G) (w:4<=n) (hn:n<2 ^ 15) (hi:iv<2000) (k:rl.map (·.2)=[]::cs.map Ri):OpJ lim n D S H0 (iv+1) cs G:=fun y t=>by
 obtain ⟨m,z,x⟩:=c.ko.opened
 have v:=c.lf
 have he:=c.e
 have g:=c.len
 have i:=x (by omega)
 refine Nk2 c.d c.s c.lD c.lS c.SD (by omega) (by omega) (by omega) (fun h=>by rw [m] at h;cases h) (fun o p l f r b=>?_) (fun o p l _ _ _=>by rw [m] at l;cases l)
 rw [m] at b
 simp only at b
 have u:=c.chg.len
 refine t p ⟨area,e,(VZ safe).2+1,OC rl,none,0,safe,[],rl,[]⟩ o ⟨b,i,by simp,g,by simp [OC],c.fits,rfl,by show (VZ safe).2+1<=_;omega,by show e<=_;omega,c.chg.trans' f (fun j h1 h2=>?_),(by intro a q;cases q),by omega,c.dn,c.sn⟩ rfl k (by simp) (f.mono fun j _ h=>by simp only [Ng] at h;simp [h])
 rw [Ng.1 h1] at h2
 have:=c.dn
 omega
theorem Mh {lost:List Bool}:∀(a:List Wr) (i:Nat) (s:List Rh),(∀j,j<a.length->lost.getD (i+j) false=true)->RO lost i a s=s
 | [],_,_,_=>rfl
 | w::a,i,s,h=>by
   have h0:=h 0 (by simp)
   rw [Oo] at h0
   rw [RO,h0]
   simp only [O1,Bool.and_false,No,if_false]
   exact Mh a (i+1) s fun j b=>by
    have:=h (j+1) (by simp;omega)
    rw [<-this];congr 1;omega
theorem Nna [OA] {pl:Option Addr} {lc:Nat} {lost:List Bool} (I:KJ lim n J D S H0 iv sj G) (hn:n<2 ^ 15) (q:Sl G Nez 1 pl lost) (l:∀a,pl=some a->lost≠[]->a.block≠S/\a.block≠D) (u:lost.length=sj.pend.length)
  (p:∀G' f k,Chg [S,D] G G'->k<=sj.bs.length->CD lim n D S H0 iv sj.area sj.e sj.lf f (sj.rl++sj.bs.take k) G'->((∀j,j<lost.length->lost.getD j false=true)->k=0)->Q (.tuple #[]) G') :
  NQ E false lim 24 [Vp D,.slice pl lost.length lc] G Q:=by
 have t:=I.fits
 have o:=I.nn
 have v:=I.plen
 have b:=I.len
 refine Nhr I.li.jl.d I.li.jl.lD (fun _=>⟨rfl,I.li.s,I.li.lS⟩) I.li.SD (I.li.jl.own.sl Rz) (fun a e _=>⟨I.li.ps a e,(I.li.jl.ap a e).2⟩) q l (by omega) (by omega) (by omega) rfl fun H' g i m=>?_
 have hl:(QS lost sj.pend sj.safe).length=sj.safe.length:=Re
 have r:=I.dn
 have w:=I.sn
 have mk:∀k,k<=sj.bs.length->KO sj.area sj.e sj.lf (QS lost sj.pend sj.safe) (sj.rl++sj.bs.take k)->CD lim n D S H0 iv sj.area sj.e sj.lf (QS lost sj.pend sj.safe) (sj.rl++sj.bs.take k) H':=fun k y ko=>
  ⟨by rw [hl];exact i,m I.li.ne,I.li.jl.lD,I.li.lS,I.li.SD,ko,by rw [hl];exact b,by
   have h2:OC sj.bs=OC (sj.bs.take k)+OC (sj.bs.drop k):=by rw [<-Sg,O8]
   rw [Sg];omega,I.lf,I.e,I.chg.trans' g (fun j h1 h2=>by simp only [Ni,Np,or_false] at h1;omega),I.dn,I.sn⟩
 by_cases c:∀j,j<lost.length->lost.getD j false=true
 ·refine p H' _ 0 g (by omega) (mk 0 (by omega) ?_) fun _=>rfl
  have e:QS lost sj.pend sj.safe=sj.safe:=Mh _ _ _ fun j x=>by rw [Nr];exact c j (by omega)
  rw [e,Qc,Nb]
  exact I.kd.ko
 ·obtain ⟨k,k1,k2,_⟩:=I.kd.crash (lost:=lost) I.hb (by rw [<-o,b];exact t)
  rw [b,<-I.pend] at k2
  exact p H' _ k g k1 (mk k k1 k2) fun h=>absurd h c
theorem Nyp [OA] {H:NB} (hl:lim<=H.length) (c:4<=n) (hn:n<2 ^ 15):OpJ lim n (H.length+1) H.length H 0 [] (H++[Vc ((List.replicate n VC).flatMap Sr),Vc [.slice (Sa H.length) n n,Vz]]):=fun i g=>by
 have b:(List.replicate n VC).length=n:=Pi
 refine Nk2 (D:=H.length+1) (S:=H.length) (sc:=n) (safe:=List.replicate n VC) (by rw [NP,b];rfl) (by rw [NU];rfl) (by omega) (by omega) (by omega) (by omega) (by omega) (by rw [Npw];decide) (fun _=>by rw [Npw];decide) (fun H' J h _ _ _=>by rw [Nxj] at h;cases h) fun H' J _ d f e=>?_
 rw [Npw] at e
 have a:Chg [] H H':=(Chg.refl.app (X:=[_,_]):Chg [] H _).trans' d fun j h1 h2=>by
  simp only [Ni,Np,or_false] at h1;omega
 exact g J _ H' (KJ.begun c hn a (by simp at f;omega) (by omega) (Nd _) e) rfl rfl (by simp) d
theorem Nhq [OA] {cs:List (List ByteArray)} {u:BU} {H:NB} (hl:lim<=H0.length) (a:H0.length<=H.length) (hn:n<2 ^ 19) (b:RF cs BU0=some u) (c:OpJ lim n D S H0 iv cs H)
  (d:∀s sj J B G',JB lim H0.length n J D S H0 iv B s sj G'->s.st=u->sj.bs=[]->Chg [S,D] H G'->Q (.tuple #[Vp B,Vi 0]) G') :
  NQ E false lim 26 [Vp D] H Q:=Nsk hl a hn b c d
theorem Nkc [OA] (h:JB lim l0 n J D S H0 iv B s sj G) (hn:n<2 ^ 15)
  (i:∀a G',JB lim l0 n J D S H0 iv B s a G'->a.rl=sj.rl++sj.bs->a.bs=[]->Chg [S,D] G G'->Q (Vi 0) G') :
  NQ E false lim 22 [Vp B] G Q:=by
 refine runs (by decide) e22 rfl ?_
 rw [b22,c22]
 have d:=fun X=>(QP.refl.app (X:=X)).cells h.kb.b
 have c:=fun X (mp:Bool) (lim:Nat) (Q:Value->NB->Prop)=>VL (mp:=mp) (lim:=lim) (Q:=Q) (d X)
 simp only [n22,r22,c,d,VR,SB,seval,NC,NH,NG,NT,reduceCtorEq,ND,place,NA,NE]
 rw [Nb]
 have e:∀j∈[S,D],j∈J::D::S::blk sj.pp:=fun j hj=>by
  simp only [Ni,Np,or_false] at hj⊢
  rcases hj with hj | hj<;>simp [hj]
 refine h.kj.commit (by omega) fun a G' g e1 e2 e3 k l m f=>?_
 refine NI ?_
 simp only [n22,r22,SB,seval,NC,NH,NG,NT,reduceCtorEq,ND,place,NA,NE]
 rw [Nb]
 refine i a G' ⟨h.kb.to f fun j hj=>h.sep j (e j hj),g,fun j hj=>h.sep j ?_,by rw [e1,e2,Nb];exact h.rcs,h.val⟩ e1 e2 f
 rw [e3] at hj
 simp only [blk,Ni,Np,or_false] at hj⊢
 rcases hj with hj | hj | hj<;>simp [hj]
end
theorem Nph [OA] {mp:Bool} {lim k1 k2 w x:Nat} {p q:Option Addr} {a b:List ByteArray} {H:NB} {Q:Value->NB->Prop} (v:Sl H SL 1 p a) (hb:Sl H SL 1 q b) (e1:w=a.length) (e2:x=b.length) (h1:a.length<2 ^ 60) :
  NQ E mp lim 72 [.slice p w k1,.slice q x k2] H Q=Q (.bool (decide (a=b))) H:=by
 subst e1;subst e2
 refine pc (by decide) e72 rfl rfl ?_
 rw [b72,c72]
 by_cases hl:a.length=b.length
 case neg=>
  simp only [n72,r72,hl,SB,Nat.reduceLT,NC,NH,Nat.reduceEqDiff,NG,NT,reduceCtorEq,ND,place,NA,Nat.reduceAdd,Nat.reduceLeDiff,NE,Int.reduceEq,Int.reduceLT,Int.reduceLE]
  have:¬a=b:=fun h=>hl (by rw [h])
  simp [this]
 simp only [n72,r72,hl,SB,Nat.reduceLT,NC,NH,Nat.reduceEqDiff,NG,NT,reduceCtorEq,ND,place,NA,Nat.reduceAdd,Nat.reduceLeDiff,NE,Int.reduceEq,Int.reduceLT,Int.reduceLE]
 refine QD (fun i=>a.length-i) (fun i fr G=>i<=a.length/\fr 0=.slice p a.length k1/\fr 1=.slice q a.length k2/\fr 5=Vi i/\QP H G/\∀j,j<i->gt a j=gt b j) 0
  ⟨N7 _,by rw [hl];exact (by simp only [FB,Nat.reduceEqDiff]),by rw [hl];exact (by simp only [FB,Nat.reduceEqDiff]),by rfl,QP.refl.app,fun j z=>by omega⟩ ?_
 intro i fr G ⟨hi,r,s,t,g,e⟩ y
 rw [QG Nux.eq_1]
 refine NI ?_
 by_cases d:i<a.length
 ·have m:=fun X=>((g.sl v).app X).loadCell0 Ru d (by decide)
  have l:=fun c (k:IntKind) (H1:NB)=>(g.sl v).idx (c:=c) (k:=k) (H1:=H1) d
  have n:=fun X=>((g.sl hb).app X).loadCell0 Ru (hl▸d) (by decide)
  have f:=fun c (k:IntKind) (H1:NB)=>(g.sl hb).idx (c:=c) (k:=k) (H1:=H1) (hl▸d)
  rw [<-hl] at f
  have o:IntKind.i64.wrap ((i:Int)+1)=((i+1:Nat):Int):=QU (by omega)
  by_cases he:gt a i=gt b i
  ·simp only [n72,r72,r,s,t,d,m,n,l,f,o,Tx,he,M4,decide_true,SB,Nat.reduceLT,NC,NH,Nat.reduceEqDiff,NG,NT,reduceCtorEq,ND,place,NA,Nat.reduceAdd,Nat.reduceLeDiff,NE,Int.reduceEq,Int.reduceLT,Int.reduceLE]
   exact y (i+1) _ _ ⟨by omega,(by simp only [r,FB,Nat.reduceEqDiff]),(by simp only [s,FB,Nat.reduceEqDiff]),(by simp only [FB,Nat.reduceEqDiff]),g.app,fun j z=>by
    rcases Ok j i with h | h
    ·exact e j h
    ·have:j=i:=by omega
     subst this;exact he⟩ (by omega)
  ·simp only [n72,r72,r,s,t,d,m,n,l,f,o,Tx,he,M4,decide_false,Bool.not_false,SB,Nat.reduceLT,NC,NH,Nat.reduceEqDiff,NG,NT,reduceCtorEq,ND,place,NA,Nat.reduceAdd,Nat.reduceLeDiff,NE,Int.reduceEq,Int.reduceLT,Int.reduceLE]
   have:¬a=b:=fun h=>he (by rw [h])
   simp [this]
 obtain rfl:i=a.length:=by omega
 have u:a=b:=Nrj hl e
 simp only [n72,r72,r,s,t,d,SB,Nat.reduceLT,NC,NH,Nat.reduceEqDiff,NG,NT,reduceCtorEq,ND,place,NA,Nat.reduceAdd,Nat.reduceLeDiff,NE,Int.reduceEq,Int.reduceLT,Int.reduceLE]
 simp [u]
instance:Inhabited PC:=⟨⟨[],none,0⟩⟩
structure TRows (G:NB) (p:Option Addr) (ds:List V3) (l:List (List ByteArray)):Prop where
 sl:Sl G U1 1 p ds
 len:ds.length=l.length
 row:∀k,k<l.length->(gt ds k).2.1=(gt l k).length/\Sl G SL 1 (gt ds k).1 (gt l k)
theorem TRows.app {G:NB} {p:Option Addr} {ds:List V3} {l:List (List ByteArray)} (h:TRows G p ds l) (X:NB):TRows (G++X) p ds l:=⟨h.sl.app X,h.len,fun k a=>⟨(h.row k a).1,(h.row k a).2.app X⟩⟩
structure CRows (h0:Nat) (G:NB) (R:Nat) (ds:List V3) (l:List (List ByteArray)):Prop where
 blk:NF G R=Vc (ds.flatMap U1)
 len:ds.length=l.length
 row:∀k,k<l.length->(gt ds k).2.1=(gt l k).length/\Sl G SL 1 (gt ds k).1 (gt l k)/\∀a,(gt ds k).1=some a->h0<=a.block/\a.block<G.length
 lo:h0<=R
theorem CRows.rows {h0 R:Nat} {G:NB} {ds:List V3} {l:List (List ByteArray)} (h:CRows h0 G R ds l):TRows G (Sa R) ds l:=
 ⟨Sl.row TL h.blk,h.len,fun k a=>⟨(h.row k a).1,(h.row k a).2.1⟩⟩
theorem CRows.chg {h0 R:Nat} {G G':NB} {A:List Nat} {ds:List V3} {l:List (List ByteArray)} (h:CRows h0 G R ds l) (hc:Chg A G G') (d:∀j∈A,j<h0):CRows h0 G' R ds l:=
 ⟨hc.cells h.blk fun q=>by have:=d _ q;have:=h.lo;omega,h.len,fun k b=>⟨(h.row k b).1,hc.sl (h.row k b).2.1 fun a c _ q=>by have:=d _ q;have:=(h.row k b).2.2 a c;omega,fun a c=>by have:=(h.row k b).2.2 a c;have:=hc.len;omega⟩,h.lo⟩
section
variable {mp:Bool} {lim l0 B:Nat} {jv:Value} {s:SU} {G:NB} {Q:Value->NB->Prop}
theorem Nqt [OA] {k1 k2 C D:Nat} {p q:Option Addr} {B db:List V3} {a b:List (List ByteArray)} {H:NB} (o:TRows H p B a) (hb:TRows H q db b) (e1:C=a.length) (e2:D=b.length) (h1:a.length<2 ^ 40) (J:∀k,k<a.length->(gt a k).length<2 ^ 60) :
  NQ E mp lim 30 [.slice p C k1,.slice q D k2] H Q=Q (.bool (decide (a=b))) H:=by
 subst e1;subst e2
 refine pc (by decide) e30 rfl rfl ?_
 rw [b30,c30]
 by_cases hl:a.length=b.length
 case neg=>
  simp only [n30,r30,hl,SB,seval,NC,NH,NG,NT,reduceCtorEq,ND,place,NA,NE]
  have:¬a=b:=fun h=>hl (by rw [h])
  simp [this]
 simp only [n30,r30,hl,SB,seval,NC,NH,NG,NT,reduceCtorEq,ND,place,NA,NE]
 refine QD (fun i=>a.length-i) (fun i fr G=>i<=a.length/\fr 0=.slice p a.length k1/\fr 1=.slice q a.length k2/\fr 12=Vi a.length/\fr 13=Vi i/\QP H G/\∀j,j<i->gt a j=gt b j) 0
  ⟨N7 _,by rw [hl];exact rfl,by rw [hl];exact rfl,by rw [hl];exact rfl,by rfl,QP.refl.app,fun j I=>by omega⟩ ?_
 intro i fr G ⟨hi,v,w,e,g,l,f⟩ F
 rw [QG Nu0.eq_1]
 refine NI ?_
 by_cases d:i<a.length
 ·have r:=fun X=>((l.sl o.sl).app X).loadCell0 TL (i:=i) (by rw [o.len];exact d) (by decide)
  have m:=fun c (k:IntKind) (H1:NB)=>(l.sl o.sl).idx (c:=c) (k:=k) (H1:=H1) (i:=i) (by rw [o.len];exact d)
  have s:=fun X=>((l.sl hb.sl).app X).loadCell0 TL (i:=i) (by rw [hb.len];omega) (by decide)
  have n:=fun c (k:IntKind) (H1:NB)=>(l.sl hb.sl).idx (c:=c) (k:=k) (H1:=H1) (i:=i) (by rw [hb.len];omega)
  rw [o.len] at m
  rw [hb.len,<-hl] at n
  obtain ⟨x,y⟩:=o.row i d
  obtain ⟨z,A⟩:=hb.row i (by omega)
  have t:=fun X (mp:Bool) (lim:Nat) (Q:Value->NB->Prop)=>Nph (mp:=mp) (lim:=lim) (k1:=(gt B i).2.2) (k2:=(gt db i).2.2) (Q:=Q) ((l.sl y).app X) ((l.sl A).app X) x z (J i d)
  have u:IntKind.i64.wrap ((i:Int)+1)=((i+1:Nat):Int):=QU (by omega)
  by_cases he:gt a i=gt b i
  ·simp only [n30,r30,v,w,e,g,d,r,s,m,n,u,Njs,t,Pz he,decide_true,O1,SB,seval,NC,NH,NG,NT,reduceCtorEq,ND,place,NA,NE]
   exact F (i+1) _ _ ⟨by omega,v,w,e,rfl,l.app,fun j I=>by
    rcases Ok j i with h | h
    ·exact f j h
    ·have:j=i:=by omega
     subst this;exact he⟩ (by omega)
  ·simp only [n30,r30,v,w,e,g,d,r,s,m,n,u,Njs,t,Q1 he,decide_false,Bool.not_false,SB,seval,NC,NH,NG,NT,reduceCtorEq,ND,place,NA,NE]
   have:¬a=b:=fun h=>he (by rw [h])
   simp [this]
 ·obtain rfl:i=a.length:=by omega
  simp only [n30,r30,v,w,e,g,d,SB,seval,NC,NH,NG,NT,reduceCtorEq,ND,place,NA,NE]
  have:a=b:=Nrj hl f
  simp [this]
theorem Nwb {c:PC}:(Njt c)[0]? = some (.slice c.p c.c.length c.k):=id rfl
theorem Nsn [OA] (h:KB l0 B jv s G) (hl:lim<=G.length) (hn:s.calls.length<2 ^ 30) (U:∀c∈s.calls,c.c≠[]/\c.c.length<2 ^ 40)
  (Z:∀G' R ds,Chg [] G G'->CRows G.length G' R ds s.st.calls->Q (.slice (Sa R) s.calls.length s.calls.length) G') :
  NQ E false lim 23 [Vp B] G Q:=by
 refine runs (by decide) e23 rfl ?_
 rw [b23,c23]
 have w:=fun X=>(QP.refl.app (X:=X)).cells h.b
 have y:=fun X (mp:Bool) (lim:Nat) (Q:Value->NB->Prop)=>VL (mp:=mp) (lim:=lim) (Q:=Q) (w X)
 obtain ⟨N,D⟩:∃N,N=s.calls.length:=⟨_,rfl⟩
 rw [<-D] at hn w Z
 have T:=Pz (show 0<=(N:Int)/\(N:Int)*24<=35184372088832/\(N:Int)<4611686018427387904 by omega)
 have d:s.st.calls=s.calls.map (·.c):=rfl
 simp only [n23,r23,y,w,T,Nu9,hl,SB,seval,NC,NH,NG,NT,reduceCtorEq,ND,place,NA,NE]
 refine QD (fun x:Nat×List V3=>N-x.1) (fun x fr G1=>x.1<=N/\fr 3=.slice (Sa G.length) x.1 N/\fr 17=.slice s.cp N s.cc/\fr 18=Vi N/\fr 19=Vi x.1/\
   Chg [] G G1/\NF G1 G.length=Vc (x.2.flatMap U1++List.replicate (N-x.1) Vz)/\x.2.length=x.1/\
   ∀k,k<x.1->(gt x.2 k).2.1=(gt s.st.calls k).length/\Sl G1 SL 1 (gt x.2 k).1 (gt s.st.calls k)/\∀a,(gt x.2 k).1=some a->G.length+1<=a.block/\a.block<G1.length) (0,[])
  ⟨N7 _,rfl,rfl,rfl,rfl,Chg.refl.app,by rw [NU];rfl,rfl,fun k P=>absurd P (by simp)⟩ ?_
 rintro ⟨k,ds⟩ fr G1 ⟨P,L,n,o,t,C,F,f,m⟩ hN
 simp only at P L t F f m
 rw [QG Nu3.eq_1]
 refine NI ?_
 have aa:=C.len
 by_cases ab:k<N
 ·have g:(k:Int)<(N:Int):=by omega
  have V:IntKind.i64.wrap ((k:Int)+1)=((k+1:Nat):Int):=QU (by omega)
  have J:Sl G1 Njt 1 s.cp s.calls:=C.sl (h.oc.sl Na6) fun _ _ _ q=>by cases q
  have S:=fun X=>(J.app X).loadCell0 Na6 (i:=k) (by omega) (by decide)
  have u:=fun c (kk:IntKind) (H1:NB)=>J.idx (c:=c) (k:=kk) (H1:=H1) (i:=k) (by omega)
  rw [<-D] at u
  have I:gt s.calls k∈s.calls:=by rw [Vm (by omega)];exact Qk _
  obtain ⟨n1,n2⟩:=U _ I
  have z:=C.sl (h.cs _ I).1 fun _ _ _ q=>by cases q
  obtain ⟨a,ha⟩:=z.some n1
  rw [ha] at z
  simp only [n23,r23,L,n,o,t,g,S,u,Nwb,ha,SB,seval,NC,NH,NG,NT,reduceCtorEq,ND,place,NA,NE]
  rw [Nb]
  refine Ndi z n1 (by omega) ?_
  refine NI ?_
  have M:=NJ F
  have e:=Ne5 (lim:=lim) (R:=G.length) (bytes:=24) (cap:=N) (k:=1) (H:=G1++[Vc [],Vc ((gt s.calls k).c.flatMap SL),Vc [.slice (Sa (G1.length+1)) (gt s.calls k).c.length (loose 1)]]) (enc:=U1) (old:=ds) (l:=[(Sa (G1.length+1),(gt s.calls k).c.length,loose 1)]) (p:=Sa (G1.length+2)) (rest:=List.replicate (N-k) Vz) TL (by decide) (Sl.row TL (ro:=false) (by rw [NP];rfl)) (by rw [NZ M];exact F) hl (by simp;omega) (by simp;omega) (by omega) (by simp;unfold PQ;omega)
  rw [f] at e
  simp only [Nm,Nn,Nr,Nat.reduceAdd] at e
  simp only [n23,r23,L,n,o,t,V,e,SB,seval,NC,NH,NG,NT,reduceCtorEq,ND,place,NA,NE]
  have K:gt s.st.calls k=(gt s.calls k).c:=by rw [d,Njj (by omega)]
  refine hN (k+1,ds++[(Sa (G1.length+1),(gt s.calls k).c.length,loose 1)]) _ _ ⟨by show k+1<=N;omega,rfl,n,o,rfl,C.app.set (.inr (Nd _)), ?_,by simp [f],fun j hj=>?_⟩ (by show N-(k+1)<N-k;omega)
  ·rw [Rb (by simp;omega)]
   congr 2
   rw [List.drop_replicate]
   rfl
  ·change j<k+1 at hj
   simp only
   rcases Ok j k with q | q
   ·obtain ⟨W,Y,r3⟩:=m j q
    rw [Rc (by omega)]
    refine ⟨W,Chg.sl (A:=[G.length]) ((Chg.refl.app).set (.inl (by simp))) Y fun a v _ q=>?_,fun a v=>?_⟩
    ·rw [Ng] at q
     have:=r3 a v;omega
    ·have:=r3 a v
     simp;omega
   ·obtain rfl:j=k:=by omega
    have e1:gt (ds++[((Sa (G1.length+1):Option Addr),(gt s.calls j).c.length,loose 1)]) j=(Sa (G1.length+1),(gt s.calls j).c.length,loose 1):=by
     have:=Rf (l:=ds) (r:=[((Sa (G1.length+1):Option Addr),(gt s.calls j).c.length,loose 1)]) (i:=0);simp only [Oo,f] at this;rw [this];rfl
    rw [e1,K]
    refine ⟨rfl,Sl.row Ru (ro:=false) (by rw [QA (by omega),NP];rfl),fun a v=>?_⟩
    cases v
    simp;omega
 ·obtain rfl:k=N:=by omega
  have g:¬((k:Int)<(k:Int)):=by omega
  simp only [n23,r23,L,n,o,t,g,SB,seval,NC,NH,NG,NT,reduceCtorEq,ND,place,NA,NE]
  rw [Nb]
  have O:s.st.calls.length=k:=by rw [d,Nz];omega
  refine Z G1 G.length ds C ⟨?_,by rw [O];exact f,fun j hj=>?_,Nd _⟩
  ·rw [Qe,List.replicate_zero,Nb] at F;exact F
  ·obtain ⟨W,Y,r3⟩:=m j (by omega)
   exact ⟨W,Y,fun a v=>by have:=r3 a v;omega⟩
end
section
variable {lim l0 n J D S iv B:Nat} {H0:NB} {jv:Value} {s:SU} {sj:SJ} {G:NB} {Q:Value->NB->Prop}
def N0l (lim l0 n J D S:Nat) (H0:NB) (iv B:Nat) (s:SU) (sj:SJ) (G:NB) (l:List ByteArray) (e:Int) (G':NB):Prop:=
 (RY s.st l≠0/\e=RY s.st l/\JB lim l0 n J D S H0 iv B s sj G'/\Chg [] G G')\/
 (RY s.st l=0/\e=4/\n / 2<sj.nn+OU (Ri l).length/\JB lim l0 n J D S H0 iv B s sj G'/\Chg [] G G')\/
 (RY s.st l=0/\e=0/\∃s' a,JB lim l0 n J D S H0 (iv+1) B s' a G'/\s'.st=doneD s.st l/\a.rl=sj.rl/\a.bs=sj.bs++[(sj.lf,Ri l)]/\a.nn=sj.nn+OU (Ri l).length/\
  ∃A,(∀j∈A,(∃r,s.ptr B r=some j)\/j∈J::D::blk sj.pp)/\Chg A G G')
theorem DoR.ofJ [OA] {l:List ByteArray} (h:JB lim l0 n J D S H0 iv B s sj G) (hn:n<2 ^ 19) (hi:iv<1000) (hl:lim<=l0) (z:l0<=G.length) (o:H0.length<=l0) :
  DoR lim B G l (N0l lim l0 n J D S H0 iv B s sj G l):=fun p c G1 Q d f C u t=>by
 have y:=d.len
 refine Nwc (h.new d) hn hi hl (by omega) (f.sl Ru) f.capOk (fun a k=>(f.block k).2) (fun a k=>⟨fun r hr=>by have:=(f.block k).1;have:=(h.kb.lt hr).2;omega,fun q=>by have:=(f.block k).1;have:=h.lives _ q;omega⟩) C u o
  (fun G' he b=>t _ G' (.inl ⟨he,rfl,(h.new d).new b,d.trans' b fun _ e=>by cases e⟩)) (fun G' he hr b=>t _ G' (.inr (.inl ⟨he,rfl,hr,(h.new d).new b,d.trans' b fun _ e=>by cases e⟩)))
  fun s' w G' he h' v i g ⟨A,x,m⟩ _ _ _=>t _ G' (.inr (.inr ⟨he,rfl,s',w,h',v,i,g, ?_,A,x,(d.mono fun _ _ e=>by cases e).trans' m fun j e _=>e⟩))
 have h1:=h'.kj.nn
 have h2:=h.kj.nn
 rw [i,g,Sg] at h1
 simp only [OC] at h1
 omega
theorem Nan {l:List ByteArray} (h:Fine l):OU (Ri l).length<=17:=by
 have:=h.pack.2
 unfold OU;omega
theorem JB.does [OA] {l:List ByteArray} {u:BU} (h:JB lim l0 n J D S H0 iv B s sj G) (hn:n<2 ^ 19) (hi:iv<1000) (hl:lim<=l0) (d:l0<=G.length) (b:H0.length<=l0) (o:s.st=u) (he:RY u l=0) (hr:sj.nn+17<=n / 2) :
  DoR lim B G l fun e G'=>e=0/\∃s' a,JB lim l0 n J D S H0 (iv+1) B s' a G'/\s'.st=doneD u l/\a.nn<=sj.nn+17/\G.length<=G'.length/\a.rl=sj.rl:=fun p c G1 Q g i q f j=>by
 subst o
 have w:=Nan (Xw he)
 refine DoR.ofJ h hn hi hl d b p c G1 Q g i q f fun e G' m=>?_
 rcases m with ⟨k,_⟩ | ⟨_,_,k,_⟩ | ⟨_,k2,s',a,k3,r,t,_,x,A,_,v⟩
 ·exact absurd he k
 ·omega
 ·exact j e G' ⟨k2,s',a,k3,r,by omega,v.len,t⟩
theorem JB.fails [OA] {l:List ByteArray} {u:BU} {e0:Int} (h:JB lim l0 n J D S H0 iv B s sj G) (hn:n<2 ^ 19) (hi:iv<1000) (hl:lim<=l0) (b:l0<=G.length) (a:H0.length<=l0) (m:s.st=u) (he:RY u l=e0) (h0:e0≠0) :
  DoR lim B G l fun e G'=>e=e0/\JB lim l0 n J D S H0 iv B s sj G'/\Chg [] G G':=fun p c G1 Q f g o d i=>by
 subst m
 refine DoR.ofJ h hn hi hl b a p c G1 Q f g o d fun e G' j=>?_
 rcases j with ⟨_,k1,k2,k3⟩ | ⟨k,_⟩ | ⟨k,_⟩
 ·exact i e G' ⟨by rw [k1,he],k2,k3⟩
 ·exact absurd (he.symm.trans k) h0
 ·exact absurd (he.symm.trans k) h0
theorem Nc7:∀(l:LR),OC l=((l.map (·.2)).map fun b=>OU b.length).sum
 | []=>rfl
 | x::l=>by simp only [OC,Og,List.sum_cons,Nc7 l]
theorem WM:∀{cs:List (List ByteArray)} {u v:BU},RF cs u=some v->∀c∈cs,Fine c
 | [],u,v,h,c,hc=>by cases hc
 | c::cs,u,v,h,x,hx=>by
   rw [RF] at h
   split at h
   ·rename_i he
    rcases Ni.1 hx with rfl | hx
    ·exact Xw he
    ·exact WM h x hx
   ·cases h
theorem No9:∀{l:List (List ByteArray)},(∀c∈l,Fine c)->((l.map Ri).map fun b=>OU b.length).sum<=17*l.length
 | [],_=>by simp
 | c::l,h=>by
   have h1:=Nan (h c (by simp))
   have h2:=No9 (l:=l) fun x a=>h x (by simp [a])
   simp only [Og,List.sum_cons,Nm]
   omega
theorem JB.fine (h:JB lim l0 n J D S H0 iv B s sj G):∀c∈s.calls,c.c≠[]/\c.c.length<2 ^ 40:=fun c hc=>by
 have a:=WM h.val c.c (List.mem_map.2 ⟨c,hc,rfl⟩)
 exact ⟨a.ne,by have:=a.len;omega⟩
theorem JB.room {u:BU} (h:JB lim l0 n J D S H0 iv B s sj G) (b:s.st=u):sj.nn<=1+17*u.calls.length:=by
 subst b
 have h1:=h.kj.nn
 rw [<-Sg,Nc7,h.rcs] at h1
 have h2:=No9 (WM h.val)
 have a:OU ([]:List UInt8).length=1:=by decide
 simp only [Og,List.sum_cons,a] at h1
 omega
end
def Nso:ByteArray:=⟨#[65,110,110]⟩
def cx1:List ByteArray:=[Tj,OD 5,Nso]
def cx2:List ByteArray:=[Ug,OD 5,OD 1000]
def cx3:List ByteArray:=[SY,OD 77,OD 5,OD 12,OD 300]
def cx4:List ByteArray:=[SY,OD 78,OD 5,OD 12,OD 701]
def cx5:List ByteArray:=[Rw,OD 77,OD 50]
def cx6:List ByteArray:=[Ug,⟨#[48,53]⟩,⟨#[49]⟩]
def cx7:List ByteArray:=[Ug,⟨#[53]⟩,⟨#[48]⟩]
def cx8:List ByteArray:=[Ug,⟨#[54]⟩,⟨#[49]⟩]
def cx9:List ByteArray:=[Ug,OD 5,OD 1]
def ux1:BU:=doneD BU0 cx1
def ux2:BU:=doneD ux1 cx2
def ux3:BU:=doneD ux2 cx3
def ux4:BU:=doneD ux3 cx5
theorem ex1:RY BU0 cx1=0:=by decide +kernel
theorem ex2:RY ux1 cx2=0:=by decide +kernel
theorem ex3:RY ux2 cx3=0:=by decide +kernel
theorem ex4:RY ux3 cx4=431:=by decide +kernel
theorem ex5:RY ux3 cx5=0:=by decide +kernel
theorem Nyw:RY ux4 cx5=430:=by decide +kernel
theorem ex6:RY ux4 cx6=432:=by decide +kernel
theorem ex7:RY ux4 cx7=2:=by decide +kernel
theorem ex8:RY ux4 cx8=6:=by decide +kernel
theorem ex9:RY ux4 cx9=0:=by decide +kernel
theorem exL:((NR 5 ux3.ms).getD noM).ents=[⟨1,0,1000,1000⟩,⟨2,77,300,700⟩]/\(NR 5 ux3.ms).isSome=true:=by decide +kernel
theorem exC:ux4.calls=[[Tj,⟨#[53]⟩,Nso],[Ug,⟨#[53]⟩,⟨#[49,48,48,48]⟩],[SY,⟨#[55,55]⟩,⟨#[53]⟩,⟨#[49,50]⟩,⟨#[51,48,48]⟩],[Rw,⟨#[55,55]⟩,⟨#[53,48]⟩]]:=by decide +kernel
theorem exB:QI ((NR 5 ux4.ms).getD noM).ents=750/\(NR 5 ux4.ms).isSome=true:=by decide +kernel
theorem Rt {n:Int} (h0:0<=n) (h1:n<=1000000):XQ n:=⟨by omega,by omega⟩
theorem Nmi:∀m:Fin 64,U8 18446744073709551615 m.val=true:=by decide +kernel
theorem Nqr {k:Nat}:∀j,j<(WX 18446744073709551615 k).length->(WX 18446744073709551615 k).getD j false=true:=fun j b=>by
 have a:j<k:=by rwa [Va] at b
 have e:U8 18446744073709551615 j=U8 18446744073709551615 (j % 64):=by
  unfold U8
  rw [Nat.mod_mod]
 unfold WX
 rw [Na,Oy,List.getElem?_range a]
 show U8 18446744073709551615 j=true
 rw [e]
 exact Nmi ⟨j % 64,P4 _ (by decide)⟩
theorem Nsc [OA] {mp:Bool} {lim:Nat} {H:NB} {Q:Value->NB->Prop} (W:OA.on=false):NQ E mp lim 17 [] H Q=Q (.bool true) H:=by
 refine Nb5 (E:=E) (by simp [E,orc,effP,W]) (show E.tr 17=some a17 from e17) rfl rfl (NI ?_)
 rw [b17,c17]
 simp only [n17,r17,SB,seval,NC,NH,NG,NT,reduceCtorEq,ND,place,NA,NE]
 rw [Nb]
 obtain ⟨n,hn⟩:∃n:Nat,n=200:=⟨_,rfl⟩
 rw [show Value.int .i64 200=Vi n by rw [hn];rfl]
 refine Nkb (by omega) (by omega) ?_
 refine NI ?_
 simp only [n17,r17,VR,SB,seval,NC,NH,NG,NT,reduceCtorEq,ND,place,NA,NE]
 refine Nhq (H0:=H) (n:=n) (S:=H.length) (Nd _) (by simp) (by omega) (cs:=[]) (u:=BU0) rfl (Nyp (Nd _) (by omega) (by omega)) fun s0 j0 J B G0 h0 Y bo bn=>?_
 have g0:H.length<=G0.length:=h0.kj.chg.len
 have c0:BU0.calls.length=0:=rfl
 have c1:ux1.calls.length=1:=by decide +kernel
 have c2:ux2.calls.length=2:=by decide +kernel
 have c3:ux3.calls.length=3:=by decide +kernel
 have c4:ux4.calls.length=4:=by decide +kernel
 refine NI ?_
 simp only [n17,r17,SB,seval,NC,NH,NG,NT,reduceCtorEq,ND,place,NA,NE]
 rw [Nb]
 have r0:=h0.room Y
 refine Nk3 (by omega) (Rt (by decide) (by decide)) (by decide) (h0.does (l:=cx1) (by omega) (by omega) (Nd _) (by omega) (Nd _) Y ex1 (by omega)) fun e1 G1 ⟨ao,s1,j1,h1,Z,_,bq,_⟩=>?_
 subst ao
 refine NI ?_
 simp only [n17,r17,SB,seval,NC,NH,NG,NT,reduceCtorEq,ND,place,NA,NE]
 rw [Nb]
 have r1:=h1.room (u:=ux1) Z
 refine Ne7 (by omega) (Rt (by decide) (by decide)) (Rt (by decide) (by decide)) (h1.does (l:=cx2) (by omega) (by omega) (Nd _) (by omega) (Nd _) Z ex2 (by omega)) fun e2 G2 ⟨aq,s2,j2,h2,ab,_,br,_⟩=>?_
 subst aq
 refine NI ?_
 simp only [n17,r17,SB,seval,NC,NH,NG,NT,reduceCtorEq,ND,place,NA,NE]
 rw [Nb]
 have r2:=h2.room (u:=ux2) ab
 refine ME (by omega) (Rt (by decide) (by decide)) (Rt (by decide) (by decide)) (Rt (by decide) (by decide)) (Rt (by decide) (by decide)) (h2.does (l:=cx3) (by omega) (by omega) (Nd _) (by omega) (Nd _) ab ex3 (by omega)) fun e3 G3 ⟨au,s3,j3,h3,h,_,bt,_⟩=>?_
 subst au
 refine NI ?_
 simp only [n17,r17,SB,seval,NC,NH,NG,NT,reduceCtorEq,ND,place,NA,NE]
 rw [Nb]
 refine ME (by omega) (Rt (by decide) (by decide)) (Rt (by decide) (by decide)) (Rt (by decide) (by decide)) (Rt (by decide) (by decide)) (h3.fails (l:=cx4) (by omega) (by omega) (Nd _) (by omega) (Nd _) h ex4 (by decide)) fun e4 G4 ⟨av,h4,ag⟩=>?_
 subst av
 have bu:=ag.len
 refine NI ?_
 simp only [n17,r17,SB,seval,NC,NH,NG,NT,reduceCtorEq,ND,place,NA,NE]
 rw [Nb]
 refine Nds h4.kb (by omega) (fun m V=>by have:=(h4.wf.ents 5 m.m (by rw [RX,V];rfl)).1;have:=h4.many;omega) fun A c5 G5 K g _=>?_
 rw [show s3.st=ux3 from h,exL.1] at g⊢
 rw [exL.2]
 have bv:=K.len
 have i0:∀X,X7 4 (.slice A 2 c5) (Vi 0) X=some (.pointer (some (Xx A 4 0)),X):=fun X=>g.idx (i:=0) (by decide)
 have i1:∀X,X7 4 (.slice A 2 c5) (Vi 1) X=some (.pointer (some (Xx A 4 1)),X):=fun X=>g.idx (i:=1) (by decide)
 have l0:∀X,AM.loadCells (G5++X) (Xx A 4 0) 4=some [.int .u8 1,Vi 0,Vi 1000,Vi 1000]:=fun X=>(g.app X).loadCells Tf (i:=0) (by decide)
 have l1:∀X,AM.loadCells (G5++X) (Xx A 4 1) 4=some [.int .u8 2,Vi 77,Vi 300,Vi 700]:=fun X=>(g.app X).loadCells Tf (i:=1) (by decide)
 have q0:VR (.agg [.int .u8,.int .i64,.int .i64,.int .i64]) (.agg #[.int .u8 1,Vi 0,Vi 1000,Vi 1000]) (.agg #[.int .u8 1,Vi 0,Vi 1000,Vi 1000])=some true:=by rfl
 have q1:VR (.agg [.int .u8,.int .i64,.int .i64,.int .i64]) (.agg #[.int .u8 2,Vi 77,Vi 300,Vi 700]) (.agg #[.int .u8 2,Vi 77,Vi 300,Vi 700])=some true:=by rfl
 refine NI ?_
 simp only [n17,r17,i0,i1,l0,l1,q0,q1,O1,SB,seval,NC,NH,NG,NT,reduceCtorEq,ND,place,NA,NE]
 rw [Nb]
 have h5:=h4.new K
 refine ZB (by omega) (Rt (by decide) (by decide)) (Rt (by decide) (by decide)) (h5.does (l:=cx5) (by omega) (by omega) (Nd _) (by omega) (Nd _) h ex5 (by have:=h5.room (u:=ux3) h;omega)) fun e6 G6 ⟨aw,s6,j6,h6,c,_,bw,_⟩=>?_
 subst aw
 refine NI ?_
 simp only [n17,r17,SB,seval,NC,NH,NG,NT,reduceCtorEq,ND,place,NA,NE]
 rw [Nb]
 refine ZB (by omega) (Rt (by decide) (by decide)) (Rt (by decide) (by decide)) (h6.fails (l:=cx5) (by omega) (by omega) (Nd _) (by omega) (Nd _) c Nyw (by decide)) fun e7 G7 ⟨ax,h7,ah⟩=>?_
 subst ax
 have bx:=ah.len
 refine NI ?_
 simp only [n17,r17,SB,seval,NC,NH,NG,NT,reduceCtorEq,ND,place,NA,NE]
 rw [Nb]
 refine Nsn h7.kb (by omega) (by have:=h7.many;omega) h7.fine fun f R8 d8 L M=>?_
 have bz:=L.len
 have h8:=h7.new L
 have an:s6.calls.length=4:=by
  have:=Qj (fun u:BU=>u.calls.length) c
  simp only [SU.st,Nz] at this
  rw [this];exact c4
 rw [show s6.st=ux4 from c,exC] at M
 rw [an]
 have lX:=fun X=>Nqt (mp:=false) (lim:=H.length) (k1:=4) (k2:=4) (Q:=X) (M.rows.app [Vc [.string Tj,.string ⟨#[53]⟩,.string Nso],Vc [.string Ug,.string ⟨#[53]⟩,.string ⟨#[49,48,48,48]⟩],Vc [.string SY,.string ⟨#[55,55]⟩,.string ⟨#[53]⟩,.string ⟨#[49,50]⟩,.string ⟨#[51,48,48]⟩],Vc [.string Rw,.string ⟨#[55,55]⟩,.string ⟨#[53,48]⟩],Vc [.slice (Sa f.length) 3 3,.slice (Sa (f.length+1)) 3 3,.slice (Sa (f.length+2)) 5 5,.slice (Sa (f.length+3)) 3 3]])
  (q:=Sa (f.length+4)) (db:=[(Sa f.length,3,3),(Sa (f.length+1),3,3),(Sa (f.length+2),5,5),(Sa (f.length+3),3,3)]) (b:=[[Tj,⟨#[53]⟩,Nso],[Ug,⟨#[53]⟩,⟨#[49,48,48,48]⟩],[SY,⟨#[55,55]⟩,⟨#[53]⟩,⟨#[49,50]⟩,⟨#[51,48,48]⟩],[Rw,⟨#[55,55]⟩,⟨#[53,48]⟩]])
  ⟨Sl.row TL (ro:=false) (by rw [NP];rfl),rfl,fun k hk=>by
   rcases (show k=0\/k=1\/k=2\/k=3 by simp at hk;omega) with rfl | rfl | rfl | rfl
   ·exact ⟨rfl,Sl.row Ru (ro:=false) (by rw [NU];rfl)⟩
   ·exact ⟨rfl,Sl.row Ru (ro:=false) (by rw [NP];rfl)⟩
   ·exact ⟨rfl,Sl.row Ru (ro:=false) (by rw [NP];rfl)⟩
   ·exact ⟨rfl,Sl.row Ru (ro:=false) (by rw [NP];rfl)⟩⟩ rfl rfl (by decide) (fun k hk=>by
   rcases (show k=0\/k=1\/k=2\/k=3 by simp at hk;omega) with rfl | rfl | rfl | rfl<;>decide)
 simp only [Nm,Nn,Nr,Nat.reduceAdd,eq_self,decide_true] at lX
 refine NI ?_
 simp only [n17,r17,SB,seval,NC,NH,NG,NT,reduceCtorEq,ND,place,NA,NE]
 refine Eq.mpr (lX _) ?_
 have g8:∀X,f.length<=(f++X).length:=fun X=>by simp
 refine NI ?_
 simp only [n17,r17,O1,SB,seval,NC,NH,NG,NT,reduceCtorEq,ND,place,NA,NE]
 refine h8.fails (l:=cx6) (by omega) (by omega) (Nd _) (by omega) (Nd _) c ex6 (by decide) _ _ _ _ Chg.refl.app (.inr ⟨f.length+5,rfl,rfl,by decide,by rw [NP];rfl,by omega⟩) (by decide +kernel) (by decide) fun e9 G9 ⟨ay,h9,ai⟩=>?_
 subst ay
 have b0:=ai.len
 refine NI ?_
 simp only [n17,r17,SB,seval,NC,NH,NG,NT,reduceCtorEq,ND,place,NA,NE]
 refine h9.fails (l:=cx7) (by omega) (by omega) (Nd _) (by omega) (Nd _) c ex7 (by decide) _ _ _ _ Chg.refl.app (.inr ⟨G9.length,rfl,rfl,by decide,by rw [NU];rfl,by omega⟩) (by decide +kernel) (by decide) fun bm ac ⟨P,ad,D⟩=>?_
 subst P
 have a4:=D.len
 refine NI ?_
 simp only [n17,r17,SB,seval,NC,NH,NG,NT,reduceCtorEq,ND,place,NA,NE]
 refine ad.fails (l:=cx8) (by omega) (by omega) (Nd _) (by omega) (Nd _) c ex8 (by decide) _ _ _ _ Chg.refl.app (.inr ⟨ac.length,rfl,rfl,by decide,by rw [NU];rfl,by omega⟩) (by decide +kernel) (by decide) fun e11 bc ⟨R,C,F⟩=>?_
 subst R
 have a5:=F.len
 refine NI ?_
 simp only [n17,r17,SB,seval,NC,NH,NG,NT,reduceCtorEq,ND,place,NA,NE]
 rw [Nb]
 refine Nkc C (by omega) fun b4 bd w y am G=>?_
 have a6:=G.len
 have t:=C.rcs
 rw [<-y] at t
 refine NI ?_
 simp only [n17,r17,SB,seval,NC,NH,NG,NT,reduceCtorEq,ND,place,NA,NE]
 rw [Nb]
 have r12:=w.room (u:=ux4) c
 refine Ne7 (by omega) (Rt (by decide) (by decide)) (Rt (by decide) (by decide)) (w.does (l:=cx9) (by omega) (by omega) (Nd _) (by omega) (Nd _) c ex9 (by omega)) fun e13 be ⟨T,b6,o,e,ba,_,a7,z⟩=>?_
 subst T
 have ak:=fun X=>(QP.refl.app (X:=X)).cells e.kj.li.jl.d
 have b2:=e.kj.plen
 have b1:=e.kj.nn
 have bp:=e.kj.fits
 refine NI ?_
 simp only [n17,r17,ak,SB,seval,NC,NH,NG,NT,reduceCtorEq,ND,place,NA,NE]
 rw [Nb]
 refine Nti (by omega) (by omega) fun pl cl bf p r=>?_
 have a8:=p.len
 have ae:=e.new p
 have U:(WX 18446744073709551615 o.pend.length).length=o.pend.length:=Va
 refine NI ?_
 simp only [n17,r17,SB,seval,NC,NH,NG,NT,reduceCtorEq,ND,place,NA,NE]
 rw [Nb]
 have O:=fun Q hQ=>Nna (lc:=cl) (Q:=Q) ae.kj (by omega) (r.sl Na7) (fun a ea _=>by have:=(r.block ea).1;have:=e.kj.lives;omega) U hQ
 rw [U] at O
 refine O _ fun bg safe k I hk aj N=>?_
 have az:=N fun j hj=>Nqr j (by rw [Va];exact hj)
 subst az
 have a9:=I.len
 have a0:(o.rl++o.bs.take 0).map (·.2)=[]::ux4.calls.map Ri:=by
  rw [Qc,Nb,z,t,show s6.st=ux4 from c]
 have v:=w.val
 rw [show s6.st=ux4 from c] at v
 refine NI ?_
 simp only [n17,r17,SB,seval,NC,NH,NG,NT,reduceCtorEq,ND,place,NA,NE]
 rw [Nb]
 refine Nhq (H0:=H) (n:=n) (Nd _) (by omega) (by omega) v (aj.opj (by omega) (by omega) (by omega) a0) fun a2 b5 bl bb bh x aa _ _=>?_
 have s:=fun X (mp:Bool) (lim:Nat) (Q:Value->NB->Prop)=>Nb7 (id:=5) (mp:=mp) (lim:=lim) (Q:=Q) (x.kb.new (Chg.refl.app (X:=X))) (fun m V=>by have:=(x.wf.ents 5 m.m (by rw [RX,V];rfl)).1;have:=x.many;omega)
 have al:Nbn a2.st 5=(750,0):=by
  rw [aa]
  unfold Nbn
  obtain ⟨m,V⟩:=Option.isSome_iff_exists.1 exB.2
  have:=exB.1
  rw [V] at this⊢
  simp only [Oc] at this
  simp only [this]
 rw [al] at s
 refine NI ?_
 simp only [n17,r17,s,SB,seval,NC,NH,NG,NT,reduceCtorEq,ND,place,NA,NE]
theorem BureauSums_ok [OA] (N:OA.on=false) {lim c:Nat} {p:Option Addr} {L:List Stp} {H:NB} {Q:Value->NB->Prop} (hl:lim<=H.length) (T:Sl H encU 5 p L) (P:∀x∈L,StOk x) (hn:L.length<2 ^ 63)
  (R:∀G,Q (.bool true) G):NQ E false lim 3 [.slice p L.length c] H Q:=by
 refine runs (by decide) e3 rfl ?_
 rw [b3,c3]
 simp only [n3,r3,SB,seval,NC,NH,NG,NT,reduceCtorEq,ND,place,NA,NE]
 rw [Nb]
 refine Nsl hl fun G1 C g=>?_
 refine NI ?_
 simp only [n3,r3,SB,seval,NC,NH,NG,NT,reduceCtorEq,ND,place,NA,NE]
 rw [Nb]
 have z:=g.len
 refine Nhz hl T P hn C ⟨Wf0,⟨fun i m h=>(by cases h),fun i m h=>(by cases h),fun i m h=>(by cases h),fun i m n h=>(by cases h),fun i m h=>(by cases h)⟩,fun n x h=>(by cases h)⟩ g rfl rfl rfl fun u F f o d q f3=>?_
 have A:=q.len
 refine NI ?_
 simp only [n3,r3,f3,SB,seval,NC,NH,NG,NT,reduceCtorEq,ND,place,NA,NE]
 have k:(∀r,u.ptr (H.length+2) r≠some f.length)/\∀c∈u.calls,∀a,c.p=some a->a.block≠f.length:=⟨fun r hr=>by have:=(o.lt hr).2;omega,fun c hc a D=>by have:=(o.cs c hc).2 a D;omega⟩
 refine Neo (cnt:=[]) (M:=f.length) hl (by simp;omega) (o.new Chg.refl.app) d (by rw [NU];rfl) (by simp) (by omega) k ?_ ⟨f3,rfl,rfl⟩ fun V I B l b t s=>?_
 ·exact fun n=>⟨fun x e S=>(by have:=(d.sm n x e).2.2.1;omega),fun _=>rfl⟩
 obtain ⟨v,w,K⟩:=s
 have j:=b.len
 have y:Chg [f.length] (f++[.map []]) B:=b
 simp only [n3,r3,v,w,K,SB,seval,NC,NH,NG,NT,reduceCtorEq,ND,place,NA,NE]
 refine Nfw (M:=f.length) (i:=0) ((o.new Chg.refl.app).to b fun x e=>by rw [Ng.1 e];exact k) t (by simp at j;omega) (fun n=>?_) v w rfl fun J U O=>?_
 ·cases e:NR n u.xs with
  | none=>exact (l n).2 fun x h=>by rw [e] at h;cases h
  | some x=>exact (l n).1 x e (by have:=(d.sm n x e).2.2.2;omega)
 simp only [n3,r3,Nsc N,SB,seval,NC,NH,NG,NT,reduceCtorEq,ND,place,NA,NE]
 exact R _
end Go.Proofs.YtancgcogjokfcaaGreatDoor.Fn


