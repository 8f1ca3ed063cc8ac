/-
  Joined texts, 9 of 10. A part of the claim that the last text states.
-/
import Derived.Test.YtfedceicnjnefacPA8
namespace Go.Proofs.Ytfedceicnjnefac.Fn
open Go.AM Go.AM.Sym Go.Net
set_option maxRecDepth 100000
set_option linter.unusedVariables false
set_option linter.unusedSimpArgs false
set_option maxHeartbeats 4000000
theorem field_mut {α:Type} [Inhabited α] {G:Heap} {enc:α→List Value} {e:Nat} {l:List α} {lim S:Nat} (he:∀x,(enc x).length=e) (hS:hget G S=.cells false (l.flatMap enc)) (hl:lim≤S) {i j:Nat} (hi:i<l.length) (hj:j<e) {v:Value} (y:α) (hy:enc y=(enc (gt l i)).set j v) :
  ∃G',(∀X,AM.storeAt lim (G++X) ((elt (some ⟨S,0,none⟩) e i).add j) [v]=some (G'++X))∧hget G' S=.cells false ((l.set i y).flatMap enc)∧Mut G G' S:=by
 obtain ⟨G',h1,h2,h3⟩:=mut_set (hget_alive hS) (.cells false ((l.set i y).flatMap enc))
 refine ⟨G',fun X=>?_,h2,h3⟩
 have h4:i*e+e≤l.length*e:=by
  have:=Nat.mul_le_mul_right e (Nat.succ_le_of_lt hi)
  rw [Nat.succ_mul] at this;exact this
 have hS':hget (G++X) S=.cells false (l.flatMap enc):=by rw [hget_old (hget_alive hS)];exact hS
 simp only [elt,addrOf,Option.getD_some,addr_add,storeAt_lit,hS',Nat.zero_add,List.length_singleton]
 rw [if_pos ⟨hl,by rw [flat_len he];omega⟩,←h1]
 congr 3
 show (l.flatMap enc).set (i*e+j) v=_
 clear h1 h2 h3 hS hS' h4
 induction l generalizing i with
 | nil=>simp at hi
 | cons x l ih=>
   cases i with
   | zero=>
     rw [gt_cons_zero] at hy
     rw [Nat.zero_mul,Nat.zero_add,List.set_cons_zero,List.flatMap_cons,List.flatMap_cons,List.set_append_left _ _ (by rw [he];exact hj),hy]
   | succ i=>
     rw [gt_cons_succ] at hy
     rw [List.set_cons_succ,List.flatMap_cons,List.flatMap_cons,List.set_append_right _ _ (by rw [he,Nat.succ_mul];omega),he,show (i+1)*e+j-e=i*e+j by rw [Nat.succ_mul];omega,ih (by simpa using hi) hy]
structure Ten (G:Heap) (A:Nat) (L:List Leg):Prop where
 b:hget G A=.cells false (L.flatMap encL)
 n:L.length=10
 by':∀l∈L,By l
section
variable {lim A:Nat} {G:Heap} {fr:Nat→Value} {K:List AItem} {Z:Value→Heap→Prop}
theorem Ten.ext {G':Heap} {L:List Leg} (h:Ten G A L) (e:Ext G G'):Ten G' A L:=⟨e.cells h.b,h.n,h.by'⟩
theorem small_t [OB] {B R i k j:Nat} {a b:Option Addr} {cp cl:Nat} {P T:List Int} {L:List Leg} (hn:NetIn G a b P L) (hb:hget G B=.cells false (netV a P.length cp b L.length cl)) (hs:hget G R=.cells false (T.flatMap encI)) (hT6:T.length=6)
  (f2:fr 2=.int .i64 (i:Int)) (f3:fr 3=.int .i64 (k:Int)) (f4:fr 4=.int .i64 (j:Int)) (f5:fr 5=.pointer (some ⟨B,0,none⟩)) (f60:fr 60=.slice (some ⟨R,0,none⟩) 6 6) (f61:fr 61=.int .i64 6) (f62:fr 62=.int .i64 0)
  (hK:∀fr' G',Ext G G'→(∀j,j≤4→fr' j=fr j)→Ret E a3 lim K fr' G' Z):Ret E a3 lim (.code (.loop l3_1)::.inBlock 6::K) fr G Z:=by
 refine Ret_rounds (fun n=>6-n) (fun n fr' G'=>n≤6∧fr' 62=.int .i64 (n:Int)∧fr' 60=.slice (some ⟨R,0,none⟩) 6 6∧fr' 61=.int .i64 6∧fr' 5=.pointer (some ⟨B,0,none⟩)∧Ext G G'∧∀j,j≤4→fr' j=fr j) 0 ⟨Nat.zero_le _,f62,f60,f61,f5,Ext.refl,fun _ _=>rfl⟩ ?_
 intro n fr' G' ⟨hn6,g62,g60,g61,g5,hE,hfr⟩ hN
 rw [Ret_code l3_1.eq_1]
 have g2:=(hfr 2 (by decide)).trans f2
 have g3:=(hfr 3 (by decide)).trans f3
 have g4:=(hfr 4 (by decide)).trans f4
 have hfr':∀(f:Nat→Value),(∀j,j≤4→f j=fr' j)→∀j,j≤4→f j=fr j:=fun f h j hj=>(h j hj).trans (hfr j hj)
 have bX:=fun X=>(Ext.refl.app (X:=X)).cells (hE.cells hb)
 have sT:Sl G' encI 1 (some ⟨R,0,none⟩) T:=Sl.row encI_len (hE.cells hs)
 refine Ret_pad ?_
 by_cases hlt:n<6
 case neg=>
  obtain rfl:n=6:=by omega
  simp only [n3,r3,g60,g61,g62,SB,Nat.reduceLT,callee,aOp,ne_eq,Nat.reduceEqDiff,aBin,aUn,if_true,if_false,reduceCtorEq,frame0,place,notTuple,Nat.reduceAdd,Nat.reduceLeDiff,resVal,dite_true,dite_false,Int.reduceEq,Int.reduceLT,Int.reduceLE]
  exact hK _ _ hE.app (hfr' _ fun j hj=>(by simp only [upd];repeat rw [if_neg (by omega)]))
 have h6:(n:Int)<6:=by omega
 have w1:IntKind.i64.wrap ((n:Int)+1)=((n+1:Nat):Int):=wrap_nat (by omega)
 have l1:=ld_ints (i:=n) sT (by omega)
 have x1:=ix_ints (i:=n) (n:=6) sT hlt hT6
 have ht:∀X (mp:Bool) (lim:Nat) (Q:Value→Heap→Prop) (p q t:Int),CallR E mp lim 5 [.agg (netV a P.length cp b L.length cl).toArray,.int .i64 p,.int .i64 q,.int .i64 t] (G'++X) Q=Q (.bool true) (G'++X):=fun X mp lim Q p q t=>tells_ok ((hn.ext hE).app X)
 simp only [n3,r3,g60,g61,g62,g2,g3,g4,g5,eq_true h6,w1,l1,x1,bX,netV_len,netV_0,netV_1,take_all,ht,SB,Nat.reduceLT,callee,aOp,ne_eq,Nat.reduceEqDiff,aBin,aUn,if_true,if_false,reduceCtorEq,frame0,place,notTuple,Nat.reduceAdd,Nat.reduceLeDiff,resVal,dite_true,dite_false,Int.reduceEq,Int.reduceLT,Int.reduceLE]
 exact hN (n+1) _ _ ⟨by omega,(by simp only [FB,Nat.reduceEqDiff]),(by simp only [g60,FB,Nat.reduceEqDiff]),(by simp only [g61,FB,Nat.reduceEqDiff]),(by simp only [g5,FB,Nat.reduceEqDiff]),hE.app,hfr' _ fun j hj=>(by simp only [upd];repeat rw [if_neg (by omega)])⟩ (by omega)
theorem small_j [OB] {L:List Leg} {i k:Nat} (hA:lim≤A) (hlim:lim≤G.length) (h:Ten G A L) (hi:i<10) (hk:k<10) (f1:fr 1=.slice (some ⟨A,0,none⟩) 10 10) (f2:fr 2=.int .i64 (i:Int)) (f3:fr 3=.int .i64 (k:Int)) (f4:fr 4=.int .i64 0)
  (hK:∀fr' G',Ext G G'→(∀j,j≤3→fr' j=fr j)→Ret E a3 lim K fr' G' Z):Ret E a3 lim (.code (.loop l3_2)::.inBlock 4::K) fr G Z:=by
 refine Ret_rounds (fun j=>k-j) (fun j fr' G'=>j≤k∧fr' 4=.int .i64 (j:Int)∧Ext G G'∧∀j,j≤3→fr' j=fr j) 0 ⟨Nat.zero_le _,f4,Ext.refl,fun _ _=>rfl⟩ ?_
 intro j fr' G' ⟨hj,g4,hE,hfr⟩ hN
 rw [Ret_code l3_2.eq_1]
 have g1:=(hfr 1 (by decide)).trans f1
 have g2:=(hfr 2 (by decide)).trans f2
 have g3:=(hfr 3 (by decide)).trans f3
 have hlG:=hE.len
 have hT:=h.ext hE
 have hlL:lim≤G'.length:=by omega
 have hfr':∀(f:Nat→Value),(∀j,j≤3→f j=fr' j)→∀j,j≤3→f j=fr j:=fun f h j hj=>(h j hj).trans (hfr j hj)
 refine Ret_pad ?_
 by_cases hlt:j<k
 case neg=>
  simp only [n3,r3,g3,g4,hlt,SB,Nat.reduceLT,callee,aOp,ne_eq,Nat.reduceEqDiff,aBin,aUn,if_true,if_false,reduceCtorEq,frame0,place,notTuple,Nat.reduceAdd,Nat.reduceLeDiff,resVal,dite_true,dite_false,Int.reduceEq,Int.reduceLT,Int.reduceLE]
  exact hK _ _ hE.app (hfr' _ fun j hj=>(by simp only [upd];repeat rw [if_neg (by omega)]))
 have w1:IntKind.i64.wrap ((j:Int)+1)=((j+1:Nat):Int):=wrap_nat (by omega)
 have sA:Sl G' encL 8 (some ⟨A,0,none⟩) L:=Sl.row encL_len hT.b
 have hn:=hT.n
 have xi:=fun c (kk:IntKind) (H1:Heap)=>sA.idx (c:=c) (k:=kk) (H1:=H1) (i:=i) (by omega)
 have xj:=fun c (kk:IntKind) (H1:Heap)=>sA.idx (c:=c) (k:=kk) (H1:=H1) (i:=j) (by omega)
 have xk:=fun c (kk:IntKind) (H1:Heap)=>sA.idx (c:=c) (k:=kk) (H1:=H1) (i:=k) (by omega)
 rw [hn] at xi xj xk
 have li:=fun X=>(sA.app X).loadCells encL_len (show i<L.length by omega)
 have lj:=fun X=>(sA.app X).loadCells encL_len (show j<L.length by omega)
 have lk:=fun X=>(sA.app X).loadCells encL_len (show k<L.length by omega)
 have bi:=hT.by' _ (gt_mem (l:=L) (i:=i) (by omega))
 have bj:=hT.by' _ (gt_mem (l:=L) (i:=j) (by omega))
 have bk:=hT.by' _ (gt_mem (l:=L) (i:=k) (by omega))
 simp only [n3,r3,g1,g2,g3,g4,hlt,xi,xj,xk,li,lj,lk,setAll_full,hlL,encL,SB,Nat.reduceLT,callee,aOp,ne_eq,Nat.reduceEqDiff,aBin,aUn,if_true,if_false,reduceCtorEq,frame0,place,notTuple,Nat.reduceAdd,Nat.reduceLeDiff,resVal,dite_true,dite_false,Int.reduceEq,Int.reduceLT,Int.reduceLE]
 generalize IntKind.i64.wrap (1051893399-IntKind.i64.wrap (60*(j:Int)))=z
 refine small_t (i:=i) (k:=k) (j:=j) (B:=G'.length+2) (R:=G'.length+3) (a:=some ⟨G'.length,0,none⟩) (b:=some ⟨G'.length+1,0,none⟩) (cp:=3) (cl:=3) (P:=[2,3,1]) (T:=[0,540,601,780,10140,z]) (L:=[gt L i,gt L j,gt L k])
  ⟨Sl.row (ro:=false) encI_len (by rw [hget_new0];rfl),Sl.row (ro:=false) encL_len (by rw [hget_new];rfl),by decide,(show 3<2 ^ 63 by decide),fun l hl=>?_⟩ (by rw [hget_new];rfl) (by rw [hget_new];rfl) rfl (by simp only [g2,FB,Nat.reduceEqDiff]) (by simp only [g3,FB,Nat.reduceEqDiff]) (by simp only [g4,FB,Nat.reduceEqDiff]) (by simp only [FB,Nat.reduceEqDiff]) (by simp only [FB,Nat.reduceEqDiff]) (by simp only [FB,Nat.reduceEqDiff]) (by rfl) fun fr2 G2 hE2 hfr2=>?_
 ·simp only [List.mem_cons,List.not_mem_nil,or_false] at hl
  rcases hl with rfl | rfl | rfl<;>assumption
 have k1:fr2 1=.slice (some ⟨A,0,none⟩) 10 10:=(hfr2 1 (by decide)).trans (by simp only [g1,FB,Nat.reduceEqDiff])
 have k2:fr2 2=.int .i64 (i:Int):=(hfr2 2 (by decide)).trans (by simp only [g2,FB,Nat.reduceEqDiff])
 have k3:fr2 3=.int .i64 (k:Int):=(hfr2 3 (by decide)).trans (by simp only [g3,FB,Nat.reduceEqDiff])
 have k4:fr2 4=.int .i64 (j:Int):=(hfr2 4 (by decide)).trans (by simp only [g4,FB,Nat.reduceEqDiff])
 refine Ret_pad ?_
 simp only [n3,r3,k4,w1,SB,Nat.reduceLT,callee,aOp,ne_eq,Nat.reduceEqDiff,aBin,aUn,if_true,if_false,reduceCtorEq,frame0,place,notTuple,Nat.reduceAdd,Nat.reduceLeDiff,resVal,dite_true,dite_false,Int.reduceEq,Int.reduceLT,Int.reduceLE]
 refine hN (j+1) _ _ ⟨by omega,(by simp only [FB,Nat.reduceEqDiff]),((hE.app).trans hE2).app,fun m hm=>?_⟩ (by omega)
 by_cases h4:m=4
 ·omega
 ·have h5:=hfr2 m (by omega)
  simp only [upd]
  repeat rw [if_neg (by omega)]
  rw [h5]
  simp only [upd]
  repeat rw [if_neg (by omega)]
  exact hfr m hm
theorem small_k [OB] {L:List Leg} {i:Nat} (hA:lim≤A) (hlim:lim≤G.length) (h:Ten G A L) (hi:i<10) (f1:fr 1=.slice (some ⟨A,0,none⟩) 10 10) (f2:fr 2=.int .i64 (i:Int)) (f3:fr 3=.int .i64 0)
  (hK:∀fr' G',Ext G G'→(∀j,j≤2→fr' j=fr j)→Ret E a3 lim K fr' G' Z):Ret E a3 lim (.code (.loop l3_3)::.inBlock 2::K) fr G Z:=by
 refine Ret_rounds (fun k=>i-k) (fun k fr' G'=>k≤i∧fr' 3=.int .i64 (k:Int)∧Ext G G'∧∀j,j≤2→fr' j=fr j) 0 ⟨Nat.zero_le _,f3,Ext.refl,fun _ _=>rfl⟩ ?_
 intro k fr' G' ⟨hk,g3,hE,hfr⟩ hN
 rw [Ret_code l3_3.eq_1]
 have g1:=(hfr 1 (by decide)).trans f1
 have g2:=(hfr 2 (by decide)).trans f2
 have hlG:=hE.len
 have hT:=h.ext hE
 have hfr':∀(f:Nat→Value),(∀j,j≤2→f j=fr' j)→∀j,j≤2→f j=fr j:=fun f h j hj=>(h j hj).trans (hfr j hj)
 refine Ret_pad ?_
 by_cases hlt:k<i
 case neg=>
  simp only [n3,r3,g2,g3,hlt,SB,Nat.reduceLT,callee,aOp,ne_eq,Nat.reduceEqDiff,aBin,aUn,if_true,if_false,reduceCtorEq,frame0,place,notTuple,Nat.reduceAdd,Nat.reduceLeDiff,resVal,dite_true,dite_false,Int.reduceEq,Int.reduceLT,Int.reduceLE]
  exact hK _ _ hE.app (hfr' _ fun j hj=>(by simp only [upd];repeat rw [if_neg (by omega)]))
 have w1:IntKind.i64.wrap ((k:Int)+1)=((k+1:Nat):Int):=wrap_nat (by omega)
 simp only [n3,r3,g1,g2,g3,hlt,SB,Nat.reduceLT,callee,aOp,ne_eq,Nat.reduceEqDiff,aBin,aUn,if_true,if_false,reduceCtorEq,frame0,place,notTuple,Nat.reduceAdd,Nat.reduceLeDiff,resVal,dite_true,dite_false,Int.reduceEq,Int.reduceLT,Int.reduceLE]
 refine small_j (L:=L) (i:=i) (k:=k) hA (by simp;omega) (hT.ext Ext.refl.app) hi (by omega) (by simp only [g1,FB,Nat.reduceEqDiff]) (by simp only [g2,FB,Nat.reduceEqDiff]) (by simp only [g3,FB,Nat.reduceEqDiff]) (by rfl) fun fr2 G2 hE2 hfr2=>?_
 have k3:fr2 3=.int .i64 (k:Int):=(hfr2 3 (by decide)).trans (by simp only [g3,FB,Nat.reduceEqDiff])
 refine Ret_pad ?_
 simp only [n3,r3,k3,w1,SB,Nat.reduceLT,callee,aOp,ne_eq,Nat.reduceEqDiff,aBin,aUn,if_true,if_false,reduceCtorEq,frame0,place,notTuple,Nat.reduceAdd,Nat.reduceLeDiff,resVal,dite_true,dite_false,Int.reduceEq,Int.reduceLT,Int.reduceLE]
 refine hN (k+1) _ _ ⟨by omega,(by simp only [FB,Nat.reduceEqDiff]),((hE.app).trans hE2).app,fun m hm=>?_⟩ (by omega)
 have h5:=hfr2 m (by omega)
 simp only [upd]
 repeat rw [if_neg (by omega)]
 rw [h5]
 simp only [upd]
 repeat rw [if_neg (by omega)]
 exact hfr m hm
theorem days_at {d:Nat} (h:d<5):∃x:Int,0≤x∧x≤255∧([.int .u8 127,.int .u8 127,.int .u8 127,.int .u8 1,.int .u8 85]:List Value)[d]? = some (.int .u8 x):=by
 match d,h with
 | 0,_=>exact ⟨127,by decide,by decide,rfl⟩
 | 1,_=>exact ⟨127,by decide,by decide,rfl⟩
 | 2,_=>exact ⟨127,by decide,by decide,rfl⟩
 | 3,_=>exact ⟨1,by decide,by decide,rfl⟩
 | 4,_=>exact ⟨85,by decide,by decide,rfl⟩
theorem small_i [OB] {L:List Leg} (hA:lim≤A) (hlim:lim≤G.length) (h:Ten G A L) (f1:fr 1=.slice (some ⟨A,0,none⟩) 10 10) (f2:fr 2=.int .i64 0)
  (hK:∀fr' G',G.length≤G'.length→Ret E a3 lim K fr' G' Z):Ret E a3 lim (.code (.loop l3_4)::.inBlock 0::K) fr G Z:=by
 refine Ret_rounds (fun s:Nat×List Leg=>10-s.1) (fun s fr' G'=>s.1≤10∧fr' 1=.slice (some ⟨A,0,none⟩) 10 10∧fr' 2=.int .i64 (s.1:Int)∧Ten G' A s.2∧G.length≤G'.length) (0,L) ⟨Nat.zero_le _,f1,f2,h,Nat.le_refl _⟩ ?_
 rintro ⟨i,L'⟩ fr' G' ⟨hi,g1,g2,hT,hl⟩ hN
 simp only at hi g2 hT
 rw [Ret_code l3_4.eq_1]
 refine Ret_pad ?_
 by_cases hlt:i<10
 case neg=>
  obtain rfl:i=10:=by omega
  simp only [n3,r3,g1,g2,SB,Nat.reduceLT,callee,aOp,ne_eq,Nat.reduceEqDiff,aBin,aUn,if_true,if_false,reduceCtorEq,frame0,place,notTuple,Nat.reduceAdd,Nat.reduceLeDiff,resVal,dite_true,dite_false,Int.reduceEq,Int.reduceLT,Int.reduceLE]
  exact hK _ _ (by simp;omega)
 have h10:(i:Int)<10:=by omega
 have w1:IntKind.i64.wrap ((i:Int)+1)=((i+1:Nat):Int):=wrap_nat (by omega)
 have sA:Sl G' encL 8 (some ⟨A,0,none⟩) L':=Sl.row encL_len hT.b
 have hTn:=hT.n
 have xA:=fun c (kk:IntKind) (H1:Heap)=>sA.idx (c:=c) (k:=kk) (H1:=H1) (i:=i) (by omega)
 rw [hTn] at xA
 have hmod:Int.tmod (i:Int) 5=((i % 5:Nat):Int):=rfl
 have h5:i % 5<5:=Nat.mod_lt _ (by decide)
 generalize i % 5=d at hmod h5
 have x5:∀H1:Heap,idxK 1 (.slice (some ⟨G'.length,0,none⟩) 5 5) (.int .i64 (d:Int)) H1=some (.pointer (some ⟨G'.length,d,none⟩),H1):=fun H1=>by
  rw [idxK_nat h5];simp [addr_add]
 obtain ⟨x,hx0,hx1,hx⟩:=days_at h5
 have bi:=hT.by' _ (gt_mem (l:=L') (i:=i) (by omega))
 obtain ⟨G2,e2,k2,m2⟩:=field_mut (lim:=lim) (j:=7) (v:=.int .u8 x) encL_len hT.b hA (show i<L'.length by omega) (by decide) { gt L' i with days:=x } rfl
 have hT2:Ten G2 A (L'.set i { gt L' i with days:=x }):=⟨k2,by rw [List.length_set];exact hTn,fun l hl=>by
  rcases List.mem_or_eq_of_mem_set hl with h | rfl
  ·exact hT.by' l h
  ·exact ⟨hx0,hx1⟩⟩
 have hl2:=m2.len
 simp only [n3,r3,g1,g2,eq_true h10,xA,hmod,x5,hx,e2,SB,Nat.reduceLT,callee,aOp,ne_eq,Nat.reduceEqDiff,aBin,aUn,if_true,if_false,reduceCtorEq,frame0,place,notTuple,Nat.reduceAdd,Nat.reduceLeDiff,resVal,dite_true,dite_false,Int.reduceEq,Int.reduceLT,Int.reduceLE]
 refine small_k (L:=L'.set i { gt L' i with days:=x }) (i:=i) hA (by simp;omega) (hT2.ext Ext.refl.app) hlt (by simp only [g1,FB,Nat.reduceEqDiff]) (by simp only [g2,FB,Nat.reduceEqDiff]) (by rfl) fun fr2 G3 hE3 hfr2=>?_
 have q1:fr2 1=.slice (some ⟨A,0,none⟩) 10 10:=(hfr2 1 (by decide)).trans (by simp only [g1,FB,Nat.reduceEqDiff])
 have q2:fr2 2=.int .i64 (i:Int):=(hfr2 2 (by decide)).trans (by simp only [g2,FB,Nat.reduceEqDiff])
 have hl3:=hE3.len
 simp only [List.length_append] at hl3
 refine Ret_pad ?_
 simp only [n3,r3,q1,q2,w1,SB,Nat.reduceLT,callee,aOp,ne_eq,Nat.reduceEqDiff,aBin,aUn,if_true,if_false,reduceCtorEq,frame0,place,notTuple,Nat.reduceAdd,Nat.reduceLeDiff,resVal,dite_true,dite_false,Int.reduceEq,Int.reduceLT,Int.reduceLE]
 exact hN (i+1,L'.set i { gt L' i with days:=x }) _ _ ⟨by show i+1≤10;omega,(by simp only [q1,FB,Nat.reduceEqDiff]),(by simp only [FB,Nat.reduceEqDiff]),(hT2.ext (Ext.refl.app.trans hE3)).ext Ext.refl.app,by simp;omega⟩ (by show 10-(i+1)<10-i;omega)
end
theorem RouteSmall_ok [OB] {mp:Bool} {lim:Nat} {H:Heap} {Q:Value→Heap→Prop} (hoff:OB.on 8=false):CallR E mp lim 3 [] H Q=Q (.bool true) H:=by
 refine pc (by decide) e3 rfl rfl ?_
 rw [b3,c3]
 have hf:=fun (mp:Bool) (lim:Nat) (H:Heap) (Q:Value→Heap→Prop)=>far_ok (mp:=mp) (lim:=lim) (H:=H) (Q:=Q)
 have hw:=fun (mp:Bool) (lim:Nat) (H:Heap) (Q:Value→Heap→Prop)=>wide_ok (mp:=mp) (lim:=lim) (H:=H) (Q:=Q)
 have ha:=fun (mp:Bool) (lim:Nat) (H:Heap) (Q:Value→Heap→Prop)=>awake33_go (mp:=mp) (lim:=lim) (H:=H) (Q:=Q) hoff
 simp only [n3,r3,daily_ok,encL,setAll_full,SB,Nat.reduceLT,callee,aOp,ne_eq,Nat.reduceEqDiff,aBin,aUn,if_true,if_false,reduceCtorEq,frame0,place,notTuple,Nat.reduceAdd,Nat.reduceLeDiff,resVal,dite_true,dite_false,Int.reduceEq,Int.reduceLT,Int.reduceLE]
 refine small_i (A:=H.length) (L:=[⟨1,1,2,600,60,0,0,127⟩,⟨5,1,2,540,120,30,0,127⟩,⟨2,2,3,720,60,60,0,127⟩,⟨9,2,3,660,60,0,0,127⟩,⟨3,1,3,540,180,0,0,127⟩,⟨4,3,1,0,1440,1440,0,127⟩,⟨6,3,2,1439,1,0,0,127⟩,⟨7,2,1,100,3000,0,0,127⟩,⟨8,3,1,700,20160,10080,0,127⟩,⟨10,1,3,600,60,1500,0,127⟩]) (Nat.le_refl _) (by simp) ⟨by rw [hget_new0];rfl,rfl,fun l hl=>?_⟩ (by simp only [FB,Nat.reduceEqDiff]) (by rfl) fun fr2 G2 hl2=>?_
 ·simp only [List.mem_cons,List.not_mem_nil,or_false] at hl
  rcases hl with rfl | rfl | rfl | rfl | rfl | rfl | rfl | rfl | rfl | rfl<;>(unfold By;decide)
 refine Ret_pad ?_
 simp only [n3,r3,hf,hw,ha,SB,Nat.reduceLT,callee,aOp,ne_eq,Nat.reduceEqDiff,aBin,aUn,if_true,if_false,reduceCtorEq,frame0,place,notTuple,Nat.reduceAdd,Nat.reduceLeDiff,resVal,dite_true,dite_false,Int.reduceEq,Int.reduceLT,Int.reduceLE]
end Go.Proofs.Ytfedceicnjnefac.Fn

