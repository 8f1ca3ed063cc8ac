/-
  Joined texts, 7 of 10. A part of the claim that the last text states.
-/
import Derived.Test.YtkppjkkkdpcgiaaPH6
namespace Go.Proofs.Ytkppjkkkdpcgiaa.Fn.SE
open Go.AM Go.AM.Sym Go.Sort
set_option maxRecDepth 100000
set_option linter.unusedVariables false
set_option linter.unusedSimpArgs false
set_option maxHeartbeats 4000000
theorem scanS_step {α:Type} [Inhabited α] {lt:α→α→Bool} {d:Array α} {b i:Nat} (h:i<b) (hp:lt d[i]! d[i-1]! = false):scanSorted lt d b i=scanSorted lt d b (i+1):=by
 rw [scanSorted];simp [h,hp]
theorem scanS_stop {α:Type} [Inhabited α] {lt:α→α→Bool} {d:Array α} {b i:Nat} (h:i<b→lt d[i]! d[i-1]! = true):scanSorted lt d b i=i:=by
 rw [scanSorted]
 by_cases q:i<b
 ·simp [h q]
 ·simp [q]
def fixDownC {α:Type} [Inhabited α] (lt:α→α→Bool) (a i:Nat) (d:Array α):Array α:=if 2≤i-a then shiftDown lt (i-1) d else d
def fixUpC {α:Type} [Inhabited α] (lt:α→α→Bool) (b i:Nat) (d:Array α):Array α:=if 2≤b-i then shiftUp lt b (i+1) d else d
theorem partialIns_more {α:Type} [Inhabited α] {lt:α→α→Bool} {a b k i i':Nat} {d:Array α} (hs:scanSorted lt d b i=i') (h1:¬i'=b) (h2:¬b-a<50):partialIns lt a b (k+1) i d=partialIns lt a b k i' (fixUpC lt b i' (fixDownC lt a i' (swp d i' (i'-1)))):=by
 rw [partialIns]
 simp only [hs]
 rw [if_neg h1,if_neg h2]
 rfl
theorem pis_ok [OB] {G X:Heap} {B lim cap n:Nat} {p:Option Addr} {c:Go.Scan.Ev→Go.Scan.Ev→Int} {cl:FuncId} {cs:List Value} {Q:Value→Heap→Prop} (hp:p=some ⟨B,0,none⟩) (hB:B<G.length) (hl:lim≤B) (hn2:n<2 ^ 61) (hc:∀(mp:Bool) (lim:Nat) (x y:Go.Scan.Ev) (H:Heap) (Q:Value→Heap→Prop),CallR E mp lim cl (.agg (encE x).toArray::.agg (encE y).toArray::cs) H Q=Q (.int .i64 (c x y)) H) {d:Array Go.Scan.Ev} {a b:Nat} (hd:d.size=n) (hb:b≤n) (hab:a<b) :
  CallR E false lim 74 [.slice p n cap,.int .i64 (a:Int),.int .i64 (b:Int),.func (.func cl) #[] cs.toArray] (DH encE G B d++X) Q=Q (.bool (partialInsertionSort (ltC c) d a b).2) (DH encE G B (partialInsertionSort (ltC c) d a b).1++X):=by
 refine runs (by decide) e74 rfl ?_
 rw [b74,c74]
 have hw1:IntKind.i64.wrap ((a:Int)+1)=((a+1:Nat):Int):=wrap_nat (by omega)
 generalize hT:partialInsertionSort (ltC c) d a b=T
 rw [partialInsertionSort] at hT
 have ld:=fun (i:Nat) (X:Heap) (d:Array Go.Scan.Ev) (hd:d.size=n) (hi:i<n)=>DH_ld (X:=X) (d:=d) (i:=i) hp hB encE_len (by omega);have st:=fun (i:Nat) (X:Heap) (d:Array Go.Scan.Ev) (hd:d.size=n) (hi:i<n) (y:Go.Scan.Ev)=>DH_st (X:=X) (d:=d) (i:=i) (y:=y) hp hB hl encE_len (by omega);have ix:=fun (i:Nat) (hi:i<n) c (k:IntKind) (H:Heap)=>DH_idx (e:=7) (i:=i) (n:=n) (c:=c) (k:=k) (H:=H) hp hi
 simp only [n74,r74,hw1,SB,Nat.reduceLT,callee,aOp,ne_eq,Nat.reduceEqDiff,aBin,aUn,if_true,if_false,reduceCtorEq,frame0,place,notTuple,Nat.reduceAdd,Nat.reduceLeDiff,resVal,dite_true,dite_false,Int.reduceEq,Int.reduceLT,Int.reduceLE]
 refine Ret_rounds (S:=Nat×Nat×Array Go.Scan.Ev) (fun s=>s.1) (fun s fr H=>s.1≤5∧a<s.2.1∧s.2.1≤b∧fr 0=.slice p n cap∧fr 1=.int .i64 (a:Int)∧fr 2=.int .i64 (b:Int)∧fr 3=.func (.func cl) #[] cs.toArray∧fr 9=.int .i64 (s.2.1:Int)∧fr 10=.int .i64 (5-(s.1:Int))∧
  H=DH encE G B s.2.2++X∧s.2.2.size=n∧T=partialIns (ltC c) a b s.1 s.2.1 s.2.2) (5,a+1,d) ⟨by simp only;omega,by simp only;omega,by simp only;omega,(by simp only [FB,Nat.reduceEqDiff]),(by simp only [FB,Nat.reduceEqDiff]),(by simp only [FB,Nat.reduceEqDiff]),(by simp only [FB,Nat.reduceEqDiff]),(by simp only [FB,Nat.reduceEqDiff]),by rfl,rfl,hd,hT.symm⟩ ?_
 rintro ⟨k,i,d1⟩ fr H ⟨h1,h2,h3,g0,g1,g2,g3,g9,g10,rfl,hd1,he⟩ hN
 simp only at h1 h2 h3 g9 g10 hd1 he
 rw [Ret_code l74_4.eq_1]
 cases k with
 | zero=>
   have g10':fr 10=.int .i64 5:=by simpa using g10
   clear hN g10
   simp only [n74,r74,g0,g1,g2,g3,g9,g10',SB,Nat.reduceLT,callee,aOp,ne_eq,Nat.reduceEqDiff,aBin,aUn,if_true,if_false,reduceCtorEq,frame0,place,notTuple,Nat.reduceAdd,Nat.reduceLeDiff,resVal,dite_true,dite_false,Int.reduceEq,Int.reduceLT,Int.reduceLE]
   rw [he,partialIns]
   exact ⟨rfl,rfl⟩
 | succ k=>
   have hk:(5:Int)-((k+1:Nat):Int)<5:=by omega
   have hwk:IntKind.i64.wrap ((5:Int)-((k+1:Nat):Int)+1)=5-(k:Int):=by rw [wrap_id (by omega) (by omega)];omega
   simp only [n74,r74,g0,g1,g2,g3,g9,g10,hk,SB,Nat.reduceLT,callee,aOp,ne_eq,Nat.reduceEqDiff,aBin,aUn,if_true,if_false,reduceCtorEq,frame0,place,notTuple,Nat.reduceAdd,Nat.reduceLeDiff,resVal,dite_true,dite_false,Int.reduceEq,Int.reduceLT,Int.reduceLE]
   refine Ret_rounds (S:=Nat) (fun s=>b+1-s) (fun s fr H=>i≤s∧s≤b∧fr 0=.slice p n cap∧fr 1=.int .i64 (a:Int)∧fr 2=.int .i64 (b:Int)∧fr 3=.func (.func cl) #[] cs.toArray∧fr 9=.int .i64 (s:Int)∧fr 10=.int .i64 (5-((k+1:Nat):Int))∧
    H=DH encE G B d1++X∧scanSorted (ltC c) d1 b i=scanSorted (ltC c) d1 b s) i ⟨Nat.le_refl _,h3,(by simp only [g0,FB,Nat.reduceEqDiff]),(by simp only [g1,FB,Nat.reduceEqDiff]),(by simp only [g2,FB,Nat.reduceEqDiff]),(by simp only [g3,FB,Nat.reduceEqDiff]),(by simp only [g9,FB,Nat.reduceEqDiff]),(by simp only [g10,FB,Nat.reduceEqDiff]),rfl,rfl⟩ ?_
   rintro i' fr1 H1 ⟨x1,x2,q0,q1,q2,q3,q9,q10,rfl,hs⟩ hM
   rw [Ret_code l74_3.eq_1]
   have hwi:IntKind.i64.wrap ((i':Int)-1)=((i'-1:Nat):Int):=wrap_pred (by omega) (by omega)
   have hwi1:IntKind.i64.wrap ((i':Int)+1)=((i'+1:Nat):Int):=wrap_nat (by omega)
   have hwa:IntKind.i64.wrap ((i':Int)-(a:Int))=((i'-a:Nat):Int):=by rw [wrap_id (by omega) (by omega)];omega
   have hwb:IntKind.i64.wrap ((b:Int)-(i':Int))=((b-i':Nat):Int):=by rw [wrap_id (by omega) (by omega)];omega
   have hwl:IntKind.i64.wrap ((b:Int)-(a:Int))=((b-a:Nat):Int):=by rw [wrap_id (by omega) (by omega)];omega
   have i6:i'-1<n:=by omega
   by_cases c1:i'=b
   ·subst c1
    have hs2:scanSorted (ltC c) d1 i' i=i':=by rw [hs,scanS_stop (fun q=>absurd q (Nat.lt_irrefl _))]
    have c2:¬i'<i':=Nat.lt_irrefl _
    have e:partialIns (ltC c) a i' (k+1) i d1=(d1,true):=by
     rw [partialIns];simp only [hs2];simp
    simp only [n74,r74,q0,q1,q2,q3,q9,q10,c2,ld,st,ix,List.append_nil,Array.size_setIfInBounds,encE_len,SB,Nat.reduceLT,callee,aOp,ne_eq,Nat.reduceEqDiff,aBin,aUn,if_true,if_false,reduceCtorEq,frame0,place,notTuple,Nat.reduceAdd,Nat.reduceLeDiff,resVal,dite_true,dite_false,Int.reduceEq,Int.reduceLT,Int.reduceLE]
    rw [he,e]
    exact ⟨rfl,rfl⟩
   have c2:i'<b:=by omega
   have i5:i'<n:=by omega
   have c1':¬((i':Int)=(b:Int)):=by omega
   by_cases c3:c d1[i']! d1[i'-1]!<0
   case neg=>
    simp only [n74,r74,q0,q1,q2,q3,q9,q10,c2,c3,hwi,hwi1,ld,st,ix,List.append_nil,Array.size_setIfInBounds,encE_len,hd1,i5,i6,hc,SB,Nat.reduceLT,callee,aOp,ne_eq,Nat.reduceEqDiff,aBin,aUn,if_true,if_false,reduceCtorEq,frame0,place,notTuple,Nat.reduceAdd,Nat.reduceLeDiff,resVal,dite_true,dite_false,Int.reduceEq,Int.reduceLT,Int.reduceLE]
    exact hM (i'+1) _ _ ⟨by omega,by omega,(by simp only [q0,FB,Nat.reduceEqDiff]),(by simp only [q1,FB,Nat.reduceEqDiff]),(by simp only [q2,FB,Nat.reduceEqDiff]),(by simp only [q3,FB,Nat.reduceEqDiff]),(by simp only [FB,Nat.reduceEqDiff]),(by simp only [q10,FB,Nat.reduceEqDiff]),rfl,by rw [hs,scanS_step c2 (by simp [ltC,c3])]⟩ (by omega)
   clear hM
   have hs2:scanSorted (ltC c) d1 b i=i':=by rw [hs,scanS_stop (fun _=>by simp [ltC,c3])]
   by_cases c4:b-a<50
   ·have c4':((b-a:Nat):Int)<50:=by omega
    simp only [n74,r74,q0,q1,q2,q3,q9,q10,c2,c3,c1',c4',hwi,hwl,ld,st,ix,List.append_nil,Array.size_setIfInBounds,encE_len,hd1,i5,i6,hc,SB,Nat.reduceLT,callee,aOp,ne_eq,Nat.reduceEqDiff,aBin,aUn,if_true,if_false,reduceCtorEq,frame0,place,notTuple,Nat.reduceAdd,Nat.reduceLeDiff,resVal,dite_true,dite_false,Int.reduceEq,Int.reduceLT,Int.reduceLE]
    have e:partialIns (ltC c) a b (k+1) i d1=(d1,false):=by
     rw [partialIns];simp only [hs2];rw [if_neg c1,if_pos c4]
    rw [he,e]
    exact ⟨rfl,rfl⟩
   have c4':¬((b-a:Nat):Int)<50:=by omega
   rw [partialIns_more hs2 c1 c4] at he
   by_cases hA:2≤i'-a
   ·have hAi:(2:Int)≤((i'-a:Nat):Int):=by omega
    simp only [n74,r74,q0,q1,q2,q3,q9,q10,c2,c3,c1',c4',hwi,hwl,hwa,hAi,ld,st,ix,List.append_nil,Array.size_setIfInBounds,encE_len,hd1,i5,i6,hc,SB,Nat.reduceLT,callee,aOp,ne_eq,Nat.reduceEqDiff,aBin,aUn,if_true,if_false,reduceCtorEq,frame0,place,notTuple,Nat.reduceAdd,Nat.reduceLeDiff,resVal,dite_true,dite_false,Int.reduceEq,Int.reduceLT,Int.reduceLE]
    refine Ret_rounds (S:=Nat×Array Go.Scan.Ev) (fun s=>s.1) (fun s fr H=>s.1<i'∧fr 0=.slice p n cap∧fr 1=.int .i64 (a:Int)∧fr 2=.int .i64 (b:Int)∧fr 3=.func (.func cl) #[] cs.toArray∧fr 9=.int .i64 (i':Int)∧fr 10=.int .i64 (5-((k+1:Nat):Int))∧fr 11=.int .i64 (s.1:Int)∧
     H=DH encE G B s.2++X∧s.2.size=n∧shiftDown (ltC c) (i'-1) (swp d1 i' (i'-1))=shiftDown (ltC c) s.1 s.2) (i'-1,swp d1 i' (i'-1)) ⟨by simp only;omega,(by simp only [q0,FB,Nat.reduceEqDiff]),(by simp only [q1,FB,Nat.reduceEqDiff]),(by simp only [q2,FB,Nat.reduceEqDiff]),(by simp only [q3,FB,Nat.reduceEqDiff]),(by simp only [q9,FB,Nat.reduceEqDiff]),(by simp only [q10,FB,Nat.reduceEqDiff]),(by simp only [FB,Nat.reduceEqDiff]),by simp [swp],by simp [swp,hd1],rfl⟩ ?_
    rintro ⟨v,dv⟩ frv Hv ⟨v1,v30,v31,v32,v33,v39,v310,v11,rfl,hdv,hev⟩ hV
    simp only at v1 v11 hdv hev
    rw [Ret_code l74_2.eq_1]
    cases v with
    | succ v=>
      have iv:v+1<n:=by omega
      have iv1:v<n:=by omega
      have hwv:IntKind.i64.wrap (((v+1:Nat):Int)-1)=(v:Int):=wrap_pred (n:=v+1) (by omega) (by omega)
      have cv:(1:Int)≤((v+1:Nat):Int):=by omega
      rw [shiftDown] at hev
      by_cases cv2:c dv[v+1]! dv[v]!<0
      ·rw [if_neg (by simp [ltC,cv2])] at hev
       simp only [n74,r74,v30,v31,v32,v33,v39,v310,v11,cv,cv2,hwv,ld,st,ix,List.append_nil,Array.size_setIfInBounds,encE_len,hdv,iv,iv1,hc,SB,Nat.reduceLT,callee,aOp,ne_eq,Nat.reduceEqDiff,aBin,aUn,if_true,if_false,reduceCtorEq,frame0,place,notTuple,Nat.reduceAdd,Nat.reduceLeDiff,resVal,dite_true,dite_false,Int.reduceEq,Int.reduceLT,Int.reduceLE]
       exact hV (v,swp dv (v+1) v) _ _ ⟨by simp only;omega,(by simp only [v30,FB,Nat.reduceEqDiff]),(by simp only [v31,FB,Nat.reduceEqDiff]),(by simp only [v32,FB,Nat.reduceEqDiff]),(by simp only [v33,FB,Nat.reduceEqDiff]),(by simp only [v39,FB,Nat.reduceEqDiff]),(by simp only [v310,FB,Nat.reduceEqDiff]),(by simp only [FB,Nat.reduceEqDiff]),by simp [swp],by simp [swp,hdv],hev⟩ (by simp only;omega)
      ·rw [if_pos (by simp [ltC,cv2])] at hev
       clear hV
       have hfd:fixDownC (ltC c) a i' (swp d1 i' (i'-1))=dv:=by rw [fixDownC,if_pos hA,hev]
       by_cases hB:2≤b-i'
       ·have hBi:(2:Int)≤((b-i':Nat):Int):=by omega
        simp only [n74,r74,v30,v31,v32,v33,v39,v310,hwb,hBi,hwi1,v11,cv,cv2,hwv,hdv,iv,iv1,hc,ld,st,ix,List.append_nil,Array.size_setIfInBounds,encE_len,SB,Nat.reduceLT,callee,aOp,ne_eq,Nat.reduceEqDiff,aBin,aUn,if_true,if_false,reduceCtorEq,frame0,place,notTuple,Nat.reduceAdd,Nat.reduceLeDiff,resVal,dite_true,dite_false,Int.reduceEq,Int.reduceLT,Int.reduceLE]
        generalize hU:shiftUp (ltC c) b (i'+1) (dv)=U
        refine Ret_rounds (S:=Nat×Array Go.Scan.Ev) (fun s=>b+1-s.1) (fun s fr H=>i'+1≤s.1∧s.1≤b∧fr 0=.slice p n cap∧fr 1=.int .i64 (a:Int)∧fr 2=.int .i64 (b:Int)∧fr 3=.func (.func cl) #[] cs.toArray∧fr 9=.int .i64 (i':Int)∧fr 10=.int .i64 (5-((k+1:Nat):Int))∧fr 12=.int .i64 (s.1:Int)∧
         H=DH encE G B s.2++X∧s.2.size=n∧U=shiftUp (ltC c) b s.1 s.2) (i'+1,dv) ⟨by simp only;omega,by simp only;omega,(by simp only [v30,FB,Nat.reduceEqDiff]),(by simp only [v31,FB,Nat.reduceEqDiff]),(by simp only [v32,FB,Nat.reduceEqDiff]),(by simp only [v33,FB,Nat.reduceEqDiff]),(by simp only [v39,FB,Nat.reduceEqDiff]),(by simp only [v310,FB,Nat.reduceEqDiff]),(by simp only [FB,Nat.reduceEqDiff]),by simp [swp],by simp [swp,hdv],hU.symm⟩ ?_
        rintro ⟨w,dw⟩ frw Hw ⟨w1,w2,w3,w4,w5,w6,w9,w10,w12,rfl,hdw,hew⟩ hW
        simp only at w1 w2 w12 hdw hew
        rw [Ret_code l74_1.eq_1]
        unfold shiftUp at hew
        by_cases cw:w<b
        ·have iw:w<n:=by omega
         have iw1:w-1<n:=by omega
         have hww:IntKind.i64.wrap ((w:Int)-1)=((w-1:Nat):Int):=wrap_pred (by omega) (by omega)
         have hww1:IntKind.i64.wrap ((w:Int)+1)=((w+1:Nat):Int):=wrap_nat (by omega)
         by_cases cw2:c dw[w]! dw[w-1]!<0
         ·rw [if_pos cw,if_neg (by simp [ltC,cw2])] at hew
          simp only [n74,r74,w3,w4,w5,w6,w9,w10,w12,cw,cw2,hww,hww1,ld,st,ix,List.append_nil,Array.size_setIfInBounds,encE_len,hdw,iw,iw1,hc,SB,Nat.reduceLT,callee,aOp,ne_eq,Nat.reduceEqDiff,aBin,aUn,if_true,if_false,reduceCtorEq,frame0,place,notTuple,Nat.reduceAdd,Nat.reduceLeDiff,resVal,dite_true,dite_false,Int.reduceEq,Int.reduceLT,Int.reduceLE]
          exact hW (w+1,swp dw w (w-1)) _ _ ⟨by simp only;omega,by simp only;omega,(by simp only [w3,FB,Nat.reduceEqDiff]),(by simp only [w4,FB,Nat.reduceEqDiff]),(by simp only [w5,FB,Nat.reduceEqDiff]),(by simp only [w6,FB,Nat.reduceEqDiff]),(by simp only [w9,FB,Nat.reduceEqDiff]),(by simp only [w10,FB,Nat.reduceEqDiff]),(by simp only [FB,Nat.reduceEqDiff]),by simp [swp],by simp [swp,hdw],hew⟩ (by simp only;omega)
         ·rw [if_pos cw,if_pos (by simp [ltC,cw2])] at hew
          clear hW
          simp only [n74,r74,w3,w4,w5,w6,w9,w10,w12,cw,cw2,hww,hww1,ld,st,ix,List.append_nil,Array.size_setIfInBounds,encE_len,hdw,iw,iw1,hc,hwk,SB,Nat.reduceLT,callee,aOp,ne_eq,Nat.reduceEqDiff,aBin,aUn,if_true,if_false,reduceCtorEq,frame0,place,notTuple,Nat.reduceAdd,Nat.reduceLeDiff,resVal,dite_true,dite_false,Int.reduceEq,Int.reduceLT,Int.reduceLE]
          exact hN (k,i',dw) _ _ ⟨by simp only;omega,by simp only;omega,by simp only;omega,(by simp only [w3,FB,Nat.reduceEqDiff]),(by simp only [w4,FB,Nat.reduceEqDiff]),(by simp only [w5,FB,Nat.reduceEqDiff]),(by simp only [w6,FB,Nat.reduceEqDiff]),(by simp only [w9,FB,Nat.reduceEqDiff]),(by simp only [FB,Nat.reduceEqDiff]),by simp,hdw,by rw [he,hfd,fixUpC,if_pos hB,hU,hew]⟩ (by simp only;omega)
        ·rw [if_neg cw] at hew
         clear hW
         simp only [n74,r74,w3,w4,w5,w6,w9,w10,w12,cw,ld,st,ix,List.append_nil,Array.size_setIfInBounds,encE_len,hwk,SB,Nat.reduceLT,callee,aOp,ne_eq,Nat.reduceEqDiff,aBin,aUn,if_true,if_false,reduceCtorEq,frame0,place,notTuple,Nat.reduceAdd,Nat.reduceLeDiff,resVal,dite_true,dite_false,Int.reduceEq,Int.reduceLT,Int.reduceLE]
         exact hN (k,i',dw) _ _ ⟨by simp only;omega,by simp only;omega,by simp only;omega,(by simp only [w3,FB,Nat.reduceEqDiff]),(by simp only [w4,FB,Nat.reduceEqDiff]),(by simp only [w5,FB,Nat.reduceEqDiff]),(by simp only [w6,FB,Nat.reduceEqDiff]),(by simp only [w9,FB,Nat.reduceEqDiff]),(by simp only [FB,Nat.reduceEqDiff]),by simp,hdw,by rw [he,hfd,fixUpC,if_pos hB,hU,hew]⟩ (by simp only;omega)
       ·have hBi:¬(2:Int)≤((b-i':Nat):Int):=by omega
        simp only [n74,r74,v30,v31,v32,v33,v39,v310,hwb,hBi,hwk,v11,cv,cv2,hwv,hdv,iv,iv1,hc,ld,st,ix,List.append_nil,Array.size_setIfInBounds,encE_len,SB,Nat.reduceLT,callee,aOp,ne_eq,Nat.reduceEqDiff,aBin,aUn,if_true,if_false,reduceCtorEq,frame0,place,notTuple,Nat.reduceAdd,Nat.reduceLeDiff,resVal,dite_true,dite_false,Int.reduceEq,Int.reduceLT,Int.reduceLE]
        exact hN (k,i',dv) _ _ ⟨by simp only;omega,by simp only;omega,by simp only;omega,(by simp only [v30,FB,Nat.reduceEqDiff]),(by simp only [v31,FB,Nat.reduceEqDiff]),(by simp only [v32,FB,Nat.reduceEqDiff]),(by simp only [v33,FB,Nat.reduceEqDiff]),(by simp only [v39,FB,Nat.reduceEqDiff]),(by simp only [FB,Nat.reduceEqDiff]),by simp [swp],by simp [swp,hdv],by rw [he,hfd,fixUpC,if_neg hB]⟩ (by simp only;omega)
    | zero=>
      have cv:¬(1:Int)≤((0:Nat):Int):=by omega
      rw [shiftDown] at hev
      clear hV
      have hfd:fixDownC (ltC c) a i' (swp d1 i' (i'-1))=dv:=by rw [fixDownC,if_pos hA,hev]
      by_cases hB:2≤b-i'
      ·have hBi:(2:Int)≤((b-i':Nat):Int):=by omega
       simp only [n74,r74,v30,v31,v32,v33,v39,v310,hwb,hBi,hwi1,v11,cv,ld,st,ix,List.append_nil,Array.size_setIfInBounds,encE_len,SB,Nat.reduceLT,callee,aOp,ne_eq,Nat.reduceEqDiff,aBin,aUn,if_true,if_false,reduceCtorEq,frame0,place,notTuple,Nat.reduceAdd,Nat.reduceLeDiff,resVal,dite_true,dite_false,Int.reduceEq,Int.reduceLT,Int.reduceLE]
       generalize hU:shiftUp (ltC c) b (i'+1) (dv)=U
       refine Ret_rounds (S:=Nat×Array Go.Scan.Ev) (fun s=>b+1-s.1) (fun s fr H=>i'+1≤s.1∧s.1≤b∧fr 0=.slice p n cap∧fr 1=.int .i64 (a:Int)∧fr 2=.int .i64 (b:Int)∧fr 3=.func (.func cl) #[] cs.toArray∧fr 9=.int .i64 (i':Int)∧fr 10=.int .i64 (5-((k+1:Nat):Int))∧fr 12=.int .i64 (s.1:Int)∧
        H=DH encE G B s.2++X∧s.2.size=n∧U=shiftUp (ltC c) b s.1 s.2) (i'+1,dv) ⟨by simp only;omega,by simp only;omega,(by simp only [v30,FB,Nat.reduceEqDiff]),(by simp only [v31,FB,Nat.reduceEqDiff]),(by simp only [v32,FB,Nat.reduceEqDiff]),(by simp only [v33,FB,Nat.reduceEqDiff]),(by simp only [v39,FB,Nat.reduceEqDiff]),(by simp only [v310,FB,Nat.reduceEqDiff]),(by simp only [FB,Nat.reduceEqDiff]),by simp [swp],by simp [swp,hdv],hU.symm⟩ ?_
       rintro ⟨w,dw⟩ frw Hw ⟨w1,w2,w3,w4,w5,w6,w9,w10,w12,rfl,hdw,hew⟩ hW
       simp only at w1 w2 w12 hdw hew
       rw [Ret_code l74_1.eq_1]
       unfold shiftUp at hew
       by_cases cw:w<b
       ·have iw:w<n:=by omega
        have iw1:w-1<n:=by omega
        have hww:IntKind.i64.wrap ((w:Int)-1)=((w-1:Nat):Int):=wrap_pred (by omega) (by omega)
        have hww1:IntKind.i64.wrap ((w:Int)+1)=((w+1:Nat):Int):=wrap_nat (by omega)
        by_cases cw2:c dw[w]! dw[w-1]!<0
        ·rw [if_pos cw,if_neg (by simp [ltC,cw2])] at hew
         simp only [n74,r74,w3,w4,w5,w6,w9,w10,w12,cw,cw2,hww,hww1,ld,st,ix,List.append_nil,Array.size_setIfInBounds,encE_len,hdw,iw,iw1,hc,SB,Nat.reduceLT,callee,aOp,ne_eq,Nat.reduceEqDiff,aBin,aUn,if_true,if_false,reduceCtorEq,frame0,place,notTuple,Nat.reduceAdd,Nat.reduceLeDiff,resVal,dite_true,dite_false,Int.reduceEq,Int.reduceLT,Int.reduceLE]
         exact hW (w+1,swp dw w (w-1)) _ _ ⟨by simp only;omega,by simp only;omega,(by simp only [w3,FB,Nat.reduceEqDiff]),(by simp only [w4,FB,Nat.reduceEqDiff]),(by simp only [w5,FB,Nat.reduceEqDiff]),(by simp only [w6,FB,Nat.reduceEqDiff]),(by simp only [w9,FB,Nat.reduceEqDiff]),(by simp only [w10,FB,Nat.reduceEqDiff]),(by simp only [FB,Nat.reduceEqDiff]),by simp [swp],by simp [swp,hdw],hew⟩ (by simp only;omega)
        ·rw [if_pos cw,if_pos (by simp [ltC,cw2])] at hew
         clear hW
         simp only [n74,r74,w3,w4,w5,w6,w9,w10,w12,cw,cw2,hww,hww1,ld,st,ix,List.append_nil,Array.size_setIfInBounds,encE_len,hdw,iw,iw1,hc,hwk,SB,Nat.reduceLT,callee,aOp,ne_eq,Nat.reduceEqDiff,aBin,aUn,if_true,if_false,reduceCtorEq,frame0,place,notTuple,Nat.reduceAdd,Nat.reduceLeDiff,resVal,dite_true,dite_false,Int.reduceEq,Int.reduceLT,Int.reduceLE]
         exact hN (k,i',dw) _ _ ⟨by simp only;omega,by simp only;omega,by simp only;omega,(by simp only [w3,FB,Nat.reduceEqDiff]),(by simp only [w4,FB,Nat.reduceEqDiff]),(by simp only [w5,FB,Nat.reduceEqDiff]),(by simp only [w6,FB,Nat.reduceEqDiff]),(by simp only [w9,FB,Nat.reduceEqDiff]),(by simp only [FB,Nat.reduceEqDiff]),by simp,hdw,by rw [he,hfd,fixUpC,if_pos hB,hU,hew]⟩ (by simp only;omega)
       ·rw [if_neg cw] at hew
        clear hW
        simp only [n74,r74,w3,w4,w5,w6,w9,w10,w12,cw,ld,st,ix,List.append_nil,Array.size_setIfInBounds,encE_len,hwk,SB,Nat.reduceLT,callee,aOp,ne_eq,Nat.reduceEqDiff,aBin,aUn,if_true,if_false,reduceCtorEq,frame0,place,notTuple,Nat.reduceAdd,Nat.reduceLeDiff,resVal,dite_true,dite_false,Int.reduceEq,Int.reduceLT,Int.reduceLE]
        exact hN (k,i',dw) _ _ ⟨by simp only;omega,by simp only;omega,by simp only;omega,(by simp only [w3,FB,Nat.reduceEqDiff]),(by simp only [w4,FB,Nat.reduceEqDiff]),(by simp only [w5,FB,Nat.reduceEqDiff]),(by simp only [w6,FB,Nat.reduceEqDiff]),(by simp only [w9,FB,Nat.reduceEqDiff]),(by simp only [FB,Nat.reduceEqDiff]),by simp,hdw,by rw [he,hfd,fixUpC,if_pos hB,hU,hew]⟩ (by simp only;omega)
      ·have hBi:¬(2:Int)≤((b-i':Nat):Int):=by omega
       simp only [n74,r74,v30,v31,v32,v33,v39,v310,hwb,hBi,hwk,v11,cv,ld,st,ix,List.append_nil,Array.size_setIfInBounds,encE_len,SB,Nat.reduceLT,callee,aOp,ne_eq,Nat.reduceEqDiff,aBin,aUn,if_true,if_false,reduceCtorEq,frame0,place,notTuple,Nat.reduceAdd,Nat.reduceLeDiff,resVal,dite_true,dite_false,Int.reduceEq,Int.reduceLT,Int.reduceLE]
       exact hN (k,i',dv) _ _ ⟨by simp only;omega,by simp only;omega,by simp only;omega,(by simp only [v30,FB,Nat.reduceEqDiff]),(by simp only [v31,FB,Nat.reduceEqDiff]),(by simp only [v32,FB,Nat.reduceEqDiff]),(by simp only [v33,FB,Nat.reduceEqDiff]),(by simp only [v39,FB,Nat.reduceEqDiff]),(by simp only [FB,Nat.reduceEqDiff]),by simp [swp],by simp [swp,hdv],by rw [he,hfd,fixUpC,if_neg hB]⟩ (by simp only;omega)
   ·have hAi:¬(2:Int)≤((i'-a:Nat):Int):=by omega
    have hfd:fixDownC (ltC c) a i' (swp d1 i' (i'-1))=swp d1 i' (i'-1):=by rw [fixDownC,if_neg hA]
    have hsz:(swp d1 i' (i'-1)).size=n:=by simp [swp,hd1]
    by_cases hB:2≤b-i'
    ·have hBi:(2:Int)≤((b-i':Nat):Int):=by omega
     simp only [n74,r74,q0,q1,q2,q3,q9,q10,hwb,hBi,hwi1,c2,c3,c1',c4',hwi,hwl,hwa,hAi,hd1,i5,i6,hc,ld,st,ix,List.append_nil,Array.size_setIfInBounds,encE_len,SB,Nat.reduceLT,callee,aOp,ne_eq,Nat.reduceEqDiff,aBin,aUn,if_true,if_false,reduceCtorEq,frame0,place,notTuple,Nat.reduceAdd,Nat.reduceLeDiff,resVal,dite_true,dite_false,Int.reduceEq,Int.reduceLT,Int.reduceLE]
     generalize hU:shiftUp (ltC c) b (i'+1) (swp d1 i' (i'-1))=U
     refine Ret_rounds (S:=Nat×Array Go.Scan.Ev) (fun s=>b+1-s.1) (fun s fr H=>i'+1≤s.1∧s.1≤b∧fr 0=.slice p n cap∧fr 1=.int .i64 (a:Int)∧fr 2=.int .i64 (b:Int)∧fr 3=.func (.func cl) #[] cs.toArray∧fr 9=.int .i64 (i':Int)∧fr 10=.int .i64 (5-((k+1:Nat):Int))∧fr 12=.int .i64 (s.1:Int)∧
      H=DH encE G B s.2++X∧s.2.size=n∧U=shiftUp (ltC c) b s.1 s.2) (i'+1,swp d1 i' (i'-1)) ⟨by simp only;omega,by simp only;omega,(by simp only [q0,FB,Nat.reduceEqDiff]),(by simp only [q1,FB,Nat.reduceEqDiff]),(by simp only [q2,FB,Nat.reduceEqDiff]),(by simp only [q3,FB,Nat.reduceEqDiff]),(by simp only [q9,FB,Nat.reduceEqDiff]),(by simp only [q10,FB,Nat.reduceEqDiff]),(by simp only [FB,Nat.reduceEqDiff]),by simp [swp],by simp [swp,hd1],hU.symm⟩ ?_
     rintro ⟨w,dw⟩ frw Hw ⟨w1,w2,w3,w4,w5,w6,w9,w10,w12,rfl,hdw,hew⟩ hW
     simp only at w1 w2 w12 hdw hew
     rw [Ret_code l74_1.eq_1]
     unfold shiftUp at hew
     by_cases cw:w<b
     ·have iw:w<n:=by omega
      have iw1:w-1<n:=by omega
      have hww:IntKind.i64.wrap ((w:Int)-1)=((w-1:Nat):Int):=wrap_pred (by omega) (by omega)
      have hww1:IntKind.i64.wrap ((w:Int)+1)=((w+1:Nat):Int):=wrap_nat (by omega)
      by_cases cw2:c dw[w]! dw[w-1]!<0
      ·rw [if_pos cw,if_neg (by simp [ltC,cw2])] at hew
       simp only [n74,r74,w3,w4,w5,w6,w9,w10,w12,cw,cw2,hww,hww1,ld,st,ix,List.append_nil,Array.size_setIfInBounds,encE_len,hdw,iw,iw1,hc,SB,Nat.reduceLT,callee,aOp,ne_eq,Nat.reduceEqDiff,aBin,aUn,if_true,if_false,reduceCtorEq,frame0,place,notTuple,Nat.reduceAdd,Nat.reduceLeDiff,resVal,dite_true,dite_false,Int.reduceEq,Int.reduceLT,Int.reduceLE]
       exact hW (w+1,swp dw w (w-1)) _ _ ⟨by simp only;omega,by simp only;omega,(by simp only [w3,FB,Nat.reduceEqDiff]),(by simp only [w4,FB,Nat.reduceEqDiff]),(by simp only [w5,FB,Nat.reduceEqDiff]),(by simp only [w6,FB,Nat.reduceEqDiff]),(by simp only [w9,FB,Nat.reduceEqDiff]),(by simp only [w10,FB,Nat.reduceEqDiff]),(by simp only [FB,Nat.reduceEqDiff]),by simp [swp],by simp [swp,hdw],hew⟩ (by simp only;omega)
      ·rw [if_pos cw,if_pos (by simp [ltC,cw2])] at hew
       clear hW
       simp only [n74,r74,w3,w4,w5,w6,w9,w10,w12,cw,cw2,hww,hww1,ld,st,ix,List.append_nil,Array.size_setIfInBounds,encE_len,hdw,iw,iw1,hc,hwk,SB,Nat.reduceLT,callee,aOp,ne_eq,Nat.reduceEqDiff,aBin,aUn,if_true,if_false,reduceCtorEq,frame0,place,notTuple,Nat.reduceAdd,Nat.reduceLeDiff,resVal,dite_true,dite_false,Int.reduceEq,Int.reduceLT,Int.reduceLE]
       exact hN (k,i',dw) _ _ ⟨by simp only;omega,by simp only;omega,by simp only;omega,(by simp only [w3,FB,Nat.reduceEqDiff]),(by simp only [w4,FB,Nat.reduceEqDiff]),(by simp only [w5,FB,Nat.reduceEqDiff]),(by simp only [w6,FB,Nat.reduceEqDiff]),(by simp only [w9,FB,Nat.reduceEqDiff]),(by simp only [FB,Nat.reduceEqDiff]),by simp,hdw,by rw [he,hfd,fixUpC,if_pos hB,hU,hew]⟩ (by simp only;omega)
     ·rw [if_neg cw] at hew
      clear hW
      simp only [n74,r74,w3,w4,w5,w6,w9,w10,w12,cw,ld,st,ix,List.append_nil,Array.size_setIfInBounds,encE_len,hwk,SB,Nat.reduceLT,callee,aOp,ne_eq,Nat.reduceEqDiff,aBin,aUn,if_true,if_false,reduceCtorEq,frame0,place,notTuple,Nat.reduceAdd,Nat.reduceLeDiff,resVal,dite_true,dite_false,Int.reduceEq,Int.reduceLT,Int.reduceLE]
      exact hN (k,i',dw) _ _ ⟨by simp only;omega,by simp only;omega,by simp only;omega,(by simp only [w3,FB,Nat.reduceEqDiff]),(by simp only [w4,FB,Nat.reduceEqDiff]),(by simp only [w5,FB,Nat.reduceEqDiff]),(by simp only [w6,FB,Nat.reduceEqDiff]),(by simp only [w9,FB,Nat.reduceEqDiff]),(by simp only [FB,Nat.reduceEqDiff]),by simp,hdw,by rw [he,hfd,fixUpC,if_pos hB,hU,hew]⟩ (by simp only;omega)
    ·have hBi:¬(2:Int)≤((b-i':Nat):Int):=by omega
     simp only [n74,r74,q0,q1,q2,q3,q9,q10,hwb,hBi,hwk,c2,c3,c1',c4',hwi,hwl,hwa,hAi,hd1,i5,i6,hc,ld,st,ix,List.append_nil,Array.size_setIfInBounds,encE_len,SB,Nat.reduceLT,callee,aOp,ne_eq,Nat.reduceEqDiff,aBin,aUn,if_true,if_false,reduceCtorEq,frame0,place,notTuple,Nat.reduceAdd,Nat.reduceLeDiff,resVal,dite_true,dite_false,Int.reduceEq,Int.reduceLT,Int.reduceLE]
     exact hN (k,i',swp d1 i' (i'-1)) _ _ ⟨by simp only;omega,by simp only;omega,by simp only;omega,(by simp only [q0,FB,Nat.reduceEqDiff]),(by simp only [q1,FB,Nat.reduceEqDiff]),(by simp only [q2,FB,Nat.reduceEqDiff]),(by simp only [q3,FB,Nat.reduceEqDiff]),(by simp only [q9,FB,Nat.reduceEqDiff]),(by simp only [FB,Nat.reduceEqDiff]),by simp [swp],by simp [swp,hd1],by rw [he,hfd,fixUpC,if_neg hB]⟩ (by simp only;omega)
section
variable {α:Type} {enc:α→List Value} {G X:Heap} {B:Nat} {d:Array α} {c:Blk}
theorem cnt_len:(DH enc G B d++X).length=G.length+X.length:=by rw [List.length_append,DH_len]
theorem cnt_get:hget (DH enc G B d++(X++[c])) (G.length+X.length)=c:=by
 rw [←List.append_assoc,←cnt_len (enc:=enc) (B:=B) (d:=d)];exact hget_new0
theorem cnt_set {c':Blk}:(DH enc G B d++(X++[c])).set (G.length+X.length) c'=DH enc G B d++(X++[c']):=by
 rw [←List.append_assoc,←cnt_len (enc:=enc) (B:=B) (d:=d),set_new0];simp
end
theorem ord_ok [OB] {G X:Heap} {B lim cap n:Nat} {p:Option Addr} {c:Go.Scan.Ev→Go.Scan.Ev→Int} {cl:FuncId} {cs:List Value} (hp:p=some ⟨B,0,none⟩) (hB:B<G.length) (hl:lim≤B) (hn2:n<2 ^ 61) (hc:∀(mp:Bool) (lim:Nat) (x y:Go.Scan.Ev) (H:Heap) (Q:Value→Heap→Prop),CallR E mp lim cl (.agg (encE x).toArray::.agg (encE y).toArray::cs) H Q=Q (.int .i64 (c x y)) H) {d:Array Go.Scan.Ev} {a b s:Nat} (hd:d.size=n) (ha:a<n) (hb:b<n) (hs:s<100) :
  ∃x y s':Nat,(x=a∧y=b∨x=b∧y=a)∧s'≤s+1∧∀Q,CallR E false lim 95 [.slice p n cap,.int .i64 (a:Int),.int .i64 (b:Int),.pointer (some ⟨G.length+X.length,0,none⟩),.func (.func cl) #[] cs.toArray] (DH encE G B d++(X++[.cells false [.int .i64 (s:Int)]])) Q =
   Q (.tuple #[.int .i64 (x:Int),.int .i64 (y:Int)]) (DH encE G B d++(X++[.cells false [.int .i64 (s':Int)]])):=by
 have ld:=fun (i:Nat) (X:Heap) (d:Array Go.Scan.Ev) (hd:d.size=n) (hi:i<n)=>DH_ld (X:=X) (d:=d) (i:=i) hp hB encE_len (by omega);have st:=fun (i:Nat) (X:Heap) (d:Array Go.Scan.Ev) (hd:d.size=n) (hi:i<n) (y:Go.Scan.Ev)=>DH_st (X:=X) (d:=d) (i:=i) (y:=y) hp hB hl encE_len (by omega);have ix:=fun (i:Nat) (hi:i<n) c (k:IntKind) (H:Heap)=>DH_idx (e:=7) (i:=i) (n:=n) (c:=c) (k:=k) (H:=H) hp hi
 have hw:IntKind.i64.wrap ((s:Int)+1)=((s+1:Nat):Int):=wrap_nat (by omega)
 have hlG:lim≤G.length+X.length:=by omega
 by_cases c1:c d[b]! d[a]!<0
 ·refine ⟨b,a,s+1,.inr ⟨rfl,rfl⟩,Nat.le_refl _,fun Q=>runs (by decide) e95 rfl ?_⟩
  rw [b95,c95]
  simp only [n95,r95,ld,st,ix,List.append_nil,Array.size_setIfInBounds,encE_len,hd,ha,hb,hc,c1,cnt_get,cnt_set,hw,hlG,SB,Nat.reduceLT,callee,aOp,ne_eq,Nat.reduceEqDiff,aBin,aUn,if_true,if_false,reduceCtorEq,frame0,place,notTuple,Nat.reduceAdd,Nat.reduceLeDiff,resVal,dite_true,dite_false,Int.reduceEq,Int.reduceLT,Int.reduceLE]
 ·refine ⟨a,b,s,.inl ⟨rfl,rfl⟩,by omega,fun Q=>runs (by decide) e95 rfl ?_⟩
  rw [b95,c95]
  simp only [n95,r95,ld,st,ix,List.append_nil,Array.size_setIfInBounds,encE_len,hd,ha,hb,hc,c1,SB,Nat.reduceLT,callee,aOp,ne_eq,Nat.reduceEqDiff,aBin,aUn,if_true,if_false,reduceCtorEq,frame0,place,notTuple,Nat.reduceAdd,Nat.reduceLeDiff,resVal,dite_true,dite_false,Int.reduceEq,Int.reduceLT,Int.reduceLE]
theorem med_ok [OB] {G X:Heap} {B lim cap n:Nat} {p:Option Addr} {c:Go.Scan.Ev→Go.Scan.Ev→Int} {cl:FuncId} {cs:List Value} (hp:p=some ⟨B,0,none⟩) (hB:B<G.length) (hl:lim≤B) (hn2:n<2 ^ 61) (hc:∀(mp:Bool) (lim:Nat) (x y:Go.Scan.Ev) (H:Heap) (Q:Value→Heap→Prop),CallR E mp lim cl (.agg (encE x).toArray::.agg (encE y).toArray::cs) H Q=Q (.int .i64 (c x y)) H) {d:Array Go.Scan.Ev} {a b e s:Nat} (hd:d.size=n) (ha:a<n) (hb:b<n) (he:e<n) (hs:s<90) :
  ∃x s':Nat,(x=a∨x=b∨x=e)∧s'≤s+3∧∀Q,CallR E false lim 86 [.slice p n cap,.int .i64 (a:Int),.int .i64 (b:Int),.int .i64 (e:Int),.pointer (some ⟨G.length+X.length,0,none⟩),.func (.func cl) #[] cs.toArray] (DH encE G B d++(X++[.cells false [.int .i64 (s:Int)]])) Q =
   Q (.int .i64 (x:Int)) (DH encE G B d++(X++[.cells false [.int .i64 (s':Int)]])):=by
 obtain ⟨x1,y1,s1,h1,k1,o1⟩:=ord_ok (X:=X) (cap:=cap) (lim:=lim) hp hB hl hn2 hc hd ha hb (show s<100 by omega)
 obtain ⟨x2,y2,s2,h2,k2,o2⟩:=ord_ok (X:=X) (cap:=cap) (lim:=lim) hp hB hl hn2 hc hd (show y1<n by omega) he (show s1<100 by omega)
 obtain ⟨x3,y3,s3,h3,k3,o3⟩:=ord_ok (X:=X) (cap:=cap) (lim:=lim) hp hB hl hn2 hc hd (show x1<n by omega) (show x2<n by omega) (show s2<100 by omega)
 refine ⟨y3,s3,by omega,by omega,fun Q=>runs (by decide) e86 rfl ?_⟩
 rw [b86,c86]
 simp only [n86,r86,o1,o2,o3,SB,Nat.reduceLT,callee,aOp,ne_eq,Nat.reduceEqDiff,aBin,aUn,if_true,if_false,reduceCtorEq,frame0,place,notTuple,Nat.reduceAdd,Nat.reduceLeDiff,resVal,dite_true,dite_false,Int.reduceEq,Int.reduceLT,Int.reduceLE]
theorem meda_ok [OB] {G X:Heap} {B lim cap n:Nat} {p:Option Addr} {c:Go.Scan.Ev→Go.Scan.Ev→Int} {cl:FuncId} {cs:List Value} (hp:p=some ⟨B,0,none⟩) (hB:B<G.length) (hl:lim≤B) (hn2:n<2 ^ 61) (hc:∀(mp:Bool) (lim:Nat) (x y:Go.Scan.Ev) (H:Heap) (Q:Value→Heap→Prop),CallR E mp lim cl (.agg (encE x).toArray::.agg (encE y).toArray::cs) H Q=Q (.int .i64 (c x y)) H) {d:Array Go.Scan.Ev} {a s:Nat} (hd:d.size=n) (h0:0<a) (ha:a+1<n) (hs:s<90) :
  ∃x s':Nat,a≤x+1∧x≤a+1∧s'≤s+3∧∀Q,CallR E false lim 85 [.slice p n cap,.int .i64 (a:Int),.pointer (some ⟨G.length+X.length,0,none⟩),.func (.func cl) #[] cs.toArray] (DH encE G B d++(X++[.cells false [.int .i64 (s:Int)]])) Q =
   Q (.int .i64 (x:Int)) (DH encE G B d++(X++[.cells false [.int .i64 (s':Int)]])):=by
 obtain ⟨x1,s1,h1,k1,o1⟩:=med_ok (X:=X) (cap:=cap) (lim:=lim) (a:=a-1) (b:=a) (e:=a+1) hp hB hl hn2 hc hd (by omega) (by omega) (by omega) hs
 have hw1:IntKind.i64.wrap ((a:Int)-1)=((a-1:Nat):Int):=wrap_pred (by omega) (by omega)
 have hw2:IntKind.i64.wrap ((a:Int)+1)=((a+1:Nat):Int):=wrap_nat (by omega)
 refine ⟨x1,s1,by omega,by omega,k1,fun Q=>runs (by decide) e85 rfl ?_⟩
 rw [b85,c85]
 simp only [n85,r85,hw1,hw2,o1,SB,Nat.reduceLT,callee,aOp,ne_eq,Nat.reduceEqDiff,aBin,aUn,if_true,if_false,reduceCtorEq,frame0,place,notTuple,Nat.reduceAdd,Nat.reduceLeDiff,resVal,dite_true,dite_false,Int.reduceEq,Int.reduceLT,Int.reduceLE]
theorem wrap_int {m:Int} {k:Nat} (h:m=(k:Int)) (hk:k<2 ^ 62):IntKind.i64.wrap m=(k:Int):=by
 subst h;exact wrap_id (by omega) (by omega)
theorem tdiv_nat {a b:Nat}:(a:Int).tdiv (b:Int)=((a / b:Nat):Int):=by
 rw [Int.tdiv_eq_ediv_of_nonneg (by omega)];rfl
theorem cho_ok [OB] {G X:Heap} {B lim cap n:Nat} {p:Option Addr} {c:Go.Scan.Ev→Go.Scan.Ev→Int} {cl:FuncId} {cs:List Value} (hp:p=some ⟨B,0,none⟩) (hB:B<G.length) (hl:lim≤B) (hn2:n<2 ^ 61) (hc:∀(mp:Bool) (lim:Nat) (x y:Go.Scan.Ev) (H:Heap) (Q:Value→Heap→Prop),CallR E mp lim cl (.agg (encE x).toArray::.agg (encE y).toArray::cs) H Q=Q (.int .i64 (c x y)) H) {d:Array Go.Scan.Ev} {a b:Nat} (hd:d.size=n) (hb:b≤n) (hab:a+12<b) :
  ∃v h s:Nat,a≤v∧v<b∧h≤2∧∀Q,CallR E false lim 72 [.slice p n cap,.int .i64 (a:Int),.int .i64 (b:Int),.func (.func cl) #[] cs.toArray] (DH encE G B d++X) Q =
   Q (.tuple #[.int .i64 (v:Int),.int .i64 (h:Int)]) (DH encE G B d++(X++[.cells false [.int .i64 (s:Int)]])):=by
 obtain ⟨l,rfl⟩:∃l,b=a+l:=⟨b-a,by omega⟩
 have hw0:IntKind.i64.wrap (((a+l:Nat):Int)-(a:Int))=(l:Int):=wrap_int (by omega) (by omega)
 have hq:(l:Int).tdiv 4=((l / 4:Nat):Int):=tdiv_nat (b:=4)
 have hw1:IntKind.i64.wrap ((l / 4:Nat):Int)=((l / 4:Nat):Int):=wrap_int rfl (by omega)
 have hw2:IntKind.i64.wrap (((l / 4:Nat):Int)*1)=((l / 4:Nat):Int):=wrap_int (by omega) (by omega)
 have hw3:IntKind.i64.wrap (((l / 4:Nat):Int)*2)=((l / 4*2:Nat):Int):=wrap_int (by omega) (by omega)
 have hw4:IntKind.i64.wrap (((l / 4:Nat):Int)*3)=((l / 4*3:Nat):Int):=wrap_int (by omega) (by omega)
 have hw5:IntKind.i64.wrap ((a:Int)+((l / 4:Nat):Int))=((a+l / 4:Nat):Int):=wrap_int (by omega) (by omega)
 have hw6:IntKind.i64.wrap ((a:Int)+((l / 4*2:Nat):Int))=((a+l / 4*2:Nat):Int):=wrap_int (by omega) (by omega)
 have hw7:IntKind.i64.wrap ((a:Int)+((l / 4*3:Nat):Int))=((a+l / 4*3:Nat):Int):=wrap_int (by omega) (by omega)
 have c8:(8:Int)≤(l:Int):=by omega
 have key:∀(x y z s:Nat),a≤x→x<a+l→a≤y→y<a+l→a≤z→z<a+l→s<80→∃v s':Nat,a≤v∧v<a+l∧∀Q,CallR E false lim 86 [.slice p n cap,.int .i64 (x:Int),.int .i64 (y:Int),.int .i64 (z:Int),.pointer (some ⟨G.length+X.length,0,none⟩),.func (.func cl) #[] cs.toArray] (DH encE G B d++(X++[.cells false [.int .i64 (s:Int)]])) Q =
   Q (.int .i64 (v:Int)) (DH encE G B d++(X++[.cells false [.int .i64 (s':Int)]])):=by
  intro x y z s q1 q2 q3 q4 q5 q6 q7
  obtain ⟨v,s',m1,_,m2⟩:=med_ok (X:=X) (cap:=cap) (lim:=lim) (a:=x) (b:=y) (e:=z) hp hB hl hn2 hc hd (by omega) (by omega) (by omega) (show s<90 by omega)
  exact ⟨v,s',by omega,by omega,m2⟩
 have fin:∀(v s':Nat) ,∃h:Nat,h≤2∧((s'=0∧h=1)∨(¬(s':Int)=0∧s'=12∧h=2)∨(¬(s':Int)=0∧¬(s':Int)=12∧h=0)):=by
  intro v s'
  by_cases z:s'=0
  ·exact ⟨1,by omega,.inl ⟨z,rfl⟩⟩
  ·by_cases z2:s'=12
   ·exact ⟨2,by omega,.inr (.inl ⟨by omega,z2,rfl⟩)⟩
   ·exact ⟨0,by omega,.inr (.inr ⟨by omega,by omega,rfl⟩)⟩
 by_cases c50:50≤l
 ·have c50':(50:Int)≤(l:Int):=by omega
  obtain ⟨x1,s1,h1,h2,h3,o1⟩:=meda_ok (X:=X) (cap:=cap) (lim:=lim) (a:=a+l / 4) (s:=0) hp hB hl hn2 hc hd (by omega) (by omega) (by omega)
  obtain ⟨x2,s2,h4,h5,h6,o2⟩:=meda_ok (X:=X) (cap:=cap) (lim:=lim) (a:=a+l / 4*2) (s:=s1) hp hB hl hn2 hc hd (by omega) (by omega) (by omega)
  obtain ⟨x3,s3,h7,h8,h9,o3⟩:=meda_ok (X:=X) (cap:=cap) (lim:=lim) (a:=a+l / 4*3) (s:=s2) hp hB hl hn2 hc hd (by omega) (by omega) (by omega)
  obtain ⟨v,s',m1,m2,om⟩:=key x1 x2 x3 s3 (by omega) (by omega) (by omega) (by omega) (by omega) (by omega) (by omega)
  obtain ⟨h,hh,hc'⟩:=fin v s'
  refine ⟨v,h,s',m1,m2,hh,fun Q=>runs (by decide) e72 rfl ?_⟩
  rw [b72,c72]
  simp only [show ((0:Nat):Int)=0 from rfl] at o1
  rcases hc' with ⟨rfl,rfl⟩ | ⟨z1,rfl,rfl⟩ | ⟨z1,z2,rfl⟩
  ·simp only [n72,r72,hw0,hq,hw1,hw2,hw3,hw4,hw5,hw6,hw7,c8,c50',o1,o2,o3,om,cnt_get,cnt_set,DH_len,SB,Nat.reduceLT,callee,aOp,ne_eq,Nat.reduceEqDiff,aBin,aUn,if_true,if_false,reduceCtorEq,frame0,place,notTuple,Nat.reduceAdd,Nat.reduceLeDiff,resVal,dite_true,dite_false,Int.reduceEq,Int.reduceLT,Int.reduceLE]
  ·simp only [n72,r72,hw0,hq,hw1,hw2,hw3,hw4,hw5,hw6,hw7,c8,c50',o1,o2,o3,om,cnt_get,cnt_set,DH_len,SB,Nat.reduceLT,callee,aOp,ne_eq,Nat.reduceEqDiff,aBin,aUn,if_true,if_false,reduceCtorEq,frame0,place,notTuple,Nat.reduceAdd,Nat.reduceLeDiff,resVal,dite_true,dite_false,Int.reduceEq,Int.reduceLT,Int.reduceLE]
  ·simp only [n72,r72,hw0,hq,hw1,hw2,hw3,hw4,hw5,hw6,hw7,c8,c50',o1,o2,o3,om,z1,z2,cnt_get,cnt_set,DH_len,SB,Nat.reduceLT,callee,aOp,ne_eq,Nat.reduceEqDiff,aBin,aUn,if_true,if_false,reduceCtorEq,frame0,place,notTuple,Nat.reduceAdd,Nat.reduceLeDiff,resVal,dite_true,dite_false,Int.reduceEq,Int.reduceLT,Int.reduceLE]
 ·have c50':¬(50:Int)≤(l:Int):=by omega
  obtain ⟨v,s',m1,m2,om⟩:=key (a+l / 4) (a+l / 4*2) (a+l / 4*3) 0 (by omega) (by omega) (by omega) (by omega) (by omega) (by omega) (by omega)
  obtain ⟨h,hh,hc'⟩:=fin v s'
  refine ⟨v,h,s',m1,m2,hh,fun Q=>runs (by decide) e72 rfl ?_⟩
  rw [b72,c72]
  simp only [show ((0:Nat):Int)=0 from rfl] at om
  rcases hc' with ⟨rfl,rfl⟩ | ⟨z1,rfl,rfl⟩ | ⟨z1,z2,rfl⟩
  ·simp only [n72,r72,hw0,hq,hw1,hw2,hw3,hw4,hw5,hw6,hw7,c8,c50',om,cnt_get,cnt_set,DH_len,SB,Nat.reduceLT,callee,aOp,ne_eq,Nat.reduceEqDiff,aBin,aUn,if_true,if_false,reduceCtorEq,frame0,place,notTuple,Nat.reduceAdd,Nat.reduceLeDiff,resVal,dite_true,dite_false,Int.reduceEq,Int.reduceLT,Int.reduceLE]
  ·simp only [n72,r72,hw0,hq,hw1,hw2,hw3,hw4,hw5,hw6,hw7,c8,c50',om,cnt_get,cnt_set,DH_len,SB,Nat.reduceLT,callee,aOp,ne_eq,Nat.reduceEqDiff,aBin,aUn,if_true,if_false,reduceCtorEq,frame0,place,notTuple,Nat.reduceAdd,Nat.reduceLeDiff,resVal,dite_true,dite_false,Int.reduceEq,Int.reduceLT,Int.reduceLE]
  ·simp only [n72,r72,hw0,hq,hw1,hw2,hw3,hw4,hw5,hw6,hw7,c8,c50',om,z1,z2,cnt_get,cnt_set,DH_len,SB,Nat.reduceLT,callee,aOp,ne_eq,Nat.reduceEqDiff,aBin,aUn,if_true,if_false,reduceCtorEq,frame0,place,notTuple,Nat.reduceAdd,Nat.reduceLeDiff,resVal,dite_true,dite_false,Int.reduceEq,Int.reduceLT,Int.reduceLE]
def len8:List UInt8:=[0,1,2,2,3,3,3,3,4,4,4,4,4,4,4,4,5,5,5,5,5,5,5,5,5,5,5,5,5,5,5,5,6,6,6,6,6,6,6,6,6,6,6,6,6,6,6,6,6,6,6,6,6,6,6,6,6,6,6,6,6,6,6,6,7,7,7,7,7,7,7,7,7,7,7,7,7,7,7,7,7,7,7,7,7,7,7,7,7,7,7,7,7,7,7,7,7,7,7,7,7,7,7,7,7,7,7,7,7,7,7,7,7,7,7,7,7,7,7,7,7,7,7,7,7,7,7,7,8,8,8,8,8,8,8,8,8,8,8,8,8,8,8,8,8,8,8,8,8,8,8,8,8,8,8,8,8,8,8,8,8,8,8,8,8,8,8,8,8,8,8,8,8,8,8,8,8,8,8,8,8,8,8,8,8,8,8,8,8,8,8,8,8,8,8,8,8,8,8,8,8,8,8,8,8,8,8,8,8,8,8,8,8,8,8,8,8,8,8,8,8,8,8,8,8,8,8,8,8,8,8,8,8,8,8,8,8,8,8,8,8,8,8,8,8,8,8,8,8,8,8,8,8,8,8,8]
theorem len8_len:len8.length=256:=by decide
theorem len8_ok:∀m,m<256→m<2 ^ (len8.getD m 0).toNat∧(m=0∨2 ^ (len8.getD m 0).toNat≤2*m)∧(len8.getD m 0).toNat≤8:=by decide +kernel
theorem len8_get {m:Nat} (h:m<256):len8[m]? = some (len8.getD m 0):=by
 rw [List.getD_eq_getElem?_getD,List.getElem?_eq_getElem (by rw [len8_len];exact h)];rfl
theorem wrap64 {n:Int}:IntKind.u64.wrap n=n % 2 ^ 64:=by simp [IntKind.wrap,IntKind.bits,IntKind.signed]
theorem wrap8 {n:Int}:IntKind.u8.wrap n=n % 2 ^ 8:=by simp [IntKind.wrap,IntKind.bits,IntKind.signed]
theorem fd8 {a:Int}:a.fdiv (2 ^ min (Int.toNat 8) IntKind.u64.bits)=a / 256:=by
 rw [show (2:Int) ^ min (Int.toNat 8) IntKind.u64.bits=256 from by decide,Int.fdiv_eq_ediv_of_nonneg _ (by decide)]
theorem len_ok [OB] {x:Nat} (hx:x<65536) (h0:0<x):∃L:Nat,x<2 ^ L∧2 ^ L≤2*x∧L≤16∧∀(mp:Bool) (lim:Nat) (H:Heap) (Q:Value→Heap→Prop),CallR E mp lim 60 [.int .u64 (x:Int)] H Q=Q (.int .i64 (L:Int)) H:=by
 have key:∃L:Nat,x<2 ^ L∧2 ^ L≤2*x∧L≤16∧∀(mp:Bool) (lim:Nat) (H:Heap) (Q:Value→Heap→Prop),CallR E mp lim 78 [.int .u64 (x:Int)] H Q=Q (.int .i64 (L:Int)) H:=by
  have c32:¬(4294967296:Int)≤(x:Int):=by omega
  have c16:¬(65536:Int)≤(x:Int):=by omega
  by_cases c8:256≤x
  ·obtain ⟨h1,h2,h3⟩:=len8_ok (x / 256) (by omega)
   have hg:=len8_get (m:=x / 256) (by omega)
   generalize hb:len8.getD (x / 256) 0=b at h1 h2 h3 hg
   have h2':2 ^ b.toNat≤2*(x / 256):=by rcases h2 with h | h<;>omega
   have e:(2:Nat) ^ (8+b.toNat)=256*2 ^ b.toNat:=by rw [Nat.pow_add]
   refine ⟨8+b.toNat,by rw [e];omega,by rw [e];omega,by omega,fun mp lim H Q=>?_⟩
   refine pc (by decide) e78 rfl rfl ?_
   rw [b78,c78]
   unfold len8 at hg
   have c8':(256:Int)≤(x:Int):=by omega
   have w1:IntKind.u64.wrap ((x:Int) / 256)=((x / 256:Nat):Int):=by rw [wrap64];omega
   have w2:IntKind.u8.wrap ((x:Int) / 256)=((x / 256:Nat):Int):=by rw [wrap8];omega
   have w3:IntKind.i64.wrap ((b.toNat:Nat):Int)=(b.toNat:Int):=wrap_int rfl (by omega)
   have w4:IntKind.i64.wrap (8+(b.toNat:Int))=((8+b.toNat:Nat):Int):=wrap_int (by omega) (by omega)
   have w5:IntKind.i64.wrap 8=8:=by decide
   have w6:(0:Int)≤((x / 256:Nat):Int):=by omega
   simp only [n78,r78,c32,c16,c8',fd8,w1,w2,w3,w4,w5,w6,hg,Int.toNat_natCast,Int.zero_add,SB,Nat.reduceLT,callee,aOp,ne_eq,Nat.reduceEqDiff,aBin,aUn,if_true,if_false,reduceCtorEq,frame0,place,notTuple,Nat.reduceAdd,Nat.reduceLeDiff,resVal,dite_true,dite_false,Int.reduceEq,Int.reduceLT,Int.reduceLE]
  ·obtain ⟨h1,h2,h3⟩:=len8_ok x (by omega)
   have hg:=len8_get (m:=x) (by omega)
   generalize hb:len8.getD x 0=b at h1 h2 h3 hg
   refine ⟨b.toNat,h1,by rcases h2 with h | h<;>omega,by omega,fun mp lim H Q=>?_⟩
   refine pc (by decide) e78 rfl rfl ?_
   rw [b78,c78]
   unfold len8 at hg
   have c8':¬(256:Int)≤(x:Int):=by omega
   have w2:IntKind.u8.wrap (x:Int)=(x:Int):=by rw [wrap8];omega
   have w3:IntKind.i64.wrap ((b.toNat:Nat):Int)=(b.toNat:Int):=wrap_int rfl (by omega)
   have w6:(0:Int)≤(x:Int):=by omega
   simp only [n78,r78,c32,c16,c8',w2,w3,w6,hg,Int.toNat_natCast,Int.zero_add,SB,Nat.reduceLT,callee,aOp,ne_eq,Nat.reduceEqDiff,aBin,aUn,if_true,if_false,reduceCtorEq,frame0,place,notTuple,Nat.reduceAdd,Nat.reduceLeDiff,resVal,dite_true,dite_false,Int.reduceEq,Int.reduceLT,Int.reduceLE]
 obtain ⟨L,h1,h2,h3,h4⟩:=key
 refine ⟨L,h1,h2,h3,fun mp lim H Q=>?_⟩
 refine pc (by decide) e60 rfl rfl ?_
 rw [b60,c60]
 simp only [n60,r60,h4,SB,Nat.reduceLT,callee,aOp,ne_eq,Nat.reduceEqDiff,aBin,aUn,if_true,if_false,reduceCtorEq,frame0,place,notTuple,Nat.reduceAdd,Nat.reduceLeDiff,resVal,dite_true,dite_false,Int.reduceEq,Int.reduceLT,Int.reduceLE]
theorem npt_ok [OB] {x:Nat} (hx:x<65536) (h0:0<x):∃m:Nat,0<m∧m≤2*x∧∀(mp:Bool) (lim:Nat) (H:Heap) (Q:Value→Heap→Prop),CallR E mp lim 83 [.int .i64 (x:Int)] H Q=Q (.int .u64 (m:Int)) H:=by
 obtain ⟨L,h1,h2,h3,h4⟩:=len_ok hx h0
 refine ⟨2 ^ L,Nat.pow_pos (by decide),h2,fun mp lim H Q=>?_⟩
 refine pc (by decide) e83 rfl rfl ?_
 rw [b83,c83]
 have w1:IntKind.u64.wrap (x:Int)=(x:Int):=by rw [wrap64];omega
 have w2:min L IntKind.u64.bits=L:=by simp only [IntKind.bits];omega
 have hp:(2:Nat) ^ L<2 ^ 18:=by omega
 have w3:IntKind.u64.wrap (1*2 ^ L)=((2 ^ L:Nat):Int):=by
  rw [wrap64,Int.one_mul]
  have:((2:Int) ^ L)=((2 ^ L:Nat):Int):=by simp
  rw [this];omega
 have c0:¬(L:Int)<0:=by omega
 simp only [n83,r83,w1,h4,c0,Int.toNat_natCast,w2,w3,SB,Nat.reduceLT,callee,aOp,ne_eq,Nat.reduceEqDiff,aBin,aUn,if_true,if_false,reduceCtorEq,frame0,place,notTuple,Nat.reduceAdd,Nat.reduceLeDiff,resVal,dite_true,dite_false,Int.reduceEq,Int.reduceLT,Int.reduceLE]
theorem xor_ok [OB] {α:Type} {enc:α→List Value} {G X:Heap} {B lim:Nat} {d:Array α} {s:Int} (hl:lim≤B) (hB:B<G.length) :
  ∃s':Int,(0≤s'∧s'<2 ^ 64)∧∀Q,CallR E false lim 84 [.pointer (some ⟨G.length+X.length,0,none⟩)] (DH enc G B d++(X++[.cells false [.int .u64 s]])) Q=Q (.int .u64 s') (DH enc G B d++(X++[.cells false [.int .u64 s']])):=by
 have hlG:lim≤G.length+X.length:=by omega
 have hw:∀m:Int,0≤IntKind.u64.wrap m∧IntKind.u64.wrap m<2 ^ 64:=by intro m;rw [wrap64];omega
 have key:CallR E false lim 84 [.pointer (some ⟨G.length+X.length,0,none⟩)] (DH enc G B d++(X++[.cells false [.int .u64 s]])) fun v H'=>∃s',(0≤s'∧s'<2 ^ 64)∧v=.int .u64 s'∧H'=DH enc G B d++(X++[.cells false [.int .u64 s']]):=by
  rw [CallR_run (E:=E) (g:=84) (af:=a84) (by simp [E,orc]) e84 rfl rfl]
  rw [b84,c84]
  simp only [n84,r84,cnt_get,cnt_set,hlG,List.append_nil,SB,Nat.reduceLT,callee,aOp,ne_eq,Nat.reduceEqDiff,aBin,aUn,if_true,if_false,reduceCtorEq,frame0,place,notTuple,Nat.reduceAdd,Nat.reduceLeDiff,resVal,dite_true,dite_false,Int.reduceEq,Int.reduceLT,Int.reduceLE]
  exact ⟨_,hw _,rfl,rfl⟩
 obtain ⟨k,v,H',hx,s',h1,rfl,rfl⟩:=CallR.one key
 exact ⟨s',h1,fun Q=>CallR.det hx⟩
theorem and_le {a b:Int} (hb:0≤b∧b<2 ^ 64):0≤IntKind.u64.wrap ((BitVec.ofInt IntKind.u64.bits a &&& BitVec.ofInt IntKind.u64.bits b).toNat:Int)∧IntKind.u64.wrap ((BitVec.ofInt IntKind.u64.bits a &&& BitVec.ofInt IntKind.u64.bits b).toNat:Int)≤b:=by
 rw [wrap64]
 have h1:(BitVec.ofInt IntKind.u64.bits a &&& BitVec.ofInt IntKind.u64.bits b).toNat≤(BitVec.ofInt IntKind.u64.bits b).toNat:=by
  rw [BitVec.toNat_and];exact Nat.and_le_right
 have h2:((BitVec.ofInt IntKind.u64.bits b).toNat:Int)=b:=by
  rw [BitVec.toNat_ofInt]
  simp only [IntKind.bits]
  omega
 omega
theorem brk_ok [OB] {G X:Heap} {B lim cap n:Nat} {p:Option Addr} {c:Go.Scan.Ev→Go.Scan.Ev→Int} {cl:FuncId} {cs:List Value} (hp:p=some ⟨B,0,none⟩) (hB:B<G.length) (hl:lim≤B) (hn2:n<2 ^ 61) (hc:∀(mp:Bool) (lim:Nat) (x y:Go.Scan.Ev) (H:Heap) (Q:Value→Heap→Prop),CallR E mp lim cl (.agg (encE x).toArray::.agg (encE y).toArray::cs) H Q=Q (.int .i64 (c x y)) H) {d:Array Go.Scan.Ev} {a b:Nat} (hd:d.size=n) (hb:b≤n) (hab:a+12<b) (hn3:n<65536) :
  ∃d' s,d'.size=n∧PermIn a b d d'∧∀Q,CallR E false lim 71 [.slice p n cap,.int .i64 (a:Int),.int .i64 (b:Int),.func (.func cl) #[] cs.toArray] (DH encE G B d++X) Q=Q (.tuple #[]) (DH encE G B d'++(X++[.cells false [.int .u64 s]])):=by
 have key:CallR E false lim 71 [.slice p n cap,.int .i64 (a:Int),.int .i64 (b:Int),.func (.func cl) #[] cs.toArray] (DH encE G B d++X) fun v H'=>∃d' s,d'.size=n∧PermIn a b d d'∧v=.tuple #[]∧H'=DH encE G B d'++(X++[.cells false [.int .u64 s]]):=by
  rw [CallR_run (E:=E) (g:=71) (af:=a71) (by simp [E,orc]) e71 rfl rfl]
  rw [b71,c71]
  have ld:=fun (i:Nat) (X:Heap) (d:Array Go.Scan.Ev) (hd:d.size=n) (hi:i<n)=>DH_ld (X:=X) (d:=d) (i:=i) hp hB encE_len (by omega);have st:=fun (i:Nat) (X:Heap) (d:Array Go.Scan.Ev) (hd:d.size=n) (hi:i<n) (y:Go.Scan.Ev)=>DH_st (X:=X) (d:=d) (i:=i) (y:=y) hp hB hl encE_len (by omega);have ix:=fun (i:Nat) (hi:i<n) c (k:IntKind) (H:Heap)=>DH_idx (e:=7) (i:=i) (n:=n) (c:=c) (k:=k) (H:=H) hp hi
  have hlG:lim≤G.length+X.length:=by omega
  obtain ⟨l,rfl⟩:∃l,b=a+l:=⟨b-a,by omega⟩
  obtain ⟨m,hm0,hm1,hnpt⟩:=npt_ok (x:=l) (by omega) (by omega)
  have hw0:IntKind.i64.wrap (((a+l:Nat):Int)-(a:Int))=(l:Int):=wrap_int (by omega) (by omega)
  have hq:(l:Int).tdiv 4=((l / 4:Nat):Int):=tdiv_nat (b:=4)
  have hw1:IntKind.i64.wrap ((l / 4:Nat):Int)=((l / 4:Nat):Int):=wrap_int rfl (by omega)
  have hw3:IntKind.i64.wrap (((l / 4:Nat):Int)*2)=((l / 4*2:Nat):Int):=wrap_int (by omega) (by omega)
  have hw6:IntKind.i64.wrap ((a:Int)+((l / 4*2:Nat):Int))=((a+l / 4*2:Nat):Int):=wrap_int (by omega) (by omega)
  have hw7:IntKind.i64.wrap (((a+l / 4*2:Nat):Int)-1)=((a+l / 4*2-1:Nat):Int):=wrap_int (by omega) (by omega)
  have hw8:IntKind.i64.wrap (((a+l / 4*2:Nat):Int)+1)=((a+l / 4*2+1:Nat):Int):=wrap_int (by omega) (by omega)
  have hwm:IntKind.u64.wrap ((m:Int)-1)=((m-1:Nat):Int):=by rw [wrap64];omega
  have c8:(8:Int)≤(l:Int):=by omega
  simp only [n71,r71,hw0,hq,hw1,hw3,hw6,hw7,c8,hnpt,cnt_get,cnt_set,DH_len,hlG,SB,Nat.reduceLT,callee,aOp,ne_eq,Nat.reduceEqDiff,aBin,aUn,if_true,if_false,reduceCtorEq,frame0,place,notTuple,Nat.reduceAdd,Nat.reduceLeDiff,resVal,dite_true,dite_false,Int.reduceEq,Int.reduceLT,Int.reduceLE]
  refine Ret_rounds (S:=Nat×Array Go.Scan.Ev×Int) (fun s=>a+l+5-s.1) (fun s fr H=>a<s.1∧s.1≤a+l / 4*2+2∧fr 0=.slice p n cap∧fr 1=.int .i64 (a:Int)∧fr 8=.int .i64 (l:Int)∧fr 9=.pointer (some ⟨G.length+X.length,0,none⟩)∧fr 10=.int .u64 (m:Int)∧fr 11=.int .i64 (s.1:Int)∧
   H=DH encE G B s.2.1++(X++[.cells false [.int .u64 s.2.2]])∧s.2.1.size=n∧PermIn a (a+l) d s.2.1) (a+l / 4*2-1,d,IntKind.u64.wrap (l:Int)) ⟨by simp only;omega,by simp only;omega,(by simp only [FB,Nat.reduceEqDiff]),(by simp only [FB,Nat.reduceEqDiff]),(by simp only [FB,Nat.reduceEqDiff]),(by simp only [FB,Nat.reduceEqDiff]),(by simp only [FB,Nat.reduceEqDiff]),(by simp only [FB,Nat.reduceEqDiff]),rfl,hd,permIn_refl _ _ _⟩ ?_
  rintro ⟨i,d1,s⟩ fr H ⟨h1,h2,g0,g1,g8,g9,g10,g11,rfl,hd1,hP⟩ hN
  simp only at h1 h2 g11 hd1 hP
  rw [Ret_code l71_1.eq_1]
  by_cases c1:i≤a+(l / 4*2+1)
  ·obtain ⟨s',_,hx⟩:=xor_ok (X:=X) (d:=d1) (s:=s) (enc:=encE) hl hB
   have hA:=and_le (a:=s') (b:=((m-1:Nat):Int)) (by omega)
   generalize hr:IntKind.u64.wrap ((BitVec.ofInt IntKind.u64.bits s' &&& BitVec.ofInt IntKind.u64.bits ((m-1:Nat):Int)).toNat:Int)=r at hA
   obtain ⟨r',rfl⟩:∃r':Nat,r=(r':Int):=⟨r.toNat,by omega⟩
   have hwr:IntKind.i64.wrap (r':Int)=(r':Int):=wrap_int rfl (by omega)
   have hwi:IntKind.i64.wrap ((i:Int)+1)=((i+1:Nat):Int):=wrap_nat (by omega)
   have i1:i<n:=by omega
   by_cases c2:l≤r'
   ·have hw9:IntKind.i64.wrap ((r':Int)-(l:Int))=((r'-l:Nat):Int):=wrap_int (by omega) (by omega)
    have hw10:IntKind.i64.wrap ((a:Int)+((r'-l:Nat):Int))=((a+(r'-l):Nat):Int):=wrap_int (by omega) (by omega)
    have i2:a+(r'-l)<n:=by omega
    simp only [n71,r71,g0,g1,g8,g9,g10,g11,hw0,hq,hw1,hw3,hw6,hw8,c1,hx,hwm,hr,hwr,c2,hw9,hw10,ld,st,ix,List.append_nil,Array.size_setIfInBounds,encE_len,hd1,i1,i2,hwi,SB,Nat.reduceLT,callee,aOp,ne_eq,Nat.reduceEqDiff,aBin,aUn,if_true,if_false,reduceCtorEq,frame0,place,notTuple,Nat.reduceAdd,Nat.reduceLeDiff,resVal,dite_true,dite_false,Int.reduceEq,Int.reduceLT,Int.reduceLE]
    exact hN (i+1,swp d1 i (a+(r'-l)),s') _ _ ⟨by simp only;omega,by simp only;omega,(by simp only [g0,FB,Nat.reduceEqDiff]),(by simp only [g1,FB,Nat.reduceEqDiff]),(by simp only [g8,FB,Nat.reduceEqDiff]),(by simp only [g9,FB,Nat.reduceEqDiff]),(by simp only [g10,FB,Nat.reduceEqDiff]),(by simp only [FB,Nat.reduceEqDiff]),by simp [swp],by simp [swp,hd1],permIn_trans _ _ _ _ _ hP (swp_permIn _ _ _ _ _ (by omega) (by omega) (by omega) (by omega) (by omega))⟩ (by simp only;omega)
   ·have hw10:IntKind.i64.wrap ((a:Int)+(r':Int))=((a+r':Nat):Int):=wrap_int (by omega) (by omega)
    have i2:a+r'<n:=by omega
    simp only [n71,r71,g0,g1,g8,g9,g10,g11,hw0,hq,hw1,hw3,hw6,hw8,c1,hx,hwm,hr,hwr,c2,hw10,ld,st,ix,List.append_nil,Array.size_setIfInBounds,encE_len,hd1,i1,i2,hwi,SB,Nat.reduceLT,callee,aOp,ne_eq,Nat.reduceEqDiff,aBin,aUn,if_true,if_false,reduceCtorEq,frame0,place,notTuple,Nat.reduceAdd,Nat.reduceLeDiff,resVal,dite_true,dite_false,Int.reduceEq,Int.reduceLT,Int.reduceLE]
    exact hN (i+1,swp d1 i (a+r'),s') _ _ ⟨by simp only;omega,by simp only;omega,(by simp only [g0,FB,Nat.reduceEqDiff]),(by simp only [g1,FB,Nat.reduceEqDiff]),(by simp only [g8,FB,Nat.reduceEqDiff]),(by simp only [g9,FB,Nat.reduceEqDiff]),(by simp only [g10,FB,Nat.reduceEqDiff]),(by simp only [FB,Nat.reduceEqDiff]),by simp [swp],by simp [swp,hd1],permIn_trans _ _ _ _ _ hP (swp_permIn _ _ _ _ _ (by omega) (by omega) (by omega) (by omega) (by omega))⟩ (by simp only;omega)
  ·clear hN
   simp only [n71,r71,g0,g1,g8,g9,g10,g11,hw0,hq,hw1,hw3,hw6,hw8,c1,SB,Nat.reduceLT,callee,aOp,ne_eq,Nat.reduceEqDiff,aBin,aUn,if_true,if_false,reduceCtorEq,frame0,place,notTuple,Nat.reduceAdd,Nat.reduceLeDiff,resVal,dite_true,dite_false,Int.reduceEq,Int.reduceLT,Int.reduceLE]
   exact ⟨d1,s,hd1,hP,rfl⟩
 obtain ⟨k,v,H',hx,d',s,h1,h2,rfl,rfl⟩:=CallR.one key
 exact ⟨d',s,h1,h2,fun Q=>CallR.det hx⟩
def tlc:ACode→ACode
 | .seq _ b=>b
 | x=>x
def unb:ACode→ACode
 | .block _ b=>b
 | x=>x
def q1:ACode:=tlc (tlc (tlc (tlc (unb l59_1))))
def q2:ACode:=tlc (tlc q1)
def q3:ACode:=tlc q2
def hdc:ACode→ACode
 | .seq a _=>a
 | x=>x
def p1:ACode:=hdc (unb l59_1)
def p2:ACode:=hdc (tlc (unb l59_1))
def p3:ACode:=hdc (tlc (tlc (unb l59_1)))
def p4:ACode:=hdc (tlc (tlc (tlc (unb l59_1))))
theorem body_eq:l59_1=.block 1 (.seq p1 (.seq p2 (.seq p3 (.seq p4 q1)))):=rfl
def p5:ACode:=hdc q2
theorem q2_eq:q2=.seq p5 q3:=rfl
def p6:ACode:=hdc q1
def p7:ACode:=hdc (tlc q1)
theorem q1_eq:q1=.seq p6 (.seq p7 q2):=rfl
def Done (G:Heap) (B n:Nat) (c:Go.Scan.Ev→Go.Scan.Ev→Int) (a b:Nat) (d:Array Go.Scan.Ev) (X:Heap) (v:Value) (H':Heap):Prop:=
 ∃d' Y,d'.size=n∧PermIn a b d d'∧SortedIn (ltC c) a b d'∧v=.tuple #[]∧H'=DH encE G B d'++(X++Y)
theorem Done.perm [OB] {G:Heap} {B n:Nat} {c:Go.Scan.Ev→Go.Scan.Ev→Int} {a b:Nat} {d d1:Array Go.Scan.Ev} {X Y:Heap} {v:Value} {H':Heap} (h:Done G B n c a b d1 (X++Y) v H') (hP:PermIn a b d d1):Done G B n c a b d X v H':=by
 obtain ⟨d',Z,h1,h2,h3,h4,h5⟩:=h
 exact ⟨d',Y++Z,h1,permIn_trans _ _ _ _ _ hP h2,h3,h4,by rw [h5];simp⟩
theorem pdq3 [OB] {G X:Heap} {B lim cap n:Nat} {p:Option Addr} {c:Go.Scan.Ev→Go.Scan.Ev→Int} {cl:FuncId} {cs:List Value} (hp:p=some ⟨B,0,none⟩) (hB:B<G.length) (hl:lim≤B) (hn2:n<2 ^ 61) (hc:∀(mp:Bool) (lim:Nat) (x y:Go.Scan.Ev) (H:Heap) (Q:Value→Heap→Prop),CallR E mp lim cl (.agg (encE x).toArray::.agg (encE y).toArray::cs) H Q=Q (.int .i64 (c x y)) H) (hS:SWO (ltC c)) {d:Array Go.Scan.Ev} {a b v lm m:Nat} {wb wp:Bool} {fr:Nat→Value} {L:List AItem} (hT:∀(a b lm:Nat) (wb wp:Bool) (d:Array Go.Scan.Ev) (X:Heap) (fr:Nat→Value),b-a<m→a≤b→b≤n→d.size=n→Below (ltC c) a b d→lm<2 ^ 60→fr 0=.slice p n cap→fr 1=.int .i64 (a:Int)→fr 2=.int .i64 (b:Int)→fr 3=.int .i64 (lm:Int)→fr 4=.func (.func cl) #[] cs.toArray→fr 10=.bool wb→fr 11=.bool wp→Ret E a59 lim L fr (DH encE G B d++X) (Done G B n c a b d X)) (hC:∀(a b lm:Nat) (d:Array Go.Scan.Ev) (X:Heap),b-a<m→a≤b→b≤n→d.size=n→Below (ltC c) a b d→lm<2 ^ 60→∃d' Y,d'.size=n∧PermIn a b d d'∧SortedIn (ltC c) a b d'∧∀Q,CallR E false lim 59 [.slice p n cap,.int .i64 (a:Int),.int .i64 (b:Int),.int .i64 (lm:Int),.func (.func cl) #[] cs.toArray] (DH encE G B d++X) Q=Q (.tuple #[]) (DH encE G B d'++(X++Y))) (hm:b-a≤m) (hd:d.size=n) (hb:b≤n) (hv:a≤v∧v<b) (hlm:lm<2 ^ 60) (hBl:Below (ltC c) a b d) (g0:fr 0=.slice p n cap) (g1:fr 1=.int .i64 (a:Int)) (g2:fr 2=.int .i64 (b:Int)) (g3:fr 3=.int .i64 (lm:Int)) (g4:fr 4=.func (.func cl) #[] cs.toArray) (g10:fr 10=.bool wb) (g11:fr 11=.bool wp) (g12:fr 12=.int .i64 ((b-a:Nat):Int)) (g13:fr 13=.int .i64 (v:Int)) :
  Ret E a59 lim (.code q3::.inBlock 1::L) fr (DH encE G B d++X) (Done G B n c a b d X):=by
 simp only [q3,q2,q1,tlc,unb,l59_1]
 have ld:=fun (i:Nat) (X:Heap) (d:Array Go.Scan.Ev) (hd:d.size=n) (hi:i<n)=>DH_ld (X:=X) (d:=d) (i:=i) hp hB encE_len (by omega);have st:=fun (i:Nat) (X:Heap) (d:Array Go.Scan.Ev) (hd:d.size=n) (hi:i<n) (y:Go.Scan.Ev)=>DH_st (X:=X) (d:=d) (i:=i) (y:=y) hp hB hl encE_len (by omega);have ix:=fun (i:Nat) (hi:i<n) c (k:IntKind) (H:Heap)=>DH_idx (e:=7) (i:=i) (n:=n) (c:=c) (k:=k) (H:=H) hp hi
 have hw0:0<a→IntKind.i64.wrap ((a:Int)-1)=((a-1:Nat):Int):=fun h=>wrap_pred h (by omega)
 have i1:v<n:=by omega
 by_cases c1:0<a∧¬c d[a-1]! d[v]!<0
 ·obtain ⟨c1,c2⟩:=c1
  have i2:a-1<n:=by omega
  have hpe:=fun Q=>peq_ok (X:=X) (cap:=cap) (a:=a) (b:=b) (v:=v) (Q:=Q) hp hB hl hn2 hc hd hb hv.1 hv.2
  generalize hx:partitionEqual (ltC c) d a b v=r at hpe
  obtain ⟨mid,d4⟩:=r
  obtain ⟨r1,r2,r3,r4,r5⟩:=round_eq hS (partitionEqual_holds (ltC c)) c1 hv.1 hv.2 (by omega) hBl (by simp [ltC,c2]) hx
  have hw0':=hw0 c1
  simp only [n59,r59,g0,g1,g2,g3,g4,g10,g11,g12,g13,c1,c2,hw0',ld,st,ix,List.append_nil,Array.size_setIfInBounds,encE_len,hd,i1,i2,hc,hpe,SB,Nat.reduceLT,callee,aOp,ne_eq,Nat.reduceEqDiff,aBin,aUn,if_true,if_false,reduceCtorEq,frame0,place,notTuple,Nat.reduceAdd,Nat.reduceLeDiff,resVal,dite_true,dite_false,Int.reduceEq,Int.reduceLT,Int.reduceLE]
  exact (hT mid b lm wb wp d4 X _ (by omega) r2 hb (by omega) r4 hlm (by simp only [g0,FB,Nat.reduceEqDiff]) (by simp only [FB,Nat.reduceEqDiff]) (by simp only [g2,FB,Nat.reduceEqDiff]) (by simp only [g3,FB,Nat.reduceEqDiff]) (by simp only [g4,FB,Nat.reduceEqDiff]) (by simp only [g10,FB,Nat.reduceEqDiff]) (by simp only [g11,FB,Nat.reduceEqDiff])).mono fun v H' ⟨d',Y,s1,s2,s3,s4,s5⟩=>⟨d',Y,s1,(r5 d' s2 s3).1,(r5 d' s2 s3).2,s4,s5⟩
 ·have hpt:=fun Q=>part_sort (X:=X) (cap:=cap) (a:=a) (b:=b) (v:=v) (Q:=Q) hp hB hl hn2 hc hd hb hv.1 hv.2
  generalize hx:Sort.partition (ltC c) d a b v=r at hpt
  obtain ⟨mid,ap,d4⟩:=r
  obtain ⟨r1,r2,r3,r4,r5,r6,r7⟩:=round_part hS (partition_holds (ltC c)) hv.1 hv.2 (by omega) hBl hx
  simp only at hpt
  have hw1:IntKind.i64.wrap ((mid:Int)-(a:Int))=((mid-a:Nat):Int):=wrap_int (by omega) (by omega)
  have hw2:IntKind.i64.wrap ((b:Int)-(mid:Int))=((b-mid:Nat):Int):=wrap_int (by omega) (by omega)
  have hw3:IntKind.i64.wrap ((mid:Int)+1)=((mid+1:Nat):Int):=wrap_nat (by omega)
  have hq:((b-a:Nat):Int).tdiv 8=(((b-a) / 8:Nat):Int):=tdiv_nat (b:=8)
  have hw4:IntKind.i64.wrap (((b-a) / 8:Nat):Int)=(((b-a) / 8:Nat):Int):=wrap_int rfl (by omega)
  have hor:(0<a∧c d[a-1]! d[v]!<0)∨¬0<a:=by
   by_cases q:0<a
   ·exact .inl ⟨q,Classical.byContradiction fun q2=>c1 ⟨q,q2⟩⟩
   ·exact .inr q
  by_cases c5:mid-a<b-mid
  ·obtain ⟨dL,Y,l1,l2,l3,l4⟩:=hC a mid lm d4 X (by omega) r1 (by omega) (by omega) r4 hlm
   obtain ⟨k1,k2⟩:=r6 dL l2 l3
   rcases hor with ⟨c2,c3⟩ | c2
   ·have hw0':=hw0 c2
    have i2:a-1<n:=by omega
    simp only [n59,r59,g0,g1,g2,g3,g4,g10,g11,g12,g13,c2,c3,hw0',ld,st,ix,List.append_nil,Array.size_setIfInBounds,encE_len,hd,i1,i2,hc,hpt,hw1,hw2,hw3,hq,hw4,c5,l4,SB,Nat.reduceLT,callee,aOp,ne_eq,Nat.reduceEqDiff,aBin,aUn,if_true,if_false,reduceCtorEq,frame0,place,notTuple,Nat.reduceAdd,Nat.reduceLeDiff,resVal,dite_true,dite_false,Int.reduceEq,Int.reduceLT,Int.reduceLE]
    exact (hT (mid+1) b lm (decide ((b-a) / 8≤mid-a)) ap dL (X++Y) _ (by omega) (by omega) hb l1 k1 hlm (by simp only [g0,FB,Nat.reduceEqDiff]) (by simp only [FB,Nat.reduceEqDiff]) (by simp only [g2,FB,Nat.reduceEqDiff]) (by simp only [g3,FB,Nat.reduceEqDiff]) (by simp only [g4,FB,Nat.reduceEqDiff]) (by simp only [FB,Nat.reduceEqDiff]) (by simp only [FB,Nat.reduceEqDiff])).mono fun v H' ⟨d',Z,s1,s2,s3,s4,s5⟩=>⟨d',Y++Z,s1,(k2 d' s2 s3).1,(k2 d' s2 s3).2,s4,by rw [s5];simp⟩
   ·simp only [n59,r59,g0,g1,g2,g3,g4,g10,g11,g12,g13,c2,ld,st,ix,List.append_nil,Array.size_setIfInBounds,encE_len,hd,i1,hc,hpt,hw1,hw2,hw3,hq,hw4,c5,l4,SB,Nat.reduceLT,callee,aOp,ne_eq,Nat.reduceEqDiff,aBin,aUn,if_true,if_false,reduceCtorEq,frame0,place,notTuple,Nat.reduceAdd,Nat.reduceLeDiff,resVal,dite_true,dite_false,Int.reduceEq,Int.reduceLT,Int.reduceLE]
    exact (hT (mid+1) b lm (decide ((b-a) / 8≤mid-a)) ap dL (X++Y) _ (by omega) (by omega) hb l1 k1 hlm (by simp only [g0,FB,Nat.reduceEqDiff]) (by simp only [FB,Nat.reduceEqDiff]) (by simp only [g2,FB,Nat.reduceEqDiff]) (by simp only [g3,FB,Nat.reduceEqDiff]) (by simp only [g4,FB,Nat.reduceEqDiff]) (by simp only [FB,Nat.reduceEqDiff]) (by simp only [FB,Nat.reduceEqDiff])).mono fun v H' ⟨d',Z,s1,s2,s3,s4,s5⟩=>⟨d',Y++Z,s1,(k2 d' s2 s3).1,(k2 d' s2 s3).2,s4,by rw [s5];simp⟩
  ·obtain ⟨dL,Y,l1,l2,l3,l4⟩:=hC (mid+1) b lm d4 X (by omega) (by omega) hb (by omega) r5 hlm
   obtain ⟨k1,k2⟩:=r7 dL l2 l3
   rcases hor with ⟨c2,c3⟩ | c2
   ·have hw0':=hw0 c2
    have i2:a-1<n:=by omega
    simp only [n59,r59,g0,g1,g2,g3,g4,g10,g11,g12,g13,c2,c3,hw0',ld,st,ix,List.append_nil,Array.size_setIfInBounds,encE_len,hd,i1,i2,hc,hpt,hw1,hw2,hw3,hq,hw4,c5,l4,SB,Nat.reduceLT,callee,aOp,ne_eq,Nat.reduceEqDiff,aBin,aUn,if_true,if_false,reduceCtorEq,frame0,place,notTuple,Nat.reduceAdd,Nat.reduceLeDiff,resVal,dite_true,dite_false,Int.reduceEq,Int.reduceLT,Int.reduceLE]
    exact (hT a mid lm (decide ((b-a) / 8≤b-mid)) ap dL (X++Y) _ (by omega) r1 (by omega) l1 k1 hlm (by simp only [g0,FB,Nat.reduceEqDiff]) (by simp only [g1,FB,Nat.reduceEqDiff]) (by simp only [FB,Nat.reduceEqDiff]) (by simp only [g3,FB,Nat.reduceEqDiff]) (by simp only [g4,FB,Nat.reduceEqDiff]) (by simp only [FB,Nat.reduceEqDiff]) (by simp only [FB,Nat.reduceEqDiff])).mono fun v H' ⟨d',Z,s1,s2,s3,s4,s5⟩=>⟨d',Y++Z,s1,(k2 d' s2 s3).1,(k2 d' s2 s3).2,s4,by rw [s5];simp⟩
   ·simp only [n59,r59,g0,g1,g2,g3,g4,g10,g11,g12,g13,c2,ld,st,ix,List.append_nil,Array.size_setIfInBounds,encE_len,hd,i1,hc,hpt,hw1,hw2,hw3,hq,hw4,c5,l4,SB,Nat.reduceLT,callee,aOp,ne_eq,Nat.reduceEqDiff,aBin,aUn,if_true,if_false,reduceCtorEq,frame0,place,notTuple,Nat.reduceAdd,Nat.reduceLeDiff,resVal,dite_true,dite_false,Int.reduceEq,Int.reduceLT,Int.reduceLE]
    exact (hT a mid lm (decide ((b-a) / 8≤b-mid)) ap dL (X++Y) _ (by omega) r1 (by omega) l1 k1 hlm (by simp only [g0,FB,Nat.reduceEqDiff]) (by simp only [g1,FB,Nat.reduceEqDiff]) (by simp only [FB,Nat.reduceEqDiff]) (by simp only [g3,FB,Nat.reduceEqDiff]) (by simp only [g4,FB,Nat.reduceEqDiff]) (by simp only [FB,Nat.reduceEqDiff]) (by simp only [FB,Nat.reduceEqDiff])).mono fun v H' ⟨d',Z,s1,s2,s3,s4,s5⟩=>⟨d',Y++Z,s1,(k2 d' s2 s3).1,(k2 d' s2 s3).2,s4,by rw [s5];simp⟩
theorem pdq2 [OB] {G X:Heap} {B lim cap n:Nat} {p:Option Addr} {c:Go.Scan.Ev→Go.Scan.Ev→Int} {cl:FuncId} {cs:List Value} (hp:p=some ⟨B,0,none⟩) (hB:B<G.length) (hl:lim≤B) (hn2:n<2 ^ 61) (hc:∀(mp:Bool) (lim:Nat) (x y:Go.Scan.Ev) (H:Heap) (Q:Value→Heap→Prop),CallR E mp lim cl (.agg (encE x).toArray::.agg (encE y).toArray::cs) H Q=Q (.int .i64 (c x y)) H) (hS:SWO (ltC c)) {d:Array Go.Scan.Ev} {a b v h lm m:Nat} {wb wp:Bool} {fr:Nat→Value} {L:List AItem} (hT:∀(a b lm:Nat) (wb wp:Bool) (d:Array Go.Scan.Ev) (X:Heap) (fr:Nat→Value),b-a<m→a≤b→b≤n→d.size=n→Below (ltC c) a b d→lm<2 ^ 60→fr 0=.slice p n cap→fr 1=.int .i64 (a:Int)→fr 2=.int .i64 (b:Int)→fr 3=.int .i64 (lm:Int)→fr 4=.func (.func cl) #[] cs.toArray→fr 10=.bool wb→fr 11=.bool wp→Ret E a59 lim L fr (DH encE G B d++X) (Done G B n c a b d X)) (hC:∀(a b lm:Nat) (d:Array Go.Scan.Ev) (X:Heap),b-a<m→a≤b→b≤n→d.size=n→Below (ltC c) a b d→lm<2 ^ 60→∃d' Y,d'.size=n∧PermIn a b d d'∧SortedIn (ltC c) a b d'∧∀Q,CallR E false lim 59 [.slice p n cap,.int .i64 (a:Int),.int .i64 (b:Int),.int .i64 (lm:Int),.func (.func cl) #[] cs.toArray] (DH encE G B d++X) Q=Q (.tuple #[]) (DH encE G B d'++(X++Y))) (hm:b-a≤m) (hd:d.size=n) (hb:b≤n) (hv:a≤v∧v<b) (hlm:lm<2 ^ 60) (hh:h≤2) (hBl:Below (ltC c) a b d) (g0:fr 0=.slice p n cap) (g1:fr 1=.int .i64 (a:Int)) (g2:fr 2=.int .i64 (b:Int)) (g3:fr 3=.int .i64 (lm:Int)) (g4:fr 4=.func (.func cl) #[] cs.toArray) (g10:fr 10=.bool wb) (g11:fr 11=.bool wp) (g12:fr 12=.int .i64 ((b-a:Nat):Int)) (g13:fr 13=.int .i64 (v:Int)) (g14:fr 14=.int .i64 (h:Int)) :
  Ret E a59 lim (.code q2::.inBlock 1::L) fr (DH encE G B d++X) (Done G B n c a b d X):=by
 have h3:=fun d fr hd hBl=>pdq3 (X:=X) (d:=d) (fr:=fr) (a:=a) (b:=b) (v:=v) (lm:=lm) (wb:=wb) (wp:=wp) hp hB hl hn2 hc hS hT hC hm hd hb hv hlm hBl
 by_cases c1:wb=true∧wp=true∧h=1
 ·obtain ⟨rfl,rfl,rfl⟩:=c1
  have hpi:=fun Q=>pis_ok (X:=X) (cap:=cap) (a:=a) (b:=b) (Q:=Q) hp hB hl hn2 hc hd hb (by omega)
  have hps:=partialInsertionSort_holds hS d a b (by omega) (by omega) hBl
  generalize partialInsertionSort (ltC c) d a b=r at hpi hps
  obtain ⟨d3,fl⟩:=r
  obtain ⟨P3,S3⟩:=hps
  simp only at hpi P3 S3
  have g14':fr 14=.int .i64 1:=g14
  have hd3:d3.size=n:=by rw [P3.1];exact hd
  cases fl with
  | true=>
    rw [Ret_code q2_eq];simp only [p5,hdc,tlc,unb,q1,q2,l59_1]
    simp only [n59,r59,g0,g1,g2,g3,g4,g10,g11,g12,g13,g14',hpi,SB,Nat.reduceLT,callee,aOp,ne_eq,Nat.reduceEqDiff,aBin,aUn,if_true,if_false,reduceCtorEq,frame0,place,notTuple,Nat.reduceAdd,Nat.reduceLeDiff,resVal,dite_true,dite_false,Int.reduceEq,Int.reduceLT,Int.reduceLE]
    exact ⟨d3,[],hd3,P3,S3 rfl,rfl,by simp⟩
  | false=>
    have hB3:=hBl.perm (by omega) P3
    have:=h3 d3
    rw [Ret_code q2_eq];simp only [p5,hdc,tlc,unb,q1,q2,l59_1]
    simp only [n59,r59,g0,g1,g2,g3,g4,g10,g11,g12,g13,g14',hpi,SB,Nat.reduceLT,callee,aOp,ne_eq,Nat.reduceEqDiff,aBin,aUn,if_true,if_false,reduceCtorEq,frame0,place,notTuple,Nat.reduceAdd,Nat.reduceLeDiff,resVal,dite_true,dite_false,Int.reduceEq,Int.reduceLT,Int.reduceLE]
    refine Ret.mono (h3 d3 _ hd3 hB3 (by simp only [g0,FB,Nat.reduceEqDiff]) (by simp only [g1,FB,Nat.reduceEqDiff]) (by simp only [g2,FB,Nat.reduceEqDiff]) (by simp only [g3,FB,Nat.reduceEqDiff]) (by simp only [g4,FB,Nat.reduceEqDiff]) (by simp only [g10,FB,Nat.reduceEqDiff]) (by simp only [g11,FB,Nat.reduceEqDiff]) (by simp only [g12,FB,Nat.reduceEqDiff]) (by simp only [g13,FB,Nat.reduceEqDiff])) fun v' H' hq=>?_
    exact Done.perm (Y:=[]) (by rw [List.append_nil];exact hq) P3
 ·have h3':=h3 d
  rw [Ret_code q2_eq];simp only [p5,hdc,tlc,unb,q1,q2,l59_1]
  cases wb with
  | false=>
    simp only [n59,r59,g0,g1,g2,g3,g4,g10,g11,g12,g13,g14,SB,Nat.reduceLT,callee,aOp,ne_eq,Nat.reduceEqDiff,aBin,aUn,if_true,if_false,reduceCtorEq,frame0,place,notTuple,Nat.reduceAdd,Nat.reduceLeDiff,resVal,dite_true,dite_false,Int.reduceEq,Int.reduceLT,Int.reduceLE]
    exact h3' _ hd hBl (by simp only [g0,FB,Nat.reduceEqDiff]) (by simp only [g1,FB,Nat.reduceEqDiff]) (by simp only [g2,FB,Nat.reduceEqDiff]) (by simp only [g3,FB,Nat.reduceEqDiff]) (by simp only [g4,FB,Nat.reduceEqDiff]) (by simp only [g10,FB,Nat.reduceEqDiff]) (by simp only [g11,FB,Nat.reduceEqDiff]) (by simp only [g12,FB,Nat.reduceEqDiff]) (by simp only [g13,FB,Nat.reduceEqDiff])
  | true=>
    cases wp with
    | false=>
      simp only [n59,r59,g0,g1,g2,g3,g4,g10,g11,g12,g13,g14,SB,Nat.reduceLT,callee,aOp,ne_eq,Nat.reduceEqDiff,aBin,aUn,if_true,if_false,reduceCtorEq,frame0,place,notTuple,Nat.reduceAdd,Nat.reduceLeDiff,resVal,dite_true,dite_false,Int.reduceEq,Int.reduceLT,Int.reduceLE]
      exact h3' _ hd hBl (by simp only [g0,FB,Nat.reduceEqDiff]) (by simp only [g1,FB,Nat.reduceEqDiff]) (by simp only [g2,FB,Nat.reduceEqDiff]) (by simp only [g3,FB,Nat.reduceEqDiff]) (by simp only [g4,FB,Nat.reduceEqDiff]) (by simp only [g10,FB,Nat.reduceEqDiff]) (by simp only [g11,FB,Nat.reduceEqDiff]) (by simp only [g12,FB,Nat.reduceEqDiff]) (by simp only [g13,FB,Nat.reduceEqDiff])
    | true=>
      have c2:¬(h:Int)=1:=fun q=>c1 ⟨rfl,rfl,by omega⟩
      simp only [n59,r59,g0,g1,g2,g3,g4,g10,g11,g12,g13,g14,c2,SB,Nat.reduceLT,callee,aOp,ne_eq,Nat.reduceEqDiff,aBin,aUn,if_true,if_false,reduceCtorEq,frame0,place,notTuple,Nat.reduceAdd,Nat.reduceLeDiff,resVal,dite_true,dite_false,Int.reduceEq,Int.reduceLT,Int.reduceLE]
      exact h3' _ hd hBl (by simp only [g0,FB,Nat.reduceEqDiff]) (by simp only [g1,FB,Nat.reduceEqDiff]) (by simp only [g2,FB,Nat.reduceEqDiff]) (by simp only [g3,FB,Nat.reduceEqDiff]) (by simp only [g4,FB,Nat.reduceEqDiff]) (by simp only [g10,FB,Nat.reduceEqDiff]) (by simp only [g11,FB,Nat.reduceEqDiff]) (by simp only [g12,FB,Nat.reduceEqDiff]) (by simp only [g13,FB,Nat.reduceEqDiff])
theorem pdq1 [OB] {G X:Heap} {B lim cap n:Nat} {p:Option Addr} {c:Go.Scan.Ev→Go.Scan.Ev→Int} {cl:FuncId} {cs:List Value} (hp:p=some ⟨B,0,none⟩) (hB:B<G.length) (hl:lim≤B) (hn2:n<2 ^ 61) (hc:∀(mp:Bool) (lim:Nat) (x y:Go.Scan.Ev) (H:Heap) (Q:Value→Heap→Prop),CallR E mp lim cl (.agg (encE x).toArray::.agg (encE y).toArray::cs) H Q=Q (.int .i64 (c x y)) H) (hS:SWO (ltC c)) {d:Array Go.Scan.Ev} {a b lm m:Nat} {wb wp:Bool} {fr:Nat→Value} {L:List AItem} (hT:∀(a b lm:Nat) (wb wp:Bool) (d:Array Go.Scan.Ev) (X:Heap) (fr:Nat→Value),b-a<m→a≤b→b≤n→d.size=n→Below (ltC c) a b d→lm<2 ^ 60→fr 0=.slice p n cap→fr 1=.int .i64 (a:Int)→fr 2=.int .i64 (b:Int)→fr 3=.int .i64 (lm:Int)→fr 4=.func (.func cl) #[] cs.toArray→fr 10=.bool wb→fr 11=.bool wp→Ret E a59 lim L fr (DH encE G B d++X) (Done G B n c a b d X)) (hC:∀(a b lm:Nat) (d:Array Go.Scan.Ev) (X:Heap),b-a<m→a≤b→b≤n→d.size=n→Below (ltC c) a b d→lm<2 ^ 60→∃d' Y,d'.size=n∧PermIn a b d d'∧SortedIn (ltC c) a b d'∧∀Q,CallR E false lim 59 [.slice p n cap,.int .i64 (a:Int),.int .i64 (b:Int),.int .i64 (lm:Int),.func (.func cl) #[] cs.toArray] (DH encE G B d++X) Q=Q (.tuple #[]) (DH encE G B d'++(X++Y))) (hm:b-a≤m) (hd:d.size=n) (hb:b≤n) (hab:a+12<b) (hlm:lm<2 ^ 60) (hBl:Below (ltC c) a b d) (g0:fr 0=.slice p n cap) (g1:fr 1=.int .i64 (a:Int)) (g2:fr 2=.int .i64 (b:Int)) (g3:fr 3=.int .i64 (lm:Int)) (g4:fr 4=.func (.func cl) #[] cs.toArray) (g10:fr 10=.bool wb) (g11:fr 11=.bool wp) (g12:fr 12=.int .i64 ((b-a:Nat):Int)) :
  Ret E a59 lim (.code q1::.inBlock 1::L) fr (DH encE G B d++X) (Done G B n c a b d X):=by
 obtain ⟨v,h,s,v1,v2,hh,hcho⟩:=cho_ok (X:=X) (cap:=cap) (lim:=lim) hp hB hl hn2 hc hd hb hab
 by_cases c1:h=2
 ·subst c1
  have hr:=fun Q=>rev_ok (X:=X++[.cells false [.int .i64 (s:Int)]]) (cap:=cap) (a:=a) (b:=b) (Q:=Q) hp hB hl hn2 hc hd hb (by omega)
  have P2:=reverseRange_holds d a b (by omega) (by omega)
  generalize reverseRange d a b=d2 at hr P2
  have hd2:d2.size=n:=by rw [P2.1];exact hd
  have hB2:=hBl.perm (by omega) P2
  have h2:=fun fr=>pdq2 (X:=X++[.cells false [.int .i64 (s:Int)]]) (d:=d2) (fr:=fr) (a:=a) (b:=b) (v:=b-1-(v-a)) (h:=1) (lm:=lm) (wb:=wb) (wp:=wp) hp hB hl hn2 hc hS hT hC hm hd2 hb (by omega) hlm (by omega) hB2
  have hw1:IntKind.i64.wrap ((b:Int)-1)=((b-1:Nat):Int):=wrap_int (by omega) (by omega)
  have hw2:IntKind.i64.wrap ((v:Int)-(a:Int))=((v-a:Nat):Int):=wrap_int (by omega) (by omega)
  have hw3:IntKind.i64.wrap (((b-1:Nat):Int)-((v-a:Nat):Int))=((b-1-(v-a):Nat):Int):=wrap_int (by omega) (by omega)
  have hcho':∀Q,CallR E false lim 72 [.slice p n cap,.int .i64 (a:Int),.int .i64 (b:Int),.func (.func cl) #[] cs.toArray] (DH encE G B d++X) Q=Q (.tuple #[.int .i64 (v:Int),.int .i64 2]) (DH encE G B d++(X++[.cells false [.int .i64 (s:Int)]])):=hcho
  rw [Ret_code q1_eq];simp only [p6,p7,hdc,tlc,unb,q1,l59_1]
  simp only [n59,r59,g0,g1,g2,g3,g4,g10,g11,g12,hcho',hr,hw1,hw2,hw3,SB,Nat.reduceLT,callee,aOp,ne_eq,Nat.reduceEqDiff,aBin,aUn,if_true,if_false,reduceCtorEq,frame0,place,notTuple,Nat.reduceAdd,Nat.reduceLeDiff,resVal,dite_true,dite_false,Int.reduceEq,Int.reduceLT,Int.reduceLE]
  refine Ret.mono (h2 _ (by simp only [g0,FB,Nat.reduceEqDiff]) (by simp only [g1,FB,Nat.reduceEqDiff]) (by simp only [g2,FB,Nat.reduceEqDiff]) (by simp only [g3,FB,Nat.reduceEqDiff]) (by simp only [g4,FB,Nat.reduceEqDiff]) (by simp only [g10,FB,Nat.reduceEqDiff]) (by simp only [g11,FB,Nat.reduceEqDiff]) (by simp only [g12,FB,Nat.reduceEqDiff]) (by simp only [FB,Nat.reduceEqDiff]) (by simp only [upd_same,upd_ne,ne_eq,Nat.reduceEqDiff,not_false_eq_true];rfl)) fun v' H' hq=>?_
  exact Done.perm hq P2
 ·have c2:¬(h:Int)=2:=by omega
  have h2:=fun fr=>pdq2 (X:=X++[.cells false [.int .i64 (s:Int)]]) (d:=d) (fr:=fr) (a:=a) (b:=b) (v:=v) (h:=h) (lm:=lm) (wb:=wb) (wp:=wp) hp hB hl hn2 hc hS hT hC hm hd hb (by omega) hlm (by omega) hBl
  rw [Ret_code q1_eq];simp only [p6,p7,hdc,tlc,unb,q1,l59_1]
  simp only [n59,r59,g0,g1,g2,g3,g4,g10,g11,g12,hcho,c2,SB,Nat.reduceLT,callee,aOp,ne_eq,Nat.reduceEqDiff,aBin,aUn,if_true,if_false,reduceCtorEq,frame0,place,notTuple,Nat.reduceAdd,Nat.reduceLeDiff,resVal,dite_true,dite_false,Int.reduceEq,Int.reduceLT,Int.reduceLE]
  refine Ret.mono (h2 _ (by simp only [g0,FB,Nat.reduceEqDiff]) (by simp only [g1,FB,Nat.reduceEqDiff]) (by simp only [g2,FB,Nat.reduceEqDiff]) (by simp only [g3,FB,Nat.reduceEqDiff]) (by simp only [g4,FB,Nat.reduceEqDiff]) (by simp only [g10,FB,Nat.reduceEqDiff]) (by simp only [g11,FB,Nat.reduceEqDiff]) (by simp only [g12,FB,Nat.reduceEqDiff]) (by simp only [FB,Nat.reduceEqDiff]) (by simp only [FB,Nat.reduceEqDiff])) fun v' H' hq=>?_
  exact Done.perm hq (permIn_refl _ _ _)
theorem pdq_loop [OB] {G X:Heap} {B lim cap n:Nat} {p:Option Addr} {c:Go.Scan.Ev→Go.Scan.Ev→Int} {cl:FuncId} {cs:List Value} (hp:p=some ⟨B,0,none⟩) (hB:B<G.length) (hl:lim≤B) (hn2:n<2 ^ 61) (hc:∀(mp:Bool) (lim:Nat) (x y:Go.Scan.Ev) (H:Heap) (Q:Value→Heap→Prop),CallR E mp lim cl (.agg (encE x).toArray::.agg (encE y).toArray::cs) H Q=Q (.int .i64 (c x y)) H) (hS:SWO (ltC c)) (hn3:n<65536):∀(m a b lm:Nat) (wb wp:Bool) (d:Array Go.Scan.Ev) (X:Heap) (fr:Nat→Value),b-a<m→a≤b→b≤n→d.size=n→Below (ltC c) a b d→lm<2 ^ 60→fr 0=.slice p n cap→fr 1=.int .i64 (a:Int)→fr 2=.int .i64 (b:Int)→fr 3=.int .i64 (lm:Int)→fr 4=.func (.func cl) #[] cs.toArray→fr 10=.bool wb→fr 11=.bool wp→
  Ret E a59 lim (.inLoop l59_1::.inBlock 0::[]) fr (DH encE G B d++X) (Done G B n c a b d X):=by
 intro m
 induction m with
 | zero=>intro a b lm wb wp d X fr h;omega
 | succ m ih=>
   intro a b lm wb wp d X fr hlt hab hb hd hBl hlm g0 g1 g2 g3 g4 g10 g11
   have hC:∀(a b lm:Nat) (d:Array Go.Scan.Ev) (X:Heap),b-a<m→a≤b→b≤n→d.size=n→Below (ltC c) a b d→lm<2 ^ 60→∃d' Y,d'.size=n∧PermIn a b d d'∧SortedIn (ltC c) a b d'∧∀Q,CallR E false lim 59 [.slice p n cap,.int .i64 (a:Int),.int .i64 (b:Int),.int .i64 (lm:Int),.func (.func cl) #[] cs.toArray] (DH encE G B d++X) Q=Q (.tuple #[]) (DH encE G B d'++(X++Y)):=by
    intro a b lm d X k1 k2 k3 k4 k5 k6
    have key:CallR E false lim 59 [.slice p n cap,.int .i64 (a:Int),.int .i64 (b:Int),.int .i64 (lm:Int),.func (.func cl) #[] cs.toArray] (DH encE G B d++X) (Done G B n c a b d X):=by
     rw [CallR_run (E:=E) (g:=59) (af:=a59) (by simp [E,orc]) e59 rfl rfl]
     rw [b59,c59]
     simp only [n59,r59,SB,Nat.reduceLT,callee,aOp,ne_eq,Nat.reduceEqDiff,aBin,aUn,if_true,if_false,reduceCtorEq,frame0,place,notTuple,Nat.reduceAdd,Nat.reduceLeDiff,resVal,dite_true,dite_false,Int.reduceEq,Int.reduceLT,Int.reduceLE]
     rw [Ret_loop,←Ret_inLoop]
     exact ih a b lm true true d X _ k1 k2 k3 k4 k5 k6 (by simp only [FB,Nat.reduceEqDiff]) (by simp only [FB,Nat.reduceEqDiff]) (by simp only [FB,Nat.reduceEqDiff]) (by simp only [FB,Nat.reduceEqDiff]) (by simp only [FB,Nat.reduceEqDiff]) (by simp only [FB,Nat.reduceEqDiff]) (by simp only [FB,Nat.reduceEqDiff])
    obtain ⟨k,v,H',hx,d',Y,h1,h2,h3,rfl,rfl⟩:=CallR.one key
    exact ⟨d',Y,h1,h2,h3,fun Q=>CallR.det hx⟩
   have h1:=fun d X fr lm hd hBl hab hlm=>pdq1 (X:=X) (d:=d) (fr:=fr) (a:=a) (b:=b) (lm:=lm) (wb:=wb) (wp:=wp) (m:=m) (L:=.inLoop l59_1::.inBlock 0::[]) hp hB hl hn2 hc hS ih hC (by omega) hd hb hab hlm hBl
   rw [Ret_inLoop]
   generalize (AItem.inLoop l59_1::[AItem.inBlock 0])=L at h1
   rw [Ret_code body_eq];simp only [p1,p2,p3,p4,hdc,tlc,unb,l59_1]
   have hw1:IntKind.i64.wrap ((b:Int)-(a:Int))=((b-a:Nat):Int):=wrap_int (by omega) (by omega)
   by_cases c1:b-a≤12
   ·have c1':((b-a:Nat):Int)≤12:=by omega
    have hi:=fun Q=>ins_ok (X:=X) (cap:=cap) (a:=a) (b:=b) (Q:=Q) hp hB hl hn2 hc hd hb hab
    obtain ⟨P,S⟩:=insertionSort_holds hS d a b hab (by omega)
    simp only [n59,r59,g0,g1,g2,g3,g4,g10,g11,hw1,c1',hi,SB,Nat.reduceLT,callee,aOp,ne_eq,Nat.reduceEqDiff,aBin,aUn,if_true,if_false,reduceCtorEq,frame0,place,notTuple,Nat.reduceAdd,Nat.reduceLeDiff,resVal,dite_true,dite_false,Int.reduceEq,Int.reduceLT,Int.reduceLE]
    exact ⟨_,[],by rw [P.1];exact hd,P,S,rfl,by simp⟩
   have c1':¬((b-a:Nat):Int)≤12:=by omega
   by_cases c2:lm=0
   ·have c2':(lm:Int)=0:=by omega
    have hi:=fun Q=>heap_ok (X:=X) (cap:=cap) (a:=a) (b:=b) (Q:=Q) hp hB hl hn2 hc hd hb hab
    obtain ⟨P,S⟩:=heapSort_holds hS d a b hab (by omega)
    simp only [n59,r59,g0,g1,g2,g3,g4,g10,g11,hw1,c1',c2',hi,SB,Nat.reduceLT,callee,aOp,ne_eq,Nat.reduceEqDiff,aBin,aUn,if_true,if_false,reduceCtorEq,frame0,place,notTuple,Nat.reduceAdd,Nat.reduceLeDiff,resVal,dite_true,dite_false,Int.reduceEq,Int.reduceLT,Int.reduceLE]
    exact ⟨_,[],by rw [P.1];exact hd,P,S,rfl,by simp⟩
   have c2':¬(lm:Int)=0:=by omega
   cases wb with
   | true=>
     simp only [n59,r59,g0,g1,g2,g3,g4,g10,g11,hw1,c1',c2',SB,Nat.reduceLT,callee,aOp,ne_eq,Nat.reduceEqDiff,aBin,aUn,if_true,if_false,reduceCtorEq,frame0,place,notTuple,Nat.reduceAdd,Nat.reduceLeDiff,resVal,dite_true,dite_false,Int.reduceEq,Int.reduceLT,Int.reduceLE]
     exact h1 d X _ lm hd hBl (by omega) hlm (by simp only [g0,FB,Nat.reduceEqDiff]) (by simp only [g1,FB,Nat.reduceEqDiff]) (by simp only [g2,FB,Nat.reduceEqDiff]) (by simp only [g3,FB,Nat.reduceEqDiff]) (by simp only [g4,FB,Nat.reduceEqDiff]) (by simp only [g10,FB,Nat.reduceEqDiff]) (by simp only [g11,FB,Nat.reduceEqDiff]) (by simp only [FB,Nat.reduceEqDiff])
   | false=>
     obtain ⟨d1,s,hd1,P1,hbr⟩:=brk_ok (X:=X) (cap:=cap) (lim:=lim) hp hB hl hn2 hc hd hb (show a+12<b by omega) hn3
     have hw2:IntKind.i64.wrap ((lm:Int)-1)=((lm-1:Nat):Int):=wrap_int (by omega) (by omega)
     simp only [n59,r59,g0,g1,g2,g3,g4,g10,g11,hw1,c1',c2',hbr,hw2,SB,Nat.reduceLT,callee,aOp,ne_eq,Nat.reduceEqDiff,aBin,aUn,if_true,if_false,reduceCtorEq,frame0,place,notTuple,Nat.reduceAdd,Nat.reduceLeDiff,resVal,dite_true,dite_false,Int.reduceEq,Int.reduceLT,Int.reduceLE]
     refine Ret.mono (h1 d1 (X++[.cells false [.int .u64 s]]) _ (lm-1) hd1 (hBl.perm (by omega) P1) (by omega) (by omega) (by simp only [g0,FB,Nat.reduceEqDiff]) (by simp only [g1,FB,Nat.reduceEqDiff]) (by simp only [g2,FB,Nat.reduceEqDiff]) (by simp only [FB,Nat.reduceEqDiff]) (by simp only [g4,FB,Nat.reduceEqDiff]) (by simp only [g10,FB,Nat.reduceEqDiff]) (by simp only [g11,FB,Nat.reduceEqDiff]) (by simp only [FB,Nat.reduceEqDiff])) fun v' H' hq=>?_
     exact Done.perm hq P1
theorem len0_ok [OB] {mp:Bool} {lim:Nat} {H:Heap} {Q:Value→Heap→Prop}:CallR E mp lim 60 [.int .u64 0] H Q=Q (.int .i64 0) H:=by
 have key:∀(mp:Bool) (lim:Nat) (H:Heap) (Q:Value→Heap→Prop),CallR E mp lim 78 [.int .u64 0] H Q=Q (.int .i64 0) H:=by
  intro mp lim H Q
  refine pc (by decide) e78 rfl rfl ?_
  rw [b78,c78]
  have w2:IntKind.u8.wrap 0=0:=by decide
  have w3:IntKind.i64.wrap 0=0:=by decide
  simp only [n78,r78,w2,w3,Int.toNat_zero,List.getElem?_cons_zero,Option.map_some,UInt8.toNat_zero,UInt8.toNat_ofNat,Nat.reduceMod,Nat.reducePow,Int.cast_ofNat_Int,Int.add_zero,SB,Nat.reduceLT,callee,aOp,ne_eq,Nat.reduceEqDiff,aBin,aUn,if_true,if_false,reduceCtorEq,frame0,place,notTuple,Nat.reduceAdd,Nat.reduceLeDiff,resVal,dite_true,dite_false,Int.reduceEq,Int.reduceLT,Int.reduceLE]
 refine pc (by decide) e60 rfl rfl ?_
 rw [b60,c60]
 simp only [n60,r60,key,SB,Nat.reduceLT,callee,aOp,ne_eq,Nat.reduceEqDiff,aBin,aUn,if_true,if_false,reduceCtorEq,frame0,place,notTuple,Nat.reduceAdd,Nat.reduceLeDiff,resVal,dite_true,dite_false,Int.reduceEq,Int.reduceLT,Int.reduceLE]
theorem pdq_call [OB] {G X:Heap} {B lim cap n:Nat} {p:Option Addr} {c:Go.Scan.Ev→Go.Scan.Ev→Int} {cl:FuncId} {cs:List Value} (hp:p=some ⟨B,0,none⟩) (hB:B<G.length) (hl:lim≤B) (hn2:n<2 ^ 61) (hc:∀(mp:Bool) (lim:Nat) (x y:Go.Scan.Ev) (H:Heap) (Q:Value→Heap→Prop),CallR E mp lim cl (.agg (encE x).toArray::.agg (encE y).toArray::cs) H Q=Q (.int .i64 (c x y)) H) (hS:SWO (ltC c)) (hn3:n<65536) {d:Array Go.Scan.Ev} {lm:Nat} (hd:d.size=n) (hlm:lm<2 ^ 60) :
  ∃d' Y,d'.size=n∧PermIn 0 n d d'∧SortedIn (ltC c) 0 n d'∧∀Q,CallR E false lim 59 [.slice p n cap,.int .i64 0,.int .i64 (n:Int),.int .i64 (lm:Int),.func (.func cl) #[] cs.toArray] (DH encE G B d++X) Q=Q (.tuple #[]) (DH encE G B d'++(X++Y)):=by
 have hBl:Below (ltC c) 0 n d:=by simp [Below]
 have key:CallR E false lim 59 [.slice p n cap,.int .i64 0,.int .i64 (n:Int),.int .i64 (lm:Int),.func (.func cl) #[] cs.toArray] (DH encE G B d++X) (Done G B n c 0 n d X):=by
  rw [CallR_run (E:=E) (g:=59) (af:=a59) (by simp [E,orc]) e59 rfl rfl]
  rw [b59,c59]
  simp only [n59,r59,SB,Nat.reduceLT,callee,aOp,ne_eq,Nat.reduceEqDiff,aBin,aUn,if_true,if_false,reduceCtorEq,frame0,place,notTuple,Nat.reduceAdd,Nat.reduceLeDiff,resVal,dite_true,dite_false,Int.reduceEq,Int.reduceLT,Int.reduceLE]
  rw [Ret_loop,←Ret_inLoop]
  exact pdq_loop (X:=X) (cap:=cap) hp hB hl hn2 hc hS hn3 (n+1) 0 n lm true true d X _ (by omega) (by omega) (by omega) hd hBl hlm (by simp only [FB,Nat.reduceEqDiff]) (by simp only [Int.cast_ofNat_Int,FB,Nat.reduceEqDiff]) (by simp only [FB,Nat.reduceEqDiff]) (by simp only [FB,Nat.reduceEqDiff]) (by simp only [FB,Nat.reduceEqDiff]) (by simp only [FB,Nat.reduceEqDiff]) (by simp only [FB,Nat.reduceEqDiff])
 obtain ⟨k,v,H',hx,d',Y,h1,h2,h3,rfl,rfl⟩:=CallR.one key
 exact ⟨d',Y,h1,h2,h3,fun Q=>CallR.det hx⟩
theorem sort_ok [OB] {G X:Heap} {B lim cap n:Nat} {p:Option Addr} {c:Go.Scan.Ev→Go.Scan.Ev→Int} {cl:FuncId} {cs:List Value} (hp:p=some ⟨B,0,none⟩) (hB:B<G.length) (hl:lim≤B) (hn2:n<2 ^ 61) (hc:∀(mp:Bool) (lim:Nat) (x y:Go.Scan.Ev) (H:Heap) (Q:Value→Heap→Prop),CallR E mp lim cl (.agg (encE x).toArray::.agg (encE y).toArray::cs) H Q=Q (.int .i64 (c x y)) H) (hS:SWO (ltC c)) (hn3:n<65536) {d:Array Go.Scan.Ev} (hd:d.size=n) :
  ∃d' Y,d'.size=n∧PermIn 0 n d d'∧SortedIn (ltC c) 0 n d'∧∀Q,CallR E false lim 47 [.slice p n cap,.func (.func cl) #[] cs.toArray] (DH encE G B d++X) Q=Q (.tuple #[]) (DH encE G B d'++(X++Y)):=by
 have key:CallR E false lim 47 [.slice p n cap,.func (.func cl) #[] cs.toArray] (DH encE G B d++X) (Done G B n c 0 n d X):=by
  rw [CallR_run (E:=E) (g:=47) (af:=a47) (by simp [E,orc]) e47 rfl rfl]
  rw [b47,c47]
  have w1:IntKind.u64.wrap (n:Int)=(n:Int):=by rw [wrap64];omega
  by_cases h0:n=0
  ·subst h0
   obtain ⟨d',Y,k1,k2,k3,k4⟩:=pdq_call (X:=X) (lm:=0) (cap:=cap) hp hB hl hn2 hc hS hn3 hd (by omega)
   have k4':∀Q,CallR E false lim 59 [.slice p 0 cap,.int .i64 0,.int .i64 0,.int .i64 0,.func (.func cl) #[] cs.toArray] (DH encE G B d++X) Q=Q (.tuple #[]) (DH encE G B d'++(X++Y)):=k4
   have w0:IntKind.u64.wrap 0=0:=by decide
   simp only [n47,r47,w0,len0_ok,k4',SB,Nat.reduceLT,callee,aOp,ne_eq,Nat.reduceEqDiff,aBin,aUn,if_true,if_false,reduceCtorEq,frame0,place,notTuple,Nat.reduceAdd,Nat.reduceLeDiff,resVal,dite_true,dite_false,Int.reduceEq,Int.reduceLT,Int.reduceLE]
   exact ⟨_,_,k1,k2,k3,rfl,rfl⟩
  ·obtain ⟨L,l1,l2,l3,l4⟩:=len_ok (x:=n) hn3 (by omega)
   obtain ⟨d',Y,k1,k2,k3,k4⟩:=pdq_call (X:=X) (lm:=L) (cap:=cap) hp hB hl hn2 hc hS hn3 hd (by omega)
   simp only [n47,r47,w1,l4,k4,SB,Nat.reduceLT,callee,aOp,ne_eq,Nat.reduceEqDiff,aBin,aUn,if_true,if_false,reduceCtorEq,frame0,place,notTuple,Nat.reduceAdd,Nat.reduceLeDiff,resVal,dite_true,dite_false,Int.reduceEq,Int.reduceLT,Int.reduceLE]
   exact ⟨_,_,k1,k2,k3,rfl,rfl⟩
 obtain ⟨k,v,H',hx,d',Y,h1,h2,h3,rfl,rfl⟩:=CallR.one key
 exact ⟨d',Y,h1,h2,h3,fun Q=>CallR.det hx⟩
theorem sort_nil [OB] {lim cap:Nat} {p:Option Addr} {cl:FuncId} {cs:List Value} {H:Heap} {Q:Value→Heap→Prop}:CallR E false lim 47 [.slice p 0 cap,.func (.func cl) #[] cs.toArray] H Q=Q (.tuple #[]) H:=by
 have hi:∀Q,CallR E false lim 69 [.slice p 0 cap,.int .i64 0,.int .i64 0,.func (.func cl) #[] cs.toArray] H Q=Q (.tuple #[]) H:=by
  intro Q
  refine runs (by decide) e69 rfl ?_
  rw [b69,c69]
  have w1:IntKind.i64.wrap 1=1:=by decide
  simp only [n69,r69,w1,Int.zero_add,Int.reduceLT,decide_false,SB,Nat.reduceLT,callee,aOp,ne_eq,Nat.reduceEqDiff,aBin,aUn,if_true,if_false,reduceCtorEq,frame0,place,notTuple,Nat.reduceAdd,Nat.reduceLeDiff,resVal,dite_true,dite_false,Int.reduceEq,Int.reduceLT,Int.reduceLE]
  rw [Ret_loop,Ret_code l69_2.eq_1]
  simp only [n69,r69,SB,Nat.reduceLT,callee,aOp,ne_eq,Nat.reduceEqDiff,aBin,aUn,if_true,if_false,reduceCtorEq,frame0,place,notTuple,Nat.reduceAdd,Nat.reduceLeDiff,resVal,dite_true,dite_false,Int.reduceEq,Int.reduceLT,Int.reduceLE]
 have hq:∀Q,CallR E false lim 59 [.slice p 0 cap,.int .i64 0,.int .i64 0,.int .i64 0,.func (.func cl) #[] cs.toArray] H Q=Q (.tuple #[]) H:=by
  intro Q
  refine runs (by decide) e59 rfl ?_
  rw [b59,c59]
  simp only [n59,r59,SB,Nat.reduceLT,callee,aOp,ne_eq,Nat.reduceEqDiff,aBin,aUn,if_true,if_false,reduceCtorEq,frame0,place,notTuple,Nat.reduceAdd,Nat.reduceLeDiff,resVal,dite_true,dite_false,Int.reduceEq,Int.reduceLT,Int.reduceLE]
  rw [Ret_loop,Ret_code body_eq]
  simp only [p1,p2,hdc,tlc,unb,l59_1]
  have w1:IntKind.i64.wrap 0=0:=by decide
  simp only [n59,r59,w1,hi,Int.sub_self,SB,Nat.reduceLT,callee,aOp,ne_eq,Nat.reduceEqDiff,aBin,aUn,if_true,if_false,reduceCtorEq,frame0,place,notTuple,Nat.reduceAdd,Nat.reduceLeDiff,resVal,dite_true,dite_false,Int.reduceEq,Int.reduceLT,Int.reduceLE]
 refine runs (by decide) e47 rfl ?_
 rw [b47,c47]
 have w0:IntKind.u64.wrap 0=0:=by decide
 simp only [n47,r47,w0,len0_ok,hq,SB,Nat.reduceLT,callee,aOp,ne_eq,Nat.reduceEqDiff,aBin,aUn,if_true,if_false,reduceCtorEq,frame0,place,notTuple,Nat.reduceAdd,Nat.reduceLeDiff,resVal,dite_true,dite_false,Int.reduceEq,Int.reduceLT,Int.reduceLE]
end Go.Proofs.Ytkppjkkkdpcgiaa.Fn.SE

namespace Go.Proofs.Ytkppjkkkdpcgiaa.Fn.SM
open Go.AM Go.AM.Sym Go.Sort
set_option maxRecDepth 100000
set_option linter.unusedVariables false
set_option linter.unusedSimpArgs false
set_option maxHeartbeats 4000000
theorem runs [OB] {g:FuncId} {af:AFunc} {lim:Nat} {as:List Value} {H H':Heap} {v:Value} {Q:Value→Heap→Prop} (h:g≠11) (ht:tr g=some af) (hp:pf g=false) (hr:Ret E af lim [.code af.body] (frame0 as) H fun v' H1=>v'=v∧H1=H'):CallR E false lim g as H Q=Q v H':=by
 refine CallR.eq ?_
 rw [CallR_run (E:=E) (by simp [E,orc,h]) ht hp rfl]
 exact hr
def ltC {α:Type} (c:α→α→Int) (x y:α):Bool:=decide (c x y<0)
theorem ins_ok [OB] {G X:Heap} {B lim cap n:Nat} {p:Option Addr} {c:Go.Scan.Mk→Go.Scan.Mk→Int} {cl:FuncId} {cs:List Value} {Q:Value→Heap→Prop} (hp:p=some ⟨B,0,none⟩) (hB:B<G.length) (hl:lim≤B) (hn2:n<2 ^ 61) (hc:∀(mp:Bool) (lim:Nat) (x y:Go.Scan.Mk) (H:Heap) (Q:Value→Heap→Prop),CallR E mp lim cl (.agg (encK x).toArray::.agg (encK y).toArray::cs) H Q=Q (.int .i64 (c x y)) H) {d:Array Go.Scan.Mk} {a b:Nat} (hd:d.size=n) (hb:b≤n) (hab:a≤b) :
  CallR E false lim 87 [.slice p n cap,.int .i64 (a:Int),.int .i64 (b:Int),.func (.func cl) #[] cs.toArray] (DH encK G B d++X) Q=Q (.tuple #[]) (DH encK G B (insertionSort (ltC c) d a b)++X):=by
 refine runs (by decide) e87 rfl ?_
 rw [b87,c87]
 have hw0:IntKind.i64.wrap ((a:Int)+1)=((a+1:Nat):Int):=wrap_nat (by omega)
 simp only [n87,r87,hw0,SB,Nat.reduceLT,callee,aOp,ne_eq,Nat.reduceEqDiff,aBin,aUn,if_true,if_false,reduceCtorEq,frame0,place,notTuple,Nat.reduceAdd,Nat.reduceLeDiff,resVal,dite_true,dite_false,Int.reduceEq,Int.reduceLT,Int.reduceLE]
 refine Ret_rounds (S:=Nat×Array Go.Scan.Mk) (fun s=>b+1-s.1) (fun s fr H=>a≤s.1∧s.1≤b+1∧fr 0=.slice p n cap∧fr 1=.int .i64 (a:Int)∧fr 2=.int .i64 (b:Int)∧fr 3=.func (.func cl) #[] cs.toArray∧fr 8=.int .i64 (s.1:Int)∧
  H=DH encK G B s.2++X∧s.2.size=n∧insertionSort (ltC c) d a b=insOuter (ltC c) a b s.1 s.2) (a+1,d) ⟨by simp,by simp;omega,(by simp only [FB,Nat.reduceEqDiff]),(by simp only [FB,Nat.reduceEqDiff]),(by simp only [FB,Nat.reduceEqDiff]),(by simp only [FB,Nat.reduceEqDiff]),(by simp only [FB,Nat.reduceEqDiff]),rfl,hd,rfl⟩ ?_
 rintro ⟨i,d1⟩ fr H ⟨h1,h2,g0,g1,g2,g3,g8,rfl,hd1,he⟩ hN
 simp only at h1 h2 g8 hd1 he
 rw [Ret_code l87_2.eq_1]
 unfold insOuter at he
 by_cases hib:i<b
 ·rw [if_pos hib] at he
  simp only [n87,r87,g0,g1,g2,g3,g8,hib,SB,Nat.reduceLT,callee,aOp,ne_eq,Nat.reduceEqDiff,aBin,aUn,if_true,if_false,reduceCtorEq,frame0,place,notTuple,Nat.reduceAdd,Nat.reduceLeDiff,resVal,dite_true,dite_false,Int.reduceEq,Int.reduceLT,Int.reduceLE]
  refine Ret_rounds (S:=Nat×Array Go.Scan.Mk) (fun s=>s.1) (fun s fr H=>s.1≤i∧fr 0=.slice p n cap∧fr 1=.int .i64 (a:Int)∧fr 2=.int .i64 (b:Int)∧fr 3=.func (.func cl) #[] cs.toArray∧fr 8=.int .i64 (i:Int)∧fr 9=.int .i64 (s.1:Int)∧
   H=DH encK G B s.2++X∧s.2.size=n∧insInner (ltC c) a i d1=insInner (ltC c) a s.1 s.2) (i,d1) ⟨Nat.le_refl _,(by simp only [g0,FB,Nat.reduceEqDiff]),(by simp only [g1,FB,Nat.reduceEqDiff]),(by simp only [g2,FB,Nat.reduceEqDiff]),(by simp only [g3,FB,Nat.reduceEqDiff]),(by simp only [g8,FB,Nat.reduceEqDiff]),(by simp only [FB,Nat.reduceEqDiff]),by simp,hd1,rfl⟩ ?_
  rintro ⟨j,d2⟩ fr2 H2 ⟨k1,q0,q1,q2,q3,q8,q9,rfl,hd2,hi⟩ hM
  simp only at k1 q9 hd2 hi
  rw [Ret_code l87_1.eq_1]
  have hwi:IntKind.i64.wrap ((i:Int)+1)=((i+1:Nat):Int):=wrap_nat (by omega)
  by_cases haj:a<j
  ·obtain ⟨j,rfl⟩:∃j',j=j'+1:=⟨j-1,by omega⟩
   have hwj:IntKind.i64.wrap (((j+1:Nat):Int)-1)=(j:Int):=wrap_pred (n:=j+1) (by omega) (by omega)
   have ld:=fun (X:Heap) (d:Array Go.Scan.Mk) (hd:d.size=n)=>DH_ld (X:=X) (d:=d) (i:=j) hp hB encK_len (by omega)
   have ld1:=fun (X:Heap) (d:Array Go.Scan.Mk) (hd:d.size=n)=>DH_ld (X:=X) (d:=d) (i:=j+1) hp hB encK_len (by omega)
   have st:=fun (X:Heap) (d:Array Go.Scan.Mk) (hd:d.size=n) (y:Go.Scan.Mk)=>DH_st (X:=X) (d:=d) (i:=j) (y:=y) hp hB hl encK_len (by omega)
   have st1:=fun (X:Heap) (d:Array Go.Scan.Mk) (hd:d.size=n) (y:Go.Scan.Mk)=>DH_st (X:=X) (d:=d) (i:=j+1) (y:=y) hp hB hl encK_len (by omega)
   have ix:=fun c (k:IntKind) (H:Heap)=>DH_idx (e:=3) (i:=j) (n:=n) (c:=c) (k:=k) (H:=H) hp (by omega)
   have ix1:=fun c (k:IntKind) (H:Heap)=>DH_idx (e:=3) (i:=j+1) (n:=n) (c:=c) (k:=k) (H:=H) hp (by omega)
   rw [insInner] at hi
   by_cases hlt:ltC c d2[j+1]! d2[j]! = true
   ·have hlt':c d2[j+1]! d2[j]!<0:=by simpa [ltC] using hlt
    simp only [n87,r87,q0,q1,q2,q3,q8,q9,haj,hwj,ld,ld1,st,st1,ix,ix1,hd2,hc,hlt',Array.size_setIfInBounds,encK_len,SB,Nat.reduceLT,callee,aOp,ne_eq,Nat.reduceEqDiff,aBin,aUn,if_true,if_false,reduceCtorEq,frame0,place,notTuple,Nat.reduceAdd,Nat.reduceLeDiff,resVal,dite_true,dite_false,Int.reduceEq,Int.reduceLT,Int.reduceLE]
    refine hM (j,swp d2 (j+1) j) _ _ ⟨by simp only;omega,(by simp only [q0,FB,Nat.reduceEqDiff]),(by simp only [q1,FB,Nat.reduceEqDiff]),(by simp only [q2,FB,Nat.reduceEqDiff]),(by simp only [q3,FB,Nat.reduceEqDiff]),(by simp only [q8,FB,Nat.reduceEqDiff]),(by simp only [FB,Nat.reduceEqDiff]),by simp [swp],by simp [swp,hd2], ?_⟩ (by simp only;omega)
    rw [hi];simp [haj,hlt]
   ·have hlt':¬c d2[j+1]! d2[j]!<0:=by simpa [ltC] using hlt
    simp only [n87,r87,q0,q1,q2,q3,q8,q9,haj,hwj,ld,ld1,st,st1,ix,ix1,hd2,hc,hlt',hwi,SB,Nat.reduceLT,callee,aOp,ne_eq,Nat.reduceEqDiff,aBin,aUn,if_true,if_false,reduceCtorEq,frame0,place,notTuple,Nat.reduceAdd,Nat.reduceLeDiff,resVal,dite_true,dite_false,Int.reduceEq,Int.reduceLT,Int.reduceLE]
    refine hN (i+1,d2) _ _ ⟨by simp only;omega,by simp only;omega,(by simp only [q0,FB,Nat.reduceEqDiff]),(by simp only [q1,FB,Nat.reduceEqDiff]),(by simp only [q2,FB,Nat.reduceEqDiff]),(by simp only [q3,FB,Nat.reduceEqDiff]),(by simp only [FB,Nat.reduceEqDiff]),by simp,hd2, ?_⟩ (by simp only;omega)
    rw [he,hi];simp [haj,hlt]
  ·have haj':¬(a:Int)<(j:Int):=by omega
   simp only [n87,r87,q0,q1,q2,q3,q8,q9,haj,hwi,SB,Nat.reduceLT,callee,aOp,ne_eq,Nat.reduceEqDiff,aBin,aUn,if_true,if_false,reduceCtorEq,frame0,place,notTuple,Nat.reduceAdd,Nat.reduceLeDiff,resVal,dite_true,dite_false,Int.reduceEq,Int.reduceLT,Int.reduceLE]
   refine hN (i+1,d2) _ _ ⟨by simp only;omega,by simp only;omega,(by simp only [q0,FB,Nat.reduceEqDiff]),(by simp only [q1,FB,Nat.reduceEqDiff]),(by simp only [q2,FB,Nat.reduceEqDiff]),(by simp only [q3,FB,Nat.reduceEqDiff]),(by simp only [FB,Nat.reduceEqDiff]),by simp,hd2, ?_⟩ (by simp only;omega)
   rw [he,hi]
   cases j with
   | zero=>rfl
   | succ j=>rw [insInner];simp [show ¬j+1 > a by omega]
 ·rw [if_neg hib] at he
  simp only [n87,r87,g0,g1,g2,g3,g8,hib,he,SB,Nat.reduceLT,callee,aOp,ne_eq,Nat.reduceEqDiff,aBin,aUn,if_true,if_false,reduceCtorEq,frame0,place,notTuple,Nat.reduceAdd,Nat.reduceLeDiff,resVal,dite_true,dite_false,Int.reduceEq,Int.reduceLT,Int.reduceLE]
theorem rev_ok [OB] {G X:Heap} {B lim cap n:Nat} {p:Option Addr} {c:Go.Scan.Mk→Go.Scan.Mk→Int} {cl:FuncId} {cs:List Value} {Q:Value→Heap→Prop} (hp:p=some ⟨B,0,none⟩) (hB:B<G.length) (hl:lim≤B) (hn2:n<2 ^ 61) (hc:∀(mp:Bool) (lim:Nat) (x y:Go.Scan.Mk) (H:Heap) (Q:Value→Heap→Prop),CallR E mp lim cl (.agg (encK x).toArray::.agg (encK y).toArray::cs) H Q=Q (.int .i64 (c x y)) H) {d:Array Go.Scan.Mk} {a b:Nat} (hd:d.size=n) (hb:b≤n) (hab:a<b) :
  CallR E false lim 91 [.slice p n cap,.int .i64 (a:Int),.int .i64 (b:Int),.func (.func cl) #[] cs.toArray] (DH encK G B d++X) Q=Q (.tuple #[]) (DH encK G B (reverseRange d a b)++X):=by
 refine runs (by decide) e91 rfl ?_
 rw [b91,c91]
 have hw0:IntKind.i64.wrap ((b:Int)-1)=((b-1:Nat):Int):=wrap_pred (by omega) (by omega)
 simp only [n91,r91,hw0,SB,Nat.reduceLT,callee,aOp,ne_eq,Nat.reduceEqDiff,aBin,aUn,if_true,if_false,reduceCtorEq,frame0,place,notTuple,Nat.reduceAdd,Nat.reduceLeDiff,resVal,dite_true,dite_false,Int.reduceEq,Int.reduceLT,Int.reduceLE]
 have ld:=fun (i:Nat) (X:Heap) (d:Array Go.Scan.Mk) (hd:d.size=n) (hi:i<n)=>DH_ld (X:=X) (d:=d) (i:=i) hp hB encK_len (by omega);have st:=fun (i:Nat) (X:Heap) (d:Array Go.Scan.Mk) (hd:d.size=n) (hi:i<n) (y:Go.Scan.Mk)=>DH_st (X:=X) (d:=d) (i:=i) (y:=y) hp hB hl encK_len (by omega);have ix:=fun (i:Nat) (hi:i<n) c (k:IntKind) (H:Heap)=>DH_idx (e:=3) (i:=i) (n:=n) (c:=c) (k:=k) (H:=H) hp hi
 refine Ret_rounds (S:=(Nat×Nat)×Array Go.Scan.Mk) (fun s=>s.1.2+1-s.1.1) (fun s fr H=>s.1.1≤b∧s.1.2<b∧fr 0=.slice p n cap∧fr 8=.int .i64 (s.1.1:Int)∧fr 9=.int .i64 (s.1.2:Int)∧
  H=DH encK G B s.2++X∧s.2.size=n∧reverseRange d a b=reverseLoop s.1.1 s.1.2 s.2) ((a,b-1),d) ⟨by simp;omega,by simp;omega,(by simp only [FB,Nat.reduceEqDiff]),(by simp only [FB,Nat.reduceEqDiff]),(by simp only [FB,Nat.reduceEqDiff]),rfl,hd,rfl⟩ ?_
 rintro ⟨⟨i,j⟩,d1⟩ fr H ⟨h1,h2,g0,g8,g9,rfl,hd1,he⟩ hN
 simp only at h1 h2 g8 g9 hd1 he
 rw [Ret_code l91_1.eq_1]
 unfold reverseLoop at he
 by_cases hij:i<j
 ·rw [if_pos hij] at he
  have hw1:IntKind.i64.wrap ((i:Int)+1)=((i+1:Nat):Int):=wrap_nat (by omega)
  have hw2:IntKind.i64.wrap ((j:Int)-1)=((j-1:Nat):Int):=wrap_pred (by omega) (by omega)
  have hi:i<n:=by omega
  have hj:j<n:=by omega
  simp only [n91,r91,g0,g8,g9,hij,hw1,hw2,ld,st,ix,List.append_nil,Array.size_setIfInBounds,encK_len,hd1,hi,hj,SB,Nat.reduceLT,callee,aOp,ne_eq,Nat.reduceEqDiff,aBin,aUn,if_true,if_false,reduceCtorEq,frame0,place,notTuple,Nat.reduceAdd,Nat.reduceLeDiff,resVal,dite_true,dite_false,Int.reduceEq,Int.reduceLT,Int.reduceLE]
  refine hN ((i+1,j-1),swp d1 i j) _ _ ⟨by simp only;omega,by simp only;omega,(by simp only [g0,FB,Nat.reduceEqDiff]),(by simp only [FB,Nat.reduceEqDiff]),(by simp only [FB,Nat.reduceEqDiff]),by simp [swp],by simp [swp,hd1],he⟩ (by simp only;omega)
 ·rw [if_neg hij] at he
  simp only [n91,r91,g0,g8,g9,hij,he,SB,Nat.reduceLT,callee,aOp,ne_eq,Nat.reduceEqDiff,aBin,aUn,if_true,if_false,reduceCtorEq,frame0,place,notTuple,Nat.reduceAdd,Nat.reduceLeDiff,resVal,dite_true,dite_false,Int.reduceEq,Int.reduceLT,Int.reduceLE]
theorem sift_ok [OB] {G X:Heap} {B lim cap n:Nat} {p:Option Addr} {c:Go.Scan.Mk→Go.Scan.Mk→Int} {cl:FuncId} {cs:List Value} {Q:Value→Heap→Prop} (hp:p=some ⟨B,0,none⟩) (hB:B<G.length) (hl:lim≤B) (hn2:n<2 ^ 61) (hc:∀(mp:Bool) (lim:Nat) (x y:Go.Scan.Mk) (H:Heap) (Q:Value→Heap→Prop),CallR E mp lim cl (.agg (encK x).toArray::.agg (encK y).toArray::cs) H Q=Q (.int .i64 (c x y)) H) {d:Array Go.Scan.Mk} {lo hi first:Nat} (hd:d.size=n) (hb:first+hi≤n) (hlo:lo≤hi) :
  CallR E false lim 96 [.slice p n cap,.int .i64 (lo:Int),.int .i64 (hi:Int),.int .i64 (first:Int),.func (.func cl) #[] cs.toArray] (DH encK G B d++X) Q=Q (.tuple #[]) (DH encK G B (siftDown (ltC c) hi first lo d)++X):=by
 refine runs (by decide) e96 rfl ?_
 rw [b96,c96]
 generalize hT:siftDown (ltC c) hi first lo d=T
 simp only [n96,r96,SB,Nat.reduceLT,callee,aOp,ne_eq,Nat.reduceEqDiff,aBin,aUn,if_true,if_false,reduceCtorEq,frame0,place,notTuple,Nat.reduceAdd,Nat.reduceLeDiff,resVal,dite_true,dite_false,Int.reduceEq,Int.reduceLT,Int.reduceLE]
 have ld:=fun (i:Nat) (X:Heap) (d:Array Go.Scan.Mk) (hd:d.size=n) (hi:i<n)=>DH_ld (X:=X) (d:=d) (i:=i) hp hB encK_len (by omega);have st:=fun (i:Nat) (X:Heap) (d:Array Go.Scan.Mk) (hd:d.size=n) (hi:i<n) (y:Go.Scan.Mk)=>DH_st (X:=X) (d:=d) (i:=i) (y:=y) hp hB hl encK_len (by omega);have ix:=fun (i:Nat) (hi:i<n) c (k:IntKind) (H:Heap)=>DH_idx (e:=3) (i:=i) (n:=n) (c:=c) (k:=k) (H:=H) hp hi
 refine Ret_rounds (S:=Nat×Array Go.Scan.Mk) (fun s=>hi-s.1) (fun s fr H=>s.1≤hi∧fr 0=.slice p n cap∧fr 2=.int .i64 (hi:Int)∧fr 3=.int .i64 (first:Int)∧fr 4=.func (.func cl) #[] cs.toArray∧fr 10=.int .i64 (s.1:Int)∧
  H=DH encK G B s.2++X∧s.2.size=n∧T=siftDown (ltC c) hi first s.1 s.2) (lo,d) ⟨hlo,(by simp only [FB,Nat.reduceEqDiff]),(by simp only [FB,Nat.reduceEqDiff]),(by simp only [FB,Nat.reduceEqDiff]),(by simp only [FB,Nat.reduceEqDiff]),(by simp only [FB,Nat.reduceEqDiff]),rfl,hd,hT.symm⟩ ?_
 rintro ⟨r,d1⟩ fr H ⟨h1,g0,g2,g3,g4,g10,rfl,hd1,he⟩ hN
 simp only at h1 g10 hd1 he
 rw [Ret_code l96_1.eq_1]
 unfold siftDown at he
 have hw1:IntKind.i64.wrap (2*(r:Int))=((2*r:Nat):Int):=by rw [wrap_id (by omega) (by omega)];omega
 have hw2:IntKind.i64.wrap (((2*r:Nat):Int)+1)=((2*r+1:Nat):Int):=wrap_nat (by omega)
 have hw3:IntKind.i64.wrap (((2*r+1:Nat):Int)+1)=((2*r+2:Nat):Int):=wrap_nat (by omega)
 have hw4:IntKind.i64.wrap ((first:Int)+((2*r+1:Nat):Int))=((first+(2*r+1):Nat):Int):=by rw [wrap_id (by omega) (by omega)];omega
 have hw5:IntKind.i64.wrap (((first+(2*r+1):Nat):Int)+1)=((first+(2*r+2):Nat):Int):=wrap_nat (by omega)
 have hw6:IntKind.i64.wrap ((first:Int)+((2*r+2:Nat):Int))=((first+(2*r+2):Nat):Int):=by rw [wrap_id (by omega) (by omega)];omega
 have hw7:IntKind.i64.wrap ((first:Int)+(r:Int))=((first+r:Nat):Int):=by rw [wrap_id (by omega) (by omega)];omega
 by_cases c1:2*r+1≥hi
 ·rw [dif_pos c1] at he
  have c1':hi≤2*r+1:=c1
  simp only [n96,r96,g0,g2,g3,g4,g10,hw1,hw2,c1',he,SB,Nat.reduceLT,callee,aOp,ne_eq,Nat.reduceEqDiff,aBin,aUn,if_true,if_false,reduceCtorEq,frame0,place,notTuple,Nat.reduceAdd,Nat.reduceLeDiff,resVal,dite_true,dite_false,Int.reduceEq,Int.reduceLT,Int.reduceLE]
 ·rw [dif_neg c1] at he
  have c1':¬hi≤2*r+1:=c1
  have i1:first+(2*r+1)<n:=by omega
  have i2:first+r<n:=by omega
  by_cases c2:2*r+1+1<hi∧c d1[first+(2*r+1)]! d1[first+(2*r+2)]!<0
  ·obtain ⟨c2,c3⟩:=c2
   have i3:first+(2*r+2)<n:=by omega
   have c2':2*r+2<hi:=by omega
   rw [if_pos (by simp only [Bool.and_eq_true,decide_eq_true_eq,ltC];exact ⟨c2,by rw [show first+(2*r+1)+1=first+(2*r+2) by omega];exact c3⟩)] at he
   by_cases c4:c d1[first+r]! d1[first+(2*r+2)]!<0
   ·rw [if_neg (by simp [ltC,c4]),dif_pos c2'] at he
    simp only [n96,r96,g0,g2,g3,g4,g10,hw1,hw2,hw3,hw4,hw5,hw6,hw7,c1',c2',c3,c4,ld,st,ix,List.append_nil,Array.size_setIfInBounds,encK_len,hd1,i1,i2,i3,hc,SB,Nat.reduceLT,callee,aOp,ne_eq,Nat.reduceEqDiff,aBin,aUn,if_true,if_false,reduceCtorEq,frame0,place,notTuple,Nat.reduceAdd,Nat.reduceLeDiff,resVal,dite_true,dite_false,Int.reduceEq,Int.reduceLT,Int.reduceLE]
    refine hN (2*r+2,swp d1 (first+r) (first+(2*r+2))) _ _ ⟨by simp only;omega,(by simp only [g0,FB,Nat.reduceEqDiff]),(by simp only [g2,FB,Nat.reduceEqDiff]),(by simp only [g3,FB,Nat.reduceEqDiff]),(by simp only [g4,FB,Nat.reduceEqDiff]),(by simp only [FB,Nat.reduceEqDiff]),by simp [swp],by simp [swp,hd1],he⟩ (by simp only;omega)
   ·rw [if_pos (by simp [ltC,c4])] at he
    simp only [n96,r96,g0,g2,g3,g4,g10,hw1,hw2,hw3,hw4,hw5,hw6,hw7,c1',c2',c3,c4,ld,st,ix,List.append_nil,Array.size_setIfInBounds,encK_len,hd1,i1,i2,i3,hc,he,SB,Nat.reduceLT,callee,aOp,ne_eq,Nat.reduceEqDiff,aBin,aUn,if_true,if_false,reduceCtorEq,frame0,place,notTuple,Nat.reduceAdd,Nat.reduceLeDiff,resVal,dite_true,dite_false,Int.reduceEq,Int.reduceLT,Int.reduceLE]
  ·rw [if_neg (by simp only [Bool.and_eq_true,decide_eq_true_eq,ltC];rw [show first+(2*r+1)+1=first+(2*r+2) by omega];exact c2)] at he
   by_cases c4:c d1[first+r]! d1[first+(2*r+1)]!<0
   ·rw [if_neg (by simp [ltC,c4])] at he
    by_cases c5:2*r+2<hi
    ·have c3:¬c d1[first+(2*r+1)]! d1[first+(2*r+2)]!<0:=fun h=>c2 ⟨by omega,h⟩
     have i3:first+(2*r+2)<n:=by omega
     simp only [n96,r96,g0,g2,g3,g4,g10,hw1,hw2,hw3,hw4,hw5,hw6,hw7,c1',c5,c3,c4,ld,st,ix,List.append_nil,Array.size_setIfInBounds,encK_len,hd1,i1,i2,i3,hc,SB,Nat.reduceLT,callee,aOp,ne_eq,Nat.reduceEqDiff,aBin,aUn,if_true,if_false,reduceCtorEq,frame0,place,notTuple,Nat.reduceAdd,Nat.reduceLeDiff,resVal,dite_true,dite_false,Int.reduceEq,Int.reduceLT,Int.reduceLE]
     refine hN (2*r+1,swp d1 (first+r) (first+(2*r+1))) _ _ ⟨by simp only;omega,(by simp only [g0,FB,Nat.reduceEqDiff]),(by simp only [g2,FB,Nat.reduceEqDiff]),(by simp only [g3,FB,Nat.reduceEqDiff]),(by simp only [g4,FB,Nat.reduceEqDiff]),(by simp only [FB,Nat.reduceEqDiff]),by simp [swp],by simp [swp,hd1],he⟩ (by simp only;omega)
    ·simp only [n96,r96,g0,g2,g3,g4,g10,hw1,hw2,hw3,hw4,hw5,hw6,hw7,c1',c5,c4,ld,st,ix,List.append_nil,Array.size_setIfInBounds,encK_len,hd1,i1,i2,hc,SB,Nat.reduceLT,callee,aOp,ne_eq,Nat.reduceEqDiff,aBin,aUn,if_true,if_false,reduceCtorEq,frame0,place,notTuple,Nat.reduceAdd,Nat.reduceLeDiff,resVal,dite_true,dite_false,Int.reduceEq,Int.reduceLT,Int.reduceLE]
     refine hN (2*r+1,swp d1 (first+r) (first+(2*r+1))) _ _ ⟨by simp only;omega,(by simp only [g0,FB,Nat.reduceEqDiff]),(by simp only [g2,FB,Nat.reduceEqDiff]),(by simp only [g3,FB,Nat.reduceEqDiff]),(by simp only [g4,FB,Nat.reduceEqDiff]),(by simp only [FB,Nat.reduceEqDiff]),by simp [swp],by simp [swp,hd1],he⟩ (by simp only;omega)
   ·rw [if_pos (by simp [ltC,c4])] at he
    by_cases c5:2*r+2<hi
    ·have c3:¬c d1[first+(2*r+1)]! d1[first+(2*r+2)]!<0:=fun h=>c2 ⟨by omega,h⟩
     have i3:first+(2*r+2)<n:=by omega
     simp only [n96,r96,g0,g2,g3,g4,g10,hw1,hw2,hw3,hw4,hw5,hw6,hw7,c1',c5,c3,c4,ld,st,ix,List.append_nil,Array.size_setIfInBounds,encK_len,hd1,i1,i2,i3,hc,he,SB,Nat.reduceLT,callee,aOp,ne_eq,Nat.reduceEqDiff,aBin,aUn,if_true,if_false,reduceCtorEq,frame0,place,notTuple,Nat.reduceAdd,Nat.reduceLeDiff,resVal,dite_true,dite_false,Int.reduceEq,Int.reduceLT,Int.reduceLE]
    ·simp only [n96,r96,g0,g2,g3,g4,g10,hw1,hw2,hw3,hw4,hw5,hw6,hw7,c1',c5,c4,ld,st,ix,List.append_nil,Array.size_setIfInBounds,encK_len,hd1,i1,i2,hc,he,SB,Nat.reduceLT,callee,aOp,ne_eq,Nat.reduceEqDiff,aBin,aUn,if_true,if_false,reduceCtorEq,frame0,place,notTuple,Nat.reduceAdd,Nat.reduceLeDiff,resVal,dite_true,dite_false,Int.reduceEq,Int.reduceLT,Int.reduceLE]
theorem swp_sz {α:Type} [Inhabited α] {d:Array α} {i j:Nat}:(swp d i j).size=d.size:=by simp [swp]
theorem siftDown_sz {α:Type} [Inhabited α] {lt:α→α→Bool} {hi first:Nat}:∀(m r:Nat) (d:Array α),hi-r≤m→(siftDown lt hi first r d).size=d.size
 | 0,r,d,h=>by
   rw [siftDown,dif_pos (by omega)]
 | m+1,r,d,h=>by
   rw [siftDown]
   split
   ·rfl
   ·split
    ·split
     ·rfl
     ·split
      ·rw [siftDown_sz m _ _ (by omega),swp_sz]
      ·rfl
    ·split
     ·rfl
     ·rw [siftDown_sz m _ _ (by omega),swp_sz]
theorem heap_ok [OB] {G X:Heap} {B lim cap n:Nat} {p:Option Addr} {c:Go.Scan.Mk→Go.Scan.Mk→Int} {cl:FuncId} {cs:List Value} {Q:Value→Heap→Prop} (hp:p=some ⟨B,0,none⟩) (hB:B<G.length) (hl:lim≤B) (hn2:n<2 ^ 61) (hc:∀(mp:Bool) (lim:Nat) (x y:Go.Scan.Mk) (H:Heap) (Q:Value→Heap→Prop),CallR E mp lim cl (.agg (encK x).toArray::.agg (encK y).toArray::cs) H Q=Q (.int .i64 (c x y)) H) {d:Array Go.Scan.Mk} {a b:Nat} (hd:d.size=n) (hb:b≤n) (hab:a≤b) :
  CallR E false lim 88 [.slice p n cap,.int .i64 (a:Int),.int .i64 (b:Int),.func (.func cl) #[] cs.toArray] (DH encK G B d++X) Q=Q (.tuple #[]) (DH encK G B (heapSort (ltC c) d a b)++X):=by
 refine runs (by decide) e88 rfl ?_
 rw [b88,c88]
 obtain ⟨h,rfl⟩:∃h,b=a+h:=⟨b-a,by omega⟩
 have hw0:IntKind.i64.wrap (((a+h:Nat):Int)-(a:Int))=(h:Int):=by rw [wrap_id (by omega) (by omega)];omega
 have hw1:IntKind.i64.wrap ((h:Int)-1)=(h:Int)-1:=wrap_id (by omega) (by omega)
 have hw2:IntKind.i64.wrap (((h:Int)-1).tdiv 2)=(((h-1) / 2+1:Nat):Int)-1:=by
  rcases Nat.eq_zero_or_pos h with rfl | h0
  ·decide
  ·rw [Int.tdiv_eq_ediv_of_nonneg (by omega),wrap_id (by omega) (by omega)];omega
 generalize hT:heapSort (ltC c) d a (a+h)=T
 rw [heapSort,show a+h-a=h by omega] at hT
 have ld:=fun (i:Nat) (X:Heap) (d:Array Go.Scan.Mk) (hd:d.size=n) (hi:i<n)=>DH_ld (X:=X) (d:=d) (i:=i) hp hB encK_len (by omega);have st:=fun (i:Nat) (X:Heap) (d:Array Go.Scan.Mk) (hd:d.size=n) (hi:i<n) (y:Go.Scan.Mk)=>DH_st (X:=X) (d:=d) (i:=i) (y:=y) hp hB hl encK_len (by omega);have ix:=fun (i:Nat) (hi:i<n) c (k:IntKind) (H:Heap)=>DH_idx (e:=3) (i:=i) (n:=n) (c:=c) (k:=k) (H:=H) hp hi
 have hsift:=fun (X:Heap) (d:Array Go.Scan.Mk) (lo hi:Nat) (hd:d.size=n) (hh:hi≤h) (hlo:lo≤hi) Q=>sift_ok (X:=X) (d:=d) (lo:=lo) (hi:=hi) (first:=a) (cap:=cap) (Q:=Q) hp hB hl hn2 hc hd (by omega) hlo
 simp only [n88,r88,hw0,hw1,hw2,SB,Nat.reduceLT,callee,aOp,ne_eq,Nat.reduceEqDiff,aBin,aUn,if_true,if_false,reduceCtorEq,frame0,place,notTuple,Nat.reduceAdd,Nat.reduceLeDiff,resVal,dite_true,dite_false,Int.reduceEq,Int.reduceLT,Int.reduceLE]
 refine Ret_rounds (S:=Nat×Array Go.Scan.Mk) (fun s=>s.1) (fun s fr H=>s.1≤h+1∧(h=0→s.1≤1)∧(0<h→s.1≤h)∧fr 0=.slice p n cap∧fr 3=.func (.func cl) #[] cs.toArray∧fr 8=.int .i64 (a:Int)∧fr 9=.int .i64 0∧fr 10=.int .i64 (h:Int)∧fr 11=.int .i64 ((s.1:Int)-1)∧
  H=DH encK G B s.2++X∧s.2.size=n∧T=heapPop (ltC c) a h (heapBuild (ltC c) h a s.1 s.2)) ((h-1) / 2+1,d) ⟨by simp only;omega,by simp only;omega,by simp only;omega,(by simp only [FB,Nat.reduceEqDiff]),(by simp only [FB,Nat.reduceEqDiff]),(by simp only [FB,Nat.reduceEqDiff]),(by simp only [FB,Nat.reduceEqDiff]),(by simp only [FB,Nat.reduceEqDiff]),(by simp only [FB,Nat.reduceEqDiff]),rfl,hd,hT.symm⟩ ?_
 rintro ⟨k,d1⟩ fr H ⟨h1,h2,h3,g0,g3,g8,g9,g10,g11,rfl,hd1,he⟩ hN
 simp only at h1 h2 h3 g11 hd1 he
 rw [Ret_code l88_2.eq_1]
 cases k with
 | succ k=>
   have hk:((k+1:Nat):Int)-1=(k:Int):=by omega
   rw [hk] at g11
   have hw3:IntKind.i64.wrap ((k:Int)-1)=(k:Int)-1:=wrap_id (by omega) (by omega)
   have hk1:k≤h:=by omega
   have hk0:(0:Int)≤(k:Int):=by omega
   simp only [n88,r88,g0,g3,g8,g9,g10,g11,hk0,hw3,hsift,hd1,hk1,SB,Nat.reduceLT,callee,aOp,ne_eq,Nat.reduceEqDiff,aBin,aUn,if_true,if_false,reduceCtorEq,frame0,place,notTuple,Nat.reduceAdd,Nat.reduceLeDiff,resVal,dite_true,dite_false,Int.reduceEq,Int.reduceLT,Int.reduceLE]
   refine hN (k,siftDown (ltC c) h a k d1) _ _ ⟨by simp only;omega,by simp only;omega,by simp only;omega,(by simp only [g0,FB,Nat.reduceEqDiff]),(by simp only [g3,FB,Nat.reduceEqDiff]),(by simp only [g8,FB,Nat.reduceEqDiff]),(by simp only [g9,FB,Nat.reduceEqDiff]),(by simp only [g10,FB,Nat.reduceEqDiff]),(by simp only [FB,Nat.reduceEqDiff]),by simp,by simp only;rw [siftDown_sz _ _ _ (Nat.le_refl _),hd1],he⟩ (by simp only;omega)
 | zero=>
   clear hN
   rw [heapBuild] at he
   simp only [n88,r88,g0,g3,g8,g9,g10,g11,hw1,Int.cast_ofNat_Int,Int.ofNat_eq_natCast,Int.reduceSub,Int.zero_sub,Int.reduceNeg,SB,Nat.reduceLT,callee,aOp,ne_eq,Nat.reduceEqDiff,aBin,aUn,if_true,if_false,reduceCtorEq,frame0,place,notTuple,Nat.reduceAdd,Nat.reduceLeDiff,resVal,dite_true,dite_false,Int.reduceEq,Int.reduceLT,Int.reduceLE]
   refine Ret_rounds (S:=Nat×Array Go.Scan.Mk) (fun s=>s.1) (fun s fr H=>s.1≤h∧fr 0=.slice p n cap∧fr 3=.func (.func cl) #[] cs.toArray∧fr 8=.int .i64 (a:Int)∧fr 9=.int .i64 0∧fr 12=.int .i64 ((s.1:Int)-1)∧
    H=DH encK G B s.2++X∧s.2.size=n∧T=heapPop (ltC c) a s.1 s.2) (h,d1) ⟨Nat.le_refl _,(by simp only [g0,FB,Nat.reduceEqDiff]),(by simp only [g3,FB,Nat.reduceEqDiff]),(by simp only [g8,FB,Nat.reduceEqDiff]),(by simp only [g9,FB,Nat.reduceEqDiff]),(by simp only [FB,Nat.reduceEqDiff]),by simp,hd1,he⟩ ?_
   rintro ⟨k,d2⟩ fr2 H2 ⟨k1,q0,q3,q8,q9,q12,rfl,hd2,hf⟩ hM
   simp only at k1 q12 hd2 hf
   rw [Ret_code l88_1.eq_1]
   cases k with
   | succ k=>
     have hk:((k+1:Nat):Int)-1=(k:Int):=by omega
     rw [hk] at q12
     have hw3:IntKind.i64.wrap ((k:Int)-1)=(k:Int)-1:=wrap_id (by omega) (by omega)
     have hw4:IntKind.i64.wrap ((a:Int)+(k:Int))=((a+k:Nat):Int):=by rw [wrap_id (by omega) (by omega)];omega
     have i1:a<n:=by omega
     have i2:a+k<n:=by omega
     have hk1:k≤h:=by omega
     have hk0:(0:Int)≤(k:Int):=by omega
     have hsift0:=fun (X:Heap) (d:Array Go.Scan.Mk) (hi:Nat) (hd:d.size=n) (hh:hi≤h) Q=>hsift X d 0 hi hd hh (Nat.zero_le _) Q
     simp only [show ((0:Nat):Int)=0 from rfl] at hsift0
     simp only [n88,r88,q0,q3,q8,q9,q12,hk0,hw3,hw4,hsift0,hd2,hk1,ld,st,ix,List.append_nil,Array.size_setIfInBounds,encK_len,i1,i2,SB,Nat.reduceLT,callee,aOp,ne_eq,Nat.reduceEqDiff,aBin,aUn,if_true,if_false,reduceCtorEq,frame0,place,notTuple,Nat.reduceAdd,Nat.reduceLeDiff,resVal,dite_true,dite_false,Int.reduceEq,Int.reduceLT,Int.reduceLE]
     refine hM (k,siftDown (ltC c) k a 0 (swp d2 a (a+k))) _ _ ⟨by simp only;omega,(by simp only [q0,FB,Nat.reduceEqDiff]),(by simp only [q3,FB,Nat.reduceEqDiff]),(by simp only [q8,FB,Nat.reduceEqDiff]),(by simp only [q9,FB,Nat.reduceEqDiff]),(by simp only [FB,Nat.reduceEqDiff]),by simp [swp],by simp only;rw [siftDown_sz _ _ _ (Nat.le_refl _),swp_sz,hd2],hf⟩ (by simp only;omega)
   | zero=>
     rw [heapPop] at hf
     simp only [n88,r88,q0,q3,q8,q9,q12,hf,Int.reduceSub,Int.zero_sub,Int.reduceNeg,SB,Nat.reduceLT,callee,aOp,ne_eq,Nat.reduceEqDiff,aBin,aUn,if_true,if_false,reduceCtorEq,frame0,place,notTuple,Nat.reduceAdd,Nat.reduceLeDiff,resVal,dite_true,dite_false,Int.reduceEq,Int.reduceLT,Int.reduceLE]
theorem scanUp_step {α:Type} [Inhabited α] {p:α→Bool} {d:Array α} {j i:Nat} (h:i≤j) (hp:p d[i]! = true):scanUp p d j i=scanUp p d j (i+1):=by
 rw [scanUp];simp [h,hp]
theorem scanUp_stop {α:Type} [Inhabited α] {p:α→Bool} {d:Array α} {j i:Nat} (h:i≤j→p d[i]! = false):scanUp p d j i=i:=by
 rw [scanUp]
 by_cases q:i≤j
 ·simp [h q]
 ·simp [q]
theorem scanDown_step {α:Type} [Inhabited α] {p:α→Bool} {d:Array α} {j i:Nat} (h:i≤j) (h0:0<j) (hp:p d[j]! = true):scanDown p d i j=scanDown p d i (j-1):=by
 obtain ⟨j,rfl⟩:∃j',j=j'+1:=⟨j-1,by omega⟩
 rw [scanDown];simp [h,hp]
theorem scanDown_stop {α:Type} [Inhabited α] {p:α→Bool} {d:Array α} {j i:Nat} (h:i≤j→p d[j]! = false):scanDown p d i j=j:=by
 cases j with
 | zero=>rfl
 | succ j=>
   rw [scanDown]
   by_cases q:i≤j+1
   ·simp [h q]
   ·simp [q]
theorem partEq_stop {α:Type} [Inhabited α] {lt:α→α→Bool} {a i j i2 j2:Nat} {d:Array α} (h1:scanUp (fun x=>!lt d[a]! x) d j i=i2) (h2:scanDown (fun x=>lt d[a]! x) d i2 j=j2) (h:i2 > j2):partEqLoop lt a i j d=(i2,d):=by
 rw [partEqLoop];simp only [h1,h2];rw [if_pos h]
theorem partEq_next {α:Type} [Inhabited α] {lt:α→α→Bool} {a i j i2 j2:Nat} {d:Array α} (h1:scanUp (fun x=>!lt d[a]! x) d j i=i2) (h2:scanDown (fun x=>lt d[a]! x) d i2 j=j2) (h:¬i2 > j2) (g1:i≤i2) (g2:j2≤j) (g3:0<i2):partEqLoop lt a i j d=partEqLoop lt a (i2+1) (j2-1) (swp d i2 j2):=by
 rw [partEqLoop];simp only [h1,h2];rw [if_neg h,dif_pos (by omega)]
theorem peq_ok [OB] {G X:Heap} {B lim cap n:Nat} {p:Option Addr} {c:Go.Scan.Mk→Go.Scan.Mk→Int} {cl:FuncId} {cs:List Value} {Q:Value→Heap→Prop} (hp:p=some ⟨B,0,none⟩) (hB:B<G.length) (hl:lim≤B) (hn2:n<2 ^ 61) (hc:∀(mp:Bool) (lim:Nat) (x y:Go.Scan.Mk) (H:Heap) (Q:Value→Heap→Prop),CallR E mp lim cl (.agg (encK x).toArray::.agg (encK y).toArray::cs) H Q=Q (.int .i64 (c x y)) H) {d:Array Go.Scan.Mk} {a b v:Nat} (hd:d.size=n) (hb:b≤n) (hab:a≤v) (hvb:v<b) :
  CallR E false lim 93 [.slice p n cap,.int .i64 (a:Int),.int .i64 (b:Int),.int .i64 (v:Int),.func (.func cl) #[] cs.toArray] (DH encK G B d++X) Q=Q (.int .i64 ((partitionEqual (ltC c) d a b v).1:Nat)) (DH encK G B (partitionEqual (ltC c) d a b v).2++X):=by
 refine runs (by decide) e93 rfl ?_
 rw [b93,c93]
 have hw0:IntKind.i64.wrap ((b:Int)-1)=((b-1:Nat):Int):=wrap_pred (by omega) (by omega)
 have hw1:IntKind.i64.wrap ((a:Int)+1)=((a+1:Nat):Int):=wrap_nat (by omega)
 generalize hT:partitionEqual (ltC c) d a b v=T
 rw [partitionEqual] at hT
 have ld:=fun (i:Nat) (X:Heap) (d:Array Go.Scan.Mk) (hd:d.size=n) (hi:i<n)=>DH_ld (X:=X) (d:=d) (i:=i) hp hB encK_len (by omega);have st:=fun (i:Nat) (X:Heap) (d:Array Go.Scan.Mk) (hd:d.size=n) (hi:i<n) (y:Go.Scan.Mk)=>DH_st (X:=X) (d:=d) (i:=i) (y:=y) hp hB hl encK_len (by omega);have ix:=fun (i:Nat) (hi:i<n) c (k:IntKind) (H:Heap)=>DH_idx (e:=3) (i:=i) (n:=n) (c:=c) (k:=k) (H:=H) hp hi
 have i1:a<n:=by omega
 have i2:v<n:=by omega
 simp only [n93,r93,hw0,hw1,ld,st,ix,List.append_nil,Array.size_setIfInBounds,encK_len,hd,i1,i2,SB,Nat.reduceLT,callee,aOp,ne_eq,Nat.reduceEqDiff,aBin,aUn,if_true,if_false,reduceCtorEq,frame0,place,notTuple,Nat.reduceAdd,Nat.reduceLeDiff,resVal,dite_true,dite_false,Int.reduceEq,Int.reduceLT,Int.reduceLE]
 refine Ret_rounds (S:=(Nat×Nat)×Array Go.Scan.Mk) (fun s=>s.1.2+1-s.1.1) (fun s fr H=>a<s.1.1∧s.1.1≤b∧s.1.2<b∧fr 0=.slice p n cap∧fr 1=.int .i64 (a:Int)∧fr 4=.func (.func cl) #[] cs.toArray∧fr 11=.int .i64 (s.1.1:Int)∧fr 12=.int .i64 (s.1.2:Int)∧
  H=DH encK G B s.2++X∧s.2.size=n∧T=partEqLoop (ltC c) a s.1.1 s.1.2 s.2) ((a+1,b-1),swp d a v) ⟨by simp only;omega,by simp only;omega,by simp only;omega,(by simp only [FB,Nat.reduceEqDiff]),(by simp only [FB,Nat.reduceEqDiff]),(by simp only [FB,Nat.reduceEqDiff]),(by simp only [FB,Nat.reduceEqDiff]),(by simp only [FB,Nat.reduceEqDiff]),by simp [swp],by simp [swp,hd],hT.symm⟩ ?_
 rintro ⟨⟨i,j⟩,d1⟩ fr H ⟨h1,h2,h3,g0,g1,g4,g11,g12,rfl,hd1,he⟩ hN
 simp only at h1 h2 h3 g11 g12 hd1 he
 rw [Ret_code l93_3.eq_1]
 simp only [n93,r93,SB,Nat.reduceLT,callee,aOp,ne_eq,Nat.reduceEqDiff,aBin,aUn,if_true,if_false,reduceCtorEq,frame0,place,notTuple,Nat.reduceAdd,Nat.reduceLeDiff,resVal,dite_true,dite_false,Int.reduceEq,Int.reduceLT,Int.reduceLE]
 refine Ret_rounds (S:=Nat) (fun s=>b+1-s) (fun s fr H=>i≤s∧s≤b∧fr 0=.slice p n cap∧fr 1=.int .i64 (a:Int)∧fr 4=.func (.func cl) #[] cs.toArray∧fr 11=.int .i64 (s:Int)∧fr 12=.int .i64 (j:Int)∧
  H=DH encK G B d1++X∧scanUp (fun x=>!ltC c d1[a]! x) d1 j i=scanUp (fun x=>!ltC c d1[a]! x) d1 j s) i ⟨Nat.le_refl _,h2,g0,g1,g4,g11,g12,rfl,rfl⟩ ?_
 rintro i' fr1 H1 ⟨k1,k2,q0,q1,q4,q11,q12,rfl,hs⟩ hM
 rw [Ret_code l93_2.eq_1]
 by_cases c1:i'≤j∧¬c d1[a]! d1[i']!<0
 ·obtain ⟨c1,c2⟩:=c1
  have hw2:IntKind.i64.wrap ((i':Int)+1)=((i'+1:Nat):Int):=wrap_nat (by omega)
  have i3:i'<n:=by omega
  simp only [n93,r93,q0,q1,q4,q11,q12,c1,c2,hw2,ld,st,ix,List.append_nil,Array.size_setIfInBounds,encK_len,hd1,i1,i3,hc,SB,Nat.reduceLT,callee,aOp,ne_eq,Nat.reduceEqDiff,aBin,aUn,if_true,if_false,reduceCtorEq,frame0,place,notTuple,Nat.reduceAdd,Nat.reduceLeDiff,resVal,dite_true,dite_false,Int.reduceEq,Int.reduceLT,Int.reduceLE]
  exact hM (i'+1) _ _ ⟨by omega,by omega,(by simp only [q0,FB,Nat.reduceEqDiff]),(by simp only [q1,FB,Nat.reduceEqDiff]),(by simp only [q4,FB,Nat.reduceEqDiff]),(by simp only [FB,Nat.reduceEqDiff]),(by simp only [q12,FB,Nat.reduceEqDiff]),rfl,by rw [hs,scanUp_step c1 (by simp [ltC,c2])]⟩ (by omega)
 have hs2:scanUp (fun x=>!ltC c d1[a]! x) d1 j i=i':=by
  rw [hs,scanUp_stop]
  intro q
  by_cases q2:c d1[a]! d1[i']!<0
  ·simp [ltC,q2]
  ·exact absurd ⟨q,q2⟩ c1
 clear hM
 have hx:(i'≤j∧c d1[a]! d1[i']!<0)∨¬i'≤j:=by
  by_cases q:i'≤j
  ·exact .inl ⟨q,Classical.byContradiction fun q2=>c1 ⟨q,q2⟩⟩
  ·exact .inr q
 have i0:i'≤j→i'<n:=fun q=>by omega
 rcases hx with ⟨c2,c3⟩ | c2
 case' inl=>simp only [n93,r93,q0,q1,q4,q11,q12,c2,c3,ld,st,ix,List.append_nil,Array.size_setIfInBounds,encK_len,hd1,i1,i0 c2,hc,SB,Nat.reduceLT,callee,aOp,ne_eq,Nat.reduceEqDiff,aBin,aUn,if_true,if_false,reduceCtorEq,frame0,place,notTuple,Nat.reduceAdd,Nat.reduceLeDiff,resVal,dite_true,dite_false,Int.reduceEq,Int.reduceLT,Int.reduceLE]
 case' inr=>simp only [n93,r93,q0,q1,q4,q11,q12,c2,ld,st,ix,List.append_nil,Array.size_setIfInBounds,encK_len,SB,Nat.reduceLT,callee,aOp,ne_eq,Nat.reduceEqDiff,aBin,aUn,if_true,if_false,reduceCtorEq,frame0,place,notTuple,Nat.reduceAdd,Nat.reduceLeDiff,resVal,dite_true,dite_false,Int.reduceEq,Int.reduceLT,Int.reduceLE]
 all_goals
  refine Ret_rounds (S:=Nat) (fun s=>s) (fun s fr H=>s≤j∧fr 0=.slice p n cap∧fr 1=.int .i64 (a:Int)∧fr 4=.func (.func cl) #[] cs.toArray∧fr 11=.int .i64 (i':Int)∧fr 12=.int .i64 (s:Int)∧
   H=DH encK G B d1++X∧scanDown (fun x=>ltC c d1[a]! x) d1 i' j=scanDown (fun x=>ltC c d1[a]! x) d1 i' s) j ⟨Nat.le_refl _,(by simp only [q0,FB,Nat.reduceEqDiff]),(by simp only [q1,FB,Nat.reduceEqDiff]),(by simp only [q4,FB,Nat.reduceEqDiff]),(by simp only [q11,FB,Nat.reduceEqDiff]),(by simp only [q12,FB,Nat.reduceEqDiff]),rfl,rfl⟩ ?_
  rintro j' fr2 H2 ⟨m1,p0,p1,p4,p11,p12,rfl,hs'⟩ hM
  rw [Ret_code l93_1.eq_1]
  have i4:j'<n:=by omega
  by_cases c4:i'≤j'∧c d1[a]! d1[j']!<0
  ·obtain ⟨c4,c5⟩:=c4
   have hw3:IntKind.i64.wrap ((j':Int)-1)=((j'-1:Nat):Int):=wrap_pred (by omega) (by omega)
   simp only [n93,r93,p0,p1,p4,p11,p12,c4,c5,hw3,ld,st,ix,List.append_nil,Array.size_setIfInBounds,encK_len,hd1,i1,i4,hc,SB,Nat.reduceLT,callee,aOp,ne_eq,Nat.reduceEqDiff,aBin,aUn,if_true,if_false,reduceCtorEq,frame0,place,notTuple,Nat.reduceAdd,Nat.reduceLeDiff,resVal,dite_true,dite_false,Int.reduceEq,Int.reduceLT,Int.reduceLE]
   exact hM (j'-1) _ _ ⟨by omega,(by simp only [p0,FB,Nat.reduceEqDiff]),(by simp only [p1,FB,Nat.reduceEqDiff]),(by simp only [p4,FB,Nat.reduceEqDiff]),(by simp only [p11,FB,Nat.reduceEqDiff]),(by simp only [FB,Nat.reduceEqDiff]),rfl,by rw [hs',scanDown_step c4 (by omega) (by simp [ltC,c5])]⟩ (by omega)
  have hs3:scanDown (fun x=>ltC c d1[a]! x) d1 i' j=j':=by
   rw [hs',scanDown_stop]
   intro q
   have q2:¬c d1[a]! d1[j']!<0:=fun q2=>c4 ⟨q,q2⟩
   simp [ltC,q2]
  clear hM
  by_cases c6:j'<i'
  ·have c7:¬i'≤j':=by omega
   rw [partEq_stop hs2 hs3 c6] at he
   simp only [n93,r93,p0,p1,p4,p11,p12,c7,c6,ld,st,ix,List.append_nil,Array.size_setIfInBounds,encK_len,he,SB,Nat.reduceLT,callee,aOp,ne_eq,Nat.reduceEqDiff,aBin,aUn,if_true,if_false,reduceCtorEq,frame0,place,notTuple,Nat.reduceAdd,Nat.reduceLeDiff,resVal,dite_true,dite_false,Int.reduceEq,Int.reduceLT,Int.reduceLE]
  ·have c7:i'≤j':=by omega
   have c8:¬c d1[a]! d1[j']!<0:=fun q=>c4 ⟨c7,q⟩
   rw [partEq_next hs2 hs3 c6 k1 m1 (by omega)] at he
   have i5:i'<n:=by omega
   have hw3:IntKind.i64.wrap ((j':Int)-1)=((j'-1:Nat):Int):=wrap_pred (by omega) (by omega)
   have hw4:IntKind.i64.wrap ((i':Int)+1)=((i'+1:Nat):Int):=wrap_nat (by omega)
   simp only [n93,r93,p0,p1,p4,p11,p12,c7,c6,c8,hw3,hw4,ld,st,ix,List.append_nil,Array.size_setIfInBounds,encK_len,hd1,i1,i4,i5,hc,SB,Nat.reduceLT,callee,aOp,ne_eq,Nat.reduceEqDiff,aBin,aUn,if_true,if_false,reduceCtorEq,frame0,place,notTuple,Nat.reduceAdd,Nat.reduceLeDiff,resVal,dite_true,dite_false,Int.reduceEq,Int.reduceLT,Int.reduceLE]
   exact hN ((i'+1,j'-1),swp d1 i' j') _ _ ⟨by simp only;omega,by simp only;omega,by simp only;omega,(by simp only [p0,FB,Nat.reduceEqDiff]),(by simp only [p1,FB,Nat.reduceEqDiff]),(by simp only [p4,FB,Nat.reduceEqDiff]),(by simp only [FB,Nat.reduceEqDiff]),(by simp only [FB,Nat.reduceEqDiff]),by simp [swp],by simp [swp,hd1],he⟩ (by simp only;omega)
theorem part_stop {α:Type} [Inhabited α] {lt:α→α→Bool} {a i j i2 j2:Nat} {d:Array α} (h1:scanUp (fun x=>lt x d[a]!) d j i=i2) (h2:scanDown (fun x=>!lt x d[a]!) d i2 j=j2) (h:i2 > j2):partLoop lt a i j d=(j2,d):=by
 rw [partLoop];simp only [h1,h2];rw [if_pos h]
theorem part_next {α:Type} [Inhabited α] {lt:α→α→Bool} {a i j i2 j2:Nat} {d:Array α} (h1:scanUp (fun x=>lt x d[a]!) d j i=i2) (h2:scanDown (fun x=>!lt x d[a]!) d i2 j=j2) (h:¬i2 > j2) (g1:i≤i2) (g2:j2≤j) (g3:0<i2):partLoop lt a i j d=partLoop lt a (i2+1) (j2-1) (swp d i2 j2):=by
 rw [partLoop];simp only [h1,h2];rw [if_neg h,dif_pos (by omega)]
theorem part_sort [OB] {G X:Heap} {B lim cap n:Nat} {p:Option Addr} {c:Go.Scan.Mk→Go.Scan.Mk→Int} {cl:FuncId} {cs:List Value} {Q:Value→Heap→Prop} (hp:p=some ⟨B,0,none⟩) (hB:B<G.length) (hl:lim≤B) (hn2:n<2 ^ 61) (hc:∀(mp:Bool) (lim:Nat) (x y:Go.Scan.Mk) (H:Heap) (Q:Value→Heap→Prop),CallR E mp lim cl (.agg (encK x).toArray::.agg (encK y).toArray::cs) H Q=Q (.int .i64 (c x y)) H) {d:Array Go.Scan.Mk} {a b v:Nat} (hd:d.size=n) (hb:b≤n) (hab:a≤v) (hvb:v<b) :
  CallR E false lim 94 [.slice p n cap,.int .i64 (a:Int),.int .i64 (b:Int),.int .i64 (v:Int),.func (.func cl) #[] cs.toArray] (DH encK G B d++X) Q=Q (.tuple #[.int .i64 ((Sort.partition (ltC c) d a b v).1:Nat),.bool (Sort.partition (ltC c) d a b v).2.1]) (DH encK G B (Sort.partition (ltC c) d a b v).2.2++X):=by
 refine runs (by decide) e94 rfl ?_
 rw [b94,c94]
 have hw0:IntKind.i64.wrap ((b:Int)-1)=((b-1:Nat):Int):=wrap_pred (by omega) (by omega)
 have hw1:IntKind.i64.wrap ((a:Int)+1)=((a+1:Nat):Int):=wrap_nat (by omega)
 generalize hT:Sort.partition (ltC c) d a b v=T
 rw [Sort.partition] at hT
 have ld:=fun (i:Nat) (X:Heap) (d:Array Go.Scan.Mk) (hd:d.size=n) (hi:i<n)=>DH_ld (X:=X) (d:=d) (i:=i) hp hB encK_len (by omega);have st:=fun (i:Nat) (X:Heap) (d:Array Go.Scan.Mk) (hd:d.size=n) (hi:i<n) (y:Go.Scan.Mk)=>DH_st (X:=X) (d:=d) (i:=i) (y:=y) hp hB hl encK_len (by omega);have ix:=fun (i:Nat) (hi:i<n) c (k:IntKind) (H:Heap)=>DH_idx (e:=3) (i:=i) (n:=n) (c:=c) (k:=k) (H:=H) hp hi
 have i1:a<n:=by omega
 have i2:v<n:=by omega
 simp only [n94,r94,hw0,hw1,ld,st,ix,List.append_nil,Array.size_setIfInBounds,encK_len,hd,i1,i2,SB,Nat.reduceLT,callee,aOp,ne_eq,Nat.reduceEqDiff,aBin,aUn,if_true,if_false,reduceCtorEq,frame0,place,notTuple,Nat.reduceAdd,Nat.reduceLeDiff,resVal,dite_true,dite_false,Int.reduceEq,Int.reduceLT,Int.reduceLE]
 have hd0:(swp d a v).size=n:=by simp [swp,hd]
 have hswp:(d.setIfInBounds a d[v]!).setIfInBounds v d[a]! = swp d a v:=rfl
 rw [hswp]
 generalize swp d a v=d1 at hT hd0
 have k0:a+1≤b:=by omega
 refine Ret_rounds (S:=Nat) (fun s=>b+1-s) (fun s fr H=>(a+1)≤s∧s≤(b-1)+1∧fr 0=.slice p n cap∧fr 1=.int .i64 (a:Int)∧fr 4=.func (.func cl) #[] cs.toArray∧fr 12=.int .i64 (s:Int)∧fr 13=.int .i64 ((b-1:Nat):Int)∧
  H=DH encK G B d1++X∧scanUp (fun x=>ltC c x d1[a]!) d1 (b-1) (a+1)=scanUp (fun x=>ltC c x d1[a]!) d1 (b-1) s) (a+1) ⟨Nat.le_refl _,by omega,(by simp only [FB,Nat.reduceEqDiff]),(by simp only [FB,Nat.reduceEqDiff]),(by simp only [FB,Nat.reduceEqDiff]),(by simp only [FB,Nat.reduceEqDiff]),(by simp only [FB,Nat.reduceEqDiff]),rfl,rfl⟩ ?_
 rintro i' fr1 H1 ⟨x1,k2,q0,q1,q4,q12,q13,rfl,hs⟩ hM
 rw [Ret_code l94_5.eq_1]
 by_cases c1:i'≤(b-1)∧c d1[i']! d1[a]!<0
 ·obtain ⟨cc1,cc2⟩:=c1
  have hw2:IntKind.i64.wrap ((i':Int)+1)=((i'+1:Nat):Int):=wrap_nat (by omega)
  have i3:i'<n:=by omega
  simp only [n94,r94,q0,q1,q4,q12,q13,cc1,cc2,hw2,ld,st,ix,List.append_nil,Array.size_setIfInBounds,encK_len,hd0,i1,i3,hc,SB,Nat.reduceLT,callee,aOp,ne_eq,Nat.reduceEqDiff,aBin,aUn,if_true,if_false,reduceCtorEq,frame0,place,notTuple,Nat.reduceAdd,Nat.reduceLeDiff,resVal,dite_true,dite_false,Int.reduceEq,Int.reduceLT,Int.reduceLE]
  exact hM (i'+1) _ _ ⟨by omega,by omega,(by simp only [q0,FB,Nat.reduceEqDiff]),(by simp only [q1,FB,Nat.reduceEqDiff]),(by simp only [q4,FB,Nat.reduceEqDiff]),(by simp only [FB,Nat.reduceEqDiff]),(by simp only [q13,FB,Nat.reduceEqDiff]),rfl,by rw [hs,scanUp_step cc1 (by simp [ltC,cc2])]⟩ (by omega)
 have hs2:scanUp (fun x=>ltC c x d1[a]!) d1 (b-1) (a+1)=i':=by
  rw [hs,scanUp_stop]
  intro q
  have q2:¬c d1[i']! d1[a]!<0:=fun q2=>c1 ⟨q,q2⟩
  simp [ltC,q2]
 clear hM
 have hx:(i'≤(b-1)∧¬c d1[i']! d1[a]!<0)∨¬i'≤(b-1):=by
  by_cases q:i'≤(b-1)
  ·exact .inl ⟨q,fun q2=>c1 ⟨q,q2⟩⟩
  ·exact .inr q
 have i0:i'≤(b-1)→i'<n:=fun q=>by omega
 have hxx:=hx
 rcases hx with ⟨cc2,cc3⟩ | cc2
 case' inl=>simp only [n94,r94,q0,q1,q4,q12,q13,cc2,cc3,ld,st,ix,List.append_nil,Array.size_setIfInBounds,encK_len,hd0,i1,i0 cc2,hc,SB,Nat.reduceLT,callee,aOp,ne_eq,Nat.reduceEqDiff,aBin,aUn,if_true,if_false,reduceCtorEq,frame0,place,notTuple,Nat.reduceAdd,Nat.reduceLeDiff,resVal,dite_true,dite_false,Int.reduceEq,Int.reduceLT,Int.reduceLE]
 case' inr=>simp only [n94,r94,q0,q1,q4,q12,q13,cc2,ld,st,ix,List.append_nil,Array.size_setIfInBounds,encK_len,SB,Nat.reduceLT,callee,aOp,ne_eq,Nat.reduceEqDiff,aBin,aUn,if_true,if_false,reduceCtorEq,frame0,place,notTuple,Nat.reduceAdd,Nat.reduceLeDiff,resVal,dite_true,dite_false,Int.reduceEq,Int.reduceLT,Int.reduceLE]
 all_goals
  clear cc2
  refine Ret_rounds (S:=Nat) (fun s=>s) (fun s fr H=>s≤(b-1)∧i'≤s+1∧fr 0=.slice p n cap∧fr 1=.int .i64 (a:Int)∧fr 4=.func (.func cl) #[] cs.toArray∧fr 12=.int .i64 (i':Int)∧fr 13=.int .i64 (s:Int)∧
   H=DH encK G B d1++X∧scanDown (fun x=>!ltC c x d1[a]!) d1 i' (b-1)=scanDown (fun x=>!ltC c x d1[a]!) d1 i' s) (b-1) ⟨Nat.le_refl _,by omega,(by simp only [q0,FB,Nat.reduceEqDiff]),(by simp only [q1,FB,Nat.reduceEqDiff]),(by simp only [q4,FB,Nat.reduceEqDiff]),(by simp only [q12,FB,Nat.reduceEqDiff]),(by simp only [q13,FB,Nat.reduceEqDiff]),rfl,rfl⟩ ?_
  rintro j' fr2 H2 ⟨y1,y2,p0,p1,p4,p12,p13,rfl,hs'⟩ hM
  rw [Ret_code l94_4.eq_1]
  have i4:j'<n:=by omega
  by_cases c4:i'≤j'∧¬c d1[j']! d1[a]!<0
  ·obtain ⟨cc4,cc5⟩:=c4
   have hw3:IntKind.i64.wrap ((j':Int)-1)=((j'-1:Nat):Int):=wrap_pred (by omega) (by omega)
   simp only [n94,r94,p0,p1,p4,p12,p13,cc4,cc5,hw3,ld,st,ix,List.append_nil,Array.size_setIfInBounds,encK_len,hd0,i1,i4,hc,SB,Nat.reduceLT,callee,aOp,ne_eq,Nat.reduceEqDiff,aBin,aUn,if_true,if_false,reduceCtorEq,frame0,place,notTuple,Nat.reduceAdd,Nat.reduceLeDiff,resVal,dite_true,dite_false,Int.reduceEq,Int.reduceLT,Int.reduceLE]
   exact hM (j'-1) _ _ ⟨by omega,by omega,(by simp only [p0,FB,Nat.reduceEqDiff]),(by simp only [p1,FB,Nat.reduceEqDiff]),(by simp only [p4,FB,Nat.reduceEqDiff]),(by simp only [p12,FB,Nat.reduceEqDiff]),(by simp only [FB,Nat.reduceEqDiff]),rfl,by rw [hs',scanDown_step cc4 (by omega) (by simp [ltC,cc5])]⟩ (by omega)
  have hs3:scanDown (fun x=>!ltC c x d1[a]!) d1 i' (b-1)=j':=by
   rw [hs',scanDown_stop]
   intro q
   have q2:c d1[j']! d1[a]!<0:=Classical.byContradiction fun q2=>c4 ⟨q,q2⟩
   simp [ltC,q2]
  clear hM
  by_cases c6:j'<i'
  ·have c7:¬i'≤j':=by omega
   have i6:j'<n:=by omega
   simp only [hs2,hs3] at hT
   rw [if_pos (show i' > j' from c6)] at hT
   simp only [n94,r94,p0,p1,p4,p12,p13,c7,c6,ld,st,ix,List.append_nil,Array.size_setIfInBounds,encK_len,hd0,i1,i6,SB,Nat.reduceLT,callee,aOp,ne_eq,Nat.reduceEqDiff,aBin,aUn,if_true,if_false,reduceCtorEq,frame0,place,notTuple,Nat.reduceAdd,Nat.reduceLeDiff,resVal,dite_true,dite_false,Int.reduceEq,Int.reduceLT,Int.reduceLE]
   rw [←hT]
   exact ⟨rfl,rfl⟩
  ·have c7:i'≤j':=by omega
   have c8:c d1[j']! d1[a]!<0:=Classical.byContradiction fun q=>c4 ⟨c7,q⟩
   have c9:i'≠j':=by
    rintro rfl
    rcases hxx with q | q
    ·exact q.2 c8
    ·exact q (by omega)
   simp only [hs2,hs3] at hT
   rw [if_neg (show ¬i' > j' from c6)] at hT
   have i5:i'<n:=by omega
   have i6:j'<n:=by omega
   have hw3:IntKind.i64.wrap ((j':Int)-1)=((j'-1:Nat):Int):=wrap_pred (by omega) (by omega)
   have hw4:IntKind.i64.wrap ((i':Int)+1)=((i'+1:Nat):Int):=wrap_nat (by omega)
   simp only [n94,r94,p0,p1,p4,p12,p13,c7,c6,c8,hw3,hw4,ld,st,ix,List.append_nil,Array.size_setIfInBounds,encK_len,hd0,i1,i6,i5,hc,SB,Nat.reduceLT,callee,aOp,ne_eq,Nat.reduceEqDiff,aBin,aUn,if_true,if_false,reduceCtorEq,frame0,place,notTuple,Nat.reduceAdd,Nat.reduceLeDiff,resVal,dite_true,dite_false,Int.reduceEq,Int.reduceLT,Int.reduceLE]
   generalize hL:partLoop (ltC c) a (i'+1) (j'-1) (swp d1 i' j')=L at hT
   refine Ret_rounds (S:=(Nat×Nat)×Array Go.Scan.Mk) (fun s=>s.1.2+1-s.1.1) (fun s fr H=>a<s.1.1∧s.1.1≤s.1.2+1∧s.1.2<b∧fr 0=.slice p n cap∧fr 1=.int .i64 (a:Int)∧fr 4=.func (.func cl) #[] cs.toArray∧fr 12=.int .i64 (s.1.1:Int)∧fr 13=.int .i64 (s.1.2:Int)∧
    H=DH encK G B s.2++X∧s.2.size=n∧L=partLoop (ltC c) a s.1.1 s.1.2 s.2) ((i'+1,j'-1),swp d1 i' j') ⟨by simp only;omega,by simp only;omega,by simp only;omega,(by simp only [p0,FB,Nat.reduceEqDiff]),(by simp only [p1,FB,Nat.reduceEqDiff]),(by simp only [p4,FB,Nat.reduceEqDiff]),(by simp only [FB,Nat.reduceEqDiff]),(by simp only [FB,Nat.reduceEqDiff]),by simp [swp],by simp [swp,hd0],hL.symm⟩ ?_
   clear hs2 hs3 hs hs' c1 c4 hxx i0 hL
   rintro ⟨⟨i,j⟩,d2⟩ fr H ⟨h1,h2,h3,g0,g1,g4,g12,g13,rfl,hd2,he⟩ hN
   simp only at h1 h2 h3 g12 g13 hd2 he
   rw [Ret_code l94_3.eq_1]
   simp only [n94,r94,SB,Nat.reduceLT,callee,aOp,ne_eq,Nat.reduceEqDiff,aBin,aUn,if_true,if_false,reduceCtorEq,frame0,place,notTuple,Nat.reduceAdd,Nat.reduceLeDiff,resVal,dite_true,dite_false,Int.reduceEq,Int.reduceLT,Int.reduceLE]
   refine Ret_rounds (S:=Nat) (fun s=>b+1-s) (fun s fr H=>i≤s∧s≤j+1∧fr 0=.slice p n cap∧fr 1=.int .i64 (a:Int)∧fr 4=.func (.func cl) #[] cs.toArray∧fr 12=.int .i64 (s:Int)∧fr 13=.int .i64 (j:Int)∧
    H=DH encK G B d2++X∧scanUp (fun u=>ltC c u d2[a]!) d2 j i=scanUp (fun u=>ltC c u d2[a]!) d2 j s) i ⟨Nat.le_refl _,by omega,g0,g1,g4,g12,g13,rfl,rfl⟩ ?_
   rintro x fr1 H1 ⟨x1,k2,q0,q1,q4,q12,q13,rfl,us⟩ hM
   rw [Ret_code l94_2.eq_1]
   by_cases z1:x≤j∧c d2[x]! d2[a]!<0
   ·obtain ⟨cc1,cc2⟩:=z1
    have hw2:IntKind.i64.wrap ((x:Int)+1)=((x+1:Nat):Int):=wrap_nat (by omega)
    have i3:x<n:=by omega
    simp only [n94,r94,q0,q1,q4,q12,q13,cc1,cc2,hw2,ld,st,ix,List.append_nil,Array.size_setIfInBounds,encK_len,hd2,i1,i3,hc,SB,Nat.reduceLT,callee,aOp,ne_eq,Nat.reduceEqDiff,aBin,aUn,if_true,if_false,reduceCtorEq,frame0,place,notTuple,Nat.reduceAdd,Nat.reduceLeDiff,resVal,dite_true,dite_false,Int.reduceEq,Int.reduceLT,Int.reduceLE]
    exact hM (x+1) _ _ ⟨by omega,by omega,(by simp only [q0,FB,Nat.reduceEqDiff]),(by simp only [q1,FB,Nat.reduceEqDiff]),(by simp only [q4,FB,Nat.reduceEqDiff]),(by simp only [FB,Nat.reduceEqDiff]),(by simp only [q13,FB,Nat.reduceEqDiff]),rfl,by rw [us,scanUp_step cc1 (by simp [ltC,cc2])]⟩ (by omega)
   have us2:scanUp (fun u=>ltC c u d2[a]!) d2 j i=x:=by
    rw [us,scanUp_stop]
    intro q
    have q2:¬c d2[x]! d2[a]!<0:=fun q2=>z1 ⟨q,q2⟩
    simp [ltC,q2]
   clear hM
   have hz:(x≤j∧¬c d2[x]! d2[a]!<0)∨¬x≤j:=by
    by_cases q:x≤j
    ·exact .inl ⟨q,fun q2=>z1 ⟨q,q2⟩⟩
    ·exact .inr q
   have i0:x≤j→x<n:=fun q=>by omega
   have hzz:=hz
   rcases hz with ⟨cc2,cc3⟩ | cc2
   case' inl=>simp only [n94,r94,q0,q1,q4,q12,q13,cc2,cc3,ld,st,ix,List.append_nil,Array.size_setIfInBounds,encK_len,hd2,i1,i0 cc2,hc,SB,Nat.reduceLT,callee,aOp,ne_eq,Nat.reduceEqDiff,aBin,aUn,if_true,if_false,reduceCtorEq,frame0,place,notTuple,Nat.reduceAdd,Nat.reduceLeDiff,resVal,dite_true,dite_false,Int.reduceEq,Int.reduceLT,Int.reduceLE]
   case' inr=>simp only [n94,r94,q0,q1,q4,q12,q13,cc2,ld,st,ix,List.append_nil,Array.size_setIfInBounds,encK_len,SB,Nat.reduceLT,callee,aOp,ne_eq,Nat.reduceEqDiff,aBin,aUn,if_true,if_false,reduceCtorEq,frame0,place,notTuple,Nat.reduceAdd,Nat.reduceLeDiff,resVal,dite_true,dite_false,Int.reduceEq,Int.reduceLT,Int.reduceLE]
   all_goals
    clear cc2
    refine Ret_rounds (S:=Nat) (fun s=>s) (fun s fr H=>s≤j∧x≤s+1∧fr 0=.slice p n cap∧fr 1=.int .i64 (a:Int)∧fr 4=.func (.func cl) #[] cs.toArray∧fr 12=.int .i64 (x:Int)∧fr 13=.int .i64 (s:Int)∧
     H=DH encK G B d2++X∧scanDown (fun u=>!ltC c u d2[a]!) d2 x j=scanDown (fun u=>!ltC c u d2[a]!) d2 x s) j ⟨Nat.le_refl _,by omega,(by simp only [q0,FB,Nat.reduceEqDiff]),(by simp only [q1,FB,Nat.reduceEqDiff]),(by simp only [q4,FB,Nat.reduceEqDiff]),(by simp only [q12,FB,Nat.reduceEqDiff]),(by simp only [q13,FB,Nat.reduceEqDiff]),rfl,rfl⟩ ?_
    rintro y fr2 H2 ⟨y1,y2,t0,t1,t4,t12,t13,rfl,us'⟩ hM
    rw [Ret_code l94_1.eq_1]
    have i4:y<n:=by omega
    by_cases z4:x≤y∧¬c d2[y]! d2[a]!<0
    ·obtain ⟨cc4,cc5⟩:=z4
     have hw3:IntKind.i64.wrap ((y:Int)-1)=((y-1:Nat):Int):=wrap_pred (by omega) (by omega)
     simp only [n94,r94,t0,t1,t4,t12,t13,cc4,cc5,hw3,ld,st,ix,List.append_nil,Array.size_setIfInBounds,encK_len,hd2,i1,i4,hc,SB,Nat.reduceLT,callee,aOp,ne_eq,Nat.reduceEqDiff,aBin,aUn,if_true,if_false,reduceCtorEq,frame0,place,notTuple,Nat.reduceAdd,Nat.reduceLeDiff,resVal,dite_true,dite_false,Int.reduceEq,Int.reduceLT,Int.reduceLE]
     exact hM (y-1) _ _ ⟨by omega,by omega,(by simp only [t0,FB,Nat.reduceEqDiff]),(by simp only [t1,FB,Nat.reduceEqDiff]),(by simp only [t4,FB,Nat.reduceEqDiff]),(by simp only [t12,FB,Nat.reduceEqDiff]),(by simp only [FB,Nat.reduceEqDiff]),rfl,by rw [us',scanDown_step cc4 (by omega) (by simp [ltC,cc5])]⟩ (by omega)
    have us3:scanDown (fun u=>!ltC c u d2[a]!) d2 x j=y:=by
     rw [us',scanDown_stop]
     intro q
     have q2:c d2[y]! d2[a]!<0:=Classical.byContradiction fun q2=>z4 ⟨q,q2⟩
     simp [ltC,q2]
    clear hM
    by_cases z6:y<x
    ·have z7:¬x≤y:=by omega
     have i6:y<n:=by omega
     rw [part_stop us2 us3 z6] at he
     simp only [n94,r94,t0,t1,t4,t12,t13,z7,z6,ld,st,ix,List.append_nil,Array.size_setIfInBounds,encK_len,hd2,i1,i6,SB,Nat.reduceLT,callee,aOp,ne_eq,Nat.reduceEqDiff,aBin,aUn,if_true,if_false,reduceCtorEq,frame0,place,notTuple,Nat.reduceAdd,Nat.reduceLeDiff,resVal,dite_true,dite_false,Int.reduceEq,Int.reduceLT,Int.reduceLE]
     rw [←hT,he]
     exact ⟨rfl,rfl⟩
    ·have z7:x≤y:=by omega
     have z8:c d2[y]! d2[a]!<0:=Classical.byContradiction fun q=>z4 ⟨z7,q⟩
     have z9:x≠y:=by
      rintro rfl
      rcases hzz with q | q
      ·exact q.2 z8
      ·exact q (by omega)
     rw [part_next us2 us3 z6 x1 y1 (by omega)] at he
     have i5:x<n:=by omega
     have i6:y<n:=by omega
     have hw5:IntKind.i64.wrap ((y:Int)-1)=((y-1:Nat):Int):=wrap_pred (by omega) (by omega)
     have hw6:IntKind.i64.wrap ((x:Int)+1)=((x+1:Nat):Int):=wrap_nat (by omega)
     simp only [n94,r94,t0,t1,t4,t12,t13,z7,z6,z8,hw5,hw6,ld,st,ix,List.append_nil,Array.size_setIfInBounds,encK_len,hd2,i1,i6,i5,hc,SB,Nat.reduceLT,callee,aOp,ne_eq,Nat.reduceEqDiff,aBin,aUn,if_true,if_false,reduceCtorEq,frame0,place,notTuple,Nat.reduceAdd,Nat.reduceLeDiff,resVal,dite_true,dite_false,Int.reduceEq,Int.reduceLT,Int.reduceLE]
     exact hN ((x+1,y-1),swp d2 x y) _ _ ⟨by simp only;omega,by simp only;omega,by simp only;omega,(by simp only [t0,FB,Nat.reduceEqDiff]),(by simp only [t1,FB,Nat.reduceEqDiff]),(by simp only [t4,FB,Nat.reduceEqDiff]),(by simp only [FB,Nat.reduceEqDiff]),(by simp only [FB,Nat.reduceEqDiff]),by simp [swp],by simp [swp,hd2],he⟩ (by simp only;omega)
theorem scanS_step {α:Type} [Inhabited α] {lt:α→α→Bool} {d:Array α} {b i:Nat} (h:i<b) (hp:lt d[i]! d[i-1]! = false):scanSorted lt d b i=scanSorted lt d b (i+1):=by
 rw [scanSorted];simp [h,hp]
theorem scanS_stop {α:Type} [Inhabited α] {lt:α→α→Bool} {d:Array α} {b i:Nat} (h:i<b→lt d[i]! d[i-1]! = true):scanSorted lt d b i=i:=by
 rw [scanSorted]
 by_cases q:i<b
 ·simp [h q]
 ·simp [q]
def fixDownC {α:Type} [Inhabited α] (lt:α→α→Bool) (a i:Nat) (d:Array α):Array α:=if 2≤i-a then shiftDown lt (i-1) d else d
def fixUpC {α:Type} [Inhabited α] (lt:α→α→Bool) (b i:Nat) (d:Array α):Array α:=if 2≤b-i then shiftUp lt b (i+1) d else d
theorem partialIns_more {α:Type} [Inhabited α] {lt:α→α→Bool} {a b k i i':Nat} {d:Array α} (hs:scanSorted lt d b i=i') (h1:¬i'=b) (h2:¬b-a<50):partialIns lt a b (k+1) i d=partialIns lt a b k i' (fixUpC lt b i' (fixDownC lt a i' (swp d i' (i'-1)))):=by
 rw [partialIns]
 simp only [hs]
 rw [if_neg h1,if_neg h2]
 rfl
theorem pis_ok [OB] {G X:Heap} {B lim cap n:Nat} {p:Option Addr} {c:Go.Scan.Mk→Go.Scan.Mk→Int} {cl:FuncId} {cs:List Value} {Q:Value→Heap→Prop} (hp:p=some ⟨B,0,none⟩) (hB:B<G.length) (hl:lim≤B) (hn2:n<2 ^ 61) (hc:∀(mp:Bool) (lim:Nat) (x y:Go.Scan.Mk) (H:Heap) (Q:Value→Heap→Prop),CallR E mp lim cl (.agg (encK x).toArray::.agg (encK y).toArray::cs) H Q=Q (.int .i64 (c x y)) H) {d:Array Go.Scan.Mk} {a b:Nat} (hd:d.size=n) (hb:b≤n) (hab:a<b) :
  CallR E false lim 92 [.slice p n cap,.int .i64 (a:Int),.int .i64 (b:Int),.func (.func cl) #[] cs.toArray] (DH encK G B d++X) Q=Q (.bool (partialInsertionSort (ltC c) d a b).2) (DH encK G B (partialInsertionSort (ltC c) d a b).1++X):=by
 refine runs (by decide) e92 rfl ?_
 rw [b92,c92]
 have hw1:IntKind.i64.wrap ((a:Int)+1)=((a+1:Nat):Int):=wrap_nat (by omega)
 generalize hT:partialInsertionSort (ltC c) d a b=T
 rw [partialInsertionSort] at hT
 have ld:=fun (i:Nat) (X:Heap) (d:Array Go.Scan.Mk) (hd:d.size=n) (hi:i<n)=>DH_ld (X:=X) (d:=d) (i:=i) hp hB encK_len (by omega);have st:=fun (i:Nat) (X:Heap) (d:Array Go.Scan.Mk) (hd:d.size=n) (hi:i<n) (y:Go.Scan.Mk)=>DH_st (X:=X) (d:=d) (i:=i) (y:=y) hp hB hl encK_len (by omega);have ix:=fun (i:Nat) (hi:i<n) c (k:IntKind) (H:Heap)=>DH_idx (e:=3) (i:=i) (n:=n) (c:=c) (k:=k) (H:=H) hp hi
 simp only [n92,r92,hw1,SB,Nat.reduceLT,callee,aOp,ne_eq,Nat.reduceEqDiff,aBin,aUn,if_true,if_false,reduceCtorEq,frame0,place,notTuple,Nat.reduceAdd,Nat.reduceLeDiff,resVal,dite_true,dite_false,Int.reduceEq,Int.reduceLT,Int.reduceLE]
 refine Ret_rounds (S:=Nat×Nat×Array Go.Scan.Mk) (fun s=>s.1) (fun s fr H=>s.1≤5∧a<s.2.1∧s.2.1≤b∧fr 0=.slice p n cap∧fr 1=.int .i64 (a:Int)∧fr 2=.int .i64 (b:Int)∧fr 3=.func (.func cl) #[] cs.toArray∧fr 9=.int .i64 (s.2.1:Int)∧fr 10=.int .i64 (5-(s.1:Int))∧
  H=DH encK G B s.2.2++X∧s.2.2.size=n∧T=partialIns (ltC c) a b s.1 s.2.1 s.2.2) (5,a+1,d) ⟨by simp only;omega,by simp only;omega,by simp only;omega,(by simp only [FB,Nat.reduceEqDiff]),(by simp only [FB,Nat.reduceEqDiff]),(by simp only [FB,Nat.reduceEqDiff]),(by simp only [FB,Nat.reduceEqDiff]),(by simp only [FB,Nat.reduceEqDiff]),by rfl,rfl,hd,hT.symm⟩ ?_
 rintro ⟨k,i,d1⟩ fr H ⟨h1,h2,h3,g0,g1,g2,g3,g9,g10,rfl,hd1,he⟩ hN
 simp only at h1 h2 h3 g9 g10 hd1 he
 rw [Ret_code l92_4.eq_1]
 cases k with
 | zero=>
   have g10':fr 10=.int .i64 5:=by simpa using g10
   clear hN g10
   simp only [n92,r92,g0,g1,g2,g3,g9,g10',SB,Nat.reduceLT,callee,aOp,ne_eq,Nat.reduceEqDiff,aBin,aUn,if_true,if_false,reduceCtorEq,frame0,place,notTuple,Nat.reduceAdd,Nat.reduceLeDiff,resVal,dite_true,dite_false,Int.reduceEq,Int.reduceLT,Int.reduceLE]
   rw [he,partialIns]
   exact ⟨rfl,rfl⟩
 | succ k=>
   have hk:(5:Int)-((k+1:Nat):Int)<5:=by omega
   have hwk:IntKind.i64.wrap ((5:Int)-((k+1:Nat):Int)+1)=5-(k:Int):=by rw [wrap_id (by omega) (by omega)];omega
   simp only [n92,r92,g0,g1,g2,g3,g9,g10,hk,SB,Nat.reduceLT,callee,aOp,ne_eq,Nat.reduceEqDiff,aBin,aUn,if_true,if_false,reduceCtorEq,frame0,place,notTuple,Nat.reduceAdd,Nat.reduceLeDiff,resVal,dite_true,dite_false,Int.reduceEq,Int.reduceLT,Int.reduceLE]
   refine Ret_rounds (S:=Nat) (fun s=>b+1-s) (fun s fr H=>i≤s∧s≤b∧fr 0=.slice p n cap∧fr 1=.int .i64 (a:Int)∧fr 2=.int .i64 (b:Int)∧fr 3=.func (.func cl) #[] cs.toArray∧fr 9=.int .i64 (s:Int)∧fr 10=.int .i64 (5-((k+1:Nat):Int))∧
    H=DH encK G B d1++X∧scanSorted (ltC c) d1 b i=scanSorted (ltC c) d1 b s) i ⟨Nat.le_refl _,h3,(by simp only [g0,FB,Nat.reduceEqDiff]),(by simp only [g1,FB,Nat.reduceEqDiff]),(by simp only [g2,FB,Nat.reduceEqDiff]),(by simp only [g3,FB,Nat.reduceEqDiff]),(by simp only [g9,FB,Nat.reduceEqDiff]),(by simp only [g10,FB,Nat.reduceEqDiff]),rfl,rfl⟩ ?_
   rintro i' fr1 H1 ⟨x1,x2,q0,q1,q2,q3,q9,q10,rfl,hs⟩ hM
   rw [Ret_code l92_3.eq_1]
   have hwi:IntKind.i64.wrap ((i':Int)-1)=((i'-1:Nat):Int):=wrap_pred (by omega) (by omega)
   have hwi1:IntKind.i64.wrap ((i':Int)+1)=((i'+1:Nat):Int):=wrap_nat (by omega)
   have hwa:IntKind.i64.wrap ((i':Int)-(a:Int))=((i'-a:Nat):Int):=by rw [wrap_id (by omega) (by omega)];omega
   have hwb:IntKind.i64.wrap ((b:Int)-(i':Int))=((b-i':Nat):Int):=by rw [wrap_id (by omega) (by omega)];omega
   have hwl:IntKind.i64.wrap ((b:Int)-(a:Int))=((b-a:Nat):Int):=by rw [wrap_id (by omega) (by omega)];omega
   have i6:i'-1<n:=by omega
   by_cases c1:i'=b
   ·subst c1
    have hs2:scanSorted (ltC c) d1 i' i=i':=by rw [hs,scanS_stop (fun q=>absurd q (Nat.lt_irrefl _))]
    have c2:¬i'<i':=Nat.lt_irrefl _
    have e:partialIns (ltC c) a i' (k+1) i d1=(d1,true):=by
     rw [partialIns];simp only [hs2];simp
    simp only [n92,r92,q0,q1,q2,q3,q9,q10,c2,ld,st,ix,List.append_nil,Array.size_setIfInBounds,encK_len,SB,Nat.reduceLT,callee,aOp,ne_eq,Nat.reduceEqDiff,aBin,aUn,if_true,if_false,reduceCtorEq,frame0,place,notTuple,Nat.reduceAdd,Nat.reduceLeDiff,resVal,dite_true,dite_false,Int.reduceEq,Int.reduceLT,Int.reduceLE]
    rw [he,e]
    exact ⟨rfl,rfl⟩
   have c2:i'<b:=by omega
   have i5:i'<n:=by omega
   have c1':¬((i':Int)=(b:Int)):=by omega
   by_cases c3:c d1[i']! d1[i'-1]!<0
   case neg=>
    simp only [n92,r92,q0,q1,q2,q3,q9,q10,c2,c3,hwi,hwi1,ld,st,ix,List.append_nil,Array.size_setIfInBounds,encK_len,hd1,i5,i6,hc,SB,Nat.reduceLT,callee,aOp,ne_eq,Nat.reduceEqDiff,aBin,aUn,if_true,if_false,reduceCtorEq,frame0,place,notTuple,Nat.reduceAdd,Nat.reduceLeDiff,resVal,dite_true,dite_false,Int.reduceEq,Int.reduceLT,Int.reduceLE]
    exact hM (i'+1) _ _ ⟨by omega,by omega,(by simp only [q0,FB,Nat.reduceEqDiff]),(by simp only [q1,FB,Nat.reduceEqDiff]),(by simp only [q2,FB,Nat.reduceEqDiff]),(by simp only [q3,FB,Nat.reduceEqDiff]),(by simp only [FB,Nat.reduceEqDiff]),(by simp only [q10,FB,Nat.reduceEqDiff]),rfl,by rw [hs,scanS_step c2 (by simp [ltC,c3])]⟩ (by omega)
   clear hM
   have hs2:scanSorted (ltC c) d1 b i=i':=by rw [hs,scanS_stop (fun _=>by simp [ltC,c3])]
   by_cases c4:b-a<50
   ·have c4':((b-a:Nat):Int)<50:=by omega
    simp only [n92,r92,q0,q1,q2,q3,q9,q10,c2,c3,c1',c4',hwi,hwl,ld,st,ix,List.append_nil,Array.size_setIfInBounds,encK_len,hd1,i5,i6,hc,SB,Nat.reduceLT,callee,aOp,ne_eq,Nat.reduceEqDiff,aBin,aUn,if_true,if_false,reduceCtorEq,frame0,place,notTuple,Nat.reduceAdd,Nat.reduceLeDiff,resVal,dite_true,dite_false,Int.reduceEq,Int.reduceLT,Int.reduceLE]
    have e:partialIns (ltC c) a b (k+1) i d1=(d1,false):=by
     rw [partialIns];simp only [hs2];rw [if_neg c1,if_pos c4]
    rw [he,e]
    exact ⟨rfl,rfl⟩
   have c4':¬((b-a:Nat):Int)<50:=by omega
   rw [partialIns_more hs2 c1 c4] at he
   by_cases hA:2≤i'-a
   ·have hAi:(2:Int)≤((i'-a:Nat):Int):=by omega
    simp only [n92,r92,q0,q1,q2,q3,q9,q10,c2,c3,c1',c4',hwi,hwl,hwa,hAi,ld,st,ix,List.append_nil,Array.size_setIfInBounds,encK_len,hd1,i5,i6,hc,SB,Nat.reduceLT,callee,aOp,ne_eq,Nat.reduceEqDiff,aBin,aUn,if_true,if_false,reduceCtorEq,frame0,place,notTuple,Nat.reduceAdd,Nat.reduceLeDiff,resVal,dite_true,dite_false,Int.reduceEq,Int.reduceLT,Int.reduceLE]
    refine Ret_rounds (S:=Nat×Array Go.Scan.Mk) (fun s=>s.1) (fun s fr H=>s.1<i'∧fr 0=.slice p n cap∧fr 1=.int .i64 (a:Int)∧fr 2=.int .i64 (b:Int)∧fr 3=.func (.func cl) #[] cs.toArray∧fr 9=.int .i64 (i':Int)∧fr 10=.int .i64 (5-((k+1:Nat):Int))∧fr 11=.int .i64 (s.1:Int)∧
     H=DH encK G B s.2++X∧s.2.size=n∧shiftDown (ltC c) (i'-1) (swp d1 i' (i'-1))=shiftDown (ltC c) s.1 s.2) (i'-1,swp d1 i' (i'-1)) ⟨by simp only;omega,(by simp only [q0,FB,Nat.reduceEqDiff]),(by simp only [q1,FB,Nat.reduceEqDiff]),(by simp only [q2,FB,Nat.reduceEqDiff]),(by simp only [q3,FB,Nat.reduceEqDiff]),(by simp only [q9,FB,Nat.reduceEqDiff]),(by simp only [q10,FB,Nat.reduceEqDiff]),(by simp only [FB,Nat.reduceEqDiff]),by simp [swp],by simp [swp,hd1],rfl⟩ ?_
    rintro ⟨v,dv⟩ frv Hv ⟨v1,v30,v31,v32,v33,v39,v310,v11,rfl,hdv,hev⟩ hV
    simp only at v1 v11 hdv hev
    rw [Ret_code l92_2.eq_1]
    cases v with
    | succ v=>
      have iv:v+1<n:=by omega
      have iv1:v<n:=by omega
      have hwv:IntKind.i64.wrap (((v+1:Nat):Int)-1)=(v:Int):=wrap_pred (n:=v+1) (by omega) (by omega)
      have cv:(1:Int)≤((v+1:Nat):Int):=by omega
      rw [shiftDown] at hev
      by_cases cv2:c dv[v+1]! dv[v]!<0
      ·rw [if_neg (by simp [ltC,cv2])] at hev
       simp only [n92,r92,v30,v31,v32,v33,v39,v310,v11,cv,cv2,hwv,ld,st,ix,List.append_nil,Array.size_setIfInBounds,encK_len,hdv,iv,iv1,hc,SB,Nat.reduceLT,callee,aOp,ne_eq,Nat.reduceEqDiff,aBin,aUn,if_true,if_false,reduceCtorEq,frame0,place,notTuple,Nat.reduceAdd,Nat.reduceLeDiff,resVal,dite_true,dite_false,Int.reduceEq,Int.reduceLT,Int.reduceLE]
       exact hV (v,swp dv (v+1) v) _ _ ⟨by simp only;omega,(by simp only [v30,FB,Nat.reduceEqDiff]),(by simp only [v31,FB,Nat.reduceEqDiff]),(by simp only [v32,FB,Nat.reduceEqDiff]),(by simp only [v33,FB,Nat.reduceEqDiff]),(by simp only [v39,FB,Nat.reduceEqDiff]),(by simp only [v310,FB,Nat.reduceEqDiff]),(by simp only [FB,Nat.reduceEqDiff]),by simp [swp],by simp [swp,hdv],hev⟩ (by simp only;omega)
      ·rw [if_pos (by simp [ltC,cv2])] at hev
       clear hV
       have hfd:fixDownC (ltC c) a i' (swp d1 i' (i'-1))=dv:=by rw [fixDownC,if_pos hA,hev]
       by_cases hB:2≤b-i'
       ·have hBi:(2:Int)≤((b-i':Nat):Int):=by omega
        simp only [n92,r92,v30,v31,v32,v33,v39,v310,hwb,hBi,hwi1,v11,cv,cv2,hwv,hdv,iv,iv1,hc,ld,st,ix,List.append_nil,Array.size_setIfInBounds,encK_len,SB,Nat.reduceLT,callee,aOp,ne_eq,Nat.reduceEqDiff,aBin,aUn,if_true,if_false,reduceCtorEq,frame0,place,notTuple,Nat.reduceAdd,Nat.reduceLeDiff,resVal,dite_true,dite_false,Int.reduceEq,Int.reduceLT,Int.reduceLE]
        generalize hU:shiftUp (ltC c) b (i'+1) (dv)=U
        refine Ret_rounds (S:=Nat×Array Go.Scan.Mk) (fun s=>b+1-s.1) (fun s fr H=>i'+1≤s.1∧s.1≤b∧fr 0=.slice p n cap∧fr 1=.int .i64 (a:Int)∧fr 2=.int .i64 (b:Int)∧fr 3=.func (.func cl) #[] cs.toArray∧fr 9=.int .i64 (i':Int)∧fr 10=.int .i64 (5-((k+1:Nat):Int))∧fr 12=.int .i64 (s.1:Int)∧
         H=DH encK G B s.2++X∧s.2.size=n∧U=shiftUp (ltC c) b s.1 s.2) (i'+1,dv) ⟨by simp only;omega,by simp only;omega,(by simp only [v30,FB,Nat.reduceEqDiff]),(by simp only [v31,FB,Nat.reduceEqDiff]),(by simp only [v32,FB,Nat.reduceEqDiff]),(by simp only [v33,FB,Nat.reduceEqDiff]),(by simp only [v39,FB,Nat.reduceEqDiff]),(by simp only [v310,FB,Nat.reduceEqDiff]),(by simp only [FB,Nat.reduceEqDiff]),by simp [swp],by simp [swp,hdv],hU.symm⟩ ?_
        rintro ⟨w,dw⟩ frw Hw ⟨w1,w2,w3,w4,w5,w6,w9,w10,w12,rfl,hdw,hew⟩ hW
        simp only at w1 w2 w12 hdw hew
        rw [Ret_code l92_1.eq_1]
        unfold shiftUp at hew
        by_cases cw:w<b
        ·have iw:w<n:=by omega
         have iw1:w-1<n:=by omega
         have hww:IntKind.i64.wrap ((w:Int)-1)=((w-1:Nat):Int):=wrap_pred (by omega) (by omega)
         have hww1:IntKind.i64.wrap ((w:Int)+1)=((w+1:Nat):Int):=wrap_nat (by omega)
         by_cases cw2:c dw[w]! dw[w-1]!<0
         ·rw [if_pos cw,if_neg (by simp [ltC,cw2])] at hew
          simp only [n92,r92,w3,w4,w5,w6,w9,w10,w12,cw,cw2,hww,hww1,ld,st,ix,List.append_nil,Array.size_setIfInBounds,encK_len,hdw,iw,iw1,hc,SB,Nat.reduceLT,callee,aOp,ne_eq,Nat.reduceEqDiff,aBin,aUn,if_true,if_false,reduceCtorEq,frame0,place,notTuple,Nat.reduceAdd,Nat.reduceLeDiff,resVal,dite_true,dite_false,Int.reduceEq,Int.reduceLT,Int.reduceLE]
          exact hW (w+1,swp dw w (w-1)) _ _ ⟨by simp only;omega,by simp only;omega,(by simp only [w3,FB,Nat.reduceEqDiff]),(by simp only [w4,FB,Nat.reduceEqDiff]),(by simp only [w5,FB,Nat.reduceEqDiff]),(by simp only [w6,FB,Nat.reduceEqDiff]),(by simp only [w9,FB,Nat.reduceEqDiff]),(by simp only [w10,FB,Nat.reduceEqDiff]),(by simp only [FB,Nat.reduceEqDiff]),by simp [swp],by simp [swp,hdw],hew⟩ (by simp only;omega)
         ·rw [if_pos cw,if_pos (by simp [ltC,cw2])] at hew
          clear hW
          simp only [n92,r92,w3,w4,w5,w6,w9,w10,w12,cw,cw2,hww,hww1,ld,st,ix,List.append_nil,Array.size_setIfInBounds,encK_len,hdw,iw,iw1,hc,hwk,SB,Nat.reduceLT,callee,aOp,ne_eq,Nat.reduceEqDiff,aBin,aUn,if_true,if_false,reduceCtorEq,frame0,place,notTuple,Nat.reduceAdd,Nat.reduceLeDiff,resVal,dite_true,dite_false,Int.reduceEq,Int.reduceLT,Int.reduceLE]
          exact hN (k,i',dw) _ _ ⟨by simp only;omega,by simp only;omega,by simp only;omega,(by simp only [w3,FB,Nat.reduceEqDiff]),(by simp only [w4,FB,Nat.reduceEqDiff]),(by simp only [w5,FB,Nat.reduceEqDiff]),(by simp only [w6,FB,Nat.reduceEqDiff]),(by simp only [w9,FB,Nat.reduceEqDiff]),(by simp only [FB,Nat.reduceEqDiff]),by simp,hdw,by rw [he,hfd,fixUpC,if_pos hB,hU,hew]⟩ (by simp only;omega)
        ·rw [if_neg cw] at hew
         clear hW
         simp only [n92,r92,w3,w4,w5,w6,w9,w10,w12,cw,ld,st,ix,List.append_nil,Array.size_setIfInBounds,encK_len,hwk,SB,Nat.reduceLT,callee,aOp,ne_eq,Nat.reduceEqDiff,aBin,aUn,if_true,if_false,reduceCtorEq,frame0,place,notTuple,Nat.reduceAdd,Nat.reduceLeDiff,resVal,dite_true,dite_false,Int.reduceEq,Int.reduceLT,Int.reduceLE]
         exact hN (k,i',dw) _ _ ⟨by simp only;omega,by simp only;omega,by simp only;omega,(by simp only [w3,FB,Nat.reduceEqDiff]),(by simp only [w4,FB,Nat.reduceEqDiff]),(by simp only [w5,FB,Nat.reduceEqDiff]),(by simp only [w6,FB,Nat.reduceEqDiff]),(by simp only [w9,FB,Nat.reduceEqDiff]),(by simp only [FB,Nat.reduceEqDiff]),by simp,hdw,by rw [he,hfd,fixUpC,if_pos hB,hU,hew]⟩ (by simp only;omega)
       ·have hBi:¬(2:Int)≤((b-i':Nat):Int):=by omega
        simp only [n92,r92,v30,v31,v32,v33,v39,v310,hwb,hBi,hwk,v11,cv,cv2,hwv,hdv,iv,iv1,hc,ld,st,ix,List.append_nil,Array.size_setIfInBounds,encK_len,SB,Nat.reduceLT,callee,aOp,ne_eq,Nat.reduceEqDiff,aBin,aUn,if_true,if_false,reduceCtorEq,frame0,place,notTuple,Nat.reduceAdd,Nat.reduceLeDiff,resVal,dite_true,dite_false,Int.reduceEq,Int.reduceLT,Int.reduceLE]
        exact hN (k,i',dv) _ _ ⟨by simp only;omega,by simp only;omega,by simp only;omega,(by simp only [v30,FB,Nat.reduceEqDiff]),(by simp only [v31,FB,Nat.reduceEqDiff]),(by simp only [v32,FB,Nat.reduceEqDiff]),(by simp only [v33,FB,Nat.reduceEqDiff]),(by simp only [v39,FB,Nat.reduceEqDiff]),(by simp only [FB,Nat.reduceEqDiff]),by simp [swp],by simp [swp,hdv],by rw [he,hfd,fixUpC,if_neg hB]⟩ (by simp only;omega)
    | zero=>
      have cv:¬(1:Int)≤((0:Nat):Int):=by omega
      rw [shiftDown] at hev
      clear hV
      have hfd:fixDownC (ltC c) a i' (swp d1 i' (i'-1))=dv:=by rw [fixDownC,if_pos hA,hev]
      by_cases hB:2≤b-i'
      ·have hBi:(2:Int)≤((b-i':Nat):Int):=by omega
       simp only [n92,r92,v30,v31,v32,v33,v39,v310,hwb,hBi,hwi1,v11,cv,ld,st,ix,List.append_nil,Array.size_setIfInBounds,encK_len,SB,Nat.reduceLT,callee,aOp,ne_eq,Nat.reduceEqDiff,aBin,aUn,if_true,if_false,reduceCtorEq,frame0,place,notTuple,Nat.reduceAdd,Nat.reduceLeDiff,resVal,dite_true,dite_false,Int.reduceEq,Int.reduceLT,Int.reduceLE]
       generalize hU:shiftUp (ltC c) b (i'+1) (dv)=U
       refine Ret_rounds (S:=Nat×Array Go.Scan.Mk) (fun s=>b+1-s.1) (fun s fr H=>i'+1≤s.1∧s.1≤b∧fr 0=.slice p n cap∧fr 1=.int .i64 (a:Int)∧fr 2=.int .i64 (b:Int)∧fr 3=.func (.func cl) #[] cs.toArray∧fr 9=.int .i64 (i':Int)∧fr 10=.int .i64 (5-((k+1:Nat):Int))∧fr 12=.int .i64 (s.1:Int)∧
        H=DH encK G B s.2++X∧s.2.size=n∧U=shiftUp (ltC c) b s.1 s.2) (i'+1,dv) ⟨by simp only;omega,by simp only;omega,(by simp only [v30,FB,Nat.reduceEqDiff]),(by simp only [v31,FB,Nat.reduceEqDiff]),(by simp only [v32,FB,Nat.reduceEqDiff]),(by simp only [v33,FB,Nat.reduceEqDiff]),(by simp only [v39,FB,Nat.reduceEqDiff]),(by simp only [v310,FB,Nat.reduceEqDiff]),(by simp only [FB,Nat.reduceEqDiff]),by simp [swp],by simp [swp,hdv],hU.symm⟩ ?_
       rintro ⟨w,dw⟩ frw Hw ⟨w1,w2,w3,w4,w5,w6,w9,w10,w12,rfl,hdw,hew⟩ hW
       simp only at w1 w2 w12 hdw hew
       rw [Ret_code l92_1.eq_1]
       unfold shiftUp at hew
       by_cases cw:w<b
       ·have iw:w<n:=by omega
        have iw1:w-1<n:=by omega
        have hww:IntKind.i64.wrap ((w:Int)-1)=((w-1:Nat):Int):=wrap_pred (by omega) (by omega)
        have hww1:IntKind.i64.wrap ((w:Int)+1)=((w+1:Nat):Int):=wrap_nat (by omega)
        by_cases cw2:c dw[w]! dw[w-1]!<0
        ·rw [if_pos cw,if_neg (by simp [ltC,cw2])] at hew
         simp only [n92,r92,w3,w4,w5,w6,w9,w10,w12,cw,cw2,hww,hww1,ld,st,ix,List.append_nil,Array.size_setIfInBounds,encK_len,hdw,iw,iw1,hc,SB,Nat.reduceLT,callee,aOp,ne_eq,Nat.reduceEqDiff,aBin,aUn,if_true,if_false,reduceCtorEq,frame0,place,notTuple,Nat.reduceAdd,Nat.reduceLeDiff,resVal,dite_true,dite_false,Int.reduceEq,Int.reduceLT,Int.reduceLE]
         exact hW (w+1,swp dw w (w-1)) _ _ ⟨by simp only;omega,by simp only;omega,(by simp only [w3,FB,Nat.reduceEqDiff]),(by simp only [w4,FB,Nat.reduceEqDiff]),(by simp only [w5,FB,Nat.reduceEqDiff]),(by simp only [w6,FB,Nat.reduceEqDiff]),(by simp only [w9,FB,Nat.reduceEqDiff]),(by simp only [w10,FB,Nat.reduceEqDiff]),(by simp only [FB,Nat.reduceEqDiff]),by simp [swp],by simp [swp,hdw],hew⟩ (by simp only;omega)
        ·rw [if_pos cw,if_pos (by simp [ltC,cw2])] at hew
         clear hW
         simp only [n92,r92,w3,w4,w5,w6,w9,w10,w12,cw,cw2,hww,hww1,ld,st,ix,List.append_nil,Array.size_setIfInBounds,encK_len,hdw,iw,iw1,hc,hwk,SB,Nat.reduceLT,callee,aOp,ne_eq,Nat.reduceEqDiff,aBin,aUn,if_true,if_false,reduceCtorEq,frame0,place,notTuple,Nat.reduceAdd,Nat.reduceLeDiff,resVal,dite_true,dite_false,Int.reduceEq,Int.reduceLT,Int.reduceLE]
         exact hN (k,i',dw) _ _ ⟨by simp only;omega,by simp only;omega,by simp only;omega,(by simp only [w3,FB,Nat.reduceEqDiff]),(by simp only [w4,FB,Nat.reduceEqDiff]),(by simp only [w5,FB,Nat.reduceEqDiff]),(by simp only [w6,FB,Nat.reduceEqDiff]),(by simp only [w9,FB,Nat.reduceEqDiff]),(by simp only [FB,Nat.reduceEqDiff]),by simp,hdw,by rw [he,hfd,fixUpC,if_pos hB,hU,hew]⟩ (by simp only;omega)
       ·rw [if_neg cw] at hew
        clear hW
        simp only [n92,r92,w3,w4,w5,w6,w9,w10,w12,cw,ld,st,ix,List.append_nil,Array.size_setIfInBounds,encK_len,hwk,SB,Nat.reduceLT,callee,aOp,ne_eq,Nat.reduceEqDiff,aBin,aUn,if_true,if_false,reduceCtorEq,frame0,place,notTuple,Nat.reduceAdd,Nat.reduceLeDiff,resVal,dite_true,dite_false,Int.reduceEq,Int.reduceLT,Int.reduceLE]
        exact hN (k,i',dw) _ _ ⟨by simp only;omega,by simp only;omega,by simp only;omega,(by simp only [w3,FB,Nat.reduceEqDiff]),(by simp only [w4,FB,Nat.reduceEqDiff]),(by simp only [w5,FB,Nat.reduceEqDiff]),(by simp only [w6,FB,Nat.reduceEqDiff]),(by simp only [w9,FB,Nat.reduceEqDiff]),(by simp only [FB,Nat.reduceEqDiff]),by simp,hdw,by rw [he,hfd,fixUpC,if_pos hB,hU,hew]⟩ (by simp only;omega)
      ·have hBi:¬(2:Int)≤((b-i':Nat):Int):=by omega
       simp only [n92,r92,v30,v31,v32,v33,v39,v310,hwb,hBi,hwk,v11,cv,ld,st,ix,List.append_nil,Array.size_setIfInBounds,encK_len,SB,Nat.reduceLT,callee,aOp,ne_eq,Nat.reduceEqDiff,aBin,aUn,if_true,if_false,reduceCtorEq,frame0,place,notTuple,Nat.reduceAdd,Nat.reduceLeDiff,resVal,dite_true,dite_false,Int.reduceEq,Int.reduceLT,Int.reduceLE]
       exact hN (k,i',dv) _ _ ⟨by simp only;omega,by simp only;omega,by simp only;omega,(by simp only [v30,FB,Nat.reduceEqDiff]),(by simp only [v31,FB,Nat.reduceEqDiff]),(by simp only [v32,FB,Nat.reduceEqDiff]),(by simp only [v33,FB,Nat.reduceEqDiff]),(by simp only [v39,FB,Nat.reduceEqDiff]),(by simp only [FB,Nat.reduceEqDiff]),by simp [swp],by simp [swp,hdv],by rw [he,hfd,fixUpC,if_neg hB]⟩ (by simp only;omega)
   ·have hAi:¬(2:Int)≤((i'-a:Nat):Int):=by omega
    have hfd:fixDownC (ltC c) a i' (swp d1 i' (i'-1))=swp d1 i' (i'-1):=by rw [fixDownC,if_neg hA]
    have hsz:(swp d1 i' (i'-1)).size=n:=by simp [swp,hd1]
    by_cases hB:2≤b-i'
    ·have hBi:(2:Int)≤((b-i':Nat):Int):=by omega
     simp only [n92,r92,q0,q1,q2,q3,q9,q10,hwb,hBi,hwi1,c2,c3,c1',c4',hwi,hwl,hwa,hAi,hd1,i5,i6,hc,ld,st,ix,List.append_nil,Array.size_setIfInBounds,encK_len,SB,Nat.reduceLT,callee,aOp,ne_eq,Nat.reduceEqDiff,aBin,aUn,if_true,if_false,reduceCtorEq,frame0,place,notTuple,Nat.reduceAdd,Nat.reduceLeDiff,resVal,dite_true,dite_false,Int.reduceEq,Int.reduceLT,Int.reduceLE]
     generalize hU:shiftUp (ltC c) b (i'+1) (swp d1 i' (i'-1))=U
     refine Ret_rounds (S:=Nat×Array Go.Scan.Mk) (fun s=>b+1-s.1) (fun s fr H=>i'+1≤s.1∧s.1≤b∧fr 0=.slice p n cap∧fr 1=.int .i64 (a:Int)∧fr 2=.int .i64 (b:Int)∧fr 3=.func (.func cl) #[] cs.toArray∧fr 9=.int .i64 (i':Int)∧fr 10=.int .i64 (5-((k+1:Nat):Int))∧fr 12=.int .i64 (s.1:Int)∧
      H=DH encK G B s.2++X∧s.2.size=n∧U=shiftUp (ltC c) b s.1 s.2) (i'+1,swp d1 i' (i'-1)) ⟨by simp only;omega,by simp only;omega,(by simp only [q0,FB,Nat.reduceEqDiff]),(by simp only [q1,FB,Nat.reduceEqDiff]),(by simp only [q2,FB,Nat.reduceEqDiff]),(by simp only [q3,FB,Nat.reduceEqDiff]),(by simp only [q9,FB,Nat.reduceEqDiff]),(by simp only [q10,FB,Nat.reduceEqDiff]),(by simp only [FB,Nat.reduceEqDiff]),by simp [swp],by simp [swp,hd1],hU.symm⟩ ?_
     rintro ⟨w,dw⟩ frw Hw ⟨w1,w2,w3,w4,w5,w6,w9,w10,w12,rfl,hdw,hew⟩ hW
     simp only at w1 w2 w12 hdw hew
     rw [Ret_code l92_1.eq_1]
     unfold shiftUp at hew
     by_cases cw:w<b
     ·have iw:w<n:=by omega
      have iw1:w-1<n:=by omega
      have hww:IntKind.i64.wrap ((w:Int)-1)=((w-1:Nat):Int):=wrap_pred (by omega) (by omega)
      have hww1:IntKind.i64.wrap ((w:Int)+1)=((w+1:Nat):Int):=wrap_nat (by omega)
      by_cases cw2:c dw[w]! dw[w-1]!<0
      ·rw [if_pos cw,if_neg (by simp [ltC,cw2])] at hew
       simp only [n92,r92,w3,w4,w5,w6,w9,w10,w12,cw,cw2,hww,hww1,ld,st,ix,List.append_nil,Array.size_setIfInBounds,encK_len,hdw,iw,iw1,hc,SB,Nat.reduceLT,callee,aOp,ne_eq,Nat.reduceEqDiff,aBin,aUn,if_true,if_false,reduceCtorEq,frame0,place,notTuple,Nat.reduceAdd,Nat.reduceLeDiff,resVal,dite_true,dite_false,Int.reduceEq,Int.reduceLT,Int.reduceLE]
       exact hW (w+1,swp dw w (w-1)) _ _ ⟨by simp only;omega,by simp only;omega,(by simp only [w3,FB,Nat.reduceEqDiff]),(by simp only [w4,FB,Nat.reduceEqDiff]),(by simp only [w5,FB,Nat.reduceEqDiff]),(by simp only [w6,FB,Nat.reduceEqDiff]),(by simp only [w9,FB,Nat.reduceEqDiff]),(by simp only [w10,FB,Nat.reduceEqDiff]),(by simp only [FB,Nat.reduceEqDiff]),by simp [swp],by simp [swp,hdw],hew⟩ (by simp only;omega)
      ·rw [if_pos cw,if_pos (by simp [ltC,cw2])] at hew
       clear hW
       simp only [n92,r92,w3,w4,w5,w6,w9,w10,w12,cw,cw2,hww,hww1,ld,st,ix,List.append_nil,Array.size_setIfInBounds,encK_len,hdw,iw,iw1,hc,hwk,SB,Nat.reduceLT,callee,aOp,ne_eq,Nat.reduceEqDiff,aBin,aUn,if_true,if_false,reduceCtorEq,frame0,place,notTuple,Nat.reduceAdd,Nat.reduceLeDiff,resVal,dite_true,dite_false,Int.reduceEq,Int.reduceLT,Int.reduceLE]
       exact hN (k,i',dw) _ _ ⟨by simp only;omega,by simp only;omega,by simp only;omega,(by simp only [w3,FB,Nat.reduceEqDiff]),(by simp only [w4,FB,Nat.reduceEqDiff]),(by simp only [w5,FB,Nat.reduceEqDiff]),(by simp only [w6,FB,Nat.reduceEqDiff]),(by simp only [w9,FB,Nat.reduceEqDiff]),(by simp only [FB,Nat.reduceEqDiff]),by simp,hdw,by rw [he,hfd,fixUpC,if_pos hB,hU,hew]⟩ (by simp only;omega)
     ·rw [if_neg cw] at hew
      clear hW
      simp only [n92,r92,w3,w4,w5,w6,w9,w10,w12,cw,ld,st,ix,List.append_nil,Array.size_setIfInBounds,encK_len,hwk,SB,Nat.reduceLT,callee,aOp,ne_eq,Nat.reduceEqDiff,aBin,aUn,if_true,if_false,reduceCtorEq,frame0,place,notTuple,Nat.reduceAdd,Nat.reduceLeDiff,resVal,dite_true,dite_false,Int.reduceEq,Int.reduceLT,Int.reduceLE]
      exact hN (k,i',dw) _ _ ⟨by simp only;omega,by simp only;omega,by simp only;omega,(by simp only [w3,FB,Nat.reduceEqDiff]),(by simp only [w4,FB,Nat.reduceEqDiff]),(by simp only [w5,FB,Nat.reduceEqDiff]),(by simp only [w6,FB,Nat.reduceEqDiff]),(by simp only [w9,FB,Nat.reduceEqDiff]),(by simp only [FB,Nat.reduceEqDiff]),by simp,hdw,by rw [he,hfd,fixUpC,if_pos hB,hU,hew]⟩ (by simp only;omega)
    ·have hBi:¬(2:Int)≤((b-i':Nat):Int):=by omega
     simp only [n92,r92,q0,q1,q2,q3,q9,q10,hwb,hBi,hwk,c2,c3,c1',c4',hwi,hwl,hwa,hAi,hd1,i5,i6,hc,ld,st,ix,List.append_nil,Array.size_setIfInBounds,encK_len,SB,Nat.reduceLT,callee,aOp,ne_eq,Nat.reduceEqDiff,aBin,aUn,if_true,if_false,reduceCtorEq,frame0,place,notTuple,Nat.reduceAdd,Nat.reduceLeDiff,resVal,dite_true,dite_false,Int.reduceEq,Int.reduceLT,Int.reduceLE]
     exact hN (k,i',swp d1 i' (i'-1)) _ _ ⟨by simp only;omega,by simp only;omega,by simp only;omega,(by simp only [q0,FB,Nat.reduceEqDiff]),(by simp only [q1,FB,Nat.reduceEqDiff]),(by simp only [q2,FB,Nat.reduceEqDiff]),(by simp only [q3,FB,Nat.reduceEqDiff]),(by simp only [q9,FB,Nat.reduceEqDiff]),(by simp only [FB,Nat.reduceEqDiff]),by simp [swp],by simp [swp,hd1],by rw [he,hfd,fixUpC,if_neg hB]⟩ (by simp only;omega)
section
variable {α:Type} {enc:α→List Value} {G X:Heap} {B:Nat} {d:Array α} {c:Blk}
theorem cnt_len:(DH enc G B d++X).length=G.length+X.length:=by rw [List.length_append,DH_len]
theorem cnt_get:hget (DH enc G B d++(X++[c])) (G.length+X.length)=c:=by
 rw [←List.append_assoc,←cnt_len (enc:=enc) (B:=B) (d:=d)];exact hget_new0
theorem cnt_set {c':Blk}:(DH enc G B d++(X++[c])).set (G.length+X.length) c'=DH enc G B d++(X++[c']):=by
 rw [←List.append_assoc,←cnt_len (enc:=enc) (B:=B) (d:=d),set_new0];simp
end
theorem ord_ok [OB] {G X:Heap} {B lim cap n:Nat} {p:Option Addr} {c:Go.Scan.Mk→Go.Scan.Mk→Int} {cl:FuncId} {cs:List Value} (hp:p=some ⟨B,0,none⟩) (hB:B<G.length) (hl:lim≤B) (hn2:n<2 ^ 61) (hc:∀(mp:Bool) (lim:Nat) (x y:Go.Scan.Mk) (H:Heap) (Q:Value→Heap→Prop),CallR E mp lim cl (.agg (encK x).toArray::.agg (encK y).toArray::cs) H Q=Q (.int .i64 (c x y)) H) {d:Array Go.Scan.Mk} {a b s:Nat} (hd:d.size=n) (ha:a<n) (hb:b<n) (hs:s<100) :
  ∃x y s':Nat,(x=a∧y=b∨x=b∧y=a)∧s'≤s+1∧∀Q,CallR E false lim 99 [.slice p n cap,.int .i64 (a:Int),.int .i64 (b:Int),.pointer (some ⟨G.length+X.length,0,none⟩),.func (.func cl) #[] cs.toArray] (DH encK G B d++(X++[.cells false [.int .i64 (s:Int)]])) Q =
   Q (.tuple #[.int .i64 (x:Int),.int .i64 (y:Int)]) (DH encK G B d++(X++[.cells false [.int .i64 (s':Int)]])):=by
 have ld:=fun (i:Nat) (X:Heap) (d:Array Go.Scan.Mk) (hd:d.size=n) (hi:i<n)=>DH_ld (X:=X) (d:=d) (i:=i) hp hB encK_len (by omega);have st:=fun (i:Nat) (X:Heap) (d:Array Go.Scan.Mk) (hd:d.size=n) (hi:i<n) (y:Go.Scan.Mk)=>DH_st (X:=X) (d:=d) (i:=i) (y:=y) hp hB hl encK_len (by omega);have ix:=fun (i:Nat) (hi:i<n) c (k:IntKind) (H:Heap)=>DH_idx (e:=3) (i:=i) (n:=n) (c:=c) (k:=k) (H:=H) hp hi
 have hw:IntKind.i64.wrap ((s:Int)+1)=((s+1:Nat):Int):=wrap_nat (by omega)
 have hlG:lim≤G.length+X.length:=by omega
 by_cases c1:c d[b]! d[a]!<0
 ·refine ⟨b,a,s+1,.inr ⟨rfl,rfl⟩,Nat.le_refl _,fun Q=>runs (by decide) e99 rfl ?_⟩
  rw [b99,c99]
  simp only [n99,r99,ld,st,ix,List.append_nil,Array.size_setIfInBounds,encK_len,hd,ha,hb,hc,c1,cnt_get,cnt_set,hw,hlG,SB,Nat.reduceLT,callee,aOp,ne_eq,Nat.reduceEqDiff,aBin,aUn,if_true,if_false,reduceCtorEq,frame0,place,notTuple,Nat.reduceAdd,Nat.reduceLeDiff,resVal,dite_true,dite_false,Int.reduceEq,Int.reduceLT,Int.reduceLE]
 ·refine ⟨a,b,s,.inl ⟨rfl,rfl⟩,by omega,fun Q=>runs (by decide) e99 rfl ?_⟩
  rw [b99,c99]
  simp only [n99,r99,ld,st,ix,List.append_nil,Array.size_setIfInBounds,encK_len,hd,ha,hb,hc,c1,SB,Nat.reduceLT,callee,aOp,ne_eq,Nat.reduceEqDiff,aBin,aUn,if_true,if_false,reduceCtorEq,frame0,place,notTuple,Nat.reduceAdd,Nat.reduceLeDiff,resVal,dite_true,dite_false,Int.reduceEq,Int.reduceLT,Int.reduceLE]
theorem med_ok [OB] {G X:Heap} {B lim cap n:Nat} {p:Option Addr} {c:Go.Scan.Mk→Go.Scan.Mk→Int} {cl:FuncId} {cs:List Value} (hp:p=some ⟨B,0,none⟩) (hB:B<G.length) (hl:lim≤B) (hn2:n<2 ^ 61) (hc:∀(mp:Bool) (lim:Nat) (x y:Go.Scan.Mk) (H:Heap) (Q:Value→Heap→Prop),CallR E mp lim cl (.agg (encK x).toArray::.agg (encK y).toArray::cs) H Q=Q (.int .i64 (c x y)) H) {d:Array Go.Scan.Mk} {a b e s:Nat} (hd:d.size=n) (ha:a<n) (hb:b<n) (he:e<n) (hs:s<90) :
  ∃x s':Nat,(x=a∨x=b∨x=e)∧s'≤s+3∧∀Q,CallR E false lim 98 [.slice p n cap,.int .i64 (a:Int),.int .i64 (b:Int),.int .i64 (e:Int),.pointer (some ⟨G.length+X.length,0,none⟩),.func (.func cl) #[] cs.toArray] (DH encK G B d++(X++[.cells false [.int .i64 (s:Int)]])) Q =
   Q (.int .i64 (x:Int)) (DH encK G B d++(X++[.cells false [.int .i64 (s':Int)]])):=by
 obtain ⟨x1,y1,s1,h1,k1,o1⟩:=ord_ok (X:=X) (cap:=cap) (lim:=lim) hp hB hl hn2 hc hd ha hb (show s<100 by omega)
 obtain ⟨x2,y2,s2,h2,k2,o2⟩:=ord_ok (X:=X) (cap:=cap) (lim:=lim) hp hB hl hn2 hc hd (show y1<n by omega) he (show s1<100 by omega)
 obtain ⟨x3,y3,s3,h3,k3,o3⟩:=ord_ok (X:=X) (cap:=cap) (lim:=lim) hp hB hl hn2 hc hd (show x1<n by omega) (show x2<n by omega) (show s2<100 by omega)
 refine ⟨y3,s3,by omega,by omega,fun Q=>runs (by decide) e98 rfl ?_⟩
 rw [b98,c98]
 simp only [n98,r98,o1,o2,o3,SB,Nat.reduceLT,callee,aOp,ne_eq,Nat.reduceEqDiff,aBin,aUn,if_true,if_false,reduceCtorEq,frame0,place,notTuple,Nat.reduceAdd,Nat.reduceLeDiff,resVal,dite_true,dite_false,Int.reduceEq,Int.reduceLT,Int.reduceLE]
theorem meda_ok [OB] {G X:Heap} {B lim cap n:Nat} {p:Option Addr} {c:Go.Scan.Mk→Go.Scan.Mk→Int} {cl:FuncId} {cs:List Value} (hp:p=some ⟨B,0,none⟩) (hB:B<G.length) (hl:lim≤B) (hn2:n<2 ^ 61) (hc:∀(mp:Bool) (lim:Nat) (x y:Go.Scan.Mk) (H:Heap) (Q:Value→Heap→Prop),CallR E mp lim cl (.agg (encK x).toArray::.agg (encK y).toArray::cs) H Q=Q (.int .i64 (c x y)) H) {d:Array Go.Scan.Mk} {a s:Nat} (hd:d.size=n) (h0:0<a) (ha:a+1<n) (hs:s<90) :
  ∃x s':Nat,a≤x+1∧x≤a+1∧s'≤s+3∧∀Q,CallR E false lim 97 [.slice p n cap,.int .i64 (a:Int),.pointer (some ⟨G.length+X.length,0,none⟩),.func (.func cl) #[] cs.toArray] (DH encK G B d++(X++[.cells false [.int .i64 (s:Int)]])) Q =
   Q (.int .i64 (x:Int)) (DH encK G B d++(X++[.cells false [.int .i64 (s':Int)]])):=by
 obtain ⟨x1,s1,h1,k1,o1⟩:=med_ok (X:=X) (cap:=cap) (lim:=lim) (a:=a-1) (b:=a) (e:=a+1) hp hB hl hn2 hc hd (by omega) (by omega) (by omega) hs
 have hw1:IntKind.i64.wrap ((a:Int)-1)=((a-1:Nat):Int):=wrap_pred (by omega) (by omega)
 have hw2:IntKind.i64.wrap ((a:Int)+1)=((a+1:Nat):Int):=wrap_nat (by omega)
 refine ⟨x1,s1,by omega,by omega,k1,fun Q=>runs (by decide) e97 rfl ?_⟩
 rw [b97,c97]
 simp only [n97,r97,hw1,hw2,o1,SB,Nat.reduceLT,callee,aOp,ne_eq,Nat.reduceEqDiff,aBin,aUn,if_true,if_false,reduceCtorEq,frame0,place,notTuple,Nat.reduceAdd,Nat.reduceLeDiff,resVal,dite_true,dite_false,Int.reduceEq,Int.reduceLT,Int.reduceLE]
theorem wrap_int {m:Int} {k:Nat} (h:m=(k:Int)) (hk:k<2 ^ 62):IntKind.i64.wrap m=(k:Int):=by
 subst h;exact wrap_id (by omega) (by omega)
theorem tdiv_nat {a b:Nat}:(a:Int).tdiv (b:Int)=((a / b:Nat):Int):=by
 rw [Int.tdiv_eq_ediv_of_nonneg (by omega)];rfl
theorem cho_ok [OB] {G X:Heap} {B lim cap n:Nat} {p:Option Addr} {c:Go.Scan.Mk→Go.Scan.Mk→Int} {cl:FuncId} {cs:List Value} (hp:p=some ⟨B,0,none⟩) (hB:B<G.length) (hl:lim≤B) (hn2:n<2 ^ 61) (hc:∀(mp:Bool) (lim:Nat) (x y:Go.Scan.Mk) (H:Heap) (Q:Value→Heap→Prop),CallR E mp lim cl (.agg (encK x).toArray::.agg (encK y).toArray::cs) H Q=Q (.int .i64 (c x y)) H) {d:Array Go.Scan.Mk} {a b:Nat} (hd:d.size=n) (hb:b≤n) (hab:a+12<b) :
  ∃v h s:Nat,a≤v∧v<b∧h≤2∧∀Q,CallR E false lim 90 [.slice p n cap,.int .i64 (a:Int),.int .i64 (b:Int),.func (.func cl) #[] cs.toArray] (DH encK G B d++X) Q =
   Q (.tuple #[.int .i64 (v:Int),.int .i64 (h:Int)]) (DH encK G B d++(X++[.cells false [.int .i64 (s:Int)]])):=by
 obtain ⟨l,rfl⟩:∃l,b=a+l:=⟨b-a,by omega⟩
 have hw0:IntKind.i64.wrap (((a+l:Nat):Int)-(a:Int))=(l:Int):=wrap_int (by omega) (by omega)
 have hq:(l:Int).tdiv 4=((l / 4:Nat):Int):=tdiv_nat (b:=4)
 have hw1:IntKind.i64.wrap ((l / 4:Nat):Int)=((l / 4:Nat):Int):=wrap_int rfl (by omega)
 have hw2:IntKind.i64.wrap (((l / 4:Nat):Int)*1)=((l / 4:Nat):Int):=wrap_int (by omega) (by omega)
 have hw3:IntKind.i64.wrap (((l / 4:Nat):Int)*2)=((l / 4*2:Nat):Int):=wrap_int (by omega) (by omega)
 have hw4:IntKind.i64.wrap (((l / 4:Nat):Int)*3)=((l / 4*3:Nat):Int):=wrap_int (by omega) (by omega)
 have hw5:IntKind.i64.wrap ((a:Int)+((l / 4:Nat):Int))=((a+l / 4:Nat):Int):=wrap_int (by omega) (by omega)
 have hw6:IntKind.i64.wrap ((a:Int)+((l / 4*2:Nat):Int))=((a+l / 4*2:Nat):Int):=wrap_int (by omega) (by omega)
 have hw7:IntKind.i64.wrap ((a:Int)+((l / 4*3:Nat):Int))=((a+l / 4*3:Nat):Int):=wrap_int (by omega) (by omega)
 have c8:(8:Int)≤(l:Int):=by omega
 have key:∀(x y z s:Nat),a≤x→x<a+l→a≤y→y<a+l→a≤z→z<a+l→s<80→∃v s':Nat,a≤v∧v<a+l∧∀Q,CallR E false lim 98 [.slice p n cap,.int .i64 (x:Int),.int .i64 (y:Int),.int .i64 (z:Int),.pointer (some ⟨G.length+X.length,0,none⟩),.func (.func cl) #[] cs.toArray] (DH encK G B d++(X++[.cells false [.int .i64 (s:Int)]])) Q =
   Q (.int .i64 (v:Int)) (DH encK G B d++(X++[.cells false [.int .i64 (s':Int)]])):=by
  intro x y z s q1 q2 q3 q4 q5 q6 q7
  obtain ⟨v,s',m1,_,m2⟩:=med_ok (X:=X) (cap:=cap) (lim:=lim) (a:=x) (b:=y) (e:=z) hp hB hl hn2 hc hd (by omega) (by omega) (by omega) (show s<90 by omega)
  exact ⟨v,s',by omega,by omega,m2⟩
 have fin:∀(v s':Nat) ,∃h:Nat,h≤2∧((s'=0∧h=1)∨(¬(s':Int)=0∧s'=12∧h=2)∨(¬(s':Int)=0∧¬(s':Int)=12∧h=0)):=by
  intro v s'
  by_cases z:s'=0
  ·exact ⟨1,by omega,.inl ⟨z,rfl⟩⟩
  ·by_cases z2:s'=12
   ·exact ⟨2,by omega,.inr (.inl ⟨by omega,z2,rfl⟩)⟩
   ·exact ⟨0,by omega,.inr (.inr ⟨by omega,by omega,rfl⟩)⟩
 by_cases c50:50≤l
 ·have c50':(50:Int)≤(l:Int):=by omega
  obtain ⟨x1,s1,h1,h2,h3,o1⟩:=meda_ok (X:=X) (cap:=cap) (lim:=lim) (a:=a+l / 4) (s:=0) hp hB hl hn2 hc hd (by omega) (by omega) (by omega)
  obtain ⟨x2,s2,h4,h5,h6,o2⟩:=meda_ok (X:=X) (cap:=cap) (lim:=lim) (a:=a+l / 4*2) (s:=s1) hp hB hl hn2 hc hd (by omega) (by omega) (by omega)
  obtain ⟨x3,s3,h7,h8,h9,o3⟩:=meda_ok (X:=X) (cap:=cap) (lim:=lim) (a:=a+l / 4*3) (s:=s2) hp hB hl hn2 hc hd (by omega) (by omega) (by omega)
  obtain ⟨v,s',m1,m2,om⟩:=key x1 x2 x3 s3 (by omega) (by omega) (by omega) (by omega) (by omega) (by omega) (by omega)
  obtain ⟨h,hh,hc'⟩:=fin v s'
  refine ⟨v,h,s',m1,m2,hh,fun Q=>runs (by decide) e90 rfl ?_⟩
  rw [b90,c90]
  simp only [show ((0:Nat):Int)=0 from rfl] at o1
  rcases hc' with ⟨rfl,rfl⟩ | ⟨z1,rfl,rfl⟩ | ⟨z1,z2,rfl⟩
  ·simp only [n90,r90,hw0,hq,hw1,hw2,hw3,hw4,hw5,hw6,hw7,c8,c50',o1,o2,o3,om,cnt_get,cnt_set,DH_len,SB,Nat.reduceLT,callee,aOp,ne_eq,Nat.reduceEqDiff,aBin,aUn,if_true,if_false,reduceCtorEq,frame0,place,notTuple,Nat.reduceAdd,Nat.reduceLeDiff,resVal,dite_true,dite_false,Int.reduceEq,Int.reduceLT,Int.reduceLE]
  ·simp only [n90,r90,hw0,hq,hw1,hw2,hw3,hw4,hw5,hw6,hw7,c8,c50',o1,o2,o3,om,cnt_get,cnt_set,DH_len,SB,Nat.reduceLT,callee,aOp,ne_eq,Nat.reduceEqDiff,aBin,aUn,if_true,if_false,reduceCtorEq,frame0,place,notTuple,Nat.reduceAdd,Nat.reduceLeDiff,resVal,dite_true,dite_false,Int.reduceEq,Int.reduceLT,Int.reduceLE]
  ·simp only [n90,r90,hw0,hq,hw1,hw2,hw3,hw4,hw5,hw6,hw7,c8,c50',o1,o2,o3,om,z1,z2,cnt_get,cnt_set,DH_len,SB,Nat.reduceLT,callee,aOp,ne_eq,Nat.reduceEqDiff,aBin,aUn,if_true,if_false,reduceCtorEq,frame0,place,notTuple,Nat.reduceAdd,Nat.reduceLeDiff,resVal,dite_true,dite_false,Int.reduceEq,Int.reduceLT,Int.reduceLE]
 ·have c50':¬(50:Int)≤(l:Int):=by omega
  obtain ⟨v,s',m1,m2,om⟩:=key (a+l / 4) (a+l / 4*2) (a+l / 4*3) 0 (by omega) (by omega) (by omega) (by omega) (by omega) (by omega) (by omega)
  obtain ⟨h,hh,hc'⟩:=fin v s'
  refine ⟨v,h,s',m1,m2,hh,fun Q=>runs (by decide) e90 rfl ?_⟩
  rw [b90,c90]
  simp only [show ((0:Nat):Int)=0 from rfl] at om
  rcases hc' with ⟨rfl,rfl⟩ | ⟨z1,rfl,rfl⟩ | ⟨z1,z2,rfl⟩
  ·simp only [n90,r90,hw0,hq,hw1,hw2,hw3,hw4,hw5,hw6,hw7,c8,c50',om,cnt_get,cnt_set,DH_len,SB,Nat.reduceLT,callee,aOp,ne_eq,Nat.reduceEqDiff,aBin,aUn,if_true,if_false,reduceCtorEq,frame0,place,notTuple,Nat.reduceAdd,Nat.reduceLeDiff,resVal,dite_true,dite_false,Int.reduceEq,Int.reduceLT,Int.reduceLE]
  ·simp only [n90,r90,hw0,hq,hw1,hw2,hw3,hw4,hw5,hw6,hw7,c8,c50',om,cnt_get,cnt_set,DH_len,SB,Nat.reduceLT,callee,aOp,ne_eq,Nat.reduceEqDiff,aBin,aUn,if_true,if_false,reduceCtorEq,frame0,place,notTuple,Nat.reduceAdd,Nat.reduceLeDiff,resVal,dite_true,dite_false,Int.reduceEq,Int.reduceLT,Int.reduceLE]
  ·simp only [n90,r90,hw0,hq,hw1,hw2,hw3,hw4,hw5,hw6,hw7,c8,c50',om,z1,z2,cnt_get,cnt_set,DH_len,SB,Nat.reduceLT,callee,aOp,ne_eq,Nat.reduceEqDiff,aBin,aUn,if_true,if_false,reduceCtorEq,frame0,place,notTuple,Nat.reduceAdd,Nat.reduceLeDiff,resVal,dite_true,dite_false,Int.reduceEq,Int.reduceLT,Int.reduceLE]
def len8:List UInt8:=[0,1,2,2,3,3,3,3,4,4,4,4,4,4,4,4,5,5,5,5,5,5,5,5,5,5,5,5,5,5,5,5,6,6,6,6,6,6,6,6,6,6,6,6,6,6,6,6,6,6,6,6,6,6,6,6,6,6,6,6,6,6,6,6,7,7,7,7,7,7,7,7,7,7,7,7,7,7,7,7,7,7,7,7,7,7,7,7,7,7,7,7,7,7,7,7,7,7,7,7,7,7,7,7,7,7,7,7,7,7,7,7,7,7,7,7,7,7,7,7,7,7,7,7,7,7,7,7,8,8,8,8,8,8,8,8,8,8,8,8,8,8,8,8,8,8,8,8,8,8,8,8,8,8,8,8,8,8,8,8,8,8,8,8,8,8,8,8,8,8,8,8,8,8,8,8,8,8,8,8,8,8,8,8,8,8,8,8,8,8,8,8,8,8,8,8,8,8,8,8,8,8,8,8,8,8,8,8,8,8,8,8,8,8,8,8,8,8,8,8,8,8,8,8,8,8,8,8,8,8,8,8,8,8,8,8,8,8,8,8,8,8,8,8,8,8,8,8,8,8,8,8,8,8,8,8]
theorem len8_len:len8.length=256:=by decide
theorem len8_ok:∀m,m<256→m<2 ^ (len8.getD m 0).toNat∧(m=0∨2 ^ (len8.getD m 0).toNat≤2*m)∧(len8.getD m 0).toNat≤8:=by decide +kernel
theorem len8_get {m:Nat} (h:m<256):len8[m]? = some (len8.getD m 0):=by
 rw [List.getD_eq_getElem?_getD,List.getElem?_eq_getElem (by rw [len8_len];exact h)];rfl
theorem wrap64 {n:Int}:IntKind.u64.wrap n=n % 2 ^ 64:=by simp [IntKind.wrap,IntKind.bits,IntKind.signed]
theorem wrap8 {n:Int}:IntKind.u8.wrap n=n % 2 ^ 8:=by simp [IntKind.wrap,IntKind.bits,IntKind.signed]
theorem fd8 {a:Int}:a.fdiv (2 ^ min (Int.toNat 8) IntKind.u64.bits)=a / 256:=by
 rw [show (2:Int) ^ min (Int.toNat 8) IntKind.u64.bits=256 from by decide,Int.fdiv_eq_ediv_of_nonneg _ (by decide)]
theorem len_ok [OB] {x:Nat} (hx:x<65536) (h0:0<x):∃L:Nat,x<2 ^ L∧2 ^ L≤2*x∧L≤16∧∀(mp:Bool) (lim:Nat) (H:Heap) (Q:Value→Heap→Prop),CallR E mp lim 60 [.int .u64 (x:Int)] H Q=Q (.int .i64 (L:Int)) H:=by
 have key:∃L:Nat,x<2 ^ L∧2 ^ L≤2*x∧L≤16∧∀(mp:Bool) (lim:Nat) (H:Heap) (Q:Value→Heap→Prop),CallR E mp lim 78 [.int .u64 (x:Int)] H Q=Q (.int .i64 (L:Int)) H:=by
  have c32:¬(4294967296:Int)≤(x:Int):=by omega
  have c16:¬(65536:Int)≤(x:Int):=by omega
  by_cases c8:256≤x
  ·obtain ⟨h1,h2,h3⟩:=len8_ok (x / 256) (by omega)
   have hg:=len8_get (m:=x / 256) (by omega)
   generalize hb:len8.getD (x / 256) 0=b at h1 h2 h3 hg
   have h2':2 ^ b.toNat≤2*(x / 256):=by rcases h2 with h | h<;>omega
   have e:(2:Nat) ^ (8+b.toNat)=256*2 ^ b.toNat:=by rw [Nat.pow_add]
   refine ⟨8+b.toNat,by rw [e];omega,by rw [e];omega,by omega,fun mp lim H Q=>?_⟩
   refine pc (by decide) e78 rfl rfl ?_
   rw [b78,c78]
   unfold len8 at hg
   have c8':(256:Int)≤(x:Int):=by omega
   have w1:IntKind.u64.wrap ((x:Int) / 256)=((x / 256:Nat):Int):=by rw [wrap64];omega
   have w2:IntKind.u8.wrap ((x:Int) / 256)=((x / 256:Nat):Int):=by rw [wrap8];omega
   have w3:IntKind.i64.wrap ((b.toNat:Nat):Int)=(b.toNat:Int):=wrap_int rfl (by omega)
   have w4:IntKind.i64.wrap (8+(b.toNat:Int))=((8+b.toNat:Nat):Int):=wrap_int (by omega) (by omega)
   have w5:IntKind.i64.wrap 8=8:=by decide
   have w6:(0:Int)≤((x / 256:Nat):Int):=by omega
   simp only [n78,r78,c32,c16,c8',fd8,w1,w2,w3,w4,w5,w6,hg,Int.toNat_natCast,Int.zero_add,SB,Nat.reduceLT,callee,aOp,ne_eq,Nat.reduceEqDiff,aBin,aUn,if_true,if_false,reduceCtorEq,frame0,place,notTuple,Nat.reduceAdd,Nat.reduceLeDiff,resVal,dite_true,dite_false,Int.reduceEq,Int.reduceLT,Int.reduceLE]
  ·obtain ⟨h1,h2,h3⟩:=len8_ok x (by omega)
   have hg:=len8_get (m:=x) (by omega)
   generalize hb:len8.getD x 0=b at h1 h2 h3 hg
   refine ⟨b.toNat,h1,by rcases h2 with h | h<;>omega,by omega,fun mp lim H Q=>?_⟩
   refine pc (by decide) e78 rfl rfl ?_
   rw [b78,c78]
   unfold len8 at hg
   have c8':¬(256:Int)≤(x:Int):=by omega
   have w2:IntKind.u8.wrap (x:Int)=(x:Int):=by rw [wrap8];omega
   have w3:IntKind.i64.wrap ((b.toNat:Nat):Int)=(b.toNat:Int):=wrap_int rfl (by omega)
   have w6:(0:Int)≤(x:Int):=by omega
   simp only [n78,r78,c32,c16,c8',w2,w3,w6,hg,Int.toNat_natCast,Int.zero_add,SB,Nat.reduceLT,callee,aOp,ne_eq,Nat.reduceEqDiff,aBin,aUn,if_true,if_false,reduceCtorEq,frame0,place,notTuple,Nat.reduceAdd,Nat.reduceLeDiff,resVal,dite_true,dite_false,Int.reduceEq,Int.reduceLT,Int.reduceLE]
 obtain ⟨L,h1,h2,h3,h4⟩:=key
 refine ⟨L,h1,h2,h3,fun mp lim H Q=>?_⟩
 refine pc (by decide) e60 rfl rfl ?_
 rw [b60,c60]
 simp only [n60,r60,h4,SB,Nat.reduceLT,callee,aOp,ne_eq,Nat.reduceEqDiff,aBin,aUn,if_true,if_false,reduceCtorEq,frame0,place,notTuple,Nat.reduceAdd,Nat.reduceLeDiff,resVal,dite_true,dite_false,Int.reduceEq,Int.reduceLT,Int.reduceLE]
theorem npt_ok [OB] {x:Nat} (hx:x<65536) (h0:0<x):∃m:Nat,0<m∧m≤2*x∧∀(mp:Bool) (lim:Nat) (H:Heap) (Q:Value→Heap→Prop),CallR E mp lim 83 [.int .i64 (x:Int)] H Q=Q (.int .u64 (m:Int)) H:=by
 obtain ⟨L,h1,h2,h3,h4⟩:=len_ok hx h0
 refine ⟨2 ^ L,Nat.pow_pos (by decide),h2,fun mp lim H Q=>?_⟩
 refine pc (by decide) e83 rfl rfl ?_
 rw [b83,c83]
 have w1:IntKind.u64.wrap (x:Int)=(x:Int):=by rw [wrap64];omega
 have w2:min L IntKind.u64.bits=L:=by simp only [IntKind.bits];omega
 have hp:(2:Nat) ^ L<2 ^ 18:=by omega
 have w3:IntKind.u64.wrap (1*2 ^ L)=((2 ^ L:Nat):Int):=by
  rw [wrap64,Int.one_mul]
  have:((2:Int) ^ L)=((2 ^ L:Nat):Int):=by simp
  rw [this];omega
 have c0:¬(L:Int)<0:=by omega
 simp only [n83,r83,w1,h4,c0,Int.toNat_natCast,w2,w3,SB,Nat.reduceLT,callee,aOp,ne_eq,Nat.reduceEqDiff,aBin,aUn,if_true,if_false,reduceCtorEq,frame0,place,notTuple,Nat.reduceAdd,Nat.reduceLeDiff,resVal,dite_true,dite_false,Int.reduceEq,Int.reduceLT,Int.reduceLE]
theorem xor_ok [OB] {α:Type} {enc:α→List Value} {G X:Heap} {B lim:Nat} {d:Array α} {s:Int} (hl:lim≤B) (hB:B<G.length) :
  ∃s':Int,(0≤s'∧s'<2 ^ 64)∧∀Q,CallR E false lim 84 [.pointer (some ⟨G.length+X.length,0,none⟩)] (DH enc G B d++(X++[.cells false [.int .u64 s]])) Q=Q (.int .u64 s') (DH enc G B d++(X++[.cells false [.int .u64 s']])):=by
 have hlG:lim≤G.length+X.length:=by omega
 have hw:∀m:Int,0≤IntKind.u64.wrap m∧IntKind.u64.wrap m<2 ^ 64:=by intro m;rw [wrap64];omega
 have key:CallR E false lim 84 [.pointer (some ⟨G.length+X.length,0,none⟩)] (DH enc G B d++(X++[.cells false [.int .u64 s]])) fun v H'=>∃s',(0≤s'∧s'<2 ^ 64)∧v=.int .u64 s'∧H'=DH enc G B d++(X++[.cells false [.int .u64 s']]):=by
  rw [CallR_run (E:=E) (g:=84) (af:=a84) (by simp [E,orc]) e84 rfl rfl]
  rw [b84,c84]
  simp only [n84,r84,cnt_get,cnt_set,hlG,List.append_nil,SB,Nat.reduceLT,callee,aOp,ne_eq,Nat.reduceEqDiff,aBin,aUn,if_true,if_false,reduceCtorEq,frame0,place,notTuple,Nat.reduceAdd,Nat.reduceLeDiff,resVal,dite_true,dite_false,Int.reduceEq,Int.reduceLT,Int.reduceLE]
  exact ⟨_,hw _,rfl,rfl⟩
 obtain ⟨k,v,H',hx,s',h1,rfl,rfl⟩:=CallR.one key
 exact ⟨s',h1,fun Q=>CallR.det hx⟩
theorem and_le {a b:Int} (hb:0≤b∧b<2 ^ 64):0≤IntKind.u64.wrap ((BitVec.ofInt IntKind.u64.bits a &&& BitVec.ofInt IntKind.u64.bits b).toNat:Int)∧IntKind.u64.wrap ((BitVec.ofInt IntKind.u64.bits a &&& BitVec.ofInt IntKind.u64.bits b).toNat:Int)≤b:=by
 rw [wrap64]
 have h1:(BitVec.ofInt IntKind.u64.bits a &&& BitVec.ofInt IntKind.u64.bits b).toNat≤(BitVec.ofInt IntKind.u64.bits b).toNat:=by
  rw [BitVec.toNat_and];exact Nat.and_le_right
 have h2:((BitVec.ofInt IntKind.u64.bits b).toNat:Int)=b:=by
  rw [BitVec.toNat_ofInt]
  simp only [IntKind.bits]
  omega
 omega
theorem brk_ok [OB] {G X:Heap} {B lim cap n:Nat} {p:Option Addr} {c:Go.Scan.Mk→Go.Scan.Mk→Int} {cl:FuncId} {cs:List Value} (hp:p=some ⟨B,0,none⟩) (hB:B<G.length) (hl:lim≤B) (hn2:n<2 ^ 61) (hc:∀(mp:Bool) (lim:Nat) (x y:Go.Scan.Mk) (H:Heap) (Q:Value→Heap→Prop),CallR E mp lim cl (.agg (encK x).toArray::.agg (encK y).toArray::cs) H Q=Q (.int .i64 (c x y)) H) {d:Array Go.Scan.Mk} {a b:Nat} (hd:d.size=n) (hb:b≤n) (hab:a+12<b) (hn3:n<65536) :
  ∃d' s,d'.size=n∧PermIn a b d d'∧∀Q,CallR E false lim 89 [.slice p n cap,.int .i64 (a:Int),.int .i64 (b:Int),.func (.func cl) #[] cs.toArray] (DH encK G B d++X) Q=Q (.tuple #[]) (DH encK G B d'++(X++[.cells false [.int .u64 s]])):=by
 have key:CallR E false lim 89 [.slice p n cap,.int .i64 (a:Int),.int .i64 (b:Int),.func (.func cl) #[] cs.toArray] (DH encK G B d++X) fun v H'=>∃d' s,d'.size=n∧PermIn a b d d'∧v=.tuple #[]∧H'=DH encK G B d'++(X++[.cells false [.int .u64 s]]):=by
  rw [CallR_run (E:=E) (g:=89) (af:=a89) (by simp [E,orc]) e89 rfl rfl]
  rw [b89,c89]
  have ld:=fun (i:Nat) (X:Heap) (d:Array Go.Scan.Mk) (hd:d.size=n) (hi:i<n)=>DH_ld (X:=X) (d:=d) (i:=i) hp hB encK_len (by omega);have st:=fun (i:Nat) (X:Heap) (d:Array Go.Scan.Mk) (hd:d.size=n) (hi:i<n) (y:Go.Scan.Mk)=>DH_st (X:=X) (d:=d) (i:=i) (y:=y) hp hB hl encK_len (by omega);have ix:=fun (i:Nat) (hi:i<n) c (k:IntKind) (H:Heap)=>DH_idx (e:=3) (i:=i) (n:=n) (c:=c) (k:=k) (H:=H) hp hi
  have hlG:lim≤G.length+X.length:=by omega
  obtain ⟨l,rfl⟩:∃l,b=a+l:=⟨b-a,by omega⟩
  obtain ⟨m,hm0,hm1,hnpt⟩:=npt_ok (x:=l) (by omega) (by omega)
  have hw0:IntKind.i64.wrap (((a+l:Nat):Int)-(a:Int))=(l:Int):=wrap_int (by omega) (by omega)
  have hq:(l:Int).tdiv 4=((l / 4:Nat):Int):=tdiv_nat (b:=4)
  have hw1:IntKind.i64.wrap ((l / 4:Nat):Int)=((l / 4:Nat):Int):=wrap_int rfl (by omega)
  have hw3:IntKind.i64.wrap (((l / 4:Nat):Int)*2)=((l / 4*2:Nat):Int):=wrap_int (by omega) (by omega)
  have hw6:IntKind.i64.wrap ((a:Int)+((l / 4*2:Nat):Int))=((a+l / 4*2:Nat):Int):=wrap_int (by omega) (by omega)
  have hw7:IntKind.i64.wrap (((a+l / 4*2:Nat):Int)-1)=((a+l / 4*2-1:Nat):Int):=wrap_int (by omega) (by omega)
  have hw8:IntKind.i64.wrap (((a+l / 4*2:Nat):Int)+1)=((a+l / 4*2+1:Nat):Int):=wrap_int (by omega) (by omega)
  have hwm:IntKind.u64.wrap ((m:Int)-1)=((m-1:Nat):Int):=by rw [wrap64];omega
  have c8:(8:Int)≤(l:Int):=by omega
  simp only [n89,r89,hw0,hq,hw1,hw3,hw6,hw7,c8,hnpt,cnt_get,cnt_set,DH_len,hlG,SB,Nat.reduceLT,callee,aOp,ne_eq,Nat.reduceEqDiff,aBin,aUn,if_true,if_false,reduceCtorEq,frame0,place,notTuple,Nat.reduceAdd,Nat.reduceLeDiff,resVal,dite_true,dite_false,Int.reduceEq,Int.reduceLT,Int.reduceLE]
  refine Ret_rounds (S:=Nat×Array Go.Scan.Mk×Int) (fun s=>a+l+5-s.1) (fun s fr H=>a<s.1∧s.1≤a+l / 4*2+2∧fr 0=.slice p n cap∧fr 1=.int .i64 (a:Int)∧fr 8=.int .i64 (l:Int)∧fr 9=.pointer (some ⟨G.length+X.length,0,none⟩)∧fr 10=.int .u64 (m:Int)∧fr 11=.int .i64 (s.1:Int)∧
   H=DH encK G B s.2.1++(X++[.cells false [.int .u64 s.2.2]])∧s.2.1.size=n∧PermIn a (a+l) d s.2.1) (a+l / 4*2-1,d,IntKind.u64.wrap (l:Int)) ⟨by simp only;omega,by simp only;omega,(by simp only [FB,Nat.reduceEqDiff]),(by simp only [FB,Nat.reduceEqDiff]),(by simp only [FB,Nat.reduceEqDiff]),(by simp only [FB,Nat.reduceEqDiff]),(by simp only [FB,Nat.reduceEqDiff]),(by simp only [FB,Nat.reduceEqDiff]),rfl,hd,permIn_refl _ _ _⟩ ?_
  rintro ⟨i,d1,s⟩ fr H ⟨h1,h2,g0,g1,g8,g9,g10,g11,rfl,hd1,hP⟩ hN
  simp only at h1 h2 g11 hd1 hP
  rw [Ret_code l89_1.eq_1]
  by_cases c1:i≤a+(l / 4*2+1)
  ·obtain ⟨s',_,hx⟩:=xor_ok (X:=X) (d:=d1) (s:=s) (enc:=encK) hl hB
   have hA:=and_le (a:=s') (b:=((m-1:Nat):Int)) (by omega)
   generalize hr:IntKind.u64.wrap ((BitVec.ofInt IntKind.u64.bits s' &&& BitVec.ofInt IntKind.u64.bits ((m-1:Nat):Int)).toNat:Int)=r at hA
   obtain ⟨r',rfl⟩:∃r':Nat,r=(r':Int):=⟨r.toNat,by omega⟩
   have hwr:IntKind.i64.wrap (r':Int)=(r':Int):=wrap_int rfl (by omega)
   have hwi:IntKind.i64.wrap ((i:Int)+1)=((i+1:Nat):Int):=wrap_nat (by omega)
   have i1:i<n:=by omega
   by_cases c2:l≤r'
   ·have hw9:IntKind.i64.wrap ((r':Int)-(l:Int))=((r'-l:Nat):Int):=wrap_int (by omega) (by omega)
    have hw10:IntKind.i64.wrap ((a:Int)+((r'-l:Nat):Int))=((a+(r'-l):Nat):Int):=wrap_int (by omega) (by omega)
    have i2:a+(r'-l)<n:=by omega
    simp only [n89,r89,g0,g1,g8,g9,g10,g11,hw0,hq,hw1,hw3,hw6,hw8,c1,hx,hwm,hr,hwr,c2,hw9,hw10,ld,st,ix,List.append_nil,Array.size_setIfInBounds,encK_len,hd1,i1,i2,hwi,SB,Nat.reduceLT,callee,aOp,ne_eq,Nat.reduceEqDiff,aBin,aUn,if_true,if_false,reduceCtorEq,frame0,place,notTuple,Nat.reduceAdd,Nat.reduceLeDiff,resVal,dite_true,dite_false,Int.reduceEq,Int.reduceLT,Int.reduceLE]
    exact hN (i+1,swp d1 i (a+(r'-l)),s') _ _ ⟨by simp only;omega,by simp only;omega,(by simp only [g0,FB,Nat.reduceEqDiff]),(by simp only [g1,FB,Nat.reduceEqDiff]),(by simp only [g8,FB,Nat.reduceEqDiff]),(by simp only [g9,FB,Nat.reduceEqDiff]),(by simp only [g10,FB,Nat.reduceEqDiff]),(by simp only [FB,Nat.reduceEqDiff]),by simp [swp],by simp [swp,hd1],permIn_trans _ _ _ _ _ hP (swp_permIn _ _ _ _ _ (by omega) (by omega) (by omega) (by omega) (by omega))⟩ (by simp only;omega)
   ·have hw10:IntKind.i64.wrap ((a:Int)+(r':Int))=((a+r':Nat):Int):=wrap_int (by omega) (by omega)
    have i2:a+r'<n:=by omega
    simp only [n89,r89,g0,g1,g8,g9,g10,g11,hw0,hq,hw1,hw3,hw6,hw8,c1,hx,hwm,hr,hwr,c2,hw10,ld,st,ix,List.append_nil,Array.size_setIfInBounds,encK_len,hd1,i1,i2,hwi,SB,Nat.reduceLT,callee,aOp,ne_eq,Nat.reduceEqDiff,aBin,aUn,if_true,if_false,reduceCtorEq,frame0,place,notTuple,Nat.reduceAdd,Nat.reduceLeDiff,resVal,dite_true,dite_false,Int.reduceEq,Int.reduceLT,Int.reduceLE]
    exact hN (i+1,swp d1 i (a+r'),s') _ _ ⟨by simp only;omega,by simp only;omega,(by simp only [g0,FB,Nat.reduceEqDiff]),(by simp only [g1,FB,Nat.reduceEqDiff]),(by simp only [g8,FB,Nat.reduceEqDiff]),(by simp only [g9,FB,Nat.reduceEqDiff]),(by simp only [g10,FB,Nat.reduceEqDiff]),(by simp only [FB,Nat.reduceEqDiff]),by simp [swp],by simp [swp,hd1],permIn_trans _ _ _ _ _ hP (swp_permIn _ _ _ _ _ (by omega) (by omega) (by omega) (by omega) (by omega))⟩ (by simp only;omega)
  ·clear hN
   simp only [n89,r89,g0,g1,g8,g9,g10,g11,hw0,hq,hw1,hw3,hw6,hw8,c1,SB,Nat.reduceLT,callee,aOp,ne_eq,Nat.reduceEqDiff,aBin,aUn,if_true,if_false,reduceCtorEq,frame0,place,notTuple,Nat.reduceAdd,Nat.reduceLeDiff,resVal,dite_true,dite_false,Int.reduceEq,Int.reduceLT,Int.reduceLE]
   exact ⟨d1,s,hd1,hP,rfl⟩
 obtain ⟨k,v,H',hx,d',s,h1,h2,rfl,rfl⟩:=CallR.one key
 exact ⟨d',s,h1,h2,fun Q=>CallR.det hx⟩
end Go.Proofs.Ytkppjkkkdpcgiaa.Fn.SM

