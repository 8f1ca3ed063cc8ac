/-
  Joined texts, 9 of 10. A part of the claim that the last text states.
-/
import Derived.Test.YtkppjkkkdpcgiaaPH8
namespace Go.Proofs.Ytkppjkkkdpcgiaa.Fn
open Go.AM Go.AM.Sym Go.Scan Go.Sort
set_option maxRecDepth 100000
set_option linter.unusedVariables false
set_option linter.unusedSimpArgs false
set_option maxHeartbeats 4000000
theorem eqN_self (x:Ev):aEq (.agg [.int .i64,.int .i64,.int .i64,.int .u8,.int .i64,.int .i64]) (.agg (encN x).toArray) (.agg (encN x).toArray)=some true:=by
 simp [aEq,encN,cellsEq,cellEq]
theorem eqE_self (x:Ev):aEq (.agg [.int .i64,.int .i64,.int .i64,.int .u8,.int .i64,.int .i64,.int .i64]) (.agg (encE x).toArray) (.agg (encE x).toArray)=some true:=by
 simp [aEq,encE,cellsEq,cellEq]
theorem eqK_self (x:Mk):aEq (.agg [.int .i64,.int .i64,.int .i64]) (.agg (encK x).toArray) (.agg (encK x).toArray)=some true:=by
 simp [aEq,encK,cellsEq,cellEq]
theorem rsame_ok [OB] {mp:Bool} {lim c c':Nat} {p p':Option Addr} {K:List Ev} {H:Heap} {Q:Value→Heap→Prop} (hs:Sl H encE 7 p K) (hs':Sl H encE 7 p' K) (hn:K.length<2 ^ 62) :
  CallR E mp lim 32 [.slice p K.length c,.slice p' K.length c'] H Q=Q (.bool true) H:=by
 refine pc (by decide) e32 rfl rfl ?_
 rw [b32,c32]
 simp only [n32,r32,SB,Nat.reduceLT,callee,aOp,ne_eq,Nat.reduceEqDiff,aBin,aUn,if_true,if_false,reduceCtorEq,frame0,place,notTuple,Nat.reduceAdd,Nat.reduceLeDiff,resVal,dite_true,dite_false,Int.reduceEq,Int.reduceLT,Int.reduceLE]
 refine Ret_rounds (fun i=>K.length-i) (fun i fr G=>i≤K.length∧fr 0=.slice p K.length c∧fr 1=.slice p' K.length c'∧fr 12=.int .i64 (K.length:Int)∧fr 13=.int .i64 (i:Int)∧G=H) 0
  ⟨Nat.zero_le _,(by simp only [FB,Nat.reduceEqDiff]),(by simp only [FB,Nat.reduceEqDiff]),(by simp only [FB,Nat.reduceEqDiff]),by rfl,by simp⟩ ?_
 rintro i fr G ⟨hi,g0,g1,g12,g13,rfl⟩ hN
 rw [Ret_code l32_1.eq_1]
 refine Ret_pad ?_
 by_cases hlt:i<K.length
 ·have hld:=fun X=>(hs.app X).loadCells encE_len hlt
  have hld':=fun X=>(hs'.app X).loadCells encE_len hlt
  have hidx:=fun c (k:IntKind) (H1:Heap)=>hs.idx (c:=c) (k:=k) (H1:=H1) hlt
  have hidx':=fun c (k:IntKind) (H1:Heap)=>hs'.idx (c:=c) (k:=k) (H1:=H1) hlt
  have hw1:IntKind.i64.wrap ((i:Int)+1)=((i+1:Nat):Int):=wrap_nat (by omega)
  simp only [n32,r32,g0,g1,g12,g13,int_lt_cast,hlt,hidx,hidx',hld,hld',encE_len,take_all,setAll_full,eqE_self,hw1,SB,Nat.reduceLT,callee,aOp,ne_eq,Nat.reduceEqDiff,aBin,aUn,if_true,if_false,reduceCtorEq,frame0,place,notTuple,Nat.reduceAdd,Nat.reduceLeDiff,resVal,dite_true,dite_false,Int.reduceEq,Int.reduceLT,Int.reduceLE]
  exact hN (i+1) _ _ ⟨by omega,(by simp only [g0,FB,Nat.reduceEqDiff]),(by simp only [g1,FB,Nat.reduceEqDiff]),(by simp only [g12,FB,Nat.reduceEqDiff]),(by simp only [FB,Nat.reduceEqDiff]),by simp⟩ (by omega)
 ·obtain rfl:i=K.length:=by omega
  simp only [n32,r32,g0,g1,g12,g13,int_lt_cast,hlt,SB,Nat.reduceLT,callee,aOp,ne_eq,Nat.reduceEqDiff,aBin,aUn,if_true,if_false,reduceCtorEq,frame0,place,notTuple,Nat.reduceAdd,Nat.reduceLeDiff,resVal,dite_true,dite_false,Int.reduceEq,Int.reduceLT,Int.reduceLE]
def markE (i:Nat):Ev:=⟨8000024+(i:Int),0,0,0,0,0,0⟩
def marksL:List Ev:=(List.range 12).map markE
theorem marksL_len:marksL.length=12:=by simp [marksL]
theorem marksL_gt {i:Nat} (h:i<12):gt marksL i=markE i:=by
 rw [gt_lt (by rw [marksL_len];exact h)];simp [marksL]
theorem mark_ok [OB] {mp:Bool} {lim:Nat} {i:Nat} {H:Heap} {Q:Value→Heap→Prop} (hi:i<1000) :
  CallR E mp lim 40 [.int .i64 1,.int .i64 (i:Int)] H Q=Q (.agg (encN (markE i)).toArray) H:=by
 have w1:IntKind.i64.wrap (1+7)=8:=by decide
 have w2:IntKind.i64.wrap (1000003*8)=8000024:=by decide
 have w3:IntKind.i64.wrap (8000024+(i:Int))=8000024+(i:Int):=wrap_id (by omega) (by omega)
 have hm:∀(mp:Bool) (lim:Nat) (H:Heap) (Q:Value→Heap→Prop),CallR E mp lim 56 [.int .i64 1,.int .i64 (i:Int)] H Q=Q (.int .i64 (8000024+(i:Int))) H:=fun mp lim H Q=>by
  refine pc (by decide) e56 rfl rfl ?_
  rw [b56,c56]
  simp only [n56,r56,w1,w2,w3,SB,Nat.reduceLT,callee,aOp,ne_eq,Nat.reduceEqDiff,aBin,aUn,if_true,if_false,reduceCtorEq,frame0,place,notTuple,Nat.reduceAdd,Nat.reduceLeDiff,resVal,dite_true,dite_false,Int.reduceEq,Int.reduceLT,Int.reduceLE]
 refine pc (by decide) e40 rfl rfl ?_
 rw [b40,c40]
 simp only [n40,r40,hm,SB,Nat.reduceLT,callee,aOp,ne_eq,Nat.reduceEqDiff,aBin,aUn,if_true,if_false,reduceCtorEq,frame0,place,notTuple,Nat.reduceAdd,Nat.reduceLeDiff,resVal,dite_true,dite_false,Int.reduceEq,Int.reduceLT,Int.reduceLE]
 rfl
theorem cut_room {e R n k c:Nat} (hc:n≤c) (h2:c<2 ^ 62) (h:k≤c):sliceV e (.slice (some ⟨R,0,none⟩) n c) none (some (.int .i64 (k:Int))) none=some (.slice (some ⟨R,0,none⟩) k c):=by
 have hb:bounds unV n c none (some (.const (.int .i64 (k:Int)))) none=some (0,k,c):=by
  have:=bv_010 (len:=n) (cap:=c) (k1:=.i64) (h:=(k:Int)) (by omega) (by omega)
  rw [Int.toNat_natCast] at this
  exact this
 unfold sliceV aSliceS
 simp only [Option.map_some,Option.map_none]
 rw [if_neg (by unfold loose;omega),if_pos h2,hb]
 simp only [addr_add,Nat.zero_mul,Nat.add_zero,Nat.sub_zero,Option.map_some,ite_self]
theorem lent_ok [OB] {lim c:Nat} {p:Option Addr} {S:List Ev} {H:Heap} {Q:Value→Heap→Prop} (hs:Sl H encN 6 p S) (hn:S.length≤2010) (hl:lim≤H.length)
  (hQ:∀G,hget G H.length=.cells false ((S++marksL).flatMap encN)→Chg [] H G→Q (.slice (some ⟨H.length,0,none⟩) S.length (S.length+12)) (G++[])) :
  CallR E false lim 27 [.slice p S.length c] H Q:=by
 refine runs' (by decide) e27 rfl ?_
 rw [b27,c27]
 have w12:IntKind.i64.wrap ((S.length:Int)+12)=((S.length+12:Nat):Int):=by rw [wrap_id (by omega) (by omega)];omega
 have hb1:((S.length+12:Nat):Int)*48≤2 ^ 45:=by omega
 have hb2:((S.length+12:Nat):Int)<2 ^ 62:=by omega
 have hnn:(0:Int)≤((S.length+12:Nat):Int):=by omega
 have row0:∀z:List Value,z.length=(S.length+12)*6→∃G1 z',z'.length=12*6∧hget G1 H.length=.cells false (S.flatMap encN++z')∧Chg [] H G1∧
   aAppend lim none 6 48 false (.slice (some ⟨H.length,0,none⟩) 0 (S.length+12)) (.slice p S.length c) (H++[.cells false z])=some (.slice (some ⟨H.length,0,none⟩) S.length (S.length+12),G1++[]):=fun z hz=>by
  have:=append_roomN (lim:=lim) (R:=H.length) (bytes:=48) (cap:=S.length+12) (k:=c) (enc:=encN) (old:=[]) (l:=S) (rest:=z) encN_len (by decide) (hs.app [.cells false z]) (by rw [hget_new0];rfl) hl (by simp) (by rw [hz];simp) (by omega) (by unfold maxBytes;simp;omega)
  rw [List.length_nil,Nat.zero_add,List.nil_append] at this
  refine ⟨_,z.drop (S.length*6),by rw [List.length_drop,hz];omega, ?_, ?_,by rw [List.append_nil];exact this⟩
  ·exact hget_set_eq (by simp)
  ·exact Chg.refl.app.set (.inr (Nat.le_refl _))
 simp only [n27,r27,w12,hb1,hb2,hnn,Int.toNat_natCast,Int.toNat_zero,SB,Nat.reduceLT,callee,aOp,ne_eq,Nat.reduceEqDiff,aBin,aUn,if_true,if_false,reduceCtorEq,frame0,place,notTuple,Nat.reduceAdd,Nat.reduceLeDiff,resVal,dite_true,dite_false,Int.reduceEq,Int.reduceLT,Int.reduceLE]
 obtain ⟨G1,z,hz,hG1,hC1,e1⟩:=row0 ((List.range ((S.length+12)*6)).map fun j=>[Value.int .i64 0,.int .i64 0,.int .i64 0,.int .u8 0,.int .i64 0,.int .i64 0].getD (j % 6) undef) (by rw [List.length_map,List.length_range])
 simp only [n27,r27,e1,SB,Nat.reduceLT,callee,aOp,ne_eq,Nat.reduceEqDiff,aBin,aUn,if_true,if_false,reduceCtorEq,frame0,place,notTuple,Nat.reduceAdd,Nat.reduceLeDiff,resVal,dite_true,dite_false,Int.reduceEq,Int.reduceLT,Int.reduceLE]
 refine Ret_rounds (fun i=>12-i) (fun i fr G=>i≤12∧fr 0=.slice p S.length c∧fr 3=.slice (some ⟨H.length,0,none⟩) (S.length+i) (S.length+12)∧fr 4=.int .i64 (i:Int)∧(∃z,z.length=(12-i)*6∧hget G H.length=.cells false ((S++marksL.take i).flatMap encN++z))∧Chg [] H G) 0
  ⟨Nat.zero_le _,(by simp only [FB,Nat.reduceEqDiff]),(by simp only [Nat.add_zero,FB,Nat.reduceEqDiff]),by rfl,⟨z,hz,by rw [List.take_zero,List.append_nil,List.append_nil];exact hG1⟩,hC1.app⟩ ?_
 rintro i fr G ⟨hi,g0,g3,g4,⟨z,hz,hG⟩,hC⟩ hN
 rw [Ret_code l27_1.eq_1]
 refine Ret_pad ?_
 have hCl:=hC.len
 have hlG:=hget_alive hG
 by_cases hlt:i<12
 ·have c0:(i:Int)<12:=by omega
  have hw1:IntKind.i64.wrap ((i:Int)+1)=((i+1:Nat):Int):=wrap_nat (by omega)
  have hmk:=fun (mp:Bool) (lim:Nat) (H:Heap) (Q:Value→Heap→Prop)=>mark_ok (mp:=mp) (lim:=lim) (H:=H) (Q:=Q) (by omega:i<1000)
  have lO:(S++marksL.take i).length=S.length+i:=by rw [List.length_append,List.length_take,marksL_len];omega
  obtain ⟨G3,e3,h3,m3⟩:=mut_set (G:=G) (R:=H.length) hlG (.cells false ((((S++marksL.take i)++[markE i]).flatMap encN)++z.drop 6))
  have happ:=append_room1 (lim:=lim) (R:=H.length) (bytes:=48) (cap:=S.length+12) (k:=1) (b:=G.length) (dest:=none) (H:=G++[.cells false (encN (markE i))]) (enc:=encN) (old:=S++marksL.take i) (x:=markE i) (ro:=false) (rest:=z) encN_len (by decide)
   (by rw [hget_new0];rfl) (by rw [hget_old hlG];exact hG) hl (by rw [lO];omega) (by rw [lO,hz];congr 1;omega) (by omega) (by rw [lO];unfold maxBytes;omega)
  rw [lO,e3] at happ
  simp only [n27,r27,g0,g3,g4,eq_true c0,hmk,encN_len,hw1,happ,SB,Nat.reduceLT,callee,aOp,ne_eq,Nat.reduceEqDiff,aBin,aUn,if_true,if_false,reduceCtorEq,frame0,place,notTuple,Nat.reduceAdd,Nat.reduceLeDiff,resVal,dite_true,dite_false,Int.reduceEq,Int.reduceLT,Int.reduceLE]
  refine hN (i+1) _ _ ⟨by omega,(by simp only [g0,FB,Nat.reduceEqDiff]),(by simp only [Nat.add_assoc,FB,Nat.reduceEqDiff]),(by simp only [FB,Nat.reduceEqDiff]),⟨z.drop 6,by rw [List.length_drop,hz];omega, ?_⟩,(hC.mut m3 (.inr (Nat.le_refl _))).app⟩ (by omega)
  rw [hget_old (by rw [m3.len];exact hlG),h3,List.append_assoc S,←marksL_gt hlt,gt_lt (by rw [marksL_len];exact hlt),←List.take_succ_eq_append_getElem]
 ·obtain rfl:i=12:=by omega
  have hz0:z=[]:=List.length_eq_zero_iff.mp hz
  rw [hz0,List.append_nil,List.take_of_length_le (by rw [marksL_len];exact Nat.le_refl _)] at hG
  have hcut:=cut_room (e:=6) (R:=H.length) (n:=S.length+12) (k:=S.length) (c:=S.length+12) (Nat.le_refl _) (by omega) (by omega)
  simp only [n27,r27,g0,g3,g4,hcut,SB,Nat.reduceLT,callee,aOp,ne_eq,Nat.reduceEqDiff,aBin,aUn,if_true,if_false,reduceCtorEq,frame0,place,notTuple,Nat.reduceAdd,Nat.reduceLeDiff,resVal,dite_true,dite_false,Int.reduceEq,Int.reduceLT,Int.reduceLE]
  exact hQ G hG hC
theorem kept_ok [OB] {mp:Bool} {lim c R:Nat} {p:Option Addr} {S:List Ev} {H:Heap} {Q:Value→Heap→Prop} (hs:Sl H encN 6 p S) (hn:S.length≤2010) (hR:hget H R=.cells false ((S++marksL).flatMap encN)) :
  CallR E mp lim 28 [.slice (some ⟨R,0,none⟩) S.length (S.length+12),.slice p S.length c] H Q=Q (.bool true) H:=by
 refine pc (by decide) e28 rfl rfl ?_
 rw [b28,c28]
 have w12:IntKind.i64.wrap ((S.length:Int)+12)=((S.length+12:Nat):Int):=by rw [wrap_id (by omega) (by omega)];omega
 have hcut:=cut_room (e:=6) (R:=R) (n:=S.length) (k:=S.length+12) (c:=S.length+12) (by omega) (by omega) (Nat.le_refl _)
 simp only [n28,r28,w12,hcut,SB,Nat.reduceLT,callee,aOp,ne_eq,Nat.reduceEqDiff,aBin,aUn,if_true,if_false,reduceCtorEq,frame0,place,notTuple,Nat.reduceAdd,Nat.reduceLeDiff,resVal,dite_true,dite_false,Int.reduceEq,Int.reduceLT,Int.reduceLE]
 have lA:(S++marksL).length=S.length+12:=by rw [List.length_append,marksL_len]
 have hA:Sl H encN 6 (some ⟨R,0,none⟩) (S++marksL):=Sl.row encN_len hR
 refine Ret_rounds (fun i=>S.length+12-i) (fun i fr G=>i≤S.length+12∧fr 1=.slice p S.length c∧fr 5=.slice (some ⟨R,0,none⟩) (S.length+12) (S.length+12)∧fr 6=.int .i64 (i:Int)∧G=H) 0
  ⟨Nat.zero_le _,(by simp only [FB,Nat.reduceEqDiff]),(by simp only [FB,Nat.reduceEqDiff]),by rfl,by simp⟩ ?_
 rintro i fr G ⟨hi,g1,g5,g6,rfl⟩ hN
 rw [Ret_code l28_1.eq_1]
 refine Ret_pad ?_
 by_cases hlt:i<S.length+12
 case neg=>
  simp only [n28,r28,g1,g5,g6,int_lt_cast,hlt,SB,Nat.reduceLT,callee,aOp,ne_eq,Nat.reduceEqDiff,aBin,aUn,if_true,if_false,reduceCtorEq,frame0,place,notTuple,Nat.reduceAdd,Nat.reduceLeDiff,resVal,dite_true,dite_false,Int.reduceEq,Int.reduceLT,Int.reduceLE]
 have hw1:IntKind.i64.wrap ((i:Int)+1)=((i+1:Nat):Int):=wrap_nat (by omega)
 have ldA:=fun X=>(hA.app X).loadCells encN_len (by omega:i<(S++marksL).length)
 have ixA:=fun c (k:IntKind) (H1:Heap)=>hA.idx (c:=c) (k:=k) (H1:=H1) (by omega:i<(S++marksL).length)
 rw [lA] at ixA
 by_cases hlS:i<S.length
 ·have ldS:=fun X=>(hs.app X).loadCells encN_len hlS
  have ixS:=fun c (k:IntKind) (H1:Heap)=>hs.idx (c:=c) (k:=k) (H1:=H1) hlS
  rw [gt_append_left hlS] at ldA
  have c2:¬S.length≤i:=by omega
  simp only [n28,r28,g1,g5,g6,int_lt_cast,hlt,hlS,ldA,ixA,ldS,ixS,eqN_self,encN_len,take_all,hw1,ge_iff_le,int_le_cast,c2,SB,Nat.reduceLT,callee,aOp,ne_eq,Nat.reduceEqDiff,aBin,aUn,if_true,if_false,reduceCtorEq,frame0,place,notTuple,Nat.reduceAdd,Nat.reduceLeDiff,resVal,dite_true,dite_false,Int.reduceEq,Int.reduceLT,Int.reduceLE]
  exact hN (i+1) _ _ ⟨by omega,(by simp only [g1,FB,Nat.reduceEqDiff]),(by simp only [g5,FB,Nat.reduceEqDiff]),(by simp only [FB,Nat.reduceEqDiff]),by simp⟩ (by omega)
 ·have hsub:IntKind.i64.wrap ((i:Int)-(S.length:Int))=((i-S.length:Nat):Int):=by rw [wrap_id (by omega) (by omega)];omega
  have hmk:=fun (mp:Bool) (lim:Nat) (H:Heap) (Q:Value→Heap→Prop)=>mark_ok (mp:=mp) (lim:=lim) (H:=H) (Q:=Q) (by omega:i-S.length<1000)
  have hgA:gt (S++marksL) i=markE (i-S.length):=by
   have:=gt_append_len (l:=S) (r:=marksL) (i:=i-S.length)
   rw [show S.length+(i-S.length)=i by omega,marksL_gt (by omega)] at this
   exact this
  rw [hgA] at ldA
  have c2:S.length≤i:=by omega
  simp only [n28,r28,g1,g5,g6,int_lt_cast,hlt,hlS,ldA,ixA,hsub,hmk,eqN_self,encN_len,take_all,hw1,ge_iff_le,int_le_cast,c2,SB,Nat.reduceLT,callee,aOp,ne_eq,Nat.reduceEqDiff,aBin,aUn,if_true,if_false,reduceCtorEq,frame0,place,notTuple,Nat.reduceAdd,Nat.reduceLeDiff,resVal,dite_true,dite_false,Int.reduceEq,Int.reduceLT,Int.reduceLE]
  exact hN (i+1) _ _ ⟨by omega,(by simp only [g1,FB,Nat.reduceEqDiff]),(by simp only [g5,FB,Nat.reduceEqDiff]),(by simp only [FB,Nat.reduceEqDiff]),by simp⟩ (by omega)
theorem ofE_ok [OB] {lim c:Nat} {p:Option Addr} {K:List Ev} {item:Int} {H:Heap} {Q:Value→Heap→Prop} (hs:Sl H encE 7 p K) (hn:K.length<4000) (hl:lim≤H.length)
  (hQ:∀G z,hget G H.length=.cells false ((ofE K item).flatMap encE++z)→Chg [] H G→Q (.slice (some ⟨H.length,0,none⟩) (ofE K item).length K.length) (G++[])) :
  CallR E false lim 33 [.slice p K.length c,.int .i64 item] H Q:=by
 refine runs' (by decide) e33 rfl ?_
 rw [b33,c33]
 have hb1:(K.length:Int)*56≤2 ^ 45:=by omega
 have hb2:(K.length:Int)<2 ^ 62:=by omega
 have hnn:(0:Int)≤(K.length:Int):=by omega
 simp only [n33,r33,hb1,hb2,hnn,Int.toNat_natCast,Int.toNat_zero,SB,Nat.reduceLT,callee,aOp,ne_eq,Nat.reduceEqDiff,aBin,aUn,if_true,if_false,reduceCtorEq,frame0,place,notTuple,Nat.reduceAdd,Nat.reduceLeDiff,resVal,dite_true,dite_false,Int.reduceEq,Int.reduceLT,Int.reduceLE]
 refine Ret_rounds (fun i=>K.length-i) (fun i fr G=>i≤K.length∧fr 1=.int .i64 item∧fr 5=.slice (some ⟨H.length,0,none⟩) (ofE (K.take i) item).length K.length∧fr 11=.slice p K.length c∧fr 12=.int .i64 (K.length:Int)∧fr 13=.int .i64 (i:Int)∧
   (∃z,z.length=(K.length-(ofE (K.take i) item).length)*7∧hget G H.length=.cells false ((ofE (K.take i) item).flatMap encE++z))∧Chg [] H G) 0
  ⟨Nat.zero_le _,(by simp only [FB,Nat.reduceEqDiff]),(by simp only [List.take_zero,ofE,List.filter_nil,List.length_nil,FB,Nat.reduceEqDiff]),(by simp only [FB,Nat.reduceEqDiff]),(by simp only [FB,Nat.reduceEqDiff]),by rfl,⟨(List.range (K.length*7)).map fun j=>[Value.int .i64 0,.int .i64 0,.int .i64 0,.int .u8 0,.int .i64 0,.int .i64 0,.int .i64 0].getD (j % 7) undef,by simp [ofE],by rw [hget_new0,List.take_zero];rfl⟩,Chg.refl.app⟩ ?_
 rintro i fr G ⟨hi,g1,g5,g11,g12,g13,⟨z,hz,hG⟩,hC⟩ hN
 rw [Ret_code l33_1.eq_1]
 refine Ret_pad ?_
 have hCl:=hC.len
 have hlG:=hget_alive hG
 by_cases hlt:i<K.length
 ·have sK:=hC.sl hs (fun a _ _ h=>(by cases h))
  have hld:=fun X=>(sK.app X).loadCells encE_len hlt
  have hidx:=fun c (k:IntKind) (H1:Heap)=>sK.idx (c:=c) (k:=k) (H1:=H1) hlt
  have hw1:IntKind.i64.wrap ((i:Int)+1)=((i+1:Nat):Int):=wrap_nat (by omega)
  have hle:(ofE (K.take i) item).length≤i:=by
   unfold ofE
   refine Nat.le_trans (List.length_filter_le ..) ?_
   rw [List.length_take];omega
  have hst:ofE (K.take (i+1)) item=if (item == 0||(gt K i).item == item)=true then ofE (K.take i) item++[gt K i] else ofE (K.take i) item:=by
   unfold ofE
   rw [List.take_succ_eq_append_getElem hlt,List.filter_append,gt_lt hlt]
   by_cases h:(item == 0||K[i].item == item)=true
   ·rw [if_pos h];simp only [List.filter_cons,h,if_true,List.filter_nil]
   ·rw [if_neg h];simp only [List.filter_cons,h,if_false,List.filter_nil,List.append_nil,Bool.false_eq_true]
  generalize hx:gt K i=x at *
  generalize ofE (K.take i) item=O at *
  have hlG2:lim≤G.length:=by omega
  have yes:(item == 0||x.item == item)=true→∃G3,aAppend lim none 7 56 false (.slice (some ⟨H.length,0,none⟩) O.length K.length) (.slice (some ⟨G.length+1,0,none⟩) 1 1) (G++[.cells false (encE x),.cells false (encE x)])=some (.slice (some ⟨H.length,0,none⟩) (O.length+1) K.length,G3++[.cells false (encE x),.cells false (encE x)])∧
    hget G3 H.length=.cells false ((ofE (K.take (i+1)) item).flatMap encE++z.drop 7)∧(ofE (K.take (i+1)) item).length=O.length+1∧Chg [] H G3:=fun h=>by
   rw [if_pos h] at hst
   obtain ⟨G3,e3,h3,m3⟩:=mut_set (G:=G) (R:=H.length) hlG (.cells false ((O++[x]).flatMap encE++z.drop 7))
   have happ:=append_room1 (lim:=lim) (R:=H.length) (bytes:=56) (cap:=K.length) (k:=1) (b:=G.length+1) (dest:=none) (H:=G++[.cells false (encE x),.cells false (encE x)]) (enc:=encE) (old:=O) (x:=x) (ro:=false) (rest:=z) encE_len (by decide)
    (by rw [hget_new];rfl) (by rw [hget_old hlG];exact hG) hl (by omega) hz (by omega) (by unfold maxBytes;omega)
   rw [e3] at happ
   exact ⟨G3,happ,by rw [hst];exact h3,by rw [hst];simp,hC.mut m3 (.inr (Nat.le_refl _))⟩
  by_cases c1:item=0
  ·obtain ⟨G3,e3,h3,l3,hC3⟩:=yes (by simp [c1])
   simp only [n33,r33,g1,g5,g11,g12,g13,int_lt_cast,hlt,hidx,hld,encE_len,encE_0,encE_1,encE_2,encE_3,encE_4,encE_5,encE_6,take_all,setAll_full,hw1,hlG2,eq_true c1,e3,SB,Nat.reduceLT,callee,aOp,ne_eq,Nat.reduceEqDiff,aBin,aUn,if_true,if_false,reduceCtorEq,frame0,place,notTuple,Nat.reduceAdd,Nat.reduceLeDiff,resVal,dite_true,dite_false,Int.reduceEq,Int.reduceLT,Int.reduceLE]
   exact hN (i+1) _ _ ⟨by omega,(by simp only [g1,FB,Nat.reduceEqDiff]),(by simp only [l3,FB,Nat.reduceEqDiff]),(by simp only [g11,FB,Nat.reduceEqDiff]),(by simp only [g12,FB,Nat.reduceEqDiff]),(by simp only [FB,Nat.reduceEqDiff]),⟨z.drop 7,by rw [List.length_drop,hz,l3];omega,by rw [hget_old (hget_alive h3)];exact h3⟩,hC3.app⟩ (by omega)
  by_cases c2:x.item=item
  ·obtain ⟨G3,e3,h3,l3,hC3⟩:=yes (by simp [c2])
   simp only [n33,r33,g1,g5,g11,g12,g13,int_lt_cast,hlt,hidx,hld,encE_len,encE_0,encE_1,encE_2,encE_3,encE_4,encE_5,encE_6,take_all,setAll_full,hw1,hlG2,eq_false c1,eq_true c2,e3,SB,Nat.reduceLT,callee,aOp,ne_eq,Nat.reduceEqDiff,aBin,aUn,if_true,if_false,reduceCtorEq,frame0,place,notTuple,Nat.reduceAdd,Nat.reduceLeDiff,resVal,dite_true,dite_false,Int.reduceEq,Int.reduceLT,Int.reduceLE]
   exact hN (i+1) _ _ ⟨by omega,(by simp only [g1,FB,Nat.reduceEqDiff]),(by simp only [l3,FB,Nat.reduceEqDiff]),(by simp only [g11,FB,Nat.reduceEqDiff]),(by simp only [g12,FB,Nat.reduceEqDiff]),(by simp only [FB,Nat.reduceEqDiff]),⟨z.drop 7,by rw [List.length_drop,hz,l3];omega,by rw [hget_old (hget_alive h3)];exact h3⟩,hC3.app⟩ (by omega)
  ·have hno:¬(item == 0||x.item == item)=true:=by simp [c1,c2]
   rw [if_neg hno] at hst
   simp only [n33,r33,g1,g5,g11,g12,g13,int_lt_cast,hlt,hidx,hld,encE_len,encE_0,encE_1,encE_2,encE_3,encE_4,encE_5,encE_6,take_all,setAll_full,hw1,hlG2,eq_false c1,eq_false c2,SB,Nat.reduceLT,callee,aOp,ne_eq,Nat.reduceEqDiff,aBin,aUn,if_true,if_false,reduceCtorEq,frame0,place,notTuple,Nat.reduceAdd,Nat.reduceLeDiff,resVal,dite_true,dite_false,Int.reduceEq,Int.reduceLT,Int.reduceLE]
   exact hN (i+1) _ _ ⟨by omega,(by simp only [g1,FB,Nat.reduceEqDiff]),(by simp only [g5,hst,FB,Nat.reduceEqDiff]),(by simp only [g11,FB,Nat.reduceEqDiff]),(by simp only [g12,FB,Nat.reduceEqDiff]),(by simp only [FB,Nat.reduceEqDiff]),⟨z,by rw [hst];exact hz,by rw [hget_old hlG,hst];exact hG⟩,hC.app⟩ (by omega)
 ·obtain rfl:i=K.length:=by omega
  rw [List.take_length] at g5 hG
  simp only [n33,r33,g1,g5,g11,g12,g13,int_lt_cast,hlt,SB,Nat.reduceLT,callee,aOp,ne_eq,Nat.reduceEqDiff,aBin,aUn,if_true,if_false,reduceCtorEq,frame0,place,notTuple,Nat.reduceAdd,Nat.reduceLeDiff,resVal,dite_true,dite_false,Int.reduceEq,Int.reduceLT,Int.reduceLE]
  exact hQ G z hG hC
theorem rright_f [OB] {mp:Bool} {lim c:Nat} {p:Option Addr} {S:List Ev} {H:Heap} {Q:Value→Heap→Prop} (hs:Sl H encN 6 p S) (hn:S.length<2 ^ 62) :
  CallR Ef mp lim 29 [.slice p S.length c] H Q=Q (.bool (decide (RightL S))) H:=CallR.eqF (by rw [rright_ok hs hn];exact ⟨rfl,rfl⟩)
theorem kept_f [OB] {mp:Bool} {lim c R:Nat} {p:Option Addr} {S:List Ev} {H:Heap} {Q:Value→Heap→Prop} (hs:Sl H encN 6 p S) (hn:S.length≤2010) (hR:hget H R=.cells false ((S++marksL).flatMap encN)) :
  CallR Ef mp lim 28 [.slice (some ⟨R,0,none⟩) S.length (S.length+12),.slice p S.length c] H Q=Q (.bool true) H:=CallR.eqF (by rw [kept_ok hs hn hR];exact ⟨rfl,rfl⟩)
theorem rsame_f [OB] {mp:Bool} {lim c c':Nat} {p p':Option Addr} {K:List Ev} {H:Heap} {Q:Value→Heap→Prop} (hs:Sl H encE 7 p K) (hs':Sl H encE 7 p' K) (hn:K.length<2 ^ 62) :
  CallR Ef mp lim 32 [.slice p K.length c,.slice p' K.length c'] H Q=Q (.bool true) H:=CallR.eqF (by rw [rsame_ok hs hs' hn];exact ⟨rfl,rfl⟩)
def T10:ACode:=tlC (tlC c10)
theorem c10_cut:c10=.seq (hdC c10) (.seq (hdC (tlC c10)) T10):=rfl
theorem tells_rest [OB] (hA:OB.on 11=true) {c:Nat} {p:Option Addr} {S:List Ev} {item:Int} {H:Heap} {fr:Nat→Value} (hs:Sl H encN 6 p S) (hn2:S.length≤2010) (f0:fr 0=.slice p S.length c) (f1:fr 1=.int .i64 item) :
  Ret Ef a10 H.length [.code T10] fr (H++[]) fun v' _=>v'=.bool true:=by
 rw [show T10=tlC (tlC c10) from rfl,c10]
 have aw:=fun (mp:Bool) (lim:Nat) (H:Heap) (Q:Value→Heap→Prop)=>awake_onF hA (mp:=mp) (lim:=lim) (H:=H) (Q:=Q)
 have eqt:aEq .bool (.bool true) (.bool true)=some true:=rfl
 have eqf:aEq .bool (.bool false) (.bool false)=some true:=rfl
 have w0:IntKind.i64.wrap 0=0:=by decide
 simp only [hdC,tlC,c10,n10,r10,gt_iff_lt,f0,f1,SB,Nat.reduceLT,callee,aOp,ne_eq,Nat.reduceEqDiff,aBin,aUn,if_true,if_false,reduceCtorEq,frame0,place,notTuple,Nat.reduceAdd,Nat.reduceLeDiff,resVal,dite_true,dite_false,Int.reduceEq,Int.reduceLT,Int.reduceLE]
 rw [List.append_nil]
 refine CallR.weak (E':=E) (lent_ok hs hn2 (Nat.le_refl _) fun G1 hR1 hC1=>?_)
 have sI:=(Sl.row (α:=Ev) (enc:=encN) (e:=6) encN_len hR1).pre encN_len
 have hr:=fun (X:Heap) (mp:Bool) (lim:Nat) (Q:Value→Heap→Prop)=>rightL_f (mp:=mp) (lim:=lim) (Q:=Q) (c:=S.length+12) (sI.app X) (by omega)
 by_cases hS:RightL S
 case neg=>
  have hmk:=fun (X:Heap) (lim:Nat) (Q:Value→Heap→Prop)=>Marks_no (lim:=lim) (Q:=Q) (c:=S.length+12) (sI.app X) (by omega) hS
  have hod:=fun (X:Heap) (lim:Nat) (Q:Value→Heap→Prop)=>Order_no (lim:=lim) (Q:=Q) (c:=S.length+12) (sI.app X) (by omega) hS
  have hdb:=fun (X:Heap) (lim:Nat) (Q:Value→Heap→Prop)=>Doubled_no (lim:=lim) (Q:=Q) (c:=S.length+12) (sI.app X) (by omega) hS
  have sG:=hC1.sl hs (fun a _ _ h=>(by cases h))
  have hke:=fun (X:Heap) (mp:Bool) (lim:Nat) (Q:Value→Heap→Prop)=>kept_f (mp:=mp) (lim:=lim) (Q:=Q) (c:=c) (R:=H.length) (sG.app X) hn2 (by rw [hget_old (hget_alive hR1)];exact hR1)
  have hrr:=fun (X:Heap) (mp:Bool) (lim:Nat) (Q:Value→Heap→Prop)=>rright_f (mp:=mp) (lim:=lim) (Q:=Q) (c:=c) (sG.app X) (by omega)
  rw [decide_eq_false hS] at hr hrr
  simp only [hdC,tlC,c10,n10,r10,gt_iff_lt,f0,f1,hr,hmk,hod,hdb,hke,hrr,aw,eqf,Int.add_zero,w0,SB,Nat.reduceLT,callee,aOp,ne_eq,Nat.reduceEqDiff,aBin,aUn,if_true,if_false,reduceCtorEq,frame0,place,notTuple,Nat.reduceAdd,Nat.reduceLeDiff,resVal,dite_true,dite_false,Int.reduceEq,Int.reduceLT,Int.reduceLE]
 have hn3:=hS.1
 rw [decide_eq_true hS] at hr
 simp only [hdC,tlC,c10,n10,r10,gt_iff_lt,f0,f1,hr,SB,Nat.reduceLT,callee,aOp,ne_eq,Nat.reduceEqDiff,aBin,aUn,if_true,if_false,reduceCtorEq,frame0,place,notTuple,Nat.reduceAdd,Nat.reduceLeDiff,resVal,dite_true,dite_false,Int.reduceEq,Int.reduceLT,Int.reduceLE]
 rw [List.append_nil]
 refine Marks_ok sI hS hC1.len fun G2 mp' mc hM cM hC2=>?_
 simp only [hdC,tlC,c10,n10,r10,gt_iff_lt,f0,f1,SB,Nat.reduceLT,callee,aOp,ne_eq,Nat.reduceEqDiff,aBin,aUn,if_true,if_false,reduceCtorEq,frame0,place,notTuple,Nat.reduceAdd,Nat.reduceLeDiff,resVal,dite_true,dite_false,Int.reduceEq,Int.reduceLT,Int.reduceLE]
 rw [List.append_nil]
 have sI2:=hC2.sl sI (fun a _ _ h=>(by cases h))
 refine Order_ok sI2 hS (Nat.le_trans hC1.len hC2.len) fun G3 kp kc hK hC3=>?_
 simp only [hdC,tlC,c10,n10,r10,gt_iff_lt,f0,f1,SB,Nat.reduceLT,callee,aOp,ne_eq,Nat.reduceEqDiff,aBin,aUn,if_true,if_false,reduceCtorEq,frame0,place,notTuple,Nat.reduceAdd,Nat.reduceLeDiff,resVal,dite_true,dite_false,Int.reduceEq,Int.reduceLT,Int.reduceLE]
 rw [List.append_nil]
 have sI3:=hC3.sl sI2 (fun a _ _ h=>(by cases h))
 refine Doubled_ok sI3 hS (Nat.le_trans (Nat.le_trans hC1.len hC2.len) hC3.len) fun G4 tp tc hT hC4=>?_
 have hC24:=(hC2.trans hC3).trans hC4
 have hR4:=hC24.cells hR1 (by simp)
 have hC14:=hC1.trans hC24
 have sG4:=hC14.sl hs (fun a _ _ h=>(by cases h))
 have hke:=fun (X:Heap) (mp:Bool) (lim:Nat) (Q:Value→Heap→Prop)=>kept_f (mp:=mp) (lim:=lim) (Q:=Q) (c:=c) (R:=H.length) (sG4.app X) hn2 (by rw [hget_old (hget_alive hR4)];exact hR4)
 have hrr:=fun (X:Heap) (mp:Bool) (lim:Nat) (Q:Value→Heap→Prop)=>rright_f (mp:=mp) (lim:=lim) (Q:=Q) (c:=c) (sG4.app X) (by omega)
 rw [decide_eq_true hS] at hrr
 simp only [hdC,tlC,c10,n10,r10,gt_iff_lt,f0,f1,hke,hrr,eqt,SB,Nat.reduceLT,callee,aOp,ne_eq,Nat.reduceEqDiff,aBin,aUn,if_true,if_false,reduceCtorEq,frame0,place,notTuple,Nat.reduceAdd,Nat.reduceLeDiff,resVal,dite_true,dite_false,Int.reduceEq,Int.reduceLT,Int.reduceLE]
 rw [List.append_nil]
 have lH4:=hC14.len
 refine CallR.weak (E':=E) (rmarks_ok2 sG4 hS lH4 fun G5 q d hW hC5=>?_)
 have sM5:=((hC3.trans hC4).trans hC5).sl hM (fun a _ _ h=>(by cases h))
 have sW5:=hW.sl encK_len
 have sK5:=(hC4.trans hC5).sl (hK.sl encE_len) (fun a _ _ h=>(by cases h))
 have sT5:=hC5.sl (hT.sl encE_len) (fun a _ _ h=>(by cases h))
 have sG5:=hC5.sl sG4 (fun a _ _ h=>(by cases h))
 have lH5:=hC5.len
 have lM:=gather_len S
 generalize gatherN S=M at *
 clear hr hke hrr hM hW hK hT hR4 hR1 sI sI2 sI3 hC1 hC2 hC3 hC4 hC24 hC14 sG4 hs
 simp only [hdC,tlC,c10,n10,r10,gt_iff_lt,f0,f1,SB,Nat.reduceLT,callee,aOp,ne_eq,Nat.reduceEqDiff,aBin,aUn,if_true,if_false,reduceCtorEq,frame0,place,notTuple,Nat.reduceAdd,Nat.reduceLeDiff,resVal,dite_true,dite_false,Int.reduceEq,Int.reduceLT,Int.reduceLE]
 refine Ret_rounds (fun i=>M.length-i) (fun i fr G=>i≤M.length∧fr 0=.slice p S.length c∧fr 1=.int .i64 item∧fr 7=.slice mp' M.length mc∧fr 9=.slice kp (siftN S).1.length kc∧fr 11=.slice tp (siftN S).2.length tc∧fr 13=.slice q M.length d∧fr 115=.int .i64 (M.length:Int)∧fr 116=.int .i64 (i:Int)∧G=G5) 0
  ⟨Nat.zero_le _,(by simp only [f0,FB,Nat.reduceEqDiff]),(by simp only [f1,FB,Nat.reduceEqDiff]),(by simp only [FB,Nat.reduceEqDiff]),(by simp only [FB,Nat.reduceEqDiff]),(by simp only [FB,Nat.reduceEqDiff]),(by simp only [FB,Nat.reduceEqDiff]),(by simp only [FB,Nat.reduceEqDiff]),by rfl,by simp⟩ ?_
 rintro i fr G ⟨hi,g0,g1,g7,g9,g11,g13,g115,g116,rfl⟩ hN
 rw [Ret_code l10_3.eq_1]
 refine Ret_pad ?_
 by_cases hlt:i<M.length
 ·have ld:=fun X=>(sM5.app X).loadCells encK_len hlt
  have ld':=fun X=>(sW5.app X).loadCells encK_len hlt
  have ix:=fun c (k:IntKind) (H1:Heap)=>sM5.idx (c:=c) (k:=k) (H1:=H1) hlt
  have ix':=fun c (k:IntKind) (H1:Heap)=>sW5.idx (c:=c) (k:=k) (H1:=H1) hlt
  have hw1:IntKind.i64.wrap ((i:Int)+1)=((i+1:Nat):Int):=wrap_nat (by omega)
  simp only [n10,r10,g0,g1,g7,g9,g11,g13,g115,g116,int_lt_cast,hlt,ld,ld',ix,ix',eqK_self,hw1,SB,Nat.reduceLT,callee,aOp,ne_eq,Nat.reduceEqDiff,aBin,aUn,if_true,if_false,reduceCtorEq,frame0,place,notTuple,Nat.reduceAdd,Nat.reduceLeDiff,resVal,dite_true,dite_false,Int.reduceEq,Int.reduceLT,Int.reduceLE]
  exact hN (i+1) _ _ ⟨by omega,(by simp only [g0,FB,Nat.reduceEqDiff]),(by simp only [g1,FB,Nat.reduceEqDiff]),(by simp only [g7,FB,Nat.reduceEqDiff]),(by simp only [g9,FB,Nat.reduceEqDiff]),(by simp only [g11,FB,Nat.reduceEqDiff]),(by simp only [g13,FB,Nat.reduceEqDiff]),(by simp only [g115,FB,Nat.reduceEqDiff]),(by simp only [FB,Nat.reduceEqDiff]),by simp⟩ (by omega)
 obtain rfl:i=M.length:=by omega
 clear hN
 simp only [n10,r10,g0,g1,g7,g9,g11,g13,g115,g116,int_lt_cast,hlt,SB,Nat.reduceLT,callee,aOp,ne_eq,Nat.reduceEqDiff,aBin,aUn,if_true,if_false,reduceCtorEq,frame0,place,notTuple,Nat.reduceAdd,Nat.reduceLeDiff,resVal,dite_true,dite_false,Int.reduceEq,Int.reduceLT,Int.reduceLE]
 rw [List.append_nil]
 refine CallR.weak (E':=E) (parted_ok sG5 hS (by omega) fun G6 ap ac bp bc hP=>?_)
 have lG6:=hP.chg.len
 have sK6:=hP.chg.sl sK5 (fun a _ _ h=>(by cases h))
 have sT6:=hP.chg.sl sT5 (fun a _ _ h=>(by cases h))
 have sA6:=hP.ao.sl encE_len
 have sB6:=hP.bo.sl encE_len
 have lK:(siftN S).1.length+(siftN S).2.length=S.length:=sift_len S
 generalize (siftN S).1=K at *
 generalize (siftN S).2=T at *
 have hs1:=fun (X:Heap) (mp:Bool) (lim:Nat) (Q:Value→Heap→Prop)=>rsame_f (mp:=mp) (lim:=lim) (Q:=Q) (c:=kc) (c':=ac) (sK6.app X) (sA6.app X) (by omega)
 have hs2:=fun (X:Heap) (mp:Bool) (lim:Nat) (Q:Value→Heap→Prop)=>rsame_f (mp:=mp) (lim:=lim) (Q:=Q) (c:=tc) (c':=bc) (sT6.app X) (sB6.app X) (by omega)
 simp only [n10,r10,g0,g1,g7,g9,g11,g13,hs1,hs2,SB,Nat.reduceLT,callee,aOp,ne_eq,Nat.reduceEqDiff,aBin,aUn,if_true,if_false,reduceCtorEq,frame0,place,notTuple,Nat.reduceAdd,Nat.reduceLeDiff,resVal,dite_true,dite_false,Int.reduceEq,Int.reduceLT,Int.reduceLE]
 refine Ret_rounds (S:=Nat×Option Addr×Nat) (fun s=>K.length-s.1) (fun s fr G=>s.1≤K.length∧fr 1=.int .i64 item∧fr 9=.slice kp K.length kc∧fr 15=.slice ap K.length ac∧fr 17=.slice s.2.1 (ofE (K.take s.1) item).length s.2.2∧fr 144=.slice ap K.length ac∧fr 145=.int .i64 (K.length:Int)∧fr 146=.int .i64 (s.1:Int)∧Own G6.length G encE 7 s.2.1 s.2.2 (ofE (K.take s.1) item)∧Chg [] G6 G) (0,none,0)
  ⟨Nat.zero_le _,(by simp only [g1,FB,Nat.reduceEqDiff]),(by simp only [g9,FB,Nat.reduceEqDiff]),(by simp only [FB,Nat.reduceEqDiff]),(by simp only [ofE,List.take_zero,List.filter_nil,List.length_nil,FB,Nat.reduceEqDiff]),(by simp only [FB,Nat.reduceEqDiff]),(by simp only [FB,Nat.reduceEqDiff]),by rfl,.inl ⟨by simp [ofE],rfl,rfl⟩,Chg.refl.app⟩ ?_
 rintro ⟨j,op,oc⟩ fr2 G ⟨hj,k1,k9,k15,k17,k144,k145,k146,hO,hC⟩ hN
 simp only at hj k17 k146 hO
 rw [Ret_code l10_2.eq_1]
 refine Ret_pad ?_
 have lG:=hC.len
 by_cases hjl:j<K.length
 ·have sA:=hC.sl sA6 (fun a _ _ h=>(by cases h))
  have hld:=fun X=>(sA.app X).loadCells encE_len hjl
  have hidx:=fun c (k:IntKind) (H1:Heap)=>sA.idx (c:=c) (k:=k) (H1:=H1) hjl
  have hw1:IntKind.i64.wrap ((j:Int)+1)=((j+1:Nat):Int):=wrap_nat (by omega)
  have hle:(ofE (K.take j) item).length≤j:=by
   unfold ofE
   refine Nat.le_trans (List.length_filter_le ..) ?_
   rw [List.length_take];omega
  have hst:ofE (K.take (j+1)) item=if (item == 0||(gt K j).item == item)=true then ofE (K.take j) item++[gt K j] else ofE (K.take j) item:=by
   unfold ofE
   rw [List.take_succ_eq_append_getElem hjl,List.filter_append,gt_lt hjl]
   by_cases h:(item == 0||K[j].item == item)=true
   ·rw [if_pos h];simp only [List.filter_cons,h,if_true,List.filter_nil]
   ·rw [if_neg h];simp only [List.filter_cons,h,if_false,List.filter_nil,List.append_nil,Bool.false_eq_true]
  generalize gt K j=x at *
  generalize hOO:ofE (K.take j) item=O at *
  have hlG:H.length≤G.length:=by omega
  obtain ⟨G2,e2,own2,hc2,_⟩:=hO.step (lim':=H.length) (bytes:=56) (by omega) encE_len (by decide) x (by unfold maxBytes;omega) (by omega) (by omega) [.cells false (encE x),.cells false (encE x)] (G.length+1) 1 (by rw [hget_new];rfl)
  simp only [List.length_cons,List.length_nil,Nat.zero_add,Nat.reduceAdd] at e2 own2
  by_cases c1:item=0
  ·rw [if_pos (by simp [c1])] at hst
   simp only [n10,r10,k1,k9,k15,k17,k144,k145,k146,int_lt_cast,hjl,hidx,hld,encE_len,encE_0,encE_1,encE_2,encE_3,encE_4,encE_5,encE_6,take_all,setAll_full,hw1,hlG,eq_true c1,e2,SB,Nat.reduceLT,callee,aOp,ne_eq,Nat.reduceEqDiff,aBin,aUn,if_true,if_false,reduceCtorEq,frame0,place,notTuple,Nat.reduceAdd,Nat.reduceLeDiff,resVal,dite_true,dite_false,Int.reduceEq,Int.reduceLT,Int.reduceLE]
   exact hN (j+1,some ⟨G.length+2,0,none⟩,loose 7) _ _ ⟨by simp only;omega,(by simp only [k1,FB,Nat.reduceEqDiff]),(by simp only [k9,FB,Nat.reduceEqDiff]),(by simp only [k15,FB,Nat.reduceEqDiff]),(by simp only [hst,List.length_append,List.length_cons,List.length_nil,Nat.zero_add,FB,Nat.reduceEqDiff]),(by simp only [k144,FB,Nat.reduceEqDiff]),(by simp only [k145,FB,Nat.reduceEqDiff]),(by simp only [FB,Nat.reduceEqDiff]),by simp only;rw [hst];exact own2,hc2 _ _ (Nat.le_refl _) hC⟩ (by simp only;omega)
  by_cases c2:x.item=item
  ·rw [if_pos (by simp [c2])] at hst
   simp only [n10,r10,k1,k9,k15,k17,k144,k145,k146,int_lt_cast,hjl,hidx,hld,encE_len,encE_0,encE_1,encE_2,encE_3,encE_4,encE_5,encE_6,take_all,setAll_full,hw1,hlG,eq_false c1,eq_true c2,e2,SB,Nat.reduceLT,callee,aOp,ne_eq,Nat.reduceEqDiff,aBin,aUn,if_true,if_false,reduceCtorEq,frame0,place,notTuple,Nat.reduceAdd,Nat.reduceLeDiff,resVal,dite_true,dite_false,Int.reduceEq,Int.reduceLT,Int.reduceLE]
   exact hN (j+1,some ⟨G.length+2,0,none⟩,loose 7) _ _ ⟨by simp only;omega,(by simp only [k1,FB,Nat.reduceEqDiff]),(by simp only [k9,FB,Nat.reduceEqDiff]),(by simp only [k15,FB,Nat.reduceEqDiff]),(by simp only [hst,List.length_append,List.length_cons,List.length_nil,Nat.zero_add,FB,Nat.reduceEqDiff]),(by simp only [k144,FB,Nat.reduceEqDiff]),(by simp only [k145,FB,Nat.reduceEqDiff]),(by simp only [FB,Nat.reduceEqDiff]),by simp only;rw [hst];exact own2,hc2 _ _ (Nat.le_refl _) hC⟩ (by simp only;omega)
  ·rw [if_neg (by simp [c1,c2])] at hst
   simp only [n10,r10,k1,k9,k15,k17,k144,k145,k146,int_lt_cast,hjl,hidx,hld,encE_len,encE_0,encE_1,encE_2,encE_3,encE_4,encE_5,encE_6,take_all,setAll_full,hw1,hlG,eq_false c1,eq_false c2,SB,Nat.reduceLT,callee,aOp,ne_eq,Nat.reduceEqDiff,aBin,aUn,if_true,if_false,reduceCtorEq,frame0,place,notTuple,Nat.reduceAdd,Nat.reduceLeDiff,resVal,dite_true,dite_false,Int.reduceEq,Int.reduceLT,Int.reduceLE]
   exact hN (j+1,op,oc) _ _ ⟨by simp only;omega,(by simp only [k1,FB,Nat.reduceEqDiff]),(by simp only [k9,FB,Nat.reduceEqDiff]),(by simp only [k15,FB,Nat.reduceEqDiff]),(by simp only [k17,hst,FB,Nat.reduceEqDiff]),(by simp only [k144,FB,Nat.reduceEqDiff]),(by simp only [k145,FB,Nat.reduceEqDiff]),(by simp only [FB,Nat.reduceEqDiff]),by simp only;rw [hst];exact hO.app _,hC.app⟩ (by simp only;omega)
 obtain rfl:j=K.length:=by omega
 clear hN
 rw [List.take_length] at k17 hO
 have sO:=hO.sl encE_len
 have sK7:=hC.sl sK6 (fun a _ _ h=>(by cases h))
 have sA7:=hC.sl sA6 (fun a _ _ h=>(by cases h))
 have lOf:(ofE K item).length≤K.length:=List.length_filter_le ..
 simp only [n10,r10,k1,k9,k15,k17,k144,k145,k146,int_lt_cast,hjl,SB,Nat.reduceLT,callee,aOp,ne_eq,Nat.reduceEqDiff,aBin,aUn,if_true,if_false,reduceCtorEq,frame0,place,notTuple,Nat.reduceAdd,Nat.reduceLeDiff,resVal,dite_true,dite_false,Int.reduceEq,Int.reduceLT,Int.reduceLE]
 rw [List.append_nil]
 refine CallR.weak (E':=E) (ofE_ok sK7 (by omega) (by omega) fun G8 z hF hC8=>?_)
 have lG8:=hget_alive hF
 have lOe:((ofE K item).flatMap encE).length=(ofE K item).length*7:=flat_len encE_len _
 have sF:Sl G8 encE 7 (some ⟨G.length,0,none⟩) (ofE K item):=⟨rfl,fun _=>⟨false,_,hF,by rw [List.length_append];simp only;omega,by rw [List.drop_zero,←lOe,List.take_left]⟩⟩
 have sO8:=hC8.sl sO (fun a _ _ h=>(by cases h))
 have sK8:=hC8.sl sK7 (fun a _ _ h=>(by cases h))
 have sA8:=hC8.sl sA7 (fun a _ _ h=>(by cases h))
 have hs3:=fun (X:Heap) (mp:Bool) (lim:Nat) (Q:Value→Heap→Prop)=>rsame_f (mp:=mp) (lim:=lim) (Q:=Q) (c:=K.length) (c':=oc) (sF.app X) (sO8.app X) (by omega)
 generalize ofE K item=O at *
 simp only [n10,r10,k1,k9,k15,k17,hs3,SB,Nat.reduceLT,callee,aOp,ne_eq,Nat.reduceEqDiff,aBin,aUn,if_true,if_false,reduceCtorEq,frame0,place,notTuple,Nat.reduceAdd,Nat.reduceLeDiff,resVal,dite_true,dite_false,Int.reduceEq,Int.reduceLT,Int.reduceLE]
 refine Ret_rounds (fun i=>O.length-i) (fun i fr Gx=>i≤O.length∧fr 9=.slice kp K.length kc∧fr 15=.slice ap K.length ac∧fr 20=.slice (some ⟨G.length,0,none⟩) O.length K.length∧fr 172=.int .i64 (O.length:Int)∧fr 173=.int .i64 (i:Int)∧(∃cs,hget Gx G.length=.cells false cs∧O.length*7≤cs.length)∧Chg [] G Gx) 0
  ⟨Nat.zero_le _,(by simp only [k9,FB,Nat.reduceEqDiff]),(by simp only [k15,FB,Nat.reduceEqDiff]),(by simp only [FB,Nat.reduceEqDiff]),(by simp only [FB,Nat.reduceEqDiff]),by rfl,⟨_,by rw [hget_old lG8];exact hF,by rw [List.length_append];omega⟩,hC8.app⟩ ?_
 rintro i fr3 Gx ⟨hi,m9,m15,m20,m172,m173,⟨cs,hcs,hcl⟩,hCx⟩ hN
 rw [Ret_code l10_1.eq_1]
 refine Ret_pad ?_
 have lGx:=hCx.len
 by_cases hil:i<O.length
 ·have hw1:IntKind.i64.wrap ((i:Int)+1)=((i+1:Nat):Int):=wrap_nat (by omega)
  obtain ⟨G9,e9,h9,m9'⟩:=st_at (lim:=H.length) hcs (by omega) (f:=i*7+6) (.int .i64 (-1)) (by omega)
  have hix:∀(c:Nat) (kk:IntKind) (H1:Heap),idxK 7 (.slice (some ⟨G.length,0,none⟩) O.length c) (.int kk (i:Int)) H1=some (.pointer (some ⟨G.length,i*7,none⟩),H1):=fun c kk H1=>by
   rw [idxK_nat hil,addr_add,Nat.zero_add]
  simp only [n10,r10,m9,m15,m20,m172,m173,int_lt_cast,hil,hix,e9,hw1,SB,Nat.reduceLT,callee,aOp,ne_eq,Nat.reduceEqDiff,aBin,aUn,if_true,if_false,reduceCtorEq,frame0,place,notTuple,Nat.reduceAdd,Nat.reduceLeDiff,resVal,dite_true,dite_false,Int.reduceEq,Int.reduceLT,Int.reduceLE]
  refine hN (i+1) _ _ ⟨by omega,(by simp only [m9,FB,Nat.reduceEqDiff]),(by simp only [m15,FB,Nat.reduceEqDiff]),(by simp only [m20,FB,Nat.reduceEqDiff]),(by simp only [m172,FB,Nat.reduceEqDiff]),(by simp only [FB,Nat.reduceEqDiff]),⟨_,by rw [List.append_nil];exact h9, ?_⟩,(hCx.mut m9' (.inr (Nat.le_refl _))).app⟩ (by omega)
  simp only [setAll_cons,setAll_nil,List.length_set]
  exact hcl
 ·obtain rfl:i=O.length:=by omega
  have sK9:=hCx.sl sK7 (fun a _ _ h=>(by cases h))
  have sA9:=hCx.sl sA7 (fun a _ _ h=>(by cases h))
  have hs4:=fun (X:Heap) (mp:Bool) (lim:Nat) (Q:Value→Heap→Prop)=>rsame_f (mp:=mp) (lim:=lim) (Q:=Q) (c:=kc) (c':=ac) (sK9.app X) (sA9.app X) (by omega)
  simp only [n10,r10,m9,m15,m20,m172,m173,int_lt_cast,hil,hs4,aw,SB,Nat.reduceLT,callee,aOp,ne_eq,Nat.reduceEqDiff,aBin,aUn,if_true,if_false,reduceCtorEq,frame0,place,notTuple,Nat.reduceAdd,Nat.reduceLeDiff,resVal,dite_true,dite_false,Int.reduceEq,Int.reduceLT,Int.reduceLE]
theorem ScanTells_ok [OB] (hA:OB.on 11=true) {mp:Bool} {lim c:Nat} {p:Option Addr} {S:List Ev} {item:Int} {H:Heap} {Q:Value→Heap→Prop} (hs:Sl H encN 6 p S) :
  CallR Ef mp lim 10 [.slice p S.length c,.int .i64 item] H Q=Q (.bool true) H:=by
 refine pcF (by decide) e10 rfl rfl ?_
 rw [b10,c10_cut]
 have aw:=fun (mp:Bool) (lim:Nat) (H:Heap) (Q:Value→Heap→Prop)=>awake_onF hA (mp:=mp) (lim:=lim) (H:=H) (Q:=Q)
 by_cases h1:60<S.length∧S.length≤2000
 ·have c1:(60:Int)<(S.length:Int):=by omega
  have c2:(S.length:Int)≤2000:=by omega
  simp only [hdC,tlC,c10,n10,r10,gt_iff_lt,eq_true c1,eq_true c2,aw,SB,Nat.reduceLT,callee,aOp,ne_eq,Nat.reduceEqDiff,aBin,aUn,if_true,if_false,reduceCtorEq,frame0,place,notTuple,Nat.reduceAdd,Nat.reduceLeDiff,resVal,dite_true,dite_false,Int.reduceEq,Int.reduceLT,Int.reduceLE]
 by_cases h2:2010<S.length
 ·have c1:(60:Int)<(S.length:Int):=by omega
  have c2:¬(S.length:Int)≤2000:=by omega
  have c3:(2010:Int)<(S.length:Int):=by omega
  simp only [hdC,tlC,c10,n10,r10,gt_iff_lt,eq_true c1,eq_false c2,eq_true c3,aw,SB,Nat.reduceLT,callee,aOp,ne_eq,Nat.reduceEqDiff,aBin,aUn,if_true,if_false,reduceCtorEq,frame0,place,notTuple,Nat.reduceAdd,Nat.reduceLeDiff,resVal,dite_true,dite_false,Int.reduceEq,Int.reduceLT,Int.reduceLE]
 have hn2:S.length≤2010:=by omega
 have c3:¬(2010:Int)<(S.length:Int):=by omega
 by_cases h3:60<S.length
 ·have c1:(60:Int)<(S.length:Int):=by omega
  have c2:¬(S.length:Int)≤2000:=by omega
  simp only [hdC,tlC,c10,n10,r10,gt_iff_lt,eq_true c1,eq_false c2,eq_false c3,SB,Nat.reduceLT,callee,aOp,ne_eq,Nat.reduceEqDiff,aBin,aUn,if_true,if_false,reduceCtorEq,frame0,place,notTuple,Nat.reduceAdd,Nat.reduceLeDiff,resVal,dite_true,dite_false,Int.reduceEq,Int.reduceLT,Int.reduceLE]
  exact tells_rest (c:=c) (item:=item) hA hs hn2 (by simp only [FB,Nat.reduceEqDiff]) (by simp only [FB,Nat.reduceEqDiff])
 ·have c1:¬(60:Int)<(S.length:Int):=by omega
  simp only [hdC,tlC,c10,n10,r10,gt_iff_lt,eq_false c1,eq_false c3,SB,Nat.reduceLT,callee,aOp,ne_eq,Nat.reduceEqDiff,aBin,aUn,if_true,if_false,reduceCtorEq,frame0,place,notTuple,Nat.reduceAdd,Nat.reduceLeDiff,resVal,dite_true,dite_false,Int.reduceEq,Int.reduceLT,Int.reduceLE]
  exact tells_rest (c:=c) (item:=item) hA hs hn2 (by simp only [FB,Nat.reduceEqDiff]) (by simp only [FB,Nat.reduceEqDiff])
end Go.Proofs.Ytkppjkkkdpcgiaa.Fn

